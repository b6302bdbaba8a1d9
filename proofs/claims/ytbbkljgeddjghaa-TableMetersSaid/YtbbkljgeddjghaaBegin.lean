/-
  What is proved: walks of package table: begin, New, Clear.
-/
import Derived.Test.YtbbkljgeddjghaaDrop
namespace Go.Proofs.Ytbbkljgeddjghaa
open Go.RowKit Go.Lx Go.Shelf
set_option linter.unusedVariables false

theorem begin_there (t : Nat) (a : Addr) (w : World) (h : w.cell? ⟨t, 2, none⟩ = some (.pointer (some a))) :
    Calls Try.prog 74 #[.pointer (some ⟨t, 0, none⟩)] w fun e w' => e = .returned (.tuple #[]) ∧ w = w' := by
  go_enter Try.func74, Try.ntmps74
  go_wp2
  go_end0
  exact ⟨rfl, rfl⟩

/-- What a table's blocks are, that was made behind w. -/
structure Fresh (w : World) (t c r : Nat) (sv : Value) : Prop where
  c : w.heap.size ≤ c
  r : w.heap.size ≤ r

theorem new_tab (m : Option Nat) (t c r made : Nat) (T : Tab) (w : World) (hb : Blk w t 146 [mptr m, .slice none 0 0, .pointer (some ⟨c, 0, none⟩), .int .i64 (T.live : Nat), .int .i64 (T.births : Nat), .int .i64 (made + 1 : Nat), .int .i64 (T.turn : Nat)]) (hc : CellsAt w c r 3 (blankC 3)) :
    TabAt w m t c r (.slice none 0 0) { ents := [], cells := blankC 3, log := 3, live := T.live, births := T.births, made := made + 1, turn := T.turn } :=
  ⟨hb, hc, Row.nil _ _ _, Nat.zero_le _⟩

set_option maxHeartbeats 1000000 in
theorem begin_zero (t : Nat) (w : World) (h : Blk w t 146 [mptr none, .slice none 0 0, .pointer none, .int .i64 0, .int .i64 0, .int .i64 0, .int .i64 0]) :
    Calls Try.prog 74 #[.pointer (some ⟨t, 0, none⟩)] w fun e w' => e = .returned (.tuple #[]) ∧ ∃ c r, w.heap.size ≤ c ∧ w.heap.size ≤ r ∧ TabAt w' none t c r (.slice none 0 0) Tab.new ∧ Kept (fun b => b = t) w w' := by
  have hx := index_any none ⟨0, 0, 0, 0⟩ t 3 _ _ _ _ _ _ w (by omega) (by omega) trivial (by omega) h
  have hc2 : w.cell? ⟨t, 2, none⟩ = some (.pointer none) := h.cell 2
  clear h
  go_enter Try.func74, Try.ntmps74
  go_wp2_with (go_at_call 78; refine hx.mono ?_; clear hx; rintro e w1 ⟨rfl, c, r, h1, h2, hb, hc, -, hk⟩)
  go_end0
  exact ⟨rfl, c, r, h1, h2, ⟨hb, hc, Row.nil _ _ _, Nat.zero_le _⟩, hk.mono fun b _ h => by rcases h with h | h; exact h; cases h⟩

set_option maxHeartbeats 1000000 in
theorem tabNew_any (m : Option Nat) (C : Cnt) (w : World) (hm : Mt w m C) :
    Calls Try.prog 72 #[mptr m] w fun e w' => ∃ t c r, e = .returned (.pointer (some ⟨t, 0, none⟩)) ∧ w.heap.size ≤ t ∧ w.heap.size ≤ c ∧ w.heap.size ≤ r ∧ TabAt w' m t c r (.slice none 0 0) Tab.new ∧ Mt w' m C.table ∧ Kept (Mr m) w w' := by
  have hx := fun (w1 : World) hm h => index_any m C w.heap.size 3 (.slice none 0 0) (.pointer none) 0 0 0 0 w1 (by omega) (by omega) hm (by omega) h
  obtain ⟨pm, hpm⟩ : ∃ pm, mptr m = .pointer pm := ⟨_, rfl⟩
  have hmW := hm.kept ((Kept.refl Nil w).alloc (.cells #[.pointer pm, .slice none 0 0, .pointer none, .int .i64 0, .int .i64 0, .int .i64 0, .int .i64 0] 146)) (fun _ _ => id)
  have hbW := Blk.new w 146 [.pointer pm, .slice none 0 0, .pointer none, .int .i64 0, .int .i64 0, .int .i64 0, .int .i64 0]
  have hkW := (Kept.refl (Mr m) w).alloc (.cells #[.pointer pm, .slice none 0 0, .pointer none, .int .i64 0, .int .i64 0, .int .i64 0, .int .i64 0] 146)
  have hmlt : ∀ k, m = some k → k < w.heap.size := fun k hk => by subst hk; exact Blk.lt (c := [.int .i64 C.tables, .int .i64 C.cells, .int .i64 C.values, .int .i64 C.shifts]) hm
  replace hx := hx _ hmW (by rw [hpm]; exact hbW)
  have hsz := hkW.size
  rw [hpm]
  have HW := hid hkW
  clear hmW hbW hm hkW
  go_enter Try.func72, Try.ntmps72
  go_wp2_with (go_at_call 78; refine hx.mono ?_; clear hx; rintro e w1 ⟨rfl, c, r, h1, h2, hb, hc, hm, hk⟩)
  go_ret
  exact ⟨_, c, r, rfl, Nat.le_refl _, by omega, by omega, ⟨hb, hc, Row.nil _ _ _, Nat.zero_le _⟩, hm, HW.out.trans hk fun b hb h => by rcases h with h | h; omega; exact h⟩

set_option maxHeartbeats 1000000 in
theorem clear_any (m : Option Nat) (C : Cnt) (t c r : Nat) (sv : Value) (T : Tab) (w : World) (h : TabAt w m t c r sv T) (hm : Mt w m C) (hmade : T.made ≤ 100000) (hturn : T.turn ≤ 100000) :
    Calls Try.prog 43 #[.pointer (some ⟨t, 0, none⟩)] w fun e w' => e = .returned (.tuple #[]) ∧ ∃ c' r', w.heap.size ≤ c' ∧ w.heap.size ≤ r' ∧ TabAt w' m t c' r' (.slice none 0 0) T.clear ∧ Mt w' m C.table ∧ Kept (fun b => b = t ∨ m = some b) w w' := by
  have hc2 : w.cell? ⟨t, 2, none⟩ = some (.pointer (some ⟨c, 0, none⟩)) := h.head.cell 2
  have hbeg := begin_there t _ w hc2
  have hb := h.head
  have hc1 : w.cell? ⟨t, 1, none⟩ = some sv := hb.cell 1
  have hc3 : w.cell? ⟨t, 3, none⟩ = some (.int .i64 T.live) := hb.cell 3
  have f1 := hb.frozen 1
  have f3 := hb.frozen 3
  have hmt : ∀ k, m = some k → k ≠ t := fun k hk => by subst hk; exact Blk.ne (c := [.int .i64 C.tables, .int .i64 C.cells, .int .i64 C.values, .int .i64 C.shifts]) hm hb (by decide)
  have hb2 := (hb.set 1 (.slice none 0 0)).set 3 (.int .i64 0)
  have hk2 : Kept (fun b => b = t) w ((w.setCell ⟨t, 1, none⟩ (.slice none 0 0)).setCell ⟨t, 3, none⟩ (.int .i64 0)) := ((Kept.refl (fun b => b = t) w).setCell (p := ⟨t, 1, none⟩) (.inl rfl) _).setCell (p := ⟨t, 3, none⟩) (.inl rfl) _
  have hx := index_any m C t 3 (.slice none 0 0) (.pointer (some ⟨c, 0, none⟩)) 0 T.births T.made T.turn _ (by omega) (by omega) (hm.kept hk2 hmt) (by omega) hb2
  have HK := hid hk2
  have hsz := hk2.size
  clear h hm hb2 hk2 hb
  go_enter Try.func43, Try.ntmps43
  go_wp2_with (first | (go_at_call 74; refine hbeg.mono ?_; clear hbeg; rintro e w1 ⟨rfl, rfl⟩) | (go_at_call 78; refine hx.mono ?_; clear hx; rintro e w1 ⟨rfl, c', r', h1, h2, hb, hc, hm, hk⟩; have d6 : w1.cell? ⟨t, 6, none⟩ = some (.int .i64 T.turn) := hb.cell 6; have f6 := hb.frozen 6))
  go_end0
  refine ⟨rfl, c', r', by omega, by omega, ?_, ?_, ?_⟩
  · refine ⟨?_, ?_, Row.nil _ _ _, Nat.zero_le _⟩
    · have := hb.set 6 (.int .i64 (T.turn + 1))
      simpa [Tab.clear] using this
    · exact hc.kept ((Kept.refl (fun b => b = t) _).setCell (p := ⟨t, 6, none⟩) (.inl rfl) _) (Blk.ne hb hc.head (by decide)).symm (Blk.ne hb hc.row (by decide)).symm
  · exact hm.kept ((Kept.refl (fun b => b = t) _).setCell (p := ⟨t, 6, none⟩) (.inl rfl) _) hmt
  · exact (HK.out.mono (R' := fun b => b = t ∨ m = some b) (fun _ _ h => .inl h)).trans (hk.setCell (p := ⟨t, 6, none⟩) (.inl (.inl rfl)) _) (fun _ _ h => h)

end Go.Proofs.Ytbbkljgeddjghaa
