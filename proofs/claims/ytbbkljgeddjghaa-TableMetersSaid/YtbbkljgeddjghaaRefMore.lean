/-
  What is proved: walks of the document's answer for chapter 7: Clear, New, Seek.
-/
import Derived.Test.YtbbkljgeddjghaaRefOps
namespace Go.Proofs.Ytbbkljgeddjghaa
open Go.RowKit Go.Lx Go.Shelf
set_option linter.unusedVariables false
set_option linter.unusedSimpArgs false

set_option maxRecDepth 100000 in
set_option maxHeartbeats 1000000 in
theorem clear7_any (m : Option Nat) (C : Cnt) (b : Nat) (ev cv : Value) (T : Tab) (w : World) (h : RefAt w m b ev cv T) (hm : RMt w m C) (hmade : T.made ≤ 100000) (hturn : T.turn ≤ 100000) :
    Calls Try.prog 95 #[.pointer (some ⟨b, 0, none⟩)] w fun e w' => e = .returned (.tuple #[]) ∧ ∃ ev' cv', RefAt w' m b ev' cv' T.clear ∧ (∀ x, rown b ev' cv' x → x = b ∨ w.heap.size ≤ x) ∧ RMt w' m C.table ∧ Kept (fun x => x = b ∨ m = some x) w w' := by
  have c0 : w.cell? ⟨b, 0, none⟩ = some ev := h.head.cell 0
  have c3 : w.cell? ⟨b, 3, none⟩ = some (.int .i64 T.live) := h.head.cell 3
  have c6 : w.cell? ⟨b, 6, none⟩ = some (.int .i64 T.turn) := h.head.cell 6
  have f0 := h.head.frozen 0
  have f3 := h.head.frozen 3
  have f6 := h.head.frozen 6
  have hb2 := ((h.head.set 0 (.slice none 0 0)).set 3 (.int .i64 0)).set 6 (.int .i64 ((T.turn : Int) + 1))
  have hmb : m ≠ some b := by
    rintro rfl
    exact Blk.ne (c := [.int .i64 C.tables, .int .i64 C.cells, .int .i64 C.values, .int .i64 C.shifts]) hm h.head (by decide) rfl
  have hk2 : Kept (fun x => x = b) w (((w.setCell ⟨b, 0, none⟩ (.slice none 0 0)).setCell ⟨b, 3, none⟩ (.int .i64 0)).setCell ⟨b, 6, none⟩ (.int .i64 ((T.turn : Int) + 1))) :=
    (((Kept.refl (fun x => x = b) w).setCell (p := ⟨b, 0, none⟩) (.inl rfl) _).setCell (p := ⟨b, 3, none⟩) (.inl rfl) _).setCell (p := ⟨b, 6, none⟩) (.inl rfl) _
  have hm2 := hm.kept hk2 (fun x hx e => hmb (by rw [hx, e]))
  have hidx := index7_any m C b 3 _ _ _ _ _ _ _ _ (by omega) (by omega) hm2 (by omega) hb2
  have HK := hid hk2
  have hsz := hk2.size
  have hbl := h.head.lt
  clear h hm hb2 hk2 hm2
  go_enter Try.func95, Try.ntmps95
  go_wp2_with (go_at_call 88; refine hidx.mono ?_; clear hidx; rintro e w1 ⟨rfl, g, hg, hb1, hrow, hm1, hk1⟩)
  go_end0
  refine ⟨rfl, .slice none 0 0, .slice (some ⟨g, 0, none⟩) (2 ^ 3) (2 ^ 3), ⟨?_, Row.nil _ _ _, ?_⟩, ?_, hm1, (HK.out.mono (R' := fun x => x = b ∨ m = some x) (fun _ _ h => .inl h)).trans hk1 (fun _ _ h => h)⟩
  · have := hb1
    simpa [Tab.clear] using this
  · show Row _ _ _ _ (blankC 3).length ((blankC 3).map (Value.int .i64))
    exact hrow
  · rintro x (e | e | e)
    · exact .inl e
    · cases e
    · have e : g = x := by simpa [Value.ownBlock] using e
      exact .inr (by omega)

set_option maxRecDepth 100000 in
set_option maxHeartbeats 1000000 in
theorem new7_any (m : Option Nat) (C : Cnt) (w : World) (hm : RMt w m C) :
    Calls Try.prog 46 #[mptr m] w fun e w' => ∃ b ev cv, e = .returned (.pointer (some ⟨b, 0, none⟩)) ∧ RefAt w' m b ev cv Tab.new ∧ (∀ x, rown b ev cv x → w.heap.size ≤ x) ∧ RMt w' m C.table ∧ Kept (fun x => m = some x) w w' := by
  obtain ⟨pm, hpm⟩ : ∃ pm, mptr m = .pointer pm := ⟨_, rfl⟩
  have hB := Blk.new w 85 [.slice none 0 0, .int .i64 0, .slice none 0 0, .int .i64 0, .int .i64 0, .int .i64 0, .int .i64 0, mptr m]
  have hml : ∀ x, m = some x → x < w.heap.size := fun x hx => by subst hx; exact hm.lt
  have hm1 := hm.kept ((Kept.refl Nil w).alloc (.cells #[.slice none 0 0, .int .i64 0, .slice none 0 0, .int .i64 0, .int .i64 0, .int .i64 0, .int .i64 0, mptr m] 85)) (fun _ _ => id)
  have hk1 : Kept (fun x => m = some x) w (w.alloc (.cells #[.slice none 0 0, .int .i64 0, .slice none 0 0, .int .i64 0, .int .i64 0, .int .i64 0, .int .i64 0, mptr m] 85)) := (Kept.refl _ w).alloc _
  have hidx := index7_any m C w.heap.size 3 _ _ _ _ _ _ _ _ (by omega) (by omega) hm1 (by omega) hB
  rw [hpm] at hidx hk1 ⊢
  have HK := hid hk1
  have HML := hid hml
  have hsz := hk1.size
  clear hB hm1 hk1 hml hm
  go_enter Try.func46, Try.ntmps46
  go_wp2_with (go_at_call 88; refine hidx.mono ?_; clear hidx; rintro e w1 ⟨rfl, g, hg, hb1, hrow, hm1, hk1⟩)
  go_ret
  refine ⟨w.heap.size, .slice none 0 0, .slice (some ⟨g, 0, none⟩) (2 ^ 3) (2 ^ 3), rfl, ⟨?_, Row.nil _ _ _, ?_⟩, ?_, hm1, HK.out.trans hk1 (fun x hx e => e.elim (fun e => by omega) id)⟩
  · rw [hpm]
    simpa [Tab.new] using hb1
  · show Row _ _ _ _ (blankC 3).length ((blankC 3).map (Value.int .i64))
    exact hrow
  · rintro x (e | e | e)
    · omega
    · cases e
    · have e : g = x := by simpa [Value.ownBlock] using e
      omega

/-- The reference's Seeker. -/
def RSeekAt (w : World) (s b log : Nat) (hash : Int) (i : Nat) (turn visited last : Int) (over : Bool) : Prop :=
  Blk w s 162 [.pointer (some ⟨b, 0, none⟩), .int .i64 hash, .int .i64 turn, .int .i64 (tc log hash i : Nat), .int .u64 (tq hash i : Nat), .bool over, .int .i64 visited, .int .i64 last]

set_option maxRecDepth 100000 in
set_option maxHeartbeats 1000000 in
theorem seek7_any (m : Option Nat) (b : Nat) (ev cv : Value) (T : Tab) (hash : Int) (w : World) (h : RefAt w m b ev cv T) (h15 : T.log ≤ 15) :
    Calls Try.prog 96 #[.pointer (some ⟨b, 0, none⟩), .int .i64 hash] w fun e w' => ∃ s, e = .returned (.pointer (some ⟨s, 0, none⟩)) ∧ w.heap.size ≤ s ∧ RSeekAt w' s b T.log hash 0 T.turn 0 (-1) false ∧ Kept Nil w w' := by
  have c1 : w.cell? ⟨b, 1, none⟩ = some (.int .i64 T.log) := h.head.cell 1
  have c6 : w.cell? ⟨b, 6, none⟩ = some (.int .i64 T.turn) := h.head.cell 6
  have hf := first5_any hash T.log w.drew h15
  have e2 := u64_eq hash
  have hu : ((u64 hash : Nat) : Int) = ((tq hash 0 : Nat) : Int) := by simp [tq]
  rw [hu] at e2
  unfold RSeekAt
  obtain ⟨ce, hce⟩ : ∃ ce, ce = tc T.log hash 0 := ⟨_, rfl⟩
  obtain ⟨u, hue⟩ : ∃ u, u = tq hash 0 := ⟨_, rfl⟩
  rw [← hce] at hf ⊢
  rw [← hue] at e2 ⊢
  clear h hu hce hue
  go_enter Try.func96, Try.ntmps96
  go_wp2_with fail
  go_still_tail 16, (by kernel_rfl)
  still_call (hf.mono fun e w' ⟨h1, h2⟩ => ⟨h1, h2.symm⟩)
  repeat still_step
  try refine wpStill_nil ?_
  change wpList _ _ _ _ _ w.drew
  go_wp2
  go_ret
  refine ⟨_, rfl, Nat.le_refl _, ?_, ((Kept.refl Nil w).alloc _).drew⟩
  exact (Blk.new w 162 _).drew

end Go.Proofs.Ytbbkljgeddjghaa
