/-
  What is proved: walks of package table, first part: what needs no iterator.
-/
import Derived.Test.YtbbkljgeddjghaaMeter
import Derived.Test.YtbbkljgeddjghaaCellsAll
namespace Go.Proofs.Ytbbkljgeddjghaa
open Go.RowKit Go.Lx
set_option linter.unusedVariables false

/-- The table at block t (its Meter m, its cells at c with their row at r, its entries sv) is T. -/
structure TabAt (w : World) (m : Option Nat) (t c r : Nat) (sv : Value) (T : Tab) : Prop where
  head : Blk w t 146 [mptr m, sv, .pointer (some ⟨c, 0, none⟩), .int .i64 T.live, .int .i64 T.births, .int .i64 T.made, .int .i64 T.turn]
  cells : CellsAt w c r T.log T.cells
  ents : Row w 32 5 sv T.ents.length (flat T.ents)
  fits : T.ents.length ≤ room T.log

theorem TabAt.tc {w : World} {m : Option Nat} {t c r : Nat} {sv : Value} {T : Tab} (h : TabAt w m t c r sv T) : t ≠ c := h.head.ne h.cells.head (by decide)
theorem TabAt.tr {w : World} {m : Option Nat} {t c r : Nat} {sv : Value} {T : Tab} (h : TabAt w m t c r sv T) : t ≠ r := h.head.ne h.cells.row (by unfold rowElem; split <;> decide)
theorem Row.blk {w : World} {E : TypeId} {m n : Nat} {sv : Value} {xs : List Value} (h : Row w E m sv n xs) {g : Nat} (hg : sv.ownBlock = some g) : ∃ cur, Blk w g E cur := by
  rcases h.2 with ⟨rfl, _⟩ | ⟨g', cap, cur, rfl, _, hgg, _⟩
  · simp [Value.ownBlock] at hg
  · simp [Value.ownBlock] at hg; subst hg; exact ⟨cur.toList, by unfold Blk; simpa using hgg⟩
theorem TabAt.te {w : World} {m : Option Nat} {t c r : Nat} {sv : Value} {T : Tab} (h : TabAt w m t c r sv T) {g : Nat} (hg : sv.ownBlock = some g) : g ≠ t := by
  obtain ⟨cur, hb⟩ := Row.blk h.ents hg; exact hb.ne h.head (by decide)
theorem TabAt.ce {w : World} {m : Option Nat} {t c r : Nat} {sv : Value} {T : Tab} (h : TabAt w m t c r sv T) {g : Nat} (hg : sv.ownBlock = some g) : g ≠ c := by
  obtain ⟨cur, hb⟩ := Row.blk h.ents hg; exact hb.ne h.cells.head (by decide)
theorem TabAt.re {w : World} {m : Option Nat} {t c r : Nat} {sv : Value} {T : Tab} (h : TabAt w m t c r sv T) {g : Nat} (hg : sv.ownBlock = some g) : g ≠ r := by
  obtain ⟨cur, hb⟩ := Row.blk h.ents hg; exact hb.ne h.cells.row (by unfold rowElem; split <;> decide)
theorem TabAt.kept {R : Nat → Prop} {w w' : World} {m : Option Nat} {t c r : Nat} {sv : Value} {T : Tab} (h : TabAt w m t c r sv T) (hk : Kept R w w') (ht : ¬ R t) (hc : ¬ R c) (hr : ¬ R r) (he : ∀ g, sv.ownBlock = some g → ¬ R g) : TabAt w' m t c r sv T :=
  ⟨h.head.kept hk ht, h.cells.kept hk hc hr, h.ents.kept hk he, h.fits⟩
/-- An entry's cells. -/
theorem TabAt.ent {w : World} {m : Option Nat} {t c r : Nat} {sv : Value} {T : Tab} (h : TabAt w m t c r sv T) {i : Nat} {x : Ent} (hx : T.ents[i]? = some x) :
    ∃ g cap, sv = .slice (some ⟨g, 0, none⟩) T.ents.length cap ∧ T.ents.length ≤ cap ∧ cap ≤ maxLen ∧ (∀ k v, x.vals[k]? = some v → w.cell? ⟨g, i * 5 + k, none⟩ = some v) ∧ (∀ j, w.frozen? ⟨g, j, none⟩ = false) := by
  have hi : i < T.ents.length := (List.getElem?_eq_some_iff.1 hx).1
  rcases h.ents.form with ⟨_, h0, _⟩ | ⟨g, cap, hs, h1, h2⟩
  · omega
  · refine ⟨g, cap, hs, h1, h2, fun k v hv => ?_, fun j => ?_⟩
    · have hk : k < 5 := by have := (List.getElem?_eq_some_iff.1 hv).1; simpa [Ent.vals] using this
      exact h.ents.cell (g := g) (by rw [hs]; rfl) (by rw [flat_get _ _ _ _ hx hk]; exact hv)
    · exact h.ents.frozen (g := g) (by rw [hs]; rfl) j

/-- The table's own blocks. -/
def own (t c r : Nat) (sv : Value) : Nat → Prop := fun b => b = t ∨ b = c ∨ b = r ∨ sv.ownBlock = some b
theorem TabAt.lt {w : World} {m : Option Nat} {t c r : Nat} {sv : Value} {T : Tab} (h : TabAt w m t c r sv T) : ∀ b, own t c r sv b → b < w.heap.size := by
  rintro b (rfl | rfl | rfl | hb)
  · exact h.head.lt
  · exact h.cells.head.lt
  · exact h.cells.row.lt
  · exact h.ents.lt hb
theorem TabAt.kept' {R : Nat → Prop} {w w' : World} {m : Option Nat} {t c r : Nat} {sv : Value} {T : Tab} (h : TabAt w m t c r sv T) (hk : Kept R w w') (hR : ∀ b, own t c r sv b → ¬ R b) : TabAt w' m t c r sv T :=
  h.kept hk (hR _ (.inl rfl)) (hR _ (.inr (.inl rfl))) (hR _ (.inr (.inr (.inl rfl)))) (fun g hg => hR g (.inr (.inr (.inr hg))))

set_option maxHeartbeats 400000 in
theorem wrong_nil (i : Int) (w : World) :
    Calls Try.prog 86 #[.pointer none, .int .i64 i] w fun e w' => e = .returned (.int .i64 1) ∧ w = w' := by
  go_enter Try.func86, Try.ntmps86
  go_wp2
  go_ret
  exact ⟨rfl, rfl⟩

set_option maxHeartbeats 400000 in
theorem wrong_hit (t g n cap i : Nat) (w : World) (hi : i < n) (h1 : w.cell? ⟨t, 1, none⟩ = some (.slice (some ⟨g, 0, none⟩) n cap)) (h2 : w.cell? ⟨g, i * 5, none⟩ = some (.bool true)) :
    Calls Try.prog 86 #[.pointer (some ⟨t, 0, none⟩), .int .i64 i] w fun e w' => e = .returned (.int .i64 0) ∧ w = w' := by
  go_enter Try.func86, Try.ntmps86
  go_wp2
  go_ret
  exact ⟨rfl, rfl⟩
set_option maxHeartbeats 400000 in
theorem wrong_dead (t g n cap i : Nat) (w : World) (hi : i < n) (h1 : w.cell? ⟨t, 1, none⟩ = some (.slice (some ⟨g, 0, none⟩) n cap)) (h2 : w.cell? ⟨g, i * 5, none⟩ = some (.bool false)) :
    Calls Try.prog 86 #[.pointer (some ⟨t, 0, none⟩), .int .i64 i] w fun e w' => e = .returned (.int .i64 7) ∧ w = w' := by
  go_enter Try.func86, Try.ntmps86
  go_wp2
  go_ret
  exact ⟨rfl, rfl⟩
set_option maxHeartbeats 400000 in
theorem wrong_low (t : Nat) (i : Int) (w : World) (hi : i < 0) :
    Calls Try.prog 86 #[.pointer (some ⟨t, 0, none⟩), .int .i64 i] w fun e w' => e = .returned (.int .i64 7) ∧ w = w' := by
  go_enter Try.func86, Try.ntmps86
  go_wp2
  go_ret
  exact ⟨rfl, rfl⟩
set_option maxHeartbeats 400000 in
theorem wrong_high (t : Nat) (a : Option Addr) (n cap i : Nat) (w : World) (hi : n ≤ i) (h1 : w.cell? ⟨t, 1, none⟩ = some (.slice a n cap)) :
    Calls Try.prog 86 #[.pointer (some ⟨t, 0, none⟩), .int .i64 i] w fun e w' => e = .returned (.int .i64 7) ∧ w = w' := by
  go_enter Try.func86, Try.ntmps86
  go_wp2
  go_ret
  exact ⟨rfl, rfl⟩

theorem get_some {T : Tab} {i : Int} {x : Ent} (h : T.get i = some x) : 0 ≤ i ∧ T.ents[i.toNat]? = some x ∧ x.live = true := by
  unfold Tab.get at h
  split at h
  · cases h
  · obtain ⟨h1, h2⟩ := Option.filter_eq_some_iff.1 h
    exact ⟨by omega, h1, h2⟩

theorem wrong_yes (m : Option Nat) (t c r : Nat) (sv : Value) (T : Tab) (w : World) (i : Int) (x : Ent) (h : TabAt w m t c r sv T) (hx : T.get i = some x) :
    Calls Try.prog 86 #[.pointer (some ⟨t, 0, none⟩), .int .i64 i] w fun e w' => e = .returned (.int .i64 0) ∧ w = w' := by
  obtain ⟨h0, hx, hl⟩ := get_some hx
  obtain ⟨k, rfl⟩ := Int.eq_ofNat_of_zero_le h0
  obtain ⟨g, cap, rfl, h1, h2, hc, hf⟩ := h.ent hx
  exact wrong_hit t g _ cap k w (List.getElem?_eq_some_iff.1 hx).1 (h.head.cell 1) (hc 0 _ (by simp [Ent.vals, hl]))
theorem wrong_no (m : Option Nat) (t c r : Nat) (sv : Value) (T : Tab) (w : World) (i : Int) (h : TabAt w m t c r sv T) (hx : T.get i = none) :
    Calls Try.prog 86 #[.pointer (some ⟨t, 0, none⟩), .int .i64 i] w fun e w' => e = .returned (.int .i64 7) ∧ w = w' := by
  by_cases h0 : i < 0
  · exact wrong_low t i w h0
  · obtain ⟨k, rfl⟩ := Int.eq_ofNat_of_zero_le (Int.not_lt.1 h0)
    have hc1 : w.cell? ⟨t, 1, none⟩ = some sv := h.head.cell 1
    by_cases hk : k < T.ents.length
    · have hy : T.ents[k]? = some T.ents[k] := List.getElem?_eq_getElem hk
      obtain ⟨g, cap, rfl, h1, h2, hc, hf⟩ := h.ent hy
      have hd : (T.ents[k]).live = false := by
        have : Option.filter (fun x => x.live) (some T.ents[k]) = none := by
          rw [← hy]; unfold Tab.get at hx; simpa [h0] using hx
        simpa using this
      exact wrong_dead t g _ cap k w hk hc1 (hc 0 _ (by simp [Ent.vals, hd]))
    · rcases h.ents.form with ⟨rfl, hn, _⟩ | ⟨g, cap, rfl, _⟩
      · exact wrong_high t _ 0 0 k w (by omega) hc1
      · exact wrong_high t _ _ _ k w (by omega) hc1

set_option maxHeartbeats 400000 in
theorem len_nil (w : World) : Calls Try.prog 25 #[.pointer none] w fun e w' => e = .returned (.int .i64 0) ∧ w = w' := by
  go_enter Try.func25, Try.ntmps25
  go_wp2
  go_ret
  exact ⟨rfl, rfl⟩
set_option maxHeartbeats 400000 in
theorem len_cell (t : Nat) (n : Int) (w : World) (h : w.cell? ⟨t, 3, none⟩ = some (.int .i64 n)) : Calls Try.prog 25 #[.pointer (some ⟨t, 0, none⟩)] w fun e w' => e = .returned (.int .i64 n) ∧ w = w' := by
  go_enter Try.func25, Try.ntmps25
  go_wp2
  go_ret
  exact ⟨rfl, rfl⟩

/-- The value of an entry. -/
def Ent.agg (x : Ent) : Value := .agg #[.bool x.live, .int .i64 x.hash, .int .i64 x.key, .int .i64 x.value, .int .i64 x.birth]

set_option maxHeartbeats 400000 in
theorem at_yes (m : Option Nat) (t c r : Nat) (sv : Value) (T : Tab) (w : World) (i : Int) (x : Ent) (h : TabAt w m t c r sv T) (hx : T.get i = some x) :
    Calls Try.prog 31 #[.pointer (some ⟨t, 0, none⟩), .int .i64 i] w fun e w' => e = .returned (.tuple #[Ent.agg x, .int .i64 0]) ∧ Kept Nil w w' := by
  have hw := fun (o : Obj) => wrong_yes m t c r sv T (w.alloc o) i x (h.kept' ((Kept.refl Nil w).alloc o) (fun _ _ => id)) hx
  obtain ⟨h0, hx, -⟩ := get_some hx
  obtain ⟨k, rfl⟩ := Int.eq_ofNat_of_zero_le h0
  rw [Int.toNat_natCast] at hx
  obtain ⟨g, cap, rfl, h1, h2, hc, hf⟩ := h.ent hx
  have hi := (List.getElem?_eq_some_iff.1 hx).1
  have hc1 : w.cell? ⟨t, 1, none⟩ = some (.slice (some ⟨g, 0, none⟩) T.ents.length cap) := h.head.cell 1
  have e0 : w.cell? ⟨g, k * 5, none⟩ = some (.bool x.live) := hc 0 _ rfl
  have e1 := hc 1 _ rfl
  have e2 := hc 2 _ rfl
  have e3 := hc 3 _ rfl
  have e4 := hc 4 _ rfl
  have htl := h.head.lt
  have hgl := h.ents.lt (g := g) rfl
  clear hc hf h hx h0
  generalize T.ents.length = n at *
  have HW := hid hw
  clear hw
  go_enter Try.func31, Try.ntmps31
  go_wp2_with (go_at_call 86; refine (HW.out _).mono ?_; rintro e w' ⟨rfl, rfl⟩)
  exact bodyPost_ret (v := .tuple #[Ent.agg x, .int .i64 0]) (by simp [results, Try.results31, go_sem, Ent.agg]) rfl ⟨rfl, (Kept.refl _ _).alloc _⟩

set_option maxHeartbeats 400000 in
theorem at_bad (p : Option Addr) (i : Int) (k : Int) (hk : (k == 0) = false) (w : World) (hw : ∀ o, Calls Try.prog 86 #[.pointer p, .int .i64 i] (w.alloc o) fun e w' => e = .returned (.int .i64 k) ∧ w.alloc o = w') :
    Calls Try.prog 31 #[.pointer p, .int .i64 i] w fun e w' => e = .returned (.tuple #[Ent.agg Ent.dead, .int .i64 k]) ∧ Kept Nil w w' := by
  have HW := hid hw
  clear hw
  go_enter Try.func31, Try.ntmps31
  go_wp2_with (go_at_call 86; refine (HW.out _).mono ?_; rintro e w' ⟨rfl, rfl⟩)
  exact bodyPost_ret (v := .tuple #[Ent.agg Ent.dead, .int .i64 k]) (by simp [results, Try.results31, go_sem, Ent.agg, Ent.dead]) rfl ⟨rfl, (Kept.refl _ _).alloc _⟩
theorem at_no (m : Option Nat) (t c r : Nat) (sv : Value) (T : Tab) (w : World) (i : Int) (h : TabAt w m t c r sv T) (hx : T.get i = none) :
    Calls Try.prog 31 #[.pointer (some ⟨t, 0, none⟩), .int .i64 i] w fun e w' => e = .returned (.tuple #[Ent.agg Ent.dead, .int .i64 7]) ∧ Kept Nil w w' :=
  at_bad _ i 7 rfl w fun o => wrong_no m t c r sv T (w.alloc o) i (h.kept' ((Kept.refl Nil w).alloc o) (fun _ _ => id)) hx
theorem at_nil (i : Int) (w : World) :
    Calls Try.prog 31 #[.pointer none, .int .i64 i] w fun e w' => e = .returned (.tuple #[Ent.agg Ent.dead, .int .i64 1]) ∧ Kept Nil w w' :=
  at_bad _ i 1 rfl w fun o => wrong_nil i _

set_option maxHeartbeats 400000 in
theorem put_bad (p : Option Addr) (i v : Int) (k : Int) (hk : (k == 0) = false) (w : World) (hw : Calls Try.prog 86 #[.pointer p, .int .i64 i] w fun e w' => e = .returned (.int .i64 k) ∧ w = w') :
    Calls Try.prog 44 #[.pointer p, .int .i64 i, .int .i64 v] w fun e w' => e = .returned (.int .i64 k) ∧ w = w' := by
  go_enter Try.func44, Try.ntmps44
  go_wp2_with (go_at_call 86; refine hw.mono ?_; clear hw; rintro e w' ⟨rfl, rfl⟩)
  go_ret
  exact ⟨rfl, rfl⟩
set_option maxHeartbeats 400000 in
theorem put_yes (m : Option Nat) (t c r : Nat) (sv : Value) (T : Tab) (w : World) (i v : Int) (x : Ent) (h : TabAt w m t c r sv T) (hx : T.get i = some x) :
    Calls Try.prog 44 #[.pointer (some ⟨t, 0, none⟩), .int .i64 i, .int .i64 v] w fun e w' => e = .returned (.int .i64 0) ∧ TabAt w' m t c r sv (T.put i v) ∧ Kept (own t c r sv) w w' := by
  have hw := wrong_yes m t c r sv T w i x h hx
  have hT : T.put i v = { T with ents := T.ents.set i.toNat { x with value := v } } := by unfold Tab.put; rw [hx]
  rw [hT]; clear hT
  obtain ⟨h0, hx, -⟩ := get_some hx
  obtain ⟨k, rfl⟩ := Int.eq_ofNat_of_zero_le h0
  rw [Int.toNat_natCast] at hx ⊢
  obtain ⟨g, cap, hsv, h1, h2, hc, hf⟩ := h.ent hx
  have hi := (List.getElem?_eq_some_iff.1 hx).1
  have hc1 : w.cell? ⟨t, 1, none⟩ = some (.slice (some ⟨g, 0, none⟩) T.ents.length cap) := by rw [← hsv]; exact h.head.cell 1
  have e3 := hc 3 _ rfl
  have f3 := hf (k * 5 + 3)
  have fin : TabAt (w.setCell ⟨g, k * 5 + 3, none⟩ (.int .i64 v)) m t c r sv { T with ents := T.ents.set k { x with value := v } } := by
    have hg : sv.ownBlock = some g := by rw [hsv]; rfl
    refine ⟨?_, ?_, ?_, by simpa using h.fits⟩
    · exact h.head.other (a := ⟨g, k * 5 + 3, none⟩) (h.te hg).symm _
    · exact ⟨h.cells.head.other (a := ⟨g, k * 5 + 3, none⟩) (h.ce hg).symm _, h.cells.row.other (a := ⟨g, k * 5 + 3, none⟩) (h.re hg).symm _, h.cells.len, h.cells.lo, h.cells.hi, h.cells.fit⟩
    · have := h.ents.set hg (j := k * 5 + 3) (by rw [flat_len]; omega) (.int .i64 v)
      rw [flat_set _ _ _ x { x with value := v } _ hx (by omega) rfl] at this
      simpa using this
  have hkept : Kept (own t c r sv) w (w.setCell ⟨g, k * 5 + 3, none⟩ (.int .i64 v)) := (Kept.refl _ w).setCell (p := ⟨g, k * 5 + 3, none⟩) (.inl (.inr (.inr (.inr (by rw [hsv]; rfl))))) _
  have FIN := hid fin
  clear fin hc hf h hx h0 hsv
  generalize T.ents.length = n at *
  go_enter Try.func44, Try.ntmps44
  go_wp2_with (go_at_call 86; refine hw.mono ?_; clear hw; rintro e w' ⟨rfl, rfl⟩)
  go_ret
  exact ⟨rfl, FIN.out, hkept⟩
theorem put_no (m : Option Nat) (t c r : Nat) (sv : Value) (T : Tab) (w : World) (i v : Int) (h : TabAt w m t c r sv T) (hx : T.get i = none) :
    Calls Try.prog 44 #[.pointer (some ⟨t, 0, none⟩), .int .i64 i, .int .i64 v] w fun e w' => e = .returned (.int .i64 7) ∧ w = w' :=
  put_bad _ i v 7 rfl w (wrong_no m t c r sv T w i h hx)

set_option maxHeartbeats 1000000 in
theorem index_any (m : Option Nat) (C : Cnt) (t log : Nat) (sv x : Value) (a b d e' : Int) (w : World) (h3 : 3 ≤ log) (h15 : log ≤ 15) (hm : Mt w m C) (hd : -1000000 ≤ d ∧ d ≤ 1000000)
    (h : Blk w t 146 [mptr m, sv, x, .int .i64 a, .int .i64 b, .int .i64 d, .int .i64 e']) :
    Calls Try.prog 78 #[.pointer (some ⟨t, 0, none⟩), .int .i64 log] w fun e w' => e = .returned (.tuple #[]) ∧ ∃ c r, w.heap.size ≤ c ∧ w.heap.size ≤ r ∧
      Blk w' t 146 [mptr m, sv, .pointer (some ⟨c, 0, none⟩), .int .i64 a, .int .i64 b, .int .i64 (d + 1), .int .i64 e'] ∧ CellsAt w' c r log (blankC log) ∧ Mt w' m C.table ∧ Kept (fun k => k = t ∨ m = some k) w w' := by
  have hnew := new_any log w h3 h15
  have hmt : ∀ k, m = some k → k ≠ t := fun k hk => by subst hk; exact Blk.ne (c := [.int .i64 C.tables, .int .i64 C.cells, .int .i64 C.values, .int .i64 C.shifts]) hm h (by decide)
  go_enter Try.func78, Try.ntmps78
  go_wp2_with (go_at_call 133; refine hnew.mono ?_; clear hnew; rintro e w1 ⟨rfl, hcs, hk1⟩; have hb1 := h.kept hk1 id; have c2 : w1.cell? ⟨t, 2, none⟩ = some x := hb1.cell 2; have f2 := hb1.frozen 2; have c5 : w1.cell? ⟨t, 5, none⟩ = some (.int .i64 d) := hb1.cell 5; have f5 := hb1.frozen 5; have c0 : w1.cell? ⟨t, 0, none⟩ = some (mptr m) := hb1.cell 0)
  have hmW : Mt ((w1.setCell ⟨t, 2, none⟩ (.pointer (some ⟨w.heap.size + 1, 0, none⟩))).setCell ⟨t, 5, none⟩ (.int .i64 (d + 1))) m C := by
    cases m with
    | none => trivial
    | some k =>
      have hne := hmt k rfl
      exact ((Blk.kept (c := [.int .i64 C.tables, .int .i64 C.cells, .int .i64 C.values, .int .i64 C.shifts]) hm hk1 id).other (a := ⟨t, 2, none⟩) hne _).other (a := ⟨t, 5, none⟩) hne _
  refine (table_any m C _ hmW).mono ?_
  rintro e w2 ⟨rfl, hm2, hk2⟩
  have hb2 := ((hb1.set 2 (.pointer (some ⟨w.heap.size + 1, 0, none⟩))).set 5 (.int .i64 (d + 1))).kept hk2 (fun hh => hmt t hh rfl)
  have hlt := h.lt
  have hcs1 : CellsAt ((w1.setCell ⟨t, 2, none⟩ (.pointer (some ⟨w.heap.size + 1, 0, none⟩))).setCell ⟨t, 5, none⟩ (.int .i64 (d + 1))) (w.heap.size + 1) w.heap.size log (blankC log) := by
    refine hcs.kept (R := fun k => k = t) (((Kept.refl (fun k => k = t) w1).setCell (p := ⟨t, 2, none⟩) (.inl rfl) _).setCell (p := ⟨t, 5, none⟩) (.inl rfl) _) (by omega) (by omega)
  have hmlt : ∀ k, m = some k → k < w.heap.size := fun k hk => by subst hk; exact Blk.lt (c := [.int .i64 C.tables, .int .i64 C.cells, .int .i64 C.values, .int .i64 C.shifts]) hm
  have hcs2 := hcs1.kept hk2 (fun hh => by have := hmlt _ hh; omega) (fun hh => by have := hmlt _ hh; omega)
  have hkf : Kept (fun k => k = t ∨ m = some k) w w2 := by
    refine (((hk1.mono (fun _ _ hh => hh.elim)).setCell (R := fun k => k = t ∨ m = some k) (p := ⟨t, 2, none⟩) (.inl (.inl rfl)) _).setCell (p := ⟨t, 5, none⟩) (.inl (.inl rfl)) _).trans hk2 (fun _ _ hh => .inr hh)
  clear hk2 hcs1 hmlt hmW hcs
  go_wp2
  go_end0
  exact ⟨rfl, _, _, by omega, by omega, hb2, hcs2, hm2, hkf⟩

end Go.Proofs.Ytbbkljgeddjghaa
