/-
  What is proved: the walk of (*Seeker).Next.
-/
import Derived.Test.YtbbkljgeddjghaaSeek
import Derived.Test.YtbbkljgeddjghaaSought
namespace Go.Lx
section
variable {P : Program} {ops : Array Oper} {w : World}
/-- 'wpStill' behind a wall: nothing unfolds it by itself (a guarded operation in a great frame: else each look at the goal reckons the guard). -/
structure Stl (P : Program) (ops : Array Oper) (w : World) (Q : Act → Prop) (l : List Oper) (a : Act) : Prop where
  out : wpStill P ops w Q l a
theorem Stl.nil {Q : Act → Prop} {a : Act} (h : Q a) : Stl P ops w Q [] a := ⟨h⟩
theorem Stl.skip {Q : Act → Prop} {a : Act} {o : Oper} {rest : List Oper} (hw : Region.wanted o (yielded ops a.tmps) = false) (h : Stl P ops w Q rest (a.put o.dst undef)) : Stl P ops w Q (o :: rest) a :=
  ⟨wpStill_step (fun K hK => by rw [if_neg (by simp [hw])]; exact hK _ h.out)⟩
theorem Stl.step {Q : Act → Prop} {a : Act} {o : Oper} {rest : List Oper} (hw : Region.wanted o (yielded ops a.tmps) = true) (h : ∀ K : Act → Prop, (∀ a, Stl P ops w Q rest a → K a) → o.still P a w K) : Stl P ops w Q (o :: rest) a :=
  ⟨wpStill_step (fun K hK => by rw [if_pos hw]; exact h K (fun a ha => hK a ha.out))⟩
theorem wp_region_stl {id : Nat} {Q : Exit → Act → World → Prop} {a : Act} {l : List Oper} (n : Nat) (hm : P.follows .mixedOrders = true) (hB : Region.lexTailB .any l.toArray n = true)
    (h : Stl P l.toArray w.drew (fun a' => wpList P l.toArray Q (l.drop n) a' w.drew) (l.take n) a) : (Code.region id l.toArray true).wp P Q a w :=
  wp_region_still_tail n hm hB h.out
end
end Go.Lx
namespace Go.Proofs.Ytbbkljgeddjghaa
open Go.RowKit Go.Lx Go.Shelf
set_option linter.unusedVariables false

def Cnt.visits (C : Cnt) : Nat → Cnt
  | 0 => C
  | n + 1 => (C.visits n).visit

set_option maxHeartbeats 400000 in
theorem next_nil (w : World) : Calls Try.prog 30 #[.pointer none] w fun e w' => e = .returned (.tuple #[.int .i64 (-1), .bool false]) ∧ w = w' := by
  go_enter Try.func30, Try.ntmps30
  go_wp2
  exact bodyPost_ret (v := .tuple #[.int .i64 (-1), .bool false]) (by simp [results, Try.results30, go_sem]) rfl ⟨rfl, rfl⟩

theorem SeekAt.cells {w : World} {s t log : Nat} {hash : Int} {i : Nat} {turns visited told : Int} {ended : Bool} (h : SeekAt w s t log hash i turns visited told ended) :
    w.cell? ⟨s, 0, none⟩ = some (.pointer (some ⟨t, 0, none⟩)) ∧ w.cell? ⟨s, 1, none⟩ = some (.int .i64 hash) ∧ w.cell? ⟨s, 2, none⟩ = some (.int .i64 (tc log hash i : Nat)) ∧ w.cell? ⟨s, 4, none⟩ = some (.int .i64 turns) ∧ w.cell? ⟨s, 5, none⟩ = some (.int .i64 visited) ∧ w.cell? ⟨s, 6, none⟩ = some (.int .i64 told) ∧ w.cell? ⟨s, 7, none⟩ = some (.bool ended) :=
  ⟨Blk.cell h 0, Blk.cell h 1, Blk.cell h 2, Blk.cell h 4, Blk.cell h 5, Blk.cell h 6, Blk.cell h 7⟩

set_option maxRecDepth 100000 in
set_option maxHeartbeats 1000000 in
theorem next_over (t s log i : Nat) (hst : s ≠ t) (hash turns visited told turn : Int) (ended : Bool) (w : World) (ht : w.cell? ⟨t, 6, none⟩ = some (.int .i64 turn)) (hs : SeekAt w s t log hash i turns visited told ended) (ho : ended = true ∨ turns ≠ turn) :
    Calls Try.prog 30 #[.pointer (some ⟨s, 0, none⟩)] w fun e w' => e = .returned (.tuple #[.int .i64 (-1), .bool false]) ∧ SeekAt w' s t log hash i turns visited told true ∧ Kept (fun b => b = s) w w' := by
  obtain ⟨c0, c1, c2, c4, c5, c6, c7⟩ := hs.cells
  have f7 := Blk.frozen hs 7
  have hb := (Blk.set hs 7 (.bool true)).drew
  have hk := ((Kept.refl (fun b => b = s) w).setCell (p := ⟨s, 7, none⟩) (.inl rfl) (.bool true)).drew
  have HB : Hid (SeekAt (w.setCell ⟨s, 7, none⟩ (.bool true)).drew s t log hash i turns visited told true) := hb
  have HK := hid hk
  have k0 : (w.setCell ⟨s, 7, none⟩ (.bool true)).drew.cell? ⟨s, 0, none⟩ = some (.pointer (some ⟨t, 0, none⟩)) := hb.cell 0
  have k4 : (w.setCell ⟨s, 7, none⟩ (.bool true)).drew.cell? ⟨s, 4, none⟩ = some (.int .i64 turns) := hb.cell 4
  have kt : (w.setCell ⟨s, 7, none⟩ (.bool true)).drew.cell? ⟨t, 6, none⟩ = some (.int .i64 turn) := (World.cell?_setCell_other w ⟨s, 7, none⟩ ⟨t, 6, none⟩ _ (by simp)).trans ht
  clear hb hk hs c2
  cases ended with
  | true =>
    clear ho
    go_enter Try.func30, Try.ntmps30
    go_wp2_with fail
    refine wp_region_stl 19 (by kernel_rfl) (by kernel_rfl) ?_
    simp only [List.take_succ_cons, List.take_zero, List.drop_succ_cons, List.drop_zero]
    iterate 6
      refine Stl.step (by kernel_rfl) (fun K hK => ?_)
      go_simp
      refine hK _ ?_
      clear hK K
    iterate 12
      refine Stl.skip (by kernel_rfl) ?_
      simp only [Act.put, List.setIfInBounds_toArray, List.set_cons_succ, List.set_cons_zero]
    iterate 1
      refine Stl.step (by kernel_rfl) (fun K hK => ?_)
      go_simp
      refine hK _ ?_
      clear hK K
    refine Stl.nil ?_
    go_wp2
    obtain ⟨W9, hW9⟩ : ∃ W9, W9 = (w.setCell ⟨s, 7, none⟩ (.bool true)).drew := ⟨_, rfl⟩
    rw [← hW9] at HB HK ⊢
    clear hW9 k0 k4 kt c0 c1 c4 c5 c6 c7 f7 ht
    go_loopw [4, 5] (fun _ _ wr => wr = W9) (fun _ _ _ => 0)
    case atStart => rfl
    case round =>
      subst hrel
      obtain ⟨c0, c1, c2, c4, c5, c6, c7⟩ := HB.out.cells
      clear c2
      go_wp2
      exact bodyPost_ret (v := .tuple #[.int .i64 (-1), .bool false]) (by simp [results, Try.results30, go_sem]) rfl ⟨rfl, HB.out, HK.out⟩
  | false =>
    have hne : (turns != turn) = true := by rcases ho with h | h; cases h; simpa using h
    clear ho
    go_enter Try.func30, Try.ntmps30
    go_wp2_with fail
    refine wp_region_stl 19 (by kernel_rfl) (by kernel_rfl) ?_
    simp only [List.take_succ_cons, List.take_zero, List.drop_succ_cons, List.drop_zero]
    iterate 19
      refine Stl.step (by kernel_rfl) (fun K hK => ?_)
      go_simp
      refine hK _ ?_
      clear hK K
    refine Stl.nil ?_
    go_wp2
    try rw [hne]
    obtain ⟨W9, hW9⟩ : ∃ W9, W9 = (w.setCell ⟨s, 7, none⟩ (.bool true)).drew := ⟨_, rfl⟩
    rw [← hW9] at HB HK ⊢
    clear hW9 k0 k4 kt c0 c1 c4 c5 c6 c7 f7 ht
    go_loopw [4, 5] (fun _ _ wr => wr = W9) (fun _ _ _ => 0)
    case atStart => rfl
    case round =>
      subst hrel
      obtain ⟨c0, c1, c2, c4, c5, c6, c7⟩ := HB.out.cells
      clear c2
      go_wp2
      exact bodyPost_ret (v := .tuple #[.int .i64 (-1), .bool false]) (by simp [results, Try.results30, go_sem]) rfl ⟨rfl, HB.out, HK.out⟩
set_option maxRecDepth 100000 in
set_option maxHeartbeats 4000000 in
theorem next_in (m : Option Nat) (C : Cnt) (t c r s i E : Nat) (sv : Value) (T : Tab) (hash visited told : Int) (w : World) (h : TabAt w m t c r sv T) (hm : Mt w m C) (hs : SeekAt w s t T.log hash i T.turn visited told false)
    (hms : m ≠ some s) (hvis : 0 ≤ visited ∧ visited ≤ 1000000000) (htold : -1 ≤ told) (hE : T.cells[tc T.log hash E]? = some (-1)) (hiE : i ≤ E) (hEb : E ≤ 100000) (hin : ∀ (i : Nat) (v : Int), T.cells[i]? = some v → v < T.ents.length) :
    Calls Try.prog 30 #[.pointer (some ⟨s, 0, none⟩)] w fun e w' => ∃ k, i ≤ k ∧ k ≤ E ∧ (∀ j, i ≤ j → j < k → passes T hash told j) ∧
      ((T.cells[tc T.log hash k]? = some (-1) ∧ e = .returned (.tuple #[.int .i64 (-1), .bool false]) ∧ SeekAt w' s t T.log hash k T.turn (visited + (k - i : Nat) + 1) told true) ∨
       (∃ v x, T.cells[tc T.log hash k]? = some v ∧ told < v ∧ T.ents[v.toNat]? = some x ∧ x.hash = hash ∧ e = .returned (.tuple #[.int .i64 v, .bool true]) ∧ SeekAt w' s t T.log hash (k + 1) T.turn (visited + (k - i : Nat) + 1) v false)) ∧
      Mt w' m (C.visits (k - i + 1)) ∧ Kept (fun b => b = s ∨ m = some b) w w' := by
  obtain ⟨c0, c1, c2, c4, c5, c6, c7⟩ := hs.cells
  have f7 := Blk.frozen hs 7
  have hsb : Blk w s 153 _ := hs
  have hst : s ≠ t := hsb.ne h.head (by decide)
  have hsc : s ≠ c := hsb.ne h.cells.head (by decide)
  have hsr : s ≠ r := hsb.ne h.cells.row (by unfold rowElem; split <;> decide)
  have hse : ∀ g, sv.ownBlock = some g → g ≠ s := fun g hg => by obtain ⟨cur, hb⟩ := Row.blk h.ents hg; exact hb.ne hsb (by decide)
  have hmown : ∀ b, own t c r sv b → m ≠ some b := by
    rintro b hb rfl
    have hMb : Blk w b 71 [.int .i64 C.tables, .int .i64 C.cells, .int .i64 C.values, .int .i64 C.shifts] := hm
    rcases hb with hb | hb | hb | hb
    · exact hMb.ne h.head (by decide) hb
    · exact hMb.ne h.cells.head (by decide) hb
    · exact hMb.ne h.cells.row (by unfold rowElem; split <;> decide) hb
    · obtain ⟨cur, hb'⟩ := Row.blk h.ents hb; exact hMb.ne hb' (by decide) rfl
  have hapart : ∀ b, own t c r sv b → ¬ (b = s ∨ m = some b) := by
    rintro b hb (rfl | e)
    · rcases hb with hb | hb | hb | hb
      · exact hst hb
      · exact hsc hb
      · exact hsr hb
      · exact hse _ hb rfl
    · exact hmown b hb e
  have ht6 : w.cell? ⟨t, 6, none⟩ = some (.int .i64 T.turn) := h.head.cell 6
  have hb0 : SeekAt (w.setCell ⟨s, 7, none⟩ (.bool false)).drew s t T.log hash i T.turn visited told false := (Blk.set hs 7 (.bool false)).drew
  have hk0 : Kept (fun b => b = s) w (w.setCell ⟨s, 7, none⟩ (.bool false)).drew := ((Kept.refl (fun b => b = s) w).setCell (p := ⟨s, 7, none⟩) (.inl rfl) (.bool false)).drew
  have HB0 := hid hb0
  have HK0 := hid hk0
  have HAP := hid hapart
  have HMO := hid hmown
  have H := hid h
  have HM := hid hm
  have HIN := hid hin
  have HE := hid hE
  clear hb0 hk0 hs hsb hapart hmown h hm hin hE hse c2
  go_enter Try.func30, Try.ntmps30
  go_wp2_with fail
  refine wp_region_stl 19 (by kernel_rfl) (by kernel_rfl) ?_
  simp only [List.take_succ_cons, List.take_zero, List.drop_succ_cons, List.drop_zero]
  iterate 19
    refine Stl.step (by kernel_rfl) (fun K hK => ?_)
    go_simp
    refine hK _ ?_
    clear hK K
  refine Stl.nil ?_
  go_wp2
  try rw [bne_self_eq_false]
  obtain ⟨W9, hW9⟩ : ∃ W9, W9 = (w.setCell ⟨s, 7, none⟩ (.bool false)).drew := ⟨_, rfl⟩
  rw [← hW9] at HB0 HK0 ⊢
  clear hW9 c0 c1 c4 c5 c6 c7 f7 ht6
  go_loopw [4, 5] (fun _ _ wr => ∃ k, i ≤ k ∧ k ≤ E ∧ (∀ j, i ≤ j → j < k → passes T hash told j) ∧ SeekAt wr s t T.log hash k T.turn (visited + (k - i : Nat)) told false ∧ Mt wr m (C.visits (k - i)) ∧ Kept (fun b => b = s ∨ m = some b) w wr)
    (fun _ _ wr => E + 1 + visited.toNat - i - (match wr.cell? ⟨s, 5, none⟩ with | some v => (intOf v).toNat | none => 0))
  case atStart =>
    refine ⟨i, Nat.le_refl _, hiE, fun j h1 h2 => by omega, ?_, ?_, HK0.out.mono (fun _ _ h => .inl h)⟩
    · have := HB0.out
      simpa using this
    · rw [Nat.sub_self]; exact HM.out.kept HK0.out (fun b hb e => by subst e; exact hms hb)
  case round =>
    obtain ⟨k, hik, hkE, hpass, hsk, hmk, hk⟩ := hrel
    have hTk := H.out.kept' hk HAP.out
    obtain ⟨v, hv⟩ : ∃ v, T.cells[tc T.log hash k]? = some v := ⟨_, List.getElem?_eq_getElem (by rw [H.out.cells.len]; exact tc_lt _ _ _)⟩
    obtain ⟨vis, hvis1⟩ : ∃ vis, vis = visited + ((k - i : Nat) : Int) := ⟨_, rfl⟩
    have hvb : 0 ≤ vis ∧ vis ≤ 2000000000 := by omega
    rw [← hvis1] at hsk
    obtain ⟨c0, c1, c2, c4, c5, c6, c7⟩ := hsk.cells
    have t2 : wr.cell? ⟨t, 2, none⟩ = some (.pointer (some ⟨c, 0, none⟩)) := hTk.head.cell 2
    have hget := get_any c r T.log (tc T.log hash k) v T.cells wr.drew (hTk.cells.kept (Kept.refl Nil wr).drew id id) hv
    obtain ⟨ce, hce⟩ : ∃ ce, ce = tc T.log hash k := ⟨_, rfl⟩
    rw [← hce] at hget c2 hv
    have HPASS := hid hpass
    have HSK := hid hsk
    have HMK := hid hmk
    have HTK := hid hTk
    have HV := hid hv
    have HVIS := hid hvis1
    have HCE := hid hce
    have hbl : s < wr.heap.size := Blk.lt hsk
    have htl := hTk.head.lt
    clear hpass hsk hmk hTk hv hvis1 hce c1 c4 c5 c6
    go_wp2_with fail
    go_region_held3 (fun w' => w'.cell? ⟨s, 0, none⟩ = some (.pointer (some ⟨t, 0, none⟩)) ∧ w'.cell? ⟨s, 2, none⟩ = some (.int .i64 (ce : Nat)) ∧ w'.cell? ⟨t, 2, none⟩ = some (.pointer (some ⟨c, 0, none⟩))) (first | exact ⟨c0, c2, t2⟩ | exact ⟨y0, y2, yt⟩ | fail)
      ((go_at_call 83; refine hget.mono ?_; clear hget; rintro e W1 ⟨rfl, hk1⟩; have y0 := (World.cell?_of_block (a := ⟨s, 0, none⟩) (hk1.block s hbl id)).trans c0; have y2 := (World.cell?_of_block (a := ⟨s, 2, none⟩) (hk1.block s hbl id)).trans c2; have yt := (World.cell?_of_block (a := ⟨t, 2, none⟩) (hk1.block t htl id)).trans t2))
    replace hk1 : Kept Nil wr W1 := hk1.undrew
    have hs1 : SeekAt W1 s t T.log hash k T.turn vis told false := Blk.kept HSK.out hk1 id
    have hT1 := HTK.out.kept' hk1 (fun _ _ => id)
    have hm1 := HMK.out.kept hk1 (fun _ _ => id)
    obtain ⟨d0, d1, d2, d4, d5, d6, d7⟩ := hs1.cells
    have g5 := Blk.frozen hs1 5
    have e0 : W1.cell? ⟨t, 0, none⟩ = some (mptr m) := hT1.head.cell 0
    obtain ⟨W2, hW2⟩ : ∃ W2, W2 = W1.setCell ⟨s, 5, none⟩ (.int .i64 (vis + 1)) := ⟨_, rfl⟩
    have hk2 : Kept (fun b => b = s ∨ m = some b) W1 W2 := by rw [hW2]; exact (Kept.refl (fun b => b = s ∨ m = some b) W1).setCell (p := ⟨s, 5, none⟩) (.inl (.inl rfl)) _
    have hk2s : Kept (fun b => b = s) W1 W2 := by rw [hW2]; exact (Kept.refl (fun b => b = s) W1).setCell (p := ⟨s, 5, none⟩) (.inl rfl) _
    have hs2 : SeekAt W2 s t T.log hash k T.turn (vis + 1) told false := by rw [hW2]; exact Blk.set hs1 5 (.int .i64 (vis + 1))
    have hT2 := hT1.kept' hk2 HAP.out
    have hm2 := hm1.kept hk2s (fun b hb e => by subst e; exact hms hb)
    have hvisit := visit_any m (C.visits (k - i)) W2 hm2
    have HT2 := hid hT2
    have HS2 := hid hs2
    have HK2 := hid ((hk.trans hk1 (fun _ _ h => h.elim)).trans hk2 (fun _ _ h => h))
    have HW2 := hid hW2
    have z0 : W2.cell? ⟨s, 0, none⟩ = some (.pointer (some ⟨t, 0, none⟩)) := Blk.cell hs2 0
    have zt : W2.cell? ⟨t, 0, none⟩ = some (mptr m) := hT2.head.cell 0
    clear hs1 hT1 hm1 hk2 hs2 hT2 hm2 hk1 hk2s hW2 d1 d2 d4 d6 d7 c0 c2 c7 t2 y0 y2 yt hk
    obtain ⟨pm, hpm⟩ : ∃ pm, mptr m = .pointer pm := ⟨_, rfl⟩
    rw [hpm] at zt e0 hvisit
    have hvw : IntKind.i64.wrap (vis + 1) = vis + 1 := IntWalk.i64_in _ (by omega)
    by_cases hv1 : v = -1
    · subst hv1
      go_wp2_with (rw [← HW2.out]; go_at_call 84; refine hvisit.mono ?_; clear hvisit; rintro e W3 ⟨rfl, hm3, hk3⟩; have hs3 : SeekAt W3 s t T.log hash k T.turn (vis + 1) told false := Blk.kept HS2.out hk3 hms; have hT3 := HT2.out.kept' hk3 HMO.out; have f7 := Blk.frozen hs3 7; have w7 : W3.cell? ⟨s, 7, none⟩ = some (.bool false) := Blk.cell hs3 7; have hon := on_any m t c r s k sv T hash T.turn (vis + 1) told false W3 hT3 hs3; have HS3 := hid hs3; have HT3 := hid hT3; have HM3 := hid hm3; have HK3 := hid (HK2.out.trans (hk3.mono (R' := fun b => b = s ∨ m = some b) (fun _ _ h => .inr h)) (fun _ _ h => h)); clear hs3 hT3 hm3 hk3)
      clear hon
      have hfs : SeekAt (W3.setCell ⟨s, 7, none⟩ (.bool true)) s t T.log hash k T.turn (vis + 1) told true := Blk.set HS3.out 7 (.bool true)
      exact bodyPost_ret (v := .tuple #[.int .i64 (-1), .bool false]) (by simp [results, Try.results30, go_sem]) rfl
        ⟨k, hik, hkE, HPASS.out, .inl ⟨by rw [← HCE.out]; exact HV.out, rfl, by rw [← HVIS.out]; exact hfs⟩, HM3.out.kept ((Kept.refl (fun b => b = s) W3).setCell (p := ⟨s, 7, none⟩) (.inl rfl) _) (fun b hb e => by subst e; exact hms hb), HK3.out.setCell (p := ⟨s, 7, none⟩) (.inl (.inl rfl)) _⟩
    have hkE' : k + 1 ≤ E := by
      have : k ≠ E := by rintro rfl; have h1 := HE.out; rw [← HCE.out, HV.out] at h1; simp at h1; exact hv1 h1
      omega
    by_cases hlt : told < v
    · obtain ⟨n, hn⟩ := Int.eq_ofNat_of_zero_le (show 0 ≤ v by omega)
      subst hn
      have hnl : n < T.ents.length := by have := HIN.out _ _ HV.out; omega
      obtain ⟨x, hx⟩ : ∃ x, T.ents[n]? = some x := ⟨_, List.getElem?_eq_getElem hnl⟩
      obtain ⟨g, cap, hsv, hg1, hg2, -, -⟩ := H.out.ent hx
      have HXX := hid hx
      have HSVV := hid hsv
      obtain ⟨ln, hln⟩ : ∃ ln, ln = T.ents.length := ⟨_, rfl⟩
      rw [← hln] at hnl hg1 hsv
      clear hx hln
      have HGO : Hid (∀ W, TabAt W m t c r sv T → W.cell? ⟨g, n * 5 + 1, none⟩ = some (.int .i64 x.hash)) := by
        intro W hW
        obtain ⟨g', cap', e1, -, -, e2, -⟩ := hW.ent HXX.out
        rw [HSVV.out] at e1
        simp at e1
        rw [e1.1]
        exact e2 1 _ rfl
      go_wp2_with (first | (rw [← HW2.out]; go_at_call 84; refine hvisit.mono ?_; clear hvisit; rintro e W3 ⟨rfl, hm3, hk3⟩; have hs3 : SeekAt W3 s t T.log hash k T.turn (vis + 1) told false := Blk.kept HS2.out hk3 hms; have hT3 := HT2.out.kept' hk3 HMO.out; have f7 := Blk.frozen hs3 7; have w7 : W3.cell? ⟨s, 7, none⟩ = some (.bool false) := Blk.cell hs3 7; have hon := on_any m t c r s k sv T hash T.turn (vis + 1) told false W3 hT3 hs3; have HS3 := hid hs3; have HT3 := hid hT3; have HM3 := hid hm3; have HK3 := hid (HK2.out.trans (hk3.mono (R' := fun b => b = s ∨ m = some b) (fun _ _ h => .inr h)) (fun _ _ h => h)); clear hs3 hT3 hm3 hk3) | (go_at_call 85; refine hon.mono ?_; clear hon; rintro e W4 ⟨rfl, hs4, hk4⟩; have hT4 := HT3.out.kept' hk4 (fun b hb e => HAP.out b hb (.inl e)); obtain ⟨r0, r1, r2, r4, r5, r6, r7⟩ := hs4.cells; have rf6 := Blk.frozen hs4 6; have rt1 : W4.cell? ⟨t, 1, none⟩ = some sv := hT4.head.cell 1; have HS4 := hid hs4; have HT4 := hid hT4; have HM4 := hid (HM3.out.kept hk4 (fun b hb e => by subst e; exact hms hb)); have HK4 := hid (HK3.out.trans (hk4.mono (R' := fun b => b = s ∨ m = some b) (fun _ _ h => .inl h)) (fun _ _ h => h)); clear hs4 hT4 hk4 r2 r4))
      have hcx := HGO.out _ HT4.out
      rw [hsv] at rt1
      clear w7 f7 z0 zt
      refine wp_region_stl 22 (by kernel_rfl) (by kernel_rfl) ?_
      simp only [List.take_succ_cons, List.take_zero, List.drop_succ_cons, List.drop_zero]
      iterate 22
        refine Stl.step (by kernel_rfl) (fun K hK => ?_)
        go_simp
        refine hK _ ?_
        clear hK K
      refine Stl.nil ?_
      by_cases hxh : x.hash = hash
      · rw [hxh] at hcx ⊢
        go_wp2
        have hfs : SeekAt (W4.setCell ⟨s, 6, none⟩ (.int .i64 n)).drew s t T.log hash (k + 1) T.turn (vis + 1) n false := (Blk.set HS4.out 6 (.int .i64 n)).drew
        have hk6 : Kept (fun b => b = s) W4 (W4.setCell ⟨s, 6, none⟩ (.int .i64 n)).drew := ((Kept.refl (fun b => b = s) W4).setCell (p := ⟨s, 6, none⟩) (.inl rfl) _).drew
        exact bodyPost_ret (v := .tuple #[.int .i64 n, .bool true]) (by simp [results, Try.results30, go_sem]) rfl
          ⟨k, hik, hkE, HPASS.out, .inr ⟨n, x, by rw [← HCE.out]; exact HV.out, hlt, HXX.out, hxh, rfl, by rw [← HVIS.out]; exact hfs⟩, HM4.out.kept hk6 (fun b hb e => by subst e; exact hms hb), HK4.out.trans (hk6.mono (R' := fun b => b = s ∨ m = some b) (fun _ _ h => .inl h)) (fun _ _ h => h)⟩
      · go_wp2
        go_roundw
        case rel =>
          refine ⟨k + 1, by omega, hkE', fun j h1 h2 => ?_, ?_, ?_, HK4.out.drew⟩
          · by_cases e : j = k
            · subst e; exact ⟨n, by rw [← HCE.out]; exact HV.out, hv1, fun y h hy => by rw [Int.toNat_natCast, HXX.out] at hy; cases hy; exact hxh⟩
            · exact HPASS.out j h1 (by omega)
          · have e : visited + ((k + 1 - i : Nat) : Int) = vis + 1 := by have := HVIS.out; omega
            rw [e]; exact HS4.out
          · have e : k + 1 - i = (k - i) + 1 := by omega
            rw [e]; exact HM4.out
        case measure =>
          have h1 : W4.drew.cell? ⟨s, 5, none⟩ = some (.int .i64 (vis + 1)) := HS4.out.cells.2.2.2.2.1
          have h2 := HSK.out.cells.2.2.2.2.1
          rw [h1, h2]
          have := HVIS.out
          simp only [intOf]
          omega
    · go_wp2_with (first | (rw [← HW2.out]; go_at_call 84; refine hvisit.mono ?_; clear hvisit; rintro e W3 ⟨rfl, hm3, hk3⟩; have hs3 : SeekAt W3 s t T.log hash k T.turn (vis + 1) told false := Blk.kept HS2.out hk3 hms; have hT3 := HT2.out.kept' hk3 HMO.out; have f7 := Blk.frozen hs3 7; have w7 : W3.cell? ⟨s, 7, none⟩ = some (.bool false) := Blk.cell hs3 7; have hon := on_any m t c r s k sv T hash T.turn (vis + 1) told false W3 hT3 hs3; have HS3 := hid hs3; have HT3 := hid hT3; have HM3 := hid hm3; have HK3 := hid (HK2.out.trans (hk3.mono (R' := fun b => b = s ∨ m = some b) (fun _ _ h => .inr h)) (fun _ _ h => h)); clear hs3 hT3 hm3 hk3) | (go_at_call 85; refine hon.mono ?_; clear hon; rintro e W4 ⟨rfl, hs4, hk4⟩; have hT4 := HT3.out.kept' hk4 (fun b hb e => HAP.out b hb (.inl e)); obtain ⟨r0, r1, r2, r4, r5, r6, r7⟩ := hs4.cells; have rf6 := Blk.frozen hs4 6; have rt1 : W4.cell? ⟨t, 1, none⟩ = some sv := hT4.head.cell 1; have HS4 := hid hs4; have HT4 := hid hT4; have HM4 := hid (HM3.out.kept hk4 (fun b hb e => by subst e; exact hms hb)); have HK4 := hid (HK3.out.trans (hk4.mono (R' := fun b => b = s ∨ m = some b) (fun _ _ h => .inl h)) (fun _ _ h => h)); clear hs4 hT4 hk4 r2 r4))
      clear w7 f7 z0 zt
      refine wp_region_stl 22 (by kernel_rfl) (by kernel_rfl) ?_
      simp only [List.take_succ_cons, List.take_zero, List.drop_succ_cons, List.drop_zero]
      iterate 7
        refine Stl.step (by kernel_rfl) (fun K hK => ?_)
        go_simp
        refine hK _ ?_
        clear hK K
      have hdec : decide (told < v) = false := decide_eq_false (by omega)
      simp only [hdec]
      iterate 15
        refine Stl.skip (by kernel_rfl) ?_
        simp only [Act.put, List.setIfInBounds_toArray, List.set_cons_succ, List.set_cons_zero]
      refine Stl.nil ?_
      go_wp2
      go_roundw
      case rel =>
        refine ⟨k + 1, by omega, hkE', fun j h1 h2 => ?_, ?_, ?_, HK4.out.drew⟩
        · by_cases e : j = k
          · subst e; exact ⟨v, by rw [← HCE.out]; exact HV.out, hv1, fun x h => absurd h (by omega)⟩
          · exact HPASS.out j h1 (by omega)
        · have e : visited + ((k + 1 - i : Nat) : Int) = vis + 1 := by have := HVIS.out; omega
          rw [e]; exact HS4.out
        · have e : k + 1 - i = (k - i) + 1 := by omega
          rw [e]; exact HM4.out
      case measure =>
        have h1 : W4.drew.cell? ⟨s, 5, none⟩ = some (.int .i64 (vis + 1)) := HS4.out.cells.2.2.2.2.1
        have h2 := HSK.out.cells.2.2.2.2.1
        rw [h1, h2]
        have := HVIS.out
        simp only [intOf]
        omega

end Go.Proofs.Ytbbkljgeddjghaa
