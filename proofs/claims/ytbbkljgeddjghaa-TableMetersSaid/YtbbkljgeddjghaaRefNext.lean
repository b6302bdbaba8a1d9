/-
  What is proved: the walk of the document's answer for chapter 7: the Seeker's Next.
-/
import Derived.Test.YtbbkljgeddjghaaRefMore
import Derived.Test.YtbbkljgeddjghaaHeld
import Derived.Test.YtbbkljgeddjghaaSought
namespace Go.Proofs.Ytbbkljgeddjghaa
open Go.RowKit Go.Lx Go.Shelf
set_option linter.unusedVariables false
set_option linter.unusedSimpArgs false

theorem RSeekAt.cells {w : World} {s b log : Nat} {hash : Int} {i : Nat} {turn visited last : Int} {over : Bool} (h : RSeekAt w s b log hash i turn visited last over) :
    w.cell? ⟨s, 0, none⟩ = some (.pointer (some ⟨b, 0, none⟩)) ∧ w.cell? ⟨s, 1, none⟩ = some (.int .i64 hash) ∧ w.cell? ⟨s, 2, none⟩ = some (.int .i64 turn) ∧ w.cell? ⟨s, 3, none⟩ = some (.int .i64 (tc log hash i : Nat)) ∧ w.cell? ⟨s, 4, none⟩ = some (.int .u64 (tq hash i : Nat)) ∧ w.cell? ⟨s, 5, none⟩ = some (.bool over) ∧ w.cell? ⟨s, 6, none⟩ = some (.int .i64 visited) ∧ w.cell? ⟨s, 7, none⟩ = some (.int .i64 last) :=
  ⟨Blk.cell h 0, Blk.cell h 1, Blk.cell h 2, Blk.cell h 3, Blk.cell h 4, Blk.cell h 5, Blk.cell h 6, Blk.cell h 7⟩

set_option maxRecDepth 100000 in
set_option maxHeartbeats 1000000 in
theorem next7_over (s b log i : Nat) (hash turn visited last tturn : Int) (over : Bool) (w : World) (ht : w.cell? ⟨b, 6, none⟩ = some (.int .i64 tturn)) (hs : RSeekAt w s b log hash i turn visited last over) (ho : over = true ∨ turn ≠ tturn) :
    Calls Try.prog 97 #[.pointer (some ⟨s, 0, none⟩)] w fun e w' => e = .returned (.tuple #[.int .i64 (-1), .bool false]) ∧ RSeekAt w' s b log hash i turn visited last true ∧ Kept (fun x => x = s) w w' := by
  obtain ⟨c0, c1, c2, c3, c4, c5, c6, c7⟩ := hs.cells
  have f5 := Blk.frozen hs 5
  have hb : RSeekAt (w.drew.setCell ⟨s, 5, none⟩ (.bool true)) s b log hash i turn visited last true := Blk.set hs 5 (.bool true)
  have hk : Kept (fun x => x = s) w (w.drew.setCell ⟨s, 5, none⟩ (.bool true)) := (Kept.refl (fun x => x = s) w).drew.setCell (p := ⟨s, 5, none⟩) (.inl rfl) _
  have HB := hid hb
  have HK := hid hk
  clear hs hb hk c1 c3 c4 c6 c7
  cases hov : over with
  | true =>
    subst hov
    clear ho
    go_enter Try.func97, Try.ntmps97
    go_wp2_with fail
    go_loopw [4] (fun _ wr => wr = w) (fun _ _ => 0)
    case atStart => rfl
    case round =>
      subst hrel
      go_wp2_with fail
      refine wp_region_stl 18 (by kernel_rfl) (by kernel_rfl) ?_
      simp only [List.take_succ_cons, List.take_zero, List.drop_succ_cons, List.drop_zero]
      iterate 6
        refine Stl.step (by kernel_rfl) (fun K hK => ?_)
        go_simp
        refine hK _ ?_
        clear hK K
      iterate 12
        refine Stl.skip (by kernel_rfl) ?_
        simp only [Act.put, List.setIfInBounds_toArray, List.set_cons_succ, List.set_cons_zero]
      refine Stl.nil ?_
      go_wp2
      exact bodyPost_ret (v := .tuple #[.int .i64 (-1), .bool false]) (by simp [results, Try.results97, go_sem]) rfl ⟨rfl, HB.out, HK.out⟩
  | false =>
    have hne : (turn == tturn) = false := by rcases ho with h | h; (rw [hov] at h; cases h); simpa using h
    subst hov
    clear ho
    go_enter Try.func97, Try.ntmps97
    go_wp2_with fail
    go_loopw [4] (fun _ wr => wr = w) (fun _ _ => 0)
    case atStart => rfl
    case round =>
      subst hrel
      go_wp2_with fail
      refine wp_region_stl 18 (by kernel_rfl) (by kernel_rfl) ?_
      simp only [List.take_succ_cons, List.take_zero, List.drop_succ_cons, List.drop_zero]
      iterate 18
        refine Stl.step (by kernel_rfl) (fun K hK => ?_)
        go_simp
        refine hK _ ?_
        clear hK K
      refine Stl.nil ?_
      go_wp2
      exact bodyPost_ret (v := .tuple #[.int .i64 (-1), .bool false]) (by simp [results, Try.results97, go_sem]) rfl ⟨rfl, HB.out, HK.out⟩

set_option maxRecDepth 100000 in
set_option maxHeartbeats 4000000 in
theorem next7_in (m : Option Nat) (C : Cnt) (b s i E : Nat) (ev cv : Value) (T : Tab) (hash visited told : Int) (w : World) (h : RefAt w m b ev cv T) (hm : RMt w m C) (hs : RSeekAt w s b T.log hash i T.turn visited told false) (h15 : T.log ≤ 15) (hlen : T.cells.length = 2 ^ T.log)
    (hvis : 0 ≤ visited ∧ visited ≤ 1000000000) (htold : -1 ≤ told) (hE : T.cells[tc T.log hash E]? = some (-1)) (hiE : i ≤ E) (hEb : E ≤ 100000) (hin : ∀ (i : Nat) (v : Int), T.cells[i]? = some v → v < T.ents.length) :
    Calls Try.prog 97 #[.pointer (some ⟨s, 0, none⟩)] w fun e w' => ∃ k, i ≤ k ∧ k ≤ E ∧ (∀ j, i ≤ j → j < k → passes T hash told j) ∧
      ((T.cells[tc T.log hash k]? = some (-1) ∧ e = .returned (.tuple #[.int .i64 (-1), .bool false]) ∧ RSeekAt w' s b T.log hash (k + 1) T.turn (visited + (k - i : Nat) + 1) told true) ∨
       (∃ v x, T.cells[tc T.log hash k]? = some v ∧ told < v ∧ T.ents[v.toNat]? = some x ∧ x.hash = hash ∧ e = .returned (.tuple #[.int .i64 v, .bool true]) ∧ RSeekAt w' s b T.log hash (k + 1) T.turn (visited + (k - i : Nat) + 1) v false)) ∧
      RMt w' m (C.visits (k - i + 1)) ∧ Kept (fun x => x = s ∨ m = some x) w w' := by
  have hsb : Blk w s 162 _ := hs
  have hms : m ≠ some s := by
    rintro rfl
    exact Blk.ne (c := [.int .i64 C.tables, .int .i64 C.cells, .int .i64 C.values, .int .i64 C.shifts]) hm hsb (by decide) rfl
  have hapart : ∀ x, rown b ev cv x → ¬ (x = s ∨ m = some x) := by
    rintro x hx (rfl | e)
    · rcases hx with e | e | e
      · exact hsb.ne h.head (by decide) e
      · obtain ⟨cur, hb⟩ := Row.blk h.ents e; exact hsb.ne hb (by decide) rfl
      · obtain ⟨cur, hb⟩ := Row.blk h.cells e; exact hsb.ne hb (by decide) rfl
    · subst e
      have hMb : Blk w x 76 [.int .i64 C.tables, .int .i64 C.cells, .int .i64 C.values, .int .i64 C.shifts] := hm
      rcases hx with e | e | e
      · exact hMb.ne h.head (by decide) e
      · obtain ⟨cur, hb⟩ := Row.blk h.ents e; exact hMb.ne hb (by decide) rfl
      · obtain ⟨cur, hb⟩ := Row.blk h.cells e; exact hMb.ne hb (by decide) rfl
  obtain ⟨ca, ccap, hcv⟩ := Row.sliceOf h.cells
  obtain ⟨N, hN⟩ : ∃ N, N = T.cells.length := ⟨_, rfl⟩
  rw [← hN] at hcv hlen
  have HAP := hid hapart
  have H := hid h
  have HM := hid hm
  have HS := hid hs
  have HIN := hid hin
  have HE := hid hE
  have HCV := hid hcv
  have HN := hid hN
  have HLEN := hid hlen
  clear hs hsb hapart h hm hin hE hcv hN hlen
  go_enter Try.func97, Try.ntmps97
  go_wp2_with fail
  go_loopw [4] (fun _ wr => ∃ k, i ≤ k ∧ k ≤ E ∧ (∀ j, i ≤ j → j < k → passes T hash told j) ∧ ((RSeekAt wr s b T.log hash k T.turn (visited + (k - i : Nat)) told false ∧ RMt wr m (C.visits (k - i))) ∨ (T.cells[tc T.log hash k]? = some (-1) ∧ RSeekAt wr s b T.log hash (k + 1) T.turn (visited + (k - i : Nat) + 1) told true ∧ RMt wr m (C.visits (k - i + 1)))) ∧ Kept (fun x => x = s ∨ m = some x) w wr)
    (fun _ wr => E + 1 + visited.toNat - i - (match wr.cell? ⟨s, 6, none⟩ with | some v => (intOf v).toNat | none => 0))
  case atStart =>
    refine ⟨i, Nat.le_refl _, hiE, fun j h1 h2 => by omega, .inl ⟨?_, ?_⟩, Kept.refl _ _⟩
    · have := HS.out
      simpa using this
    · rw [Nat.sub_self]; exact HM.out
  case round =>
    obtain ⟨k, hik, hkE, hpass, hst, hk⟩ := hrel
    have hTk := H.out.kept hk HAP.out
    have t6 : wr.cell? ⟨b, 6, none⟩ = some (.int .i64 T.turn) := hTk.head.cell 6
    rcases hst with ⟨hsk, hmk⟩ | ⟨hv0, hsk, hmk⟩
    rotate_left
    · obtain ⟨c0, c1, c2, c3, c4, c5, c6, c7⟩ := hsk.cells
      have f5 := Blk.frozen hsk 5
      have hb9 : RSeekAt (wr.drew.setCell ⟨s, 5, none⟩ (.bool true)) s b T.log hash (k + 1) T.turn (visited + (k - i : Nat) + 1) told true := Blk.set hsk 5 (.bool true)
      have hk9 : Kept (fun x => x = s) wr (wr.drew.setCell ⟨s, 5, none⟩ (.bool true)) := (Kept.refl (fun x => x = s) wr).drew.setCell (p := ⟨s, 5, none⟩) (.inl rfl) _
      have HB := hid hb9
      have HK := hid hk9
      have HKW := hid hk
      have HPASS := hid hpass
      have HV0 := hid hv0
      have HMK := hid hmk
      clear hsk hb9 hk9 c1 c3 c4 c6 c7 hk hpass hv0 hmk hTk
      go_wp2_with fail
      refine wp_region_stl 18 (by kernel_rfl) (by kernel_rfl) ?_
      simp only [List.take_succ_cons, List.take_zero, List.drop_succ_cons, List.drop_zero]
      iterate 6
        refine Stl.step (by kernel_rfl) (fun K hK => ?_)
        go_simp
        refine hK _ ?_
        clear hK K
      iterate 12
        refine Stl.skip (by kernel_rfl) ?_
        simp only [Act.put, List.setIfInBounds_toArray, List.set_cons_succ, List.set_cons_zero]
      refine Stl.nil ?_
      go_wp2
      exact bodyPost_ret (v := .tuple #[.int .i64 (-1), .bool false]) (by simp [results, Try.results97, go_sem]) rfl
        ⟨k, hik, hkE, HPASS.out, .inl ⟨HV0.out, rfl, HB.out⟩, HMK.out.kept HK.out (fun x hx e => hms (by rw [hx, e])), HKW.out.trans (HK.out.mono (R' := fun x => x = s ∨ m = some x) (fun _ _ h => .inl h)) (fun _ _ h => h)⟩
    obtain ⟨v, hv⟩ : ∃ v, T.cells[tc T.log hash k]? = some v := ⟨_, List.getElem?_eq_getElem (by rw [← HN.out, HLEN.out]; exact tc_lt _ _ _)⟩
    obtain ⟨g, gcap, hsv, hg1, hg2, hgl, ev1⟩ := Row.intCell hTk.cells hv
    have hca : ca = some ⟨g, 0, none⟩ := by have := HCV.out; rw [hsv] at this; simp at this; exact this.1.symm
    subst hca
    have hcs : cv = .slice (some ⟨g, 0, none⟩) N ccap := HCV.out
    have hce0 : tc T.log hash k < N := by rw [HLEN.out]; exact tc_lt _ _ _
    obtain ⟨vis, hvis1⟩ : ∃ vis, vis = visited + ((k - i : Nat) : Int) := ⟨_, rfl⟩
    have hvb : 0 ≤ vis ∧ vis ≤ 2000000000 := by omega
    rw [← hvis1] at hsk
    obtain ⟨c0, c1, c2, c3, c4, c5, c6, c7⟩ := hsk.cells
    have f6 := Blk.frozen hsk 6
    have t1 : wr.cell? ⟨b, 1, none⟩ = some (.int .i64 T.log) := hTk.head.cell 1
    have t2 : wr.cell? ⟨b, 2, none⟩ = some (.slice (some ⟨g, 0, none⟩) N ccap) := by rw [← hcs]; exact hTk.head.cell 2
    have t7 : wr.cell? ⟨b, 7, none⟩ = some (mptr m) := hTk.head.cell 7
    obtain ⟨ce, hce⟩ : ∃ ce, ce = tc T.log hash k := ⟨_, rfl⟩
    rw [← hce] at hce0 ev1 c3 hv
    have hce1 : (0 : Int) ≤ (ce : Int) := by omega
    have hce2 : (ce : Int) < (N : Int) := by omega
    have HPASS := hid hpass
    have HSK := hid hsk
    have HMK := hid hmk
    have HTK := hid hTk
    have HV := hid hv
    have HVIS := hid hvis1
    have HCE := hid hce
    have HK := hid hk
    have hbl : s < wr.heap.size := Blk.lt hsk
    clear hpass hsk hmk hTk hv hvis1 hce c1 c4 c7 hsv hk hcs
    go_wp2_with fail
    refine wp_region_stl 18 (by kernel_rfl) (by kernel_rfl) ?_
    simp only [List.take_succ_cons, List.take_zero, List.drop_succ_cons, List.drop_zero]
    iterate 18
      refine Stl.step (by kernel_rfl) (fun K hK => ?_)
      go_simp
      refine hK _ ?_
      clear hK K
    refine Stl.nil ?_
    go_wp2_with fail
    go_quiet (fail)
    simp only [World.drewN_drew]
    obtain ⟨W1, hW1⟩ : ∃ W1, W1 = wr.drewN (1 + nq) := ⟨_, rfl⟩
    have k1 : Kept Nil wr W1 := by rw [hW1]; exact (Kept.refl _ wr).drewN _
    rw [← hW1]
    have hsk1 : RSeekAt W1 s b T.log hash k T.turn vis told false := Blk.kept HSK.out k1 id
    have hTk1 := HTK.out.kept k1 (fun _ _ => id)
    have hmk1 := HMK.out.kept k1 (fun _ _ => id)
    have HK1 := hid (HK.out.trans k1 (fun _ _ h => h.elim))
    obtain ⟨W2, hW2⟩ : ∃ W2, W2 = W1.setCell ⟨s, 6, none⟩ (.int .i64 (vis + 1)) := ⟨_, rfl⟩
    have k2 : Kept (fun x => x = s) W1 W2 := by rw [hW2]; exact (Kept.refl (fun x => x = s) W1).setCell (p := ⟨s, 6, none⟩) (.inl rfl) _
    have hsk2 : RSeekAt W2 s b T.log hash k T.turn (vis + 1) told false := by rw [hW2]; exact Blk.set hsk1 6 _
    have hTk2 := hTk1.kept (k2.mono (R' := fun x => x = s ∨ m = some x) (fun _ _ h => .inl h)) HAP.out
    have hmk2 := hmk1.kept k2 (fun x hx e => hms (by rw [hx, e]))
    have y0 : W1.cell? ⟨s, 0, none⟩ = some (.pointer (some ⟨b, 0, none⟩)) := Blk.cell hsk1 0
    have y6 : W1.cell? ⟨s, 6, none⟩ = some (.int .i64 vis) := Blk.cell hsk1 6
    have yf6 : W1.frozen? ⟨s, 6, none⟩ = false := Blk.frozen hsk1 6
    have z0 : W2.cell? ⟨s, 0, none⟩ = some (.pointer (some ⟨b, 0, none⟩)) := Blk.cell hsk2 0
    have z7 : W2.cell? ⟨b, 7, none⟩ = some (mptr m) := hTk2.head.cell 7
    have HK2 := hid (HK1.out.trans (k2.mono (R' := fun x => x = s ∨ m = some x) (fun _ _ h => .inl h)) (fun _ _ h => h))
    have HSK2 := hid hsk2
    have HTK2 := hid hTk2
    have HMK2 := hid hmk2
    have HW2 := hid hW2
    have HW2a : Hid (W1.setCell ⟨s, 6, none⟩ (.int .i64 (vis + 1)) = W2) := hid hW2.symm
    have HV6 := hid c6
    clear hW1 k1 hsk1 hTk1 hmk1 hW2 k2 hsk2 hTk2 hmk2 c0 c2 c3 c5 c6 f6 t1 t2 t6 t7 ev1
    have hvw : IntKind.i64.wrap (vis + 1) = vis + 1 := IntWalk.i64_in _ (by omega)
    rcases m with _ | mb
    focus
      unfold mptr at z7
      dsimp only [Option.map_none] at z7
      go_wp2_with (rw [HW2a.out])
      obtain ⟨W3, hW3⟩ : ∃ W3, W3 = W2 := ⟨_, rfl⟩
      rw [← hW3] at HSK2 HTK2 HK2 ⊢
      have HM3 : Hid (RMt W3 none (C.visits (k - i + 1))) := hid trivial
      clear hW3 y0 y6 yf6
    rotate_left
    focus
      unfold mptr at z7
      dsimp only [Option.map_some] at z7
      obtain ⟨C2, hC2⟩ : ∃ C2, C2 = C.visits (k - i) := ⟨_, rfl⟩
      rw [← hC2] at HMK2
      have hC3 : C.visits (k - i + 1) = C2.visit := by rw [hC2]; rfl
      have hM : Blk W2 mb 76 [.int .i64 C2.tables, .int .i64 C2.cells, .int .i64 C2.values, .int .i64 C2.shifts] := HMK2.out
      have m1 : W2.cell? ⟨mb, 1, none⟩ = some (.int .i64 C2.cells) := hM.cell 1
      have mf := hM.frozen 1
      have HC3 := hid hC3
      have HMM := hid hM
      clear hC2 hC3 hM
      go_wp2_with (rw [HW2a.out])
      obtain ⟨W3, hW3⟩ : ∃ W3, W3 = W2.setCell ⟨mb, 1, none⟩ (.int .i64 (wrap64 (C2.cells + 1))) := ⟨_, rfl⟩
      rw [← hW3]
      have k3 : Kept (fun x => some mb = some x) W2 W3 := by rw [hW3]; exact (Kept.refl (fun x => some mb = some x) W2).setCell (p := ⟨mb, 1, none⟩) (.inl rfl) _
      have HM3 : Hid (RMt W3 (some mb) (C.visits (k - i + 1))) := by rw [HC3.out, hW3]; exact hid (Blk.set HMM.out 1 _)
      have hsk3 : RSeekAt W3 s b T.log hash k T.turn (vis + 1) told false := Blk.kept HSK2.out k3 (fun e => hms e)
      have hTk3 := HTK2.out.kept (k3.mono (R' := fun x => x = s ∨ some mb = some x) (fun _ _ h => .inr h)) HAP.out
      have hK3 := HK2.out.trans (k3.mono (R' := fun x => x = s ∨ some mb = some x) (fun _ _ h => .inr h)) (fun _ _ h => h)
      clear HSK2 HTK2 HK2 m1 mf hW3 y0 y6 yf6 HMM k3
      have HSK2 := hid hsk3
      have HTK2 := hid hTk3
      have HK2 := hid hK3
      clear hsk3 hTk3 hK3
    all_goals
      clear HMK2 HW2 HW2a HSK HTK HMK HK HK1
      try clear z0
      try clear z7
      obtain ⟨u0, u1, u2', u3', u4', u5', u6', u7'⟩ := HSK2.out.cells
      have v1 : W3.drew.cell? ⟨b, 1, none⟩ = some (.int .i64 T.log) := HTK2.out.head.cell 1
      have hnx : Calls Try.prog 138 #[.int .i64 (ce : Nat), .int .u64 ((tq hash k : Nat) : Int), .int .i64 T.log] W3.drew fun e w' => e = .returned (.tuple #[.int .i64 ((tc T.log hash (k + 1) : Nat) : Int), .int .u64 ((tq hash (k + 1) : Nat) : Int)]) ∧ W3.drew = w' := by
        rw [HCE.out]; exact next5_any hash T.log k W3.drew h15
      rw [← HCE.out] at u3'
      obtain ⟨pq, hpq⟩ : ∃ pq, pq = ((tq hash k : Nat) : Int) := ⟨_, rfl⟩
      rw [← hpq] at hnx u4'
      have f3 := Blk.frozen HSK2.out 3
      have f4 := Blk.frozen HSK2.out 4
      clear hpq u1 u2' u5' u6' u7'
      rename_i K9 hK9
      have HK9 := hid hK9
      clear hK9
      refine wp_region_G (S := fun w' => w'.cell? ⟨s, 3, none⟩ = some (.int .i64 ce) ∧ w'.cell? ⟨s, 4, none⟩ = some (.int .u64 pq) ∧ w'.cell? ⟨s, 0, none⟩ = some (.pointer (some ⟨b, 0, none⟩)) ∧ w'.cell? ⟨b, 1, none⟩ = some (.int .i64 T.log)) (by kernel_rfl) 24 ⟨u3', u4', u0, v1⟩ (fun hS => ?_)
      refine wpAnyG_pure (i := 0) (oi := _) (v := ?_) rfl (by decide) (by kernel_rfl) (by kernel_rfl) (by kernel_rfl) (fun _ _ _ h => h) hS (Or.inl ⟨by kernel_rfl, ?_⟩) ?_
      rotate_left
      · intro w'; go_simp; with_reducible rfl
      simp only [Act.put, List.getElem_toArray, List.getElem_cons_succ, List.getElem_cons_zero, List.setIfInBounds_toArray, List.set_cons_zero, List.set_cons_succ]
      refine wpAnyG_pure (i := 1) (oi := _) (v := ?_) rfl (by decide) (by kernel_rfl) (by kernel_rfl) (by kernel_rfl) (fun _ _ _ h => h) hS (Or.inl ⟨by kernel_rfl, ?_⟩) ?_
      rotate_left
      · intro w'; go_simp; with_reducible rfl
      simp only [Act.put, List.getElem_toArray, List.getElem_cons_succ, List.getElem_cons_zero, List.setIfInBounds_toArray, List.set_cons_zero, List.set_cons_succ]
      refine wpAnyG_pure (i := 2) (oi := _) (v := ?_) rfl (by decide) (by kernel_rfl) (by kernel_rfl) (by kernel_rfl) (fun _ _ _ h => h) hS (Or.inl ⟨by kernel_rfl, ?_⟩) ?_
      rotate_left
      · intro w'; go_simp; with_reducible rfl
      simp only [Act.put, List.getElem_toArray, List.getElem_cons_succ, List.getElem_cons_zero, List.setIfInBounds_toArray, List.set_cons_zero, List.set_cons_succ]
      refine wpAnyG_pure (i := 3) (oi := _) (v := ?_) rfl (by decide) (by kernel_rfl) (by kernel_rfl) (by kernel_rfl) (fun _ _ _ h => h) hS (Or.inl ⟨by kernel_rfl, ?_⟩) ?_
      rotate_left
      · intro w'; go_simp; with_reducible rfl
      simp only [Act.put, List.getElem_toArray, List.getElem_cons_succ, List.getElem_cons_zero, List.setIfInBounds_toArray, List.set_cons_zero, List.set_cons_succ]
      refine wpAnyG_pure (i := 4) (oi := _) (v := ?_) rfl (by decide) (by kernel_rfl) (by kernel_rfl) (by kernel_rfl) (fun _ _ _ h => h) hS (Or.inl ⟨by kernel_rfl, ?_⟩) ?_
      rotate_left
      · intro w'; go_simp; with_reducible rfl
      simp only [Act.put, List.getElem_toArray, List.getElem_cons_succ, List.getElem_cons_zero, List.setIfInBounds_toArray, List.set_cons_zero, List.set_cons_succ]
      refine wpAnyG_take (i := 5) (oi := _) (v := ?_) rfl (by kernel_rfl) (by kernel_rfl) (by kernel_rfl) (by kernel_rfl) (fun _ _ _ h => h) hS (Or.inl ⟨by kernel_rfl, ?_⟩) ?_
      rotate_left
      · rintro w' ⟨h0, h1, h2, h3⟩; go_simp; with_reducible rfl
      simp only [Act.put, List.getElem_toArray, List.getElem_cons_succ, List.getElem_cons_zero, List.setIfInBounds_toArray, List.set_cons_zero, List.set_cons_succ]
      refine wpAnyG_pure (i := 6) (oi := _) (v := ?_) rfl (by decide) (by kernel_rfl) (by kernel_rfl) (by kernel_rfl) (fun _ _ _ h => h) hS (Or.inl ⟨by kernel_rfl, ?_⟩) ?_
      rotate_left
      · intro w'; go_simp; with_reducible rfl
      simp only [Act.put, List.getElem_toArray, List.getElem_cons_succ, List.getElem_cons_zero, List.setIfInBounds_toArray, List.set_cons_zero, List.set_cons_succ]
      refine wpAnyG_pure (i := 7) (oi := _) (v := ?_) rfl (by decide) (by kernel_rfl) (by kernel_rfl) (by kernel_rfl) (fun _ _ _ h => h) hS (Or.inl ⟨by kernel_rfl, ?_⟩) ?_
      rotate_left
      · intro w'; go_simp; with_reducible rfl
      simp only [Act.put, List.getElem_toArray, List.getElem_cons_succ, List.getElem_cons_zero, List.setIfInBounds_toArray, List.set_cons_zero, List.set_cons_succ]
      refine wpAnyG_pure (i := 8) (oi := _) (v := ?_) rfl (by decide) (by kernel_rfl) (by kernel_rfl) (by kernel_rfl) (fun _ _ _ h => h) hS (Or.inl ⟨by kernel_rfl, ?_⟩) ?_
      rotate_left
      · intro w'; go_simp; with_reducible rfl
      simp only [Act.put, List.getElem_toArray, List.getElem_cons_succ, List.getElem_cons_zero, List.setIfInBounds_toArray, List.set_cons_zero, List.set_cons_succ]
      refine wpAnyG_take (i := 9) (oi := _) (v := ?_) rfl (by kernel_rfl) (by kernel_rfl) (by kernel_rfl) (by kernel_rfl) (fun _ _ _ h => h) hS (Or.inl ⟨by kernel_rfl, ?_⟩) ?_
      rotate_left
      · rintro w' ⟨h0, h1, h2, h3⟩; go_simp; with_reducible rfl
      simp only [Act.put, List.getElem_toArray, List.getElem_cons_succ, List.getElem_cons_zero, List.setIfInBounds_toArray, List.set_cons_zero, List.set_cons_succ]
      refine wpAnyG_pure (i := 10) (oi := _) (v := ?_) rfl (by decide) (by kernel_rfl) (by kernel_rfl) (by kernel_rfl) (fun _ _ _ h => h) hS (Or.inl ⟨by kernel_rfl, ?_⟩) ?_
      rotate_left
      · intro w'; go_simp; with_reducible rfl
      simp only [Act.put, List.getElem_toArray, List.getElem_cons_succ, List.getElem_cons_zero, List.setIfInBounds_toArray, List.set_cons_zero, List.set_cons_succ]
      refine wpAnyG_pure (i := 11) (oi := _) (v := ?_) rfl (by decide) (by kernel_rfl) (by kernel_rfl) (by kernel_rfl) (fun _ _ _ h => h) hS (Or.inl ⟨by kernel_rfl, ?_⟩) ?_
      rotate_left
      · intro w'; go_simp; with_reducible rfl
      simp only [Act.put, List.getElem_toArray, List.getElem_cons_succ, List.getElem_cons_zero, List.setIfInBounds_toArray, List.set_cons_zero, List.set_cons_succ]
      refine wpAnyG_pure (i := 12) (oi := _) (v := ?_) rfl (by decide) (by kernel_rfl) (by kernel_rfl) (by kernel_rfl) (fun _ _ _ h => h) hS (Or.inl ⟨by kernel_rfl, ?_⟩) ?_
      rotate_left
      · intro w'; go_simp; with_reducible rfl
      simp only [Act.put, List.getElem_toArray, List.getElem_cons_succ, List.getElem_cons_zero, List.setIfInBounds_toArray, List.set_cons_zero, List.set_cons_succ]
      refine wpAnyG_take (i := 13) (oi := _) (v := ?_) rfl (by kernel_rfl) (by kernel_rfl) (by kernel_rfl) (by kernel_rfl) (fun _ _ _ h => h) hS (Or.inl ⟨by kernel_rfl, ?_⟩) ?_
      rotate_left
      · rintro w' ⟨h0, h1, h2, h3⟩; go_simp; with_reducible rfl
      simp only [Act.put, List.getElem_toArray, List.getElem_cons_succ, List.getElem_cons_zero, List.setIfInBounds_toArray, List.set_cons_zero, List.set_cons_succ]
      refine wpAnyG_pure (i := 14) (oi := _) (v := ?_) rfl (by decide) (by kernel_rfl) (by kernel_rfl) (by kernel_rfl) (fun _ _ _ h => h) hS (Or.inl ⟨by kernel_rfl, ?_⟩) ?_
      rotate_left
      · intro w'; go_simp; with_reducible rfl
      simp only [Act.put, List.getElem_toArray, List.getElem_cons_succ, List.getElem_cons_zero, List.setIfInBounds_toArray, List.set_cons_zero, List.set_cons_succ]
      refine wpAnyG_pure (i := 15) (oi := _) (v := ?_) rfl (by decide) (by kernel_rfl) (by kernel_rfl) (by kernel_rfl) (fun _ _ _ h => h) hS (Or.inl ⟨by kernel_rfl, ?_⟩) ?_
      rotate_left
      · intro w'; go_simp; with_reducible rfl
      simp only [Act.put, List.getElem_toArray, List.getElem_cons_succ, List.getElem_cons_zero, List.setIfInBounds_toArray, List.set_cons_zero, List.set_cons_succ]
      refine wpAnyG_pure (i := 16) (oi := _) (v := ?_) rfl (by decide) (by kernel_rfl) (by kernel_rfl) (by kernel_rfl) (fun _ _ _ h => h) hS (Or.inl ⟨by kernel_rfl, ?_⟩) ?_
      rotate_left
      · intro w'; go_simp; with_reducible rfl
      simp only [Act.put, List.getElem_toArray, List.getElem_cons_succ, List.getElem_cons_zero, List.setIfInBounds_toArray, List.set_cons_zero, List.set_cons_succ]
      refine wpAnyG_take (i := 17) (oi := _) (v := ?_) rfl (by kernel_rfl) (by kernel_rfl) (by kernel_rfl) (by kernel_rfl) (fun _ _ _ h => h) hS (Or.inl ⟨by kernel_rfl, ?_⟩) ?_
      rotate_left
      · rintro w' ⟨h0, h1, h2, h3⟩; go_simp; with_reducible rfl
      simp only [Act.put, List.getElem_toArray, List.getElem_cons_succ, List.getElem_cons_zero, List.setIfInBounds_toArray, List.set_cons_zero, List.set_cons_succ]
      refine wpAnyG_ready (rs := [18]) (by kernel_rfl) (by simp) (AllG.cons (o := _) rfl (by decide) (fun K hK => ?_) AllG.nil)
      go_simp
      refine hnx.mono ?_
      clear hnx
      rintro e w' ⟨rfl, rfl⟩
      refine hK.out _ _ ⟨u3', u4', u0, v1⟩ (fun hS => ?_)
      clear hK K
      refine wpAnyG_pure (i := 19) (oi := _) (v := ?_) rfl (by decide) (by kernel_rfl) (by kernel_rfl) (by kernel_rfl) (fun _ _ _ h => h) hS (Or.inl ⟨by kernel_rfl, ?_⟩) ?_
      rotate_left
      · intro w'; go_simp; with_reducible rfl
      simp only [Act.put, List.getElem_toArray, List.getElem_cons_succ, List.getElem_cons_zero, List.setIfInBounds_toArray, List.set_cons_zero, List.set_cons_succ]
      refine wpAnyG_pure (i := 20) (oi := _) (v := ?_) rfl (by decide) (by kernel_rfl) (by kernel_rfl) (by kernel_rfl) (fun _ _ _ h => h) hS (Or.inl ⟨by kernel_rfl, ?_⟩) ?_
      rotate_left
      · intro w'; go_simp; with_reducible rfl
      simp only [Act.put, List.getElem_toArray, List.getElem_cons_succ, List.getElem_cons_zero, List.setIfInBounds_toArray, List.set_cons_zero, List.set_cons_succ]
      refine wpAnyG_pure (i := 21) (oi := _) (v := ?_) rfl (by decide) (by kernel_rfl) (by kernel_rfl) (by kernel_rfl) (fun _ _ _ h => h) hS (Or.inl ⟨by kernel_rfl, ?_⟩) ?_
      rotate_left
      · intro w'; go_simp; with_reducible rfl
      simp only [Act.put, List.getElem_toArray, List.getElem_cons_succ, List.getElem_cons_zero, List.setIfInBounds_toArray, List.set_cons_zero, List.set_cons_succ]
      refine wpAnyG_ready (rs := [22]) (by kernel_rfl) (by simp) (AllG.cons (o := _) rfl (by decide) (fun K hK => ?_) AllG.nil)
      go_simp
      refine hK.out _ _ hS (fun hS => ?_)
      clear hK K
      try simp only [Act.put, List.getElem_toArray, List.getElem_cons_succ, List.getElem_cons_zero, List.setIfInBounds_toArray, List.set_cons_zero, List.set_cons_succ]
      refine wpAnyG_ready (rs := [23]) (by kernel_rfl) (by simp) (AllG.cons (o := _) rfl (by decide) (fun K hK => ?_) AllG.nil)
      go_simp
      refine hK.out _ _ hS (fun hS => ?_)
      clear hK K
      try simp only [Act.put, List.getElem_toArray, List.getElem_cons_succ, List.getElem_cons_zero, List.setIfInBounds_toArray, List.set_cons_zero, List.set_cons_succ]
      refine wpAnyG_ready (rs := [24]) (by kernel_rfl) (by simp) (AllG.last (o := _) rfl (fun K hK => ?_) AllG.nil)
      go_simp
      refine hK.out _ _ (wpAny_rest (l := _) (k := 25) rfl (by kernel_rfl) ?_)
      clear hK K
      simp only [List.drop_succ_cons, List.drop_zero]
      go_wp2_with fail
      obtain ⟨W4, hW4⟩ : ∃ W4, W4 = ((W3.setCell ⟨s, 3, none⟩ (.int .i64 ((tc T.log hash (k + 1) : Nat) : Int))).setCell ⟨s, 4, none⟩ (.int .u64 ((tq hash (k + 1) : Nat) : Int))).drew := ⟨_, rfl⟩
      rw [← hW4]
      have hsk4 : RSeekAt W4 s b T.log hash (k + 1) T.turn (vis + 1) told false := by rw [hW4]; exact (Blk.set (Blk.set HSK2.out 3 _) 4 _).drew
      have k4 : Kept (fun x => x = s) W3 W4 := by rw [hW4]; exact (((Kept.refl (fun x => x = s) W3).setCell (p := ⟨s, 3, none⟩) (.inl rfl) _).setCell (p := ⟨s, 4, none⟩) (.inl rfl) _).drew
      have hTk4 := HTK2.out.kept (k4.mono (R' := fun x => x = s ∨ _ = some x) (fun _ _ h => .inl h)) HAP.out
      have hM4 := HM3.out.kept k4 (fun x hx e => hms (by rw [hx, e]))
      have hK4 := HK2.out.trans (k4.mono (R' := fun x => x = s ∨ _ = some x) (fun _ _ h => .inl h)) (fun _ _ h => h)
      have HSK4 := hid hsk4
      have HTK4 := hid hTk4
      have HM4 := hid hM4
      have HK4 := hid hK4
      clear HSK2 HTK2 HM3 HK2 f3 f4 u3' u4' u0 v1 hS hW4 k4 hsk4 hTk4 hM4 hK4
      refine HK9.out _ _ ?_
      clear HK9 K9
      obtain ⟨y0, y1, y2, y3, y4, y5, y6, y7⟩ := HSK4.out.cells
      have f5 := Blk.frozen HSK4.out 5
      have f7 := Blk.frozen HSK4.out 7
      clear y2 y3 y4 y6
      by_cases hv1 : v = -1
      · subst hv1
        have hfs : RSeekAt (W4.setCell ⟨s, 5, none⟩ (.bool true)) s b T.log hash (k + 1) T.turn (vis + 1) told true := Blk.set HSK4.out 5 _
        have k5 : Kept (fun x => x = s) W4 (W4.setCell ⟨s, 5, none⟩ (.bool true)) := (Kept.refl (fun x => x = s) W4).setCell (p := ⟨s, 5, none⟩) (.inl rfl) _
        have HFS := hid hfs
        have HK5 := hid k5
        clear hfs k5
        go_wp2_with fail
        go_roundw
        case rel =>
          refine ⟨k, hik, hkE, HPASS.out, .inr ⟨by rw [← HCE.out]; exact HV.out, by rw [← HVIS.out]; exact HFS.out, HM4.out.kept HK5.out (fun x hx e => hms (by rw [hx, e]))⟩, HK4.out.trans (HK5.out.mono (R' := fun x => x = s ∨ _ = some x) (fun _ _ h => .inl h)) (fun _ _ h => h)⟩
        case measure =>
          have h1 : (W4.setCell ⟨s, 5, none⟩ (.bool true)).cell? ⟨s, 6, none⟩ = some (.int .i64 (vis + 1)) := HFS.out.cells.2.2.2.2.2.2.1
          have h2 := HV6.out
          rw [h1, h2]
          have := HVIS.out
          simp only [intOf]
          omega
      have hkE' : k + 1 ≤ E := by
        have : k ≠ E := by rintro rfl; have h1 := HE.out; rw [← HCE.out, HV.out] at h1; simp at h1; exact hv1 h1
        omega
      by_cases hlt : told < v
      · obtain ⟨n, hn⟩ := Int.eq_ofNat_of_zero_le (show 0 ≤ v by omega)
        subst hn
        have hnl : n < T.ents.length := by have := HIN.out _ _ HV.out; omega
        obtain ⟨x, hx⟩ : ∃ x, T.ents[n]? = some x := ⟨_, List.getElem?_eq_getElem hnl⟩
        obtain ⟨g2, cap2, hsv2, q1, q2, hg2l, -, e1, -, -, -⟩ := Row.entCells HTK4.out.ents hx
        have hgs : g2 ≠ s := by
          obtain ⟨cur, hb⟩ := Row.blk HTK4.out.ents (g := g2) (by rw [hsv2]; rfl)
          have hsb : Blk W4 s 162 _ := HSK4.out
          exact hb.ne hsb (by decide)
        have d0 : W4.cell? ⟨b, 0, none⟩ = some (.slice (some ⟨g2, 0, none⟩) T.ents.length cap2) := by rw [← hsv2]; exact HTK4.out.head.cell 0
        obtain ⟨ln, hln⟩ : ∃ ln, ln = T.ents.length := ⟨_, rfl⟩
        rw [← hln] at d0 hnl q1
        have hnl1 : (n : Int) < (ln : Int) := by omega
        have HX := hid hx
        clear hx hsv2 hln
        go_wp2_with fail
        refine wp_region_stl 23 (by kernel_rfl) (by kernel_rfl) ?_
        simp only [List.take_succ_cons, List.take_zero, List.drop_succ_cons, List.drop_zero]
        iterate 23
          refine Stl.step (by kernel_rfl) (fun K hK => ?_)
          go_simp
          refine hK _ ?_
          clear hK K
        refine Stl.nil ?_
        by_cases hxh : x.hash = hash
        · rw [hxh] at e1 ⊢
          have hfs : RSeekAt (W4.setCell ⟨s, 7, none⟩ (.int .i64 n)).drew s b T.log hash (k + 1) T.turn (vis + 1) n false := (Blk.set HSK4.out 7 _).drew
          have k5 : Kept (fun x => x = s) W4 (W4.setCell ⟨s, 7, none⟩ (.int .i64 n)).drew := ((Kept.refl (fun x => x = s) W4).setCell (p := ⟨s, 7, none⟩) (.inl rfl) _).drew
          have HFS := hid hfs
          have HK5 := hid k5
          clear hfs k5
          go_wp2
          exact bodyPost_ret (v := .tuple #[.int .i64 n, .bool true]) (by simp [results, Try.results97, go_sem]) rfl
            ⟨k, hik, hkE, HPASS.out, .inr ⟨n, x, by rw [← HCE.out]; exact HV.out, hlt, HX.out, hxh, rfl, by rw [← HVIS.out]; exact HFS.out⟩, HM4.out.kept HK5.out (fun x hx e => hms (by rw [hx, e])), HK4.out.trans (HK5.out.mono (R' := fun x => x = s ∨ _ = some x) (fun _ _ h => .inl h)) (fun _ _ h => h)⟩
        · go_wp2
          go_roundw
          case rel =>
            refine ⟨k + 1, by omega, hkE', fun j h1 h2 => ?_, .inl ⟨?_, ?_⟩, HK4.out.drew⟩
            · by_cases e : j = k
              · subst e; exact ⟨n, by rw [← HCE.out]; exact HV.out, hv1, fun y h hy => by rw [Int.toNat_natCast, HX.out] at hy; cases hy; exact hxh⟩
              · exact HPASS.out j h1 (by omega)
            · have e : visited + ((k + 1 - i : Nat) : Int) = vis + 1 := by have := HVIS.out; omega
              rw [e]; exact HSK4.out.drew
            · have e : k + 1 - i = (k - i) + 1 := by omega
              rw [e]; exact HM4.out.kept (Kept.refl Nil W4).drew (fun _ _ => id)
          case measure =>
            have h1 : W4.drew.cell? ⟨s, 6, none⟩ = some (.int .i64 (vis + 1)) := HSK4.out.cells.2.2.2.2.2.2.1
            have h2 := HV6.out
            rw [h1, h2]
            have := HVIS.out
            simp only [intOf]
            omega
      · go_wp2_with fail
        refine wp_region_stl 23 (by kernel_rfl) (by kernel_rfl) ?_
        simp only [List.take_succ_cons, List.take_zero, List.drop_succ_cons, List.drop_zero]
        iterate 7
          refine Stl.step (by kernel_rfl) (fun K hK => ?_)
          go_simp
          refine hK _ ?_
          clear hK K
        have hdec : decide (told < v) = false := decide_eq_false (by omega)
        simp only [hdec]
        iterate 16
          refine Stl.skip (by kernel_rfl) ?_
          simp only [Act.put, List.setIfInBounds_toArray, List.set_cons_succ, List.set_cons_zero]
        refine Stl.nil ?_
        go_wp2
        go_roundw
        case rel =>
          refine ⟨k + 1, by omega, hkE', fun j h1 h2 => ?_, .inl ⟨?_, ?_⟩, HK4.out.drew⟩
          · by_cases e : j = k
            · subst e; exact ⟨v, by rw [← HCE.out]; exact HV.out, hv1, fun x h => absurd h (by omega)⟩
            · exact HPASS.out j h1 (by omega)
          · have e : visited + ((k + 1 - i : Nat) : Int) = vis + 1 := by have := HVIS.out; omega
            rw [e]; exact HSK4.out.drew
          · have e : k + 1 - i = (k - i) + 1 := by omega
            rw [e]; exact HM4.out.kept (Kept.refl Nil W4).drew (fun _ _ => id)
        case measure =>
          have h1 : W4.drew.cell? ⟨s, 6, none⟩ = some (.int .i64 (vis + 1)) := HSK4.out.cells.2.2.2.2.2.2.1
          have h2 := HV6.out
          rw [h1, h2]
          have := HVIS.out
          simp only [intOf]
          omega
end Go.Proofs.Ytbbkljgeddjghaa
