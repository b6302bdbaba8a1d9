/-
  What is proved: the walk of lexiconlaw7's TableMeters: it answers true.
-/
import Derived.Test.YtbbkljgeddjghaaPlaysM
namespace Go.Proofs.Ytbbkljgeddjghaa
open Go.RowKit Go.Lx Go.Shelf
set_option linter.unusedVariables false
set_option linter.unusedSimpArgs false

theorem Try.loadInt64 (w : World) (b i : Nat) (x : Int) (hc : w.cell? ⟨b, i, none⟩ = some (.int .i64 x)) :
    (callFunc 141 #[.pointer (some ⟨b, i, none⟩)]).run Try.prog w = .ok (.value (.int .i64 x)) w :=
  run_call_load Try.func141 (by kernel_rfl) (by kernel_rfl) (by kernel_rfl) .i64 (by kernel_rfl) hc
set_option maxHeartbeats 400000 in
theorem load_some (b i : Nat) (x : Int) (w : World) (hc : w.cell? ⟨b, i, none⟩ = some (.int .i64 x)) :
    Calls Try.prog 101 #[.pointer (some ⟨b, i, none⟩)] w fun e w' => e = .returned (.int .i64 x) ∧ w = w' := by
  have hl := Try.loadInt64 w b i x hc
  go_enter Try.func101, Try.ntmps101
  go_wp2
  go_ret
  exact ⟨rfl, rfl⟩
set_option maxHeartbeats 400000 in
theorem each_0 (b t1 : Nat) (x : Int) (w : World) (h1 : w.cell? ⟨t1, 0, none⟩ = some (.pointer (some ⟨b, 0, none⟩))) (hc : w.cell? ⟨b, 0, none⟩ = some (.int .i64 x)) :
    Calls Try.prog 100 #[.int .i64 0, .pointer (some ⟨t1, 0, none⟩)] w fun e w' => e = .returned (.int .i64 x) ∧ w = w' := by
  go_enter Try.func100, Try.ntmps100
  go_wp2_with (go_at_call 101; refine (load_some b 0 x w hc).mono ?_; rintro e w' ⟨rfl, rfl⟩)
  go_ret
  exact ⟨rfl, rfl⟩
set_option maxHeartbeats 400000 in
theorem each_1 (b t1 : Nat) (x : Int) (w : World) (h1 : w.cell? ⟨t1, 0, none⟩ = some (.pointer (some ⟨b, 0, none⟩))) (hc : w.cell? ⟨b, 1, none⟩ = some (.int .i64 x)) :
    Calls Try.prog 100 #[.int .i64 1, .pointer (some ⟨t1, 0, none⟩)] w fun e w' => e = .returned (.int .i64 x) ∧ w = w' := by
  go_enter Try.func100, Try.ntmps100
  go_wp2_with (go_at_call 101; refine (load_some b 1 x w hc).mono ?_; rintro e w' ⟨rfl, rfl⟩)
  go_ret
  exact ⟨rfl, rfl⟩
set_option maxHeartbeats 400000 in
theorem each_2 (b t1 : Nat) (x : Int) (w : World) (h1 : w.cell? ⟨t1, 0, none⟩ = some (.pointer (some ⟨b, 0, none⟩))) (hc : w.cell? ⟨b, 2, none⟩ = some (.int .i64 x)) :
    Calls Try.prog 100 #[.int .i64 2, .pointer (some ⟨t1, 0, none⟩)] w fun e w' => e = .returned (.int .i64 x) ∧ w = w' := by
  go_enter Try.func100, Try.ntmps100
  go_wp2_with (go_at_call 101; refine (load_some b 2 x w hc).mono ?_; rintro e w' ⟨rfl, rfl⟩)
  go_ret
  exact ⟨rfl, rfl⟩
set_option maxHeartbeats 400000 in
theorem each_3 (b t1 : Nat) (x : Int) (w : World) (h1 : w.cell? ⟨t1, 0, none⟩ = some (.pointer (some ⟨b, 0, none⟩))) (hc : w.cell? ⟨b, 3, none⟩ = some (.int .i64 x)) :
    Calls Try.prog 100 #[.int .i64 3, .pointer (some ⟨t1, 0, none⟩)] w fun e w' => e = .returned (.int .i64 x) ∧ w = w' := by
  go_enter Try.func100, Try.ntmps100
  go_wp2_with (go_at_call 101; refine (load_some b 3 x w hc).mono ?_; rintro e w' ⟨rfl, rfl⟩)
  go_ret
  exact ⟨rfl, rfl⟩
set_option maxRecDepth 100000 in
set_option maxHeartbeats 1000000 in
theorem told_any (b t1 : Nat) (C : Cnt) (w : World) (h : Mt w (some b) C) (h1 : w.cell? ⟨t1, 0, none⟩ = some (.pointer (some ⟨b, 0, none⟩))) :
    Calls Try.prog 99 #[.func (.func 100) #[] #[.pointer (some ⟨t1, 0, none⟩)]] w fun e w' => e = .returned (.agg #[.int .i64 C.tables, .int .i64 C.cells, .int .i64 C.values, .int .i64 C.shifts]) ∧ Kept Nil w w' := by
  have hb : Blk w b 71 [.int .i64 C.tables, .int .i64 C.cells, .int .i64 C.values, .int .i64 C.shifts] := h
  have k0 : Kept Nil w (w.alloc (Obj.cells #[Value.int IntKind.i64 0, Value.int IntKind.i64 0, Value.int IntKind.i64 0, Value.int IntKind.i64 0] 74)) := (Kept.refl _ w).alloc _
  have q0 := hb.kept k0 id
  have p0 := (World.cell?_of_block (a := ⟨t1, 0, none⟩) (k0.block t1 (World.block_lt_of_cell? w ⟨t1, 0, none⟩ h1) id)).trans h1
  have e0 := each_0 b t1 C.tables _ p0 (q0.cell 0)
  have e1 := each_1 b t1 C.cells _ p0 (q0.cell 1)
  have e2 := each_2 b t1 C.values _ p0 (q0.cell 2)
  have e3 := each_3 b t1 C.shifts _ p0 (q0.cell 3)
  clear h hb h1 q0 p0
  go_enter Try.func99, Try.ntmps99
  go_wp2_with (first
    | (refine e0.mono ?_; clear e0; rintro e w' ⟨rfl, rfl⟩)
    | (refine e1.mono ?_; clear e1; rintro e w' ⟨rfl, rfl⟩)
    | (refine e2.mono ?_; clear e2; rintro e w' ⟨rfl, rfl⟩)
    | (refine e3.mono ?_; clear e3; rintro e w' ⟨rfl, rfl⟩))
  exact bodyPost_ret (v := .agg #[.int .i64 C.tables, .int .i64 C.cells, .int .i64 C.values, .int .i64 C.shifts]) (by simp [results, Try.results99, go_sem]) rfl ⟨rfl, (Kept.refl _ _).alloc _⟩

set_option maxRecDepth 100000 in
set_option maxHeartbeats 1000000 in
theorem read_any (b : Nat) (C : Cnt) (w : World) (h : Mt w (some b) C) :
    Calls Try.prog 38 #[.pointer (some ⟨b, 0, none⟩)] w fun e w' => e = .returned (.agg #[.int .i64 C.tables, .int .i64 C.cells, .int .i64 C.values, .int .i64 C.shifts]) ∧ Kept Nil w w' := by
  have hb : ∀ W, Kept Nil w W → Mt W (some b) C := fun W hk => h.kept hk (fun _ _ => id)
  have HB := hid hb
  clear h hb
  go_enter Try.func38, Try.ntmps38
  go_wp2_with fail
  obtain ⟨w1, hw1⟩ : ∃ w1, w1 = w.alloc (Obj.cells #[Value.pointer (some ⟨b, 0, none⟩)] 63) := ⟨_, rfl⟩
  obtain ⟨w2, hw2⟩ : ∃ w2, w2 = w1.alloc (Obj.cells #[Value.int IntKind.i64 0, Value.int IntKind.i64 0, Value.int IntKind.i64 0, Value.int IntKind.i64 0] 74) := ⟨_, rfl⟩
  rw [← hw1, ← hw2]
  obtain ⟨B, hB⟩ : ∃ B, B = w.heap.size := ⟨_, rfl⟩
  have k1 : Kept Nil w w1 := by rw [hw1]; exact (Kept.refl _ w).alloc _
  have k2 : Kept Nil w1 w2 := by rw [hw2]; exact (Kept.refl _ w1).alloc _
  have x1 : Blk w1 B 63 [.pointer (some ⟨b, 0, none⟩)] := by rw [hw1, hB]; exact Blk.new w _ _
  have x2 : Blk w2 (B + 1) 74 [.int .i64 0, .int .i64 0, .int .i64 0, .int .i64 0] := by
    have h := Blk.new w1 74 [Value.int .i64 0, Value.int .i64 0, Value.int .i64 0, Value.int .i64 0]
    rw [show w1.heap.size = B + 1 by rw [hw1, hB]; simp] at h
    rw [hw2]; exact h
  have y1 := (x1.kept k2 id).cell 0
  have hto := told_any b B C w2 (HB.out _ (k1.trans k2 (fun _ _ h => h))) y1
  have HK := hid (k1.trans k2 (fun _ _ h => h))
  have X2 := hid x2
  rw [← hB]
  have hBl : w.heap.size ≤ B := by omega
  clear hw1 hw2 k1 k2 x1 x2 y1 hB
  refine hto.mono ?_
  clear hto
  rintro e w3 ⟨rfl, hk3⟩
  have x3 := X2.out.kept hk3 id
  have c0 := x3.cell 0
  have c1 := x3.cell 1
  have c2 := x3.cell 2
  have c3 := x3.cell 3
  have f0 := x3.frozen 0
  have f1 := x3.frozen 1
  have f2 := x3.frozen 2
  have f3 := x3.frozen 3
  have hlt := x3.lt
  have HK3 := hid (HK.out.trans hk3 (fun _ _ h => h))
  dsimp only [List.getElem?_cons_zero, List.getElem?_cons_succ] at c0 c1 c2 c3
  clear x3 hk3
  go_wp2_with fail
  refine bodyPost_ret (v := .agg #[.int .i64 C.tables, .int .i64 C.cells, .int .i64 C.values, .int .i64 C.shifts]) (by simp [results, Try.results38, go_sem, hlt, c0, c1, c2, c3]) rfl ⟨rfl, ?_⟩
  trace_state
  exact (((HK3.out.setCell (.inr (by dsimp only; omega)) _).setCell (.inr (by dsimp only; omega)) _).setCell (.inr (by dsimp only; omega)) _).setCell (.inr (by dsimp only; omega)) _

set_option maxRecDepth 100000 in
set_option maxHeartbeats 4000000 in
theorem tableMeters_walk (a : Option Addr) (cap : Nat) (ss : List Stp) (w : World) (hs : Stps w a ss) (hm : ss.length ≤ maxLen) :
    Calls Try.prog 10 #[.slice a ss.length cap] w fun e w' => e = .returned (.bool true) ∧ Kept Nil w w' := by
  unfold maxLen at hm
  by_cases hl : ss.length ≤ 400
  · obtain ⟨n, hn⟩ : ∃ n, n = ss.length := ⟨_, rfl⟩
    have HS := hid hs
    have HN := hid hn
    have hl' := hl
    rw [← hn] at hl' hm ⊢
    have b0 : ¬ (400 : Int) < (n : Int) := by omega
    clear hs hn
    go_enter Try.func10, Try.ntmps10
    go_wp2_with fail
    obtain ⟨W0, hW0⟩ : ∃ W0, W0 = (w.alloc (Obj.cells #[Value.int IntKind.i64 0, Value.int IntKind.i64 0, Value.int IntKind.i64 0, Value.int IntKind.i64 0] 71)).alloc (Obj.cells #[Value.int IntKind.i64 0, Value.int IntKind.i64 0, Value.int IntKind.i64 0, Value.int IntKind.i64 0] 76) := ⟨_, rfl⟩
    rw [← hW0]
    obtain ⟨mb, hmb⟩ : ∃ mb, mb = w.heap.size := ⟨_, rfl⟩
    have k0 : Kept Nil w W0 := by rw [hW0]; exact ((Kept.refl _ w).alloc _).alloc _
    have m0 : Mt W0 (some mb) ⟨0, 0, 0, 0⟩ := by rw [hW0, hmb]; exact (Blk.new w 71 _).alloc _
    have r0 : RMt W0 (some (mb + 1)) ⟨0, 0, 0, 0⟩ := by
      have h := Blk.new (w.alloc (Obj.cells #[Value.int IntKind.i64 0, Value.int IntKind.i64 0, Value.int IntKind.i64 0, Value.int IntKind.i64 0] 71)) 76 [Value.int .i64 0, Value.int .i64 0, Value.int .i64 0, Value.int .i64 0]
      rw [show (w.alloc (Obj.cells #[Value.int IntKind.i64 0, Value.int IntKind.i64 0, Value.int IntKind.i64 0, Value.int IntKind.i64 0] 71)).heap.size = mb + 1 by simp [hmb]] at h
      rw [hW0]
      exact h
    have hp := plays_any false a cap ss (some mb) (some (mb + 1)) ⟨0, 0, 0, 0⟩ W0 (HS.out.kept k0 (fun _ _ => id)) hl m0 r0 (by intro z e1 e2; injection e1; injection e2; omega) (by intro e; cases e) (by
      intro hne z hz b off hb e
      rcases HS.out.at_ with h0 | ⟨b', off', h1, h2, h3⟩
      · exact hne h0
      · rw [h1] at hb
        injection hb with hb; injection hb with hb
        rcases hz with hz | hz <;> injection hz <;> omega)
    rw [← HN.out] at hp
    unfold mptr at hp
    dsimp only [Option.map_some] at hp
    rw [← hmb]
    go_at_call 34
    refine hp.mono ?_
    clear hp
    rintro e w1 ⟨x, D, rfl, hp⟩
    have HK : Hid (Kept Nil w w1) := hid (k0.trans hp.kept (fun z hz e => by rcases e with e | e <;> injection e <;> omega))
    have hMt := hp.two.mt
    have hRt : Blk w1 (mb + 1) 76 [.int .i64 D.C.tables, .int .i64 D.C.cells, .int .i64 D.C.values, .int .i64 D.C.shifts] := hp.two.rmt
    have hm1 : Mt w1 (some mb) D.C := hp.two.mt
    have HM := hid hm1
    have HR := hid hRt
    have rb := hRt.lt
    obtain ⟨rc, hrc⟩ : ∃ rc, rc = mb + 1 := ⟨_, rfl⟩
    rw [← hrc] at HR
    obtain ⟨g1, hg1⟩ : ∃ z, z = D.C.tables := ⟨_, rfl⟩
    obtain ⟨g2, hg2⟩ : ∃ z, z = D.C.cells := ⟨_, rfl⟩
    obtain ⟨g3, hg3⟩ : ∃ z, z = D.C.values := ⟨_, rfl⟩
    obtain ⟨g4, hg4⟩ : ∃ z, z = D.C.shifts := ⟨_, rfl⟩
    have hS : ∀ W', Kept Nil w1 W' → (W'.cell? ⟨rc, 0, none⟩ = some (.int .i64 g1) ∧ W'.cell? ⟨rc, 1, none⟩ = some (.int .i64 g2) ∧ W'.cell? ⟨rc, 2, none⟩ = some (.int .i64 g3) ∧ W'.cell? ⟨rc, 3, none⟩ = some (.int .i64 g4)) := by
      intro W' hk
      have a := Blk.kept HR.out hk id
      rw [← hg1, ← hg2, ← hg3, ← hg4] at a
      exact ⟨a.cell 0, a.cell 1, a.cell 2, a.cell 3⟩
    have hrd := read_any mb D.C w1.drew (hm1.kept (Kept.refl Nil w1).drew (fun _ _ => id))
    rw [← hg1, ← hg2, ← hg3, ← hg4] at hrd
    have HS := hid hS
    have HRD := hid hrd
    rw [← hrc]
    clear hp hMt hRt hm1 hrd hS hg1 hg2 hg3 hg4 hrc rb hmb
    go_wp2_with fail
    refine wp_region_G (S := fun W' => W'.cell? ⟨rc, 0, none⟩ = some (.int .i64 g1) ∧ W'.cell? ⟨rc, 1, none⟩ = some (.int .i64 g2) ∧ W'.cell? ⟨rc, 2, none⟩ = some (.int .i64 g3) ∧ W'.cell? ⟨rc, 3, none⟩ = some (.int .i64 g4)) (by kernel_rfl) 1000 (HS.out _ (Kept.refl _ w1).drew) (fun hS => ?_)
    refine wpAnyG_pure (i := 0) (oi := _) (v := ?_) rfl (by decide) (by kernel_rfl) (by kernel_rfl) (by kernel_rfl) (fun _ _ _ h => h) hS (Or.inl ⟨by kernel_rfl, ?_⟩) ?_
    rotate_left
    · intro w'; go_simp; with_reducible rfl
    simp only [Act.put, List.getElem_toArray, List.getElem_cons_succ, List.getElem_cons_zero, List.setIfInBounds_toArray, List.set_cons_zero, List.set_cons_succ]
    refine wpAnyG_pure (i := 1) (oi := _) (v := ?_) rfl (by decide) (by kernel_rfl) (by kernel_rfl) (by kernel_rfl) (fun _ _ _ h => h) hS (Or.inl ⟨by kernel_rfl, ?_⟩) ?_
    rotate_left
    · intro w'; go_simp; with_reducible rfl
    simp only [Act.put, List.getElem_toArray, List.getElem_cons_succ, List.getElem_cons_zero, List.setIfInBounds_toArray, List.set_cons_zero, List.set_cons_succ]
    refine wpAnyG_pure (i := 2) (oi := _) (v := ?_) rfl (by decide) (by kernel_rfl) (by kernel_rfl) (by kernel_rfl) (fun _ _ _ h => h) hS (Or.inl ⟨by kernel_rfl, ?_⟩) ?_
    rotate_left
    · intro w'; go_simp; with_reducible rfl
    simp only [Act.put, List.getElem_toArray, List.getElem_cons_succ, List.getElem_cons_zero, List.setIfInBounds_toArray, List.set_cons_zero, List.set_cons_succ]
    refine wpAnyG_pure (i := 4) (oi := _) (v := ?_) rfl (by decide) (by kernel_rfl) (by kernel_rfl) (by kernel_rfl) (fun _ _ _ h => h) hS (Or.inl ⟨by kernel_rfl, ?_⟩) ?_
    rotate_left
    · intro w'; go_simp; with_reducible rfl
    simp only [Act.put, List.getElem_toArray, List.getElem_cons_succ, List.getElem_cons_zero, List.setIfInBounds_toArray, List.set_cons_zero, List.set_cons_succ]
    refine wpAnyG_pure (i := 5) (oi := _) (v := ?_) rfl (by decide) (by kernel_rfl) (by kernel_rfl) (by kernel_rfl) (fun _ _ _ h => h) hS (Or.inl ⟨by kernel_rfl, ?_⟩) ?_
    rotate_left
    · intro w'; go_simp; with_reducible rfl
    simp only [Act.put, List.getElem_toArray, List.getElem_cons_succ, List.getElem_cons_zero, List.setIfInBounds_toArray, List.set_cons_zero, List.set_cons_succ]
    refine wpAnyG_pure (i := 6) (oi := _) (v := ?_) rfl (by decide) (by kernel_rfl) (by kernel_rfl) (by kernel_rfl) (fun _ _ _ h => h) hS (Or.inl ⟨by kernel_rfl, ?_⟩) ?_
    rotate_left
    · intro w'; go_simp; with_reducible rfl
    simp only [Act.put, List.getElem_toArray, List.getElem_cons_succ, List.getElem_cons_zero, List.setIfInBounds_toArray, List.set_cons_zero, List.set_cons_succ]
    refine wpAnyG_take (i := 7) (oi := _) (v := ?_) rfl (by kernel_rfl) (by kernel_rfl) (by kernel_rfl) (by kernel_rfl) (fun _ _ _ h => h) hS (Or.inl ⟨by kernel_rfl, ?_⟩) ?_
    rotate_left
    · rintro w' ⟨h0, h1, h2, h3⟩; go_simp; with_reducible rfl
    simp only [Act.put, List.getElem_toArray, List.getElem_cons_succ, List.getElem_cons_zero, List.setIfInBounds_toArray, List.set_cons_zero, List.set_cons_succ]
    refine wpAnyG_ready (rs := [3]) (by kernel_rfl) (by simp) (AllG.cons (o := _) rfl (by decide) (fun K hK => ?_) AllG.nil)
    go_simp
    refine HRD.out.mono ?_
    rintro e w5 ⟨rfl, hk5⟩
    refine hK.out _ _ (HS.out _ hk5.undrew) (fun hS => ?_)
    clear hK K
    have HK5 := hid hk5.undrew
    clear hk5
    refine wpAnyG_pure (i := 8) (oi := _) (v := ?_) rfl (by decide) (by kernel_rfl) (by kernel_rfl) (by kernel_rfl) (fun _ _ _ h => h) hS (Or.inl ⟨by kernel_rfl, ?_⟩) ?_
    rotate_left
    · intro w'; go_simp; with_reducible rfl
    simp only [Act.put, List.getElem_toArray, List.getElem_cons_succ, List.getElem_cons_zero, List.setIfInBounds_toArray, List.set_cons_zero, List.set_cons_succ]
    refine wpAnyG_pure (i := 9) (oi := _) (v := ?_) rfl (by decide) (by kernel_rfl) (by kernel_rfl) (by kernel_rfl) (fun _ _ _ h => h) hS (Or.inl ⟨by kernel_rfl, ?_⟩) ?_
    rotate_left
    · intro w'; go_simp; with_reducible rfl
    simp only [Act.put, List.getElem_toArray, List.getElem_cons_succ, List.getElem_cons_zero, List.setIfInBounds_toArray, List.set_cons_zero, List.set_cons_succ]
    refine wpAnyG_pure (i := 10) (oi := _) (v := ?_) rfl (by decide) (by kernel_rfl) (by kernel_rfl) (by kernel_rfl) (fun _ _ _ h => h) hS (Or.inl ⟨by kernel_rfl, ?_⟩) ?_
    rotate_left
    · intro w'; go_simp; with_reducible rfl
    simp only [Act.put, List.getElem_toArray, List.getElem_cons_succ, List.getElem_cons_zero, List.setIfInBounds_toArray, List.set_cons_zero, List.set_cons_succ]
    refine wpAnyG_ready (rs := [11]) (by kernel_rfl) (by simp) (AllG.cons (o := _) rfl (by decide) (fun K hK => ?_) AllG.nil)
    go_simp
    refine (awake_any w5).mono ?_
    rintro e w6 ⟨rfl, hk6⟩
    have HK6 := hid (HK5.out.trans hk6 (fun _ _ h => h))
    refine hK.out _ _ (HS.out _ HK6.out) (fun hS => ?_)
    clear hK K hk6
    refine wpAnyG_pure (i := 12) (oi := _) (v := ?_) rfl (by decide) (by kernel_rfl) (by kernel_rfl) (by kernel_rfl) (fun _ _ _ h => h) hS (Or.inl ⟨by kernel_rfl, ?_⟩) ?_
    rotate_left
    · intro w'; go_simp; with_reducible rfl
    simp only [Act.put, List.getElem_toArray, List.getElem_cons_succ, List.getElem_cons_zero, List.setIfInBounds_toArray, List.set_cons_zero, List.set_cons_succ]
    refine wpAnyG_ready (rs := [13]) (by kernel_rfl) (by simp) (AllG.cons (o := _) rfl (by decide) (fun K hK => ?_) AllG.nil)
    go_simp
    refine hK.out _ _ hS (fun hS => ?_)
    clear hK K
    try simp only [Act.put, List.getElem_toArray, List.getElem_cons_succ, List.getElem_cons_zero, List.setIfInBounds_toArray, List.set_cons_zero, List.set_cons_succ]
    refine wpAnyG_done (by kernel_rfl) ?_ _
    go_wp2_with fail
    refine bodyPost_ret (v := .bool true) (by simp [results, Try.results10, go_sem]) rfl ?_
    exact ⟨rfl, HK.out.trans HK6.out (fun _ _ h => h)⟩
  · have b0 : (400 : Int) < (ss.length : Int) := by omega
    generalize ss.length = n at *
    go_enter Try.func10, Try.ntmps10
    go_wp2_with (go_at_call 21; refine (awake_any w).mono ?_; rintro e w1 ⟨rfl, hk1⟩)
    go_ret
    exact ⟨rfl, hk1⟩
end Go.Proofs.Ytbbkljgeddjghaa
