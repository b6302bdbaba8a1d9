/-
  What is proved: the walk of lexiconlaw7's does: At (4) and Next (8).
-/
import Derived.Test.YtbbkljgeddjghaaDoes
import Derived.Deep.DeepCutAuto
namespace Go.Proofs.Ytbbkljgeddjghaa
open Go.RowKit Go.Lx Go.Shelf
set_option linter.unusedVariables false
set_option linter.unusedSimpArgs false

set_option maxRecDepth 100000 in
set_option maxHeartbeats 4000000 in
theorem does4 (x t b : Nat) (sp kp : Option Addr) (s : Stp) (w : World) (y : Ent) (k : Int) (hs : s.kind = 4) (hx : TwoBlk w x t b sp kp)
    (h1 : ∀ W, Kept Nil w W → Calls Try.prog 31 #[.pointer (some ⟨t, 0, none⟩), .int .i64 s.n] W fun e w1 => e = .returned (.tuple #[Ent.agg y, .int .i64 k]) ∧ Kept Nil W w1)
    (h2 : ∀ W, Kept Nil w W → Calls Try.prog 94 #[.pointer (some ⟨b, 0, none⟩), .int .i64 s.n] W fun e w1 => e = .returned (.tuple #[Ent.agg y, .int .i64 k]) ∧ Kept Nil W w1) :
    Calls Try.prog 36 #[.pointer (some ⟨x, 0, none⟩), s.agg] w fun e w' => e = .returned (.bool true) ∧ Kept Nil w w' := by
  obtain ⟨kind, hash, key, value, n⟩ := s
  dsimp only at hs h1 h2
  subst hs
  unfold Stp.agg
  unfold Ent.agg at h1 h2
  obtain ⟨yl, yh, yk, yv, yb⟩ := y
  dsimp only at h1 h2
  obtain ⟨W0, hW0⟩ : ∃ W0, W0 = w.alloc (Obj.cells #[Value.int .i64 4, Value.int .i64 hash, Value.int .i64 key, Value.int .i64 value, Value.int .i64 n] 61) := ⟨_, rfl⟩
  have hB := Blk.new w 61 [Value.int .i64 4, Value.int .i64 hash, Value.int .i64 key, Value.int .i64 value, Value.int .i64 n]
  rw [← hW0] at hB
  have k0 : Kept Nil w W0 := by rw [hW0]; exact (Kept.refl _ w).alloc _
  have hx0 : Blk W0 x _ _ := Blk.kept hx k0 id
  obtain ⟨bx, hbx⟩ : ∃ bx, bx = w.heap.size := ⟨_, rfl⟩
  rw [← hbx] at hB
  have hS : ∀ W', Kept Nil W0 W' → (W'.cell? ⟨x, 0, none⟩ = some (.pointer (some ⟨t, 0, none⟩)) ∧ W'.cell? ⟨x, 1, none⟩ = some (.pointer (some ⟨b, 0, none⟩)) ∧ W'.cell? ⟨bx, 4, none⟩ = some (.int .i64 n)) := by
    intro W' hk
    have h1 := hx0.kept hk id
    have h2 := hB.kept hk id
    exact ⟨h1.cell 0, h1.cell 1, h2.cell 4⟩
  have b0 : W0.cell? ⟨bx, 0, none⟩ = some (.int .i64 4) := hB.cell 0
  have HS := hid hS
  have H1 := hid h1
  have H2 := hid h2
  have HK0 := hid k0
  have HW0 := hid hW0
  have HBX := hid hbx
  clear hS h1 h2 hx hx0 hB hbx hW0 k0
  go_enter Try.func36, Try.ntmps36
  go_upto_region 11 with fail
  rw [← HW0.out, ← HBX.out]
  have hz := (Blk.new W0 32 [Value.bool false, Value.int .i64 0, Value.int .i64 0, Value.int .i64 0, Value.int .i64 0]).drew
  have HZ := hid hz
  clear hz
  go_cut [9, 10] (fun s9 s10 wx => ∃ g : Nat, s9 = .pointer (some ⟨g, 0, none⟩) ∧ s10 = .int .i64 k ∧ Blk wx g 32 [Value.bool yl, Value.int .i64 yh, Value.int .i64 yk, Value.int .i64 yv, Value.int .i64 yb] ∧ Kept Nil W0 wx)
  case first =>
    refine wp_region_G (S := (fun w' => w'.cell? ⟨x, 0, none⟩ = some (.pointer (some ⟨t, 0, none⟩)) ∧ w'.cell? ⟨x, 1, none⟩ = some (.pointer (some ⟨b, 0, none⟩)) ∧ w'.cell? ⟨bx, 4, none⟩ = some (.int .i64 n))) (by kernel_rfl) 1000 (HS.out _ (Kept.refl Nil W0).drew) (fun hS => ?_)
    refine wpAnyG_pure (i := 0) (oi := _) (v := ?_) rfl (by decide) (by kernel_rfl) (by kernel_rfl) (by kernel_rfl) (fun _ _ _ h => h) hS (Or.inl ⟨by kernel_rfl, ?_⟩) ?_
    rotate_left
    · intro w'; go_simp; with_reducible rfl
    simp only [Act.put, List.getElem_toArray, List.getElem_cons_succ, List.getElem_cons_zero, List.setIfInBounds_toArray, List.set_cons_zero, List.set_cons_succ]
    refine wpAnyG_pure (i := 1) (oi := _) (v := ?_) rfl (by decide) (by kernel_rfl) (by kernel_rfl) (by kernel_rfl) (fun _ _ _ h => h) hS (Or.inl ⟨by kernel_rfl, ?_⟩) ?_
    rotate_left
    · intro w'; go_simp; with_reducible rfl
    simp only [Act.put, List.getElem_toArray, List.getElem_cons_succ, List.getElem_cons_zero, List.setIfInBounds_toArray, List.set_cons_zero, List.set_cons_succ]
    refine wpAnyG_pure (i := 2) (oi := _) (v := ?_) rfl (by decide) (by kernel_rfl) (by kernel_rfl) (by kernel_rfl) (fun _ _ _ h => h) hS (Or.inl ⟨by kernel_rfl, ?_⟩) ?_
    rotate_left
    · intro w'; go_simp; with_reducible rfl
    simp only [Act.put, List.getElem_toArray, List.getElem_cons_succ, List.getElem_cons_zero, List.setIfInBounds_toArray, List.set_cons_zero, List.set_cons_succ]
    refine wpAnyG_take (i := 3) (oi := _) (v := ?_) rfl (by kernel_rfl) (by kernel_rfl) (by kernel_rfl) (by kernel_rfl) (fun _ _ _ h => h) hS (Or.inl ⟨by kernel_rfl, ?_⟩) ?_
    rotate_left
    · rintro w' ⟨h1, h2, h3⟩; go_simp; with_reducible rfl
    simp only [Act.put, List.getElem_toArray, List.getElem_cons_succ, List.getElem_cons_zero, List.setIfInBounds_toArray, List.set_cons_zero, List.set_cons_succ]
    refine wpAnyG_pure (i := 4) (oi := _) (v := ?_) rfl (by decide) (by kernel_rfl) (by kernel_rfl) (by kernel_rfl) (fun _ _ _ h => h) hS (Or.inl ⟨by kernel_rfl, ?_⟩) ?_
    rotate_left
    · intro w'; go_simp; with_reducible rfl
    simp only [Act.put, List.getElem_toArray, List.getElem_cons_succ, List.getElem_cons_zero, List.setIfInBounds_toArray, List.set_cons_zero, List.set_cons_succ]
    refine wpAnyG_take (i := 5) (oi := _) (v := ?_) rfl (by kernel_rfl) (by kernel_rfl) (by kernel_rfl) (by kernel_rfl) (fun _ _ _ h => h) hS (Or.inl ⟨by kernel_rfl, ?_⟩) ?_
    rotate_left
    · rintro w' ⟨h1, h2, h3⟩; go_simp; with_reducible rfl
    simp only [Act.put, List.getElem_toArray, List.getElem_cons_succ, List.getElem_cons_zero, List.setIfInBounds_toArray, List.set_cons_zero, List.set_cons_succ]
    refine wpAnyG_ready (rs := [6, 10]) (by kernel_rfl) (by simp) (AllG.cons (o := _) rfl (by decide) (fun K hK => ?_) (AllG.cons (o := _) rfl (by decide) (fun K hK => ?_) AllG.nil))
    · go_simp
      refine (H1.out W0.drew HK0.out.drew).mono ?_
      rintro e w1 ⟨rfl, hk1⟩
      have k1 : Kept Nil W0 w1 := hk1.undrew
      refine hK.out _ _ (HS.out _ k1) (fun hS => ?_)
      clear hK K
      refine wpAnyG_pure (i := 7) (oi := _) (v := ?_) rfl (by decide) (by kernel_rfl) (by kernel_rfl) (by kernel_rfl) (fun _ _ _ h => h) hS (Or.inl ⟨by kernel_rfl, ?_⟩) ?_
      rotate_left
      · intro w'; go_simp; with_reducible rfl
      simp only [Act.put, List.getElem_toArray, List.getElem_cons_succ, List.getElem_cons_zero, List.setIfInBounds_toArray, List.set_cons_zero, List.set_cons_succ]
      refine wpAnyG_pure (i := 8) (oi := _) (v := ?_) rfl (by decide) (by kernel_rfl) (by kernel_rfl) (by kernel_rfl) (fun _ _ _ h => h) hS (Or.inl ⟨by kernel_rfl, ?_⟩) ?_
      rotate_left
      · intro w'; go_simp; with_reducible rfl
      simp only [Act.put, List.getElem_toArray, List.getElem_cons_succ, List.getElem_cons_zero, List.setIfInBounds_toArray, List.set_cons_zero, List.set_cons_succ]
      refine wpAnyG_pure (i := 9) (oi := _) (v := ?_) rfl (by decide) (by kernel_rfl) (by kernel_rfl) (by kernel_rfl) (fun _ _ _ h => h) hS (Or.inl ⟨by kernel_rfl, ?_⟩) ?_
      rotate_left
      · intro w'; go_simp; with_reducible rfl
      simp only [Act.put, List.getElem_toArray, List.getElem_cons_succ, List.getElem_cons_zero, List.setIfInBounds_toArray, List.set_cons_zero, List.set_cons_succ]
      refine wpAnyG_ready (rs := [10]) (by kernel_rfl) (by simp) (AllG.cons (o := _) rfl (by decide) (fun K hK => ?_) AllG.nil)
      go_simp
      refine hK.out _ _ (HS.out _ (k1.alloc _)) (fun hS => ?_)
      clear hK K
      refine wpAnyG_ready (rs := [11]) (by kernel_rfl) (by simp) (AllG.cons (o := _) rfl (by decide) (fun K hK => ?_) AllG.nil)
      go_simp
      refine hK.out _ _ (HS.out _ (k1.alloc _)) (fun hS => ?_)
      clear hK K
      refine wpAnyG_ready (rs := [12]) (by kernel_rfl) (by simp) (AllG.cons (o := _) rfl (by decide) (fun K hK => ?_) AllG.nil)
      go_simp
      refine hK.out _ _ hS (fun hS => ?_)
      clear hK K
      try simp only [Act.put, List.getElem_toArray, List.getElem_cons_succ, List.getElem_cons_zero, List.setIfInBounds_toArray, List.set_cons_zero, List.set_cons_succ]
      refine wpAnyG_done (by kernel_rfl) ?_ _
      go_wp2_with fail
      go_meet
      exact ⟨_, rfl, rfl, Blk.new _ 32 [Value.bool yl, Value.int .i64 yh, Value.int .i64 yk, Value.int .i64 yv, Value.int .i64 yb], k1.alloc _⟩
    · go_simp
      have k0 : Kept Nil W0 (W0.alloc (.cells #[Value.bool false, Value.int .i64 0, Value.int .i64 0, Value.int .i64 0, Value.int .i64 0] 32)).drew := ((Kept.refl Nil W0).alloc _).drew
      refine hK.out _ _ (HS.out _ k0) (fun hS => ?_)
      clear hK K
      refine wpAnyG_ready (rs := [6]) (by kernel_rfl) (by simp) (AllG.cons (o := _) rfl (by decide) (fun K hK => ?_) AllG.nil)
      go_simp
      refine (H1.out _ (HK0.out.trans k0 (fun _ _ h => h))).mono ?_
      rintro e w1 ⟨rfl, hk1⟩
      have k1 : Kept Nil W0 w1 := k0.trans hk1 (fun _ _ h => h)
      have hz1 := HZ.out.kept hk1 id
      have z0 := hz1.cell 0
      have z1 := hz1.cell 1
      have z2 := hz1.cell 2
      have z3 := hz1.cell 3
      have z4 := hz1.cell 4
      have y0 := hz1.frozen 0
      have y1 := hz1.frozen 1
      have y2 := hz1.frozen 2
      have y3 := hz1.frozen 3
      have y4 := hz1.frozen 4
      refine hK.out _ _ (HS.out _ k1) (fun hS => ?_)
      clear hK K
      refine wpAnyG_pure (i := 7) (oi := _) (v := ?_) rfl (by decide) (by kernel_rfl) (by kernel_rfl) (by kernel_rfl) (fun _ _ _ h => h) hS (Or.inl ⟨by kernel_rfl, ?_⟩) ?_
      rotate_left
      · intro w'; go_simp; with_reducible rfl
      simp only [Act.put, List.getElem_toArray, List.getElem_cons_succ, List.getElem_cons_zero, List.setIfInBounds_toArray, List.set_cons_zero, List.set_cons_succ]
      refine wpAnyG_pure (i := 8) (oi := _) (v := ?_) rfl (by decide) (by kernel_rfl) (by kernel_rfl) (by kernel_rfl) (fun _ _ _ h => h) hS (Or.inl ⟨by kernel_rfl, ?_⟩) ?_
      rotate_left
      · intro w'; go_simp; with_reducible rfl
      simp only [Act.put, List.getElem_toArray, List.getElem_cons_succ, List.getElem_cons_zero, List.setIfInBounds_toArray, List.set_cons_zero, List.set_cons_succ]
      refine wpAnyG_pure (i := 9) (oi := _) (v := ?_) rfl (by decide) (by kernel_rfl) (by kernel_rfl) (by kernel_rfl) (fun _ _ _ h => h) hS (Or.inl ⟨by kernel_rfl, ?_⟩) ?_
      rotate_left
      · intro w'; go_simp; with_reducible rfl
      simp only [Act.put, List.getElem_toArray, List.getElem_cons_succ, List.getElem_cons_zero, List.setIfInBounds_toArray, List.set_cons_zero, List.set_cons_succ]
      refine wpAnyG_ready (rs := [11]) (by kernel_rfl) (by simp) (AllG.cons (o := _) rfl (by decide) (fun K hK => ?_) AllG.nil)
      go_simp
      have k5 := ((((k1.setCell (p := ⟨W0.heap.size, 0, none⟩) (.inr (Nat.le_refl _)) (.bool yl)).setCell (p := ⟨W0.heap.size, 1, none⟩) (.inr (Nat.le_refl _)) (.int .i64 yh)).setCell (p := ⟨W0.heap.size, 2, none⟩) (.inr (Nat.le_refl _)) (.int .i64 yk)).setCell (p := ⟨W0.heap.size, 3, none⟩) (.inr (Nat.le_refl _)) (.int .i64 yv)).setCell (p := ⟨W0.heap.size, 4, none⟩) (.inr (Nat.le_refl _)) (.int .i64 yb)
      refine hK.out _ _ (HS.out _ k5) (fun hS => ?_)
      clear hK K
      refine wpAnyG_ready (rs := [12]) (by kernel_rfl) (by simp) (AllG.cons (o := _) rfl (by decide) (fun K hK => ?_) AllG.nil)
      go_simp
      refine hK.out _ _ hS (fun hS => ?_)
      clear hK K
      try simp only [Act.put, List.getElem_toArray, List.getElem_cons_succ, List.getElem_cons_zero, List.setIfInBounds_toArray, List.set_cons_zero, List.set_cons_succ]
      refine wpAnyG_done (by kernel_rfl) ?_ _
      go_wp2_with fail
      go_meet
      exact ⟨_, rfl, rfl, ((((hz1.set 0 _).set 1 _).set 2 _).set 3 _).set 4 _, k5⟩
  case rest =>
    obtain ⟨g, rfl, rfl, hbg, hkx⟩ := hcut
    obtain ⟨W5, rfl⟩ : ∃ W5, W5 = wc := ⟨_, rfl⟩
    have HG := hid hbg
    have HKX := hid hkx
    have HK5 := hid (HK0.out.trans hkx (fun _ _ h => h))
    clear hbg hkx HZ
    have hz := (Blk.new W5 32 [Value.bool false, Value.int .i64 0, Value.int .i64 0, Value.int .i64 0, Value.int .i64 0]).drew
    have HZ := hid hz
    clear hz b0
    go_upto_region 12 with fail
    go_cut [11, 12] (fun s11 s12 wx => ∃ g2 : Nat, s11 = .pointer (some ⟨g2, 0, none⟩) ∧ s12 = .int .i64 k ∧ Blk wx g2 32 [Value.bool yl, Value.int .i64 yh, Value.int .i64 yk, Value.int .i64 yv, Value.int .i64 yb] ∧ Kept Nil W5 wx)
    case first =>
      refine wp_region_G (S := (fun w' => w'.cell? ⟨x, 0, none⟩ = some (.pointer (some ⟨t, 0, none⟩)) ∧ w'.cell? ⟨x, 1, none⟩ = some (.pointer (some ⟨b, 0, none⟩)) ∧ w'.cell? ⟨bx, 4, none⟩ = some (.int .i64 n))) (by kernel_rfl) 1000 (HS.out _ (HKX.out.trans (Kept.refl Nil W5).drew (fun _ _ h => h))) (fun hS => ?_)
      refine wpAnyG_pure (i := 0) (oi := _) (v := ?_) rfl (by decide) (by kernel_rfl) (by kernel_rfl) (by kernel_rfl) (fun _ _ _ h => h) hS (Or.inl ⟨by kernel_rfl, ?_⟩) ?_
      rotate_left
      · intro w'; go_simp; with_reducible rfl
      simp only [Act.put, List.getElem_toArray, List.getElem_cons_succ, List.getElem_cons_zero, List.setIfInBounds_toArray, List.set_cons_zero, List.set_cons_succ]
      refine wpAnyG_pure (i := 1) (oi := _) (v := ?_) rfl (by decide) (by kernel_rfl) (by kernel_rfl) (by kernel_rfl) (fun _ _ _ h => h) hS (Or.inl ⟨by kernel_rfl, ?_⟩) ?_
      rotate_left
      · intro w'; go_simp; with_reducible rfl
      simp only [Act.put, List.getElem_toArray, List.getElem_cons_succ, List.getElem_cons_zero, List.setIfInBounds_toArray, List.set_cons_zero, List.set_cons_succ]
      refine wpAnyG_pure (i := 2) (oi := _) (v := ?_) rfl (by decide) (by kernel_rfl) (by kernel_rfl) (by kernel_rfl) (fun _ _ _ h => h) hS (Or.inl ⟨by kernel_rfl, ?_⟩) ?_
      rotate_left
      · intro w'; go_simp; with_reducible rfl
      simp only [Act.put, List.getElem_toArray, List.getElem_cons_succ, List.getElem_cons_zero, List.setIfInBounds_toArray, List.set_cons_zero, List.set_cons_succ]
      refine wpAnyG_take (i := 3) (oi := _) (v := ?_) rfl (by kernel_rfl) (by kernel_rfl) (by kernel_rfl) (by kernel_rfl) (fun _ _ _ h => h) hS (Or.inl ⟨by kernel_rfl, ?_⟩) ?_
      rotate_left
      · rintro w' ⟨h1, h2, h3⟩; go_simp; with_reducible rfl
      simp only [Act.put, List.getElem_toArray, List.getElem_cons_succ, List.getElem_cons_zero, List.setIfInBounds_toArray, List.set_cons_zero, List.set_cons_succ]
      refine wpAnyG_pure (i := 4) (oi := _) (v := ?_) rfl (by decide) (by kernel_rfl) (by kernel_rfl) (by kernel_rfl) (fun _ _ _ h => h) hS (Or.inl ⟨by kernel_rfl, ?_⟩) ?_
      rotate_left
      · intro w'; go_simp; with_reducible rfl
      simp only [Act.put, List.getElem_toArray, List.getElem_cons_succ, List.getElem_cons_zero, List.setIfInBounds_toArray, List.set_cons_zero, List.set_cons_succ]
      refine wpAnyG_take (i := 5) (oi := _) (v := ?_) rfl (by kernel_rfl) (by kernel_rfl) (by kernel_rfl) (by kernel_rfl) (fun _ _ _ h => h) hS (Or.inl ⟨by kernel_rfl, ?_⟩) ?_
      rotate_left
      · rintro w' ⟨h1, h2, h3⟩; go_simp; with_reducible rfl
      simp only [Act.put, List.getElem_toArray, List.getElem_cons_succ, List.getElem_cons_zero, List.setIfInBounds_toArray, List.set_cons_zero, List.set_cons_succ]
      refine wpAnyG_ready (rs := [6, 10]) (by kernel_rfl) (by simp) (AllG.cons (o := _) rfl (by decide) (fun K hK => ?_) (AllG.cons (o := _) rfl (by decide) (fun K hK => ?_) AllG.nil))
      · go_simp
        refine (H2.out W5.drew HK5.out.drew).mono ?_
        rintro e w1 ⟨rfl, hk1⟩
        have k1 : Kept Nil W5 w1 := hk1.undrew
        refine hK.out _ _ (HS.out _ (HKX.out.trans k1 (fun _ _ h => h))) (fun hS => ?_)
        clear hK K
        refine wpAnyG_pure (i := 7) (oi := _) (v := ?_) rfl (by decide) (by kernel_rfl) (by kernel_rfl) (by kernel_rfl) (fun _ _ _ h => h) hS (Or.inl ⟨by kernel_rfl, ?_⟩) ?_
        rotate_left
        · intro w'; go_simp; with_reducible rfl
        simp only [Act.put, List.getElem_toArray, List.getElem_cons_succ, List.getElem_cons_zero, List.setIfInBounds_toArray, List.set_cons_zero, List.set_cons_succ]
        refine wpAnyG_pure (i := 8) (oi := _) (v := ?_) rfl (by decide) (by kernel_rfl) (by kernel_rfl) (by kernel_rfl) (fun _ _ _ h => h) hS (Or.inl ⟨by kernel_rfl, ?_⟩) ?_
        rotate_left
        · intro w'; go_simp; with_reducible rfl
        simp only [Act.put, List.getElem_toArray, List.getElem_cons_succ, List.getElem_cons_zero, List.setIfInBounds_toArray, List.set_cons_zero, List.set_cons_succ]
        refine wpAnyG_pure (i := 9) (oi := _) (v := ?_) rfl (by decide) (by kernel_rfl) (by kernel_rfl) (by kernel_rfl) (fun _ _ _ h => h) hS (Or.inl ⟨by kernel_rfl, ?_⟩) ?_
        rotate_left
        · intro w'; go_simp; with_reducible rfl
        simp only [Act.put, List.getElem_toArray, List.getElem_cons_succ, List.getElem_cons_zero, List.setIfInBounds_toArray, List.set_cons_zero, List.set_cons_succ]
        refine wpAnyG_ready (rs := [10]) (by kernel_rfl) (by simp) (AllG.cons (o := _) rfl (by decide) (fun K hK => ?_) AllG.nil)
        go_simp
        refine hK.out _ _ (HS.out _ (HKX.out.trans (k1.alloc _) (fun _ _ h => h))) (fun hS => ?_)
        clear hK K
        refine wpAnyG_ready (rs := [11]) (by kernel_rfl) (by simp) (AllG.cons (o := _) rfl (by decide) (fun K hK => ?_) AllG.nil)
        go_simp
        refine hK.out _ _ (HS.out _ (HKX.out.trans (k1.alloc _) (fun _ _ h => h))) (fun hS => ?_)
        clear hK K
        refine wpAnyG_ready (rs := [12]) (by kernel_rfl) (by simp) (AllG.cons (o := _) rfl (by decide) (fun K hK => ?_) AllG.nil)
        go_simp
        refine hK.out _ _ hS (fun hS => ?_)
        clear hK K
        try simp only [Act.put, List.getElem_toArray, List.getElem_cons_succ, List.getElem_cons_zero, List.setIfInBounds_toArray, List.set_cons_zero, List.set_cons_succ]
        refine wpAnyG_done (by kernel_rfl) ?_ _
        go_wp2_with fail
        go_meet
        exact ⟨_, rfl, rfl, Blk.new _ 32 [Value.bool yl, Value.int .i64 yh, Value.int .i64 yk, Value.int .i64 yv, Value.int .i64 yb], k1.alloc _⟩
      · go_simp
        have k0 : Kept Nil W5 (W5.alloc (.cells #[Value.bool false, Value.int .i64 0, Value.int .i64 0, Value.int .i64 0, Value.int .i64 0] 32)).drew := ((Kept.refl Nil W5).alloc _).drew
        refine hK.out _ _ (HS.out _ (HKX.out.trans k0 (fun _ _ h => h))) (fun hS => ?_)
        clear hK K
        refine wpAnyG_ready (rs := [6]) (by kernel_rfl) (by simp) (AllG.cons (o := _) rfl (by decide) (fun K hK => ?_) AllG.nil)
        go_simp
        refine (H2.out _ (HK5.out.trans k0 (fun _ _ h => h))).mono ?_
        rintro e w1 ⟨rfl, hk1⟩
        have k1 : Kept Nil W5 w1 := k0.trans hk1 (fun _ _ h => h)
        have hz1 := HZ.out.kept hk1 id
        have z0 := hz1.cell 0
        have z1 := hz1.cell 1
        have z2 := hz1.cell 2
        have z3 := hz1.cell 3
        have z4 := hz1.cell 4
        have y0 := hz1.frozen 0
        have y1 := hz1.frozen 1
        have y2 := hz1.frozen 2
        have y3 := hz1.frozen 3
        have y4 := hz1.frozen 4
        refine hK.out _ _ (HS.out _ (HKX.out.trans k1 (fun _ _ h => h))) (fun hS => ?_)
        clear hK K
        refine wpAnyG_pure (i := 7) (oi := _) (v := ?_) rfl (by decide) (by kernel_rfl) (by kernel_rfl) (by kernel_rfl) (fun _ _ _ h => h) hS (Or.inl ⟨by kernel_rfl, ?_⟩) ?_
        rotate_left
        · intro w'; go_simp; with_reducible rfl
        simp only [Act.put, List.getElem_toArray, List.getElem_cons_succ, List.getElem_cons_zero, List.setIfInBounds_toArray, List.set_cons_zero, List.set_cons_succ]
        refine wpAnyG_pure (i := 8) (oi := _) (v := ?_) rfl (by decide) (by kernel_rfl) (by kernel_rfl) (by kernel_rfl) (fun _ _ _ h => h) hS (Or.inl ⟨by kernel_rfl, ?_⟩) ?_
        rotate_left
        · intro w'; go_simp; with_reducible rfl
        simp only [Act.put, List.getElem_toArray, List.getElem_cons_succ, List.getElem_cons_zero, List.setIfInBounds_toArray, List.set_cons_zero, List.set_cons_succ]
        refine wpAnyG_pure (i := 9) (oi := _) (v := ?_) rfl (by decide) (by kernel_rfl) (by kernel_rfl) (by kernel_rfl) (fun _ _ _ h => h) hS (Or.inl ⟨by kernel_rfl, ?_⟩) ?_
        rotate_left
        · intro w'; go_simp; with_reducible rfl
        simp only [Act.put, List.getElem_toArray, List.getElem_cons_succ, List.getElem_cons_zero, List.setIfInBounds_toArray, List.set_cons_zero, List.set_cons_succ]
        refine wpAnyG_ready (rs := [11]) (by kernel_rfl) (by simp) (AllG.cons (o := _) rfl (by decide) (fun K hK => ?_) AllG.nil)
        go_simp
        have k5 := ((((k1.setCell (p := ⟨W5.heap.size, 0, none⟩) (.inr (Nat.le_refl _)) (.bool yl)).setCell (p := ⟨W5.heap.size, 1, none⟩) (.inr (Nat.le_refl _)) (.int .i64 yh)).setCell (p := ⟨W5.heap.size, 2, none⟩) (.inr (Nat.le_refl _)) (.int .i64 yk)).setCell (p := ⟨W5.heap.size, 3, none⟩) (.inr (Nat.le_refl _)) (.int .i64 yv)).setCell (p := ⟨W5.heap.size, 4, none⟩) (.inr (Nat.le_refl _)) (.int .i64 yb)
        refine hK.out _ _ (HS.out _ (HKX.out.trans k5 (fun _ _ h => h))) (fun hS => ?_)
        clear hK K
        refine wpAnyG_ready (rs := [12]) (by kernel_rfl) (by simp) (AllG.cons (o := _) rfl (by decide) (fun K hK => ?_) AllG.nil)
        go_simp
        refine hK.out _ _ hS (fun hS => ?_)
        clear hK K
        try simp only [Act.put, List.getElem_toArray, List.getElem_cons_succ, List.getElem_cons_zero, List.setIfInBounds_toArray, List.set_cons_zero, List.set_cons_succ]
        refine wpAnyG_done (by kernel_rfl) ?_ _
        go_wp2_with fail
        go_meet
        exact ⟨_, rfl, rfl, ((((hz1.set 0 _).set 1 _).set 2 _).set 3 _).set 4 _, k5⟩
    case rest =>
      obtain ⟨g2, rfl, rfl, hbg2, hkx2⟩ := hcut
      have hg1 := HG.out.kept hkx2 id
      have e0 := hg1.cell 0
      have e1 := hg1.cell 1
      have e2 := hg1.cell 2
      have e3 := hg1.cell 3
      have e4 := hg1.cell 4
      have c0 := hbg2.cell 0
      have c1 := hbg2.cell 1
      have c2 := hbg2.cell 2
      have c3 := hbg2.cell 3
      have c4 := hbg2.cell 4
      clear hg1 hbg2
      have HKL := hid hkx2
      clear hkx2
      go_wp2
      go_ret
      exact ⟨rfl, HK5.out.trans HKL.out (fun _ _ h => h)⟩
end Go.Proofs.Ytbbkljgeddjghaa
