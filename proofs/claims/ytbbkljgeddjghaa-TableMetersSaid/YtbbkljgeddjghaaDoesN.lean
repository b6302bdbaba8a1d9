/-
  What is proved: the walk of lexiconlaw7's does: the Seekers' Next (8).
-/
import Derived.Test.YtbbkljgeddjghaaDoes
import Derived.Deep.DeepCutAuto
namespace Go.Proofs.Ytbbkljgeddjghaa
open Go.RowKit Go.Lx Go.Shelf
set_option linter.unusedVariables false
set_option linter.unusedSimpArgs false

/-- What the two calls of a round are. -/
structure CallsNext (w : World) (p q x : Nat) (I : World → Prop) (M : Int → Bool → Int → World → Prop) (R : Nat → Prop) : Prop where
  one : ∀ W, I W → Calls Try.prog 30 #[.pointer (some ⟨p, 0, none⟩)] W fun e w1 => ∃ v ok n, e = .returned (.tuple #[.int .i64 v, .bool ok]) ∧ M v ok n w1 ∧ Kept R W w1
  two : ∀ v ok n W, M v ok n W → Calls Try.prog 97 #[.pointer (some ⟨q, 0, none⟩)] W fun e w2 => e = .returned (.tuple #[.int .i64 v, .bool ok]) ∧ I w2 ∧ w2.cell? ⟨p, 5, none⟩ = some (.int .i64 n) ∧ w2.cell? ⟨q, 6, none⟩ = some (.int .i64 n) ∧ Kept R W w2
  atI : ∀ W, I W → W.cell? ⟨x, 2, none⟩ = some (.pointer (some ⟨p, 0, none⟩)) ∧ W.cell? ⟨x, 3, none⟩ = some (.pointer (some ⟨q, 0, none⟩))
  atM : ∀ v ok n W, M v ok n W → W.cell? ⟨x, 3, none⟩ = some (.pointer (some ⟨q, 0, none⟩))
  keep : Keeps I Nil
  inR : ∀ z, R z → z < w.heap.size

set_option maxRecDepth 100000 in
set_option maxHeartbeats 4000000 in
theorem does8 (x p q : Nat) (s : Stp) (w : World) (I : World → Prop) (M : Int → Bool → Int → World → Prop) (R : Nat → Prop) (hs : s.kind = 8) (hI : I w) (hc : CallsNext w p q x I M R) :
    Calls Try.prog 36 #[.pointer (some ⟨x, 0, none⟩), s.agg] w fun e w' => e = .returned (.bool true) ∧ I w' ∧ Kept R w w' := by
  obtain ⟨kind, hash, key, value, n⟩ := s
  dsimp only at hs
  subst hs
  unfold Stp.agg
  obtain ⟨W0, hW0⟩ : ∃ W0, W0 = w.alloc (Obj.cells #[Value.int .i64 8, Value.int .i64 hash, Value.int .i64 key, Value.int .i64 value, Value.int .i64 n] 61) := ⟨_, rfl⟩
  have hB := Blk.new w 61 [Value.int .i64 8, Value.int .i64 hash, Value.int .i64 key, Value.int .i64 value, Value.int .i64 n]
  rw [← hW0] at hB
  have k0 : Kept Nil w W0 := by rw [hW0]; exact (Kept.refl _ w).alloc _
  have hI0 : I W0 := hc.keep _ _ hI k0
  obtain ⟨bx, hbx⟩ : ∃ bx, bx = w.heap.size := ⟨_, rfl⟩
  rw [← hbx] at hB
  have hrb : ¬ R bx := fun h => by have := hc.inR _ h; omega
  have HI0 := hid hI0
  have HC := hid hc
  have HK0 := hid k0
  have HW0 := hid hW0
  have HBX := hid hbx
  have HB := hid hB
  clear hc hI hI0 hB hbx hW0 k0
  go_enter Try.func36, Try.ntmps36
  go_wp2_with fail
  rw [← HW0.out, ← HBX.out]
  go_loopw [13] (fun i W => ∃ j : Nat, j ≤ 16 ∧ i = .int .i64 j ∧ I W ∧ Kept R W0 W) (fun i _ => 16 - (intOf i).toNat)
  case atStart => exact ⟨0, by omega, rfl, HI0.out, Kept.refl _ _⟩
  case round =>
    obtain ⟨j, hj, rfl, hI, hk⟩ := hrel
    have b4 : wr.cell? ⟨bx, 4, none⟩ = some (.int .i64 n) := (HB.out.kept hk hrb).cell 4
    obtain ⟨c2, c3⟩ := HC.out.atI _ hI
    have HI := hid hI
    have HK := hid hk
    clear hI hk
    by_cases hlt : (j : Int) < n
    · by_cases h16 : (j : Int) < 16
      · go_wp2_with fail
        refine (HC.out.one _ HI.out).mono ?_
        rintro e w1 ⟨v, ok, vis, rfl, hM, hk1⟩
        have d3 := HC.out.atM _ _ _ _ hM
        have HM := hid hM
        have HK1 := hid (HK.out.trans hk1 (fun _ _ h => h))
        clear hM hk1 HI HK c2 c3 b4
        go_wp2_with fail
        refine (HC.out.two _ _ _ _ HM.out).mono ?_
        rintro e w2 ⟨rfl, hI2, y5, y6, hk2⟩
        obtain ⟨g2, g3⟩ := HC.out.atI _ hI2
        have HI2 := hid hI2
        have HK2 := hid (HK1.out.trans hk2 (fun _ _ h => h))
        have hvis := visited_cell p vis w2.drew y5
        clear hI2 hk2 HM HK1 d3 y5
        have e1 : (v != v) = false := by simp
        have e2 : (ok != ok) = false := by simp
        have e3 : (vis != vis) = false := by simp
        go_wp2_with fail
        refine wp_region_stl 22 (by kernel_rfl) (by kernel_rfl) ?_
        simp only [List.take_succ_cons, List.take_zero, List.drop_succ_cons, List.drop_zero]
        iterate 13
          refine Stl.step (by kernel_rfl) (fun K hK => ?_)
          go_simp
          refine hK _ ?_
          clear hK K
        refine Stl.step (by kernel_rfl) (fun K hK => ?_)
        go_simp
        refine ⟨.int .i64 vis, hvis.mono (fun e w' ⟨h1, h2⟩ => ⟨h1, h2.symm⟩), hK _ ?_⟩
        clear hK K
        try simp only [Act.put, List.setIfInBounds_toArray, List.set_cons_succ, List.set_cons_zero]
        iterate 8
          refine Stl.step (by kernel_rfl) (fun K hK => ?_)
          go_simp
          refine hK _ ?_
          clear hK K
        refine Stl.nil ?_
        go_wp2
        go_roundw
        case rel => exact ⟨j + 1, by omega, by go_num, HC.out.keep _ _ HI2.out (Kept.refl _ _).drew, HK2.out.drew⟩
        case measure => simp [intOf]; omega
      · go_wp2
        go_ret
        exact ⟨rfl, HI.out, (HK0.out.mono (R' := R) (fun _ _ h => h.elim)).trans HK.out (fun _ _ h => h)⟩
    · go_wp2
      go_ret
      exact ⟨rfl, HI.out, (HK0.out.mono (R' := R) (fun _ _ h => h.elim)).trans HK.out (fun _ _ h => h)⟩

set_option maxRecDepth 100000 in
set_option maxHeartbeats 4000000 in
theorem does8n (x t b : Nat) (kp : Option Addr) (s : Stp) (w : World) (hs : s.kind = 8) (hx : TwoBlk w x t b none kp) :
    Calls Try.prog 36 #[.pointer (some ⟨x, 0, none⟩), s.agg] w fun e w' => e = .returned (.bool true) ∧ Kept Nil w w' := by
  obtain ⟨kind, hash, key, value, n⟩ := s
  dsimp only at hs
  subst hs
  unfold Stp.agg
  obtain ⟨W0, hW0⟩ : ∃ W0, W0 = w.alloc (Obj.cells #[Value.int .i64 8, Value.int .i64 hash, Value.int .i64 key, Value.int .i64 value, Value.int .i64 n] 61) := ⟨_, rfl⟩
  have hB := Blk.new w 61 [Value.int .i64 8, Value.int .i64 hash, Value.int .i64 key, Value.int .i64 value, Value.int .i64 n]
  rw [← hW0] at hB
  have k0 : Kept Nil w W0 := by rw [hW0]; exact (Kept.refl _ w).alloc _
  have hx0 : TwoBlk W0 x t b none kp := Blk.kept hx k0 id
  obtain ⟨bx, hbx⟩ : ∃ bx, bx = w.heap.size := ⟨_, rfl⟩
  rw [← hbx] at hB
  have c2 : W0.cell? ⟨x, 2, none⟩ = some (.pointer none) := Blk.cell hx0 2
  have b4 : W0.cell? ⟨bx, 4, none⟩ = some (.int .i64 n) := hB.cell 4
  have HK0 := hid k0
  have HW0 := hid hW0
  have HBX := hid hbx
  clear hx hx0 hB hbx hW0 k0
  go_enter Try.func36, Try.ntmps36
  go_wp2_with fail
  rw [← HW0.out, ← HBX.out]
  go_loopw [13] (fun i W => i = .int .i64 0 ∧ W = W0) (fun i _ => 0)
  case atStart => exact ⟨rfl, rfl⟩
  case round =>
    obtain ⟨rfl, hw⟩ := hrel
    subst hw
    by_cases hlt : 0 < n
    · go_wp2
      go_ret
      exact ⟨rfl, HK0.out⟩
    · go_wp2
      go_ret
      exact ⟨rfl, HK0.out⟩
end Go.Proofs.Ytbbkljgeddjghaa
