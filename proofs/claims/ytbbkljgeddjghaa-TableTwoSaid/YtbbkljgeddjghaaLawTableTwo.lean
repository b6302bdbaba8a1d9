/-
  What is proved: the given statement of lexiconlaw: TableTwo, for every input. (The frame is in the way of the kit's skeleton program; the walk is TwoLaw's.)
-/
import Derived.Test.YtbbkljgeddjghaaRows
import Derived.Test.YtbbkljgeddjghaaTwoLaw
import Derived.Test.YtbbkljgeddjghaaSteps
import Derived.WalkKit
import Derived.ProofKit
import Derived.OpenShut
import Derived.ShutString
import Derived.ChangeOld
import Derived.Below
namespace Go.Proofs.Ytbbkljgeddjghaa.tableTwo
open Go.ChangeShapes Go.WideShapes Go.ChangeAt Go.RowKit
open Go.ChangeMaps (open_string shut_string)
open Go.Lx
set_option linter.unusedVariables false

theorem own : ownKnob Try.prog.godebug = none := by kernel_rfl
theorem laidOut : laidOutB Try.prog = true := by kernel_rfl

theorem walk (a0 : Option Addr) (cap0 : Nat) (z0 : List Stp) (a1 : Option Addr) (cap1 : Nat) (z1 : List Stp) (a2 : Option Addr) (cap2 : Nat) (z2 : List Stp) (w : World) (w0 : Stps w a0 z0) (l0 : z0.length ≤ maxLen) (w1 : Stps w a1 z1) (l1 : z1.length ≤ maxLen) (w2 : Stps w a2 z2) (l2 : z2.length ≤ maxLen) :
    Calls Try.prog 9 #[.slice a0 z0.length cap0, .slice a1 z1.length cap1, .slice a2 z2.length cap2] w fun e w' => e = .returned (.bool true) ∧ Below w.heap.size w w' :=
  (tableTwo_walk a0 cap0 z0 a1 cap1 z1 a2 cap2 z2 w w0 l0 w1 l1 w2 l2).mono fun e w' ⟨he, hk⟩ => ⟨he, hk.below (Nat.le_refl _) (fun _ h => h.elim)⟩

set_option maxRecDepth 100000 in
theorem lifted (os : Os) (started : os.Started) (H : Type) (enc : TypeId × Value → H) :
    ReturnsInHanded {} Try.checked os 9 .any (Rows.tableTwoSpec.pre6 enc Try.prog Try.f9 Rows.tableTwoRow.domain false) (Rows.tableTwoSpec.post enc Try.prog Try.f9 false true false false) := by
  refine returnsInHanded_of_change (C := Try.checked) own started (by kernel_rfl) Try.func9
    (ChangeSpec.witness6 (enc := enc) (C := Try.checked) false ⟨#[], #[.slice none 0 0, .slice none 0 0, .slice none 0 0], []⟩ 8 (by kernel_rfl) (by kernel_rfl) (by kernel_rfl) (by kernel_rfl)) ?_
  intro W base args ds gs before hval0 hW hcnd _
  have hval : ∀ (j : Nat) t v, Try.f9.params[j]? = some t → args[j]? = some v → Value.okWide Try.prog W .any base t v := hval0
  have hW' := hW
  obtain ⟨p, q, hA0, hV, rfl, hfz, hnd⟩ := hW
  have hA : DataW.TrodAll enc Try.prog W 0 (fun _ => true) true Try.f9.params.toList args.toList ds p := hA0
  rw [Try.params9] at hA hval
  obtain ⟨v0, vs0, d0, ds0, p0, q0, hargs, rfl, rfl, h0, r0⟩ := trodAll_cons hA
  obtain ⟨v1, vs1, d1, ds1, p1, q1, rfl, rfl, rfl, h1, r1⟩ := trodAll_cons r0
  obtain ⟨v2, vs2, d2, ds2, p2, q2, rfl, rfl, rfl, h2, r2⟩ := trodAll_cons r1
  obtain ⟨rfl, rfl, rfl⟩ := trodAll_nil r2
  obtain rfl : args = #[v0, v1, v2] := by cases args; simp_all
  obtain ⟨rfl, rfl⟩ := trodVars_none hV
  obtain ⟨a0, len0, cap0, rfl⟩ := okWide_slice Try.underlying49 (hval 0 49 v0 rfl rfl)
  have k0 := h0
  have lt0 : ∀ x ∈ p0, x.block < W.heap.size := by obtain ⟨m, hm⟩ := k0; exact DataW.trod_lt m _ _ _ hm
  obtain ⟨z0, e0, l0, w0⟩ : ∃ zs : List Stp, len0 = zs.length ∧ zs.length ≤ maxLen ∧ Stps W a0 zs := by
    obtain ⟨fuel, hf⟩ := h0
    obtain ⟨a, c, zs, hcs, hl, hst⟩ := open_steps Try.underlying49 Try.underlying61 (Go.Deep.hone_of (by kernel_rfl)) (by kernel_rfl) rfl (ti := 3) (by intro i f h; rcases i with _ | _ | _ | _ | _ | i <;> simp at h <;> subst h <;> rfl) Try.underlying3 hf
    simp [Value.cells] at hcs
    obtain ⟨rfl, rfl, rfl⟩ := hcs
    exact ⟨zs, rfl, hl, hst⟩
  subst e0
  obtain ⟨a1, len1, cap1, rfl⟩ := okWide_slice Try.underlying49 (hval 1 49 v1 rfl rfl)
  have k1 := h1
  have lt1 : ∀ x ∈ p1, x.block < W.heap.size := by obtain ⟨m, hm⟩ := k1; exact DataW.trod_lt m _ _ _ hm
  obtain ⟨z1, e1, l1, w1⟩ : ∃ zs : List Stp, len1 = zs.length ∧ zs.length ≤ maxLen ∧ Stps W a1 zs := by
    obtain ⟨fuel, hf⟩ := h1
    obtain ⟨a, c, zs, hcs, hl, hst⟩ := open_steps Try.underlying49 Try.underlying61 (Go.Deep.hone_of (by kernel_rfl)) (by kernel_rfl) rfl (ti := 3) (by intro i f h; rcases i with _ | _ | _ | _ | _ | i <;> simp at h <;> subst h <;> rfl) Try.underlying3 hf
    simp [Value.cells] at hcs
    obtain ⟨rfl, rfl, rfl⟩ := hcs
    exact ⟨zs, rfl, hl, hst⟩
  subst e1
  obtain ⟨a2, len2, cap2, rfl⟩ := okWide_slice Try.underlying49 (hval 2 49 v2 rfl rfl)
  have k2 := h2
  have lt2 : ∀ x ∈ p2, x.block < W.heap.size := by obtain ⟨m, hm⟩ := k2; exact DataW.trod_lt m _ _ _ hm
  obtain ⟨z2, e2, l2, w2⟩ : ∃ zs : List Stp, len2 = zs.length ∧ zs.length ≤ maxLen ∧ Stps W a2 zs := by
    obtain ⟨fuel, hf⟩ := h2
    obtain ⟨a, c, zs, hcs, hl, hst⟩ := open_steps Try.underlying49 Try.underlying61 (Go.Deep.hone_of (by kernel_rfl)) (by kernel_rfl) rfl (ti := 3) (by intro i f h; rcases i with _ | _ | _ | _ | _ | i <;> simp at h <;> subst h <;> rfl) Try.underlying3 hf
    simp [Value.cells] at hcs
    obtain ⟨rfl, rfl, rfl⟩ := hcs
    exact ⟨zs, rfl, hl, hst⟩
  subst e2
  clear hA0 hval0
  refine (walk a0 cap0 z0 a1 cap1 z1 a2 cap2 z2 W w0 l0 w1 l1 w2 l2).mono fun e W' ⟨he, bel⟩ => ?_
  subst he
  exact ⟨_, rfl, _, _, _, [], _, [], hW', trodAll_mk1 (shut_bool Try.underlying4 _), (trodAll_cons_mk (Below.trod laidOut (by kernel_rfl) (of_decide_eq_true (by kernel_rfl)) k0 bel lt0) (trodAll_cons_mk (Below.trod laidOut (by kernel_rfl) (of_decide_eq_true (by kernel_rfl)) k1 bel lt1) (trodAll_cons_mk (Below.trod laidOut (by kernel_rfl) (of_decide_eq_true (by kernel_rfl)) k2 bel lt2) trodAll_mk0))), rfl, bel.frame _, fun h => by cases h⟩

theorem over : Rows.tableTwoRow.holds Try.pinned (OpenSpec.ofChange Rows.tableTwoSpec) :=
  OpenClaim.holds_of_wide 9 Try.f9 rfl rfl rfl rfl rfl rfl rfl ⟨rfl, rfl, rfl, rfl, rfl⟩ rfl rfl rfl rfl rfl (by kernel_rfl) Try.func9 (by kernel_rfl)
    (of_decide_eq_true (by kernel_rfl)) (by unfold Func.isWrapper; first | (rw [if_pos (by decide +kernel)]; kernel_rfl) | (rw [if_neg (by decide +kernel)]; exact ⟨rfl, rfl⟩))
    (fun os started H enc _ => lifted os started H enc)

/-- The given statement. -/
theorem proved : Rows.TableTwoSaid := over
#print axioms proved
end Go.Proofs.Ytbbkljgeddjghaa.tableTwo
