/-
  What is proved: walks of the document's answer for chapter 5 (First, Next) and for chapter 6 (Room, Width), up to 2^15 cells.
-/
import Derived.Test.YtbbkljgeddjghaaTrailW
namespace Go.Proofs.Ytbbkljgeddjghaa
open Go.RowKit Go.Lx Go.Shelf
set_option linter.unusedVariables false
set_option linter.unusedSimpArgs false

theorem upow_eq (log : Nat) (h : log ≤ 15) : IntKind.u64.wrap ((2 : Int) ^ log) = ((2 ^ log : Nat) : Int) := by
  have hle := le_two log h
  have : ((2 : Int) ^ log) = ((2 ^ log : Nat) : Int) := by simp
  rw [this]; clear this
  generalize 2 ^ log = n at *
  rw [IntKind.wrap_u64]; omega

theorem tmod_nat (a b : Nat) : ((a : Int).tmod (b : Int)) = ((a % b : Nat) : Int) := by
  rw [Int.tmod_eq_emod_of_nonneg (by omega)]; rfl

set_option maxRecDepth 100000 in
set_option maxHeartbeats 400000 in
theorem first5_any (h : Int) (log : Nat) (w : World) (hlog : log ≤ 15) :
    Calls Try.prog 33 #[.int .i64 h, .int .i64 log] w fun e w' => e = .returned (.int .i64 ((tc log h 0 : Nat))) ∧ w = w' := by
  have e1 := upow_eq log hlog
  have e2 := u64_eq h
  have hlt := tc_lt log h 0
  have hle := le_two log hlog
  have hp := Nat.two_pow_pos log
  have e4 := wrap64_nat (tc log h 0) (by omega)
  have e5 : tc log h 0 = u64 h % 2 ^ log := rfl
  have e6 : ((u64 h : Nat) : Int) % ((2 ^ log : Nat) : Int) = ((tc log h 0 : Nat) : Int) := by rw [e5]; simp
  clear e5
  generalize tc log h 0 = c at *
  generalize u64 h = u at *
  generalize 2 ^ log = N at *
  have hN : ((N : Int) == 0) = false := by simp; omega
  have hN' : ¬ (N : Int) = 0 := by omega
  have hl20 : (log : Int) ≤ 20 := by omega
  have E6 := hid e6
  have E4 := hid e4
  clear e4 e6 hlt hle
  go_enter Try.func33, Try.ntmps33
  go_wp2
  go_ret
  refine ⟨?_, rfl⟩
  simp only [List.getElem?_toArray, Array.getD_eq_getD_getElem?, List.getElem?_cons_succ, List.getElem?_cons_zero, Option.getD_some]
  rw [E6.out, E4.out]

set_option maxRecDepth 100000 in
set_option maxHeartbeats 400000 in
theorem next5_any (h : Int) (log i : Nat) (w : World) (hlog : log ≤ 15) :
    Calls Try.prog 138 #[.int .i64 ((tc log h i : Nat) : Int), .int .u64 ((u64 h / 32 ^ i : Nat) : Int), .int .i64 log] w fun e w' => e = .returned (.tuple #[.int .i64 ((tc log h (i + 1) : Nat) : Int), .int .u64 ((u64 h / 32 ^ (i + 1) : Nat) : Int)]) ∧ w = w' := by
  have e1 := upow_eq log hlog
  have hle := le_two log hlog
  have hpow := Nat.two_pow_pos log
  have hcl := tc_lt log h i
  have hcl1 := tc_lt log h (i + 1)
  have hsucc := tc_succ log h i
  have hpl : u64 h / 32 ^ i < 18446744073709551616 := Nat.lt_of_le_of_lt (Nat.div_le_self _ _) (u64_lt h)
  have e5 : u64 h / 32 ^ i / 32 = u64 h / 32 ^ (i + 1) := by rw [Nat.div_div_eq_div_mul, Nat.pow_succ]
  rw [← e5] at hsucc ⊢
  have e6 : (5 * tc log h i + u64 h / 32 ^ i / 32 + 1) % 2 ^ log = tc log h (i + 1) := hsucc.symm
  clear e5 hsucc
  generalize u64 h / 32 ^ i = p at *
  generalize tc log h i = c at *
  generalize tc log h (i + 1) = c1 at *
  generalize 2 ^ log = N at *
  have e8 : IntKind.u64.wrap (IntKind.u64.wrap (IntKind.u64.wrap (IntKind.u64.wrap (c : Int) * 5) + (p : Int) / 32) + 1) = ((5 * c + p / 32 + 1 : Nat) : Int) := by
    simp only [IntKind.wrap_u64]; omega
  have e9 := wrap64_nat c1 (by omega)
  have hN : ((N : Int) == 0) = false := by simp; omega
  have hN' : ¬ (N : Int) = 0 := by omega
  have hl20 : (log : Int) ≤ 20 := by omega
  have E6 := hid e6
  have E8 := hid e8
  have E9 := hid e9
  clear e6 e8 e9 hcl hcl1 hle
  go_enter Try.func138, Try.ntmps138
  go_wp2
  rw [E8.out, tmod_nat, E6.out, E9.out, show ((p : Int) / 32) = ((p / 32 : Nat) : Int) by simp]
  go_ret2
  exact ⟨rfl, rfl⟩

end Go.Proofs.Ytbbkljgeddjghaa
