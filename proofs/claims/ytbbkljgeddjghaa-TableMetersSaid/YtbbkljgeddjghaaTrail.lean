/-
  What is proved: the trail of a hash (chapter 5) in plain numbers: from its twelfth cell on any 2^log cells in a row are all cells.
-/
import Derived.Laws.BitsAllLaws
import Derived.Below
namespace Go.Lx

/-- The hash as a word of 64 digits without a sign. -/
def u64 (h : Int) : Nat := (h % 18446744073709551616).toNat
theorem u64_lt (h : Int) : u64 h < 18446744073709551616 := by unfold u64; omega
/-- The i-th cell of a hash's trail in 2^log cells. -/
def tc (log : Nat) (h : Int) : Nat → Nat
  | 0 => u64 h % 2 ^ log
  | i + 1 => (5 * tc log h i + u64 h / 32 ^ (i + 1) + 1) % 2 ^ log
theorem tc_succ (log : Nat) (h : Int) (i : Nat) : tc log h (i + 1) = (5 * tc log h i + u64 h / 32 ^ (i + 1) + 1) % 2 ^ log := rfl
theorem tc_lt (log : Nat) (h : Int) (i : Nat) : tc log h i < 2 ^ log := by
  cases i <;> exact Nat.mod_lt _ (Nat.two_pow_pos _)
theorem tp_zero (h : Int) (i : Nat) (hi : 13 ≤ i) : u64 h / 32 ^ i = 0 := by
  refine Nat.div_eq_of_lt (Nat.lt_of_lt_of_le (u64_lt h) ?_)
  exact Nat.le_trans (by decide : 18446744073709551616 ≤ 32 ^ 13) (Nat.pow_le_pow_right (by decide) hi)

/-- (5^n - 1) / 4 -/
def gs : Nat → Nat
  | 0 => 0
  | n + 1 => 5 * gs n + 1
theorem gs_add (m n : Nat) : gs (m + n) = 5 ^ n * gs m + gs n := by
  induction n with
  | zero => simp [gs]
  | succ n ih => rw [← Nat.add_assoc]; simp only [gs, ih, Nat.pow_succ]; grind
theorem five_two (k : Nat) : ∃ a c, 5 ^ 2 ^ k = 1 + 2 ^ (k + 2) * a ∧ gs (2 ^ k) = 2 ^ k + 2 ^ (k + 1) * c := by
  induction k with
  | zero => exact ⟨1, 0, by decide, by decide⟩
  | succ k ih =>
    obtain ⟨a, c, h1, h2⟩ := ih
    have e : 2 ^ (k + 1) = 2 ^ k + 2 ^ k := by rw [Nat.pow_succ]; omega
    refine ⟨a + 2 ^ (k + 1) * a * a, c + 2 ^ k * a + 2 ^ (k + 1) * (a * c), ?_, ?_⟩
    · rw [e, Nat.pow_add, h1]
      simp only [Nat.pow_succ]
      grind
    · rw [e, gs_add, h1, h2]
      simp only [Nat.pow_succ]
      grind
theorem cycle_all (log : Nat) : ∀ (x y : Nat), ∃ i, i < 2 ^ log ∧ (5 ^ i * x + gs i) % 2 ^ log = y % 2 ^ log := by
  induction log with
  | zero => intro x y; exact ⟨0, by decide, by simp [Nat.mod_one]⟩
  | succ log ih =>
    intro x y
    obtain ⟨i, hi, h⟩ := ih x y
    obtain ⟨a, c, h1, h2⟩ := five_two log
    have e : 2 ^ (log + 1) = 2 * 2 ^ log := by rw [Nat.pow_succ]; omega
    by_cases hc : (5 ^ i * x + gs i) % 2 ^ (log + 1) = y % 2 ^ (log + 1)
    · exact ⟨i, by omega, hc⟩
    · refine ⟨i + 2 ^ log, by omega, ?_⟩
      have hz : 5 ^ (i + 2 ^ log) * x + gs (i + 2 ^ log) = (5 ^ i * x + gs i) + 2 ^ log + 2 ^ (log + 1) * (2 * a * (5 ^ i * x + gs i) + c) := by
        rw [gs_add, Nat.pow_add, h1, h2]
        simp only [Nat.pow_succ]
        grind
      rw [hz, Nat.add_mul_mod_self_left]
      clear hz h1 h2
      generalize 5 ^ i * x + gs i = z at h hc ⊢
      have hM : 0 < 2 ^ log := Nat.two_pow_pos _
      rw [Nat.pow_succ] at hc ⊢
      generalize 2 ^ log = M at *
      rw [Nat.mod_mul, Nat.mod_mul, h] at hc
      rw [Nat.mod_mul, Nat.mod_mul, Nat.add_mod_right, Nat.add_div_right _ hM, h]
      have hq : z / M % 2 ≠ y / M % 2 := fun e => hc (by rw [e])
      have : (z / M).succ % 2 = y / M % 2 := by omega
      rw [this]
/-- From the twelfth cell on the trail goes on by 5 x + 1 alone. -/
theorem tc_from (log : Nat) (h : Int) (j : Nat) : tc log h (12 + j) = (5 ^ j * tc log h 12 + gs j) % 2 ^ log := by
  induction j with
  | zero => simp only [Nat.add_zero, Nat.pow_zero, Nat.one_mul, gs]; exact (Nat.mod_eq_of_lt (tc_lt _ _ _)).symm
  | succ j ih =>
    rw [show 12 + (j + 1) = (12 + j) + 1 by omega]
    generalize tc log h 12 = x at ih ⊢
    rw [tc_succ, tp_zero h (12 + j + 1) (by omega), ih, Nat.add_zero, gs]
    rw [Nat.add_mod, Nat.mul_mod, Nat.mod_mod, ← Nat.mul_mod, ← Nat.add_mod]
    congr 1
    rw [Nat.pow_succ]; grind
/-- Each cell stands in the trail, ahead of the place 2^log + 12. -/
theorem tc_all (log : Nat) (h : Int) (y : Nat) (hy : y < 2 ^ log) : ∃ i, i < 2 ^ log + 12 ∧ tc log h i = y := by
  obtain ⟨i, hi, he⟩ := cycle_all log (tc log h 12) y
  exact ⟨12 + i, by omega, by rw [tc_from, he, Nat.mod_eq_of_lt hy]⟩

end Go.Lx
