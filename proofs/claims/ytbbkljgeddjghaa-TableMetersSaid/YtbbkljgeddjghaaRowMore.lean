/-
  What is proved: copy of one element within a row of one's own; clear of what stands behind a place; a row cut. No program is spoken of.
-/
import Derived.Test.YtbbkljgeddjghaaRow
import Derived.Laws.CopyOwn
namespace Go.Lx
open Go.RowKit
set_option linter.unusedVariables false

/-- Cells laid over a list from a place on. -/
def over (l : List Value) (o : Nat) (cs : List Value) : List Value := l.take o ++ cs ++ l.drop (o + cs.length)
theorem over_len (l : List Value) (o : Nat) (cs : List Value) (h : o + cs.length ≤ l.length) : (over l o cs).length = l.length := by simp [over]; omega

section
variable {P : Program} (w : World)
theorem Row.store {w : World} {E : TypeId} {m n : Nat} {sv : Value} {xs : List Value} (h : Row w E m sv n xs) {g : Nat} (hg : sv.ownBlock = some g) (o : Nat) (cs : List Value) (hfit : o + cs.length ≤ xs.length) (h1 : ∀ v ∈ cs, v.oneCell' = true) :
    ∃ w', (storeCells ⟨g, o, none⟩ cs 0).run P w = .ok () w' ∧ Row w' E m sv n (over xs o cs) ∧ w.grownBy w' (some g) := by
  rcases h.2 with ⟨rfl, _⟩ | ⟨g', cap, cur, rfl, hb, hgg, h2, h3, h4, h5⟩
  · simp [Value.ownBlock] at hg
  · simp [Value.ownBlock] at hg
    subst hg
    have hxl : xs.length ≤ cur.size := by rw [← h5]; simp; omega
    have hst := run_storeCells_at P g' o E cs 0 cur w hgg (by simp; omega) h1
    simp only [Nat.add_zero] at hst
    refine ⟨_, hst, ⟨by rw [over_len _ _ _ hfit]; exact h.1, .inr ⟨g', cap, _, rfl, hb, setRow_heap w g' cur _ E _ hgg, h2, h3, ?_, ?_⟩⟩, ⟨rfl, rfl, rfl, by simp [World.setRow], fun k _ hk => setRow_other w g' k _ (fun e => hk (by rw [e]))⟩⟩
    · simp only [List.size_toArray, List.length_append, List.length_take, List.length_drop, Array.length_toList]; omega
    · have e1 : cur.toList.take o = xs.take o := by rw [← h5, List.take_take, Nat.min_eq_left (by have := h.1; omega)]
      have hl : (xs.take o ++ cs).length = o + cs.length := by simp; omega
      have hN : o + cs.length ≤ n * m := by rw [← h.1]; exact hfit
      unfold over
      rw [e1]
      rw [show (xs.take o ++ cs ++ cur.toList.drop (o + cs.length)).take (n * m) = xs.take o ++ cs ++ (cur.toList.drop (o + cs.length)).take (n * m - (o + cs.length)) by rw [List.take_append, hl, List.take_of_length_le (by rw [hl]; exact hN)]]
      rw [← List.drop_take, h5]

theorem run_copy_in (dT sT ty elem : TypeId) (i : TypeInfo) (m : Nat) (hu : P.underlying dT = some (.slice elem)) (hi : P.info? elem = some i) (hm : i.size = m)
    {sv : Value} {n : Nat} {xs : List Value} (h : Row w elem m sv n xs) {g : Nat} (hg : sv.ownBlock = some g) (a b c1 c2 : Nat) (cs : List Value) (hcs : cs.length = m) (hsrc : ∀ j v, cs[j]? = some v → xs[b + j]? = some v) (hfit : a + m ≤ xs.length) (h1 : ∀ v ∈ cs, v.oneCell' = true) :
    ∃ w', (Builtin.copy_ #[dT, sT] ty #[.slice (some ⟨g, a, none⟩) 1 c1, .slice (some ⟨g, b, none⟩) 1 c2]).run P w = .ok (goInt 1) w' ∧ Row w' elem m sv n (over xs a cs) ∧ w.grownBy w' (some g) := by
  obtain ⟨w', hr, h2, h3⟩ := h.store (P := P) hg a cs (by omega) h1
  refine ⟨w', ?_, h2, h3⟩
  have hl : (Builtin.firstCells i.size 1 (.slice (some ⟨g, b, none⟩) 1 c2)).run P w = .ok cs.toArray w := by
    refine run_firstCells_some (P := P) w i.size 1 ⟨g, b, none⟩ 1 c2 cs (by omega) fun j v hv => ?_
    have := h.cell hg (hsrc j v hv)
    rwa [show (⟨g, b, none⟩ : Addr).add j = ⟨g, b + j, none⟩ by unfold Addr.add; split <;> simp_all]
  have hmin : Nat.min 1 1 = 1 := rfl
  simp [Builtin.copy_, run_underlying hu, Builtin.lenOf, sizeOf, typeInfo, hi, hmin, hl, hr, Result.andThen]

theorem step_copy_in {w : World} {ops : Array Oper} {o : Oper} {a : Act} {K : Act → World → Prop} {Q : Exit → Act → World → Prop} {E : Prop} (hgd : o.guard = none) (d s : Operand) (dT sT : TypeId)
    (ho : o.op = .call { callee := .builtin .copy, args := #[d, s], argTypes := #[dT, sT] }) (elem : TypeId) (i : TypeInfo) (m : Nat) (hu : P.underlying dT = some (.slice elem)) (hi : P.info? elem = some i) (hm : i.size = m)
    {sv : Value} {n : Nat} {xs : List Value} (h : Row w elem m sv n xs) {g : Nat} (hg : sv.ownBlock = some g) (x b c1 c2 : Nat) (hd : a.eval d = .slice (some ⟨g, x, none⟩) 1 c1) (hs : a.eval s = .slice (some ⟨g, b, none⟩) 1 c2)
    (cs : List Value) (hcs : cs.length = m) (hsrc : ∀ j v, cs[j]? = some v → xs[b + j]? = some v) (hfit : x + m ≤ xs.length) (h1 : ∀ v ∈ cs, v.oneCell' = true)
    (hK : ∀ w', Row w' elem m sv n (over xs x cs) → w.grownBy w' (some g) → K (a.put o.dst (goInt 1)) w') : if Region.wanted o (yielded ops a.tmps) = true then Oper.wp P o a w K Q else E := by
  have hw : Region.wanted o (yielded ops a.tmps) = true := by simp [Region.wanted, hgd]
  rw [if_pos hw]
  obtain ⟨w', hr, h2, h3⟩ := run_copy_in (P := P) w dT sT o.type elem i m hu hi hm h hg x b c1 c2 cs hcs hsrc hfit h1
  unfold Oper.wp
  simp [execOp, ho, resolve, invoke, builtin, hd, hs, hr, Result.andThen]
  exact hK w' h2 h3

/-- clear of the elements from a place on. -/
theorem run_clear_row {w : World} (T ty elem : TypeId) (i : TypeInfo) (z : Value) (m : Nat) (hu : P.underlying T = some (.slice elem)) (hi : P.info? elem = some i) (hz : i.zero = some z) (hzs : z.cells.size = m)
    {sv : Value} {n : Nat} {xs : List Value} (h : Row w elem m sv n xs) {g : Nat} (hg : sv.ownBlock = some g) (x k c : Nat) (p : Option Addr) (hp : 0 < k → p = some ⟨g, x, none⟩)
    (hfit : x + k * m ≤ xs.length) (h1 : ∀ v ∈ (Builtin.zeroCells z.cells k).toList, v.oneCell' = true) :
    ∃ w', (Builtin.clear_ #[T] ty #[.slice p k c]).run P w = .ok (.tuple #[]) w' ∧ Row w' elem m sv n (over xs x (Builtin.zeroCells z.cells k).toList) ∧ w.grownBy w' (some g) := by
  have hzl : (Builtin.zeroCells z.cells k).toList.length = k * m := by rw [Array.length_toList, size_zeroCells, hzs]
  by_cases h0 : k = 0
  · subst h0
    have e0 : (Builtin.zeroCells z.cells 0).toList = [] := List.eq_nil_of_length_eq_zero (by simpa using hzl)
    refine ⟨w, ?_, by rw [e0]; simpa [over] using h, ⟨rfl, rfl, rfl, Nat.le_refl _, fun _ _ _ => rfl⟩⟩
    cases p <;> simp [Builtin.clear_, run_underlying hu, Result.andThen]
  · obtain rfl := hp (by omega)
    obtain ⟨w', hr, h2, h3⟩ := h.store (P := P) hg x (Builtin.zeroCells z.cells k).toList (by omega) h1
    obtain ⟨k, rfl⟩ : ∃ j, k = j + 1 := ⟨k - 1, by omega⟩
    refine ⟨w', ?_, h2, h3⟩
    simp [Builtin.clear_, run_underlying hu, zeroValue, typeInfo, hi, hz, hr, Result.andThen]
/-- A row cut to its first elements. -/
theorem Row.cut {w : World} {E : TypeId} {m n : Nat} {xs : List Value} {g cap : Nat} (h : Row w E m (.slice (some ⟨g, 0, none⟩) n cap) n xs) (k : Nat) (hk : k ≤ n) : Row w E m (.slice (some ⟨g, 0, none⟩) k cap) k (xs.take (k * m)) := by
  rcases h.2 with ⟨h0, _⟩ | ⟨g', cap', cur, h0, hb, hgg, h2, h3, h4, h5⟩
  · cases h0
  · simp at h0
    obtain ⟨rfl, rfl⟩ := h0
    have hkm : k * m ≤ n * m := Nat.mul_le_mul_right _ hk
    refine ⟨by rw [List.length_take, h.1, Nat.min_eq_left hkm], .inr ⟨_, _, cur, rfl, hb, hgg, by omega, h3, h4, ?_⟩⟩
    rw [← h5, List.take_take, Nat.min_eq_left hkm]
end
end Go.Lx
