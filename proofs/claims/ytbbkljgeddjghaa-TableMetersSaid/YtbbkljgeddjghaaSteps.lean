/-
  What is proved: a slice of structs of one-cell fields that comes in, opened: its cells. No program is spoken of.
-/
import Derived.Deep.Fields
import Derived.Test.YtbbkljgeddjghaaBase
namespace Go.Lx
open Go.Deep Go.ChangeShapes Go.WideShapes
set_option linter.unusedVariables false

section
variable {H : Type} {enc : TypeId × Value → H} {P : Program} {w : World} {base : Nat} {spare : Nat → Bool} {held : Bool}
/-- Each element's fields, each one cell. -/
theorem open_structs {t e : TypeId} {fs : Array Field} {fuel : Nat} {cs : List Value} {x : DataW H × List MemPlace} (ht : P.underlying t = some (.slice e)) (he : P.underlying e = some (.struct fs))
    (hone : ∀ (i : Nat) (f : Field), fs[i]? = some f → f.offset = i ∧ P.cellsOf f.type = 1) (hC : P.cellsOf e = fs.size) (h : DataW.trod enc P w base spare held fuel t cs = some x) :
    cs = [.slice none 0 0] ∨ ∃ (a : Addr) (len cap : Nat), cs = [.slice (some a) len cap] ∧ len ≤ cap ∧ cap ≤ maxLen ∧
      ∀ i, i < len → ∀ (j : Nat) (f : Field), fs[j]? = some f → ∃ v y n, w.cell? (a.add (i * fs.size + j)) = some v ∧ DataW.trod enc P w base spare held n f.type [v] = some y := by
  rcases open_slice ht h with ⟨h0, _⟩ | ⟨a, len, cap, m, n, D, Pl, rfl, hb, hl, hm, hmm, rfl, hx⟩
  · exact Or.inl h0
  right
  refine ⟨a, len, cap, rfl, hl, hm, ?_⟩
  intro i hi j f hf
  obtain ⟨cs', h1, h2⟩ := hx i (by rw [hmm]; split <;> omega)
  rw [hC] at h1
  obtain ⟨_, hlen, hcell⟩ := World.cells?_some h1
  obtain ⟨xs, k, hk, _, _, hxl, hf'⟩ := DataW.trod_struct he h2
  have hj : j < fs.size := (Array.getElem?_eq_some_iff.1 hf).1
  obtain ⟨ho, hc1⟩ := hone j f hf
  have g := hf' j f hf
  rw [ho, hc1, take1_drop cs' j undef (by omega), List.getElem?_eq_getElem (by omega)] at g
  refine ⟨cs'.getD j undef, _, k, ?_, g⟩
  have := hcell j hj
  rw [add_add] at this
  rw [this]
  simp [List.getD, List.getElem?_eq_getElem (show j < cs'.length by omega)]
end

/-- A step of a script of chapter 7. -/
structure Stp where
  kind : Int
  hash : Int
  key : Int
  value : Int
  n : Int
  deriving Inhabited
def Stp.vals (s : Stp) : List Value := [.int .i64 s.kind, .int .i64 s.hash, .int .i64 s.key, .int .i64 s.value, .int .i64 s.n]
/-- Each integer fits its kind. -/
def Stp.wf (s : Stp) : Prop := ∀ v ∈ [s.kind, s.hash, s.key, s.value, s.n], (Lit.int .i64 v).wf = true

/-- The slice at a holds these steps. -/
structure Stps (w : World) (a : Option Addr) (ss : List Stp) : Prop where
  wf : ∀ s ∈ ss, s.wf
  at_ : ss = [] ∨ ∃ b off, a = some ⟨b, off, none⟩ ∧ b < w.heap.size ∧ ∀ (i : Nat) (s : Stp), ss[i]? = some s → ∀ (j : Nat) (v : Value), s.vals[j]? = some v → w.cell? ⟨b, off + i * 5 + j, none⟩ = some v

theorem Stps.kept {R : Nat → Prop} {w w' : World} {a : Option Addr} {ss : List Stp} (h : Stps w a ss) (hk : Kept R w w') (hR : ∀ b, b < w.heap.size → ¬ R b) : Stps w' a ss := by
  refine ⟨h.wf, ?_⟩
  rcases h.at_ with h0 | ⟨b, off, h1, h2, h3⟩
  · exact .inl h0
  · exact .inr ⟨b, off, h1, Nat.lt_of_lt_of_le h2 hk.size, fun i s hs j v hv => (World.cell?_of_block (a := ⟨b, off + i * 5 + j, none⟩) (hk.block b h2 (hR b h2))).trans (h3 i s hs j v hv)⟩

theorem Stps.at {w : World} {a : Option Addr} {ss : List Stp} (h : Stps w a ss) {i : Nat} {s : Stp} (hs : ss[i]? = some s) : ∃ b off, a = some ⟨b, off, none⟩ ∧ b < w.heap.size ∧
    w.cell? ⟨b, off + i * 5, none⟩ = some (.int .i64 s.kind) ∧ w.cell? ⟨b, off + i * 5 + 1, none⟩ = some (.int .i64 s.hash) ∧ w.cell? ⟨b, off + i * 5 + 2, none⟩ = some (.int .i64 s.key) ∧ w.cell? ⟨b, off + i * 5 + 3, none⟩ = some (.int .i64 s.value) ∧ w.cell? ⟨b, off + i * 5 + 4, none⟩ = some (.int .i64 s.n) := by
  rcases h.at_ with rfl | ⟨b, off, h1, h2, h3⟩
  · simp at hs
  · exact ⟨b, off, h1, h2, h3 i s hs 0 _ rfl, h3 i s hs 1 _ rfl, h3 i s hs 2 _ rfl, h3 i s hs 3 _ rfl, h3 i s hs 4 _ rfl⟩

section
variable {H : Type} {enc : TypeId × Value → H} {P : Program} {w : World} {base : Nat} {spare : Nat → Bool} {held : Bool}
theorem open_steps {t e ti : TypeId} {fs : Array Field} {fuel : Nat} {cs : List Value} {x : DataW H × List MemPlace} (ht : P.underlying t = some (.slice e)) (he : P.underlying e = some (.struct fs))
    (hone : ∀ (i : Nat) (f : Field), fs[i]? = some f → f.offset = i ∧ P.cellsOf f.type = 1) (hC : P.cellsOf e = fs.size) (h5 : fs.size = 5) (hty : ∀ (i : Nat) (f : Field), fs[i]? = some f → f.type = ti) (hti : P.underlying ti = some (.int .i64)) (h : DataW.trod enc P w base spare held fuel t cs = some x) :
    ∃ (a : Option Addr) (cap : Nat) (ss : List Stp), cs = [.slice a ss.length cap] ∧ ss.length ≤ maxLen ∧ Stps w a ss := by
  rcases open_structs ht he hone hC h with rfl | ⟨a, len, cap, rfl, hl, hm, hx⟩
  · exact ⟨none, 0, [], rfl, by simp [maxLen], ⟨by simp, .inl rfl⟩⟩
  have each : ∀ i, i < len → ∃ s : Stp, s.wf ∧ ∀ (j : Nat) (v : Value), s.vals[j]? = some v → w.cell? (a.add (i * 5 + j)) = some v := by
    intro i hi
    have one : ∀ j, j < 5 → ∃ z : Int, w.cell? (a.add (i * 5 + j)) = some (.int .i64 z) ∧ (Lit.int .i64 z).wf = true := by
      intro j hj
      have hj' : j < fs.size := by omega
      obtain ⟨v, y, n, h1, h2⟩ := hx i hi j fs[j] (Array.getElem?_eq_getElem hj')
      rw [hty j fs[j] (Array.getElem?_eq_getElem hj')] at h2
      obtain ⟨z, h3, _, h4⟩ := DataW.trod_int hti h2
      obtain rfl : v = .int .i64 z := by simpa using h3
      rw [h5] at h1
      exact ⟨z, h1, h4⟩
    obtain ⟨z0, a0, b0⟩ := one 0 (by omega)
    obtain ⟨z1, a1, b1⟩ := one 1 (by omega)
    obtain ⟨z2, a2, b2⟩ := one 2 (by omega)
    obtain ⟨z3, a3, b3⟩ := one 3 (by omega)
    obtain ⟨z4, a4, b4⟩ := one 4 (by omega)
    refine ⟨⟨z0, z1, z2, z3, z4⟩, ?_, ?_⟩
    · intro v hv
      simp at hv
      rcases hv with rfl | rfl | rfl | rfl | rfl <;> assumption
    · intro j v hv
      match j, hv with
      | 0, hv => simp [Stp.vals] at hv; subst hv; exact a0
      | 1, hv => simp [Stp.vals] at hv; subst hv; exact a1
      | 2, hv => simp [Stp.vals] at hv; subst hv; exact a2
      | 3, hv => simp [Stp.vals] at hv; subst hv; exact a3
      | 4, hv => simp [Stp.vals] at hv; subst hv; exact a4
      | j + 5, hv => simp [Stp.vals] at hv
  obtain ⟨f, hf⟩ := choose_lt each
  have hlen : ((List.range len).map f).length = len := by simp
  refine ⟨some a, cap, (List.range len).map f, by rw [hlen], by omega, ⟨?_, ?_⟩⟩
  · intro s hs
    obtain ⟨i, hi, rfl⟩ := List.mem_map.1 hs
    exact (hf i (List.mem_range.1 hi)).1
  · by_cases h0 : len = 0
    · subst h0; exact .inl rfl
    · obtain ⟨b, off, spot⟩ := a
      have hc0 := (hf 0 (by omega)).2 0 _ rfl
      have hspot : spot = none := by simpa [Addr.add] using World.cell?_spot hc0
      subst hspot
      have hb : b < w.heap.size := World.block_lt_of_cell? w ⟨b, off, none⟩ (by simpa [Addr.add] using hc0)
      refine .inr ⟨b, off, rfl, hb, ?_⟩
      intro i s hs j v hv
      have hi : i < len := by have := (List.getElem?_eq_some_iff.1 hs).1; simpa using this
      have e : s = f i := by rw [List.getElem?_map, List.getElem?_range hi] at hs; simpa using hs.symm
      subst e
      have := (hf i hi).2 j v hv
      rw [show (⟨b, off, none⟩ : Addr).add (i * 5 + j) = ⟨b, off + i * 5 + j, none⟩ by unfold Addr.add; split <;> simp_all; omega] at this
      exact this
end
end Go.Lx
