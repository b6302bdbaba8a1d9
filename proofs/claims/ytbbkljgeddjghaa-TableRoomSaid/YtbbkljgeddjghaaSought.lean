/-
  What is proved: in plain Lean: a Seeker (chapter 7) tells the live entries of its hash in their order. No program is spoken of.
-/
import Derived.Test.YtbbkljgeddjghaaGoodTab
namespace Go.Lx
set_option linter.unusedVariables false

/-- The cell at the place j of the trail is neither empty nor an entry that is to be told. -/
def passes (T : Tab) (hash told : Int) (j : Nat) : Prop := ∃ v, T.cells[tc T.log hash j]? = some v ∧ v ≠ -1 ∧ ∀ x, told < v → T.ents[v.toNat]? = some x → x.hash ≠ hash

/-- A live entry of that hash. -/
def IsOf (T : Tab) (hash : Int) (n : Nat) (x : Ent) : Prop := T.ents[n]? = some x ∧ x.live = true ∧ x.hash = hash

/-- A Seeker at the place i, that told 'told' last. -/
structure Sought (T : Tab) (hash : Int) (i : Nat) (told : Int) : Prop where
  low : -1 ≤ told
  ahead : ∀ (b : Nat) (y : Ent), IsOf T hash b y → told < b → ∀ j, T.cells[tc T.log hash j]? = some (b : Int) → i ≤ j
  full : ∀ j, j < i → T.cells[tc T.log hash j]? ≠ some (-1)

theorem Sought.start (T : Tab) (hash : Int) : Sought T hash 0 (-1) := ⟨Int.le_refl _, fun _ _ _ _ _ _ => Nat.zero_le _, fun j h => by omega⟩

theorem GoodT.some_blank {T : Tab} (h : GoodT T) (hash : Int) : ∃ k, k < 2 ^ T.log + 12 ∧ T.cells[tc T.log hash k]? = some (-1) ∧ ∀ j, j < k → T.cells[tc T.log hash j]? ≠ some (-1) := by
  have h8 : 2 ^ 3 ≤ 2 ^ T.log := Nat.pow_le_pow_right (by omega) h.lo
  have := room_third T.log
  have := h.fits
  exact h.cg.free (by omega) hash

/-- The first empty cell ahead. -/
theorem Sought.blank {T : Tab} {hash : Int} {i : Nat} {told : Int} (h : GoodT T) (hs : Sought T hash i told) : ∃ k, k < 2 ^ T.log + 12 ∧ T.cells[tc T.log hash k]? = some (-1) ∧ i ≤ k ∧ ∀ j, j < k → T.cells[tc T.log hash j]? ≠ some (-1) := by
  obtain ⟨k, h1, h2, h3⟩ := h.some_blank hash
  refine ⟨k, h1, h2, ?_, h3⟩
  by_cases hlt : i ≤ k
  · exact hlt
  · exact (hs.full k (by omega) h2).elim

theorem GoodT.cell_ok {T : Tab} (h : GoodT T) (i : Nat) (v : Int) (hv : T.cells[i]? = some v) : v < T.ents.length ∧ (v ≠ -1 → v ≠ -2 → ∃ x, T.ents[v.toNat]? = some x ∧ x.live = true ∧ 0 ≤ v) := by
  rcases h.cg.only i v hv with rfl | rfl | ⟨n, x, rfl, hx, hl⟩
  · exact ⟨by omega, fun h => (h rfl).elim⟩
  · exact ⟨by omega, fun _ h => (h rfl).elim⟩
  · have := (List.getElem?_eq_some_iff.1 hx).1
    exact ⟨by omega, fun _ _ => ⟨x, by simpa using hx, hl, by omega⟩⟩

/-- At an empty cell all have been told. -/
theorem Sought.over {T : Tab} {hash : Int} {i k : Nat} {told : Int} (h : GoodT T) (hs : Sought T hash i told) (hk : i ≤ k) (hp : ∀ j, i ≤ j → j < k → passes T hash told j) (he : T.cells[tc T.log hash k]? = some (-1)) :
    ∀ (b : Nat) (y : Ent), IsOf T hash b y → (b : Int) ≤ told := by
  intro b y hy
  by_cases hlt : (b : Int) ≤ told
  · exact hlt
  exfalso
  obtain ⟨p, h1, h2, h3⟩ := h.cg.place b y hy.1 hy.2.1
  rw [hy.2.2] at h2 h3
  have hip := hs.ahead b y hy (by omega) p h2
  have hpk : p < k := by
    by_cases e : p < k
    · exact e
    · by_cases e2 : p = k
      · subst e2; rw [h2] at he; simp at he <;> omega
      · exact (h3 k (by omega) he).elim
  obtain ⟨v, hv, hv1, hv2⟩ := hp p hip hpk
  rw [h2] at hv; simp at hv; subst hv
  exact hv2 y (by omega) (by simpa using hy.1) hy.2.2

/-- What is told is the next one. -/
theorem Sought.found {T : Tab} {hash v : Int} {i k : Nat} {told : Int} {x : Ent} (h : GoodT T) (hs : Sought T hash i told) (hk : i ≤ k) (hp : ∀ j, i ≤ j → j < k → passes T hash told j) (hv : T.cells[tc T.log hash k]? = some v)
    (hlt : told < v) (hx : T.ents[v.toNat]? = some x) (hh : x.hash = hash) :
    0 ≤ v ∧ IsOf T hash v.toNat x ∧ (∀ (b : Nat) (y : Ent), IsOf T hash b y → told < b → v ≤ b) ∧ Sought T hash (k + 1) v := by
  have hlow := hs.low
  obtain ⟨n, rfl⟩ := Int.eq_ofNat_of_zero_le (show 0 ≤ v by omega)
  simp only [Int.toNat_natCast] at hx ⊢
  have hl : x.live = true := by
    obtain ⟨y, hy, hyl, _⟩ := (h.cell_ok _ _ hv).2 (by omega) (by omega)
    simp at hy; rw [hx] at hy; cases hy; exact hyl
  have hof : IsOf T hash n x := ⟨hx, hl, hh⟩
  have hno : ∀ (b : Nat) (y : Ent), IsOf T hash b y → told < b → ∀ j, T.cells[tc T.log hash j]? = some (b : Int) → k ≤ j := by
    intro b y hy hb j hj
    have h1 := hs.ahead b y hy hb j hj
    by_cases e : k ≤ j
    · exact e
    · obtain ⟨u, hu, hu1, hu2⟩ := hp j h1 (by omega)
      rw [hj] at hu; simp at hu; subst hu
      exact (hu2 y hb (by simpa using hy.1) hy.2.2).elim
  refine ⟨by omega, hof, ?_, ⟨by omega, ?_, ?_⟩⟩
  · intro b y hy hb
    by_cases e : n ≤ b
    · omega
    · exfalso
      obtain ⟨j, hj, hc⟩ := h.cg.order b n y x (by omega) hy.1 hx hy.2.1 hl (by rw [hy.2.2, hh]) k (by rw [hy.2.2]; exact hv)
      rw [hy.2.2] at hc
      have := hno b y hy hb j hc
      omega
  · intro b y hy hb j hj
    obtain ⟨j', hj', hc⟩ := h.cg.order n b x y (by omega) hx hy.1 hl hy.2.1 (by rw [hy.2.2, hh]) j (by rw [hh]; exact hj)
    rw [hh] at hc
    have := hno n x hof hlt j' hc
    omega
  · intro j hj
    by_cases e : j < i
    · exact hs.full j e
    · by_cases e2 : j < k
      · obtain ⟨u, hu, hu1, _⟩ := hp j (by omega) e2
        rw [hu]; simpa using hu1
      · obtain rfl : j = k := by omega
        rw [hv]; simp

/-- There is a place at which a Seeker stops. -/
theorem Sought.stops {T : Tab} {hash : Int} {i : Nat} {told : Int} (h : GoodT T) (hs : Sought T hash i told) : ∃ k, i ≤ k ∧ k < 2 ^ T.log + 12 ∧ (∀ j, i ≤ j → j < k → passes T hash told j) ∧ ¬ passes T hash told k := by
  obtain ⟨E, h1, h2, h3, h4⟩ := hs.blank h
  obtain ⟨d, g1, g2, g3⟩ := first_of (p := fun d => ¬ passes T hash told (i + d)) ⟨E - i, by
    rw [show i + (E - i) = E by omega]
    rintro ⟨v, hv, hv1, _⟩
    rw [h2] at hv; simp at hv; exact hv1 hv.symm⟩
  have := g3 (E - i) (by
    rw [show i + (E - i) = E by omega]
    rintro ⟨v, hv, hv1, _⟩
    rw [h2] at hv; simp at hv; exact hv1 hv.symm)
  refine ⟨i + d, by omega, by omega, ?_, g1⟩
  intro j hj1 hj2
  have := g2 (j - i) (by omega)
  rw [show i + (j - i) = j by omega] at this
  exact Classical.not_not.1 this

end Go.Lx
