/-
  What is proved: in plain Lean: a Seeker (chapter 7) tells the live entries of its hash in their order. No program is spoken of.
-/
import Derived.Test.YtbbkljgeddjghaaGoodTab
namespace Go.Lx
set_option linter.unusedVariables false

/-- The cell at the place j of the trail is neither empty nor an entry that is to be told. -/
def passes (T : Tab) (hash told : Int) (j : Nat) : Prop := ∃ v, T.cells[tc T.log hash j]? = some v ∧ v ≠ -1 ∧ ∀ x, told < v → T.ents[v.toNat]? = some x → x.hash ≠ hash

/-- A live entry of that hash. -/
def IsOf (T : Tab) (hash : Int) (n : Nat) (x : Ent) : Prop := T.ents[n]? = some x ∧ x.live = true ∧ x.hash = hash

/-- A Seeker at the place i, that told 'told' last. -/
structure Sought (T : Tab) (hash : Int) (i : Nat) (told : Int) : Prop where
  low : -1 ≤ told
  ahead : ∀ (b : Nat) (y : Ent), IsOf T hash b y → told < b → ∀ j, T.cells[tc T.log hash j]? = some (b : Int) → i ≤ j
  full : ∀ j, j < i → T.cells[tc T.log hash j]? ≠ some (-1)

theorem Sought.start (T : Tab) (hash : Int) : Sought T hash 0 (-1) := ⟨Int.le_refl _, fun _ _ _ _ _ _ => Nat.zero_le _, fun j h => by omega⟩

theorem GoodT.some_blank {T : Tab} (h : GoodT T) (hash : Int) : ∃ k, k < 2 ^ T.log + 12 ∧ T.cells[tc T.log hash k]? = some (-1) ∧ ∀ j, j < k → T.cells[tc T.log hash j]? ≠ some (-1) := by
  have h8 : 2 ^ 3 ≤ 2 ^ T.log := Nat.pow_le_pow_right (by omega) h.lo
  have := room_third T.log
  have := h.fits
  exact h.cg.free (by omega) hash

/-- The first empty cell ahead. -/
theorem Sought.blank {T : Tab} {hash : Int} {i : Nat} {told : Int} (h : GoodT T) (hs : Sought T hash i told) : ∃ k, k < 2 ^ T.log + 12 ∧ T.cells[tc T.log hash k]? = some (-1) ∧ i ≤ k ∧ ∀ j, j < k → T.cells[tc T.log hash j]? ≠ some (-1) := by
  obtain ⟨k, h1, h2, h3⟩ := h.some_blank hash
  refine ⟨k, h1, h2, ?_, h3⟩
  by_cases hlt : i ≤ k
  · exact hlt
  · exact (hs.full k (by omega) h2).elim

theorem GoodT.cell_ok {T : Tab} (h : GoodT T) (i : Nat) (v : Int) (hv : T.cells[i]? = some v) : v < T.ents.length ∧ (v ≠ -1 → v ≠ -2 → ∃ x, T.ents[v.toNat]? = some x ∧ x.live = true ∧ 0 ≤ v) := by
  rcases h.cg.only i v hv with rfl | rfl | ⟨n, x, rfl, hx, hl⟩
  · exact ⟨by omega, fun h => (h rfl).elim⟩
  · exact ⟨by omega, fun _ h => (h rfl).elim⟩
  · have := (List.getElem?_eq_some_iff.1 hx).1
    exact ⟨by omega, fun _ _ => ⟨x, by simpa using hx, hl, by omega⟩⟩

/-- At an empty cell all have been told. -/
theorem Sought.over {T : Tab} {hash : Int} {i k : Nat} {told : Int} (h : GoodT T) (hs : Sought T hash i told) (hk : i ≤ k) (hp : ∀ j, i ≤ j → j < k → passes T hash told j) (he : T.cells[tc T.log hash k]? = some (-1)) :
    ∀ (b : Nat) (y : Ent), IsOf T hash b y → (b : Int) ≤ told := by
  intro b y hy
  by_cases hlt : (b : Int) ≤ told
  · exact hlt
  exfalso
  obtain ⟨p, h1, h2, h3⟩ := h.cg.place b y hy.1 hy.2.1
  rw [hy.2.2] at h2 h3
  have hip := hs.ahead b y hy (by omega) p h2
  have hpk : p < k := by
    by_cases e : p < k
    · exact e
    · by_cases e2 : p = k
      · subst e2; rw [h2] at he; simp at he <;> omega
      · exact (h3 k (by omega) he).elim
  obtain ⟨v, hv, hv1, hv2⟩ := hp p hip hpk
  rw [h2] at hv; simp at hv; subst hv
  exact hv2 y (by omega) (by simpa using hy.1) hy.2.2

/-- What is told is the next one. -/
theorem Sought.found {T : Tab} {hash v : Int} {i k : Nat} {told : Int} {x : Ent} (h : GoodT T) (hs : Sought T hash i told) (hk : i ≤ k) (hp : ∀ j, i ≤ j → j < k → passes T hash told j) (hv : T.cells[tc T.log hash k]? = some v)
    (hlt : told < v) (hx : T.ents[v.toNat]? = some x) (hh : x.hash = hash) :
    0 ≤ v ∧ IsOf T hash v.toNat x ∧ (∀ (b : Nat) (y : Ent), IsOf T hash b y → told < b → v ≤ b) ∧ Sought T hash (k + 1) v := by
  have hlow := hs.low
  obtain ⟨n, rfl⟩ := Int.eq_ofNat_of_zero_le (show 0 ≤ v by omega)
  simp only [Int.toNat_natCast] at hx ⊢
  have hl : x.live = true := by
    obtain ⟨y, hy, hyl, _⟩ := (h.cell_ok _ _ hv).2 (by omega) (by omega)
    simp at hy; rw [hx] at hy; cases hy; exact hyl
  have hof : IsOf T hash n x := ⟨hx, hl, hh⟩
  have hno : ∀ (b : Nat) (y : Ent), IsOf T hash b y → told < b → ∀ j, T.cells[tc T.log hash j]? = some (b : Int) → k ≤ j := by
    intro b y hy hb j hj
    have h1 := hs.ahead b y hy hb j hj
    by_cases e : k ≤ j
    · exact e
    · obtain ⟨u, hu, hu1, hu2⟩ := hp j h1 (by omega)
      rw [hj] at hu; simp at hu; subst hu
      exact (hu2 y hb (by simpa using hy.1) hy.2.2).elim
  refine ⟨by omega, hof, ?_, ⟨by omega, ?_, ?_⟩⟩
  · intro b y hy hb
    by_cases e : n ≤ b
    · omega
    · exfalso
      obtain ⟨j, hj, hc⟩ := h.cg.order b n y x (by omega) hy.1 hx hy.2.1 hl (by rw [hy.2.2, hh]) k (by rw [hy.2.2]; exact hv)
      rw [hy.2.2] at hc
      have := hno b y hy hb j hc
      omega
  · intro b y hy hb j hj
    obtain ⟨j', hj', hc⟩ := h.cg.order n b x y (by omega) hx hy.1 hl hy.2.1 (by rw [hy.2.2, hh]) j (by rw [hh]; exact hj)
    rw [hh] at hc
    have := hno n x hof hlt j' hc
    omega
  · intro j hj
    by_cases e : j < i
    · exact hs.full j e
    · by_cases e2 : j < k
      · obtain ⟨u, hu, hu1, _⟩ := hp j (by omega) e2
        rw [hu]; simpa using hu1
      · obtain rfl : j = k := by omega
        rw [hv]; simp

/-- There is a place at which a Seeker stops. -/
theorem Sought.stops {T : Tab} {hash : Int} {i : Nat} {told : Int} (h : GoodT T) (hs : Sought T hash i told) : ∃ k, i ≤ k ∧ k < 2 ^ T.log + 12 ∧ (∀ j, i ≤ j → j < k → passes T hash told j) ∧ ¬ passes T hash told k := by
  obtain ⟨E, h1, h2, h3, h4⟩ := hs.blank h
  obtain ⟨d, g1, g2, g3⟩ := first_of (p := fun d => ¬ passes T hash told (i + d)) ⟨E - i, by
    rw [show i + (E - i) = E by omega]
    rintro ⟨v, hv, hv1, _⟩
    rw [h2] at hv; simp at hv; exact hv1 hv.symm⟩
  have := g3 (E - i) (by
    rw [show i + (E - i) = E by omega]
    rintro ⟨v, hv, hv1, _⟩
    rw [h2] at hv; simp at hv; exact hv1 hv.symm)
  refine ⟨i + d, by omega, by omega, ?_, g1⟩
  intro j hj1 hj2
  have := g2 (j - i) (by omega)
  rw [show i + (j - i) = j by omega] at this
  exact Classical.not_not.1 this

/-- Where no cell is Dead, and hashes meet nowhere in the first cells, each entry stands in the first cell of its trail. -/
theorem GoodT.first_cell {T : Tab} (h : GoodT T) (hall : ∀ x ∈ T.ents, x.live = true) (hun : ∀ (a b : Nat) (x y : Ent), T.ents[a]? = some x → T.ents[b]? = some y → a ≠ b → tc T.log x.hash 0 ≠ tc T.log y.hash 0) :
    ∀ (n : Nat) (x : Ent), T.ents[n]? = some x → T.cells[tc T.log x.hash 0]? = some (n : Int) := by
  intro n
  induction n using Nat.strongRecOn with
  | ind n ih =>
    intro x hx
    obtain ⟨i, h1, h2⟩ := h.cg.older n x hx (hall x (List.mem_of_getElem? hx))
    by_cases hi : i = 0
    · subst hi; exact h1
    · exfalso
      obtain ⟨v, q1, q2, q3⟩ := h2 0 (by omega)
      rcases h.cg.only _ v q1 with e | e | ⟨m, y, e, hy, hyl⟩
      · exact q2 e
      · subst e
        have hd := h.cg.deads
        have : 0 < T.cells.count (-2) := List.count_pos_iff.2 (List.mem_of_getElem? q1)
        rw [hd] at this
        obtain ⟨z, hz, hzl⟩ := List.countP_pos_iff.1 this
        rw [hall z hz] at hzl; simp at hzl
      · subst e
        have hm := ih m (by omega) y hy
        have := h.cg.uniq m _ _ q1 hm
        exact hun n m x y hx hy (by omega) this

/-- Of live entries the one that comes ahead has fewer ahead of it. -/
theorem ahead_lt {T : Tab} {a b : Nat} {x : Ent} (h : a < b) (hx : T.ents[a]? = some x) (hl : x.live = true) : (T.ahead a).length < (T.ahead b).length := by
  unfold Tab.ahead
  have e : T.ents.take b = T.ents.take a ++ x :: (T.ents.take b).drop (a + 1) := by
    have hx' : (T.ents.take b)[a]? = some x := by rw [List.getElem?_take, if_pos h]; exact hx
    have := split_at hx'
    rwa [List.take_take, Nat.min_eq_left (by omega)] at this
  rw [e, List.filter_append, List.filter_cons_of_pos hl]
  simp
/-- The Seeker has told those of its hash among the first k live entries, and no other. -/
def ToldTo (T : Tab) (hash : Int) (told : Int) (k : Nat) : Prop := ∀ (b : Nat) (y : Ent), IsOf T hash b y → ((b : Int) ≤ told ↔ (T.ahead b).length < k)
theorem ToldTo.start (T : Tab) (hash : Int) : ToldTo T hash (-1) 0 := fun b y hy => by
  constructor
  · intro h; omega
  · intro h; omega
theorem ToldTo.skip {T : Tab} {hash told : Int} {k n : Nat} {x : Ent} (h : ToldTo T hash told k) (hx : T.ents[n]? = some x) (hl : x.live = true) (hk : (T.ahead n).length = k) (hh : x.hash ≠ hash) : ToldTo T hash told (k + 1) := by
  intro b y hy
  rw [h b y hy]
  constructor
  · intro h; omega
  · intro h'
    by_cases e : (T.ahead b).length = k
    · exfalso
      have : b = n := by
        rcases Nat.lt_trichotomy b n with h1 | h1 | h1
        · have := ahead_lt h1 hy.1 hy.2.1; omega
        · exact h1
        · have := ahead_lt h1 hx hl; omega
      subst this
      have h3 := hy.1
      rw [hx] at h3; cases h3
      exact hh hy.2.2
    · omega
/-- The next one told is the next one of that hash. -/
theorem ToldTo.next {T : Tab} {hash told v : Int} {k n : Nat} {x z : Ent} (h : ToldTo T hash told k) (hx : T.ents[n]? = some x) (hl : x.live = true) (hk : (T.ahead n).length = k) (hh : x.hash = hash)
    (hv : 0 ≤ v) (hz : IsOf T hash v.toNat z) (hlt : told < v) (hmin : ∀ (b : Nat) (y : Ent), IsOf T hash b y → told < b → v ≤ b) : v = n ∧ ToldTo T hash v (k + 1) := by
  have hof : IsOf T hash n x := ⟨hx, hl, hh⟩
  have h1 : told < n := by
    by_cases e : (n : Int) ≤ told
    · have := (h n x hof).1 e; omega
    · omega
  have h2 := hmin n x hof h1
  have h3 : v = n := by
    by_cases e : v = n
    · exact e
    · exfalso
      obtain ⟨u, rfl⟩ := Int.eq_ofNat_of_zero_le hv
      simp only [Int.toNat_natCast] at hz
      have := ahead_lt (show u < n by omega) hz.1 hz.2.1
      have := (h u z hz).2 (by omega)
      omega
  refine ⟨h3, ?_⟩
  subst h3
  intro b y hy
  constructor
  · intro hb
    by_cases e : b = n
    · subst e; omega
    · have := ahead_lt (show b < n by omega) hy.1 hy.2.1
      omega
  · intro hb
    by_cases e : (b : Int) ≤ n
    · exact e
    · have := ahead_lt (show n < b by omega) hx hl
      omega

end Go.Lx
