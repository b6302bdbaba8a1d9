/-
  What is proved: in plain Lean: what abides of a table (chapter 7), and what becomes of its live entries, at each call. No program is spoken of.
-/
import Derived.Test.YtbbkljgeddjghaaGood
namespace Go.Lx
set_option linter.unusedVariables false

/-- The live entries, in their order. -/
def Tab.lives (T : Tab) : List Ent := T.ents.filter (·.live)

structure GoodT (T : Tab) : Prop where
  cg : CG T.log T.ents T.cells
  lo : 3 ≤ T.log
  fits : T.ents.length ≤ room T.log
  live : T.live = T.lives.length
  dead : ∀ x ∈ T.ents, x.live = false → x = Ent.dead
  births : T.lives.Pairwise (fun a b => a.birth < b.birth)
  born : ∀ x ∈ T.lives, 0 ≤ x.birth ∧ x.birth < T.births

theorem room_lt (log : Nat) : room log ≤ 2 ^ log := by unfold room; omega
theorem room_third (log : Nat) : 3 * room log ≤ 2 * 2 ^ log := by unfold room; omega

theorem GoodT.new : GoodT Tab.new :=
  ⟨CG.blank 3, Nat.le_refl _, Nat.zero_le _, rfl, by simp [Tab.new], by simp [Tab.lives, Tab.new], by simp [Tab.lives, Tab.new]⟩

theorem ll_spec {p : Nat → Bool} (h : leastLog p ≤ 20) : 3 ≤ leastLog p ∧ p (leastLog p) = true := by
  unfold leastLog at *
  cases e : (List.range' 3 18).find? p with
  | none => rw [e] at h; simp at h
  | some i =>
    have h1 := List.find?_some e
    have h2 := List.mem_of_find?_eq_some e
    have := List.mem_range'_1.1 h2
    exact ⟨by simpa using this.1, h1⟩
theorem ll_le {p : Nat → Bool} {l : Nat} (h3 : 3 ≤ l) (h20 : l ≤ 20) (hp : p l = true) : leastLog p ≤ l := by
  by_cases h : leastLog p ≤ l
  · exact h
  · exfalso
    unfold leastLog at h
    cases e : (List.range' 3 18).find? p with
    | none =>
      have := List.find?_eq_none.1 e l (List.mem_range'_1.2 ⟨h3, by omega⟩)
      exact this hp
    | some i =>
      rw [e] at h
      simp only [Option.getD_some] at h
      obtain ⟨_, la, lb, hab, hn⟩ := List.find?_eq_some_iff_append.1 e
      have hs : (List.range' 3 18)[la.length]? = some i := by rw [hab]; simp
      have hi : la.length < 18 ∧ 3 + la.length = i := by
        have := List.getElem?_eq_some_iff.1 hs
        obtain ⟨h1, h2⟩ := this
        simp at h1 h2
        exact ⟨h1, h2⟩
      have hl : la[l - 3]? = some l := by
        have h1 : (la ++ i :: lb)[l - 3]? = some l := by
          rw [← hab]
          rw [List.getElem?_eq_some_iff]
          exact ⟨by simp <;> omega, by simp; omega⟩
        rwa [List.getElem?_append_left (by omega)] at h1
      have := hn l (List.mem_of_getElem? hl)
      simp [hp] at this

theorem filter_idem (es : List Ent) : (es.filter (·.live)).filter (·.live) = es.filter (·.live) := by simp [List.filter_filter]

theorem GoodT.grow {T : Tab} (h : GoodT T) (hl : T.live ≤ 10000) : GoodT T.grow ∧ T.grow.lives = T.lives ∧ T.grow.ents.length < room T.grow.log ∧ T.grow.log ≤ 15 ∧ T.grow.ents = T.lives := by
  have e0 : T.grow.ents = T.lives := rfl
  have e1 : T.grow.lives = T.lives := by unfold Tab.lives; show (T.ents.filter (·.live)).filter (·.live) = _; exact filter_idem _
  have h1 : T.grow.log ≤ 15 := ll_le (p := fun l => decide (3 * T.live ≤ 2 ^ l)) (by omega) (by omega) (by simp <;> omega)
  obtain ⟨h2, h3⟩ := ll_spec (p := fun l => decide (3 * T.live ≤ 2 ^ l)) (Nat.le_trans h1 (by omega))
  have h3 : 3 * T.live ≤ 2 ^ T.grow.log := of_decide_eq_true h3
  have h2 : 3 ≤ T.grow.log := h2
  have h8 : 2 ^ 3 ≤ 2 ^ T.grow.log := Nat.pow_le_pow_right (by omega) h2
  have hr : T.grow.ents.length < room T.grow.log := by rw [e0, ← h.live]; unfold room; omega
  refine ⟨⟨?_, h2, Nat.le_of_lt hr, by rw [e1]; exact h.live, ?_, by rw [e1]; exact h.births, by rw [e1]; exact h.born⟩, e1, hr, h1, e0⟩
  · have := CG.layFrom T.lives [] _ (CG.blank T.grow.log) (fun x hx => (List.mem_filter.1 hx).2) (by rw [← h.live]; simp; omega)
    simp at this; exact this
  · intro x hx hd
    rw [e0] at hx
    have := (List.mem_filter.1 hx).2
    simp [hd] at this

theorem GoodT.put1 {T : Tab} (h : GoodT T) (hr : T.ents.length < room T.log) (hash key value : Int) :
    GoodT (T.put1 hash key value) ∧ (T.put1 hash key value).lives = T.lives ++ [⟨true, hash, key, value, T.births⟩] := by
  have e : (T.put1 hash key value).lives = T.lives ++ [⟨true, hash, key, value, T.births⟩] := by simp [Tab.lives, Tab.put1]
  have := room_lt T.log
  refine ⟨⟨h.cg.lay (by omega) ⟨true, hash, key, value, T.births⟩ rfl, h.lo, by simp [Tab.put1]; omega, by rw [e]; simp [Tab.put1, h.live], ?_, ?_, ?_⟩, e⟩
  · intro x hx hd
    rcases List.mem_append.1 hx with hx | hx
    · exact h.dead x hx hd
    · simp at hx; subst hx; cases hd
  · rw [e, List.pairwise_append]
    refine ⟨h.births, by simp, ?_⟩
    intro a ha b hb
    simp at hb; subst hb
    exact (h.born a ha).2
  · intro x hx
    rw [e] at hx
    rcases List.mem_append.1 hx with hx | hx
    · have := h.born x hx
      simp [Tab.put1]; omega
    · simp at hx; subst hx
      simp [Tab.put1]; omega

theorem GoodT.not_tight {T : Tab} (h : GoodT T) (ht : T.tight = false) : T.ents.length < room T.log := by
  have := h.fits
  simp [Tab.tight] at ht
  omega

/-- The table that an Add adds to. -/
def Tab.wide (T : Tab) : Tab := if T.tight then T.grow else T
theorem GoodT.wide {T : Tab} (h : GoodT T) (hl : T.live ≤ 10000) : GoodT T.wide ∧ T.wide.lives = T.lives ∧ T.wide.ents.length < room T.wide.log ∧ T.wide.live = T.live ∧ T.wide.births = T.births ∧ T.wide.turn = T.turn ∧ T.made ≤ T.wide.made ∧ T.wide.made ≤ T.made + 1 := by
  unfold Tab.wide
  cases ht : T.tight with
  | true => obtain ⟨h1, h2, h3, -, -⟩ := h.grow hl; exact ⟨h1, h2, h3, rfl, rfl, rfl, Nat.le_succ _, Nat.le_refl _⟩
  | false => exact ⟨h, rfl, h.not_tight ht, rfl, rfl, rfl, Nat.le_refl _, Nat.le_succ _⟩
theorem add_wide (T : Tab) (hash key value : Int) : T.add hash key value = T.wide.put1 hash key value := rfl
theorem add_turn (T : Tab) (hash key value : Int) : (T.add hash key value).turn = T.turn + 1 := by
  rw [add_wide]; unfold Tab.wide Tab.put1; split <;> rfl
theorem GoodT.add {T : Tab} (h : GoodT T) (hl : T.live ≤ 10000) (hash key value : Int) :
    GoodT (T.add hash key value) ∧ (T.add hash key value).lives = T.lives ++ [⟨true, hash, key, value, T.births⟩] ∧ (T.add hash key value).get (T.wide.ents.length : Nat) = some ⟨true, hash, key, value, T.births⟩ := by
  obtain ⟨h1, h2, h3, -, h5, -, -, -⟩ := h.wide hl
  obtain ⟨g1, g2⟩ := h1.put1 h3 hash key value
  rw [add_wide]
  refine ⟨g1, by rw [g2, h2, h5], ?_⟩
  unfold Tab.get
  rw [if_neg (by omega)]
  simp [Tab.put1, h5]

/-- The live entries ahead of a number, and behind it. -/
def Tab.ahead (T : Tab) (n : Nat) : List Ent := (T.ents.take n).filter (·.live)
def Tab.behind (T : Tab) (n : Nat) : List Ent := (T.ents.drop (n + 1)).filter (·.live)
theorem split_at {α : Type} {l : List α} {n : Nat} {x : α} (h : l[n]? = some x) : l = l.take n ++ x :: l.drop (n + 1) := by
  obtain ⟨hn, e⟩ := List.getElem?_eq_some_iff.1 h
  rw [← e, ← List.drop_eq_getElem_cons hn, List.take_append_drop]
theorem lives_at {T : Tab} {n : Nat} {x : Ent} (h : T.ents[n]? = some x) (hl : x.live = true) : T.lives = T.ahead n ++ x :: T.behind n := by
  unfold Tab.lives Tab.ahead Tab.behind
  conv => lhs; rw [split_at h]
  rw [List.filter_append, List.filter_cons_of_pos hl]
theorem set_split {α : Type} {l : List α} {n : Nat} {x y : α} (h : l[n]? = some x) : l.set n y = l.take n ++ y :: l.drop (n + 1) := by
  obtain ⟨hn, e⟩ := List.getElem?_eq_some_iff.1 h
  rw [List.set_eq_take_append_cons_drop, if_pos hn]
theorem get_at {T : Tab} {i : Int} {x : Ent} (h : T.get i = some x) : ∃ n : Nat, i = n ∧ T.ents[n]? = some x ∧ x.live = true := by
  unfold Tab.get at h
  split at h
  · cases h
  · obtain ⟨h1, h2⟩ := Option.filter_eq_some_iff.1 h
    exact ⟨i.toNat, by omega, h1, h2⟩
theorem get_of {T : Tab} {n : Nat} {x : Ent} (h : T.ents[n]? = some x) (hl : x.live = true) : T.get (n : Nat) = some x := by
  unfold Tab.get
  rw [if_neg (by omega), Int.toNat_natCast, h]
  simp [hl]
theorem get_none {T : Tab} {n : Nat} (h : ∀ x, T.ents[n]? = some x → x.live = false) : T.get (n : Nat) = none := by
  unfold Tab.get
  rw [if_neg (by omega), Int.toNat_natCast]
  cases e : T.ents[n]? with
  | none => rfl
  | some x => simp [h x e]

theorem GoodT.kill {T : Tab} (h : GoodT T) {n : Nat} {x : Ent} (hx : T.ents[n]? = some x) (hl : x.live = true) :
    GoodT (T.kill (n : Nat)) ∧ (T.kill (n : Nat)).lives = T.ahead n ++ T.behind n ∧ (T.kill (n : Nat)).ents = T.ents.set n Ent.dead ∧ T.live = (T.kill (n : Nat)).live + 1 ∧ (T.kill (n : Nat)).births = T.births := by
  obtain ⟨p, hp, hc, hcg⟩ := h.cg.kill n x hx hl
  have hk : T.kill (n : Nat) = { T with ents := T.ents.set n Ent.dead, cells := T.cells.set p (-2), live := T.live - 1, turn := T.turn + 1 } := by
    unfold Tab.kill
    rw [get_of hx hl]
    simp only [Int.toNat_natCast, hc]
  have e : (T.kill (n : Nat)).lives = T.ahead n ++ T.behind n := by
    rw [hk]
    unfold Tab.lives Tab.ahead Tab.behind
    simp only
    rw [set_split hx, List.filter_append, List.filter_cons_of_neg (by simp [Ent.dead])]
  have el := lives_at hx hl
  have h1 : T.live = T.lives.length := h.live
  rw [el] at h1
  simp at h1
  have hb := h.births
  rw [el] at hb
  have hlv : (T.kill (n : Nat)).live = T.live - 1 := by rw [hk]
  refine ⟨⟨by rw [hk]; exact hcg, by rw [hk]; exact h.lo, by rw [hk]; simpa using h.fits, by rw [e, hlv]; simp; omega, ?_, ?_, ?_⟩, e, by rw [hk], by omega, by rw [hk]⟩
  · intro y hy hd
    rw [hk] at hy
    simp only at hy
    rcases List.mem_or_eq_of_mem_set hy with hy | hy
    · exact h.dead y hy hd
    · exact hy
  · rw [e]
    exact hb.sublist (List.Sublist.append (List.Sublist.refl _) (List.sublist_cons_self _ _))
  · intro y hy
    rw [e] at hy
    have := h.born y (by rw [el]; simp at hy ⊢; rcases hy with hy | hy; exact .inl hy; exact .inr (.inr hy))
    rw [hk]; exact this

theorem GoodT.put {T : Tab} (h : GoodT T) {n : Nat} {x : Ent} (hx : T.ents[n]? = some x) (hl : x.live = true) (v : Int) :
    GoodT (T.put (n : Nat) v) ∧ (T.put (n : Nat) v).lives = T.ahead n ++ { x with value := v } :: T.behind n ∧ (T.put (n : Nat) v) = { T with ents := T.ents.set n { x with value := v } } := by
  have hk : T.put (n : Nat) v = { T with ents := T.ents.set n { x with value := v } } := by
    unfold Tab.put
    rw [get_of hx hl]
    simp only [Int.toNat_natCast]
  have e : (T.put (n : Nat) v).lives = T.ahead n ++ { x with value := v } :: T.behind n := by
    rw [hk]
    unfold Tab.lives Tab.ahead Tab.behind
    simp only
    rw [set_split hx, List.filter_append, List.filter_cons_of_pos (by simpa using hl)]
  have el := lives_at hx hl
  have hb := h.births
  have hlen := h.live
  rw [el] at hb hlen
  refine ⟨⟨?_, by rw [hk]; exact h.lo, by rw [hk]; simpa using h.fits, by rw [e, hk]; simp at hlen ⊢; exact hlen, ?_, ?_, ?_⟩, e, hk⟩
  · rw [hk]
    refine h.cg.congr (by simp) ?_ ?_
    · intro m y hy
      simp only at hy
      rw [List.getElem?_set] at hy
      split at hy
      · rename_i e'
        subst e'
        split at hy
        · simp at hy; subst hy; exact ⟨x, hx, rfl, rfl⟩
        · cases hy
      · exact ⟨y, hy, rfl, rfl⟩
    · have := countP_set' (fun x => !x.live) T.ents n { x with value := v } x hx
      simp [hl] at this ⊢
      exact this
  · intro y hy hd
    rw [hk] at hy
    simp only at hy
    rcases List.mem_or_eq_of_mem_set hy with hy | hy
    · exact h.dead y hy hd
    · subst hy; simp [hl] at hd
  · rw [e]
    rw [List.pairwise_append] at hb ⊢
    obtain ⟨b1, b2, b3⟩ := hb
    rw [List.pairwise_cons] at b2 ⊢
    refine ⟨b1, ⟨b2.1, b2.2⟩, ?_⟩
    intro a ha b hb
    rcases List.mem_cons.1 hb with hb | hb
    · subst hb; exact b3 a ha x (by simp)
    · exact b3 a ha b (by simp [hb])
  · intro y hy
    rw [e] at hy
    have h9 : ∀ z ∈ T.ahead n ++ x :: T.behind n, 0 ≤ z.birth ∧ z.birth < T.births := by rw [← el]; exact h.born
    have : (T.put (n : Nat) v).births = T.births := by rw [hk]
    rw [this]
    rcases List.mem_append.1 hy with hy | hy
    · exact h9 y (by simp [hy])
    · rcases List.mem_cons.1 hy with hy | hy
      · subst hy; exact h9 x (by simp)
      · exact h9 y (by simp [hy])

theorem GoodT.clear {T : Tab} (h : GoodT T) : GoodT T.clear ∧ T.clear.lives = [] :=
  ⟨⟨CG.blank 3, Nat.le_refl _, Nat.zero_le _, rfl, by simp [Tab.clear], by simp [Tab.lives, Tab.clear], by simp [Tab.lives, Tab.clear]⟩, rfl⟩

theorem renum_len : ∀ (es : List Ent) (n : Nat), (renum es n).length = es.length
  | [], _ => rfl
  | x :: es, n => by simp [renum, renum_len es (n + 1)]
theorem renum_get : ∀ (es : List Ent) (n i : Nat), (renum es n)[i]? = es[i]?.map fun x => { x with birth := (n + i : Nat) }
  | [], n, i => by simp [renum]
  | x :: es, n, 0 => by simp [renum]
  | x :: es, n, i + 1 => by simp [renum, renum_get es (n + 1) i]; congr 1; funext y; congr 1; omega
theorem renum_mem {es : List Ent} {n : Nat} {y : Ent} (h : y ∈ renum es n) : ∃ (i : Nat) (x : Ent), es[i]? = some x ∧ y = { x with birth := (n + i : Nat) } := by
  obtain ⟨i, hi⟩ := List.getElem?_of_mem h
  rw [renum_get] at hi
  cases e : es[i]? with
  | none => rw [e] at hi; cases hi
  | some x => rw [e] at hi; simp at hi; exact ⟨i, x, e, hi.symm⟩
theorem renum_pair (es : List Ent) (n : Nat) : (renum es n).Pairwise (fun a b => a.birth < b.birth) := by
  induction es generalizing n with
  | nil => simp [renum]
  | cons x es ih =>
    rw [renum, List.pairwise_cons]
    refine ⟨?_, ih _⟩
    intro y hy
    obtain ⟨i, z, _, rfl⟩ := renum_mem hy
    simp; omega

theorem GoodT.copy {T : Tab} (h : GoodT T) (hl : T.live ≤ 10000) : GoodT T.copy ∧ T.copy.ents = renum T.lives 0 ∧ T.copy.lives = renum T.lives 0 ∧ T.copy.log ≤ 15 ∧ T.copy.live = T.live := by
  have e0 : T.copy.ents = renum T.lives 0 := rfl
  have hall : ∀ y ∈ renum T.lives 0, y.live = true := by
    intro y hy
    obtain ⟨i, x, hx, rfl⟩ := renum_mem hy
    exact (List.mem_filter.1 (List.mem_of_getElem? hx)).2
  have e1 : T.copy.lives = renum T.lives 0 := by
    unfold Tab.lives; rw [e0]; exact List.filter_eq_self.2 hall
  have hlen : T.copy.ents.length = T.live := by rw [e0, renum_len, h.live]
  have hp : leastLog (fun l => decide (T.copy.ents.length ≤ 2 * 2 ^ l / 3)) = T.copy.log := rfl
  have h1 : T.copy.log ≤ 15 := ll_le (p := fun l => decide (T.copy.ents.length ≤ 2 * 2 ^ l / 3)) (by omega) (by omega) (by simp <;> omega)
  obtain ⟨h2, h3⟩ := ll_spec (p := fun l => decide (T.copy.ents.length ≤ 2 * 2 ^ l / 3)) (by rw [hp]; omega)
  rw [hp] at h2 h3
  have h3 : T.copy.ents.length ≤ 2 * 2 ^ T.copy.log / 3 := of_decide_eq_true h3
  have hlive : T.copy.live = T.live := hlen
  refine ⟨⟨?_, h2, h3, by rw [hlive, e1, renum_len, h.live], ?_, by rw [e1]; exact renum_pair _ _, ?_⟩, e0, e1, h1, hlive⟩
  · have := CG.layFrom T.copy.ents [] _ (CG.blank T.copy.log) (by rw [e0]; exact hall) (by simp <;> omega)
    simp at this; exact this
  · intro x hx hd
    rw [e0] at hx
    rw [hall x hx] at hd; cases hd
  · rw [e1]
    intro y hy
    obtain ⟨i, x, hx, rfl⟩ := renum_mem hy
    have hi := (List.getElem?_eq_some_iff.1 hx).1
    have : T.copy.births = T.live := hlen
    rw [this, h.live]
    simp; omega

theorem filter_at {α : Type} (p : α → Bool) : ∀ (l : List α) (k : Nat) (x : α), (l.filter p)[k]? = some x → ∃ n, l[n]? = some x ∧ p x = true ∧ (l.take n).filter p = (l.filter p).take k ∧ (l.drop (n + 1)).filter p = (l.filter p).drop (k + 1)
  | [], k, x, h => by simp at h
  | y :: l, k, x, h => by
    by_cases hy : p y = true
    · rw [List.filter_cons_of_pos hy] at h ⊢
      cases k with
      | zero => simp at h; subst h; exact ⟨0, rfl, hy, rfl, rfl⟩
      | succ k =>
        obtain ⟨n, h1, h2, h3, h4⟩ := filter_at p l k x (by simpa using h)
        exact ⟨n + 1, by simpa using h1, h2, by rw [List.take_succ_cons, List.filter_cons_of_pos hy, List.take_succ_cons, h3], by rw [List.drop_succ_cons, List.drop_succ_cons, h4]⟩
    · rw [List.filter_cons_of_neg hy] at h ⊢
      obtain ⟨n, h1, h2, h3, h4⟩ := filter_at p l k x h
      exact ⟨n + 1, by simpa using h1, h2, by rw [List.take_succ_cons, List.filter_cons_of_neg hy, h3], by rw [List.drop_succ_cons, h4]⟩
/-- The k-th live entry has a number; no entry ahead of it is like it. -/
theorem GoodT.lives_get {T : Tab} (h : GoodT T) {k : Nat} {x : Ent} (hx : T.lives[k]? = some x) :
    ∃ n, T.ents[n]? = some x ∧ x.live = true ∧ T.ahead n = T.lives.take k ∧ T.behind n = T.lives.drop (k + 1) ∧ ∀ j y, j < n → T.ents[j]? = some y → y.birth ≠ x.birth ∨ y.live ≠ x.live := by
  obtain ⟨n, h1, h2, h3, h4⟩ := filter_at (fun x : Ent => x.live) T.ents k x hx
  have h2 : x.live = true := h2
  refine ⟨n, h1, h2, h3, h4, ?_⟩
  intro j y hj hy
  by_cases hl : y.live = true
  · refine .inl ?_
    have hm : y ∈ T.ahead n := by
      refine List.mem_filter.2 ⟨?_, hl⟩
      refine List.mem_of_getElem? (i := j) ?_
      rw [List.getElem?_take, if_pos hj]; exact hy
    have hb := h.births
    rw [lives_at h1 h2, List.pairwise_append] at hb
    have := hb.2.2 y hm x (by simp)
    omega
  · exact .inr (by rw [h2]; exact hl)

end Go.Lx
