/-
  What is proved: in plain Lean: what abides between the entries and the cells of a table (chapter 7), at each call. No program is spoken of.
-/
import Derived.Test.YtbbkljgeddjghaaModel
namespace Go.Lx
set_option linter.unusedVariables false
set_option linter.unusedSimpArgs false

theorem find_first {cs : List Int} {log N k : Nat} {h v : Int} (hk : k < N) (hn : ∀ i, i < k → cs[tc log h i]? ≠ some v) (hv : cs[tc log h k]? = some v) : findAt cs log h v N = some k := by
  unfold findAt
  rw [List.find?_eq_some_iff_append]
  refine ⟨by simpa using hv, List.range k, (List.range' (k + 1) (N - k - 1)), ?_, ?_⟩
  · have : N = k + (1 + (N - k - 1)) := by omega
    rw [this, List.range_eq_range', ← List.range'_append_1, ← List.range'_append_1]
    simp [List.range_eq_range']
  · intro i hi
    simpa using hn i (List.mem_range.1 hi)

/-- There is a first number at which something holds. -/
theorem first_of {p : Nat → Prop} (h : ∃ i, p i) : ∃ k, p k ∧ (∀ j, j < k → ¬ p j) ∧ ∀ i, p i → k ≤ i := by
  obtain ⟨i, hi⟩ := h
  induction i using Nat.strongRecOn with
  | ind i ih =>
    by_cases hc : ∃ j, j < i ∧ p j
    · obtain ⟨j, hj, hp⟩ := hc
      exact ih j hj hp
    · refine ⟨i, hi, fun j hj hp => hc ⟨j, hj, hp⟩, fun k hk => ?_⟩
      by_cases hlt : i ≤ k
      · exact hlt
      · exact (hc ⟨k, by omega, hk⟩).elim

/-- What abides between entries and cells. -/
structure CG (log : Nat) (es : List Ent) (cs : List Int) : Prop where
  len : cs.length = 2 ^ log
  place : ∀ (n : Nat) (x : Ent), es[n]? = some x → x.live = true → ∃ i, i < 2 ^ log + 12 ∧ cs[tc log x.hash i]? = some (n : Int) ∧ ∀ j, j < i → cs[tc log x.hash j]? ≠ some (-1)
  uniq : ∀ (n a b : Nat), cs[a]? = some (n : Int) → cs[b]? = some (n : Int) → a = b
  only : ∀ (a : Nat) (v : Int), cs[a]? = some v → v = -1 ∨ v = -2 ∨ ∃ (n : Nat) (x : Ent), v = (n : Int) ∧ es[n]? = some x ∧ x.live = true
  deads : cs.count (-2) = es.countP (fun x => !x.live)
  blanks : cs.count (-1) + es.length = 2 ^ log
  order : ∀ (a b : Nat) (x y : Ent), a < b → es[a]? = some x → es[b]? = some y → x.live = true → y.live = true → x.hash = y.hash → ∀ i, cs[tc log x.hash i]? = some (b : Int) → ∃ j, j < i ∧ cs[tc log x.hash j]? = some (a : Int)
  older : ∀ (n : Nat) (x : Ent), es[n]? = some x → x.live = true → ∃ i, cs[tc log x.hash i]? = some (n : Int) ∧ ∀ j, j < i → ∃ v, cs[tc log x.hash j]? = some v ∧ v ≠ -1 ∧ v < (n : Int)

theorem CG.blank (log : Nat) : CG log [] (blankC log) := by
  refine ⟨by simp [blankC], by simp, ?_, ?_, ?_, ?_, by simp, by simp⟩
  · intro n a b h1 h2
    have := List.getElem?_eq_some_iff.1 h1
    obtain ⟨h, e⟩ := this
    simp [blankC] at e
  · intro a v h
    obtain ⟨h, e⟩ := List.getElem?_eq_some_iff.1 h
    simp [blankC] at e
    exact .inl e.symm
  · simp [blankC, List.count_replicate]
  · simp [blankC, List.count_replicate]

/-- Where a cell is empty, there is a first one on each trail. -/
theorem CG.free {log : Nat} {es : List Ent} {cs : List Int} (h : CG log es cs) (hl : es.length < 2 ^ log) (hash : Int) :
    ∃ k, k < 2 ^ log + 12 ∧ cs[tc log hash k]? = some (-1) ∧ ∀ j, j < k → cs[tc log hash j]? ≠ some (-1) := by
  have hb := h.blanks
  have hc : 0 < cs.count (-1) := by omega
  have hm : (-1 : Int) ∈ cs := List.count_pos_iff.1 hc
  obtain ⟨y, hy, he⟩ := List.mem_iff_getElem.1 hm
  obtain ⟨i, hi, e⟩ := tc_all log hash y (by rw [← h.len]; exact hy)
  obtain ⟨k, h1, h2, h3⟩ := first_of (p := fun i => cs[tc log hash i]? = some (-1)) ⟨i, by rw [e, List.getElem?_eq_getElem hy, he]⟩
  have := h3 i (by rw [e, List.getElem?_eq_getElem hy, he])
  exact ⟨k, by omega, h1, h2⟩

theorem countP_set' {α : Type} (p : α → Bool) : ∀ (l : List α) (i : Nat) (a x : α), l[i]? = some x → (l.set i a).countP p + (if p x then 1 else 0) = l.countP p + (if p a then 1 else 0)
  | [], i, a, x, h => by simp at h
  | y :: l, 0, a, x, h => by simp at h; subst h; simp only [List.set_cons_zero, List.countP_cons]; split <;> split <;> omega
  | y :: l, i + 1, a, x, h => by
    have ih := countP_set' p l i a x (by simpa using h)
    simp only [List.set_cons_succ, List.countP_cons]; omega
theorem count_set' (l : List Int) (i : Nat) (a x v : Int) (h : l[i]? = some x) : (l.set i a).count v + (if x = v then 1 else 0) = l.count v + (if a = v then 1 else 0) := by
  have := countP_set' (· == v) l i a x h
  simpa [List.count] using this

theorem get_set {cs : List Int} {i j : Nat} {a v : Int} (h : (cs.set i a)[j]? = some v) : (j = i ∧ v = a) ∨ (j ≠ i ∧ cs[j]? = some v) := by
  rw [List.getElem?_set] at h
  split at h
  · rename_i e
    split at h
    · simp at h; exact .inl ⟨e.symm, h.symm⟩
    · cases h
  · rename_i e; exact .inr ⟨fun h' => e h'.symm, h⟩
theorem set_same {cs : List Int} {i : Nat} {a : Int} (h : i < cs.length) : (cs.set i a)[i]? = some a := by simp [h]
theorem set_other {cs : List Int} {i j : Nat} {a : Int} (h : j ≠ i) : (cs.set i a)[j]? = cs[j]? := by simp [List.getElem?_set, Ne.symm h]

theorem CG.lay_eq {log : Nat} {es : List Ent} {cs : List Int} (h : CG log es cs) (hl : es.length < 2 ^ log) (hash : Int) (n : Nat) :
    ∃ k, k < 2 ^ log + 12 ∧ cs[tc log hash k]? = some (-1) ∧ (∀ j, j < k → cs[tc log hash j]? ≠ some (-1)) ∧ layCells cs log hash n = cs.set (tc log hash k) n := by
  obtain ⟨k, hk, h1, h2⟩ := h.free hl hash
  refine ⟨k, hk, h1, h2, ?_⟩
  unfold layCells
  rw [find_first (N := 2 ^ log + 13) (by omega) h2 h1]

theorem CG.lay {log : Nat} {es : List Ent} {cs : List Int} (h : CG log es cs) (hl : es.length < 2 ^ log) (x : Ent) (hx : x.live = true) : CG log (es ++ [x]) (layCells cs log x.hash es.length) := by
  obtain ⟨k, hk, h1, h2, he⟩ := h.lay_eq hl x.hash es.length
  rw [he]
  have hkl : tc log x.hash k < cs.length := by rw [h.len]; exact tc_lt _ _ _
  have hnot : ∀ (a : Nat), cs[a]? ≠ some (es.length : Int) := by
    intro a ha
    rcases h.only a _ ha with e | e | ⟨n, y, e, hy, _⟩
    · omega
    · omega
    · have : n < es.length := (List.getElem?_eq_some_iff.1 hy).1
      omega
  refine ⟨by rw [List.length_set]; exact h.len, ?_, ?_, ?_, ?_, ?_, ?_, ?_⟩
  · intro n y hy hyl
    by_cases hn : n < es.length
    · rw [List.getElem?_append_left hn] at hy
      obtain ⟨i, hi, g1, g2⟩ := h.place n y hy hyl
      refine ⟨i, hi, ?_, ?_⟩
      · rw [set_other]; exact g1
        intro e; rw [e, h1] at g1; simp at g1 <;> omega
      · intro j hj hc
        rcases get_set hc with ⟨_, e⟩ | ⟨_, e⟩
        · omega
        · exact g2 j hj e
    · rw [List.getElem?_append_right (by omega)] at hy
      have hnl : n = es.length := by
        have := (List.getElem?_eq_some_iff.1 hy).1
        simp at this <;> omega
      subst hnl
      simp at hy; subst hy
      refine ⟨k, hk, set_same hkl, ?_⟩
      intro j hj hc
      rcases get_set hc with ⟨_, e⟩ | ⟨_, e⟩
      · omega
      · exact h2 j hj e
  · intro n a b ha hb
    rcases get_set ha with ⟨ea, va⟩ | ⟨ea, va⟩ <;> rcases get_set hb with ⟨eb, vb⟩ | ⟨eb, vb⟩
    · omega
    · have : n = es.length := by omega
      subst this; exact (hnot _ vb).elim
    · have : n = es.length := by omega
      subst this; exact (hnot _ va).elim
    · exact h.uniq n a b va vb
  · intro a v ha
    rcases get_set ha with ⟨ea, va⟩ | ⟨ea, va⟩
    · exact .inr (.inr ⟨es.length, x, va, by simp, hx⟩)
    · rcases h.only a v va with e | e | ⟨n, y, e, hy, hyl⟩
      · exact .inl e
      · exact .inr (.inl e)
      · refine .inr (.inr ⟨n, y, e, ?_, hyl⟩)
        rw [List.getElem?_append_left (List.getElem?_eq_some_iff.1 hy).1]; exact hy
  · have := count_set' cs (tc log x.hash k) es.length (-1) (-2) h1
    rw [List.countP_append, ← h.deads]
    have e2 : ((es.length : Int) = -2) = False := by simp <;> omega
    simp [e2, hx] at this ⊢
    exact this
  · have := count_set' cs (tc log x.hash k) es.length (-1) (-1) h1
    have hb := h.blanks
    have e2 : ((es.length : Int) = -1) = False := by simp <;> omega
    simp [e2] at this ⊢
    omega
  · intro a b y z hab hy hz hyl hzl hh i hi
    have ha : a < es.length := by
      have := (List.getElem?_eq_some_iff.1 hz).1
      simp at this <;> omega
    rw [List.getElem?_append_left ha] at hy
    obtain ⟨i0, hi0, g1, g2⟩ := h.place a y hy hyl
    by_cases hb : b < es.length
    · rw [List.getElem?_append_left hb] at hz
      rcases get_set hi with ⟨_, e⟩ | ⟨_, e⟩
      · omega
      · obtain ⟨j, hj, hc⟩ := h.order a b y z hab hy hz hyl hzl hh i e
        refine ⟨j, hj, ?_⟩
        rw [set_other]; exact hc
        intro e; rw [e, h1] at hc; simp at hc <;> omega
    · have hbl : b = es.length := by
        have := (List.getElem?_eq_some_iff.1 hz).1
        simp at this <;> omega
      subst hbl
      simp at hz; subst hz
      rcases get_set hi with ⟨e, _⟩ | ⟨_, e⟩
      · -- the new one stands at the first empty cell; the other's place lies ahead of each empty one
        have hne : cs[tc log y.hash i]? = some (-1) := by rw [e]; exact h1
        refine ⟨i0, ?_, ?_⟩
        · have : ¬ i < i0 := fun hlt => g2 i hlt hne
          have : i ≠ i0 := by rintro rfl; rw [g1] at hne; simp at hne <;> omega
          omega
        · rw [set_other]; exact g1
          intro e'; rw [e', h1] at g1; simp at g1 <;> omega
      · exact (hnot _ e).elim
  · intro n y hy hyl
    by_cases hn : n < es.length
    · rw [List.getElem?_append_left hn] at hy
      obtain ⟨i, g1, g2⟩ := h.older n y hy hyl
      refine ⟨i, ?_, ?_⟩
      · rw [set_other]; exact g1
        intro e; rw [e, h1] at g1; simp at g1 <;> omega
      · intro j hj
        obtain ⟨v, q1, q2, q3⟩ := g2 j hj
        refine ⟨v, ?_, q2, q3⟩
        rw [set_other]; exact q1
        intro e; rw [e, h1] at q1; simp at q1; omega
    · rw [List.getElem?_append_right (by omega)] at hy
      have hnl : n = es.length := by
        have := (List.getElem?_eq_some_iff.1 hy).1
        simp at this; omega
      subst hnl
      simp at hy; subst hy
      refine ⟨k, set_same hkl, ?_⟩
      intro j hj
      have hne := h2 j hj
      obtain ⟨v, hv⟩ : ∃ v, cs[tc log x.hash j]? = some v := ⟨_, List.getElem?_eq_getElem (by rw [h.len]; exact tc_lt _ _ _)⟩
      refine ⟨v, ?_, ?_, ?_⟩
      · rw [set_other]; exact hv
        intro e; rw [e, h1] at hne; exact hne rfl
      · rintro rfl; exact hne hv
      · rcases h.only _ v hv with e | e | ⟨m, y, e, hy, _⟩
        · omega
        · omega
        · have := (List.getElem?_eq_some_iff.1 hy).1
          omega

theorem CG.kill {log : Nat} {es : List Ent} {cs : List Int} (h : CG log es cs) (n : Nat) (x : Ent) (hx : es[n]? = some x) (hl : x.live = true) :
    ∃ p, cs[p]? = some (n : Int) ∧ killCells cs log x.hash n = cs.set p (-2) ∧ CG log (es.set n Ent.dead) (cs.set p (-2)) := by
  obtain ⟨i, hi, g1, g2⟩ := h.place n x hx hl
  obtain ⟨k, h1, h2, h3⟩ := first_of (p := fun i => cs[tc log x.hash i]? = some (n : Int)) ⟨i, g1⟩
  have hki := h3 i g1
  have hkl : tc log x.hash k < cs.length := by rw [h.len]; exact tc_lt _ _ _
  refine ⟨tc log x.hash k, h1, ?_, ?_⟩
  · unfold killCells
    rw [find_first (N := 2 ^ log + 13) (by omega) h2 h1]
  have hnl := (List.getElem?_eq_some_iff.1 hx).1
  have hes : ∀ {m : Nat} {y : Ent}, (es.set n Ent.dead)[m]? = some y → y.live = true → m ≠ n ∧ es[m]? = some y := by
    intro m y hy hyl
    rw [List.getElem?_set] at hy
    split at hy
    · simp at hy; subst hy; cases hyl
    · rename_i e; exact ⟨fun h' => e h'.symm, hy⟩
  refine ⟨by rw [List.length_set]; exact h.len, ?_, ?_, ?_, ?_, ?_, ?_, ?_⟩
  · intro m y hy hyl
    obtain ⟨hmn, hy⟩ := hes hy hyl
    obtain ⟨i, hi, g1, g2⟩ := h.place m y hy hyl
    refine ⟨i, hi, ?_, ?_⟩
    · rw [set_other]; exact g1
      intro e; rw [e, h1] at g1; simp at g1 <;> omega
    · intro j hj hc
      rcases get_set hc with ⟨_, e⟩ | ⟨_, e⟩
      · omega
      · exact g2 j hj e
  · intro m a b ha hb
    rcases get_set ha with ⟨ea, va⟩ | ⟨ea, va⟩ <;> rcases get_set hb with ⟨eb, vb⟩ | ⟨eb, vb⟩
    · omega
    · omega
    · omega
    · exact h.uniq m a b va vb
  · intro a v ha
    rcases get_set ha with ⟨ea, va⟩ | ⟨ea, va⟩
    · exact .inr (.inl va)
    · rcases h.only a v va with e | e | ⟨m, y, e, hy, hyl⟩
      · exact .inl e
      · exact .inr (.inl e)
      · refine .inr (.inr ⟨m, y, e, ?_, hyl⟩)
        have hmn : m ≠ n := by rintro rfl; exact ea (h.uniq m a _ (by rw [va, e]) h1)
        rw [List.getElem?_set, if_neg (Ne.symm hmn)]; exact hy
  · have := count_set' cs (tc log x.hash k) (-2) n (-2) h1
    have h4 := countP_set' (fun x => !x.live) es n Ent.dead x hx
    rw [h.deads] at this
    have e2 : ((n : Int) = -2) = False := by simp <;> omega
    simp [e2, hl, Ent.dead] at this h4 ⊢
    omega
  · have := count_set' cs (tc log x.hash k) (-2) n (-1) h1
    have hb := h.blanks
    have e2 : ((n : Int) = -1) = False := by simp <;> omega
    simp [e2] at this ⊢
    omega
  · intro a b y z hab hy hz hyl hzl hh i hi
    obtain ⟨han, hy⟩ := hes hy hyl
    obtain ⟨hbn, hz⟩ := hes hz hzl
    rcases get_set hi with ⟨_, e⟩ | ⟨_, e⟩
    · omega
    · obtain ⟨j, hj, hc⟩ := h.order a b y z hab hy hz hyl hzl hh i e
      refine ⟨j, hj, ?_⟩
      rw [set_other]; exact hc
      intro e; rw [e, h1] at hc; simp at hc <;> omega
  · intro m y hy hyl
    obtain ⟨hmn, hy⟩ := hes hy hyl
    obtain ⟨i, g1, g2⟩ := h.older m y hy hyl
    refine ⟨i, ?_, ?_⟩
    · rw [set_other]; exact g1
      intro e; rw [e, h1] at g1; simp at g1 <;> omega
    · intro j hj
      obtain ⟨v, q1, q2, q3⟩ := g2 j hj
      by_cases e : tc log y.hash j = tc log x.hash k
      · exact ⟨-2, by rw [e]; exact set_same hkl, by omega, by omega⟩
      · exact ⟨v, by rw [set_other e]; exact q1, q2, q3⟩

/-- Only whether they live and their hashes matter. -/
theorem CG.congr {log : Nat} {es es' : List Ent} {cs : List Int} (h : CG log es cs) (hl : es'.length = es.length) (he : ∀ (n : Nat) (x' : Ent), es'[n]? = some x' → ∃ x, es[n]? = some x ∧ x.live = x'.live ∧ x.hash = x'.hash)
    (hd : es'.countP (fun x => !x.live) = es.countP (fun x => !x.live)) : CG log es' cs := by
  refine ⟨h.len, ?_, h.uniq, ?_, by rw [hd]; exact h.deads, by rw [hl]; exact h.blanks, ?_, ?_⟩
  · intro n x' hx' hl'
    obtain ⟨x, hx, e1, e2⟩ := he n x' hx'
    rw [← e2]; exact h.place n x hx (by rw [e1]; exact hl')
  · intro a v ha
    rcases h.only a v ha with e | e | ⟨n, x, e, hx, hxl⟩
    · exact .inl e
    · exact .inr (.inl e)
    · have hn := (List.getElem?_eq_some_iff.1 hx).1
      obtain ⟨y, hy, e1, e2⟩ := he n (es'[n]'(by omega)) (List.getElem?_eq_getElem _)
      rw [hx] at hy; cases hy
      exact .inr (.inr ⟨n, _, e, List.getElem?_eq_getElem _, by rw [← e1]; exact hxl⟩)
  · intro a b x' y' hab hx' hy' hxl hyl hh i hi
    obtain ⟨x, hx, e1, e2⟩ := he a x' hx'
    obtain ⟨y, hy, e3, e4⟩ := he b y' hy'
    rw [← e2] at hi ⊢
    exact h.order a b x y hab hx hy (by rw [e1]; exact hxl) (by rw [e3]; exact hyl) (by rw [e2, e4]; exact hh) i hi
  · intro n x' hx' hl'
    obtain ⟨x, hx, e1, e2⟩ := he n x' hx'
    rw [← e2]; exact h.older n x hx (by rw [e1]; exact hl')

theorem CG.layFrom {log : Nat} : ∀ (es pre : List Ent) (cs : List Int), CG log pre cs → (∀ x ∈ es, x.live = true) → pre.length + es.length ≤ 2 ^ log → CG log (pre ++ es) (layFrom log es pre.length cs)
  | [], pre, cs, h, _, _ => by simpa [Go.Lx.layFrom] using h
  | x :: es, pre, cs, h, hl, hlen => by
    have h1 := h.lay (by simp at hlen <;> omega) x (hl x (by simp))
    have := CG.layFrom es (pre ++ [x]) _ h1 (fun y hy => hl y (by simp [hy])) (by simp at hlen ⊢; omega)
    simpa [Go.Lx.layFrom] using this

end Go.Lx
