/-
  What is proved: append to a row of one's own, of any number of elements (none too), as a step of a walk in four forms; the rows of entries and of integers. 
-/
import Derived.Test.YtbbkljgeddjghaaLawA
namespace Go.Lx
open Go.RowKit
set_option linter.unusedVariables false

/-- The slice type t has elements of type e, of so many cells. -/
def Elem (P : Program) (t e : TypeId) (size : Nat) : Prop :=
  ∃ (i : TypeInfo) (z : Value) (bytes : Nat), P.underlying t = some (.slice e) ∧ P.info? e = some i ∧ i.zero = some z ∧ i.size = size ∧ i.bytes = bytes ∧ z.cells.size = size ∧ 0 < size ∧ bytes ≤ 1000

/-- What an append takes: m elements, the cells news. -/
structure Src (w : World) (xa : Option Addr) (m size : Nat) (news : List Value) : Prop where
  len : news.length = m * size
  at_ : m = 0 ∨ ∃ ad, xa = some ad ∧ ∀ j u, news[j]? = some u → w.cell? (ad.add j) = some u
  one : ∀ u ∈ news, u.oneCell' = true

/-- What an append leaves. -/
structure App (w w' : World) (e : TypeId) (size : Nat) (v v' : Value) (n : Nat) (xs : List Value) : Prop where
  row : Row w' e size v' n xs
  own : ∀ b, v'.ownBlock = some b → v.ownBlock = some b ∨ w.heap.size ≤ b
  kept : Kept (fun b => v.ownBlock = some b) w w'

section
variable {P : Program} (w : World)
theorem run_append_zero (t ty e : TypeId) (i : TypeInfo) (size : Nat) (ht : P.underlying t = some (.slice e)) (hi : P.info? e = some i)
    (v : Value) (n : Nat) (xs : List Value) (hown : Row w e size v n xs) (xa : Option Addr) (c : Nat) :
    (Builtin.append_ #[t, t] ty #[v, .slice xa 0 c]).run P w = .ok v w := by
  rcases hown.2 with ⟨rfl, rfl⟩ | ⟨g, cap, cur, rfl, _, _, hnc, _⟩
  · cases xa <;> simp [Builtin.append_, run_underlying ht, sizeOf, typeInfo, hi, Builtin.lenOf, Builtin.firstCells, loadCells, loadCellsFrom]
  · cases xa <;> simp [Builtin.append_, run_underlying ht, sizeOf, typeInfo, hi, Builtin.lenOf, Builtin.firstCells, hnc, storeCells, loadCells, loadCellsFrom]

theorem run_app {t e : TypeId} {size : Nat} (ty : TypeId) (hE : Elem P t e size) {v : Value} {n : Nat} {xs : List Value} (hown : Row w e size v n xs) {xa : Option Addr} {m : Nat} (c : Nat) {news : List Value} (hs : Src w xa m size news) (hn : n + m ≤ 1000000) :
    ∃ v' w', (Builtin.append_ #[t, t] ty #[v, .slice xa m c]).run P w = .ok v' w' ∧ App w w' e size v v' (n + m) (xs ++ news) := by
  obtain ⟨i, z, bytes, ht, hi, hz, hsize, hby, hzs, hsz, hb⟩ := hE
  by_cases hm : m = 0
  · subst hm
    have hnil : news = [] := List.eq_nil_of_length_eq_zero (by rw [hs.len]; omega)
    subst hnil
    refine ⟨v, w, run_append_zero w t ty e i size ht hi v n xs hown xa c, ?_, fun b h => .inl h, Kept.refl _ _⟩
    simpa using hown
  · rcases hs.at_ with h0 | ⟨ad, rfl, hc⟩
    · exact (hm h0).elim
    have hbb : (n + m) * bytes ≤ 140737488355328 := Nat.le_trans (Nat.mul_le_mul hn hb) (by decide)
    obtain ⟨v', w', hr, h2, h3⟩ := run_append_row (P := P) w t ty e i z size bytes ht hi hz hsize hby hzs hsz v n xs hown ad m c news hs.len hc hs.one (by unfold maxLen; omega) hbb (by omega)
    refine ⟨v', w', hr, h2, ?_, (Kept.refl _ w).grown h3.by_ (fun k e => .inl e)⟩
    intro b hb
    rcases h3.own with h | ⟨g, h, hg⟩
    · exact .inl (by rw [← h]; exact hb)
    · rw [h] at hb; cases hb; exact .inr hg

variable {ops : Array Oper} {rest : List Oper} {o : Oper} {a : Act} {Q : Exit → Act → World → Prop}
theorem wpList_app {t e : TypeId} {size : Nat} (hE : Elem P t e size) (hgd : o.guard = none) (s x : Operand) (ho : o.op = .call { callee := .builtin .append, args := #[s, x], argTypes := #[t, t] })
    {v : Value} {n : Nat} {xs : List Value} (hs : a.eval s = v) (hown : Row w e size v n xs) {xa : Option Addr} {m c : Nat} {news : List Value} (hx : a.eval x = .slice xa m c) (hsrc : Src w xa m size news) (hn : n + m ≤ 1000000)
    (h : ∀ v' w', App w w' e size v v' (n + m) (xs ++ news) → wpList P ops Q rest (a.put o.dst v') w') : wpList P ops Q (o :: rest) a w := by
  refine wpList_plain hgd fun _ hK => ?_
  obtain ⟨v', w', hr, h2⟩ := run_app (P := P) w o.type hE hown c hsrc hn
  unfold Oper.wp execOp
  simp only [ho, resolve, invoke, builtin, Sem.run_bind, Sem.run_pure, Result.andThen_ok, List.map_toArray, List.map_cons, List.map_nil, hs, hx, hr]
  exact hK _ _ (h v' w' h2)

theorem step_app {K : Act → World → Prop} {E : Prop} {t e : TypeId} {size : Nat} (hE : Elem P t e size) (hgd : o.guard = none) (s x : Operand) (ho : o.op = .call { callee := .builtin .append, args := #[s, x], argTypes := #[t, t] })
    {v : Value} {n : Nat} {xs : List Value} (hs : a.eval s = v) (hown : Row w e size v n xs) {xa : Option Addr} {m c : Nat} {news : List Value} (hx : a.eval x = .slice xa m c) (hsrc : Src w xa m size news) (hn : n + m ≤ 1000000)
    (h : ∀ v' w', App w w' e size v v' (n + m) (xs ++ news) → K (a.put o.dst v') w') : if Region.wanted o (yielded ops a.tmps) = true then Oper.wp P o a w K Q else E := by
  have hw : Region.wanted o (yielded ops a.tmps) = true := by simp [Region.wanted, hgd]
  rw [if_pos hw]
  obtain ⟨v', w', hr, h2⟩ := run_app (P := P) w o.type hE hown c hsrc hn
  unfold Oper.wp execOp
  simp only [ho, resolve, invoke, builtin, Sem.run_bind, Sem.run_pure, Result.andThen_ok, List.map_toArray, List.map_cons, List.map_nil, hs, hx, hr]
  exact h v' w' h2

theorem wpListIn_app {F : Fence} {nn : Nat} {t e : TypeId} {size : Nat} (hE : Elem P t e size) (hgd : o.guard = none) (s x : Operand) (ho : o.op = .call { callee := .builtin .append, args := #[s, x], argTypes := #[t, t] })
    {v : Value} {n : Nat} {xs : List Value} (hs : a.eval s = v) (hown : Row w e size v n xs) {xa : Option Addr} {m c : Nat} {news : List Value} (hx : a.eval x = .slice xa m c) (hsrc : Src w xa m size news) (hn : n + m ≤ 1000000)
    (h : ∀ v' w', App w w' e size v v' (n + m) (xs ++ news) → wpListIn F nn P ops Q rest (a.put o.dst v') w') : wpListIn F nn P ops Q (o :: rest) a w := by
  refine wpListIn_plain hgd fun _ hK => ?_
  obtain ⟨v', w', hr, h2⟩ := run_app (P := P) w o.type hE hown c hsrc hn
  unfold Oper.wpIn
  refine ⟨?_, ?_⟩
  · simp [Oper.about, ho, resolve, Target.leads, Sem.run_pure]
  · rw [Oper.semAt_plain F _ _ (by rw [ho]; intro c hc'; cases hc')]
    simp [execOp, ho, resolve, invoke, builtin, hs, hx, hr, Result.andThen]
    exact hK _ _ (h v' w' h2)
end

theorem addr_add (g o j : Nat) : (⟨g, o, none⟩ : Addr).add j = ⟨g, o + j, none⟩ := by unfold Addr.add; split <;> simp_all
/-- A block made just now. -/
theorem Src.new (w : World) (E : TypeId) (xs : List Value) (m size : Nat) (hl : xs.length = m * size) (h1 : ∀ u ∈ xs, u.oneCell' = true) : Src (w.alloc (.cells xs.toArray E)) (some ⟨w.heap.size, 0, none⟩) m size xs :=
  ⟨hl, .inr ⟨_, rfl, fun j u hu => by rw [addr_add, Nat.zero_add, (Blk.new w E xs).cell]; exact hu⟩, h1⟩
/-- A part of a row. -/
theorem Row.src {w : World} {E : TypeId} {m n : Nat} {sv : Value} {xs : List Value} (h : Row w E m sv n xs) {g : Nat} (hg : sv.ownBlock = some g) (h1 : ∀ u ∈ xs, u.oneCell' = true) (lo k : Nat) (hk : lo + k ≤ n) : Src w (some ⟨g, lo * m, none⟩) k m ((xs.drop (lo * m)).take (k * m)) := by
  refine ⟨?_, .inr ⟨_, rfl, ?_⟩, fun u hu => h1 u (List.mem_of_mem_drop (List.mem_of_mem_take hu))⟩
  · have h2 : (lo + k) * m ≤ n * m := Nat.mul_le_mul_right _ hk
    rw [Nat.add_mul] at h2
    rw [List.length_take, List.length_drop, h.1]; omega
  · intro j u hu
    rw [addr_add]
    rw [List.getElem?_take] at hu
    split at hu
    · rw [List.getElem?_drop] at hu; exact h.cell hg hu
    · cases hu
theorem flat_one (es : List Ent) : ∀ u ∈ flat es, u.oneCell' = true := by
  intro u hu
  obtain ⟨x, _, h⟩ := List.mem_flatMap.1 hu
  simp [Ent.vals] at h
  rcases h with rfl | rfl | rfl | rfl | rfl <;> rfl
theorem flat_drop (es : List Ent) (k : Nat) : (flat es).drop (k * 5) = flat (es.drop k) := by
  induction k generalizing es with
  | zero => simp
  | succ k ih =>
    cases es with
    | nil => simp [flat]
    | cons x es =>
      rw [flat_cons, List.drop_succ_cons, ← ih, show (k + 1) * 5 = x.vals.length + k * 5 by simp [Ent.vals]; omega, List.drop_append, List.drop_eq_nil_of_le (by omega), List.nil_append, Nat.add_sub_cancel_left]
theorem flat_take (es : List Ent) (k : Nat) : (flat es).take (k * 5) = flat (es.take k) := by
  induction k generalizing es with
  | zero => simp [flat]
  | succ k ih =>
    cases es with
    | nil => simp [flat]
    | cons x es =>
      rw [flat_cons, List.take_succ_cons, flat_cons, ← ih, show (k + 1) * 5 = x.vals.length + k * 5 by simp [Ent.vals]; omega, List.take_append, List.take_of_length_le (by omega), Nat.add_sub_cancel_left]
theorem Src.ents {w : World} {E : TypeId} {sv : Value} {es : List Ent} (h : Row w E 5 sv es.length (flat es)) {g : Nat} (hg : sv.ownBlock = some g) (lo k : Nat) (hk : lo + k ≤ es.length) : Src w (some ⟨g, lo * 5, none⟩) k 5 (flat ((es.drop lo).take k)) := by
  have := h.src hg (flat_one _) lo k hk
  rwa [flat_drop, flat_take] at this

/-- A row's slice with fewer elements, kept as a row (its spare room is what it was). -/
theorem App.grown {w0 w w' : World} {e : TypeId} {size : Nat} {v v' : Value} {n : Nat} {xs : List Value} (h : App w w' e size v v' n xs) {R : Nat → Prop} (hk : Kept R w0 w) (hv : ∀ b, v.ownBlock = some b → R b ∨ w0.heap.size ≤ b) : Kept R w0 w' :=
  hk.trans (h.kept.mono (R' := fun b => v.ownBlock = some b) (fun _ _ h => h)) (fun b hb e => (hv b e).elim id (fun h => absurd hb (by omega)))
theorem App.fresh {w0 w w' : World} {e : TypeId} {size : Nat} {v v' : Value} {n : Nat} {xs : List Value} (h : App w w' e size v v' n xs) (hs : w0.heap.size ≤ w.heap.size) (hv : ∀ b, v.ownBlock = some b → w0.heap.size ≤ b) : ∀ b, v'.ownBlock = some b → w0.heap.size ≤ b :=
  fun b hb => (h.own b hb).elim (hv b) (fun h => by omega)

end Go.Lx
namespace Go.Proofs.Ytbbkljgeddjghaa
open Go.RowKit Go.Lx Go.Shelf
theorem elemEntry : Elem Try.prog 25 32 5 := by
  obtain ⟨i0, hi, hz0, hz1, hz2⟩ := info_parts Try.infoEntry
  exact ⟨i0, _, 40, Try.underlying25, hi, hz0, hz1, hz2, rfl, by omega, by omega⟩
theorem Try.infoInt : (Try.prog.info? 3).map (fun i => (i.zero, i.size, i.bytes)) = some (some (.int .i64 0), 1, 8) := by kernel_rfl
theorem elemInt : Elem Try.prog 22 3 1 := by
  obtain ⟨i0, hi, hz0, hz1, hz2⟩ := info_parts Try.infoInt
  exact ⟨i0, _, 8, Try.underlying22, hi, hz0, hz1, hz2, rfl, by omega, by omega⟩
end Go.Proofs.Ytbbkljgeddjghaa
