/-
  What is proved: a range over a function in a walk without a fence; what its book-keeping leaves alone. No program is spoken of.
-/
import Derived.RangeFuncNested
import Derived.RangeFuncBound
import Derived.RangeFuncCalls
import Derived.RangeFuncLeaves
import Derived.Shelf.Abstract
import Derived.Shelf.RegionOpen
import Derived.WalkKit
import Derived.OwnWalkIn
import Derived.TacticsInMore
import Derived.LoopNIn
import Derived.LoopIn
import Derived.Test.YtbbkljgeddjghaaRow
import Derived.StillTailTactics
import Derived.OrdersIn
import Derived.OrdersHeld
import Derived.Deep.RegionHeld
namespace Go.Lx
open Go.RowKit
set_option linter.unusedVariables false

variable {P : Program}

theorem calls_of_wp_marks {f : FuncId} {fn : Func} {c : Code} {args : Array Value} {w : World} {R : Ending → World → Prop}
    (hf : P.funcs[f]? = some fn) (hb : fn.body = some c) (h : c.wp P (bodyPostM Fence.wide 3 P fn R) { tmps := args ++ Array.replicate (fn.ntmps - args.size) undef, defers := [] } w) : Calls P f args w R :=
  (callsIn_wide (n := 3)).1 (callsIn_of_wp_marks hf hb trivial (wpIn_wide.2 h) rfl)

/-- At the function's return: the loop's mark is taken, the results are read. -/
theorem leave_mark {fn : Func} {R : Ending → World → Prop} {e : Exit} (he : e = .normal ∨ e = .ret) {tm : Array Value} {D : Nat} {w : World} {v : Value} (hK : w.heap[D]? = some (.deferred (some [])))
    (hr : (results fn tm).run P (w.putObj D (.deferred none)) = .ok v (w.putObj D (.deferred none))) (hR : R (.returned v) (w.putObj D (.deferred none))) :
    bodyPostM Fence.wide 3 P fn R e { tmps := tm, defers := [{ target := .collected D, args := #[] }] } w := by
  rcases he with rfl | rfl
  · exact ⟨by simp, .inl ⟨_, _, rfl, run_takeDeferred hK, ⟨_, hr, hR⟩⟩⟩
  · exact ⟨by simp, .inl ⟨_, _, rfl, run_takeDeferred hK, ⟨_, hr, hR⟩⟩⟩

/-- A turn of the loop's book-keeping: one block from B on that is no cells may have turned. -/
structure Turned (B : Nat) (W W' : World) : Prop where
  ex : ∃ row, W.grownBy W' row ∧ ∀ r, row = some r → B ≤ r ∧ ∃ o : Obj, W.heap[r]? = some o ∧ o.isCells = false
theorem Turned.blk {B : Nat} {W W' : World} (h : Turned B W W') {b : Nat} {e : TypeId} {c : List Value} (hb : Blk W b e c) : Blk W' b e c := by
  obtain ⟨row, hg, hr⟩ := h.ex
  refine hb.same (hg.block b hb.lt fun e => ?_)
  obtain ⟨_, o, ho, hc⟩ := hr b e.symm
  unfold Blk at hb; rw [hb] at ho; cases ho; cases hc
theorem Turned.row {B : Nat} {W W' : World} (h : Turned B W W') {E : TypeId} {m n : Nat} {sv : Value} {xs : List Value} (hb : Row W E m sv n xs) : Row W' E m sv n xs := by
  obtain ⟨row, hg, hr⟩ := h.ex
  refine hb.same fun g hgg => hg.block g (hb.lt hgg) fun e => ?_
  obtain ⟨_, o, ho, hc⟩ := hr g e.symm
  rcases hb.2 with ⟨rfl, _⟩ | ⟨g', cap, cur, rfl, _, hgg', _⟩
  · simp [Value.ownBlock] at hgg
  · simp [Value.ownBlock] at hgg; subst hgg; rw [hgg'] at ho; cases ho; cases hc
theorem Turned.kept {B : Nat} {W W' : World} (h : Turned B W W') {R : Nat → Prop} {w : World} (hk : Kept R w W) (hB : w.heap.size ≤ B) : Kept R w W' := by
  obtain ⟨row, hg, hr⟩ := h.ex
  exact hk.grown hg fun r e => .inr (Nat.le_trans hB (hr r e).1)
theorem turned_put {B : Nat} {W : World} {D : Nat} {o o' : Obj} (hK : W.heap[D]? = some o) (ho : o.isCells = false) (hD : B ≤ D) : Turned B W (W.putObj D o') :=
  ⟨some D, grownBy_putObj' W D o', fun r e => by cases e; exact ⟨hD, o, hK, ho⟩⟩
theorem own_of_turned {β : Type} {B : Nat} {I : β → World → Prop} (h : ∀ s W W', I s W → Turned B W W' → I s W') : OwnFrom B I :=
  fun s W W' row hs hg hr => h s W W' hs ⟨row, hg, hr⟩

/-- What keeps all blocks but some of cells keeps whatever is no cells. -/
theorem keepsFrom_of {R : Nat → Prop} {W W' : World} (h : Kept R W W') {B : Nat} (hR : ∀ b o, B ≤ b → W.heap[b]? = some o → o.isCells = false → ¬ R b) : KeepsFrom B W W' :=
  ⟨h.size, fun k o hB hk ho => (h.block k (Array.getElem?_eq_some_iff.1 hk).1 (hR k o hB hk ho)).trans hk⟩

/-- **A range over a function**, in a walk without a fence. -/
theorem wp_range {α : Type} {g : Operand} {ps : Array Tmp} {assign body : Code} {Q : Exit → Act → World → Prop} {a : Act} {w : World}
    {gf : Nat} {lb : Array Value} (hg : a.eval g = .func (.func gf) #[] lb) (eg : ∀ args w, (callFunc gf args).run P w = .ok (.enter gf args) w)
    {encs : α → Array Value} {Kp : World → World → Prop} {S Sp : List α → Prop} {N : Nat} (hseq : SeqStopsK Fence.wide 2 P gf lb encs Kp S Sp N w)
    (hKt : ∀ {A B C : World}, Kp A B → Kp B C → Kp A C) (hKb : ∀ (W : World) (l : Nat) (o o' : Obj), w.heap.size ≤ l → W.heap[l]? = some o → o.isCells = false → o.isWalk = false → Kp W (W.putObj l o')) (hps : ∀ x, (encs x).size = ps.size)
    (I : List α → World → Prop) (Ix : Code → List α → World → Prop) (hI : ∀ s W W', I s W → Turned w.heap.size W W' → I s W') (hIx : ∀ c s W W', Ix c s W → Turned w.heap.size W W' → Ix c s W') (h0 : I [] w) (a₁ : α → Act)
    (hassign : ∀ (l : Nat) (x : α) (W : World) (K : Act → World → Prop), K (a₁ x) W →
      assign.wpIn (Fence.wide.inRound l) 1 P (Exit.then K (fun _ _ _ => False)) { tmps := (ps.zip (encs x)).foldl (fun t (p, v) => t.setIfInBounds p v) a.tmps, defers := [] } W)
    (hbody : ∀ (l : Nat) (pre : List α) (x : α) (W : World), I pre W → pre.length < N → body.wpIn (Fence.wide.inRound l) 1 P (ownPostG w.heap.size Kp I Ix (pre ++ [x]) W) (a₁ x) W)
    (hdone : ∀ (D : Nat) (xs : List α) (W : World), w.heap.size ≤ D → S xs → I xs W → W.heap[D]? = some (.deferred (some [])) → Q .normal { a with defers := { target := .collected D, args := #[] } :: a.defers } W)
    (hstop : ∀ (D : Nat) (c : Code) (pre : List α) (W : World), w.heap.size ≤ D → Sp pre → Ix c pre W → W.heap[D]? = some (.deferred (some [])) → c.wp P Q { a with defers := { target := .collected D, args := #[] } :: a.defers } W) :
    (Code.rangeFunc g ps assign body).wp P Q a w :=
  (wpIn_wide (n := 3)).1 (wpIn_rangeFunc_ownG (w0 := w) rfl (by omega) hg trivial eg hseq hKt hKb (Below.refl _ _) hps I Ix (own_of_turned hI) (fun c => own_of_turned (hIx c)) h0 a₁ hassign hbody hdone
    (fun D c pre W hD hs hx hK => wpIn_wide.2 (hstop D c pre W hD hs hx hK)))

/-- **A range over a function** whose variables lie in boxes (a round lays them anew), in a walk without a fence. -/
theorem wp_range_box {α : Type} {g : Operand} {ps : Array Tmp} {assign body : Code} {Q : Exit → Act → World → Prop} {a : Act} {w : World}
    {gf : Nat} {lb : Array Value} (hg : a.eval g = .func (.func gf) #[] lb) (eg : ∀ args w, (callFunc gf args).run P w = .ok (.enter gf args) w)
    {encs : α → Array Value} {Kp : World → World → Prop} {S Sp : List α → Prop} {N : Nat} (hseq : SeqStopsK Fence.wide 2 P gf lb encs Kp S Sp N w)
    (hKt : ∀ {A B C : World}, Kp A B → Kp B C → Kp A C) (hKb : ∀ (W : World) (l : Nat) (o o' : Obj), w.heap.size ≤ l → W.heap[l]? = some o → o.isCells = false → o.isWalk = false → Kp W (W.putObj l o')) (hps : ∀ x, (encs x).size = ps.size)
    (I : List α → World → Prop) (Ix : Code → List α → World → Prop) (hI : ∀ s W W', I s W → Turned w.heap.size W W' → I s W') (hIx : ∀ c s W W', Ix c s W → Turned w.heap.size W W' → Ix c s W') (h0 : I [] w) (Ax : α → Act → World → Prop)
    (hAx : ∀ x a' W W', Ax x a' W → Turned w.heap.size W W' → Ax x a' W')
    (hassign : ∀ (l : Nat) (pre : List α) (x : α) (W : World) (K : Act → World → Prop), I pre W → (∀ a' W', KeepsFrom w.heap.size W W' → Kp W W' → I pre W' → Ax x a' W' → K a' W') →
      assign.wpIn (Fence.wide.inRound l) 1 P (Exit.then K (fun _ _ _ => False)) { tmps := (ps.zip (encs x)).foldl (fun t (p, v) => t.setIfInBounds p v) a.tmps, defers := [] } W)
    (hbody : ∀ (l : Nat) (pre : List α) (x : α) (a' : Act) (W : World), w.heap.size ≤ l → I pre W → Ax x a' W → pre.length < N → body.wpIn (Fence.wide.inRound l) 1 P (ownPostG w.heap.size Kp I Ix (pre ++ [x]) W) a' W)
    (hdone : ∀ (D : Nat) (xs : List α) (W : World), w.heap.size ≤ D → S xs → I xs W → W.heap[D]? = some (.deferred (some [])) → Q .normal { a with defers := { target := .collected D, args := #[] } :: a.defers } W)
    (hstop : ∀ (D : Nat) (c : Code) (pre : List α) (W : World), w.heap.size ≤ D → Sp pre → Ix c pre W → W.heap[D]? = some (.deferred (some [])) → c.wp P Q { a with defers := { target := .collected D, args := #[] } :: a.defers } W) :
    (Code.rangeFunc g ps assign body).wp P Q a w :=
  (wpIn_wide (n := 3)).1 (wpIn_rangeFunc_ownH (w0 := w) rfl (by omega) hg trivial eg hseq hKt hKb (Below.refl _ _) hps I Ix (own_of_turned hI) (fun c => own_of_turned (hIx c)) h0 Ax
    (fun x a' => own_of_turned (fun _ W W' h hT => hAx x a' W W' h hT)) hassign (fun l pre x a' W hl _ hi hx hn => hbody l pre x a' W hl hi hx hn) hdone
    (fun D c pre W hD hs hx hK => wpIn_wide.2 (hstop D c pre W hD hs hx hK)))

/-! ### A region that draws its order, in a round -/
section
variable {ops : Array Oper} {Q : Exit → Act → World → Prop} {md : Region.Mode}
theorem wpIn_round_of_wp (l n : Nat) {o : Oper} (hd : ∀ c, o.op ≠ .defer c) {a : Act} {w : World} {K : Act → World → Prop} (h : o.wp P a w K Q) : o.wpIn (Fence.wide.inRound l) n P a w K Q := by
  unfold Oper.wp at h
  unfold Oper.wpIn
  refine ⟨fun _ _ => trivial, ?_⟩
  rw [Oper.semAt_plain _ _ _ hd]
  generalize (execOp a.eval o).run P w = r at *
  cases r with
  | ok x w' =>
    cases x <;> simp only [Oper.upon, Oper.uponIn] at h ⊢ <;> first
      | exact h
      | exact ⟨(fun e => by cases e), callsIn_wide.2 h⟩
      | exact ⟨(fun e => by cases e), fun c cs _ => let ⟨v, w', r, s⟩ := h c cs; ⟨v, w', r, stepsIn_wide.2 s⟩⟩
  | halt x w' => cases x <;> simp only [Oper.upon, Oper.uponIn] at h ⊢ <;> exact h
/-- No operation is a defer statement. -/
def noDefer (ops : Array Oper) : Bool := ops.toList.all fun o => match o.op with | .defer _ => false | _ => true
theorem noDefer_spec (h : noDefer ops = true) {i : Nat} {o : Oper} (ho : ops[i]? = some o) : ∀ c, o.op ≠ .defer c := by
  intro c hc
  have := List.all_eq_true.1 h o (by rw [Array.getElem?_eq_some_iff] at ho; obtain ⟨hi, rfl⟩ := ho; simp)
  simp [hc] at this
theorem wpAnyIn_of (l n : Nat) (hn : noDefer ops = true) (hq : ∀ a w, ¬ Q .outgrown a w) : ∀ (fuel : Nat) (listed : Array Bool) (a : Act) (w : World), wpAny P md ops Q fuel listed a w → wpAnyIn (Fence.wide.inRound l) n P md ops Q fuel listed a w := by
  intro fuel
  induction fuel with
  | zero => exact fun _ _ _ h => h
  | succ fuel ih =>
    intro listed a w h
    refine ⟨h.1, fun i hi => ?_⟩
    have hh := h.2 i hi
    unfold wpOp at hh
    unfold wpOpIn
    split
    · rename_i h0; simp only [h0] at hh; exact ih _ _ _ hh
    · rename_i o ho
      simp only [ho] at hh
      split
      · rename_i hw
        simp only [hw, if_true] at hh
        rcases hh with hh | ⟨_, a₀, w₀, h0⟩
        · exact wpIn_round_of_wp l n (noDefer_spec hn ho) (Oper.wp_mono (fun a w h => ih _ a w h) hh)
        · exact (hq _ _ h0).elim
      · rename_i hw
        simp only [hw] at hh
        exact ⟨fun _ _ => trivial, ih _ _ _ hh⟩
/-- Reads and quiet calls ahead of a tail whose order is forced: in a round. -/
theorem round_still_tail {id ll : Nat} {a : Act} {w : World} {l : List Oper} {nn : Nat} (n : Nat) (hm : P.follows .mixedOrders = true) (hB : Region.lexTailB .any l.toArray n = true) (hnd : noDefer l.toArray = true) (hq : ∀ a w, ¬ Q .outgrown a w)
    (h : wpStill P l.toArray w.drew (fun a' => wpList P l.toArray Q (l.drop n) a' w.drew) (l.take n) a) : (Code.region id l.toArray true).wpIn (Fence.wide.inRound ll) nn P Q a w := by
  refine wpIn_region_any hm (wpAnyIn_of ll nn hnd hq _ _ _ _ ?_)
  simp only [Region.lexTailB, Bool.and_eq_true, decide_eq_true_eq] at hB
  obtain ⟨⟨⟨⟨hsel, hn⟩, hs⟩, hc⟩, hlex⟩ := hB
  have hn' : n < l.length := by simpa using hn
  have htl : (l.take n).length = n := by simp; omega
  have hdl : (l.drop n).length = l.toArray.size - n := by simp
  have inv0 : HeadInv .any l.toArray n (Array.replicate l.toArray.size false) :=
    ⟨by simp, fun j oj _ hl => (by rw [getD_replicate_false] at hl; cases hl), fun t _ ht => getD_in (by simpa using ht) (getD_replicate_false _ _)⟩
  have H := wpAnyL_lex (md := .any) (g := l.toArray.size - n) hsel hs hc hn (l.take n) 0 _ a (fun j hj => by
    have hj' : j < n := by rw [htl] at hj; exact hj
    simp [hj']) (by simpa using htl) inv0 (by rw [htl]; exact hlex) h
  have := wpAny_of_head (Q' := Q) (g := l.toArray.size - n) (fun listed a' hL => by
    have := wpAny_of_seq (md := .any) (Q' := Q) (l.drop n) n listed a' { w with drawn := w.drawn + 1 } (fun j => by simp [List.getElem?_drop]) (by rw [hdl]; exact hL.1) hL.2
    rwa [hdl] at this) _ _ _ H
  rw [htl, show n + (l.toArray.size - n) = l.toArray.size by omega] at this
  exact this
end

/-- A region in a round that draws its order: in whatever order, under a condition on the world that abides (Derived/OrdersHeld.lean). -/
theorem round_held {P : Program} {ops : Array Oper} {Q : Exit → Act → World → Prop} {S : World → Prop} {id ll nn : Nat} {a : Act} {w : World} (hm : P.follows .mixedOrders = true) (hnd : noDefer ops = true) (hq : ∀ a w, ¬ Q .outgrown a w)
    (h : wpAnyH P .any ops Q S ops.size (Array.replicate ops.size false) a w.drew) : (Code.region id ops true).wpIn (Fence.wide.inRound ll) nn P Q a w :=
  wpIn_region_any hm (wpAnyIn_of ll nn hnd hq _ _ _ _ (wpAny_of_held _ _ _ _ h))

/-- A plain contract, in a round. -/
theorem round_call (l : Nat) {n : Nat} {f : FuncId} {args : Array Value} {w : World} {R : Ending → World → Prop} (h : Calls P f args w R) : CallsIn (Fence.wide.inRound l) n P f args w R :=
  CallsIn.inRound l (callsIn_wide.2 h)

end Go.Lx
