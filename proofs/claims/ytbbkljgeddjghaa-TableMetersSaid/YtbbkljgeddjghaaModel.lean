/-
  What is defined: the table of chapter 7 in plain Lean (entries, cells, numbers), and what each call makes of it, as the program does it. No program is spoken of.
-/
import Derived.Test.YtbbkljgeddjghaaTrail
import Derived.Test.YtbbkljgeddjghaaRow
namespace Go.Lx
open Go.RowKit

structure Ent where
  live : Bool
  hash : Int
  key : Int
  value : Int
  birth : Int
  deriving DecidableEq
/-- The cells of an entry. -/
def Ent.vals (x : Ent) : List Value := [.bool x.live, .int .i64 x.hash, .int .i64 x.key, .int .i64 x.value, .int .i64 x.birth]
/-- An entry that is dead. -/
def Ent.dead : Ent := ⟨false, 0, 0, 0, 0⟩
def flat (es : List Ent) : List Value := es.flatMap Ent.vals

theorem flat_nil : flat [] = [] := rfl
theorem flat_cons (x : Ent) (es : List Ent) : flat (x :: es) = x.vals ++ flat es := rfl
theorem flat_append (a b : List Ent) : flat (a ++ b) = flat a ++ flat b := by simp [flat]
theorem flat_len (es : List Ent) : (flat es).length = es.length * 5 := by
  induction es with
  | nil => rfl
  | cons x es ih => rw [flat_cons, List.length_append, ih]; simp [Ent.vals]; omega
theorem flat_get (es : List Ent) (i k : Nat) (x : Ent) (hx : es[i]? = some x) (hk : k < 5) : (flat es)[i * 5 + k]? = x.vals[k]? := by
  induction es generalizing i with
  | nil => simp at hx
  | cons y es ih =>
    rw [flat_cons]
    cases i with
    | zero => simp at hx; subst hx; rw [List.getElem?_append_left (by simp [Ent.vals]; omega)]; congr 1; omega
    | succ i =>
      rw [List.getElem?_append_right (by simp [Ent.vals]; omega)]
      rw [← ih i (by simpa using hx)]
      congr 1; simp [Ent.vals]; omega
theorem flat_set (es : List Ent) (i k : Nat) (x y : Ent) (v : Value) (hx : es[i]? = some x) (hk : k < 5) (hy : y.vals = x.vals.set k v) : (flat es).set (i * 5 + k) v = flat (es.set i y) := by
  induction es generalizing i with
  | nil => simp at hx
  | cons z es ih =>
    rw [flat_cons]
    cases i with
    | zero =>
      simp at hx; subst hx
      rw [List.set_append_left _ _ (by simp [Ent.vals]; omega), List.set_cons_zero, flat_cons, hy]
      congr 2; omega
    | succ i =>
      rw [List.set_append_right _ _ (by simp [Ent.vals]; omega), List.set_cons_succ, flat_cons]
      rw [← ih i (by simpa using hx)]
      congr 2; simp [Ent.vals]; omega

structure Tab where
  ents : List Ent
  cells : List Int
  log : Nat
  live : Nat
  births : Nat
  made : Nat
  turn : Nat

def room (log : Nat) : Nat := 2 * 2 ^ log / 3
/-- The first place of the trail, among so many, whose cell holds v. -/
def findAt (cs : List Int) (log : Nat) (h v : Int) (N : Nat) : Option Nat := (List.range N).find? fun i => cs[tc log h i]? == some v
/-- An entry's number, laid. -/
def layCells (cs : List Int) (log : Nat) (h : Int) (n : Nat) : List Int :=
  match findAt cs log h (-1) (2 ^ log + 13) with
  | some i => cs.set (tc log h i) n
  | none => cs
/-- An entry's cell, turned to Dead. -/
def killCells (cs : List Int) (log : Nat) (h : Int) (n : Nat) : List Int :=
  match findAt cs log h n (2 ^ log + 13) with
  | some i => cs.set (tc log h i) (-2)
  | none => cs
/-- Entries laid in their order, from a number on. -/
def layFrom (log : Nat) : List Ent → Nat → List Int → List Int
  | [], _, cs => cs
  | x :: es, n, cs => layFrom log es (n + 1) (layCells cs log x.hash n)
def blankC (log : Nat) : List Int := List.replicate (2 ^ log) (-1)
/-- The least number from 3 to 20 of which something holds; else 21. -/
def leastLog (p : Nat → Bool) : Nat := ((List.range' 3 18).find? p).getD 21
/-- A new index table. -/
def Tab.index (T : Tab) (log : Nat) : Tab := { T with cells := blankC log, log := log, made := T.made + 1 }
def Tab.new : Tab := { ents := [], cells := blankC 3, log := 3, live := 0, births := 0, made := 1, turn := 0 }
/-- The index table that is made where there is no room. -/
def Tab.grow (T : Tab) : Tab :=
  let log := leastLog fun l => 3 * T.live ≤ 2 ^ l
  let es := T.ents.filter (·.live)
  { T with ents := es, cells := layFrom log es 0 (blankC log), log := log, made := T.made + 1 }
/-- Is there no room for one more? -/
def Tab.tight (T : Tab) : Bool := T.ents.length == room T.log
def Tab.put1 (T : Tab) (hash key value : Int) : Tab :=
  { ents := T.ents ++ [⟨true, hash, key, value, T.births⟩], cells := layCells T.cells T.log hash T.ents.length, log := T.log, live := T.live + 1, births := T.births + 1, made := T.made, turn := T.turn + 1 }
def Tab.add (T : Tab) (hash key value : Int) : Tab := (if T.tight then T.grow else T).put1 hash key value
/-- A live entry of that number. -/
def Tab.get (T : Tab) (n : Int) : Option Ent := if n < 0 then none else (T.ents[n.toNat]?).filter (·.live)
def Tab.put (T : Tab) (n : Int) (v : Int) : Tab :=
  match T.get n with
  | some x => { T with ents := T.ents.set n.toNat { x with value := v } }
  | none => T
def Tab.kill (T : Tab) (n : Int) : Tab :=
  match T.get n with
  | some x => { T with ents := T.ents.set n.toNat Ent.dead, cells := killCells T.cells T.log x.hash n.toNat, live := T.live - 1, turn := T.turn + 1 }
  | none => T
def Tab.clear (T : Tab) : Tab := { ents := [], cells := blankC 3, log := 3, live := 0, births := T.births, made := T.made + 1, turn := T.turn + 1 }
/-- Entries with births from a number on. -/
def renum : List Ent → Nat → List Ent
  | [], _ => []
  | x :: es, n => { x with birth := n } :: renum es (n + 1)
def Tab.copy (T : Tab) : Tab :=
  let es := renum (T.ents.filter (·.live)) 0
  let log := leastLog fun l => es.length ≤ 2 * 2 ^ l / 3
  { ents := es, cells := layFrom log es 0 (blankC log), log := log, live := es.length, births := es.length, made := 1, turn := 0 }

end Go.Lx
