/-
  What is proved: small facts on worlds: a block known whole, its cells, and 'Kept R': blocks outside of R lie as they lay. No program is spoken of.
-/
import Derived.WalkKit
import Derived.WalkSpells
import Derived.WalkLawsBesides
namespace Go.Lx
open Go.RowKit

/-- Outside of R the blocks that were there lie as they lay; the streams are as they were. -/
structure Kept (R : Nat → Prop) (w w' : World) : Prop where
  os : w'.os = w.os
  tape : w'.tape = w.tape
  output : w'.output = w.output
  size : w.heap.size ≤ w'.heap.size
  block : ∀ b, b < w.heap.size → ¬ R b → w'.heap[b]? = w.heap[b]?

theorem hid {p : Prop} (h : p) : Hid p := h

/-- no block -/
def Nil : Nat → Prop := fun _ => False

theorem Kept.refl (R : Nat → Prop) (w : World) : Kept R w w := ⟨rfl, rfl, rfl, Nat.le_refl _, fun _ _ _ => rfl⟩
theorem Kept.drew {R : Nat → Prop} {w w' : World} (h : Kept R w w') : Kept R w w'.drew := ⟨h.os, h.tape, h.output, h.size, h.block⟩
theorem Kept.undrew {R : Nat → Prop} {w w' : World} (h : Kept R w.drew w') : Kept R w w' := ⟨h.os, h.tape, h.output, h.size, h.block⟩
theorem Kept.undrewN {R : Nat → Prop} {w w' : World} {n : Nat} (h : Kept R (w.drewN n) w') : Kept R w w' := ⟨h.os, h.tape, h.output, h.size, h.block⟩
theorem Kept.drewN {R : Nat → Prop} {w w' : World} (h : Kept R w w') (n : Nat) : Kept R w (w'.drewN n) := ⟨h.os, h.tape, h.output, h.size, h.block⟩
theorem Kept.trans {R R' : Nat → Prop} {a b c : World} (h : Kept R a b) (k : Kept R' b c) (hR : ∀ x, x < a.heap.size → R' x → R x) : Kept R a c :=
  ⟨k.os.trans h.os, k.tape.trans h.tape, k.output.trans h.output, Nat.le_trans h.size k.size,
   fun x hx hn => (k.block x (Nat.lt_of_lt_of_le hx h.size) (fun hr => hn (hR x hx hr))).trans (h.block x hx hn)⟩
theorem Kept.mono {R R' : Nat → Prop} {w w' : World} (h : Kept R w w') (hR : ∀ x, x < w.heap.size → R x → R' x) : Kept R' w w' :=
  ⟨h.os, h.tape, h.output, h.size, fun x hx hn => h.block x hx (fun hr => hn (hR x hx hr))⟩
theorem Kept.alloc {R : Nat → Prop} {w w' : World} (h : Kept R w w') (o : Obj) : Kept R w (w'.alloc o) :=
  ⟨h.os, h.tape, h.output, by have := h.size; simp; omega, fun x hx hn => by rw [Below.heap_alloc _ _ _ (by have := h.size; omega)]; exact h.block x hx hn⟩
theorem Kept.setCell {R : Nat → Prop} {w w' : World} (h : Kept R w w') {p : Addr} (hp : R p.block ∨ w.heap.size ≤ p.block) (u : Value) : Kept R w (w'.setCell p u) :=
  ⟨h.os, h.tape, h.output, by have := h.size; simp; omega, fun x hx hn => by
    rw [Below.heap_setCell _ _ _ _ (by rintro rfl; rcases hp with hp | hp; exact hn hp; omega)]; exact h.block x hx hn⟩
theorem Kept.grown {R : Nat → Prop} {w w' w'' : World} {row : Option Nat} (h : Kept R w w') (hg : w'.grownBy w'' row) (hr : ∀ k, row = some k → R k ∨ w.heap.size ≤ k) : Kept R w w'' :=
  ⟨hg.os.trans h.os, hg.tape.trans h.tape, hg.output.trans h.output, Nat.le_trans h.size hg.size, fun x hx hn => by
    rw [hg.block x (Nat.lt_of_lt_of_le hx h.size) (fun e => by rcases hr x e.symm with h1 | h1; exact hn h1; omega)]; exact h.block x hx hn⟩
theorem Kept.below {R : Nat → Prop} {w w' : World} (h : Kept R w w') {B : Nat} (hB : B ≤ w.heap.size) (hR : ∀ x, R x → B ≤ x) : Below B w w' :=
  ⟨h.os, h.tape, h.output, h.size, fun x hx => h.block x (by omega) (fun hr => by have := hR x hr; omega)⟩
theorem Kept.ofBelow {w w' : World} (h : Below w.heap.size w w') (R : Nat → Prop) : Kept R w w' := ⟨h.os, h.tape, h.output, h.size, fun x hx _ => h.block x hx⟩

/-- Block b is cells of type e, all of them told, none frozen. -/
def Blk (w : World) (b : Nat) (e : TypeId) (c : List Value) : Prop := w.heap[b]? = some (.cells c.toArray e (0, 0))

theorem Blk.lt {w : World} {b : Nat} {e : TypeId} {c : List Value} (h : Blk w b e c) : b < w.heap.size := (Array.getElem?_eq_some_iff.1 h).1
theorem Blk.cell {w : World} {b : Nat} {e : TypeId} {c : List Value} (h : Blk w b e c) (i : Nat) : w.cell? ⟨b, i, none⟩ = c[i]? := by
  rw [cell_of_row w b i _ e (0, 0) h]; simp
theorem Blk.frozen {w : World} {b : Nat} {e : TypeId} {c : List Value} (h : Blk w b e c) (i : Nat) : w.frozen? ⟨b, i, none⟩ = false := by
  unfold Blk at h; simp [World.frozen?, h]
theorem Blk.same {w w' : World} {b : Nat} {e : TypeId} {c : List Value} (h : Blk w b e c) (hs : w'.heap[b]? = w.heap[b]?) : Blk w' b e c := hs.trans h
theorem Blk.kept {R : Nat → Prop} {w w' : World} {b : Nat} {e : TypeId} {c : List Value} (h : Blk w b e c) (hk : Kept R w w') (hR : ¬ R b) : Blk w' b e c := (hk.block b h.lt hR).trans h
theorem Blk.below {B : Nat} {w w' : World} {b : Nat} {e : TypeId} {c : List Value} (h : Blk w b e c) (hk : Below B w w') (hb : b < B) : Blk w' b e c := (hk.block b hb).trans h
theorem Blk.drew {w : World} {b : Nat} {e : TypeId} {c : List Value} (h : Blk w b e c) : Blk w.drew b e c := h
theorem Blk.drewN {w : World} {b : Nat} {e : TypeId} {c : List Value} (h : Blk w b e c) (n : Nat) : Blk (w.drewN n) b e c := h
theorem Blk.alloc {w : World} {b : Nat} {e : TypeId} {c : List Value} (h : Blk w b e c) (o : Obj) : Blk (w.alloc o) b e c := h.same (Below.heap_alloc w o b h.lt)
theorem Blk.new (w : World) (e : TypeId) (c : List Value) : Blk (w.alloc (.cells c.toArray e)) w.heap.size e c := by
  unfold Blk World.alloc; simp
theorem Blk.set {w : World} {b : Nat} {e : TypeId} {c : List Value} (h : Blk w b e c) (i : Nat) (v : Value) : Blk (w.setCell ⟨b, i, none⟩ v) b e (c.set i v) := by
  unfold Blk at *
  simp [World.setCell, Array.getElem?_modify, h]
theorem Blk.other {w : World} {b : Nat} {e : TypeId} {c : List Value} (h : Blk w b e c) {a : Addr} (hne : b ≠ a.block) (v : Value) : Blk (w.setCell a v) b e c :=
  h.same (Below.heap_setCell w a v b hne)
theorem Blk.inj {w : World} {b : Nat} {e e' : TypeId} {c c' : List Value} (h : Blk w b e c) (h' : Blk w b e' c') : e = e' ∧ c = c' := by
  unfold Blk at *; rw [h] at h'; simp at h'; exact ⟨h'.2, h'.1⟩
theorem Blk.ne {w : World} {b b' : Nat} {e e' : TypeId} {c c' : List Value} (h : Blk w b e c) (h' : Blk w b' e' c') (he : e ≠ e') : b ≠ b' := by
  rintro rfl; exact he (h.inj h').1

end Go.Lx
