/-
  What is proved: the walk of lexiconlaw7's does, kind by kind, over whatever the two calls do.
-/
import Derived.Test.YtbbkljgeddjghaaSteps
import Derived.Test.YtbbkljgeddjghaaHeld
import Derived.Test.YtbbkljgeddjghaaLawA
import Derived.Deep.RegionHeld3
namespace Go.Lx
def Keeps (A : World → Prop) (R : Nat → Prop) : Prop := ∀ u v, A u → Kept R u v → A v
def Stp.agg (s : Stp) : Value := .agg #[.int .i64 s.kind, .int .i64 s.hash, .int .i64 s.key, .int .i64 s.value, .int .i64 s.n]
theorem Keeps.nil {A : World → Prop} {R : Nat → Prop} (h : Keeps A R) : Keeps A Nil := fun u v a k => h u v a (k.mono (fun _ _ h => h.elim))
end Go.Lx
namespace Go.Proofs.Ytbbkljgeddjghaa
open Go.RowKit Go.Lx Go.Shelf
set_option linter.unusedVariables false
set_option linter.unusedSimpArgs false

/-- The two tables and their Seekers. -/
def TwoBlk (w : World) (x t b : Nat) (sp kp : Option Addr) : Prop := Blk w x 57 [.pointer (some ⟨t, 0, none⟩), .pointer (some ⟨b, 0, none⟩), .pointer sp, .pointer kp]

/-- What the two calls of a step are. -/
structure Calls2 (w : World) (f1 f2 : FuncId) (a1 a2 : Array Value) (v1 v2 : Value) (A B : World → Prop) (R1 R2 : Nat → Prop) (x : Nat) : Prop where
  one : ∀ W, Kept Nil w W → Calls Try.prog f1 a1 W fun e w1 => e = .returned v1 ∧ A w1 ∧ Kept R1 W w1
  two : ∀ W, A W → Kept R1 w W → Calls Try.prog f2 a2 W fun e w1 => e = .returned v2 ∧ B w1 ∧ Kept R2 W w1
  keepA : Keeps A Nil
  keepB : Keeps B Nil
  x1 : ¬ R1 x
  x2 : ¬ R2 x
  in1 : ∀ z, R1 z → z < w.heap.size
  in2 : ∀ z, R2 z → z < w.heap.size

set_option maxRecDepth 100000 in
set_option maxHeartbeats 2000000 in
theorem does2 (x t b : Nat) (sp kp : Option Addr) (s : Stp) (w : World) (A B : World → Prop) (R1 R2 : Nat → Prop) (k : Int) (hs : s.kind = 2) (hx : TwoBlk w x t b sp kp)
    (hc : Calls2 w 44 92 #[.pointer (some ⟨t, 0, none⟩), .int .i64 s.n, .int .i64 s.value] #[.pointer (some ⟨b, 0, none⟩), .int .i64 s.n, .int .i64 s.value] (.int .i64 k) (.int .i64 k) A B R1 R2 x) :
    Calls Try.prog 36 #[.pointer (some ⟨x, 0, none⟩), s.agg] w fun e w' => e = .returned (.bool true) ∧ B w' ∧ Kept (fun z => R1 z ∨ R2 z) w w' := by
  obtain ⟨kind, hash, key, value, n⟩ := s
  dsimp only at hs hc
  subst hs
  unfold Stp.agg
  obtain ⟨W0, hW0⟩ : ∃ W0, W0 = w.alloc (Obj.cells #[Value.int .i64 2, Value.int .i64 hash, Value.int .i64 key, Value.int .i64 value, Value.int .i64 n] 61) := ⟨_, rfl⟩
  have hB := Blk.new w 61 [Value.int .i64 2, Value.int .i64 hash, Value.int .i64 key, Value.int .i64 value, Value.int .i64 n]
  rw [← hW0] at hB
  have k0 : Kept Nil w W0 := by rw [hW0]; exact (Kept.refl _ w).alloc _
  have hx0 : Blk W0 x _ _ := Blk.kept hx k0 id
  obtain ⟨bx, hbx⟩ : ∃ bx, bx = w.heap.size := ⟨_, rfl⟩
  rw [← hbx] at hB
  have h1b : ¬ R1 bx := fun h => by have := hc.in1 _ h; omega
  have h2b : ¬ R2 bx := fun h => by have := hc.in2 _ h; omega
  have hS : ∀ W', Kept (fun z => R1 z ∨ R2 z) W0 W' → (W'.cell? ⟨x, 0, none⟩ = some (.pointer (some ⟨t, 0, none⟩)) ∧ W'.cell? ⟨x, 1, none⟩ = some (.pointer (some ⟨b, 0, none⟩)) ∧ W'.cell? ⟨bx, 3, none⟩ = some (.int .i64 value) ∧ W'.cell? ⟨bx, 4, none⟩ = some (.int .i64 n)) := by
    intro W' hk
    have h1 := hx0.kept hk (fun h => h.elim hc.x1 hc.x2)
    have h2 := hB.kept hk (fun h => h.elim h1b h2b)
    exact ⟨h1.cell 0, h1.cell 1, h2.cell 3, h2.cell 4⟩
  have b0 : W0.cell? ⟨bx, 0, none⟩ = some (.int .i64 2) := hB.cell 0
  have HS := hid hS
  have HC := hid hc
  have HK0 := hid k0
  have HW0 := hid hW0
  have HBX := hid hbx
  clear hS hc hx hx0 hB hbx hW0 h1b h2b k0
  go_enter Try.func36, Try.ntmps36
  go_wp2_with fail
  rw [← HW0.out, ← HBX.out]
  go_region_held3 (fun w' => w'.cell? ⟨x, 0, none⟩ = some (.pointer (some ⟨t, 0, none⟩)) ∧ w'.cell? ⟨x, 1, none⟩ = some (.pointer (some ⟨b, 0, none⟩)) ∧ w'.cell? ⟨bx, 3, none⟩ = some (.int .i64 value) ∧ w'.cell? ⟨bx, 4, none⟩ = some (.int .i64 n))
    (first | exact HS.out _ k2 | exact HS.out _ k1 | exact HS.out _ k1.drew | exact HS.out _ (Kept.refl _ _).drew | fail)
    (first
      | (go_at_call 44; refine (HC.out.one _ HK0.out.drew).mono ?_; rintro e w1 ⟨rfl, hA1, hk1⟩; have k1 : Kept (fun z => R1 z ∨ R2 z) W0 w1 := hk1.undrew.mono (fun _ _ h => .inl h))
      | (go_at_call 92; refine (HC.out.two _ hA1 (HK0.out.mono (fun _ _ h => h.elim) |>.trans hk1.undrew (fun _ _ h => h))).mono ?_; rintro e w2 ⟨rfl, hB2, hk2⟩; have k2 : Kept (fun z => R1 z ∨ R2 z) W0 w2 := k1.trans hk2 (fun _ _ h => .inr h)))
  go_wp2
  go_ret
  exact ⟨rfl, hB2, (HK0.out.mono (R' := fun z => R1 z ∨ R2 z) (fun _ _ h => h.elim)).trans k2 (fun _ _ h => h)⟩

set_option maxRecDepth 100000 in
set_option maxHeartbeats 2000000 in
theorem does3 (x t b : Nat) (sp kp : Option Addr) (s : Stp) (w : World) (A B : World → Prop) (R1 R2 : Nat → Prop) (k : Int) (hs : s.kind = 3) (hx : TwoBlk w x t b sp kp)
    (hc : Calls2 w 45 93 #[.pointer (some ⟨t, 0, none⟩), .int .i64 s.n] #[.pointer (some ⟨b, 0, none⟩), .int .i64 s.n] (.int .i64 k) (.int .i64 k) A B R1 R2 x) :
    Calls Try.prog 36 #[.pointer (some ⟨x, 0, none⟩), s.agg] w fun e w' => e = .returned (.bool true) ∧ B w' ∧ Kept (fun z => R1 z ∨ R2 z) w w' := by
  obtain ⟨kind, hash, key, value, n⟩ := s
  dsimp only at hs hc
  subst hs
  unfold Stp.agg
  obtain ⟨W0, hW0⟩ : ∃ W0, W0 = w.alloc (Obj.cells #[Value.int .i64 3, Value.int .i64 hash, Value.int .i64 key, Value.int .i64 value, Value.int .i64 n] 61) := ⟨_, rfl⟩
  have hB := Blk.new w 61 [Value.int .i64 3, Value.int .i64 hash, Value.int .i64 key, Value.int .i64 value, Value.int .i64 n]
  rw [← hW0] at hB
  have k0 : Kept Nil w W0 := by rw [hW0]; exact (Kept.refl _ w).alloc _
  have hx0 : Blk W0 x _ _ := Blk.kept hx k0 id
  obtain ⟨bx, hbx⟩ : ∃ bx, bx = w.heap.size := ⟨_, rfl⟩
  rw [← hbx] at hB
  have h1b : ¬ R1 bx := fun h => by have := hc.in1 _ h; omega
  have h2b : ¬ R2 bx := fun h => by have := hc.in2 _ h; omega
  have hS : ∀ W', Kept (fun z => R1 z ∨ R2 z) W0 W' → (W'.cell? ⟨x, 0, none⟩ = some (.pointer (some ⟨t, 0, none⟩)) ∧ W'.cell? ⟨x, 1, none⟩ = some (.pointer (some ⟨b, 0, none⟩)) ∧ W'.cell? ⟨bx, 4, none⟩ = some (.int .i64 n)) := by
    intro W' hk
    have h1 := hx0.kept hk (fun h => h.elim hc.x1 hc.x2)
    have h2 := hB.kept hk (fun h => h.elim h1b h2b)
    exact ⟨h1.cell 0, h1.cell 1, h2.cell 4⟩
  have b0 : W0.cell? ⟨bx, 0, none⟩ = some (.int .i64 3) := hB.cell 0
  have HS := hid hS
  have HC := hid hc
  have HK0 := hid k0
  have HW0 := hid hW0
  have HBX := hid hbx
  clear hS hc hx hx0 hB hbx hW0 h1b h2b k0
  go_enter Try.func36, Try.ntmps36
  go_wp2_with fail
  rw [← HW0.out, ← HBX.out]
  go_region_held3 (fun w' => w'.cell? ⟨x, 0, none⟩ = some (.pointer (some ⟨t, 0, none⟩)) ∧ w'.cell? ⟨x, 1, none⟩ = some (.pointer (some ⟨b, 0, none⟩)) ∧ w'.cell? ⟨bx, 4, none⟩ = some (.int .i64 n))
    (first | exact HS.out _ k2 | exact HS.out _ k1 | exact HS.out _ k1.drew | exact HS.out _ (Kept.refl _ _).drew | fail)
    (first
      | (go_at_call 45; refine (HC.out.one _ HK0.out.drew).mono ?_; rintro e w1 ⟨rfl, hA1, hk1⟩; have k1 : Kept (fun z => R1 z ∨ R2 z) W0 w1 := hk1.undrew.mono (fun _ _ h => .inl h))
      | (go_at_call 93; refine (HC.out.two _ hA1 (HK0.out.mono (fun _ _ h => h.elim) |>.trans hk1.undrew (fun _ _ h => h))).mono ?_; rintro e w2 ⟨rfl, hB2, hk2⟩; have k2 : Kept (fun z => R1 z ∨ R2 z) W0 w2 := k1.trans hk2 (fun _ _ h => .inr h)))
  go_wp2
  go_ret
  exact ⟨rfl, hB2, (HK0.out.mono (R' := fun z => R1 z ∨ R2 z) (fun _ _ h => h.elim)).trans k2 (fun _ _ h => h)⟩

set_option maxRecDepth 100000 in
set_option maxHeartbeats 2000000 in
theorem does1 (x t b : Nat) (sp kp : Option Addr) (s : Stp) (w : World) (A B : World → Prop) (R1 R2 : Nat → Prop) (a k : Int) (hs : s.kind = 1) (hx : TwoBlk w x t b sp kp)
    (hc : Calls2 w 42 91 #[.pointer (some ⟨t, 0, none⟩), .int .i64 s.hash, .int .i64 s.key, .int .i64 s.value] #[.pointer (some ⟨b, 0, none⟩), .int .i64 s.hash, .int .i64 s.key, .int .i64 s.value] (.tuple #[.int .i64 a, .int .i64 k]) (.tuple #[.int .i64 a, .int .i64 k]) A B R1 R2 x) :
    Calls Try.prog 36 #[.pointer (some ⟨x, 0, none⟩), s.agg] w fun e w' => e = .returned (.bool true) ∧ B w' ∧ Kept (fun z => R1 z ∨ R2 z) w w' := by
  obtain ⟨kind, hash, key, value, n⟩ := s
  dsimp only at hs hc
  subst hs
  unfold Stp.agg
  obtain ⟨W0, hW0⟩ : ∃ W0, W0 = w.alloc (Obj.cells #[Value.int .i64 1, Value.int .i64 hash, Value.int .i64 key, Value.int .i64 value, Value.int .i64 n] 61) := ⟨_, rfl⟩
  have hB := Blk.new w 61 [Value.int .i64 1, Value.int .i64 hash, Value.int .i64 key, Value.int .i64 value, Value.int .i64 n]
  rw [← hW0] at hB
  have k0 : Kept Nil w W0 := by rw [hW0]; exact (Kept.refl _ w).alloc _
  have hx0 : Blk W0 x _ _ := Blk.kept hx k0 id
  obtain ⟨bx, hbx⟩ : ∃ bx, bx = w.heap.size := ⟨_, rfl⟩
  rw [← hbx] at hB
  have h1b : ¬ R1 bx := fun h => by have := hc.in1 _ h; omega
  have h2b : ¬ R2 bx := fun h => by have := hc.in2 _ h; omega
  have hS : ∀ W', Kept (fun z => R1 z ∨ R2 z) W0 W' → (W'.cell? ⟨x, 0, none⟩ = some (.pointer (some ⟨t, 0, none⟩)) ∧ W'.cell? ⟨x, 1, none⟩ = some (.pointer (some ⟨b, 0, none⟩)) ∧ W'.cell? ⟨bx, 1, none⟩ = some (.int .i64 hash) ∧ W'.cell? ⟨bx, 2, none⟩ = some (.int .i64 key) ∧ W'.cell? ⟨bx, 3, none⟩ = some (.int .i64 value)) := by
    intro W' hk
    have h1 := hx0.kept hk (fun h => h.elim hc.x1 hc.x2)
    have h2 := hB.kept hk (fun h => h.elim h1b h2b)
    exact ⟨h1.cell 0, h1.cell 1, h2.cell 1, h2.cell 2, h2.cell 3⟩
  have b0 : W0.cell? ⟨bx, 0, none⟩ = some (.int .i64 1) := hB.cell 0
  have HS := hid hS
  have HC := hid hc
  have HK0 := hid k0
  have HW0 := hid hW0
  have HBX := hid hbx
  clear hS hc hx hx0 hB hbx hW0 h1b h2b k0
  go_enter Try.func36, Try.ntmps36
  go_wp2_with fail
  rw [← HW0.out, ← HBX.out]
  go_region_held3 (fun w' => w'.cell? ⟨x, 0, none⟩ = some (.pointer (some ⟨t, 0, none⟩)) ∧ w'.cell? ⟨x, 1, none⟩ = some (.pointer (some ⟨b, 0, none⟩)) ∧ w'.cell? ⟨bx, 1, none⟩ = some (.int .i64 hash) ∧ w'.cell? ⟨bx, 2, none⟩ = some (.int .i64 key) ∧ w'.cell? ⟨bx, 3, none⟩ = some (.int .i64 value))
    (first | exact HS.out _ k2 | exact HS.out _ k1 | exact HS.out _ k1.drew | exact HS.out _ (Kept.refl _ _).drew | fail)
    (first
      | (go_at_call 42; refine (HC.out.one _ HK0.out.drew).mono ?_; rintro e w1 ⟨rfl, hA1, hk1⟩; have k1 : Kept (fun z => R1 z ∨ R2 z) W0 w1 := hk1.undrew.mono (fun _ _ h => .inl h)))
  go_wp2_with fail
  go_region_held3 (fun w' => w'.cell? ⟨x, 0, none⟩ = some (.pointer (some ⟨t, 0, none⟩)) ∧ w'.cell? ⟨x, 1, none⟩ = some (.pointer (some ⟨b, 0, none⟩)) ∧ w'.cell? ⟨bx, 1, none⟩ = some (.int .i64 hash) ∧ w'.cell? ⟨bx, 2, none⟩ = some (.int .i64 key) ∧ w'.cell? ⟨bx, 3, none⟩ = some (.int .i64 value))
    (first | exact HS.out _ k2 | exact HS.out _ k1 | exact HS.out _ k1.drew | exact HS.out _ (Kept.refl _ _).drew | fail)
    (first
      | (go_at_call 91; refine (HC.out.two _ (HC.out.keepA _ _ hA1 (Kept.refl Nil _).drew) (HK0.out.mono (fun _ _ h => h.elim) |>.trans hk1.undrew (fun _ _ h => h)).drew).mono ?_; rintro e w2 ⟨rfl, hB2, hk2⟩; have k2 : Kept (fun z => R1 z ∨ R2 z) W0 w2 := k1.drew.trans hk2 (fun _ _ h => .inr h)))
  go_wp2
  go_ret
  exact ⟨rfl, hB2, (HK0.out.mono (R' := fun z => R1 z ∨ R2 z) (fun _ _ h => h.elim)).trans k2 (fun _ _ h => h)⟩

set_option maxRecDepth 100000 in
set_option maxHeartbeats 2000000 in
theorem does5 (x t b : Nat) (sp kp : Option Addr) (s : Stp) (w : World) (A B : World → Prop) (R1 R2 : Nat → Prop) (hs : s.kind = 5) (hx : TwoBlk w x t b sp kp)
    (hc : Calls2 w 43 95 #[.pointer (some ⟨t, 0, none⟩)] #[.pointer (some ⟨b, 0, none⟩)] (.tuple #[]) (.tuple #[]) A B R1 R2 x) :
    Calls Try.prog 36 #[.pointer (some ⟨x, 0, none⟩), s.agg] w fun e w' => e = .returned (.bool true) ∧ B w' ∧ Kept (fun z => R1 z ∨ R2 z) w w' := by
  obtain ⟨kind, hash, key, value, n⟩ := s
  dsimp only at hs hc
  subst hs
  unfold Stp.agg
  have q0 : w.cell? ⟨x, 0, none⟩ = some (.pointer (some ⟨t, 0, none⟩)) := Blk.cell hx 0
  have q1 : w.cell? ⟨x, 1, none⟩ = some (.pointer (some ⟨b, 0, none⟩)) := Blk.cell hx 1
  have hS : ∀ W', Kept R1 w W' → W'.cell? ⟨x, 1, none⟩ = some (.pointer (some ⟨b, 0, none⟩)) := fun W' hk => (Blk.kept hx hk hc.x1).cell 1
  have hxl : x < w.heap.size := Blk.lt hx
  have HS := hid hS
  have HC := hid hc
  clear hS hc hx
  go_enter Try.func36, Try.ntmps36
  go_wp2_with (first
      | (go_at_call 43; refine (HC.out.one _ ((Kept.refl _ w).alloc _)).mono ?_; rintro e w1 ⟨rfl, hA1, hk1⟩; have k1 : Kept R1 w w1 := ((Kept.refl R1 w).alloc _).trans hk1 (fun _ _ h => h); have p1 := HS.out _ k1)
      | (go_at_call 95; refine (HC.out.two _ hA1 k1).mono ?_; rintro e w2 ⟨rfl, hB2, hk2⟩))
  go_ret
  exact ⟨rfl, hB2, (k1.mono (R' := fun z => R1 z ∨ R2 z) (fun _ _ h => .inl h)).trans hk2 (fun _ _ h => .inr h)⟩

/-- What the two calls of a step are that lay something new. -/
structure CallsNew (w : World) (f1 f2 : FuncId) (a1 a2 : Array Value) (A : Nat → World → Prop) (B : Nat → Nat → World → Prop) (R1 R2 : Nat → Prop) (x : Nat) : Prop where
  one : ∀ W, Kept Nil w W → Calls Try.prog f1 a1 W fun e w1 => ∃ p, e = .returned (.pointer (some ⟨p, 0, none⟩)) ∧ A p w1 ∧ Kept R1 W w1
  two : ∀ p W, A p W → Kept (fun z => R1 z ∨ z = x) w W → Calls Try.prog f2 a2 W fun e w1 => ∃ q, e = .returned (.pointer (some ⟨q, 0, none⟩)) ∧ B p q w1 ∧ Kept R2 W w1
  keepA : ∀ p, Keeps (A p) (fun z => z = x)
  keepB : ∀ p q, Keeps (B p q) (fun z => z = x)
  x1 : ¬ R1 x
  x2 : ¬ R2 x
  in1 : ∀ z, R1 z → z < w.heap.size
  in2 : ∀ z, R2 z → z < w.heap.size

set_option maxRecDepth 100000 in
set_option maxHeartbeats 2000000 in
theorem does6 (x t b : Nat) (sp kp : Option Addr) (s : Stp) (w : World) (A : Nat → World → Prop) (B : Nat → Nat → World → Prop) (R1 R2 : Nat → Prop) (hs : s.kind = 6) (hx : TwoBlk w x t b sp kp)
    (hc : CallsNew w 28 35 #[.pointer (some ⟨t, 0, none⟩)] #[.pointer (some ⟨b, 0, none⟩)] A B R1 R2 x) :
    Calls Try.prog 36 #[.pointer (some ⟨x, 0, none⟩), s.agg] w fun e w' => e = .returned (.bool true) ∧ ∃ t' b', B t' b' w' ∧ TwoBlk w' x t' b' none kp ∧ Kept (fun z => R1 z ∨ R2 z ∨ z = x) w w' := by
  obtain ⟨kind, hash, key, value, n⟩ := s
  dsimp only at hs hc
  subst hs
  unfold Stp.agg
  have q0 : w.cell? ⟨x, 0, none⟩ = some (.pointer (some ⟨t, 0, none⟩)) := Blk.cell hx 0
  have hxl : x < w.heap.size := Blk.lt hx
  have HX := hid hx
  have HC := hid hc
  clear hc hx
  go_enter Try.func36, Try.ntmps36
  go_wp2_with (go_at_call 28; refine (HC.out.one _ ((Kept.refl _ w).alloc _)).mono ?_; rintro e w1 ⟨t', rfl, hA1, hk1⟩; have k1 : Kept R1 w w1 := ((Kept.refl R1 w).alloc _).trans hk1 (fun _ _ h => h); have hx1 : TwoBlk w1 x t b sp kp := Blk.kept HX.out k1 HC.out.x1; have p0 : w1.cell? ⟨x, 0, none⟩ = some (.pointer (some ⟨t, 0, none⟩)) := Blk.cell hx1 0; have p1 : w1.cell? ⟨x, 1, none⟩ = some (.pointer (some ⟨b, 0, none⟩)) := Blk.cell hx1 1; have f0 := Blk.frozen hx1 0; have f1 := Blk.frozen hx1 1; have HX1 := hid hx1; have HK1 := hid k1; have HA1 := hid hA1; clear hx1 k1 hA1 hk1)
  obtain ⟨W2, hW2⟩ : ∃ W2, W2 = w1.setCell ⟨x, 0, none⟩ (.pointer (some ⟨t', 0, none⟩)) := ⟨_, rfl⟩
  rw [← hW2]
  have kx2 : Kept (fun z => z = x) w1 W2 := by rw [hW2]; exact (Kept.refl (fun z => z = x) w1).setCell (p := ⟨x, 0, none⟩) (.inl rfl) _
  have hx2 : TwoBlk W2 x t' b sp kp := by rw [hW2]; exact Blk.set HX1.out 0 _
  have k2 : Kept (fun z => R1 z ∨ z = x) w W2 := (HK1.out.mono (R' := fun z => R1 z ∨ z = x) (fun _ _ h => .inl h)).trans kx2 (fun _ _ h => .inr h)
  have hA2 : A t' W2 := HC.out.keepA t' _ _ HA1.out kx2
  have HX2 := hid hx2
  have HK2 := hid k2
  have HA2 := hid hA2
  clear hW2 kx2 hx2 k2 hA2 p0 p1 f0 f1 HA1 HX1 HK1
  refine (HC.out.two _ _ HA2.out HK2.out).mono ?_
  rintro e w3 ⟨b', rfl, hB3, hk3⟩
  have hx3 : TwoBlk w3 x t' b sp kp := Blk.kept HX2.out hk3 HC.out.x2
  have p0 : w3.cell? ⟨x, 0, none⟩ = some (.pointer (some ⟨t', 0, none⟩)) := Blk.cell hx3 0
  have p1 : w3.cell? ⟨x, 1, none⟩ = some (.pointer (some ⟨b, 0, none⟩)) := Blk.cell hx3 1
  have p2 : w3.cell? ⟨x, 2, none⟩ = some (.pointer sp) := Blk.cell hx3 2
  have f1 := Blk.frozen hx3 1
  have f2 := Blk.frozen hx3 2
  obtain ⟨W4, hW4⟩ : ∃ W4, W4 = (w3.setCell ⟨x, 1, none⟩ (.pointer (some ⟨b', 0, none⟩))).setCell ⟨x, 2, none⟩ (.pointer none) := ⟨_, rfl⟩
  have kx4 : Kept (fun z => z = x) w3 W4 := by rw [hW4]; exact ((Kept.refl (fun z => z = x) w3).setCell (p := ⟨x, 1, none⟩) (.inl rfl) _).setCell (p := ⟨x, 2, none⟩) (.inl rfl) _
  have hx4 : TwoBlk W4 x t' b' none kp := by rw [hW4]; exact Blk.set (Blk.set hx3 1 _) 2 _
  have HX4 := hid hx4
  have HK4 := hid kx4
  have HB3 := hid hB3
  have HK3 := hid hk3
  have HW4 := hid hW4
  clear hx3 kx4 hx4 hB3 hk3 hW4
  go_wp2
  go_ret
  rw [← HW4.out]
  exact ⟨rfl, t', b', HC.out.keepB _ _ _ _ HB3.out HK4.out, HX4.out,
    ((HK2.out.mono (R' := fun z => R1 z ∨ R2 z ∨ z = x) (fun _ _ h => h.elim .inl (fun h => .inr (.inr h)))).trans HK3.out (fun _ _ h => .inr (.inl h))).trans HK4.out (fun _ _ h => .inr (.inr h))⟩

set_option maxRecDepth 100000 in
set_option maxHeartbeats 2000000 in
theorem does7 (x t b : Nat) (sp kp : Option Addr) (s : Stp) (w : World) (A : Nat → World → Prop) (B : Nat → Nat → World → Prop) (R1 R2 : Nat → Prop) (hs : s.kind = 7) (hx : TwoBlk w x t b sp kp)
    (hc : CallsNew w 29 96 #[.pointer (some ⟨t, 0, none⟩), .int .i64 s.hash] #[.pointer (some ⟨b, 0, none⟩), .int .i64 s.hash] A B R1 R2 x) :
    Calls Try.prog 36 #[.pointer (some ⟨x, 0, none⟩), s.agg] w fun e w' => e = .returned (.bool true) ∧ ∃ p q, B p q w' ∧ TwoBlk w' x t b (some ⟨p, 0, none⟩) (some ⟨q, 0, none⟩) ∧ Kept (fun z => R1 z ∨ R2 z ∨ z = x) w w' := by
  obtain ⟨kind, hash, key, value, n⟩ := s
  dsimp only at hs hc
  subst hs
  unfold Stp.agg
  obtain ⟨W0, hW0⟩ : ∃ W0, W0 = w.alloc (Obj.cells #[Value.int .i64 7, Value.int .i64 hash, Value.int .i64 key, Value.int .i64 value, Value.int .i64 n] 61) := ⟨_, rfl⟩
  have hB := Blk.new w 61 [Value.int .i64 7, Value.int .i64 hash, Value.int .i64 key, Value.int .i64 value, Value.int .i64 n]
  rw [← hW0] at hB
  have k0 : Kept Nil w W0 := by rw [hW0]; exact (Kept.refl _ w).alloc _
  have hx0 : TwoBlk W0 x t b sp kp := Blk.kept hx k0 id
  obtain ⟨bx, hbx⟩ : ∃ bx, bx = w.heap.size := ⟨_, rfl⟩
  rw [← hbx] at hB
  have h1b : ¬ R1 bx := fun h => by have := hc.in1 _ h; omega
  have h2b : ¬ R2 bx := fun h => by have := hc.in2 _ h; omega
  have hxl : x < w.heap.size := Blk.lt hx
  have hbn : bx ≠ x := by omega
  have hS : ∀ W' sq kq, TwoBlk W' x t b sq kq → Blk W' bx 61 [Value.int .i64 7, Value.int .i64 hash, Value.int .i64 key, Value.int .i64 value, Value.int .i64 n] → (W'.cell? ⟨x, 0, none⟩ = some (.pointer (some ⟨t, 0, none⟩)) ∧ W'.cell? ⟨x, 1, none⟩ = some (.pointer (some ⟨b, 0, none⟩)) ∧ W'.cell? ⟨bx, 1, none⟩ = some (.int .i64 hash)) :=
    fun W' sq kq h1 h2 => ⟨Blk.cell h1 0, Blk.cell h1 1, h2.cell 1⟩
  have b0 : W0.cell? ⟨bx, 0, none⟩ = some (.int .i64 7) := hB.cell 0
  have HS := hid hS
  have HC := hid hc
  have HK0 := hid k0
  have HW0 := hid hW0
  have HBX := hid hbx
  have HB := hid hB
  have HX0 := hid hx0
  clear hS hc hx hx0 hB hbx hW0 k0
  go_enter Try.func36, Try.ntmps36
  go_wp2_with fail
  rw [← HW0.out, ← HBX.out]
  go_region_held3 (fun w' => w'.cell? ⟨x, 0, none⟩ = some (.pointer (some ⟨t, 0, none⟩)) ∧ w'.cell? ⟨x, 1, none⟩ = some (.pointer (some ⟨b, 0, none⟩)) ∧ w'.cell? ⟨bx, 1, none⟩ = some (.int .i64 hash))
    (first | exact HS.out _ _ _ (Blk.set HX1.out 2 _) (HB1.out.other (a := ⟨x, 2, none⟩) hbn _) | exact HS.out _ _ _ HX1.out HB1.out | exact HS.out _ _ _ (Blk.drew HX0.out) HB.out.drew | fail)
    (first
      | (go_at_call 29; refine (HC.out.one _ HK0.out.drew).mono ?_; rintro e w1 ⟨p, rfl, hA1, hk1⟩; have hkk := hk1.undrew; have HX1 : Hid (TwoBlk w1 x t b sp kp) := hid (Blk.kept HX0.out hkk HC.out.x1); have HB1 := hid (HB.out.kept hkk h1b); have HA1 := hid hA1; have f2 := Blk.frozen HX1.out 2; have p2 : w1.cell? ⟨x, 2, none⟩ = some (.pointer sp) := Blk.cell HX1.out 2; have HK1 := hid ((HK0.out.mono (R' := R1) (fun _ _ h => h.elim)).trans hkk (fun _ _ h => h)); clear hk1 hkk hA1))
  obtain ⟨W2, hW2⟩ : ∃ W2, W2 = w1.setCell ⟨x, 2, none⟩ (.pointer (some ⟨p, 0, none⟩)) := ⟨_, rfl⟩
  rw [← hW2]
  have kx2 : Kept (fun z => z = x) w1 W2 := by rw [hW2]; exact (Kept.refl (fun z => z = x) w1).setCell (p := ⟨x, 2, none⟩) (.inl rfl) _
  have hx2 : TwoBlk W2 x t b (some ⟨p, 0, none⟩) kp := by rw [hW2]; exact Blk.set HX1.out 2 _
  have hb2 := HB1.out.kept kx2 hbn
  have k2 : Kept (fun z => R1 z ∨ z = x) w W2 := (HK1.out.mono (R' := fun z => R1 z ∨ z = x) (fun _ _ h => .inl h)).trans kx2 (fun _ _ h => .inr h)
  have hA2 : A p W2 := HC.out.keepA p _ _ HA1.out kx2
  have HX2 := hid hx2
  have HK2 := hid k2
  have HA2 := hid hA2
  have HB2 := hid hb2
  try clear hHeld
  clear hW2 kx2 hx2 k2 hA2 f2 p2 HA1 HX1 HK1 HB1 hb2 HX0 HB b0
  go_wp2_with fail
  go_region_held3 (fun w' => w'.cell? ⟨x, 0, none⟩ = some (.pointer (some ⟨t, 0, none⟩)) ∧ w'.cell? ⟨x, 1, none⟩ = some (.pointer (some ⟨b, 0, none⟩)) ∧ w'.cell? ⟨bx, 1, none⟩ = some (.int .i64 hash))
    (first | exact HS.out _ _ _ (Blk.set HX3.out 3 _) (HB3.out.other (a := ⟨x, 3, none⟩) hbn _) | exact HS.out _ _ _ HX3.out HB3.out | exact HS.out _ _ _ (Blk.drew HX2.out) HB2.out.drew | fail)
    (first
      | (go_at_call 96; refine (HC.out.two _ _ (HC.out.keepA _ _ _ HA2.out (Kept.refl _ _).drew) HK2.out.drew).mono ?_; rintro e w3 ⟨q, rfl, hB3, hk3⟩; have hkk := hk3.undrew; have HX3 : Hid (TwoBlk w3 x t b (some ⟨p, 0, none⟩) kp) := hid (Blk.kept HX2.out hkk HC.out.x2); have HB3 := hid (HB2.out.kept hkk h2b); have HBB := hid hB3; have f3 := Blk.frozen HX3.out 3; have p3 : w3.cell? ⟨x, 3, none⟩ = some (.pointer kp) := Blk.cell HX3.out 3; have HK3 := hid hkk; clear hk3 hkk hB3))
  obtain ⟨W4, hW4⟩ : ∃ W4, W4 = w3.setCell ⟨x, 3, none⟩ (.pointer (some ⟨q, 0, none⟩)) := ⟨_, rfl⟩
  rw [← hW4]
  have kx4 : Kept (fun z => z = x) w3 W4 := by rw [hW4]; exact (Kept.refl (fun z => z = x) w3).setCell (p := ⟨x, 3, none⟩) (.inl rfl) _
  have hx4 : TwoBlk W4 x t b (some ⟨p, 0, none⟩) (some ⟨q, 0, none⟩) := by rw [hW4]; exact Blk.set HX3.out 3 _
  have q2 : W4.cell? ⟨x, 2, none⟩ = some (.pointer (some ⟨p, 0, none⟩)) := Blk.cell hx4 2
  have HX4 := hid hx4
  have HK4 := hid kx4
  try clear hHeld
  clear hW4 kx4 hx4 f3 p3
  go_wp2
  go_ret
  exact ⟨rfl, p, q, HC.out.keepB _ _ _ _ HBB.out HK4.out, HX4.out,
    ((HK2.out.mono (R' := fun z => R1 z ∨ R2 z ∨ z = x) (fun _ _ h => h.elim .inl (fun h => .inr (.inr h)))).trans HK3.out (fun _ _ h => .inr (.inl h))).trans HK4.out (fun _ _ h => .inr (.inr h))⟩

set_option maxRecDepth 100000 in
set_option maxHeartbeats 2000000 in
theorem does0 (x : Nat) (s : Stp) (w : World) (hs : s.kind < 1 ∨ 8 < s.kind) :
    Calls Try.prog 36 #[.pointer (some ⟨x, 0, none⟩), s.agg] w fun e w' => e = .returned (.bool true) ∧ Kept Nil w w' := by
  obtain ⟨kind, hash, key, value, n⟩ := s
  dsimp only at hs
  have e1 : ((kind : Int) == 1) = false := by simp; omega
  have e2 : ((kind : Int) == 2) = false := by simp; omega
  have e3 : ((kind : Int) == 3) = false := by simp; omega
  have e4 : ((kind : Int) == 4) = false := by simp; omega
  have e5 : ((kind : Int) == 5) = false := by simp; omega
  have e6 : ((kind : Int) == 6) = false := by simp; omega
  have e7 : ((kind : Int) == 7) = false := by simp; omega
  have e8 : ((kind : Int) == 8) = false := by simp; omega
  clear hs
  unfold Stp.agg
  go_enter Try.func36, Try.ntmps36
  go_wp2
  go_ret
  exact ⟨rfl, (Kept.refl _ w).alloc _⟩
end Go.Proofs.Ytbbkljgeddjghaa
