/-
  What is proved: the walks of package meter: a nil Meter does nothing; one that is there counts.
-/
import Derived.Test.YtbbkljgeddjghaaProg
import Derived.Test.YtbbkljgeddjghaaBase
namespace Go.Proofs.Ytbbkljgeddjghaa
open Go.RowKit Go.Lx

/-- What a Meter has counted. -/
structure Cnt where
  tables : Int
  cells : Int
  values : Int
  shifts : Int

/-- The Meter m (none: nil) has counted C. -/
def Mt (w : World) (m : Option Nat) (C : Cnt) : Prop :=
  match m with
  | none => True
  | some b => Blk w b 71 [.int .i64 C.tables, .int .i64 C.cells, .int .i64 C.values, .int .i64 C.shifts]
def mptr (m : Option Nat) : Value := .pointer (m.map fun b => ⟨b, 0, none⟩)
def Mr (m : Option Nat) : Nat → Prop := fun b => m = some b

theorem Try.addInt64 (w : World) (b i : Nat) (x y : Int) (hc : w.cell? ⟨b, i, none⟩ = some (.int .i64 x)) (hz : w.frozen? ⟨b, i, none⟩ = false) :
    (callFunc 154 #[.pointer (some ⟨b, i, none⟩), .int .i64 y]).run Try.prog w = .ok (.value (.int .i64 (wrap64 (x + y)))) (w.setCell ⟨b, i, none⟩ (.int .i64 (wrap64 (x + y)))) :=
  run_call_add Try.func154 (by kernel_rfl) (by kernel_rfl) (by kernel_rfl) .i64 (by kernel_rfl) hc hz (by simp [go_sem, wrap64, IntKind.wrap_i64])

set_option maxHeartbeats 400000 in
theorem count_nil (k : Int) (n : Int) (w : World) :
    Calls Try.prog 136 #[.pointer none, .int .i64 k, .int .i64 n] w fun e w' => e = .returned (.tuple #[]) ∧ w = w' := by
  go_enter Try.func136, Try.ntmps136
  go_wp2
  go_end0
  exact ⟨rfl, rfl⟩

set_option maxHeartbeats 400000 in
theorem add_some (b i : Nat) (x y : Int) (w : World) (hc : w.cell? ⟨b, i, none⟩ = some (.int .i64 x)) (hz : w.frozen? ⟨b, i, none⟩ = false) :
    Calls Try.prog 153 #[.pointer (some ⟨b, i, none⟩), .int .i64 y] w fun e w' => e = .returned (.int .i64 (wrap64 (x + y))) ∧ w.setCell ⟨b, i, none⟩ (.int .i64 (wrap64 (x + y))) = w' := by
  have hadd := Try.addInt64 w b i x y hc hz
  go_enter Try.func153, Try.ntmps153
  go_wp2
  go_ret
  exact ⟨rfl, rfl⟩

set_option maxHeartbeats 400000 in
theorem count_tables (b : Nat) (x : Int) (w : World) (hc : w.cell? ⟨b, 0, none⟩ = some (.int .i64 x)) (hz : w.frozen? ⟨b, 0, none⟩ = false) :
    Calls Try.prog 136 #[.pointer (some ⟨b, 0, none⟩), .int .i64 0, .int .i64 1] w fun e w' => e = .returned (.tuple #[]) ∧ w.setCell ⟨b, 0, none⟩ (.int .i64 (wrap64 (x + 1))) = w' := by
  go_enter Try.func136, Try.ntmps136
  go_wp2_with (go_at_call 153; refine (add_some b 0 x 1 w hc hz).mono ?_; rintro e w' ⟨rfl, rfl⟩)
  go_end0
  exact ⟨rfl, rfl⟩

set_option maxHeartbeats 400000 in
theorem count_visits (b : Nat) (x : Int) (w : World) (hc : w.cell? ⟨b, 1, none⟩ = some (.int .i64 x)) (hz : w.frozen? ⟨b, 1, none⟩ = false) :
    Calls Try.prog 136 #[.pointer (some ⟨b, 0, none⟩), .int .i64 1, .int .i64 1] w fun e w' => e = .returned (.tuple #[]) ∧ w.setCell ⟨b, 1, none⟩ (.int .i64 (wrap64 (x + 1))) = w' := by
  go_enter Try.func136, Try.ntmps136
  go_wp2_with (go_at_call 153; refine (add_some b 1 x 1 w hc hz).mono ?_; rintro e w' ⟨rfl, rfl⟩)
  go_end0
  exact ⟨rfl, rfl⟩

/-- A Meter counts an index table. -/
def Cnt.table (C : Cnt) : Cnt := { C with tables := wrap64 (C.tables + 1) }
/-- A Meter counts a cell that was visited. -/
def Cnt.visit (C : Cnt) : Cnt := { C with cells := wrap64 (C.cells + 1) }

theorem Mt.kept {R : Nat → Prop} {w w' : World} {m : Option Nat} {C : Cnt} (h : Mt w m C) (hk : Kept R w w') (hR : ∀ b, m = some b → ¬ R b) : Mt w' m C := by
  cases m with
  | none => trivial
  | some b => exact Blk.kept h hk (hR b rfl)

set_option maxHeartbeats 400000 in
theorem table_any (m : Option Nat) (C : Cnt) (w : World) (h : Mt w m C) :
    Calls Try.prog 134 #[mptr m] w fun e w' => e = .returned (.tuple #[]) ∧ Mt w' m C.table ∧ Kept (Mr m) w w' := by
  cases m with
  | none =>
    unfold mptr
    go_enter Try.func134, Try.ntmps134
    go_wp2_with (go_at_call 136; refine (count_nil _ _ _).mono ?_; rintro e w' ⟨rfl, rfl⟩)
    go_end0
    exact ⟨rfl, trivial, Kept.refl _ _⟩
  | some b =>
    have hb : Blk w b 71 [.int .i64 C.tables, .int .i64 C.cells, .int .i64 C.values, .int .i64 C.shifts] := h
    have hc : w.cell? ⟨b, 0, none⟩ = some (.int .i64 C.tables) := hb.cell 0
    have hz := hb.frozen 0
    unfold mptr
    go_enter Try.func134, Try.ntmps134
    go_wp2_with (go_at_call 136; refine (count_tables b C.tables w hc hz).mono ?_; rintro e w' ⟨rfl, rfl⟩)
    go_end0
    exact ⟨rfl, hb.set 0 _, (Kept.refl (Mr (some b)) w).setCell (p := ⟨b, 0, none⟩) (.inl rfl) _⟩

set_option maxHeartbeats 400000 in
theorem visit_any (m : Option Nat) (C : Cnt) (w : World) (h : Mt w m C) :
    Calls Try.prog 84 #[mptr m, .int .i64 1] w fun e w' => e = .returned (.tuple #[]) ∧ Mt w' m C.visit ∧ Kept (Mr m) w w' := by
  cases m with
  | none =>
    unfold mptr
    go_enter Try.func84, Try.ntmps84
    go_wp2_with (go_at_call 136; refine (count_nil _ _ _).mono ?_; rintro e w' ⟨rfl, rfl⟩)
    go_end0
    exact ⟨rfl, trivial, Kept.refl _ _⟩
  | some b =>
    have hb : Blk w b 71 [.int .i64 C.tables, .int .i64 C.cells, .int .i64 C.values, .int .i64 C.shifts] := h
    have hc : w.cell? ⟨b, 1, none⟩ = some (.int .i64 C.cells) := hb.cell 1
    have hz := hb.frozen 1
    unfold mptr
    go_enter Try.func84, Try.ntmps84
    go_wp2_with (go_at_call 136; refine (count_visits b C.cells w hc hz).mono ?_; rintro e w' ⟨rfl, rfl⟩)
    go_end0
    exact ⟨rfl, hb.set 1 _, (Kept.refl (Mr (some b)) w).setCell (p := ⟨b, 1, none⟩) (.inl rfl) _⟩

end Go.Proofs.Ytbbkljgeddjghaa
