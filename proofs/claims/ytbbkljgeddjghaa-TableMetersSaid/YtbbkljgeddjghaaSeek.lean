/-
  What is proved: the walks of (*Table).Seek, (*Seeker).Visited, (*Seeker).on.
-/
import Derived.Test.YtbbkljgeddjghaaSight
namespace Go.Proofs.Ytbbkljgeddjghaa
open Go.RowKit Go.Lx Go.Shelf
set_option linter.unusedVariables false

/-- The Seeker at block s: of the table at t, of a hash, at the place i of its trail in 2^log cells. -/
def SeekAt (w : World) (s t log : Nat) (hash : Int) (i : Nat) (turns visited told : Int) (ended : Bool) : Prop :=
  Blk w s 153 [.pointer (some ⟨t, 0, none⟩), .int .i64 hash, .int .i64 (tc log hash i : Nat), .int .u64 (u64 hash / 32 ^ i : Nat), .int .i64 turns, .int .i64 visited, .int .i64 told, .bool ended]

set_option maxRecDepth 100000 in
set_option maxHeartbeats 1000000 in
theorem seek_any (m : Option Nat) (t c r : Nat) (sv : Value) (T : Tab) (hash : Int) (w : World) (h : TabAt w m t c r sv T) :
    Calls Try.prog 29 #[.pointer (some ⟨t, 0, none⟩), .int .i64 hash] w fun e w' => ∃ s, e = .returned (.pointer (some ⟨s, 0, none⟩)) ∧ w.heap.size ≤ s ∧ SeekAt w' s t T.log hash 0 T.turn 0 (-1) false ∧ Kept Nil w w' := by
  have ht2 : w.cell? ⟨t, 2, none⟩ = some (.pointer (some ⟨c, 0, none⟩)) := h.head.cell 2
  have ht6 : w.cell? ⟨t, 6, none⟩ = some (.int .i64 T.turn) := h.head.cell 6
  have hbeg := begin_there t _ w ht2
  have hlog := log_any c r T.log T.cells w.drew (h.cells.kept (Kept.refl Nil w).drew id id)
  have hfst := first_any hash T.log w.drew h.cells.hi
  have e2 := u64_eq hash
  have hu : u64 hash / 32 ^ 0 = u64 hash := by simp
  have HU := hid hu
  clear h hu
  obtain ⟨c0, hc0⟩ : ∃ c0, c0 = tc T.log hash 0 := ⟨_, rfl⟩
  rw [← hc0] at hfst
  have HC := hid hc0
  clear hc0
  unfold SeekAt
  rw [HU.out]
  obtain ⟨u, hu⟩ : ∃ u, u = u64 hash := ⟨_, rfl⟩
  rw [← hu] at e2 ⊢
  clear hu HU
  rw [← HC.out]
  clear HC
  go_enter Try.func29, Try.ntmps29
  go_wp2_with (go_at_call 74; refine hbeg.mono ?_; clear hbeg; rintro e w1 ⟨rfl, rfl⟩)
  go_still_tail 16, (by kernel_rfl)
  still_call (hlog.mono fun e w' ⟨h1, h2⟩ => ⟨h1, h2.symm⟩)
  still_call (hfst.mono fun e w' ⟨h1, h2⟩ => ⟨h1, h2.symm⟩)
  repeat still_step
  try refine wpStill_nil ?_
  change wpList _ _ _ _ _ w.drew
  go_wp2
  go_ret
  refine ⟨_, rfl, Nat.le_refl _, ?_, ((Kept.refl Nil w).alloc _).drew⟩
  exact (Blk.new w 153 _).drew

set_option maxHeartbeats 400000 in
theorem seek_nil (hash : Int) (w : World) : Calls Try.prog 29 #[.pointer none, .int .i64 hash] w fun e w' => e = .returned (.pointer none) ∧ w = w' := by
  go_enter Try.func29, Try.ntmps29
  go_wp2
  go_ret
  exact ⟨rfl, rfl⟩
set_option maxHeartbeats 400000 in
theorem visited_nil (w : World) : Calls Try.prog 32 #[.pointer none] w fun e w' => e = .returned (.int .i64 0) ∧ w = w' := by
  go_enter Try.func32, Try.ntmps32
  go_wp2
  go_ret
  exact ⟨rfl, rfl⟩
set_option maxHeartbeats 400000 in
theorem visited_cell (s : Nat) (n : Int) (w : World) (h : w.cell? ⟨s, 5, none⟩ = some (.int .i64 n)) : Calls Try.prog 32 #[.pointer (some ⟨s, 0, none⟩)] w fun e w' => e = .returned (.int .i64 n) ∧ w = w' := by
  go_enter Try.func32, Try.ntmps32
  go_wp2
  go_ret
  exact ⟨rfl, rfl⟩

set_option maxRecDepth 100000 in
set_option maxHeartbeats 1000000 in
theorem on_any (m : Option Nat) (t c r s i : Nat) (sv : Value) (T : Tab) (hash turns visited told : Int) (ended : Bool) (w : World) (h : TabAt w m t c r sv T) (hs : SeekAt w s t T.log hash i turns visited told ended) :
    Calls Try.prog 85 #[.pointer (some ⟨s, 0, none⟩)] w fun e w' => e = .returned (.tuple #[]) ∧ SeekAt w' s t T.log hash (i + 1) turns visited told ended ∧ Kept (fun b => b = s) w w' := by
  have hlog15 := h.cells.hi
  have e1 := mask_eq T.log hlog15
  have hle := le_two T.log hlog15
  have hm := fun p hp => and_mask T.log p hlog15 hp
  obtain ⟨mm, hM⟩ : ∃ m, m = 2 ^ T.log - 1 := ⟨_, rfl⟩
  rw [← hM] at e1 hm
  have HM := hid hm
  clear hM hm
  obtain ⟨c0, hc0⟩ : ∃ c, c = tc T.log hash i := ⟨_, rfl⟩
  obtain ⟨p, hp⟩ : ∃ p, p = u64 hash / 32 ^ i := ⟨_, rfl⟩
  have hpl : p < 18446744073709551616 := by rw [hp]; exact Nat.lt_of_le_of_lt (Nat.div_le_self _ _) (u64_lt hash)
  have hcl : c0 < 32768 := by have := tc_lt T.log hash i; rw [← hc0] at this; omega
  have e5 : p / 32 = u64 hash / 32 ^ (i + 1) := by rw [hp, Nat.div_div_eq_div_mul, Nat.pow_succ]
  have e6 : bits .and .u64 ((5 * c0 + p / 32 + 1 : Nat) : Int) (mm : Int) = ((tc T.log hash (i + 1) : Nat) : Int) := by
    rw [HM.out _ (by omega), tc_succ, ← e5, ← hc0]
  have hc1 : tc T.log hash (i + 1) < 32768 := by have := tc_lt T.log hash (i + 1); omega
  have e7 := wrap64_nat (tc T.log hash (i + 1)) (by omega)
  unfold SeekAt at *
  rw [← e5]
  rw [← hc0, ← hp] at hs
  obtain ⟨c1, hcc⟩ : ∃ c, c = tc T.log hash (i + 1) := ⟨_, rfl⟩
  rw [← hcc] at e6 e7 hc1 ⊢
  clear hc0 hp e5 hcc hle
  have s0 : w.cell? ⟨s, 0, none⟩ = some (.pointer (some ⟨t, 0, none⟩)) := hs.cell 0
  have s2 : w.cell? ⟨s, 2, none⟩ = some (.int .i64 c0) := hs.cell 2
  have s3 : w.cell? ⟨s, 3, none⟩ = some (.int .u64 p) := hs.cell 3
  have f2 := hs.frozen 2
  have f3 := hs.frozen 3
  have hst : s ≠ t := hs.ne h.head (by decide)
  have hsc : s ≠ c := hs.ne h.cells.head (by decide)
  have hsr : s ≠ r := hs.ne h.cells.row (by unfold rowElem; split <;> decide)
  have ht2 : w.cell? ⟨t, 2, none⟩ = some (.pointer (some ⟨c, 0, none⟩)) := h.head.cell 2
  have hk1 : Kept (fun b => b = s) w (w.setCell ⟨s, 3, none⟩ (.int .u64 ((p : Int) / 32))) := (Kept.refl (fun b => b = s) w).setCell (p := ⟨s, 3, none⟩) (.inl rfl) _
  obtain ⟨W1, hW1⟩ : ∃ W1, W1 = w.setCell ⟨s, 3, none⟩ (.int .u64 ((p : Int) / 32)) := ⟨_, rfl⟩
  rw [← hW1] at hk1
  have hb1 := hs.set 3 (.int .u64 ((p : Int) / 32))
  rw [← hW1] at hb1
  have hlog := log_any c r T.log T.cells W1.drew (h.cells.kept hk1.drew hsc.symm hsr.symm)
  have r0 : W1.cell? ⟨s, 0, none⟩ = some (.pointer (some ⟨t, 0, none⟩)) := hb1.cell 0
  have r2 : W1.cell? ⟨s, 2, none⟩ = some (.int .i64 c0) := hb1.cell 2
  have r3 : W1.cell? ⟨s, 3, none⟩ = some (.int .u64 ((p : Int) / 32)) := hb1.cell 3
  have rf2 := hb1.frozen 2
  have rt2 := (World.cell?_of_block (a := ⟨t, 2, none⟩) (hk1.block t h.head.lt hst.symm)).trans ht2
  have hb2 := (hb1.set 2 (.int .i64 c1)).drew
  have hk2 := (hk1.setCell (p := ⟨s, 2, none⟩) (.inl rfl) (.int .i64 c1)).drew
  have H6 := hid e6
  have H7 := hid e7
  have HB2 := hid hb2
  have HK2 := hid hk2
  have HW1 := hid hW1
  clear h hs e6 hb2 hk2 hk1 hb1 hW1 e7
  go_enter Try.func85, Try.ntmps85
  go_wp2
  rw [← HW1.out]
  go_still_tail 25, (by kernel_rfl)
  still_call (hlog.mono fun e w' ⟨h1, h2⟩ => ⟨h1, h2.symm⟩)
  repeat still_step
  try refine wpStill_nil ?_
  have e8 : IntKind.u64.wrap (IntKind.u64.wrap (IntKind.u64.wrap (5 * IntKind.u64.wrap (c0 : Int)) + (p : Int) / 32) + 1) = ((5 * c0 + p / 32 + 1 : Nat) : Int) := by
    simp only [IntKind.wrap_u64]; omega
  have e9 : IntKind.i64.wrap (c1 : Int) = (c1 : Int) := IntWalk.i64_in _ (by omega)
  rw [e8, H6.out, e9]
  change wpList _ _ _ _ _ W1.drew
  go_wp2
  go_end0
  exact ⟨rfl, HB2.out, HK2.out⟩

end Go.Proofs.Ytbbkljgeddjghaa
