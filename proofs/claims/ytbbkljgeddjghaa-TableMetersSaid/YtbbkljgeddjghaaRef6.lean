/-
  What is proved: walks of the document's answer for chapter 6: Room, Width, New, up to 2^15 cells.
-/
import Derived.Test.YtbbkljgeddjghaaRef5
import Derived.Test.YtbbkljgeddjghaaGrow
import Derived.Test.YtbbkljgeddjghaaRoom
namespace Go.Proofs.Ytbbkljgeddjghaa
open Go.RowKit Go.Lx Go.Shelf
set_option linter.unusedVariables false
set_option linter.unusedSimpArgs false

set_option maxRecDepth 100000 in
set_option maxHeartbeats 400000 in
theorem room6_any (log : Nat) (w : World) (h3 : 3 ≤ log) (h15 : log ≤ 15) :
    Calls Try.prog 87 #[.int .i64 log] w fun e w' => e = .returned (.int .i64 (room log)) ∧ w = w' := by
  have hle := le_two log h15
  have hp : wrap64 (2 * (2 : Int) ^ log) = ((2 * 2 ^ log : Nat) : Int) := by
    have : (2 * (2 : Int) ^ log) = ((2 * 2 ^ log : Nat) : Int) := by simp
    rw [this]; exact wrap64_nat _ (by omega)
  unfold room
  obtain ⟨N, hN⟩ : ∃ N, N = 2 * 2 ^ log := ⟨_, rfl⟩
  rw [← hN] at hp ⊢
  have hN2 : N ≤ 65536 := by omega
  clear hN hle
  have hl3 : ¬ (log : Int) < 3 := by omega
  have hl20 : (log : Int) ≤ 20 := by omega
  go_enter Try.func87, Try.ntmps87
  go_wp2
  go_ret
  exact ⟨by simp, rfl⟩

set_option maxHeartbeats 400000 in
theorem width6_any (log : Nat) (w : World) (h3 : 3 ≤ log) (h15 : log ≤ 15) :
    Calls Try.prog 98 #[.int .i64 log] w fun e w' => e = .returned (.int .i64 (widthOf log)) ∧ w = w' := by
  have hl3 : ¬ (log : Int) < 3 := by omega
  have hl20 : (log : Int) ≤ 20 := by omega
  have hl15 : (log : Int) ≤ 15 := by omega
  unfold widthOf
  by_cases h7 : log ≤ 7
  · rw [if_pos h7]
    have hl7 : (log : Int) ≤ 7 := by omega
    go_enter Try.func98, Try.ntmps98
    go_wp2
    go_ret
    exact ⟨rfl, rfl⟩
  · rw [if_neg h7]
    have hl7 : ¬ (log : Int) ≤ 7 := by omega
    go_enter Try.func98, Try.ntmps98
    go_wp2
    go_ret
    exact ⟨rfl, rfl⟩

/-- k cells of -1, the others 0. -/
def filled (n k : Nat) : List Int := List.replicate k (-1) ++ List.replicate (n - k) 0
theorem filled_zero (n : Nat) : filled n 0 = List.replicate n 0 := by simp [filled]
theorem filled_full (n : Nat) : filled n n = List.replicate n (-1) := by simp [filled]
theorem filled_len (n k : Nat) (h : k ≤ n) : (filled n k).length = n := by simp [filled]; omega
theorem filled_get (n k : Nat) (h : k < n) : (filled n k)[k]? = some 0 := by
  unfold filled
  rw [List.getElem?_append_right (by simp)]
  simp [List.getElem?_replicate]; omega
theorem filled_set (n k : Nat) (h : k < n) : (filled n k).set k (-1) = filled n (k + 1) := by
  unfold filled
  rw [List.set_append_right _ _ (by simp)]
  simp only [List.length_replicate, Nat.sub_self]
  rw [show n - k = (n - (k + 1)) + 1 by omega, List.replicate_succ, List.set_cons_zero, List.replicate_succ', List.append_assoc]
  rfl

set_option maxRecDepth 100000 in
set_option maxHeartbeats 1000000 in
theorem new6_any (log : Nat) (w : World) (h3 : 3 ≤ log) (h15 : log ≤ 15) :
    Calls Try.prog 137 #[.int .i64 log] w fun e w' => ∃ g, e = .returned (.tuple #[.agg #[.int .i64 log, .slice (some ⟨g, 0, none⟩) (2 ^ log) (2 ^ log)], .int .i64 0]) ∧ w.heap.size ≤ g ∧ Row w' 3 1 (.slice (some ⟨g, 0, none⟩) (2 ^ log) (2 ^ log)) (2 ^ log) ((blankC log).map (Value.int .i64)) ∧ Kept Nil w w' := by
  have hle := le_two log h15
  have hp := wrap_pow20 log (by omega)
  unfold blankC
  obtain ⟨n, hn⟩ : ∃ n, n = 2 ^ log := ⟨_, rfl⟩
  rw [← hn] at hle hp ⊢
  clear hn
  have hl3 : ¬ (log : Int) < 3 := by omega
  have hl20 : (log : Int) ≤ 20 := by omega
  have hmk := fun W => Go.run_make_row' (P := Try.prog) 22 3 (.int .i64 0) 8 Try.underlying22 Try.infoInt rfl .i64 .i64 n (by omega) (by omega) W
  rw [made_row] at hmk
  go_enter Try.func137, Try.ntmps137
  go_wp2
  obtain ⟨w1, hw1⟩ : ∃ w1, w1 = (w.alloc (.cells #[.int .i64 0, .slice none 0 0] 83)).alloc (.cells (Array.replicate n (Value.int .i64 0)) 3) := ⟨_, rfl⟩
  obtain ⟨w2, hw2⟩ : ∃ w2, w2 = w1.alloc (.cells #[.int .i64 log, .slice (some ⟨w.heap.size + 1, 0, none⟩) n n] 83) := ⟨_, rfl⟩
  rw [← hw1, ← hw2]
  have hz1 : w1.heap.size = w.heap.size + 2 := by rw [hw1]; simp
  have hk1 : Kept Nil w w1 := by rw [hw1]; exact ((Kept.refl _ _).alloc _).alloc _
  have hk2 : Kept Nil w w2 := by rw [hw2]; exact hk1.alloc _
  have hA : Blk w2 (w.heap.size + 2) 83 [.int .i64 log, .slice (some ⟨w.heap.size + 1, 0, none⟩) n n] := by rw [hw2, ← hz1]; exact Blk.new w1 83 _
  have hR : Blk w2 w.heap.size 83 [.int .i64 0, .slice none 0 0] := by rw [hw2, hw1]; exact ((Blk.new w 83 [.int .i64 0, .slice none 0 0]).alloc _).alloc _
  have hG : Blk w2 (w.heap.size + 1) 3 ((filled n 0).map (Value.int .i64)) := by
    rw [filled_zero, List.map_replicate, hw2, hw1]
    have h := (Blk.new (w.alloc (.cells #[.int .i64 0, .slice none 0 0] 83)) 3 (List.replicate n (Value.int .i64 0)))
    rw [List.toArray_replicate] at h
    simpa using h.alloc _
  have HA := hid hA
  have HR := hid hR
  have HG := hid hG
  have HK2 := hid hk2
  clear hw1 hw2 hz1 hk1 hk2 hA hR hG hmk
  go_loopw [5] (fun i W => ∃ k : Nat, k ≤ n ∧ i = .int .i64 k ∧ Blk W (w.heap.size + 1) 3 ((filled n k).map (Value.int .i64)) ∧ Kept (fun b => b = w.heap.size + 1) w2 W) (fun i _ => n - (intOf i).toNat)
  case atStart => exact ⟨0, Nat.zero_le _, rfl, HG.out, Kept.refl _ _⟩
  case round =>
    obtain ⟨k, hk, rfl, hb, hkw⟩ := hrel
    have q1 : wr.cell? ⟨w.heap.size + 2, 1, none⟩ = some (.slice (some ⟨w.heap.size + 1, 0, none⟩) n n) := (HA.out.kept hkw (by omega)).cell 1
    have q0 : wr.cell? ⟨w.heap.size + 2, 0, none⟩ = some (.int .i64 log) := (HA.out.kept hkw (by omega)).cell 0
    have r0 : wr.cell? ⟨w.heap.size, 0, none⟩ = some (.int .i64 0) := (HR.out.kept hkw (by omega)).cell 0
    have r1 : wr.cell? ⟨w.heap.size, 1, none⟩ = some (.slice none 0 0) := (HR.out.kept hkw (by omega)).cell 1
    have f0 := (HR.out.kept hkw (by omega)).frozen 0
    have f1 := (HR.out.kept hkw (by omega)).frozen 1
    have HKW := hid hkw
    have HB := hid hb
    clear hkw
    by_cases hlt : k < n
    · have c0 : wr.cell? ⟨w.heap.size + 1, k, none⟩ = some (.int .i64 0) := by rw [hb.cell, List.getElem?_map, filled_get n k hlt]; rfl
      have fz := hb.frozen k
      have hlt' : (k : Int) < (n : Int) := by omega
      clear hb
      go_wp2
      go_roundw
      case rel => exact ⟨k + 1, by omega, by go_num, by rw [← filled_set n k hlt, List.map_set]; exact HB.out.set k _, HKW.out.setCell (p := ⟨w.heap.size + 1, k, none⟩) (.inl rfl) _⟩
      case measure => simp [intOf]; omega
    · obtain rfl : k = n := by omega
      clear hb
      go_wp2
      have hR9 := ((HR.out.kept HKW.out (by omega)).set 0 (.int .i64 log)).set 1 (.slice (some ⟨w.heap.size + 1, 0, none⟩) k k)
      have z0 : ((wr.setCell ⟨w.heap.size, 0, none⟩ (.int .i64 log)).setCell ⟨w.heap.size, 1, none⟩ (.slice (some ⟨w.heap.size + 1, 0, none⟩) k k)).cell? ⟨w.heap.size, 0, none⟩ = some (.int .i64 log) := hR9.cell 0
      have z1 : ((wr.setCell ⟨w.heap.size, 0, none⟩ (.int .i64 log)).setCell ⟨w.heap.size, 1, none⟩ (.slice (some ⟨w.heap.size + 1, 0, none⟩) k k)).cell? ⟨w.heap.size, 1, none⟩ = some (.slice (some ⟨w.heap.size + 1, 0, none⟩) k k) := hR9.cell 1
      have hfin : Row ((wr.setCell ⟨w.heap.size, 0, none⟩ (.int .i64 log)).setCell ⟨w.heap.size, 1, none⟩ (.slice (some ⟨w.heap.size + 1, 0, none⟩) k k)) 3 1 (.slice (some ⟨w.heap.size + 1, 0, none⟩) k k) k ((List.replicate k (-1)).map (Value.int .i64)) := by
        have hb := HB.out
        rw [filled_full] at hb
        exact Row.ofBlk ((hb.other (a := ⟨w.heap.size, 0, none⟩) (by simp) _).other (a := ⟨w.heap.size, 1, none⟩) (by simp) _) (by simp) (by omega)
      have hkf : Kept Nil w ((wr.setCell ⟨w.heap.size, 0, none⟩ (.int .i64 log)).setCell ⟨w.heap.size, 1, none⟩ (.slice (some ⟨w.heap.size + 1, 0, none⟩) k k)) := by
        have h1 : Kept (fun b => w.heap.size ≤ b) w wr := (HK2.out.mono (R' := fun b => w.heap.size ≤ b) (fun b hb h => h.elim)).trans HKW.out (fun b hb e => by omega)
        exact ((h1.setCell (p := ⟨w.heap.size, 0, none⟩) (.inl (Nat.le_refl _)) _).setCell (p := ⟨w.heap.size, 1, none⟩) (.inl (Nat.le_refl _)) _).mono (fun b hb h => absurd hb (by omega))
      generalize (wr.setCell ⟨w.heap.size, 0, none⟩ (.int .i64 log)).setCell ⟨w.heap.size, 1, none⟩ (.slice (some ⟨w.heap.size + 1, 0, none⟩) k k) = W9 at *
      exact bodyPost_ret (v := .tuple #[.agg #[.int .i64 log, .slice (some ⟨w.heap.size + 1, 0, none⟩) k k], .int .i64 0]) (by simp [results, Try.results137, go_sem, z0, z1]) rfl ⟨w.heap.size + 1, rfl, by omega, hfin, hkf⟩

end Go.Proofs.Ytbbkljgeddjghaa
