/-
  What is proved: the walks of package trail: the first cell; the iterator over a hash's trail (up to 2^15 cells).
-/
import Derived.Test.YtbbkljgeddjghaaRange
import Derived.WalkKit
import Derived.Test.YtbbkljgeddjghaaCells
import Derived.Test.YtbbkljgeddjghaaTrail
namespace Go.Proofs.Ytbbkljgeddjghaa
open Go.RowKit Go.Lx Go.Shelf

theorem mask_eq (log : Nat) (h : log ≤ 15) : IntKind.u64.wrap (IntKind.u64.wrap ((2 : Int) ^ log) - 1) = ((2 ^ log - 1 : Nat) : Int) := by
  have hle := le_two log h
  have hp := Nat.two_pow_pos log
  have : ((2 : Int) ^ log) = ((2 ^ log : Nat) : Int) := by simp
  rw [this]; clear this
  generalize 2 ^ log = n at *
  rw [IntKind.wrap_u64, IntKind.wrap_u64]
  omega
theorem u64_eq (h : Int) : IntKind.u64.wrap h = ((u64 h : Nat) : Int) := by
  rw [IntKind.wrap_u64]; unfold u64; omega
theorem and_mask (log p : Nat) (h : log ≤ 15) (hp : p < 18446744073709551616) : bits .and .u64 (p : Int) ((2 ^ log - 1 : Nat) : Int) = ((p % 2 ^ log : Nat) : Int) := by
  have hle := le_two log h
  rw [u64_and_nat p _ hp (by omega), Nat.and_two_pow_sub_one_eq_mod]
theorem wrap64_nat (n : Nat) (h : n < 9223372036854775808) : wrap64 (n : Int) = (n : Int) := by unfold wrap64; omega

set_option maxRecDepth 100000 in
set_option maxHeartbeats 400000 in
theorem first_any (h : Int) (log : Nat) (w : World) (hlog : log ≤ 15) :
    Calls Try.prog 82 #[.int .i64 h, .int .i64 log] w fun e w' => e = .returned (.int .i64 ((tc log h 0 : Nat))) ∧ w = w' := by
  have e1 := mask_eq log hlog
  have e2 := u64_eq h
  have e3 := and_mask log (u64 h) hlog (u64_lt h)
  have hlt := tc_lt log h 0
  have hle := le_two log hlog
  have e4 := wrap64_nat (tc log h 0) (by omega)
  have e5 : tc log h 0 = u64 h % 2 ^ log := rfl
  rw [← e5] at e3
  clear e5
  generalize tc log h 0 = c at *
  generalize u64 h = u at *
  generalize 2 ^ log - 1 = m at *
  have E3 := hid e3
  have E4 := hid e4
  clear e3 e4 hlt hle
  go_enter Try.func82, Try.ntmps82
  go_wp2
  go_ret
  refine ⟨?_, rfl⟩
  simp only [List.getElem?_toArray, Array.getD_eq_getD_getElem?, List.getElem?_cons_succ, List.getElem?_cons_zero, Option.getD_some]
  rw [E3.out, E4.out]

attribute [local go_sem] Oper.semAt_some

abbrev Cell (log : Nat) := { c : Nat // c < 2 ^ log }
def cellAt (log : Nat) (h : Int) (i : Nat) : Cell log := ⟨tc log h i, tc_lt log h i⟩
def upto {α : Type} (f : Nat → α) (k : Nat) : List α := (List.range k).map f
theorem upto_succ {α : Type} (f : Nat → α) (k : Nat) : upto f (k + 1) = upto f k ++ [f k] := by simp [upto, List.range_succ]
theorem upto_length {α : Type} (f : Nat → α) (k : Nat) : (upto f k).length = k := by simp [upto]

set_option maxRecDepth 100000 in
set_option maxHeartbeats 1000000 in
theorem trail_in (n : Nat) (hn : 1 ≤ n) (log : Nat) (h : Int) (hlog : log ≤ 15) (l b1 b2 : Nat) (J Jx : List (Cell log) → World → Prop)
    (hY : ∀ pre x W, J pre W → pre.length < 2 ^ log + 13 → YieldAt Fence.wide (n - 1) Try.prog l #[.int .i64 (x.1 : Int)] W fun e W' =>
      (e = .returned (.bool true) ∧ J (pre ++ [x]) W' ∧ True) ∨ (e = .returned (.bool false) ∧ Jx (pre ++ [x]) W'))
    (W : World) (h1 : W.cell? ⟨b1, 0, none⟩ = some (.int .i64 log)) (h2 : W.cell? ⟨b2, 0, none⟩ = some (.int .i64 h)) (h0 : J [] W) :
    CallsIn Fence.wide n Try.prog 142 #[.func (.yield l) #[] #[], .pointer (some ⟨b1, 0, none⟩), .pointer (some ⟨b2, 0, none⟩)] W fun e W' => (∃ v, e = .returned v) ∧
      ((∃ ys, ys = upto (cellAt log h) (2 ^ log + 13) ∧ J ys W') ∨ (∃ pre, (∃ k, k < 2 ^ log + 13 ∧ pre = upto (cellAt log h) (k + 1)) ∧ Jx pre W')) := by
  have e1 := mask_eq log hlog
  have e2 := u64_eq h
  have hp := wrap_pow log hlog
  have hle := le_two log hlog
  have hm := fun p hp => and_mask log p hlog hp
  obtain ⟨m, hM⟩ : ∃ m, m = 2 ^ log - 1 := ⟨_, rfl⟩
  rw [← hM] at e1 hm
  have hm1 : m < 18446744073709551616 := by omega
  clear hM
  obtain ⟨N, hN⟩ : ∃ N, N = 2 ^ log := ⟨_, rfl⟩
  rw [← hN] at hp hle
  have HN := hid hN
  clear hN
  have hb : ∀ i, tc log h i < 32768 := fun i => by have := tc_lt log h i; have := HN.out; omega
  have HB := hid hb
  have HM := hid hm
  have hc0 : bits .and .u64 ((u64 h : Nat) : Int) (m : Int) = ((tc log h 0 : Nat) : Int) := hm _ (u64_lt h)
  clear hb hm
  refine callsIn_of_wp Try.func142 rfl trivial ?_ rfl
  simp only [Try.ntmps142, List.size_toArray, List.length_cons, List.length_nil, Nat.reduceAdd, Nat.reduceSub, Array.replicate_succ, Array.replicate_zero, List.push_toArray, List.append_toArray, List.nil_append, List.cons_append]
  gi_wp2
  clear hc0 e1 e2 hp
  gi_loopw [5, 6, 24] (fun p c i wr => ∃ k : Nat, k ≤ N + 13 ∧ i = .int .i64 k ∧ p = .int .u64 ((u64 h / 32 ^ k : Nat) : Int) ∧ c = .int .u64 ((tc log h k : Nat) : Int) ∧ J (upto (cellAt log h) k) wr)
    (fun _ _ i _ => N + 13 - (intOf i).toNat)
  case atStart => exact ⟨0, Nat.zero_le _, rfl, by simp, rfl, h0⟩
  case round =>
    obtain ⟨k, hk, rfl, rfl, rfl, hJs⟩ := hrel
    by_cases hlt : k < N + 13
    · obtain ⟨fn, tmps, assign, body, hy, hR⟩ := hY _ (cellAt log h k) wr hJs (by rw [upto_length, ← HN.out]; exact hlt)
      rw [← upto_succ] at hR
      have hck := HB.out k
      have e3 := wrap64_nat (tc log h k) (by omega)
      replace hy : (Instr.yield l #[.int .i64 ((tc log h k : Nat) : Int)]).run Try.prog wr = .ok (.round l fn tmps assign body) wr := hy
      obtain ⟨c, hc⟩ : ∃ c, c = tc log h k := ⟨_, rfl⟩
      obtain ⟨p, hp⟩ : ∃ p, p = u64 h / 32 ^ k := ⟨_, rfl⟩
      have hpl : p < 18446744073709551616 := by rw [hp]; exact Nat.lt_of_le_of_lt (Nat.div_le_self _ _) (u64_lt h)
      rw [← hc] at hy hck e3 ⊢
      rw [← hp]
      have HC := hid hc
      have HP := hid hp
      clear hc hp
      gi_wp2
      refine hR.mono ?_
      rintro e W3 (⟨rfl, hJ3, _⟩ | ⟨rfl, hJx3⟩)
      · gi_wp2
        have e5 : p / 32 = u64 h / 32 ^ (k + 1) := by rw [HP.out, Nat.div_div_eq_div_mul, Nat.pow_succ]
        have e6 : bits .and .u64 ((5 * c + p / 32 + 1 : Nat) : Int) (m : Int) = ((tc log h (k + 1) : Nat) : Int) := by
          rw [HM.out _ (by omega), tc_succ, ← e5, ← HC.out]
        go_roundw
        case rel =>
          refine ⟨k + 1, by omega, by simp, ?_, ?_, hJ3⟩
          · rw [← e5]; rfl
          · rw [← e6]; rfl
        case measure => simp [intOf]; omega
      · gi_wp2
        refine bodyPost_ret (results_none rfl _ _ _) rfl ?_
        exact ⟨⟨_, rfl⟩, .inr ⟨_, ⟨k, by rw [← HN.out]; exact hlt, rfl⟩, hJx3⟩⟩
    · obtain rfl : k = N + 13 := by omega
      gi_wp2
      go_end0
      exact ⟨⟨_, rfl⟩, .inl ⟨_, by rw [← HN.out], hJs⟩⟩

/-- **The iterator over a hash's trail**: the first 2^log + 13 cells, in order; a body may stop it behind any of them. -/
theorem trail_stops (n : Nat) (hn : 1 ≤ n) (log : Nat) (h : Int) (hlog : log ≤ 15) (b1 b2 : Nat) (w : World) (h1 : Blk w b1 3 [.int .i64 log]) (h2 : Blk w b2 3 [.int .i64 h]) :
    SeqStopsK Fence.wide n Try.prog 142 #[.pointer (some ⟨b1, 0, none⟩), .pointer (some ⟨b2, 0, none⟩)] (fun x : Cell log => #[.int .i64 (x.1 : Int)]) (fun _ _ => True)
      (fun ys => ys = upto (cellAt log h) (2 ^ log + 13)) (fun pre => ∃ k, k < 2 ^ log + 13 ∧ pre = upto (cellAt log h) (k + 1)) (2 ^ log + 13) w := fun l J Jx W hW _ _ hY h0 =>
  trail_in n hn log h hlog l b1 b2 J Jx hY W ((h1.below hW h1.lt).cell 0) ((h2.below hW h2.lt).cell 0) h0

set_option maxHeartbeats 400000 in
theorem trailAll_any (h : Int) (log : Nat) (w : World) :
    Calls Try.prog 111 #[.int .i64 h, .int .i64 log] w fun e w' => e = .returned (.func (.func 142) #[] #[.pointer (some ⟨w.heap.size + 1, 0, none⟩), .pointer (some ⟨w.heap.size, 0, none⟩)]) ∧ Blk w' (w.heap.size + 1) 3 [.int .i64 log] ∧ Blk w' w.heap.size 3 [.int .i64 h] ∧ Kept Nil w w' := by
  go_enter Try.func111, Try.ntmps111
  go_wp2
  go_ret
  refine ⟨rfl, ?_, ?_, ?_⟩
  · have := Blk.new (w.alloc (.cells #[.int .i64 h] 3)) 3 [.int .i64 log]
    simpa using this
  · exact (Blk.new w 3 [.int .i64 h]).alloc _
  · exact ((Kept.refl _ _).alloc _).alloc _
end Go.Proofs.Ytbbkljgeddjghaa
