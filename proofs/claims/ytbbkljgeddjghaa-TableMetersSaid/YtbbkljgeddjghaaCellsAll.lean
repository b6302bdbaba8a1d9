/-
  What is proved: the walk of (*Cells).All and the iterator that it hands back.
-/
import Derived.Test.YtbbkljgeddjghaaTrailW
import Derived.Deep.RegionHeld3
import Derived.Deep.QuietTactic
import Derived.BigQuiet
namespace Go.Proofs.Ytbbkljgeddjghaa
open Go.RowKit Go.Lx Go.Shelf
attribute [local go_sem] Oper.semAt_some

theorem Try.infoI64 : (Try.prog.info? 3).map (fun i => (i.zero, i.size, i.bytes)) = some (some (.int .i64 0), 1, 8) := by kernel_rfl
/-- The first k of cs, then noughts. -/
def part (cs : List Int) (k : Nat) : List Int := cs.take k ++ List.replicate (cs.length - k) 0
theorem part_zero (cs : List Int) : part cs 0 = List.replicate cs.length 0 := by simp [part]
theorem part_len (cs : List Int) (k : Nat) (h : k ≤ cs.length) : (part cs k).length = cs.length := by simp [part]; omega
theorem part_set (cs : List Int) (k : Nat) (v : Int) (hv : cs[k]? = some v) : (part cs k).set k v = part cs (k + 1) := by
  obtain ⟨h, rfl⟩ := List.getElem?_eq_some_iff.1 hv
  unfold part
  rw [show cs.length - k = (cs.length - (k + 1)) + 1 by omega, List.replicate_succ (n := cs.length - (k + 1))]
  rw [List.set_append_right _ _ (by rw [List.length_take]; omega)]
  rw [List.take_succ_eq_append_getElem h]
  have e : k - (cs.take k).length = 0 := by rw [List.length_take, Nat.min_eq_left (by omega)]; omega
  rw [e, List.append_assoc]; simp
theorem part_end (cs : List Int) : part cs cs.length = cs := by simp [part]

set_option maxHeartbeats 1000000 in
theorem allC8 (c r n log : Nat) (w : World) (cs : List Int) (hn : n ≤ 32768) (hl : cs.length = n) 
    (hsz : Calls Try.prog 131 #[.pointer (some ⟨c, 0, none⟩)] w fun e w' => e = .returned (.int .i64 n) ∧ Kept Nil w w')
    (hc : Blk w c 196 [.int .i64 log, .iface 214 (.agg #[.slice (some ⟨r, 0, none⟩) n n, .int .i64 1])])
    (hr : Blk w r 237 (cs.map (Value.int .i8)))
    (hfit : ∀ (i : Nat) (v : Int), cs[i]? = some v → -128 ≤ v ∧ v < 128) :
    Calls Try.prog 77 #[.pointer (some ⟨c, 0, none⟩)] w fun e w' => ∃ B L, e = .returned (.func (.func 132) #[] #[.pointer (some ⟨B, 0, none⟩)]) ∧ w.heap.size ≤ B ∧ w.heap.size ≤ L ∧ Blk w' B 22 [.slice (some ⟨L, 0, none⟩) n n] ∧ Blk w' L 3 (cs.map (Value.int .i64)) ∧ Kept Nil w w' := by
  have na := na8_get
  have me := me8_get
  have hmk := fun w1 => Go.run_make_row' (P := Try.prog) 22 3 (.int .i64 0) 8 Try.underlying22 Try.infoI64 rfl .i64 .i64 n (by omega) (by omega) w1
  go_enter Try.func77, Try.ntmps77
  go_wp2_with (go_at_call 131; refine hsz.mono ?_; clear hsz; rintro e w1 ⟨rfl, hk1⟩)
  obtain ⟨W, hW⟩ : ∃ W, W = (w1.alloc (.cells (madeCells #[Value.int .i64 0] n) 3)).alloc (.cells #[.slice (some ⟨w1.heap.size, 0, none⟩) n n] 22) := ⟨_, rfl⟩
  rw [← hW]
  have hL : Blk W w1.heap.size 3 ((part cs 0).map (Value.int .i64)) := by
    rw [hW, made_row, part_zero, hl]; have := (Blk.new w1 3 (List.replicate n (Value.int .i64 0))).alloc (.cells #[.slice (some ⟨w1.heap.size, 0, none⟩) n n] 22)
    simpa using this
  have hB : Blk W (w1.heap.size + 1) 22 [.slice (some ⟨w1.heap.size, 0, none⟩) n n] := by
    rw [hW]; have := Blk.new (w1.alloc (.cells (madeCells #[Value.int .i64 0] n) 3)) 22 [.slice (some ⟨w1.heap.size, 0, none⟩) n n]
    simpa using this
  have hkW : Kept Nil w W := by rw [hW]; exact (hk1.alloc _).alloc _
  have hs1 := hk1.size
  clear hW hk1
  obtain ⟨L, hLe⟩ : ∃ L, L = w1.heap.size := ⟨_, rfl⟩
  rw [← hLe] at hL hB hs1 ⊢
  clear hLe
  have hlW := hL.lt
  have hlB := hB.lt
  go_loopw [4, 10] (fun _ i wr => ∃ k : Nat, k ≤ n ∧ i = .int .i64 k ∧ Blk wr L 3 ((part cs k).map (Value.int .i64)) ∧ Blk wr (L + 1) 22 [.slice (some ⟨L, 0, none⟩) n n] ∧ Kept Nil w wr) (fun _ i _ => n - (intOf i).toNat)
  case atStart => exact ⟨0, Nat.zero_le _, rfl, hL, hB, hkW⟩
  case round =>
    clear hL hB hkW hlW hlB
    obtain ⟨k, hkn, rfl, hL, hB, hk⟩ := hrel
    by_cases hlt : k < n
    · have hB1 : wr.cell? ⟨L + 1, 0, none⟩ = some (.slice (some ⟨L, 0, none⟩) n n) := hB.cell 0
      have hck := hc.kept hk id
      have hrk := hr.kept hk id
      have hc1 : wr.cell? ⟨c, 1, none⟩ = some (.iface 214 (.agg #[.slice (some ⟨r, 0, none⟩) n n, .int .i64 1])) := hck.cell 1
      have hkl : k < cs.length := by omega
      obtain ⟨v, hv⟩ : ∃ v, cs[k]? = some v := ⟨_, List.getElem?_eq_getElem hkl⟩
      have hr1 : wr.cell? ⟨r, k, none⟩ = some (.int .i8 v) := by rw [hrk.cell]; simp [hv]
      have hf := hfit k v hv
      have hrlt := hrk.lt
      go_wp2_with (fail)
      have hLc : wr.cell? ⟨L, k, none⟩ = some (.int .i64 ((part cs k)[k]'(by rw [part_len cs k (by omega)]; omega))) := by rw [hL.cell]; simp [part_len cs k (by omega), hkl]
      have hLf := hL.frozen k
      have hLl := hL.lt
      have hBl := hB.lt
      have hcl' := hck.lt
      generalize (part cs k)[k]'(by rw [part_len cs k (by omega)]; omega) = z at hLc
      go_region_with (go_at_call 170; refine (get8 r n k v _ hlt (by assumption) (by assumption) hf.1 hf.2).mono ?_; rintro e w2 ⟨rfl, hk2⟩; have hLc2 := (World.cell?_of_block (a := ⟨L, k, none⟩) (hk2.block L hLl id)).trans hLc; have hLf2 := (World.frozen?_of_block (a := ⟨L, k, none⟩) (hk2.block L hLl id)).trans hLf; have hB2 := (World.cell?_of_block (a := ⟨L+1, 0, none⟩) (hk2.block (L+1) hBl id)).trans hB1; have hc2 := (World.cell?_of_block (a := ⟨c, 1, none⟩) (hk2.block c hcl' id)).trans hc1)
      all_goals
        go_wp2
        go_roundw
        case rel =>
          replace hk2 := hk2.undrew
          have hkk := hk.trans hk2 (fun _ _ h => h)
          have hL3 := (hL.kept hk2 id).set k (.int .i64 v)
          rw [← List.map_set, part_set cs k v hv] at hL3
          exact ⟨k + 1, by omega, by go_num, hL3, (hB.kept hk2 id).other (a := ⟨L, k, none⟩) (by simp) _, hkk.setCell (p := ⟨L, k, none⟩) (.inr hs1) _⟩
        case measure => simp [intOf]; omega
    · obtain rfl : k = n := by omega
      have hend := part_end cs
      rw [hl] at hend
      rw [hend] at hL
      go_wp2
      go_ret
      exact ⟨L + 1, L, rfl, by omega, by omega, hB, hL, hk⟩
set_option maxHeartbeats 1000000 in
theorem allC16 (c r n log : Nat) (w : World) (cs : List Int) (hn : n ≤ 32768) (hl : cs.length = n) 
    (hsz : Calls Try.prog 131 #[.pointer (some ⟨c, 0, none⟩)] w fun e w' => e = .returned (.int .i64 n) ∧ Kept Nil w w')
    (hc : Blk w c 196 [.int .i64 log, .iface 217 (.agg #[.slice (some ⟨r, 0, none⟩) n n, .int .i64 2])])
    (hr : Blk w r 238 (cs.map (Value.int .i16)))
    (hfit : ∀ (i : Nat) (v : Int), cs[i]? = some v → -32768 ≤ v ∧ v < 32768) :
    Calls Try.prog 77 #[.pointer (some ⟨c, 0, none⟩)] w fun e w' => ∃ B L, e = .returned (.func (.func 132) #[] #[.pointer (some ⟨B, 0, none⟩)]) ∧ w.heap.size ≤ B ∧ w.heap.size ≤ L ∧ Blk w' B 22 [.slice (some ⟨L, 0, none⟩) n n] ∧ Blk w' L 3 (cs.map (Value.int .i64)) ∧ Kept Nil w w' := by
  have na := na16_get
  have me := me16_get
  have hmk := fun w1 => Go.run_make_row' (P := Try.prog) 22 3 (.int .i64 0) 8 Try.underlying22 Try.infoI64 rfl .i64 .i64 n (by omega) (by omega) w1
  go_enter Try.func77, Try.ntmps77
  go_wp2_with (go_at_call 131; refine hsz.mono ?_; clear hsz; rintro e w1 ⟨rfl, hk1⟩)
  obtain ⟨W, hW⟩ : ∃ W, W = (w1.alloc (.cells (madeCells #[Value.int .i64 0] n) 3)).alloc (.cells #[.slice (some ⟨w1.heap.size, 0, none⟩) n n] 22) := ⟨_, rfl⟩
  rw [← hW]
  have hL : Blk W w1.heap.size 3 ((part cs 0).map (Value.int .i64)) := by
    rw [hW, made_row, part_zero, hl]; have := (Blk.new w1 3 (List.replicate n (Value.int .i64 0))).alloc (.cells #[.slice (some ⟨w1.heap.size, 0, none⟩) n n] 22)
    simpa using this
  have hB : Blk W (w1.heap.size + 1) 22 [.slice (some ⟨w1.heap.size, 0, none⟩) n n] := by
    rw [hW]; have := Blk.new (w1.alloc (.cells (madeCells #[Value.int .i64 0] n) 3)) 22 [.slice (some ⟨w1.heap.size, 0, none⟩) n n]
    simpa using this
  have hkW : Kept Nil w W := by rw [hW]; exact (hk1.alloc _).alloc _
  have hs1 := hk1.size
  clear hW hk1
  obtain ⟨L, hLe⟩ : ∃ L, L = w1.heap.size := ⟨_, rfl⟩
  rw [← hLe] at hL hB hs1 ⊢
  clear hLe
  have hlW := hL.lt
  have hlB := hB.lt
  go_loopw [4, 10] (fun _ i wr => ∃ k : Nat, k ≤ n ∧ i = .int .i64 k ∧ Blk wr L 3 ((part cs k).map (Value.int .i64)) ∧ Blk wr (L + 1) 22 [.slice (some ⟨L, 0, none⟩) n n] ∧ Kept Nil w wr) (fun _ i _ => n - (intOf i).toNat)
  case atStart => exact ⟨0, Nat.zero_le _, rfl, hL, hB, hkW⟩
  case round =>
    clear hL hB hkW hlW hlB
    obtain ⟨k, hkn, rfl, hL, hB, hk⟩ := hrel
    by_cases hlt : k < n
    · have hB1 : wr.cell? ⟨L + 1, 0, none⟩ = some (.slice (some ⟨L, 0, none⟩) n n) := hB.cell 0
      have hck := hc.kept hk id
      have hrk := hr.kept hk id
      have hc1 : wr.cell? ⟨c, 1, none⟩ = some (.iface 217 (.agg #[.slice (some ⟨r, 0, none⟩) n n, .int .i64 2])) := hck.cell 1
      have hkl : k < cs.length := by omega
      obtain ⟨v, hv⟩ : ∃ v, cs[k]? = some v := ⟨_, List.getElem?_eq_getElem hkl⟩
      have hr1 : wr.cell? ⟨r, k, none⟩ = some (.int .i16 v) := by rw [hrk.cell]; simp [hv]
      have hf := hfit k v hv
      have hrlt := hrk.lt
      go_wp2_with (fail)
      have hLc : wr.cell? ⟨L, k, none⟩ = some (.int .i64 ((part cs k)[k]'(by rw [part_len cs k (by omega)]; omega))) := by rw [hL.cell]; simp [part_len cs k (by omega), hkl]
      have hLf := hL.frozen k
      have hLl := hL.lt
      have hBl := hB.lt
      have hcl' := hck.lt
      generalize (part cs k)[k]'(by rw [part_len cs k (by omega)]; omega) = z at hLc
      go_region_with (go_at_call 174; refine (get16 r n k v _ hlt (by assumption) (by assumption) hf.1 hf.2).mono ?_; rintro e w2 ⟨rfl, hk2⟩; have hLc2 := (World.cell?_of_block (a := ⟨L, k, none⟩) (hk2.block L hLl id)).trans hLc; have hLf2 := (World.frozen?_of_block (a := ⟨L, k, none⟩) (hk2.block L hLl id)).trans hLf; have hB2 := (World.cell?_of_block (a := ⟨L+1, 0, none⟩) (hk2.block (L+1) hBl id)).trans hB1; have hc2 := (World.cell?_of_block (a := ⟨c, 1, none⟩) (hk2.block c hcl' id)).trans hc1)
      all_goals
        go_wp2
        go_roundw
        case rel =>
          replace hk2 := hk2.undrew
          have hkk := hk.trans hk2 (fun _ _ h => h)
          have hL3 := (hL.kept hk2 id).set k (.int .i64 v)
          rw [← List.map_set, part_set cs k v hv] at hL3
          exact ⟨k + 1, by omega, by go_num, hL3, (hB.kept hk2 id).other (a := ⟨L, k, none⟩) (by simp) _, hkk.setCell (p := ⟨L, k, none⟩) (.inr hs1) _⟩
        case measure => simp [intOf]; omega
    · obtain rfl : k = n := by omega
      have hend := part_end cs
      rw [hl] at hend
      rw [hend] at hL
      go_wp2
      go_ret
      exact ⟨L + 1, L, rfl, by omega, by omega, hB, hL, hk⟩

theorem all_any (c r log : Nat) (cs : List Int) (w : World) (h : CellsAt w c r log cs) :
    Calls Try.prog 77 #[.pointer (some ⟨c, 0, none⟩)] w fun e w' => ∃ B L, e = .returned (.func (.func 132) #[] #[.pointer (some ⟨B, 0, none⟩)]) ∧ w.heap.size ≤ B ∧ w.heap.size ≤ L ∧ Blk w' B 22 [.slice (some ⟨L, 0, none⟩) cs.length cs.length] ∧ Blk w' L 3 (cs.map (Value.int .i64)) ∧ Kept Nil w w' := by
  have hs := size_any c r log cs w h
  have hle := le_two log h.hi
  have hh := h.head
  have hr := h.row
  have hrl := room_le log
  rw [h.len]
  unfold rowElem rowKind at hr
  by_cases hl : log ≤ 7
  · rw [rowVal_8 hl] at hh; rw [if_pos hl, if_pos hl] at hr
    have := room_fit log hl
    exact allC8 c r _ log w cs hle h.len hs hh hr (fun i v hv => by have := h.fit i v hv; omega)
  · rw [rowVal_16 hl] at hh; rw [if_neg hl, if_neg hl] at hr
    exact allC16 c r _ log w cs hle h.len hs hh hr (fun i v hv => by have := h.fit i v hv; omega)

set_option maxRecDepth 100000 in
set_option maxHeartbeats 1000000 in
theorem cellsAll_in (n : Nat) (hn : 1 ≤ n) (l B L : Nat) (cs : List Int) (hcs : cs.length ≤ 32768) (J Jx : List (Int × Int) → World → Prop)
    (hY : ∀ pre x W, J pre W → pre.length < cs.length → YieldAt Fence.wide (n - 1) Try.prog l #[.int .i64 x.1, .int .i64 x.2] W fun e W' =>
      (e = .returned (.bool true) ∧ J (pre ++ [x]) W' ∧ W'.heap[L]? = W.heap[L]?) ∨ (e = .returned (.bool false) ∧ Jx (pre ++ [x]) W'))
    (W : World) (h1 : Blk W B 22 [.slice (some ⟨L, 0, none⟩) cs.length cs.length]) (h2 : Blk W L 3 (cs.map (Value.int .i64))) (h0 : J [] W) :
    CallsIn Fence.wide n Try.prog 132 #[.func (.yield l) #[] #[], .pointer (some ⟨B, 0, none⟩)] W fun e W' => (∃ v, e = .returned v) ∧
      ((∃ ys, ys = upto (fun j => ((j : Int), cs[j]?.getD 0)) cs.length ∧ J ys W') ∨ (∃ pre, (∃ k, k < cs.length ∧ pre = upto (fun j => ((j : Int), cs[j]?.getD 0)) (k + 1)) ∧ Jx pre W')) := by
  have hc1 : W.cell? ⟨B, 0, none⟩ = some (.slice (some ⟨L, 0, none⟩) cs.length cs.length) := h1.cell 0
  obtain ⟨N, hN⟩ : ∃ N, N = cs.length := ⟨_, rfl⟩
  rw [← hN] at hc1 hcs
  have HN := hid hN
  clear hN
  refine callsIn_of_wp Try.func132 rfl trivial ?_ rfl
  simp only [Try.ntmps132, List.size_toArray, List.length_cons, List.length_nil, Nat.reduceAdd, Nat.reduceSub, Array.replicate_succ, Array.replicate_zero, List.push_toArray, List.append_toArray, List.nil_append, List.cons_append]
  gi_wp2
  clear hc1
  gi_loopw [7] (fun i wr => ∃ k : Nat, k ≤ N ∧ i = .int .i64 k ∧ wr.heap[L]? = W.heap[L]? ∧ J (upto (fun j => ((j : Int), cs[j]?.getD 0)) k) wr)
    (fun i _ => N - (intOf i).toNat)
  case atStart => exact ⟨0, Nat.zero_le _, rfl, rfl, h0⟩
  case round =>
    obtain ⟨k, hk, rfl, hsame, hJs⟩ := hrel
    by_cases hlt : k < N
    · have hkl : k < cs.length := by rw [← HN.out]; exact hlt
      obtain ⟨fn, tmps, assign, body, hy, hR⟩ := hY _ ((k : Int), cs[k]?.getD 0) wr hJs (by rw [upto_length]; exact hkl)
      have hcx : wr.cell? ⟨L, k, none⟩ = some (.int .i64 (cs[k]?.getD 0)) := by
        rw [(h2.same hsame).cell]; simp [hkl]
      dsimp only at hy
      generalize hv : cs[k]?.getD 0 = v at *
      have HV := hid hv
      clear hv
      gi_wp2
      refine hR.mono ?_
      rintro e W3 (⟨rfl, hJ3, hs3⟩ | ⟨rfl, hJx3⟩)
      · gi_wp2
        go_roundw
        case rel => exact ⟨k + 1, by omega, by simp, hs3.trans hsame, by rw [upto_succ, HV.out]; exact hJ3⟩
        case measure => simp [intOf]; omega
      · gi_wp2
        refine bodyPost_ret (results_none rfl _ _ _) rfl ?_
        exact ⟨⟨_, rfl⟩, .inr ⟨_, ⟨k, hkl, by rw [upto_succ, HV.out]⟩, hJx3⟩⟩
    · obtain rfl : k = N := by omega
      gi_wp2
      go_end0
      exact ⟨⟨_, rfl⟩, .inl ⟨_, by rw [HN.out], hJs⟩⟩

theorem upto_getD (cs : List Int) : (upto (fun j => ((j : Int), cs[j]?.getD 0)) cs.length).map (·.2) = cs := by
  apply List.ext_getElem
  · simp [upto]
  · intro i h1 h2
    simp [upto, h2]

/-- **The iterator over cells**: each, in order. -/
theorem cellsAll_stops (n : Nat) (hn : 1 ≤ n) (B L : Nat) (cs : List Int) (hcs : cs.length ≤ 32768) (w : World) (h1 : Blk w B 22 [.slice (some ⟨L, 0, none⟩) cs.length cs.length]) (h2 : Blk w L 3 (cs.map (Value.int .i64))) :
    SeqStopsK Fence.wide n Try.prog 132 #[.pointer (some ⟨B, 0, none⟩)] (fun x : Int × Int => #[.int .i64 x.1, .int .i64 x.2]) (fun W W' => W'.heap[L]? = W.heap[L]?)
      (fun ys => ys = upto (fun j => ((j : Int), cs[j]?.getD 0)) cs.length) (fun pre => ∃ k, k < cs.length ∧ pre = upto (fun j => ((j : Int), cs[j]?.getD 0)) (k + 1)) cs.length w := fun l J Jx W hW _ _ hY h0 =>
  cellsAll_in n hn l B L cs hcs J Jx hY W (h1.below hW h1.lt) (h2.below hW h2.lt) h0

end Go.Proofs.Ytbbkljgeddjghaa
