/-
  What is proved: the walks of package cells, up to 2^15 cells (widths of one and two bytes).
-/
import Derived.Test.YtbbkljgeddjghaaProg
import Derived.Test.YtbbkljgeddjghaaModel
import Derived.Deep.OwnRows
namespace Go.Proofs.Ytbbkljgeddjghaa
open Go.RowKit Go.Lx

def rowElem (log : Nat) : TypeId := if log ≤ 7 then 237 else 238
def rowKind (log : Nat) : IntKind := if log ≤ 7 then .i8 else .i16
def rowVal (log r : Nat) : Value :=
  if log ≤ 7 then .iface 214 (.agg #[.slice (some ⟨r, 0, none⟩) (2 ^ log) (2 ^ log), .int .i64 1])
  else .iface 217 (.agg #[.slice (some ⟨r, 0, none⟩) (2 ^ log) (2 ^ log), .int .i64 2])

/-- The cells at block c, their row at block r, hold cs. -/
structure CellsAt (w : World) (c r log : Nat) (cs : List Int) : Prop where
  head : Blk w c 196 [.int .i64 log, rowVal log r]
  row : Blk w r (rowElem log) (cs.map (Value.int (rowKind log)))
  len : cs.length = 2 ^ log
  lo : 3 ≤ log
  hi : log ≤ 15
  fit : ∀ (i : Nat) (v : Int), cs[i]? = some v → -2 ≤ v ∧ v < (room log : Int)

theorem CellsAt.ne {w : World} {c r log : Nat} {cs : List Int} (h : CellsAt w c r log cs) : c ≠ r := by
  refine h.head.ne h.row ?_
  unfold rowElem; split <;> decide
theorem CellsAt.kept {R : Nat → Prop} {w w' : World} {c r log : Nat} {cs : List Int} (h : CellsAt w c r log cs) (hk : Kept R w w') (hc : ¬ R c) (hr : ¬ R r) : CellsAt w' c r log cs :=
  ⟨h.head.kept hk hc, h.row.kept hk hr, h.len, h.lo, h.hi, h.fit⟩

theorem two_le (log : Nat) (h3 : 3 ≤ log) : 8 ≤ 2 ^ log := Nat.pow_le_pow_right (n := 2) (by decide) h3
theorem le_two (log : Nat) (h : log ≤ 15) : 2 ^ log ≤ 32768 := Nat.pow_le_pow_right (n := 2) (by decide) h
theorem le_two7 (log : Nat) (h : log ≤ 7) : 2 ^ log ≤ 128 := Nat.pow_le_pow_right (n := 2) (by decide) h

set_option maxHeartbeats 400000 in
theorem none_ok (c : Nat) (x : Value) (t : Nat) (w : World) (h1 : w.cell? ⟨c, 1, none⟩ = some (.iface t x)) :
    Calls Try.prog 130 #[.pointer (some ⟨c, 0, none⟩)] w fun e w' => e = .returned (.bool false) ∧ w = w' := by
  go_enter Try.func130, Try.ntmps130
  go_wp2
  go_ret
  exact ⟨rfl, rfl⟩

set_option maxHeartbeats 400000 in
theorem log_ok (c : Nat) (x : Value) (t : Nat) (log : Nat) (w : World) (h0 : w.cell? ⟨c, 0, none⟩ = some (.int .i64 log)) (h1 : w.cell? ⟨c, 1, none⟩ = some (.iface t x)) :
    Calls Try.prog 75 #[.pointer (some ⟨c, 0, none⟩)] w fun e w' => e = .returned (.int .i64 log) ∧ w = w' := by
  go_enter Try.func75, Try.ntmps75
  go_wp2_with (go_at_call 130; refine (none_ok c _ _ w h1).mono ?_; rintro e w' ⟨rfl, rfl⟩)
  go_ret
  exact ⟨rfl, rfl⟩

theorem na8_len (f : Nat) (x : Array Value) (w : World) : (nilAhead (f + 1) 214 (.agg x) "lexicon/cells.len").run Try.prog w = .ok (some false) w := by kernel_rfl
theorem me8_len (f : Nat) (x : Array Value) (w : World) : (method (f + 1) 214 (.agg x) "lexicon/cells.len").run Try.prog w = .ok (171, .agg x) w := by kernel_rfl
theorem na8_get (f : Nat) (x : Array Value) (w : World) : (nilAhead (f + 1) 214 (.agg x) "lexicon/cells.get").run Try.prog w = .ok (some false) w := by kernel_rfl
theorem me8_get (f : Nat) (x : Array Value) (w : World) : (method (f + 1) 214 (.agg x) "lexicon/cells.get").run Try.prog w = .ok (170, .agg x) w := by kernel_rfl
theorem na8_set (f : Nat) (x : Array Value) (w : World) : (nilAhead (f + 1) 214 (.agg x) "lexicon/cells.set").run Try.prog w = .ok (some false) w := by kernel_rfl
theorem me8_set (f : Nat) (x : Array Value) (w : World) : (method (f + 1) 214 (.agg x) "lexicon/cells.set").run Try.prog w = .ok (172, .agg x) w := by kernel_rfl
theorem na8_width (f : Nat) (x : Array Value) (w : World) : (nilAhead (f + 1) 214 (.agg x) "lexicon/cells.width").run Try.prog w = .ok (some false) w := by kernel_rfl
theorem me8_width (f : Nat) (x : Array Value) (w : World) : (method (f + 1) 214 (.agg x) "lexicon/cells.width").run Try.prog w = .ok (173, .agg x) w := by kernel_rfl

set_option maxHeartbeats 400000 in
theorem len8 (r n : Nat) (w : World) :
    Calls Try.prog 171 #[.agg #[.slice (some ⟨r, 0, none⟩) n n, .int .i64 1]] w fun e w' => e = .returned (.int .i64 n) ∧ Kept Nil w w' := by
  go_enter Try.func171, Try.ntmps171
  go_wp2
  go_ret
  exact ⟨rfl, (Kept.refl _ _).alloc _⟩
set_option maxHeartbeats 400000 in
theorem width8 (r n : Nat) (w : World) :
    Calls Try.prog 173 #[.agg #[.slice (some ⟨r, 0, none⟩) n n, .int .i64 1]] w fun e w' => e = .returned (.int .i64 1) ∧ Kept Nil w w' := by
  go_enter Try.func173, Try.ntmps173
  go_wp2
  go_ret
  exact ⟨rfl, (Kept.refl _ _).alloc _⟩
set_option maxHeartbeats 400000 in
theorem get8 (r n i : Nat) (v : Int) (w : World) (hi : i < n) (hr : r < w.heap.size) (hc : w.cell? ⟨r, i, none⟩ = some (.int .i8 v)) (h1 : -128 ≤ v) (h2 : v < 128) :
    Calls Try.prog 170 #[.agg #[.slice (some ⟨r, 0, none⟩) n n, .int .i64 1], .int .i64 i] w fun e w' => e = .returned (.int .i64 v) ∧ Kept Nil w w' := by
  have hne : ¬ r = w.heap.size := by omega
  go_enter Try.func170, Try.ntmps170
  go_wp2
  go_ret
  exact ⟨rfl, (Kept.refl _ _).alloc _⟩
set_option maxHeartbeats 400000 in
theorem set8 (r n i : Nat) (v : Int) (cs : List Int) (w : World) (hi : i < n) (hb : Blk w r 237 (cs.map (Value.int .i8))) (hcs : cs.length = n) (h1 : -128 ≤ v) (h2 : v < 128) :
    Calls Try.prog 172 #[.agg #[.slice (some ⟨r, 0, none⟩) n n, .int .i64 1], .int .i64 i, .int .i64 v] w fun e w' => e = .returned (.tuple #[]) ∧ Blk w' r 237 ((cs.set i v).map (Value.int .i8)) ∧ Kept (fun b => b = r) w w' := by
  have hlt := hb.lt
  have hne : ¬ r = w.heap.size := by omega
  have hc : w.cell? ⟨r, i, none⟩ = some (.int .i8 (cs[i]'(by omega))) := by rw [hb.cell]; simp [hcs, hi]
  have hf := hb.frozen i
  go_enter Try.func172, Try.ntmps172
  go_wp2
  go_end0
  refine ⟨rfl, ?_, ?_⟩
  · have := (hb.set i (.int .i8 v)).alloc (.cells #[.slice (some ⟨r, 0, none⟩) n n, .int .i64 1] 214)
    rw [List.map_set]; exact this
  · exact ((Kept.refl (fun b => b = r) w).setCell (p := ⟨r, i, none⟩) (.inl rfl) _).alloc _
theorem na16_len (f : Nat) (x : Array Value) (w : World) : (nilAhead (f + 1) 217 (.agg x) "lexicon/cells.len").run Try.prog w = .ok (some false) w := by kernel_rfl
theorem me16_len (f : Nat) (x : Array Value) (w : World) : (method (f + 1) 217 (.agg x) "lexicon/cells.len").run Try.prog w = .ok (175, .agg x) w := by kernel_rfl
theorem na16_get (f : Nat) (x : Array Value) (w : World) : (nilAhead (f + 1) 217 (.agg x) "lexicon/cells.get").run Try.prog w = .ok (some false) w := by kernel_rfl
theorem me16_get (f : Nat) (x : Array Value) (w : World) : (method (f + 1) 217 (.agg x) "lexicon/cells.get").run Try.prog w = .ok (174, .agg x) w := by kernel_rfl
theorem na16_set (f : Nat) (x : Array Value) (w : World) : (nilAhead (f + 1) 217 (.agg x) "lexicon/cells.set").run Try.prog w = .ok (some false) w := by kernel_rfl
theorem me16_set (f : Nat) (x : Array Value) (w : World) : (method (f + 1) 217 (.agg x) "lexicon/cells.set").run Try.prog w = .ok (176, .agg x) w := by kernel_rfl
theorem na16_width (f : Nat) (x : Array Value) (w : World) : (nilAhead (f + 1) 217 (.agg x) "lexicon/cells.width").run Try.prog w = .ok (some false) w := by kernel_rfl
theorem me16_width (f : Nat) (x : Array Value) (w : World) : (method (f + 1) 217 (.agg x) "lexicon/cells.width").run Try.prog w = .ok (177, .agg x) w := by kernel_rfl

set_option maxHeartbeats 400000 in
theorem len16 (r n : Nat) (w : World) :
    Calls Try.prog 175 #[.agg #[.slice (some ⟨r, 0, none⟩) n n, .int .i64 2]] w fun e w' => e = .returned (.int .i64 n) ∧ Kept Nil w w' := by
  go_enter Try.func175, Try.ntmps175
  go_wp2
  go_ret
  exact ⟨rfl, (Kept.refl _ _).alloc _⟩
set_option maxHeartbeats 400000 in
theorem width16 (r n : Nat) (w : World) :
    Calls Try.prog 177 #[.agg #[.slice (some ⟨r, 0, none⟩) n n, .int .i64 2]] w fun e w' => e = .returned (.int .i64 2) ∧ Kept Nil w w' := by
  go_enter Try.func177, Try.ntmps177
  go_wp2
  go_ret
  exact ⟨rfl, (Kept.refl _ _).alloc _⟩
set_option maxHeartbeats 400000 in
theorem get16 (r n i : Nat) (v : Int) (w : World) (hi : i < n) (hr : r < w.heap.size) (hc : w.cell? ⟨r, i, none⟩ = some (.int .i16 v)) (h1 : -32768 ≤ v) (h2 : v < 32768) :
    Calls Try.prog 174 #[.agg #[.slice (some ⟨r, 0, none⟩) n n, .int .i64 2], .int .i64 i] w fun e w' => e = .returned (.int .i64 v) ∧ Kept Nil w w' := by
  have hne : ¬ r = w.heap.size := by omega
  go_enter Try.func174, Try.ntmps174
  go_wp2
  go_ret
  exact ⟨rfl, (Kept.refl _ _).alloc _⟩
set_option maxHeartbeats 400000 in
theorem set16 (r n i : Nat) (v : Int) (cs : List Int) (w : World) (hi : i < n) (hb : Blk w r 238 (cs.map (Value.int .i16))) (hcs : cs.length = n) (h1 : -32768 ≤ v) (h2 : v < 32768) :
    Calls Try.prog 176 #[.agg #[.slice (some ⟨r, 0, none⟩) n n, .int .i64 2], .int .i64 i, .int .i64 v] w fun e w' => e = .returned (.tuple #[]) ∧ Blk w' r 238 ((cs.set i v).map (Value.int .i16)) ∧ Kept (fun b => b = r) w w' := by
  have hlt := hb.lt
  have hne : ¬ r = w.heap.size := by omega
  have hc : w.cell? ⟨r, i, none⟩ = some (.int .i16 (cs[i]'(by omega))) := by rw [hb.cell]; simp [hcs, hi]
  have hf := hb.frozen i
  go_enter Try.func176, Try.ntmps176
  go_wp2
  go_end0
  refine ⟨rfl, ?_, ?_⟩
  · have := (hb.set i (.int .i16 v)).alloc (.cells #[.slice (some ⟨r, 0, none⟩) n n, .int .i64 2] 217)
    rw [List.map_set]; exact this
  · exact ((Kept.refl (fun b => b = r) w).setCell (p := ⟨r, i, none⟩) (.inl rfl) _).alloc _


theorem room_le (log : Nat) : room log ≤ 2 ^ log := by unfold room; omega
theorem room_fit (log : Nat) (h : log ≤ 7) : room log ≤ 85 := by unfold room; have := le_two7 log h; omega

/-- One word for the width of a row: what 'rowVal' is below and above 2^7. -/
theorem rowVal_8 {log : Nat} (h : log ≤ 7) (r : Nat) : rowVal log r = .iface 214 (.agg #[.slice (some ⟨r, 0, none⟩) (2 ^ log) (2 ^ log), .int .i64 1]) := if_pos h
theorem rowVal_16 {log : Nat} (h : ¬ log ≤ 7) (r : Nat) : rowVal log r = .iface 217 (.agg #[.slice (some ⟨r, 0, none⟩) (2 ^ log) (2 ^ log), .int .i64 2]) := if_neg h
def widthOf (log : Nat) : Int := if log ≤ 7 then 1 else 2

set_option maxHeartbeats 400000 in
theorem size8 (c r n : Nat) (w : World) (h : w.cell? ⟨c, 1, none⟩ = some (.iface 214 (.agg #[.slice (some ⟨r, 0, none⟩) n n, .int .i64 1]))) :
    Calls Try.prog 131 #[.pointer (some ⟨c, 0, none⟩)] w fun e w' => e = .returned (.int .i64 n) ∧ Kept Nil w w' := by
  have na := na8_len
  have me := me8_len
  go_enter Try.func131, Try.ntmps131
  go_wp2_with (first | (go_at_call 130; refine (none_ok c _ _ w h).mono ?_; rintro e w' ⟨rfl, rfl⟩) | (go_at_call 171; refine (len8 r n w).mono ?_; rintro e w' ⟨rfl, hk⟩))
  go_ret
  exact ⟨rfl, hk⟩
set_option maxHeartbeats 400000 in
theorem cwidth8 (c r n : Nat) (w : World) (h : w.cell? ⟨c, 1, none⟩ = some (.iface 214 (.agg #[.slice (some ⟨r, 0, none⟩) n n, .int .i64 1]))) :
    Calls Try.prog 76 #[.pointer (some ⟨c, 0, none⟩)] w fun e w' => e = .returned (.int .i64 1) ∧ Kept Nil w w' := by
  have na := na8_width
  have me := me8_width
  go_enter Try.func76, Try.ntmps76
  go_wp2_with (first | (go_at_call 130; refine (none_ok c _ _ w h).mono ?_; rintro e w' ⟨rfl, rfl⟩) | (go_at_call 173; refine (width8 r n w).mono ?_; rintro e w' ⟨rfl, hk⟩))
  go_ret
  exact ⟨rfl, hk⟩
set_option maxHeartbeats 400000 in
theorem size16 (c r n : Nat) (w : World) (h : w.cell? ⟨c, 1, none⟩ = some (.iface 217 (.agg #[.slice (some ⟨r, 0, none⟩) n n, .int .i64 2]))) :
    Calls Try.prog 131 #[.pointer (some ⟨c, 0, none⟩)] w fun e w' => e = .returned (.int .i64 n) ∧ Kept Nil w w' := by
  have na := na16_len
  have me := me16_len
  go_enter Try.func131, Try.ntmps131
  go_wp2_with (first | (go_at_call 130; refine (none_ok c _ _ w h).mono ?_; rintro e w' ⟨rfl, rfl⟩) | (go_at_call 175; refine (len16 r n w).mono ?_; rintro e w' ⟨rfl, hk⟩))
  go_ret
  exact ⟨rfl, hk⟩
set_option maxHeartbeats 400000 in
theorem cwidth16 (c r n : Nat) (w : World) (h : w.cell? ⟨c, 1, none⟩ = some (.iface 217 (.agg #[.slice (some ⟨r, 0, none⟩) n n, .int .i64 2]))) :
    Calls Try.prog 76 #[.pointer (some ⟨c, 0, none⟩)] w fun e w' => e = .returned (.int .i64 2) ∧ Kept Nil w w' := by
  have na := na16_width
  have me := me16_width
  go_enter Try.func76, Try.ntmps76
  go_wp2_with (first | (go_at_call 130; refine (none_ok c _ _ w h).mono ?_; rintro e w' ⟨rfl, rfl⟩) | (go_at_call 177; refine (width16 r n w).mono ?_; rintro e w' ⟨rfl, hk⟩))
  go_ret
  exact ⟨rfl, hk⟩

theorem size_any (c r log : Nat) (cs : List Int) (w : World) (h : CellsAt w c r log cs) :
    Calls Try.prog 131 #[.pointer (some ⟨c, 0, none⟩)] w fun e w' => e = .returned (.int .i64 (2 ^ log : Nat)) ∧ Kept Nil w w' := by
  have h1 : w.cell? ⟨c, 1, none⟩ = some (rowVal log r) := h.head.cell 1
  by_cases hl : log ≤ 7
  · rw [rowVal_8 hl] at h1; exact size8 c r _ w h1
  · rw [rowVal_16 hl] at h1; exact size16 c r _ w h1

theorem width_any (c r log : Nat) (cs : List Int) (w : World) (h : CellsAt w c r log cs) :
    Calls Try.prog 76 #[.pointer (some ⟨c, 0, none⟩)] w fun e w' => e = .returned (.int .i64 (widthOf log)) ∧ Kept Nil w w' := by
  have h1 : w.cell? ⟨c, 1, none⟩ = some (rowVal log r) := h.head.cell 1
  unfold widthOf
  by_cases hl : log ≤ 7
  · rw [rowVal_8 hl] at h1; rw [if_pos hl]; exact cwidth8 c r _ w h1
  · rw [rowVal_16 hl] at h1; rw [if_neg hl]; exact cwidth16 c r _ w h1

theorem log_any (c r log : Nat) (cs : List Int) (w : World) (h : CellsAt w c r log cs) :
    Calls Try.prog 75 #[.pointer (some ⟨c, 0, none⟩)] w fun e w' => e = .returned (.int .i64 log) ∧ w = w' := by
  have h1 : w.cell? ⟨c, 1, none⟩ = some (rowVal log r) := h.head.cell 1
  by_cases hl : log ≤ 7
  · rw [rowVal_8 hl] at h1; exact log_ok c _ _ log w (h.head.cell 0) h1
  · rw [rowVal_16 hl] at h1; exact log_ok c _ _ log w (h.head.cell 0) h1

theorem none_any (c r log : Nat) (cs : List Int) (w : World) (h : CellsAt w c r log cs) :
    Calls Try.prog 130 #[.pointer (some ⟨c, 0, none⟩)] w fun e w' => e = .returned (.bool false) ∧ w = w' := by
  have h1 : w.cell? ⟨c, 1, none⟩ = some (rowVal log r) := h.head.cell 1
  by_cases hl : log ≤ 7
  · rw [rowVal_8 hl] at h1; exact none_ok c _ _ w h1
  · rw [rowVal_16 hl] at h1; exact none_ok c _ _ w h1

theorem tdiv_nat (a b : Nat) : ((a : Int).tdiv (b : Int)) = ((a / b : Nat) : Int) := by
  rw [Int.tdiv_eq_ediv_of_nonneg (by omega)]; rfl

set_option maxHeartbeats 400000 in
theorem room_any (c r log : Nat) (cs : List Int) (w : World) (h : CellsAt w c r log cs) :
    Calls Try.prog 107 #[.pointer (some ⟨c, 0, none⟩)] w fun e w' => e = .returned (.int .i64 (room log)) ∧ Kept Nil w w' := by
  have hle := le_two log h.hi
  unfold room
  obtain ⟨n, hn⟩ : ∃ n, n = 2 ^ log := ⟨_, rfl⟩
  have hs := size_any c r log cs w h
  rw [← hn] at hs hle ⊢
  clear hn
  go_enter Try.func107, Try.ntmps107
  go_wp2_with (go_at_call 131; refine hs.mono ?_; clear hs; rintro e w' ⟨rfl, hk⟩)
  go_ret
  refine ⟨?_, hk⟩
  simp

set_option maxHeartbeats 400000 in
theorem wrong_any (c r log i : Nat) (cs : List Int) (w : World) (h : CellsAt w c r log cs) (hi : i < 2 ^ log) :
    Calls Try.prog 135 #[.pointer (some ⟨c, 0, none⟩), .int .i64 i] w fun e w' => e = .returned (.int .i64 0) ∧ Kept Nil w w' := by
  have hle := le_two log h.hi
  have hs := size_any c r log cs w h
  have hno := none_any c r log cs w h
  obtain ⟨n, hn⟩ : ∃ n, n = 2 ^ log := ⟨_, rfl⟩
  rw [← hn] at hs hle hi
  clear hn h
  go_enter Try.func135, Try.ntmps135
  go_wp2_with (first | (go_at_call 131; refine hs.mono ?_; clear hs; rintro e w' ⟨rfl, hk⟩) | (go_at_call 130; refine hno.mono ?_; clear hno; rintro e w' ⟨rfl, rfl⟩))
  go_ret
  exact ⟨rfl, hk⟩

set_option maxHeartbeats 400000 in
theorem getC8 (c r n i : Nat) (v : Int) (w : World) (hi : i < n) (hcl : c < w.heap.size) (hrl : r < w.heap.size)
    (hw : Calls Try.prog 135 #[.pointer (some ⟨c, 0, none⟩), .int .i64 i] w fun e w' => e = .returned (.int .i64 0) ∧ Kept Nil w w')
    (h : w.cell? ⟨c, 1, none⟩ = some (.iface 214 (.agg #[.slice (some ⟨r, 0, none⟩) n n, .int .i64 1])))
    (hc : w.cell? ⟨r, i, none⟩ = some (.int .i8 v)) (h1 : -128 ≤ v) (h2 : v < 128) :
    Calls Try.prog 83 #[.pointer (some ⟨c, 0, none⟩), .int .i64 i] w fun e w' => e = .returned (.tuple #[.int .i64 v, .int .i64 0]) ∧ Kept Nil w w' := by
  have na := na8_get
  have me := me8_get
  go_enter Try.func83, Try.ntmps83
  go_wp2_with (go_at_call 135; refine hw.mono ?_; clear hw; rintro e w1 ⟨rfl, hk⟩; have h' := (World.cell?_of_block (hk.block c hcl id)).trans h; have hc' := (World.cell?_of_block (a := ⟨r, i, none⟩) (hk.block r hrl id)).trans hc; have hrl' := Nat.lt_of_lt_of_le hrl hk.size)
  go_wp2_with (go_at_call 170; refine (get8 r n i v w1 hi hrl' hc' h1 h2).mono ?_; rintro e w2 ⟨rfl, hk2⟩)
  go_ret2
  exact ⟨rfl, hk.trans hk2 (fun _ _ h => h)⟩
set_option maxHeartbeats 400000 in
theorem getC16 (c r n i : Nat) (v : Int) (w : World) (hi : i < n) (hcl : c < w.heap.size) (hrl : r < w.heap.size)
    (hw : Calls Try.prog 135 #[.pointer (some ⟨c, 0, none⟩), .int .i64 i] w fun e w' => e = .returned (.int .i64 0) ∧ Kept Nil w w')
    (h : w.cell? ⟨c, 1, none⟩ = some (.iface 217 (.agg #[.slice (some ⟨r, 0, none⟩) n n, .int .i64 2])))
    (hc : w.cell? ⟨r, i, none⟩ = some (.int .i16 v)) (h1 : -32768 ≤ v) (h2 : v < 32768) :
    Calls Try.prog 83 #[.pointer (some ⟨c, 0, none⟩), .int .i64 i] w fun e w' => e = .returned (.tuple #[.int .i64 v, .int .i64 0]) ∧ Kept Nil w w' := by
  have na := na16_get
  have me := me16_get
  go_enter Try.func83, Try.ntmps83
  go_wp2_with (go_at_call 135; refine hw.mono ?_; clear hw; rintro e w1 ⟨rfl, hk⟩; have h' := (World.cell?_of_block (hk.block c hcl id)).trans h; have hc' := (World.cell?_of_block (a := ⟨r, i, none⟩) (hk.block r hrl id)).trans hc; have hrl' := Nat.lt_of_lt_of_le hrl hk.size)
  go_wp2_with (go_at_call 174; refine (get16 r n i v w1 hi hrl' hc' h1 h2).mono ?_; rintro e w2 ⟨rfl, hk2⟩)
  go_ret2
  exact ⟨rfl, hk.trans hk2 (fun _ _ h => h)⟩

theorem get_any (c r log i : Nat) (v : Int) (cs : List Int) (w : World) (h : CellsAt w c r log cs) (hv : cs[i]? = some v) :
    Calls Try.prog 83 #[.pointer (some ⟨c, 0, none⟩), .int .i64 i] w fun e w' => e = .returned (.tuple #[.int .i64 v, .int .i64 0]) ∧ Kept Nil w w' := by
  have hi : i < 2 ^ log := by rw [← h.len]; exact (List.getElem?_eq_some_iff.1 hv).1
  have hw := wrong_any c r log i cs w h hi
  have h1 : w.cell? ⟨c, 1, none⟩ = some (rowVal log r) := h.head.cell 1
  have h2 : w.cell? ⟨r, i, none⟩ = some (.int (rowKind log) v) := by rw [h.row.cell]; simp [hv]
  have hfit := h.fit i v hv
  have hle := room_le log
  have hle2 := le_two log h.hi
  unfold rowKind at h2
  by_cases hl : log ≤ 7
  · rw [rowVal_8 hl] at h1; rw [if_pos hl] at h2
    have := room_fit log hl
    exact getC8 c r _ i v w hi h.head.lt h.row.lt hw h1 h2 (by omega) (by omega)
  · rw [rowVal_16 hl] at h1; rw [if_neg hl] at h2
    exact getC16 c r _ i v w hi h.head.lt h.row.lt hw h1 h2 (by omega) (by omega)

set_option maxHeartbeats 400000 in
theorem may_any (c r log : Nat) (v : Int) (cs : List Int) (w : World) (h : CellsAt w c r log cs) (h1 : -2 ≤ v) (h2 : v < (room log : Int)) :
    Calls Try.prog 143 #[.pointer (some ⟨c, 0, none⟩), .int .i64 v] w fun e w' => e = .returned (.bool true) ∧ Kept Nil w w' := by
  have hr := room_any c r log cs w h
  have hle := le_two log h.hi
  have hle2 := room_le log
  obtain ⟨n, hn⟩ : ∃ n, n = room log := ⟨_, rfl⟩
  rw [← hn] at hr h2 hle2
  clear hn h
  by_cases ha : v = -1
  · subst ha
    go_enter Try.func143, Try.ntmps143
    go_wp2
    go_ret
    exact ⟨rfl, Kept.refl _ _⟩
  by_cases hb : v = -2
  · subst hb
    go_enter Try.func143, Try.ntmps143
    go_wp2
    go_ret
    exact ⟨rfl, Kept.refl _ _⟩
  have hv : 0 ≤ v := by omega
  go_enter Try.func143, Try.ntmps143
  go_wp2_with (go_at_call 107; refine hr.mono ?_; clear hr; rintro e w' ⟨rfl, hk⟩)
  go_ret
  exact ⟨rfl, hk⟩

set_option maxHeartbeats 400000 in
theorem setC8 (c r n i : Nat) (v : Int) (cs : List Int) (w : World) (hi : i < n) (hcl : c < w.heap.size)
    (hw : Calls Try.prog 135 #[.pointer (some ⟨c, 0, none⟩), .int .i64 i] w fun e w' => e = .returned (.int .i64 0) ∧ Kept Nil w w')
    (hm : ∀ w1, Kept Nil w w1 → Calls Try.prog 143 #[.pointer (some ⟨c, 0, none⟩), .int .i64 v] w1 fun e w' => e = .returned (.bool true) ∧ Kept Nil w1 w')
    (h : w.cell? ⟨c, 1, none⟩ = some (.iface 214 (.agg #[.slice (some ⟨r, 0, none⟩) n n, .int .i64 1])))
    (hb : Blk w r 237 (cs.map (Value.int .i8))) (hcs : cs.length = n) (h1 : -128 ≤ v) (h2 : v < 128) :
    Calls Try.prog 112 #[.pointer (some ⟨c, 0, none⟩), .int .i64 i, .int .i64 v] w fun e w' => e = .returned (.int .i64 0) ∧ Blk w' r 237 ((cs.set i v).map (Value.int .i8)) ∧ Kept (fun b => b = r) w w' := by
  have na := na8_set
  have me := me8_set
  have HM := hid hm
  clear hm
  go_enter Try.func112, Try.ntmps112
  go_wp2_with (go_at_call 135; refine hw.mono ?_; clear hw; rintro e w1 ⟨rfl, hk⟩)
  go_wp2_with (go_at_call 143; refine (HM.out w1 hk).mono ?_; rintro e w2 ⟨rfl, hk2⟩; have hk3 := hk.trans hk2 (fun _ _ h => h); have h' := (World.cell?_of_block (hk3.block c hcl id)).trans h; have hb' := hb.kept hk3 id)
  go_wp2_with (go_at_call 172; refine (set8 r n i v cs w2 hi hb' hcs h1 h2).mono ?_; rintro e w3 ⟨rfl, hb3, hk4⟩)
  go_ret
  exact ⟨rfl, hb3, (hk3.mono (fun _ _ h => h.elim)).trans hk4 (fun _ _ h => h)⟩
set_option maxHeartbeats 400000 in
theorem setC16 (c r n i : Nat) (v : Int) (cs : List Int) (w : World) (hi : i < n) (hcl : c < w.heap.size)
    (hw : Calls Try.prog 135 #[.pointer (some ⟨c, 0, none⟩), .int .i64 i] w fun e w' => e = .returned (.int .i64 0) ∧ Kept Nil w w')
    (hm : ∀ w1, Kept Nil w w1 → Calls Try.prog 143 #[.pointer (some ⟨c, 0, none⟩), .int .i64 v] w1 fun e w' => e = .returned (.bool true) ∧ Kept Nil w1 w')
    (h : w.cell? ⟨c, 1, none⟩ = some (.iface 217 (.agg #[.slice (some ⟨r, 0, none⟩) n n, .int .i64 2])))
    (hb : Blk w r 238 (cs.map (Value.int .i16))) (hcs : cs.length = n) (h1 : -32768 ≤ v) (h2 : v < 32768) :
    Calls Try.prog 112 #[.pointer (some ⟨c, 0, none⟩), .int .i64 i, .int .i64 v] w fun e w' => e = .returned (.int .i64 0) ∧ Blk w' r 238 ((cs.set i v).map (Value.int .i16)) ∧ Kept (fun b => b = r) w w' := by
  have na := na16_set
  have me := me16_set
  have HM := hid hm
  clear hm
  go_enter Try.func112, Try.ntmps112
  go_wp2_with (go_at_call 135; refine hw.mono ?_; clear hw; rintro e w1 ⟨rfl, hk⟩)
  go_wp2_with (go_at_call 143; refine (HM.out w1 hk).mono ?_; rintro e w2 ⟨rfl, hk2⟩; have hk3 := hk.trans hk2 (fun _ _ h => h); have h' := (World.cell?_of_block (hk3.block c hcl id)).trans h; have hb' := hb.kept hk3 id)
  go_wp2_with (go_at_call 176; refine (set16 r n i v cs w2 hi hb' hcs h1 h2).mono ?_; rintro e w3 ⟨rfl, hb3, hk4⟩)
  go_ret
  exact ⟨rfl, hb3, (hk3.mono (fun _ _ h => h.elim)).trans hk4 (fun _ _ h => h)⟩

theorem set_any (c r log i : Nat) (v : Int) (cs : List Int) (w : World) (h : CellsAt w c r log cs) (hi : i < 2 ^ log) (h1 : -2 ≤ v) (h2 : v < (room log : Int)) :
    Calls Try.prog 112 #[.pointer (some ⟨c, 0, none⟩), .int .i64 i, .int .i64 v] w fun e w' => e = .returned (.int .i64 0) ∧ CellsAt w' c r log (cs.set i v) ∧ Kept (fun b => b = r) w w' := by
  have hw := wrong_any c r log i cs w h hi
  have hm : ∀ w1, Kept Nil w w1 → Calls Try.prog 143 #[.pointer (some ⟨c, 0, none⟩), .int .i64 v] w1 fun e w' => e = .returned (.bool true) ∧ Kept Nil w1 w' :=
    fun w1 hk => may_any c r log v cs w1 (h.kept hk id id) h1 h2
  have hc1 : w.cell? ⟨c, 1, none⟩ = some (rowVal log r) := h.head.cell 1
  have hrow := h.row
  have hle := room_le log
  have hle2 := le_two log h.hi
  have hne := h.ne
  have fin : ∀ (e : Ending) (w' : World), (e = .returned (.int .i64 0) ∧ Blk w' r (rowElem log) ((cs.set i v).map (Value.int (rowKind log))) ∧ Kept (fun b => b = r) w w') →
      e = .returned (.int .i64 0) ∧ CellsAt w' c r log (cs.set i v) ∧ Kept (fun b => b = r) w w' := by
    rintro e w' ⟨he, hb, hk⟩
    refine ⟨he, ⟨h.head.kept hk hne, hb, by simpa using h.len, h.lo, h.hi, ?_⟩, hk⟩
    intro j u hu
    rw [List.getElem?_set] at hu
    split at hu
    · split at hu
      · simp at hu; subst hu; exact ⟨h1, h2⟩
      · cases hu
    · exact h.fit j u hu
  unfold rowElem rowKind at hrow fin
  by_cases hl : log ≤ 7
  · rw [rowVal_8 hl] at hc1; rw [if_pos hl, if_pos hl] at hrow
    have := room_fit log hl
    refine (setC8 c r _ i v cs w hi h.head.lt hw hm hc1 hrow h.len (by omega) (by omega)).mono ?_
    rw [if_pos hl, if_pos hl] at fin
    exact fin
  · rw [rowVal_16 hl] at hc1; rw [if_neg hl, if_neg hl] at hrow
    refine (setC16 c r _ i v cs w hi h.head.lt hw hm hc1 hrow h.len (by omega) (by omega)).mono ?_
    rw [if_neg hl, if_neg hl] at fin
    exact fin

theorem wrap_pow (log : Nat) (h : log ≤ 15) : wrap64 ((2 : Int) ^ log) = ((2 ^ log : Nat) : Int) := by
  have hle := le_two log h
  have : ((2 : Int) ^ log) = ((2 ^ log : Nat) : Int) := by simp
  rw [this]; clear this; generalize 2 ^ log = n at *; unfold wrap64; omega
theorem made_row (n : Nat) (v : Value) : madeCells #[v] n = (List.replicate n v).toArray := by
  apply Array.ext
  · simp [size_madeCells]
  · intro i h1 h2
    simp [madeCells, Nat.mod_one]
/-- k cells of -1, the others as they were made. -/
def fill (n k : Nat) : List Int := List.replicate k (-1) ++ List.replicate (n - k) 0
theorem fill_len (n k : Nat) (h : k ≤ n) : (fill n k).length = n := by simp [fill]; omega
theorem fill_set (n k : Nat) (h : k < n) : (fill n k).set k (-1) = fill n (k + 1) := by
  unfold fill
  rw [show n - k = (n - (k + 1)) + 1 by omega, List.replicate_succ (n := n - (k + 1))]
  rw [List.set_append_right _ _ (by simp)]
  simp [List.replicate_succ']
theorem fill_end (n : Nat) : fill n n = List.replicate n (-1) := by simp [fill]

theorem Try.infoI8 : (Try.prog.info? 237).map (fun i => (i.zero, i.size, i.bytes)) = some (some (.int .i8 0), 1, 1) := by kernel_rfl
set_option maxRecDepth 100000 in
set_option maxHeartbeats 400000 in
theorem made8 (log : Nat) (w : World) (h7 : log ≤ 7) (h15 : log ≤ 15) :
    Calls Try.prog 152 #[.int .i64 log] w fun e w' => e = .returned (.iface 214 (.agg #[.slice (some ⟨w.heap.size, 0, none⟩) (2 ^ log) (2 ^ log), .int .i64 1])) ∧ w.alloc (.cells (List.replicate (2 ^ log) (.int .i8 0)).toArray 237) = w' := by
  have hs := wrap_pow log (by omega)
  have hle := le_two log h15
  have hmk := Go.run_make_row' (P := Try.prog) 212 237 (.int .i8 0) 1 Try.underlying212 Try.infoI8 rfl .i64 .i64 (2 ^ log) (by omega) (by omega) w
  rw [made_row] at hmk
  generalize 2 ^ log = n at *
  go_enter Try.func152, Try.ntmps152
  go_wp2
  go_ret
  exact ⟨rfl, rfl⟩
set_option maxHeartbeats 1000000 in
theorem new8 (log : Nat) (w : World) (h7 : log ≤ 7) (h3 : 3 ≤ log) (h15 : log ≤ 15) :
    Calls Try.prog 133 #[.int .i64 log] w fun e w' => e = .returned (.tuple #[.pointer (some ⟨w.heap.size + 1, 0, none⟩), .int .i64 0]) ∧ CellsAt w' (w.heap.size + 1) w.heap.size log (List.replicate (2 ^ log) (-1)) ∧ Kept Nil w w' := by
  have hm := made8 log w h7 h15
  have na := na8_len
  have me := me8_len
  have na2 := na8_set
  have me2 := me8_set
  have hle := le_two log h15
  have hW := rowVal_8 h7 w.heap.size
  have HW := hid hW
  clear hW
  obtain ⟨n, hn⟩ : ∃ n, n = 2 ^ log := ⟨_, rfl⟩
  rw [← hn] at hle hm
  have HN := hid hn
  clear hn
  go_enter Try.func133, Try.ntmps133
  go_wp2_with (first | (go_at_call 152; refine hm.mono ?_; clear hm; rintro e w1 ⟨rfl, rfl⟩) | (go_at_call 171; refine (len8 _ n _).mono ?_; rintro e w2 ⟨rfl, hk2⟩))
  obtain ⟨W, hW⟩ : ∃ W, W = (w.alloc (.cells (List.replicate n (Value.int .i8 0)).toArray 237)).alloc (.cells #[.int .i64 log, .iface 214 (.agg #[.slice (some ⟨w.heap.size, 0, none⟩) n n, .int .i64 1])] 196) := ⟨_, rfl⟩
  have hb1 : Blk W (w.heap.size + 1) 196 [.int .i64 log, .iface 214 (.agg #[.slice (some ⟨w.heap.size, 0, none⟩) n n, .int .i64 1])] := by
    rw [hW]; have := Blk.new (w.alloc (.cells (List.replicate n (Value.int .i8 0)).toArray 237)) 196 [.int .i64 log, .iface 214 (.agg #[.slice (some ⟨w.heap.size, 0, none⟩) n n, .int .i64 1])]
    simpa using this
  have hb2 : Blk W w.heap.size 237 ((fill n 0).map (Value.int .i8)) := by
    rw [hW]; have := (Blk.new w 237 (List.replicate n (Value.int .i8 0))).alloc (.cells #[.int .i64 log, .iface 214 (.agg #[.slice (some ⟨w.heap.size, 0, none⟩) n n, .int .i64 1])] 196)
    simpa [fill] using this
  have hk1 : Kept Nil w W := by rw [hW]; exact ((Kept.refl _ w).alloc _).alloc _
  have hk2' : Kept Nil W w2 := by rw [hW]; simpa using hk2
  clear hW hk2
  replace hb1 := hb1.kept hk2' id
  replace hb2 := hb2.kept hk2' id
  have hk := hk1.trans hk2' (fun _ _ h => h)
  clear hk1 hk2' W
  have hlt := hb2.lt
  go_loopw [5, 22] (fun _ i wr => ∃ k : Nat, k ≤ n ∧ i = .int .i64 k ∧ Blk wr (w.heap.size + 1) 196 [.int .i64 log, .iface 214 (.agg #[.slice (some ⟨w.heap.size, 0, none⟩) n n, .int .i64 1])] ∧ Blk wr w.heap.size 237 ((fill n k).map (Value.int .i8)) ∧ Kept Nil w wr) (fun _ i _ => n - (intOf i).toNat)
  case atStart => exact ⟨0, Nat.zero_le _, rfl, hb1, hb2, hk⟩
  case round =>
    clear hb1 hb2 hk hlt
    obtain ⟨k, hkn, rfl, hc, hr, hk⟩ := hrel
    by_cases hlt : k < n
    · have hc1 : wr.cell? ⟨w.heap.size + 1, 1, none⟩ = some (.iface 214 (.agg #[.slice (some ⟨w.heap.size, 0, none⟩) n n, .int .i64 1])) := hc.cell 1
      go_wp2_with (go_at_call 172; refine (set8 w.heap.size n k (-1) (fill n k) wr hlt hr (fill_len n k hkn) (by omega) (by omega)).mono ?_; rintro e w3 ⟨rfl, hr3, hk3⟩)
      go_roundw
      case rel =>
        rw [fill_set n k hlt] at hr3
        exact ⟨k + 1, by omega, by go_num, hc.kept hk3 (by simp), hr3, hk.trans hk3 (fun x hx h => by omega)⟩
      case measure => simp [intOf]; omega
    · obtain rfl : k = n := by omega
      rw [fill_end] at hr
      go_wp2
      go_ret2
      refine ⟨rfl, ?_, hk⟩
      have hn := HN.out
      refine ⟨by rw [HW.out, ← hn]; exact hc, ?_, by simp, h3, h15, ?_⟩
      · unfold rowElem rowKind; rw [← hn]; first | (rw [if_pos h7, if_pos h7]; exact hr) | (rw [if_neg h7, if_neg h7]; exact hr)
      · intro i v hv
        rw [List.getElem?_replicate] at hv
        split at hv
        · simp at hv; subst hv; have : 0 ≤ room log := Nat.zero_le _; omega
        · cases hv
theorem Try.infoI16 : (Try.prog.info? 238).map (fun i => (i.zero, i.size, i.bytes)) = some (some (.int .i16 0), 1, 2) := by kernel_rfl
set_option maxRecDepth 100000 in
set_option maxHeartbeats 400000 in
theorem made16 (log : Nat) (w : World) (h7 : ¬ log ≤ 7) (h15 : log ≤ 15) :
    Calls Try.prog 152 #[.int .i64 log] w fun e w' => e = .returned (.iface 217 (.agg #[.slice (some ⟨w.heap.size, 0, none⟩) (2 ^ log) (2 ^ log), .int .i64 2])) ∧ w.alloc (.cells (List.replicate (2 ^ log) (.int .i16 0)).toArray 238) = w' := by
  have hs := wrap_pow log (by omega)
  have hle := le_two log h15
  have hmk := Go.run_make_row' (P := Try.prog) 215 238 (.int .i16 0) 2 Try.underlying215 Try.infoI16 rfl .i64 .i64 (2 ^ log) (by omega) (by omega) w
  rw [made_row] at hmk
  generalize 2 ^ log = n at *
  go_enter Try.func152, Try.ntmps152
  go_wp2
  go_ret
  exact ⟨rfl, rfl⟩
set_option maxHeartbeats 1000000 in
theorem new16 (log : Nat) (w : World) (h7 : ¬ log ≤ 7) (h3 : 3 ≤ log) (h15 : log ≤ 15) :
    Calls Try.prog 133 #[.int .i64 log] w fun e w' => e = .returned (.tuple #[.pointer (some ⟨w.heap.size + 1, 0, none⟩), .int .i64 0]) ∧ CellsAt w' (w.heap.size + 1) w.heap.size log (List.replicate (2 ^ log) (-1)) ∧ Kept Nil w w' := by
  have hm := made16 log w h7 h15
  have na := na16_len
  have me := me16_len
  have na2 := na16_set
  have me2 := me16_set
  have hle := le_two log h15
  have hW := rowVal_16 h7 w.heap.size
  have HW := hid hW
  clear hW
  obtain ⟨n, hn⟩ : ∃ n, n = 2 ^ log := ⟨_, rfl⟩
  rw [← hn] at hle hm
  have HN := hid hn
  clear hn
  go_enter Try.func133, Try.ntmps133
  go_wp2_with (first | (go_at_call 152; refine hm.mono ?_; clear hm; rintro e w1 ⟨rfl, rfl⟩) | (go_at_call 175; refine (len16 _ n _).mono ?_; rintro e w2 ⟨rfl, hk2⟩))
  obtain ⟨W, hW⟩ : ∃ W, W = (w.alloc (.cells (List.replicate n (Value.int .i16 0)).toArray 238)).alloc (.cells #[.int .i64 log, .iface 217 (.agg #[.slice (some ⟨w.heap.size, 0, none⟩) n n, .int .i64 2])] 196) := ⟨_, rfl⟩
  have hb1 : Blk W (w.heap.size + 1) 196 [.int .i64 log, .iface 217 (.agg #[.slice (some ⟨w.heap.size, 0, none⟩) n n, .int .i64 2])] := by
    rw [hW]; have := Blk.new (w.alloc (.cells (List.replicate n (Value.int .i16 0)).toArray 238)) 196 [.int .i64 log, .iface 217 (.agg #[.slice (some ⟨w.heap.size, 0, none⟩) n n, .int .i64 2])]
    simpa using this
  have hb2 : Blk W w.heap.size 238 ((fill n 0).map (Value.int .i16)) := by
    rw [hW]; have := (Blk.new w 238 (List.replicate n (Value.int .i16 0))).alloc (.cells #[.int .i64 log, .iface 217 (.agg #[.slice (some ⟨w.heap.size, 0, none⟩) n n, .int .i64 2])] 196)
    simpa [fill] using this
  have hk1 : Kept Nil w W := by rw [hW]; exact ((Kept.refl _ w).alloc _).alloc _
  have hk2' : Kept Nil W w2 := by rw [hW]; simpa using hk2
  clear hW hk2
  replace hb1 := hb1.kept hk2' id
  replace hb2 := hb2.kept hk2' id
  have hk := hk1.trans hk2' (fun _ _ h => h)
  clear hk1 hk2' W
  have hlt := hb2.lt
  go_loopw [5, 22] (fun _ i wr => ∃ k : Nat, k ≤ n ∧ i = .int .i64 k ∧ Blk wr (w.heap.size + 1) 196 [.int .i64 log, .iface 217 (.agg #[.slice (some ⟨w.heap.size, 0, none⟩) n n, .int .i64 2])] ∧ Blk wr w.heap.size 238 ((fill n k).map (Value.int .i16)) ∧ Kept Nil w wr) (fun _ i _ => n - (intOf i).toNat)
  case atStart => exact ⟨0, Nat.zero_le _, rfl, hb1, hb2, hk⟩
  case round =>
    clear hb1 hb2 hk hlt
    obtain ⟨k, hkn, rfl, hc, hr, hk⟩ := hrel
    by_cases hlt : k < n
    · have hc1 : wr.cell? ⟨w.heap.size + 1, 1, none⟩ = some (.iface 217 (.agg #[.slice (some ⟨w.heap.size, 0, none⟩) n n, .int .i64 2])) := hc.cell 1
      go_wp2_with (go_at_call 176; refine (set16 w.heap.size n k (-1) (fill n k) wr hlt hr (fill_len n k hkn) (by omega) (by omega)).mono ?_; rintro e w3 ⟨rfl, hr3, hk3⟩)
      go_roundw
      case rel =>
        rw [fill_set n k hlt] at hr3
        exact ⟨k + 1, by omega, by go_num, hc.kept hk3 (by simp), hr3, hk.trans hk3 (fun x hx h => by omega)⟩
      case measure => simp [intOf]; omega
    · obtain rfl : k = n := by omega
      rw [fill_end] at hr
      go_wp2
      go_ret2
      refine ⟨rfl, ?_, hk⟩
      have hn := HN.out
      refine ⟨by rw [HW.out, ← hn]; exact hc, ?_, by simp, h3, h15, ?_⟩
      · unfold rowElem rowKind; rw [← hn]; first | (rw [if_pos h7, if_pos h7]; exact hr) | (rw [if_neg h7, if_neg h7]; exact hr)
      · intro i v hv
        rw [List.getElem?_replicate] at hv
        split at hv
        · simp at hv; subst hv; have : 0 ≤ room log := Nat.zero_le _; omega
        · cases hv

theorem new_any (log : Nat) (w : World) (h3 : 3 ≤ log) (h15 : log ≤ 15) :
    Calls Try.prog 133 #[.int .i64 log] w fun e w' => e = .returned (.tuple #[.pointer (some ⟨w.heap.size + 1, 0, none⟩), .int .i64 0]) ∧ CellsAt w' (w.heap.size + 1) w.heap.size log (List.replicate (2 ^ log) (-1)) ∧ Kept Nil w w' := by
  by_cases h7 : log ≤ 7
  · exact new8 log w h7 h3 h15
  · exact new16 log w h7 h3 h15

end Go.Proofs.Ytbbkljgeddjghaa
