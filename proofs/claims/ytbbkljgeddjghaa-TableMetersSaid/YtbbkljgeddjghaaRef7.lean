/-
  What is proved: walks of the document's answer for chapter 7: index, lay (the reference lays an entry as the program does).
-/
import Derived.Test.YtbbkljgeddjghaaRef6
namespace Go.Lx
/-- What is left of a hash behind so many shifts. -/
def tq (h : Int) (i : Nat) : Nat := u64 h / 32 ^ i
/-- One step along a trail. -/
def nx (log : Nat) : Nat → Nat × Nat → Nat × Nat
  | 0, s => s
  | j + 1, s => nx log j ((5 * s.1 + s.2 / 32 + 1) % 2 ^ log, s.2 / 32)
theorem nx_trail (log : Nat) (h : Int) (j i : Nat) : nx log j (tc log h i, u64 h / 32 ^ i) = (tc log h (i + j), u64 h / 32 ^ (i + j)) := by
  induction j generalizing i with
  | zero => rfl
  | succ j ih =>
    have e5 : u64 h / 32 ^ i / 32 = u64 h / 32 ^ (i + 1) := by rw [Nat.div_div_eq_div_mul, Nat.pow_succ]
    have := ih (i + 1)
    rw [tc_succ, ← e5] at this
    rw [nx, this, show i + 1 + j = i + (j + 1) by omega]
/-- How many steps it is to the next empty cell. -/
def stepsTo (cs : List Int) (log K c p : Nat) : Nat := ((List.range K).find? fun j => cs[(nx log j (c, p)).1]? == some (-1)).getD 0
theorem stepsTo_eq {cs : List Int} {log k i : Nat} {h : Int} (hi : i ≤ k) (hn : ∀ j, j < k → cs[tc log h j]? ≠ some (-1)) (hv : cs[tc log h k]? = some (-1)) : stepsTo cs log (k + 1) (tc log h i) (tq h i) = k - i := by
  unfold stepsTo tq
  have : (List.range (k + 1)).find? (fun j => cs[(nx log j (tc log h i, u64 h / 32 ^ i)).1]? == some (-1)) = some (k - i) := by
    rw [List.find?_eq_some_iff_append]
    refine ⟨?_, List.range (k - i), (List.range' (k - i + 1) (k + 1 - (k - i) - 1)), ?_, ?_⟩
    · rw [nx_trail, show i + (k - i) = k by omega]; simpa using hv
    · have : k + 1 = (k - i) + (1 + (k + 1 - (k - i) - 1)) := by omega
      conv => lhs; rw [this, List.range_eq_range', ← List.range'_append_1, ← List.range'_append_1]
      simp [List.range_eq_range']
    · intro j hj
      have := List.mem_range.1 hj
      rw [nx_trail]
      simpa using hn (i + j) (by omega)
  rw [this]; rfl
end Go.Lx
namespace Go.Proofs.Ytbbkljgeddjghaa
open Go.RowKit Go.Lx Go.Shelf
set_option linter.unusedVariables false
set_option linter.unusedSimpArgs false

/-- The reference's table at block b. -/
structure RefAt (w : World) (m : Option Nat) (b : Nat) (ev cv : Value) (T : Tab) : Prop where
  head : Blk w b 85 [ev, .int .i64 T.log, cv, .int .i64 T.live, .int .i64 T.births, .int .i64 T.made, .int .i64 T.turn, mptr m]
  ents : Row w 32 5 ev T.ents.length (flat T.ents)
  cells : Row w 3 1 cv T.cells.length (T.cells.map (Value.int .i64))
/-- What the reference's meter has counted. -/
def RMt (w : World) (m : Option Nat) (C : Cnt) : Prop :=
  match m with
  | none => True
  | some b => Blk w b 76 [.int .i64 C.tables, .int .i64 C.cells, .int .i64 C.values, .int .i64 C.shifts]
/-- The reference's own blocks. -/
def rown (b : Nat) (ev cv : Value) : Nat → Prop := fun x => x = b ∨ ev.ownBlock = some x ∨ cv.ownBlock = some x
theorem RefAt.lt {w : World} {m : Option Nat} {b : Nat} {ev cv : Value} {T : Tab} (h : RefAt w m b ev cv T) : ∀ x, rown b ev cv x → x < w.heap.size := by
  rintro x (rfl | hx | hx)
  · exact h.head.lt
  · exact h.ents.lt hx
  · exact h.cells.lt hx
theorem RefAt.kept {R : Nat → Prop} {w w' : World} {m : Option Nat} {b : Nat} {ev cv : Value} {T : Tab} (h : RefAt w m b ev cv T) (hk : Kept R w w') (hR : ∀ x, rown b ev cv x → ¬ R x) : RefAt w' m b ev cv T :=
  ⟨h.head.kept hk (hR _ (.inl rfl)), h.ents.kept hk (fun x hx => hR x (.inr (.inl hx))), h.cells.kept hk (fun x hx => hR x (.inr (.inr hx)))⟩
theorem RefAt.be {w : World} {m : Option Nat} {b : Nat} {ev cv : Value} {T : Tab} (h : RefAt w m b ev cv T) {x : Nat} (hx : ev.ownBlock = some x) : x ≠ b := by
  obtain ⟨c, hb⟩ := Row.blk h.ents hx
  exact hb.ne h.head (by decide)
theorem RefAt.bc {w : World} {m : Option Nat} {b : Nat} {ev cv : Value} {T : Tab} (h : RefAt w m b ev cv T) {x : Nat} (hx : cv.ownBlock = some x) : x ≠ b := by
  obtain ⟨c, hb⟩ := Row.blk h.cells hx
  exact hb.ne h.head (by decide)
theorem RefAt.ec {w : World} {m : Option Nat} {b : Nat} {ev cv : Value} {T : Tab} (h : RefAt w m b ev cv T) {x y : Nat} (hx : ev.ownBlock = some x) (hy : cv.ownBlock = some y) : x ≠ y := by
  obtain ⟨c, hb⟩ := Row.blk h.ents hx
  obtain ⟨c', hb'⟩ := Row.blk h.cells hy
  exact hb.ne hb' (by decide)
theorem RMt.kept {R : Nat → Prop} {w w' : World} {m : Option Nat} {C : Cnt} (h : RMt w m C) (hk : Kept R w w') (hR : ∀ b, m = some b → ¬ R b) : RMt w' m C := by
  cases m with
  | none => trivial
  | some b => exact Blk.kept h hk (hR b rfl)
theorem RMt.lt {w : World} {b : Nat} {C : Cnt} (h : RMt w (some b) C) : b < w.heap.size := Blk.lt (c := [.int .i64 C.tables, .int .i64 C.cells, .int .i64 C.values, .int .i64 C.shifts]) h

set_option maxRecDepth 100000 in
set_option maxHeartbeats 1000000 in
theorem index7_any (m : Option Nat) (C : Cnt) (b log : Nat) (ev cv : Value) (lg lv bi ma tu : Int) (w : World) (h3 : 3 ≤ log) (h15 : log ≤ 15) (hm : RMt w m C) (hma : 0 ≤ ma ∧ ma ≤ 1000000)
    (h : Blk w b 85 [ev, .int .i64 lg, cv, .int .i64 lv, .int .i64 bi, .int .i64 ma, .int .i64 tu, mptr m]) :
    Calls Try.prog 88 #[.pointer (some ⟨b, 0, none⟩), .int .i64 log] w fun e w' => e = .returned (.tuple #[]) ∧ ∃ g, w.heap.size ≤ g ∧
      Blk w' b 85 [ev, .int .i64 log, .slice (some ⟨g, 0, none⟩) (2 ^ log) (2 ^ log), .int .i64 lv, .int .i64 bi, .int .i64 (ma + 1), .int .i64 tu, mptr m] ∧
      Row w' 3 1 (.slice (some ⟨g, 0, none⟩) (2 ^ log) (2 ^ log)) (2 ^ log) ((blankC log).map (Value.int .i64)) ∧ RMt w' m C.table ∧ Kept (fun k => k = b ∨ m = some k) w w' := by
  have hnew := new6_any log w h3 h15
  obtain ⟨n, hn⟩ : ∃ n, n = 2 ^ log := ⟨_, rfl⟩
  rw [← hn] at hnew ⊢
  clear hn
  have hblt := h.lt
  cases m with
  | none =>
    unfold mptr at h ⊢
    dsimp only [Option.map_none] at h ⊢
    go_enter Try.func88, Try.ntmps88
    go_wp2_with (go_at_call 137; refine hnew.mono ?_; clear hnew; rintro e w1 ⟨g, rfl, hg, hrow, hk1⟩; have hb1 := h.kept hk1 id; have c1 : w1.cell? ⟨b, 1, none⟩ = some (.int .i64 lg) := hb1.cell 1; have c2 : w1.cell? ⟨b, 2, none⟩ = some cv := hb1.cell 2; have c5 : w1.cell? ⟨b, 5, none⟩ = some (.int .i64 ma) := hb1.cell 5; have c7 : w1.cell? ⟨b, 7, none⟩ = some (.pointer none) := hb1.cell 7; have f1 := hb1.frozen 1; have f2 := hb1.frozen 2; have f5 := hb1.frozen 5)
    go_end0
    refine ⟨rfl, g, hg, ((hb1.set 1 _).set 2 _).set 5 _, ?_, trivial, ?_⟩
    · have hne : ∀ x, (Value.slice (some ⟨g, 0, none⟩) n n).ownBlock = some x → x ≠ b := by
        intro x hx
        have e : g = x := by simpa [Value.ownBlock] using hx
        omega
      exact ((hrow.other (a := ⟨b, 1, none⟩) hne _).other (a := ⟨b, 2, none⟩) hne _).other (a := ⟨b, 5, none⟩) hne _
    · exact (((hk1.mono (R' := fun k => k = b ∨ none = some k) (fun _ _ h => h.elim)).setCell (p := ⟨b, 1, none⟩) (.inl (.inl rfl)) _).setCell (p := ⟨b, 2, none⟩) (.inl (.inl rfl)) _).setCell (p := ⟨b, 5, none⟩) (.inl (.inl rfl)) _
  | some mb =>
    have hM : Blk w mb 76 [.int .i64 C.tables, .int .i64 C.cells, .int .i64 C.values, .int .i64 C.shifts] := hm
    have hmb : mb ≠ b := hM.ne h (by decide)
    have hml := hM.lt
    unfold mptr at h ⊢
    dsimp only [Option.map_some] at h ⊢
    go_enter Try.func88, Try.ntmps88
    go_wp2_with (go_at_call 137; refine hnew.mono ?_; clear hnew; rintro e w1 ⟨g, rfl, hg, hrow, hk1⟩; have hb1 := h.kept hk1 id; have c1 : w1.cell? ⟨b, 1, none⟩ = some (.int .i64 lg) := hb1.cell 1; have c2 : w1.cell? ⟨b, 2, none⟩ = some cv := hb1.cell 2; have c5 : w1.cell? ⟨b, 5, none⟩ = some (.int .i64 ma) := hb1.cell 5; have c7 : w1.cell? ⟨b, 7, none⟩ = some (.pointer (some ⟨mb, 0, none⟩)) := hb1.cell 7; have f1 := hb1.frozen 1; have f2 := hb1.frozen 2; have f5 := hb1.frozen 5; have hM1 := hM.kept hk1 id; have m0 : w1.cell? ⟨mb, 0, none⟩ = some (.int .i64 C.tables) := hM1.cell 0; have mf := hM1.frozen 0)
    go_end0
    refine ⟨rfl, g, hg, (((hb1.set 1 _).set 2 _).set 5 _).other (a := ⟨mb, 0, none⟩) hmb.symm _, ?_, ?_, ?_⟩
    · have hne : ∀ x, (Value.slice (some ⟨g, 0, none⟩) n n).ownBlock = some x → x ≠ b := by
        intro x hx
        have e : g = x := by simpa [Value.ownBlock] using hx
        omega
      have hne2 : ∀ x, (Value.slice (some ⟨g, 0, none⟩) n n).ownBlock = some x → x ≠ mb := by
        intro x hx
        have e : g = x := by simpa [Value.ownBlock] using hx
        omega
      exact (((hrow.other (a := ⟨b, 1, none⟩) hne _).other (a := ⟨b, 2, none⟩) hne _).other (a := ⟨b, 5, none⟩) hne _).other (a := ⟨mb, 0, none⟩) hne2 _
    · exact (((hM1.other (a := ⟨b, 1, none⟩) hmb _).other (a := ⟨b, 2, none⟩) hmb _).other (a := ⟨b, 5, none⟩) hmb _).set 0 _
    · exact ((((hk1.mono (R' := fun k => k = b ∨ some mb = some k) (fun _ _ h => h.elim)).setCell (p := ⟨b, 1, none⟩) (.inl (.inl rfl)) _).setCell (p := ⟨b, 2, none⟩) (.inl (.inl rfl)) _).setCell (p := ⟨b, 5, none⟩) (.inl (.inl rfl)) _).setCell (p := ⟨mb, 0, none⟩) (.inl (.inr rfl)) _

set_option maxRecDepth 100000 in
set_option maxHeartbeats 1000000 in
theorem lay7_any (m : Option Nat) (b log k n : Nat) (ev cv : Value) (lv bi ma tu hash : Int) (cs : List Int) (w : World) (h15 : log ≤ 15) (hl : cs.length = 2 ^ log) (hne : ∀ j, j < k → cs[tc log hash j]? ≠ some (-1)) (hv : cs[tc log hash k]? = some (-1))
    (h : Blk w b 85 [ev, .int .i64 log, cv, .int .i64 lv, .int .i64 bi, .int .i64 ma, .int .i64 tu, mptr m]) (hrow : Row w 3 1 cv cs.length (cs.map (Value.int .i64))) :
    Calls Try.prog 90 #[.pointer (some ⟨b, 0, none⟩), .int .i64 hash, .int .i64 n] w fun e w' => e = .returned (.tuple #[]) ∧ Row w' 3 1 cv cs.length ((cs.set (tc log hash k) n).map (Value.int .i64)) ∧ Kept (fun x => cv.ownBlock = some x) w w' := by
  have hf := first5_any hash log w h15
  have hnx : ∀ i, Calls Try.prog 138 #[.int .i64 ((tc log hash i : Nat) : Int), .int .u64 ((tq hash i : Nat) : Int), .int .i64 log] w fun e w' => e = .returned (.tuple #[.int .i64 ((tc log hash (i + 1) : Nat) : Int), .int .u64 ((tq hash (i + 1) : Nat) : Int)]) ∧ w = w' := fun i => next5_any hash log i w h15
  have c1 : w.cell? ⟨b, 1, none⟩ = some (.int .i64 log) := h.cell 1
  have c2 : w.cell? ⟨b, 2, none⟩ = some cv := h.cell 2
  have e2 := u64_eq hash
  have hu : ((u64 hash : Nat) : Int) = ((tq hash 0 : Nat) : Int) := by simp [tq]
  have hpos := Nat.two_pow_pos log
  obtain ⟨g, cap, hsv, g1, g2⟩ : ∃ g cap, cv = .slice (some ⟨g, 0, none⟩) cs.length cap ∧ cs.length ≤ cap ∧ cap ≤ maxLen := by
    rcases hrow.form with ⟨_, h0, _⟩ | h
    · omega
    · exact h
  subst hsv
  have HF := hid hf
  have HNX := hid hnx
  have HNE := hid hne
  have HV := hid hv
  have HROW := hid hrow
  have HL := hid hl
  have HU := hid hu
  obtain ⟨N, hN⟩ : ∃ N, N = cs.length := ⟨_, rfl⟩
  rw [← hN] at c2
  have HN := hid hN
  clear hf hnx hne hv hrow hl h hu hN
  go_enter Try.func90, Try.ntmps90
  go_wp2_with (go_at_call 33; refine HF.out.mono ?_; rintro e w' ⟨rfl, rfl⟩)
  rw [HU.out]
  go_loopw [6, 7] (fun c p W => ∃ i : Nat, i ≤ k ∧ c = .int .i64 ((tc log hash i : Nat) : Int) ∧ p = .int .u64 ((tq hash i : Nat) : Int) ∧ W = w) (fun c p _ => stepsTo cs log (k + 1) (intOf c).toNat (intOf p).toNat)
  case atStart => exact ⟨0, Nat.zero_le _, rfl, rfl, rfl⟩
  case round =>
    obtain ⟨i, hi, rfl, rfl, hw⟩ := hrel
    subst hw
    have hlt : tc log hash i < N := by rw [HN.out, HL.out]; exact tc_lt _ _ _
    obtain ⟨v, hv⟩ : ∃ v, cs[tc log hash i]? = some v := ⟨_, List.getElem?_eq_getElem (by rw [← HN.out]; exact hlt)⟩
    have cv1 := HROW.out.cell (g := g) (j := tc log hash i) rfl (by rw [List.getElem?_map, hv]; rfl)
    have fz := HROW.out.frozen (g := g) rfl (tc log hash i)
    have hlt' : ((tc log hash i : Nat) : Int) < (N : Int) := by omega
    have hfinal : Row (wr.setCell ⟨g, tc log hash i, none⟩ (.int .i64 n)) 3 1 (.slice (some ⟨g, 0, none⟩) cs.length cap) cs.length ((cs.set (tc log hash i) n).map (Value.int .i64)) := by
      rw [List.map_set]; exact HROW.out.set rfl (by simpa [← HN.out] using hlt) _
    have HFI := hid hfinal
    have hnx := HNX.out i
    have hm1 := fun (hik : i ≤ k) => stepsTo_eq hik HNE.out HV.out
    have hm2 := fun (hik : i + 1 ≤ k) => stepsTo_eq hik HNE.out HV.out
    have HM1 := hid hm1
    have HM2 := hid hm2
    have HVV := hid hv
    clear hm1 hm2 hfinal hv
    by_cases hik : i = k
    · have hv1 : v = -1 := by have h1 := HVV.out; rw [hik, HV.out] at h1; simpa using h1.symm
      subst hv1
      have HIK := hid hik
      clear hik hnx
      go_wp2
      go_end0
      rw [← HIK.out]
      exact ⟨rfl, HFI.out, (Kept.refl (fun x => (Value.slice (some ⟨g, 0, none⟩) cs.length cap).ownBlock = some x) wr).setCell (p := ⟨g, tc log hash i, none⟩) (.inl rfl) _⟩
    · have hv1 : (v != -1) = true := by
        have h1 := HNE.out i (by omega)
        rw [HVV.out] at h1
        simpa using h1
      go_wp2_with (go_at_call 138; refine hnx.mono ?_; clear hnx; rintro e w' ⟨rfl, rfl⟩)
      go_roundw
      case rel => exact ⟨i + 1, by omega, rfl, rfl, trivial⟩
      case measure =>
        show stepsTo cs log (k + 1) (tc log hash (i + 1)) (tq hash (i + 1)) < stepsTo cs log (k + 1) (tc log hash i) (tq hash i)
        rw [HM1.out hi, HM2.out (by omega)]
        omega

end Go.Proofs.Ytbbkljgeddjghaa
