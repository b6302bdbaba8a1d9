/-
  What is proved: walks of lexiconlaw7: live, sight (at equal ones), awake.
-/
import Derived.Test.YtbbkljgeddjghaaApp
namespace Go.Proofs.Ytbbkljgeddjghaa
open Go.RowKit Go.Lx Go.Shelf
set_option linter.unusedVariables false

/-- The live ones of the first so many. -/
def liveUp (es : List Ent) (k : Nat) : List Ent := (es.take k).filter (·.live)
theorem liveUp_succ (es : List Ent) (k : Nat) (x : Ent) (hx : es[k]? = some x) : liveUp es (k + 1) = liveUp es k ++ (if x.live then [x] else []) := by
  unfold liveUp
  obtain ⟨hk, rfl⟩ := List.getElem?_eq_some_iff.1 hx
  rw [List.take_succ_eq_append_getElem hk, List.filter_append]
  simp [List.filter_cons]
theorem liveUp_le (es : List Ent) (k : Nat) : (liveUp es k).length ≤ k := Nat.le_trans (List.length_filter_le _ _) (by simp; omega)

set_option maxRecDepth 100000 in
set_option maxHeartbeats 1000000 in
theorem live_any (av : Value) (es : List Ent) (w : World) (hl : es.length ≤ 100000) (ha : Row w 32 5 av es.length (flat es)) :
    Calls Try.prog 27 #[av] w fun e w' => ∃ lv, e = .returned lv ∧ Row w' 32 5 lv (es.filter (·.live)).length (flat (es.filter (·.live))) ∧ (∀ b, lv.ownBlock = some b → w.heap.size ≤ b) ∧ Kept Nil w w' := by
  obtain ⟨a, ca, hav⟩ := Row.sliceOf ha
  have HA := hid ha
  obtain ⟨n, hn⟩ : ∃ n, n = es.length := ⟨_, rfl⟩
  rw [← hn] at hl hav
  have HN := hid hn
  have HAV := hid hav
  rw [hav]
  clear ha hn hav
  go_enter Try.func27, Try.ntmps27
  go_wp2
  go_loopw [3, 4] (fun lv i W => ∃ k : Nat, k ≤ n ∧ i = .int .i64 k ∧ Row W 32 5 lv (liveUp es k).length (flat (liveUp es k)) ∧ (∀ b, lv.ownBlock = some b → w.heap.size ≤ b) ∧ Kept Nil w W) (fun _ i _ => n - (intOf i).toNat)
  case atStart => exact ⟨0, Nat.zero_le _, rfl, Row.nil _ _ _, (fun b hb => (by cases hb)), Kept.refl _ _⟩
  case round =>
    obtain ⟨k, hk, rfl, hrow, hown, hkw⟩ := hrel
    by_cases hlt : k < n
    · obtain ⟨x, hx⟩ : ∃ x, es[k]? = some x := ⟨_, List.getElem?_eq_getElem (by have := HN.out; omega)⟩
      obtain ⟨g1, c1, hs1, q1, q2, hg1, e0, e1, e2, e3, e4⟩ := Row.entCells (HA.out.kept hkw (fun _ _ => id)) hx
      have ha : a = some ⟨g1, 0, none⟩ := by have := HAV.out; rw [hs1] at this; simp at this; exact this.1.symm
      subst ha
      have hlt' : (k : Int) < (n : Int) := by omega
      have hsucc := liveUp_succ es k x hx
      have hle := liveUp_le es k
      have HX := hid hx
      have HKW := hid hkw
      have HROW := hid hrow
      have HOWN := hid hown
      clear hkw hs1 hx hrow hown
      cases hxl : x.live with
      | false =>
        rw [hxl] at e0 hsucc
        have HS := hid hsucc
        clear hsucc hxl
        go_wp2
        go_roundw
        case rel =>
          have e5 : liveUp es (k + 1) = liveUp es k := by rw [HS.out]; simp
          exact ⟨k + 1, by omega, by go_num, by rw [e5]; exact HROW.out, HOWN.out, HKW.out⟩
        case measure => simp [intOf]; omega
      | true =>
        rw [hxl] at e0 hsucc
        have HS := hid hsucc
        have hvals : x.vals = [.bool true, .int .i64 x.hash, .int .i64 x.key, .int .i64 x.value, .int .i64 x.birth] := by unfold Ent.vals; rw [hxl]
        have SRC := hid (Src.new wr 32 [.bool true, .int .i64 x.hash, .int .i64 x.key, .int .i64 x.value, .int .i64 x.birth] 1 5 rfl (by simp [Value.oneCell']))
        have ROW := hid (HROW.out.alloc (.cells #[.bool true, .int .i64 x.hash, .int .i64 x.key, .int .i64 x.value, .int .i64 x.birth] 32))
        have HV := hid hvals
        clear hsucc hxl hvals
        obtain ⟨q, hq⟩ : ∃ q, q = (liveUp es k).length := ⟨_, rfl⟩
        have HQ := hid hq
        rw [← hq] at ROW hle
        clear hq
        go_wp2_with (at_builtin; refine wpList_app _ elemEntry rfl (.tmp 16) (.tmp 21) (by rfl) (v := u3) (by rfl) ROW.out (by rfl) SRC.out (by omega) ?_; intro v' w3 happ)
        go_roundw
        case rel =>
          have e5 : liveUp es (k + 1) = liveUp es k ++ [x] := by rw [HS.out]; simp
          refine ⟨k + 1, by omega, by go_num, ?_, ?_, ?_⟩
          · rw [e5, flat_append, List.length_append, ← HQ.out, show flat [x] = x.vals by simp [flat], HV.out]
            exact happ.row
          · exact happ.fresh (by have := HKW.out.size; simp; omega) HOWN.out
          · exact happ.grown (HKW.out.alloc _) (fun b hb => .inr (HOWN.out b hb))
        case measure => simp [intOf]; omega
    · obtain rfl : k = n := by omega
      go_wp2
      go_ret
      refine ⟨_, rfl, ?_, hown, hkw⟩
      have e : liveUp es k = es.filter (·.live) := by unfold liveUp; rw [HN.out, List.take_length]
      rw [← e]; exact hrow

/-- The value of a sight. -/
def sightV (log wd : Int) (csv esv : Value) (live births made : Int) : Value := .agg #[.int .i64 log, .int .i64 wd, csv, esv, .int .i64 live, .int .i64 births, .int .i64 made]
theorem Row.intCell {w : World} {sv : Value} {zs : List Int} (h : Row w 3 1 sv zs.length (zs.map (Value.int .i64))) {k : Nat} {z : Int} (hz : zs[k]? = some z) :
    ∃ g cap, sv = .slice (some ⟨g, 0, none⟩) zs.length cap ∧ zs.length ≤ cap ∧ cap ≤ maxLen ∧ g < w.heap.size ∧ w.cell? ⟨g, k, none⟩ = some (.int .i64 z) := by
  have hk : k < zs.length := (List.getElem?_eq_some_iff.1 hz).1
  rcases h.form with ⟨_, h0, _⟩ | ⟨g, cap, hsv, h1, h2⟩
  · omega
  · exact ⟨g, cap, hsv, h1, h2, h.lt (by rw [hsv]; rfl), h.cell (by rw [hsv]; rfl) (by simp [hz])⟩

set_option maxRecDepth 100000 in
set_option maxHeartbeats 4000000 in
theorem sight_same (log wd live births made : Int) (ac ae bc be : Value) (zs : List Int) (es : List Ent) (w : World) (hl : es.length ≤ 100000) (hz : zs.length ≤ 100000)
    (ha : Row w 32 5 ae es.length (flat es)) (hb : Row w 32 5 be es.length (flat es)) (hc : Row w 3 1 ac zs.length (zs.map (Value.int .i64))) (hd : Row w 3 1 bc zs.length (zs.map (Value.int .i64))) :
    Calls Try.prog 24 #[sightV log wd ac ae live births made, sightV log wd bc be live births made] w fun e w' => e = .returned (.bool true) ∧ Kept Nil w w' := by
  obtain ⟨a, ca, hav⟩ := Row.sliceOf hc
  obtain ⟨b, cb, hbv⟩ := Row.sliceOf hd
  obtain ⟨a1, ca1, hav1⟩ := Row.sliceOf ha
  obtain ⟨b1, cb1, hbv1⟩ := Row.sliceOf hb
  have hen := fun w' (hk : Kept Nil w w') => entries_same ae be es w' hl (ha.kept hk (fun _ _ => id)) (hb.kept hk (fun _ _ => id))
  rw [hav1, hbv1] at hen
  have HEN := hid hen
  have HC := hid hc
  have HD := hid hd
  obtain ⟨n, hn⟩ : ∃ n, n = zs.length := ⟨_, rfl⟩
  rw [← hn] at hz hav hbv
  have HN := hid hn
  have HAV := hid hav
  have HBV := hid hbv
  unfold sightV
  rw [hav, hbv, hav1, hbv1]
  clear ha hb hc hd hn hav hbv hen hav1 hbv1
  generalize es.length = ne at *
  go_enter Try.func24, Try.ntmps24
  obtain ⟨w0, hw0⟩ : ∃ w0, w0 = (w.alloc (.cells #[.int .i64 log, .int .i64 wd, .slice a n ca, .slice a1 ne ca1, .int .i64 live, .int .i64 births, .int .i64 made] 29)).alloc (.cells #[.int .i64 log, .int .i64 wd, .slice b n cb, .slice b1 ne cb1, .int .i64 live, .int .i64 births, .int .i64 made] 29) := ⟨_, rfl⟩
  have hk0 : Kept Nil w w0 := by rw [hw0]; exact ((Kept.refl _ w).alloc _).alloc _
  have hb1 : Blk w0 w.heap.size 29 [.int .i64 log, .int .i64 wd, .slice a n ca, .slice a1 ne ca1, .int .i64 live, .int .i64 births, .int .i64 made] := by rw [hw0]; exact (Blk.new w 29 _).alloc _
  have hb2 : Blk w0 (w.heap.size + 1) 29 [.int .i64 log, .int .i64 wd, .slice b n cb, .slice b1 ne cb1, .int .i64 live, .int .i64 births, .int .i64 made] := by
    rw [hw0]; simpa using Blk.new (w.alloc (.cells #[.int .i64 log, .int .i64 wd, .slice a n ca, .slice a1 ne ca1, .int .i64 live, .int .i64 births, .int .i64 made] 29)) 29 [.int .i64 log, .int .i64 wd, .slice b n cb, .slice b1 ne cb1, .int .i64 live, .int .i64 births, .int .i64 made]
  have HW0 := hid hw0
  have HK0 := hid hk0
  have HB1 := hid hb1
  have HB2 := hid hb2
  clear hw0 hk0 hb1 hb2
  go_wp2
  rw [← HW0.out]
  go_loopw [5] (fun i W => ∃ k : Nat, k ≤ n ∧ i = .int .i64 k ∧ Kept Nil w0 W) (fun i _ => n - (intOf i).toNat)
  case atStart => exact ⟨0, Nat.zero_le _, rfl, Kept.refl _ _⟩
  case round =>
    obtain ⟨k, hk, rfl, hkw⟩ := hrel
    have q2 : wr.cell? ⟨w.heap.size, 2, none⟩ = some (.slice a n ca) := (HB1.out.kept hkw id).cell 2
    have r2 : wr.cell? ⟨w.heap.size + 1, 2, none⟩ = some (.slice b n cb) := (HB2.out.kept hkw id).cell 2
    have q3 : wr.cell? ⟨w.heap.size, 3, none⟩ = some (.slice a1 ne ca1) := (HB1.out.kept hkw id).cell 3
    have r3 : wr.cell? ⟨w.heap.size + 1, 3, none⟩ = some (.slice b1 ne cb1) := (HB2.out.kept hkw id).cell 3
    have hkw' := HK0.out.trans hkw (fun _ _ h => h)
    by_cases hlt : k < n
    · obtain ⟨z, hz⟩ : ∃ z, zs[k]? = some z := ⟨_, List.getElem?_eq_getElem (by have := HN.out; omega)⟩
      obtain ⟨g1, c1, hs1, q1, q2', hg1, e0⟩ := Row.intCell (HC.out.kept hkw' (fun _ _ => id)) hz
      obtain ⟨g2, c2, hs2, q3', q4, hg2, f0⟩ := Row.intCell (HD.out.kept hkw' (fun _ _ => id)) hz
      have ha : a = some ⟨g1, 0, none⟩ := by have := HAV.out; rw [hs1] at this; simp at this; exact this.1.symm
      have hb : b = some ⟨g2, 0, none⟩ := by have := HBV.out; rw [hs2] at this; simp at this; exact this.1.symm
      subst ha
      subst hb
      clear hs1 hs2 hz
      have hlt' : (k : Int) < (n : Int) := by omega
      have hKW := hid hkw
      clear hkw hkw'
      go_wp2_with fail
      go_quiet (fail)
      go_wp2
      go_roundw
      case rel => exact ⟨k + 1, by omega, by go_num, hKW.out.drewN _⟩
      case measure => simp [intOf]; omega
    · obtain rfl : k = n := by omega
      have HKW := hid hkw'
      clear hkw hkw'
      go_wp2_with (go_at_call 26; refine (HEN.out _ HKW.out).mono ?_; rintro e w1 ⟨rfl, hk1⟩)
      go_ret
      exact ⟨rfl, HKW.out.trans hk1 (fun _ _ h => h)⟩

/-- The table of 'awake'. -/
def awake1 : Tab := Tab.new.add 5 10 20
def awake2 : Tab := awake1.add 5 11 21
theorem awake_facts : Tab.new.tight = false ∧ awake1.tight = false ∧ awake1.ents.length = 1 ∧ awake1.live = 1 ∧ awake1.count = 1 ∧ awake1.turn = 1 ∧ awake1.births = 1 ∧ awake1.made = 1 ∧ awake2.cells = [-1, -1, 1, -1, -1, 0, -1, -1] ∧ awake2.ents.length = 2 := by
  refine ⟨?_, ?_, ?_, ?_, ?_, ?_, ?_, ?_, ?_, ?_⟩ <;> decide +kernel
set_option maxRecDepth 100000 in
set_option maxHeartbeats 1000000 in
theorem awake_in (T0 T1 T2 : Tab) (w : World) (h0 : T0 = Tab.new) (h1 : T1 = T0.add 5 10 20) (h2 : T2 = T1.add 5 11 21) (f1 : T0.tight = false) (f2 : T1.tight = false) (f3 : T0.ents.length = 0) (f4 : T1.ents.length = 1)
    (a1 : T0.live = T0.count ∧ T0.live ≤ 10000 ∧ T0.turn ≤ 100000 ∧ T0.births ≤ 100000 ∧ T0.made ≤ 100000 ∧ T0.ents.length ≤ 30000) (a2 : T1.live = T1.count ∧ T1.live ≤ 10000 ∧ T1.turn ≤ 100000 ∧ T1.births ≤ 100000 ∧ T1.made ≤ 100000 ∧ T1.ents.length ≤ 30000)
    (f9 : T2.cells = [-1, -1, 1, -1, -1, 0, -1, -1]) (f10 : T2.ents.length ≤ 100000) : Calls Try.prog 21 #[] w fun e w' => e = .returned (.bool true) ∧ Kept Nil w w' := by
  have hnew := tabNew_any none ⟨0, 0, 0, 0⟩ w trivial
  rw [← h0] at hnew
  unfold mptr at hnew
  have hfd := Try.sightField2
  have G1 := hid h1
  have G2 := hid h2
  have F1 := hid f1
  have F2 := hid f2
  have F3 := hid f3
  have F4 := hid f4
  have F9 := hid f9
  have A1 := hid a1
  have A2 := hid a2
  clear h0 h1 h2 f1 f2 f3 f4 f9 a1 a2
  go_enter Try.func21, Try.ntmps21
  go_wp2_with (go_at_call 72; refine hnew.mono ?_; clear hnew; rintro e w1 ⟨t, c, r, rfl, ht, hc, hr, hT, -, hk1⟩)
  have H := hid hT
  have HK1 := hid hk1
  clear hT hk1
  have hadd1 := add_any none ⟨0, 0, 0, 0⟩ t c r (.slice none 0 0) T0 w1 5 10 20 H.out trivial A1.out.2.1 A1.out.2.2.1 A1.out.2.2.2.1 A1.out.2.2.2.2.1 A1.out.2.2.2.2.2 A1.out.1
  rw [F1.out, ← G1.out] at hadd1
  simp only [Bool.false_eq_true, if_false, F3.out] at hadd1
  go_at_call 42
  refine hadd1.mono ?_
  clear hadd1
  rintro e w2 ⟨rfl, c2, r2, sv2, hT2, ho2, -, hk2⟩
  have H2 := hid hT2
  have HK2 := hid hk2
  have HO2 := hid ho2
  clear hT2 hk2 ho2
  have hadd2 := add_any none ⟨0, 0, 0, 0⟩ t c2 r2 sv2 T1 w2 5 11 21 H2.out trivial A2.out.2.1 A2.out.2.2.1 A2.out.2.2.2.1 A2.out.2.2.2.2.1 A2.out.2.2.2.2.2 A2.out.1
  rw [F2.out, ← G2.out] at hadd2
  simp only [Bool.false_eq_true, if_false, F4.out] at hadd2
  go_wp2_with (go_at_call 42; refine hadd2.mono ?_; clear hadd2; rintro e w3 ⟨rfl, c3, r3, sv3, hT3, ho3, -, hk3⟩)
  have hsight := sight_any none t c3 r3 sv3 T2 w3 hT3 f10
  go_at_call 23
  refine hsight.mono ?_
  clear hsight
  rintro e w4 ⟨csv, esv, rfl, hrc, hcown, hre, -, hk4⟩
  obtain ⟨ea, ecap, rfl⟩ := Row.sliceOf hre
  clear hre
  have hlen : T2.cells.length = 8 := by rw [F9.out]; rfl
  rw [hlen] at hrc
  obtain ⟨a, cap, rfl⟩ := Row.sliceOf hrc
  obtain ⟨g, rfl⟩ : ∃ g, a = some ⟨g, 0, none⟩ := by
    rcases hrc.form with ⟨_, h, _⟩ | ⟨g, cap', h, _⟩
    · omega
    · simp at h; exact ⟨g, h.1⟩
  have e5 : w4.cell? ⟨g, 5, none⟩ = some (.int .i64 0) := hrc.cell rfl (by rw [F9.out]; rfl)
  have e2 : w4.cell? ⟨g, 2, none⟩ = some (.int .i64 1) := hrc.cell rfl (by rw [F9.out]; rfl)
  have hgl := World.block_lt_of_cell? _ _ e5
  have HK := hid (((HK1.out.mono (R' := fun b => w.heap.size ≤ b) (fun b hb h => by cases h)).trans HK2.out (fun b hb h => h.elim (fun h => by
      rcases h with h | h | h | h
      · omega
      · omega
      · omega
      · cases h) (fun h => by cases h))).trans hk3 (fun b hb h => h.elim (fun h => (HO2.out b h).elim (fun h => by
      rcases h with h | h | h | h
      · omega
      · omega
      · omega
      · cases h) (fun h => by have := HK1.out.size; omega)) (fun h => by cases h))|>.trans hk4 (fun b hb h => h.elim))
  clear hrc hcown hk4 hk3 hT3 hlen
  go_wp2
  go_ret
  exact ⟨rfl, (HK.out.mono (R' := Nil) (fun b hb h => absurd hb (by omega))).alloc _⟩
theorem awake_any (w : World) : Calls Try.prog 21 #[] w fun e w' => e = .returned (.bool true) ∧ Kept Nil w w' :=
  awake_in _ _ _ w rfl rfl rfl awake_facts.1 awake_facts.2.1 (by decide) awake_facts.2.2.1 (by refine ⟨?_, ?_, ?_, ?_, ?_, ?_⟩ <;> decide +kernel) (by refine ⟨?_, ?_, ?_, ?_, ?_, ?_⟩ <;> decide +kernel) awake_facts.2.2.2.2.2.2.2.2.1 (by decide +kernel)

end Go.Proofs.Ytbbkljgeddjghaa
