/-
  What is proved: walks of the document's answer for chapter 7: all (the live entries laid anew), All, Numbers.
-/
import Derived.Test.YtbbkljgeddjghaaRef7
namespace Go.Lx
/-- The cells when the first so many entries are laid. -/
def layUp (log : Nat) (es : List Ent) (i : Nat) : List Int := layFrom log (es.take i) 0 (blankC log)
theorem layFrom_append (log : Nat) : ∀ (a b : List Ent) (n : Nat) (cs : List Int), layFrom log (a ++ b) n cs = layFrom log b (n + a.length) (layFrom log a n cs)
  | [], b, n, cs => by simp [layFrom]
  | x :: a, b, n, cs => by
    rw [List.cons_append, layFrom, layFrom, layFrom_append log a b]
    congr 1
    simp; omega
theorem layUp_succ (log : Nat) (es : List Ent) (i : Nat) (x : Ent) (hx : es[i]? = some x) : layUp log es (i + 1) = layCells (layUp log es i) log x.hash i := by
  unfold layUp
  obtain ⟨hi, rfl⟩ := List.getElem?_eq_some_iff.1 hx
  rw [List.take_succ_eq_append_getElem hi, layFrom_append]
  have : 0 + (es.take i).length = i := by simp; omega
  rw [this]; rfl
theorem layUp_cg (log : Nat) (es : List Ent) (i : Nat) (hall : ∀ x ∈ es, x.live = true) (hl : es.length ≤ 2 ^ log) : CG log (es.take i) (layUp log es i) := by
  have := CG.layFrom (es.take i) [] _ (CG.blank log) (fun x hx => hall x (List.mem_of_mem_take hx)) (by simp; omega)
  simpa [layUp] using this
end Go.Lx
namespace Go.Proofs.Ytbbkljgeddjghaa
open Go.RowKit Go.Lx Go.Shelf
set_option linter.unusedVariables false
set_option linter.unusedSimpArgs false

set_option maxRecDepth 100000 in
set_option maxHeartbeats 2000000 in
theorem all7_any (m : Option Nat) (C : Cnt) (b log : Nat) (ev cv : Value) (T : Tab) (w : World) (h : RefAt w m b ev cv T) (hm : RMt w m C) (h3 : 3 ≤ log) (h15 : log ≤ 15) (hlen : T.ents.length ≤ 100000) (hll : T.lives.length ≤ 2 ^ log) (hma : T.made ≤ 100000) :
    Calls Try.prog 139 #[.pointer (some ⟨b, 0, none⟩), .int .i64 log] w fun e w' => e = .returned (.tuple #[]) ∧ ∃ ev' cv', RefAt w' m b ev' cv' { T with ents := T.lives, cells := layFrom log T.lives 0 (blankC log), log := log, made := T.made + 1 } ∧
      (∀ x, rown b ev' cv' x → x = b ∨ w.heap.size ≤ x) ∧ RMt w' m C.table ∧ Kept (fun x => x = b ∨ m = some x) w w' := by
  have hidx := index7_any m C b log ev cv T.log T.live T.births T.made T.turn w h3 h15 hm (by omega) h.head
  have hme : ∀ x, ev.ownBlock = some x → ¬ (x = b ∨ m = some x) := by
    rintro x hx (e | e)
    · exact h.be hx e
    · subst e
      obtain ⟨c, hb⟩ := Row.blk h.ents hx
      exact Blk.ne (c := [.int .i64 C.tables, .int .i64 C.cells, .int .i64 C.values, .int .i64 C.shifts]) hm hb (by decide) rfl
  have hmb : m ≠ some b := by
    rintro rfl
    exact Blk.ne (c := [.int .i64 C.tables, .int .i64 C.cells, .int .i64 C.values, .int .i64 C.shifts]) hm h.head (by decide) rfl
  have hblt := h.head.lt
  obtain ⟨a, ecap, hev⟩ := Row.sliceOf h.ents
  obtain ⟨n, hn⟩ : ∃ n, n = T.ents.length := ⟨_, rfl⟩
  rw [← hn] at hev hlen
  have HE := hid h.ents
  have HN := hid hn
  have HEV := hid hev
  have HME := hid hme
  have HM := hid hm
  clear hme hn hev h hm
  go_enter Try.func139, Try.ntmps139
  go_wp2_with (go_at_call 88; refine hidx.mono ?_; clear hidx; rintro e w1 ⟨rfl, g, hg, hb1, hrow1, hm1, hk1⟩; rw [HEV.out] at hb1; have c0 : w1.cell? ⟨b, 0, none⟩ = some (.slice a n ecap) := hb1.cell 0)
  have HB1 := hid hb1
  have HROW1 := hid hrow1
  have HM1 := hid hm1
  have HK1 := hid hk1
  have HE1 := hid (HE.out.kept hk1 HME.out)
  have hsz1 := hk1.size
  clear hb1 hrow1 hm1 hk1 HE c0
  go_loopw [4, 5] (fun lv i W => ∃ k : Nat, k ≤ n ∧ i = .int .i64 k ∧ Row W 32 5 lv (liveUp T.ents k).length (flat (liveUp T.ents k)) ∧ (∀ x, lv.ownBlock = some x → w1.heap.size ≤ x) ∧ Kept Nil w1 W) (fun _ i _ => n - (intOf i).toNat)
  case atStart => exact ⟨0, Nat.zero_le _, rfl, Row.nil _ _ _, (fun b hb => (by cases hb)), Kept.refl _ _⟩
  case round =>
    obtain ⟨k, hk, rfl, hrow, hown, hkw⟩ := hrel
    have hb1 := HB1.out.kept hkw id
    have c0 : wr.cell? ⟨b, 0, none⟩ = some (.slice a n ecap) := hb1.cell 0
    have f0 := hb1.frozen 0
    by_cases hlt : k < n
    · obtain ⟨x, hx⟩ : ∃ x, T.ents[k]? = some x := ⟨_, List.getElem?_eq_getElem (by have := HN.out; omega)⟩
      obtain ⟨g1, cc1, hs1, q1, q2, hg1, e0, e1, e2, e3, e4⟩ := Row.entCells (HE1.out.kept hkw (fun _ _ => id)) hx
      have ha : a = some ⟨g1, 0, none⟩ := by have := HEV.out; rw [hs1] at this; simp at this; exact this.1.symm
      subst ha
      have hlt' : (k : Int) < (n : Int) := by omega
      have hsucc := liveUp_succ T.ents k x hx
      have hle := liveUp_le T.ents k
      have HX := hid hx
      have HKW := hid hkw
      have HROW := hid hrow
      have HOWN := hid hown
      clear hkw hs1 hx hrow hown hb1
      cases hxl : x.live with
      | false =>
        rw [hxl] at e0 hsucc
        have HS := hid hsucc
        clear hsucc hxl
        go_wp2
        go_roundw
        case rel =>
          have e5 : liveUp T.ents (k + 1) = liveUp T.ents k := by rw [HS.out]; simp
          exact ⟨k + 1, by omega, by go_num, by rw [e5]; exact HROW.out, HOWN.out, HKW.out⟩
        case measure => simp [intOf]; omega
      | true =>
        rw [hxl] at e0 hsucc
        have HS := hid hsucc
        have hvals : x.vals = [.bool true, .int .i64 x.hash, .int .i64 x.key, .int .i64 x.value, .int .i64 x.birth] := by unfold Ent.vals; rw [hxl]
        have SRC := hid (Src.new wr 32 [.bool true, .int .i64 x.hash, .int .i64 x.key, .int .i64 x.value, .int .i64 x.birth] 1 5 rfl (by simp [Value.oneCell']))
        have ROW := hid (HROW.out.alloc (.cells #[.bool true, .int .i64 x.hash, .int .i64 x.key, .int .i64 x.value, .int .i64 x.birth] 32))
        have HV := hid hvals
        clear hsucc hxl hvals
        obtain ⟨q, hq⟩ : ∃ q, q = (liveUp T.ents k).length := ⟨_, rfl⟩
        have HQ := hid hq
        rw [← hq] at ROW hle
        clear hq
        go_wp2_with (at_builtin; refine wpList_app _ elemEntry rfl _ _ rfl (v := u4) rfl ROW.out rfl SRC.out (by omega) ?_; intro v' w3 happ)
        go_roundw
        case rel =>
          have e5 : liveUp T.ents (k + 1) = liveUp T.ents k ++ [x] := by rw [HS.out]; simp
          refine ⟨k + 1, by omega, by go_num, ?_, ?_, ?_⟩
          · rw [e5, flat_append, List.length_append, ← HQ.out, show flat [x] = x.vals by simp [flat], HV.out]
            exact happ.row
          · exact happ.fresh (by have := HKW.out.size; simp; omega) HOWN.out
          · exact happ.grown (HKW.out.alloc _) (fun b hb => .inr (HOWN.out b hb))
        case measure => simp [intOf]; omega
    · obtain rfl : k = n := by omega
      have elv : liveUp T.ents k = T.lives := by unfold liveUp Tab.lives; rw [HN.out, List.take_length]
      rw [elv] at hrow
      obtain ⟨la, lcap, hlv⟩ := Row.sliceOf hrow
      subst hlv
      obtain ⟨q, hq⟩ : ∃ q, q = T.lives.length := ⟨_, rfl⟩
      have HQ := hid hq
      have hq5 : q ≤ 32768 := by rw [hq]; have := le_two log h15; omega
      have HB := hid hb1
      have HROW := hid hrow
      have HOWN := hid hown
      have HKW := hid hkw
      have HRC := hid (HROW1.out.kept hkw (fun _ _ => id))
      have HMX := hid (HM1.out.kept hkw (fun _ _ => id))
      rw [← hq]
      clear hb1 hrow hown hkw elv hq
      go_wp2
      obtain ⟨w2, hw2⟩ : ∃ w2, w2 = wr.setCell ⟨b, 0, none⟩ (.slice la q lcap) := ⟨_, rfl⟩
      rw [← hw2]
      have hb2 := HB.out.set 0 (.slice la q lcap)
      have hne0 : ∀ x, (Value.slice la T.lives.length lcap).ownBlock = some x → x ≠ b := fun x hx => by have := HOWN.out x hx; omega
      have hneg : ∀ x, (Value.slice (some ⟨g, 0, none⟩) (2 ^ log) (2 ^ log)).ownBlock = some x → x ≠ b := by
        intro x hx
        have e : g = x := by simpa [Value.ownBlock] using hx
        omega
      have hr2 := HROW.out.other (a := ⟨b, 0, none⟩) hne0 (.slice la q lcap)
      have hc2 := HRC.out.other (a := ⟨b, 0, none⟩) hneg (.slice la q lcap)
      have hm2 : RMt w2 m C.table := by rw [hw2]; exact HMX.out.kept (R := fun x => x = b) ((Kept.refl (fun x => x = b) wr).setCell (p := ⟨b, 0, none⟩) (.inl rfl) _) (fun x hx e => hmb (by rw [hx, e]))
      have hk2 : Kept (fun x => x = b ∨ m = some x) w w2 := by
        rw [hw2]
        exact (HK1.out.trans HKW.out (fun _ _ h => h.elim)).setCell (p := ⟨b, 0, none⟩) (.inl (.inl rfl)) _
      rw [← hw2] at hb2 hr2 hc2
      have HB2 := hid hb2
      have HR2 := hid hr2
      have HC2 := hid hc2
      have HM2 := hid hm2
      have HK2 := hid hk2
      have hgz : g < w2.heap.size := hc2.lt rfl
      have hall : ∀ x ∈ T.lives, x.live = true := fun x hx => (List.mem_filter.1 hx).2
      have HALL := hid hall
      clear hw2 hb2 hr2 hc2 hm2 hk2 hne0 hneg hall
      go_loopw [6] (fun i W => ∃ j : Nat, j ≤ q ∧ i = .int .i64 j ∧ Row W 3 1 (.slice (some ⟨g, 0, none⟩) (2 ^ log) (2 ^ log)) (2 ^ log) ((layUp log T.lives j).map (Value.int .i64)) ∧ Kept (fun x => x = g) w2 W) (fun i _ => q - (intOf i).toNat)
      case atStart => exact ⟨0, Nat.zero_le _, rfl, HC2.out, Kept.refl _ _⟩
      case round =>
        obtain ⟨j, hj, rfl, hrow, hkw⟩ := hrel
        have hbr := HB2.out.kept hkw (by omega)
        have hrr := HR2.out.kept hkw (fun x hx e => by
          subst e
          obtain ⟨c1, h1⟩ := Row.blk HR2.out hx
          obtain ⟨c2, h2⟩ := Row.blk HC2.out (g := x) rfl
          exact h1.ne h2 (by decide) rfl)
        have HBR := hid hbr
        have HRR := hid hrr
        have HRW := hid hrow
        have HKR := hid hkw
        clear hbr hrr hrow hkw
        by_cases hltj : j < q
        · obtain ⟨x, hx⟩ : ∃ x, T.lives[j]? = some x := ⟨_, List.getElem?_eq_getElem (by have := HQ.out; omega)⟩
          obtain ⟨g1, cc1, hs1, q1, q2, hg1, e0, e1, e2, e3, e4⟩ := Row.entCells HRR.out hx
          have hla : la = some ⟨g1, 0, none⟩ := by simp at hs1; exact hs1.1
          subst hla
          have hltj' : (j : Int) < (q : Int) := by omega
          have hcg := layUp_cg log T.lives j HALL.out hll
          obtain ⟨kk, hkk, hv, hne, hlc⟩ := hcg.lay_eq (by rw [List.length_take]; have := HQ.out; omega) x.hash j
          have hlay := lay7_any m b log kk j _ (.slice (some ⟨g, 0, none⟩) (2 ^ log) (2 ^ log)) _ _ _ _ x.hash (layUp log T.lives j) _ h15 hcg.len hne hv HBR.out (by rw [hcg.len]; exact HRW.out)
          rw [hcg.len, ← hlc, ← layUp_succ log T.lives j x hx] at hlay
          have HX := hid hx
          clear hs1 hx hcg hkk hv hne hlc
          go_wp2_with (go_at_call 90; refine hlay.mono ?_; clear hlay; rintro e w4 ⟨rfl, hrow4, hk4⟩)
          go_roundw
          case rel => exact ⟨j + 1, by omega, by go_num, hrow4, HKR.out.trans hk4 (fun x _ e => by simpa [Value.ownBlock] using e.symm)⟩
          case measure => simp [intOf]; omega
        · obtain rfl : j = q := by omega
          have hcg := layUp_cg log T.lives j HALL.out hll
          have efin : layUp log T.lives j = layFrom log T.lives 0 (blankC log) := by unfold layUp; rw [HQ.out, List.take_length]
          have hlen9 : (layFrom log T.lives 0 (blankC log)).length = 2 ^ log := by rw [← efin]; exact hcg.len
          go_wp2
          go_end0
          have hrr := HRR.out
          rw [← HQ.out] at hrr
          refine ⟨rfl, _, _, ⟨HBR.out, ?_, ?_⟩, ?_, ?_, ?_⟩
          · show Row _ _ _ _ T.lives.length (flat T.lives)
            rw [← HQ.out]; exact hrr
          · show Row _ _ _ _ (layFrom log T.lives 0 (blankC log)).length _
            rw [hlen9, ← efin]; exact HRW.out
          · rintro x (e | e | e)
            · exact .inl e
            · rw [HQ.out] at e; have := HOWN.out x e; exact .inr (by omega)
            · have e : g = x := by simpa [Value.ownBlock] using e
              exact .inr (by omega)
          · exact HM2.out.kept HKR.out (fun x hx e => by
              subst e; subst hx
              have hM : Blk w2 x 76 [.int .i64 C.table.tables, .int .i64 C.table.cells, .int .i64 C.table.values, .int .i64 C.table.shifts] := HM2.out
              obtain ⟨c2, h2⟩ := Row.blk HC2.out (g := x) rfl
              exact hM.ne h2 (by decide) rfl)
          · exact HK2.out.trans HKR.out (fun x hx e => absurd hx (by omega))

set_option maxRecDepth 100000 in
set_option maxHeartbeats 1000000 in
theorem All7_any (m : Option Nat) (b : Nat) (ev cv : Value) (T : Tab) (w : World) (h : RefAt w m b ev cv T) (hlen : T.ents.length ≤ 100000) :
    Calls Try.prog 89 #[.pointer (some ⟨b, 0, none⟩)] w fun e w' => ∃ lv, e = .returned lv ∧ Row w' 32 5 lv T.lives.length (flat T.lives) ∧ (∀ x, lv.ownBlock = some x → w.heap.size ≤ x) ∧ Kept Nil w w' := by
  obtain ⟨a, ecap, hev⟩ := Row.sliceOf h.ents
  obtain ⟨n, hn⟩ : ∃ n, n = T.ents.length := ⟨_, rfl⟩
  rw [← hn] at hev hlen
  have HE1 := hid h.ents
  have HN := hid hn
  have HEV := hid hev
  have hb1 := h.head
  rw [hev] at hb1
  have HB1 := hid hb1
  clear hn hev h hb1
  go_enter Try.func89, Try.ntmps89
  go_wp2
  go_loopw [3, 4] (fun lv i W => ∃ k : Nat, k ≤ n ∧ i = .int .i64 k ∧ Row W 32 5 lv (liveUp T.ents k).length (flat (liveUp T.ents k)) ∧ (∀ x, lv.ownBlock = some x → w.heap.size ≤ x) ∧ Kept Nil w W) (fun _ i _ => n - (intOf i).toNat)
  case atStart => exact ⟨0, Nat.zero_le _, rfl, Row.nil _ _ _, (fun b hb => (by cases hb)), Kept.refl _ _⟩
  case round =>
    obtain ⟨k, hk, rfl, hrow, hown, hkw⟩ := hrel
    have hb1 := HB1.out.kept hkw id
    have c0 : wr.cell? ⟨b, 0, none⟩ = some (.slice a n ecap) := hb1.cell 0
    have f0 := hb1.frozen 0
    by_cases hlt : k < n
    · obtain ⟨x, hx⟩ : ∃ x, T.ents[k]? = some x := ⟨_, List.getElem?_eq_getElem (by have := HN.out; omega)⟩
      obtain ⟨g1, cc1, hs1, q1, q2, hg1, e0, e1, e2, e3, e4⟩ := Row.entCells (HE1.out.kept hkw (fun _ _ => id)) hx
      have ha : a = some ⟨g1, 0, none⟩ := by have := HEV.out; rw [hs1] at this; simp at this; exact this.1.symm
      subst ha
      have hlt' : (k : Int) < (n : Int) := by omega
      have hsucc := liveUp_succ T.ents k x hx
      have hle := liveUp_le T.ents k
      have HX := hid hx
      have HKW := hid hkw
      have HROW := hid hrow
      have HOWN := hid hown
      clear hkw hs1 hx hrow hown hb1
      cases hxl : x.live with
      | false =>
        rw [hxl] at e0 hsucc
        have HS := hid hsucc
        clear hsucc hxl
        go_wp2
        go_roundw
        case rel =>
          have e5 : liveUp T.ents (k + 1) = liveUp T.ents k := by rw [HS.out]; simp
          exact ⟨k + 1, by omega, by go_num, by rw [e5]; exact HROW.out, HOWN.out, HKW.out⟩
        case measure => simp [intOf]; omega
      | true =>
        rw [hxl] at e0 hsucc
        have HS := hid hsucc
        have hvals : x.vals = [.bool true, .int .i64 x.hash, .int .i64 x.key, .int .i64 x.value, .int .i64 x.birth] := by unfold Ent.vals; rw [hxl]
        have SRC := hid (Src.new wr 32 [.bool true, .int .i64 x.hash, .int .i64 x.key, .int .i64 x.value, .int .i64 x.birth] 1 5 rfl (by simp [Value.oneCell']))
        have ROW := hid (HROW.out.alloc (.cells #[.bool true, .int .i64 x.hash, .int .i64 x.key, .int .i64 x.value, .int .i64 x.birth] 32))
        have HV := hid hvals
        clear hsucc hxl hvals
        obtain ⟨q, hq⟩ : ∃ q, q = (liveUp T.ents k).length := ⟨_, rfl⟩
        have HQ := hid hq
        rw [← hq] at ROW hle
        clear hq
        go_wp2_with (at_builtin; refine wpList_app _ elemEntry rfl _ _ rfl (v := u3) rfl ROW.out rfl SRC.out (by omega) ?_; intro v' w3 happ)
        go_roundw
        case rel =>
          have e5 : liveUp T.ents (k + 1) = liveUp T.ents k ++ [x] := by rw [HS.out]; simp
          refine ⟨k + 1, by omega, by go_num, ?_, ?_, ?_⟩
          · rw [e5, flat_append, List.length_append, ← HQ.out, show flat [x] = x.vals by simp [flat], HV.out]
            exact happ.row
          · exact happ.fresh (by have := HKW.out.size; simp; omega) HOWN.out
          · exact happ.grown (HKW.out.alloc _) (fun b hb => .inr (HOWN.out b hb))
        case measure => simp [intOf]; omega
    · obtain rfl : k = n := by omega
      go_wp2
      go_ret
      refine ⟨_, rfl, ?_, hown, hkw⟩
      have e : liveUp T.ents k = T.lives := by unfold liveUp Tab.lives; rw [HN.out, List.take_length]
      rw [← e]; exact hrow

set_option maxRecDepth 100000 in
set_option maxHeartbeats 1000000 in
theorem numbers7_any (m : Option Nat) (b : Nat) (ev cv : Value) (T : Tab) (w : World) (h : RefAt w m b ev cv T) (hlen : T.ents.length ≤ 100000) :
    Calls Try.prog 105 #[.pointer (some ⟨b, 0, none⟩)] w fun e w' => ∃ lv, e = .returned lv ∧ Row w' 3 1 lv (numsFrom T.ents 0).length ((numsFrom T.ents 0).map fun p => Value.int .i64 p.1) ∧ (∀ x, lv.ownBlock = some x → w.heap.size ≤ x) ∧ Kept Nil w w' := by
  obtain ⟨a, ecap, hev⟩ := Row.sliceOf h.ents
  obtain ⟨n, hn⟩ : ∃ n, n = T.ents.length := ⟨_, rfl⟩
  rw [← hn] at hev hlen
  have HE1 := hid h.ents
  have HN := hid hn
  have HEV := hid hev
  have hb1 := h.head
  rw [hev] at hb1
  have HB1 := hid hb1
  clear hn hev h hb1
  go_enter Try.func105, Try.ntmps105
  go_wp2
  go_loopw [3, 4] (fun lv i W => ∃ k : Nat, k ≤ n ∧ i = .int .i64 k ∧ Row W 3 1 lv (numsTo T.ents k).length ((numsTo T.ents k).map fun p => Value.int .i64 p.1) ∧ (∀ x, lv.ownBlock = some x → w.heap.size ≤ x) ∧ Kept Nil w W) (fun _ i _ => n - (intOf i).toNat)
  case atStart => exact ⟨0, Nat.zero_le _, rfl, Row.nil _ _ _, (fun b hb => (by cases hb)), Kept.refl _ _⟩
  case round =>
    obtain ⟨k, hk, rfl, hrow, hown, hkw⟩ := hrel
    have hb1 := HB1.out.kept hkw id
    have c0 : wr.cell? ⟨b, 0, none⟩ = some (.slice a n ecap) := hb1.cell 0
    have f0 := hb1.frozen 0
    by_cases hlt : k < n
    · obtain ⟨x, hx⟩ : ∃ x, T.ents[k]? = some x := ⟨_, List.getElem?_eq_getElem (by have := HN.out; omega)⟩
      obtain ⟨g1, cc1, hs1, q1, q2, hg1, e0, e1, e2, e3, e4⟩ := Row.entCells (HE1.out.kept hkw (fun _ _ => id)) hx
      have ha : a = some ⟨g1, 0, none⟩ := by have := HEV.out; rw [hs1] at this; simp at this; exact this.1.symm
      subst ha
      have hlt' : (k : Int) < (n : Int) := by omega
      have hsucc := numsTo_succ T.ents k x hx
      have hle : (numsTo T.ents k).length ≤ k := Nat.le_trans (numsFrom_le _ _) (by simp; omega)
      have HX := hid hx
      have HKW := hid hkw
      have HROW := hid hrow
      have HOWN := hid hown
      clear hkw hs1 hx hrow hown hb1
      cases hxl : x.live with
      | false =>
        rw [hxl] at e0 hsucc
        have HS := hid hsucc
        clear hsucc hxl
        go_wp2
        go_roundw
        case rel =>
          have e5 : numsTo T.ents (k + 1) = numsTo T.ents k := by rw [HS.out]; simp
          exact ⟨k + 1, by omega, by go_num, by rw [e5]; exact HROW.out, HOWN.out, HKW.out⟩
        case measure => simp [intOf]; omega
      | true =>
        rw [hxl] at e0 hsucc
        have HS := hid hsucc
        have SRC := hid (Src.new wr 3 [.int .i64 k] 1 1 rfl (by simp [Value.oneCell']))
        have ROW := hid (HROW.out.alloc (.cells #[.int .i64 k] 3))
        clear hsucc hxl
        obtain ⟨q, hq⟩ : ∃ q, q = (numsTo T.ents k).length := ⟨_, rfl⟩
        have HQ := hid hq
        rw [← hq] at ROW hle
        clear hq
        go_wp2_with (at_builtin; refine wpList_app _ elemInt rfl _ _ rfl (v := u3) rfl ROW.out rfl SRC.out (by omega) ?_; intro v' w3 happ)
        go_roundw
        case rel =>
          have e5 : numsTo T.ents (k + 1) = numsTo T.ents k ++ [(k, x)] := by rw [HS.out]; simp
          refine ⟨k + 1, by omega, by go_num, ?_, ?_, ?_⟩
          · rw [e5, List.map_append, List.length_append, ← HQ.out]
            exact happ.row
          · exact happ.fresh (by have := HKW.out.size; simp; omega) HOWN.out
          · exact happ.grown (HKW.out.alloc _) (fun b hb => .inr (HOWN.out b hb))
        case measure => simp [intOf]; omega
    · obtain rfl : k = n := by omega
      go_wp2
      go_ret
      refine ⟨_, rfl, ?_, hown, hkw⟩
      have e : numsTo T.ents k = numsFrom T.ents 0 := by unfold numsTo; rw [HN.out, List.take_length]
      rw [← e]; exact hrow

end Go.Proofs.Ytbbkljgeddjghaa
