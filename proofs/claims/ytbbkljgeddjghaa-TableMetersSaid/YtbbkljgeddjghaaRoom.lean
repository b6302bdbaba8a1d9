/-
  What is proved: the walk of lexiconlaw7's TableRoom: it answers true.
-/
import Derived.Test.YtbbkljgeddjghaaLaid
namespace Go.Lx
set_option linter.unusedVariables false
/-- How often each number stands in the first so many cells. -/
def seenUp (cs : List Int) (k m : Nat) : List Int := (List.range m).map fun v : Nat => (((cs.take k).count (v : Int) : Nat) : Int)
theorem seenUp_zero (cs : List Int) (m : Nat) : seenUp cs 0 m = List.replicate m 0 := by
  unfold seenUp
  refine List.ext_getElem? fun i => ?_
  simp [List.getElem?_replicate]
  by_cases h : i < m <;> simp [h]
theorem seenUp_len (cs : List Int) (k m : Nat) : (seenUp cs k m).length = m := by simp [seenUp]
theorem count_take_succ (cs : List Int) (k : Nat) (v u : Int) (hv : cs[k]? = some v) : (cs.take (k + 1)).count u = (cs.take k).count u + if v = u then 1 else 0 := by
  obtain ⟨hk, rfl⟩ := List.getElem?_eq_some_iff.1 hv
  rw [List.take_succ_eq_append_getElem hk, List.count_append]
  congr 1
  simp [List.count_cons]
theorem seenUp_same (cs : List Int) (k m : Nat) (v : Int) (hv : cs[k]? = some v) (hn : v < 0) : seenUp cs (k + 1) m = seenUp cs k m := by
  unfold seenUp
  refine List.map_congr_left fun u hu => ?_
  rw [count_take_succ cs k v u hv, if_neg (by omega)]
  simp
theorem seenUp_set (cs : List Int) (k m v : Nat) (hv : cs[k]? = some (v : Int)) (hm : v < m) : seenUp cs (k + 1) m = (seenUp cs k m).set v ((((cs.take k).count (v : Int) : Nat) : Int) + 1) := by
  refine List.ext_getElem? fun i => ?_
  rw [List.getElem?_set]
  unfold seenUp
  by_cases hi : i < m
  · rw [List.getElem?_map, List.getElem?_map, List.getElem?_range hi]
    by_cases e : v = i
    · subst e
      rw [if_pos rfl, if_pos (by simpa using hi)]
      simp only [Option.map_some, count_take_succ cs k (v : Int) (v : Int) hv]; simp
    · rw [if_neg e]
      simp only [Option.map_some, count_take_succ cs k (v : Int) (i : Int) hv]
      rw [if_neg (by omega)]; rfl
  · rw [List.getElem?_eq_none (by simp; omega), List.getElem?_eq_none (by simp; omega)]
    by_cases e : v = i
    · omega
    · simp [e]
theorem count_one (cs : List Int) (v : Int) (p : Nat) (hp : cs[p]? = some v) (hu : ∀ a : Nat, cs[a]? = some v → a = p) : cs.count v = 1 := by
  induction cs generalizing p with
  | nil => simp at hp
  | cons x cs ih =>
    rw [List.count_cons]
    cases p with
    | zero =>
      simp at hp; subst hp
      have : x ∉ cs := by
        intro hm
        obtain ⟨i, hi⟩ := List.getElem?_of_mem hm
        have := hu (i + 1) (by simpa using hi)
        omega
      rw [List.count_eq_zero.2 this]; simp
    | succ p =>
      have hx : x ≠ v := by
        rintro rfl
        have := hu 0 rfl
        omega
      have := ih p (by simpa using hp) (fun a ha => by have := hu (a + 1) (by simpa using ha); omega)
      simp [this, hx]
theorem count_none (cs : List Int) (v : Int) (hu : ∀ a : Nat, cs[a]? ≠ some v) : cs.count v = 0 := by
  rw [List.count_eq_zero]
  intro hm
  obtain ⟨i, hi⟩ := List.getElem?_of_mem hm
  exact hu i hi
/-- Each live entry stands in just one cell, a dead one in none. -/
theorem GoodT.seen {T : Tab} (h : GoodT T) (v : Nat) (x : Ent) (hx : T.ents[v]? = some x) : T.cells.count (v : Int) = if x.live then 1 else 0 := by
  cases hl : x.live with
  | true =>
    obtain ⟨i, _, h1, _⟩ := h.cg.place v x hx hl
    exact count_one _ _ _ h1 (fun a ha => h.cg.uniq v a _ ha h1)
  | false =>
    refine count_none _ _ fun a ha => ?_
    rcases h.cg.only a _ ha with e | e | ⟨n, y, e, hy, hyl⟩
    · omega
    · omega
    · have : v = n := by omega
      subst this; rw [hx] at hy; cases hy; rw [hl] at hyl; cases hyl
theorem GoodT.seen_get {T : Tab} (h : GoodT T) (v : Nat) (x : Ent) (hx : T.ents[v]? = some x) : (seenUp T.cells T.cells.length T.ents.length)[v]? = some (if x.live then 1 else 0) := by
  have hv := (List.getElem?_eq_some_iff.1 hx).1
  unfold seenUp
  rw [List.getElem?_map, List.getElem?_range hv, List.take_length, Option.map_some, h.seen v x hx]
  cases x.live <;> rfl
theorem GoodT.third {T : Tab} (h : GoodT T) : 2 ^ T.log ≤ 3 * T.cells.count (-1) := by
  have h1 := h.cg.blanks
  have h2 := h.fits
  have h3 := room_third T.log
  omega
def deadUp (es : List Ent) (k : Nat) : Nat := (es.take k).countP fun x => !x.live
theorem deadUp_succ (es : List Ent) (k : Nat) (x : Ent) (hx : es[k]? = some x) : deadUp es (k + 1) = deadUp es k + if x.live then 0 else 1 := by
  unfold deadUp
  obtain ⟨hk, rfl⟩ := List.getElem?_eq_some_iff.1 hx
  rw [List.take_succ_eq_append_getElem hk, List.countP_append]
  congr 1
  simp only [List.countP_cons, List.countP_nil, Nat.zero_add]
  generalize es[k].live = b
  cases b <;> rfl
theorem deadUp_le (es : List Ent) (k : Nat) : deadUp es k ≤ k := Nat.le_trans List.countP_le_length (by simp; omega)
theorem count_le' (cs : List Int) (k : Nat) (v : Int) : (cs.take k).count v ≤ k := Nat.le_trans List.count_le_length (by simp; omega)
/-- A block as a row. -/
theorem Row.ofBlk {w : World} {b n : Nat} {E : TypeId} {xs : List Value} (h : Blk w b E xs) (hl : xs.length = n) (hn : n ≤ 1000000) : Row w E 1 (.slice (some ⟨b, 0, none⟩) n n) n xs :=
  ⟨by simpa using hl, .inr ⟨b, n, xs.toArray, rfl, Nat.zero_le _, h, Nat.le_refl _, by unfold maxLen; omega, by simpa using hl, by simp [← hl]⟩⟩
end Go.Lx
namespace Go.Proofs.Ytbbkljgeddjghaa
open Go.RowKit Go.Lx Go.Shelf
set_option linter.unusedVariables false

set_option maxRecDepth 100000 in
set_option maxHeartbeats 4000000 in
theorem room_walk (a0 a1 : Option Addr) (n0 c0 n1 c1 : Nat) (z0 z1 : List Int) (w : World) (h0 : Ints w a0 n0 z0) (h1 : Ints w a1 n1 z1) :
    Calls Try.prog 3 #[.slice a0 n0 c0, .slice a1 n1 c1] w fun e w' => e = .returned (.bool true) ∧ Kept Nil w w' := by
  by_cases hn0 : n0 ≤ 300
  · by_cases hn1 : n1 ≤ 300
    · have hl := laid_any a0 a1 n0 c0 n1 c1 z0 z1 w h0 h1 hn0
      have b0 : (n0 : Int) ≤ 300 := by omega
      have b1 : (n1 : Int) ≤ 300 := by omega
      clear h0 h1
      go_enter Try.func3, Try.ntmps3
      go_wp2_with (go_at_call 22; refine hl.mono ?_; clear hl; rintro e w1 ⟨t, c, r, sv, wv, T, rfl, hla⟩)
      have HLA := hid hla
      have hm3 : T.ents.length ≤ 300 := by have := hla.ents; omega
      have hsz1 := hla.kept.size
      clear hla
      go_at_call 23
      refine (sight_any none t c r sv T w1 HLA.out.tab (by omega)).mono ?_
      rintro e w2 ⟨csv, esv, rfl, hrc, hcown, hre, heown, hk2⟩
      obtain ⟨ca, ccap, rfl⟩ := Row.sliceOf hrc
      obtain ⟨ea, ecap, rfl⟩ := Row.sliceOf hre
      obtain ⟨n, hn⟩ : ∃ n, n = T.cells.length := ⟨_, rfl⟩
      obtain ⟨m, hm⟩ : ∃ m, m = T.ents.length := ⟨_, rfl⟩
      have hn15 : n ≤ 32768 := by rw [hn, HLA.out.good.cg.len]; exact le_two _ HLA.out.tab.cells.hi
      obtain ⟨w3, hw3⟩ : ∃ w3, w3 = w2.alloc (.cells #[.int .i64 T.log, .int .i64 (widthOf T.log), .slice ca T.cells.length ccap, .slice ea T.ents.length ecap, .int .i64 T.live, .int .i64 T.births, .int .i64 T.made] 29) := ⟨_, rfl⟩
      have hk3 : Kept Nil w2 w3 := by rw [hw3]; exact (Kept.refl _ _).alloc _
      have hB : Blk w3 w2.heap.size 29 [.int .i64 T.log, .int .i64 (widthOf T.log), .slice ca T.cells.length ccap, .slice ea T.ents.length ecap, .int .i64 T.live, .int .i64 T.births, .int .i64 T.made] := by rw [hw3]; exact Blk.new w2 29 _
      have hkw : Kept Nil w w3 := (HLA.out.kept.trans hk2 (fun _ _ h => h)).trans hk3 (fun _ _ h => h)
      rw [← hn, ← hm] at hB hw3
      rw [← hm] at hm3
      have HRC := hid (hrc.kept hk3 (fun _ _ => id))
      have HRE := hid (hre.kept hk3 (fun _ _ => id))
      rw [← hn, ← hm]
      have HN := hid hn
      have HM := hid hm
      have HB := hid hB
      have HKW := hid hkw
      have HW3 := hid hw3
      have hmk := fun W => Go.run_make_row' (P := Try.prog) 22 3 (.int .i64 0) 8 Try.underlying22 Try.infoInt rfl .i64 .i64 m (by omega) (by omega) W
      rw [made_row] at hmk
      have q3 : w3.cell? ⟨w2.heap.size, 3, none⟩ = some (.slice ea m ecap) := hB.cell 3
      clear hrc hre hk2 hk3 hn hm hB hkw hcown heown hw3
      go_wp2_with fail
      rw [← HW3.out]
      go_wp2
      obtain ⟨w4, hw4⟩ : ∃ w4, w4 = w3.alloc (.cells (Array.replicate m (Value.int .i64 0)) 3) := ⟨_, rfl⟩
      rw [← hw4]
      have hk4 : Kept Nil w3 w4 := by rw [hw4]; exact (Kept.refl _ _).alloc _
      have hS : Row w4 3 1 (.slice (some ⟨w2.heap.size + 1, 0, none⟩) m m) m ((seenUp T.cells 0 m).map (Value.int .i64)) := by
        rw [seenUp_zero, List.map_replicate, hw4, ← List.toArray_replicate]
        have hz3 : w3.heap.size = w2.heap.size + 1 := by rw [HW3.out]; simp
        rw [← hz3]
        exact Row.ofBlk (Blk.new w3 3 _) (by simp) (by omega)
      have HS0 := hid hS
      have HK4 := hid hk4
      have HW4 := hid hw4
      have hbl := HB.out.lt
      have hz3 : w3.heap.size ≤ w2.heap.size + 1 := by rw [HW3.out]; simp
      clear hw4 hS hk4 hmk q3
      go_loopw [9, 10, 12] (fun em de i W => ∃ k : Nat, k ≤ n ∧ i = .int .i64 k ∧ em = .int .i64 ((T.cells.take k).count (-1) : Nat) ∧ de = .int .i64 ((T.cells.take k).count (-2) : Nat) ∧
        Row W 3 1 (.slice (some ⟨w2.heap.size + 1, 0, none⟩) m m) m ((seenUp T.cells k m).map (Value.int .i64)) ∧ Kept (fun b => w3.heap.size ≤ b) w3 W) (fun _ _ i _ => n - (intOf i).toNat)
      case atStart => exact ⟨0, Nat.zero_le _, rfl, rfl, rfl, HS0.out, HK4.out.mono (fun b hb h => h.elim)⟩
      case round =>
        obtain ⟨k, hk, rfl, rfl, rfl, hrow, hkw⟩ := hrel
        have hkn : Kept Nil w3 wr := hkw.mono (fun b hb h => absurd hb (by omega))
        have q0 : wr.cell? ⟨w2.heap.size, 0, none⟩ = some (.int .i64 T.log) := (HB.out.kept hkn id).cell 0
        have q2 : wr.cell? ⟨w2.heap.size, 2, none⟩ = some (.slice ca n ccap) := (HB.out.kept hkn id).cell 2
        have q3 : wr.cell? ⟨w2.heap.size, 3, none⟩ = some (.slice ea m ecap) := (HB.out.kept hkn id).cell 3
        have HKW2 := hid hkw
        have HKN := hid hkn
        have HROW := hid hrow
        clear hkw hkn hrow
        by_cases hlt : k < n
        · obtain ⟨v, hv⟩ : ∃ v, T.cells[k]? = some v := ⟨_, List.getElem?_eq_getElem (by have := HN.out; omega)⟩
          obtain ⟨g, gcap, hsv, g1, g2, hgl, ec⟩ := Row.intCell (by have h := HRC.out.kept HKN.out (fun _ _ => id); exact h) hv
          have hca : ca = some ⟨g, 0, none⟩ := by rw [← HN.out] at hsv; simp at hsv; exact hsv.1
          subst hca
          have hlt' : (k : Int) < (n : Int) := by omega
          have hc1 := count_take_succ T.cells k v (-1) hv
          have hc2 := count_take_succ T.cells k v (-2) hv
          have hb1 := count_le' T.cells k (-1)
          have hb2 := count_le' T.cells k (-2)
          have HV := hid hv
          have hcell := HLA.out.good.cell_ok k v hv
          clear hsv hv
          obtain ⟨em, hem⟩ : ∃ em, em = (T.cells.take k).count (-1) := ⟨_, rfl⟩
          obtain ⟨de, hde⟩ : ∃ de, de = (T.cells.take k).count (-2) := ⟨_, rfl⟩
          rw [← hem] at hc1 hb1 ⊢
          rw [← hde] at hc2 hb2 ⊢
          have HC1 := hid hc1
          have HC2 := hid hc2
          have hcell2 := hcell.2
          have hcell1 := hcell.1
          clear hem hde hc1 hc2 hcell
          by_cases hv1 : v = -1
          · subst hv1
            clear hcell2 hcell1
            go_wp2
            go_roundw
            case rel =>
              have e1 := HC1.out
              have e2 := HC2.out
              simp at e1 e2
              exact ⟨k + 1, by omega, by go_num, by rw [e1]; go_num, by rw [e2], by rw [seenUp_same _ _ _ _ HV.out (by omega)]; exact HROW.out, HKW2.out⟩
            case measure => simp [intOf]; omega
          · by_cases hv2 : v = -2
            · subst hv2
              clear hcell2 hcell1
              go_wp2
              go_roundw
              case rel =>
                have e1 := HC1.out
                have e2 := HC2.out
                simp at e1 e2
                exact ⟨k + 1, by omega, by go_num, by rw [e1], by rw [e2]; go_num, by rw [seenUp_same _ _ _ _ HV.out (by omega)]; exact HROW.out, HKW2.out⟩
              case measure => simp [intOf]; omega
            · obtain ⟨x, hx, hxl, hv0⟩ := hcell2 hv1 hv2
              obtain ⟨u, rfl⟩ := Int.eq_ofNat_of_zero_le hv0
              have hum : u < m := by have := HM.out; omega
              have hv1' : ((u : Int) == -1) = false := by simp <;> omega
              have hv2' : ((u : Int) == -2) = false := by simp <;> omega
              have hum' : (u : Int) < (m : Int) := by omega
              obtain ⟨s, hs⟩ : ∃ s : Nat, s = (T.cells.take k).count (u : Int) := ⟨_, rfl⟩
              have hsb := count_le' T.cells k (u : Int)
              rw [← hs] at hsb
              have hget : ((seenUp T.cells k m).map (Value.int .i64))[u]? = some (.int .i64 s) := by
                unfold seenUp
                rw [List.map_map, List.getElem?_map, List.getElem?_range hum, hs]; rfl
              have sc : wr.cell? ⟨w2.heap.size + 1, u, none⟩ = some (.int .i64 s) := HROW.out.cell rfl hget
              have sf := HROW.out.frozen (g := w2.heap.size + 1) rfl u
              have HSS := hid hs
              clear hx hxl hget hs hv1 hv2 hcell1 hcell2
              go_wp2
              go_roundw
              case rel =>
                have e1 := HC1.out
                have e2 := HC2.out
                rw [if_neg (by omega)] at e1 e2
                refine ⟨k + 1, by omega, by go_num, by rw [e1]; rfl, by rw [e2]; rfl, ?_, ?_⟩
                · rw [seenUp_set _ _ _ _ HV.out hum, List.map_set, ← HSS.out]
                  exact HROW.out.set rfl (by simp [seenUp]; omega) _
                · exact HKW2.out.setCell (p := ⟨w2.heap.size + 1, u, none⟩) (.inl hz3) _
              case measure => simp [intOf]; omega
        · obtain rfl : k = n := by omega
          have htk : T.cells.take k = T.cells := by rw [HN.out, List.take_length]
          rw [htk]
          have hrow2 := HROW.out
          rw [HN.out] at hrow2
          have HROW2 := hid hrow2
          have hem : 3 * T.cells.count (-1) ≥ k := by have h1 := HLA.out.good.third; have h2 := HN.out; have h3 := HLA.out.good.cg.len; omega
          have hde : T.cells.count (-2) = deadUp T.ents m := by rw [HLA.out.good.cg.deads]; unfold deadUp; rw [HM.out, List.take_length]
          have hemb : T.cells.count (-1) ≤ k := by rw [HN.out]; exact List.count_le_length
          obtain ⟨em, hem0⟩ : ∃ em, em = T.cells.count (-1) := ⟨_, rfl⟩
          obtain ⟨de, hde0⟩ : ∃ de, de = T.cells.count (-2) := ⟨_, rfl⟩
          rw [← hem0] at hem hemb ⊢
          rw [← hde0] at hde ⊢
          have hem' : (k : Int) ≤ 3 * (em : Int) := by omega
          have hw3m : IntKind.i64.wrap (3 * (em : Int)) = 3 * (em : Int) := IntWalk.i64_in _ (by omega)
          have HW3M := hid hw3m
          clear hw3m
          have HDE := hid hde
          clear hde hem0 hde0 htk hrow2
          go_wp2
          go_loopw [14, 15] (fun go i W => ∃ j : Nat, j ≤ m ∧ i = .int .i64 j ∧ go = .int .i64 (deadUp T.ents j : Nat) ∧ Kept Nil wr W) (fun _ i _ => m - (intOf i).toNat)
          case atStart => exact ⟨0, Nat.zero_le _, rfl, rfl, Kept.refl _ _⟩
          case round =>
            rename_i wx
            obtain ⟨j, hj, rfl, rfl, hkx⟩ := hrel
            have hkx3 := HKN.out.trans hkx (fun _ _ h => h)
            have q0 : wr.cell? ⟨w2.heap.size, 0, none⟩ = some (.int .i64 T.log) := (HB.out.kept hkx3 id).cell 0
            have q2 : wr.cell? ⟨w2.heap.size, 2, none⟩ = some (.slice ca k ccap) := (HB.out.kept hkx3 id).cell 2
            have q3 : wr.cell? ⟨w2.heap.size, 3, none⟩ = some (.slice ea m ecap) := (HB.out.kept hkx3 id).cell 3
            by_cases hltj : j < m
            · obtain ⟨x, hx⟩ : ∃ x, T.ents[j]? = some x := ⟨_, List.getElem?_eq_getElem (by have := HM.out; omega)⟩
              obtain ⟨g, gcap, hsv, g1, g2, hgl, e0, -, -, -, -⟩ := Row.entCells (HRE.out.kept hkx3 (fun _ _ => id)) hx
              have hea : ea = some ⟨g, 0, none⟩ := by rw [← HM.out] at hsv; simp at hsv; exact hsv.1
              subst hea
              have hseen := HLA.out.good.seen_get j x hx
              rw [← HM.out] at hseen
              have hsucc := deadUp_succ T.ents j x hx
              have hdle := deadUp_le T.ents j
              have hltj' : (j : Int) < (m : Int) := by omega
              have HX2 := hid hkx3
              have HX1 := hid hkx
              obtain ⟨go, hgo⟩ : ∃ go, go = deadUp T.ents j := ⟨_, rfl⟩
              rw [← hgo] at hsucc hdle ⊢
              have hlive : x.live = true ∨ x.live = false := by cases x.live <;> simp
              rcases hlive with hl | hl
              all_goals
                rw [hl] at e0 hseen hsucc
                have HSU := hid hsucc
                have sc := (HROW2.out.kept hkx (fun _ _ => id)).cell (g := w2.heap.size + 1) (j := j) rfl (by rw [List.getElem?_map, hseen]; rfl)
                clear hseen hsucc hgo hx hsv hl hkx hkx3
                go_wp2_with fail
                go_quiet (fail)
                go_wp2
                go_roundw
                case rel => exact ⟨j + 1, by omega, by go_num, by rw [HSU.out]; first | rfl | go_num, HX1.out.drewN _⟩
                case measure => simp [intOf]; omega
            · obtain rfl : j = m := by omega
              rw [← HDE.out]
              have hlog := HLA.out.tab.cells.hi
              have hlo := HLA.out.tab.cells.lo
              have hp := wrap_pow20 T.log (by omega)
              have hlen : k = 2 ^ T.log := by rw [HN.out]; exact HLA.out.good.cg.len
              have hw3 : IntKind.i64.wrap (3 * (em : Int)) = 3 * (em : Int) := HW3M.out
              rw [← hlen] at hp
              have hp' : IntKind.i64.wrap ((2 : Int) ^ T.log) = (k : Int) := by rw [← hp]; simp [IntKind.wrap_i64, wrap64]
              have hlo' : (3 : Int) ≤ (T.log : Int) := Int.ofNat_le.2 hlo
              have HKF := hid (HKW.out.trans hkx3 (fun _ _ h => h))
              clear hkx hkx3 hlen
              go_wp2_with fail
              refine wp_region_stl 26 (by kernel_rfl) (by kernel_rfl) ?_
              simp only [List.take_succ_cons, List.take_zero, List.drop_succ_cons, List.drop_zero]
              iterate 26
                refine Stl.step (by kernel_rfl) (fun K hK => ?_)
                go_simp
                refine hK _ ?_
                clear hK K
              refine Stl.nil ?_
              go_wp2_with (go_at_call 21; refine (awake_any _).mono ?_; rintro e w9 ⟨rfl, hk9⟩)
              go_ret
              exact ⟨rfl, HKF.out.drew.trans hk9 (fun _ _ h => h)⟩
    · have b0 : (n0 : Int) ≤ 300 := by omega
      have b1 : (300 : Int) < (n1 : Int) := by omega
      go_enter Try.func3, Try.ntmps3
      go_wp2_with (go_at_call 21; refine (awake_any w).mono ?_; rintro e w1 ⟨rfl, hk1⟩)
      go_ret
      exact ⟨rfl, hk1⟩
  · have b0 : (300 : Int) < (n0 : Int) := by omega
    go_enter Try.func3, Try.ntmps3
    go_wp2_with (go_at_call 21; refine (awake_any w).mono ?_; rintro e w1 ⟨rfl, hk1⟩)
    go_ret
    exact ⟨rfl, hk1⟩

end Go.Proofs.Ytbbkljgeddjghaa
