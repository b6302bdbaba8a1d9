/-
  What is proved: the walk of lexiconlaw7's TableKeeps: it answers true.
-/
import Derived.Test.YtbbkljgeddjghaaRoom
namespace Go.Proofs.Ytbbkljgeddjghaa
open Go.RowKit Go.Lx Go.Shelf
set_option linter.unusedVariables false
set_option linter.unusedSimpArgs false

set_option maxRecDepth 100000 in
set_option maxHeartbeats 4000000 in
theorem keeps_walk (a0 a1 : Option Addr) (n0 c0 n1 c1 : Nat) (z0 z1 : List Int) (w : World) (h0 : Ints w a0 n0 z0) (h1 : Ints w a1 n1 z1) :
    Calls Try.prog 5 #[.slice a0 n0 c0, .slice a1 n1 c1] w fun e w' => e = .returned (.bool true) ∧ Kept Nil w w' := by
  by_cases hn0 : n0 ≤ 300
  · by_cases hn1 : n1 ≤ 300
    · have hl := laid_any a0 a1 n0 c0 n1 c1 z0 z1 w h0 h1 hn0
      have b0 : (n0 : Int) ≤ 300 := by omega
      have b1 : (n1 : Int) ≤ 300 := by omega
      have hfd := Try.sightField3
      clear h0 h1
      go_enter Try.func5, Try.ntmps5
      go_wp2_with (go_at_call 22; refine hl.mono ?_; clear hl; rintro e w1 ⟨t, c, r, sv, wv, T, rfl, hla⟩; obtain ⟨wa, wcap, rfl⟩ := Row.sliceOf hla.row)
      obtain ⟨q, hq⟩ : ∃ q, q = T.lives.length := ⟨_, rfl⟩
      have hlive : T.live = q := by rw [hq]; exact hla.good.live
      have hq3 : q ≤ 300 := by have := hla.live_le; omega
      have hl3 : w1.cell? ⟨t, 3, none⟩ = some (.int .i64 q) := by rw [← hlive]; exact hla.tab.head.cell 3
      have HLIVE := hid hlive
      have HLA := hid hla
      have HQ := hid hq
      rw [← hq]
      clear hla hq hlive
      go_at_call 25
      refine (len_cell t q w1 hl3).mono ?_
      rintro e w' ⟨rfl, rfl⟩
      clear hl3
      go_wp2_with fail
      go_at_call 23
      refine (sight_any none t c r sv T w1 HLA.out.tab (by have := HLA.out.ents; omega)).mono ?_
      rintro e w2 ⟨csv, esv, rfl, -, -, hre, -, hk2⟩
      have HRE := hid hre
      have HLA2 := hid (HLA.out.on hk2)
      clear hre hk2
      go_wp2_with fail
      go_at_call 27
      refine (live_any esv T.ents w2 (by have := HLA.out.ents; omega) HRE.out).mono ?_
      rintro e w3 ⟨lv, rfl, hrl, -, hk3⟩
      have HRL := hid hrl
      have HLA3 := hid (HLA2.out.on hk3)
      clear hrl hk3
      go_wp2_with fail
      go_at_call 26
      have hrw := HLA3.out.row
      have hen := entries_same lv (.slice wa T.lives.length wcap) T.lives w3 (by have := HQ.out; omega) HRL.out hrw
      rw [← HQ.out] at hen
      refine hen.mono ?_
      clear hen hrw
      rintro e w4 ⟨rfl, hk4⟩
      have HLA4 := hid (HLA3.out.on hk4)
      clear hk4
      go_wp2_with fail
      go_at_call 28
      refine (copy_any none ⟨0, 0, 0, 0⟩ t c r sv T w4 HLA4.out.tab trivial (by have := HLA.out.ents; omega) (by have := HLIVE.out; omega) HLA.out.good.live).mono ?_
      rintro e w5 ⟨t', c', r', sv', rfl, hT', ho', -, hk5⟩
      have HT5 := hid hT'
      have HLA5 := hid (HLA4.out.on (hk5.mono (fun b hb h => by cases h)))
      clear hT' hk5 ho'
      obtain ⟨g1, g2, g3, g4, g5⟩ := HLA.out.good.copy (by have := HLIVE.out; omega)
      have hl5 : w5.cell? ⟨t', 3, none⟩ = some (.int .i64 q) := by rw [← HLIVE.out, ← g5]; exact HT5.out.head.cell 3
      have G2 := hid g2
      clear g1 g2 g3 g4 g5
      go_wp2_with fail
      go_at_call 25
      refine (len_cell t' q w5 hl5).mono ?_
      rintro e w' ⟨rfl, rfl⟩
      clear hl5
      have hml : T.copy.ents.length = q := by rw [G2.out, renum_len, HQ.out]
      have HML := hid hml
      clear hml
      go_wp2_with fail
      go_at_call 23
      refine (sight_any none t' c' r' sv' T.copy w5 HT5.out (by have := HML.out; omega)).mono ?_
      rintro e w6 ⟨csv, esv, rfl, -, -, hre, -, hk6⟩
      obtain ⟨ea, ecap, rfl⟩ := Row.sliceOf hre
      have HRE6 := hid hre
      have HLA6 := hid (HLA5.out.on hk6)
      rw [HML.out]
      clear hre hk6
      go_wp2
      go_loopw [10] (fun i W => ∃ k : Nat, k ≤ q ∧ i = .int .i64 k ∧ Kept Nil w6 W) (fun i _ => q - (intOf i).toNat)
      case atStart => exact ⟨0, Nat.zero_le _, rfl, Kept.refl _ _⟩
      case round =>
        obtain ⟨k, hk, rfl, hkw⟩ := hrel
        by_cases hlt : k < q
        · obtain ⟨x, hx⟩ : ∃ x, T.lives[k]? = some x := ⟨_, List.getElem?_eq_getElem (by have := HQ.out; omega)⟩
          have hy : T.copy.ents[k]? = some { x with birth := (k : Nat) } := by rw [G2.out, renum_get, hx]; simp
          obtain ⟨g1, c1, hs1, q1, q2, hg1, e0, e1, e2, e3, e4⟩ := Row.entCells (HRE6.out.kept hkw (fun _ _ => id)) hy
          obtain ⟨g2, c2, hs2, q3, q4, hg2, f0, f1, f2, f3, f4⟩ := Row.entCells (HLA6.out.row.kept hkw (fun _ _ => id)) hx
          have ha : ea = some ⟨g1, 0, none⟩ := by simp at hs1; exact hs1.1
          have hb : wa = some ⟨g2, 0, none⟩ := by rw [← HQ.out] at hs2; simp at hs2; exact hs2.1
          subst ha
          subst hb
          have hlt' : (k : Int) < (q : Int) := by omega
          have hge : ¬ (q : Int) ≤ (k : Int) := by omega
          have HKW := hid hkw
          have n1 : ¬ g1 = wr.heap.size := by omega
          have n2 : ¬ g2 = wr.heap.size := by omega
          clear hkw hs1 hs2 hx hy
          dsimp only at e0 e1 e2 e3 e4
          go_wp2_with fail
          go_quiet (fail)
          go_wp2
          go_roundw
          case rel => exact ⟨k + 1, by omega, by go_num, (HKW.out.alloc _).drewN _⟩
          case measure => simp [intOf]; omega
        · obtain rfl : k = q := by omega
          have HKF := hid (HLA6.out.kept.trans hkw (fun _ _ h => h))
          clear hkw
          go_wp2_with (go_at_call 21; refine (awake_any _).mono ?_; rintro e w9 ⟨rfl, hk9⟩)
          go_ret
          exact ⟨rfl, HKF.out.trans hk9 (fun _ _ h => h)⟩
    · have b0 : (n0 : Int) ≤ 300 := by omega
      have b1 : (300 : Int) < (n1 : Int) := by omega
      go_enter Try.func5, Try.ntmps5
      go_wp2_with (go_at_call 21; refine (awake_any w).mono ?_; rintro e w1 ⟨rfl, hk1⟩)
      go_ret
      exact ⟨rfl, hk1⟩
  · have b0 : (300 : Int) < (n0 : Int) := by omega
    go_enter Try.func5, Try.ntmps5
    go_wp2_with (go_at_call 21; refine (awake_any w).mono ?_; rintro e w1 ⟨rfl, hk1⟩)
    go_ret
    exact ⟨rfl, hk1⟩

end Go.Proofs.Ytbbkljgeddjghaa
