/-
  What is proved: the walk of lexiconlaw7's TableOwn: it answers true.
-/
import Derived.Test.YtbbkljgeddjghaaRoom
import Derived.Deep.RegionHeld3
namespace Go.Lx
/-- A row of integers, whatever they are. -/
def IntRow (w : World) (t : TypeId) (sv : Value) (n : Nat) : Prop := ∃ xs, Row w t 1 sv n xs ∧ ∀ i, i < n → ∃ z : Int, xs[i]? = some (.int .i64 z)
theorem IntRow.set {w : World} {t : TypeId} {sv : Value} {n : Nat} (h : IntRow w t sv n) {g : Nat} (hg : sv.ownBlock = some g) (i : Nat) (hi : i < n) (z : Int) : IntRow (w.setCell ⟨g, i, none⟩ (.int .i64 z)) t sv n := by
  obtain ⟨xs, h1, h2⟩ := h
  refine ⟨_, h1.set hg (by rw [h1.1]; omega) _, fun j hj => ?_⟩
  rw [List.getElem?_set]
  split
  · rw [if_pos (by rw [h1.1]; omega)]; exact ⟨z, rfl⟩
  · exact h2 j hj
/-- A row of entries' cells, whatever they are. -/
def AnyRow (w : World) (t : TypeId) (m : Nat) (sv : Value) (n : Nat) : Prop := ∃ xs, Row w t m sv n xs
theorem AnyRow.set {w : World} {t : TypeId} {m : Nat} {sv : Value} {n : Nat} (h : AnyRow w t m sv n) {g : Nat} (hg : sv.ownBlock = some g) (i : Nat) (hi : i < n * m) (u : Value) : AnyRow (w.setCell ⟨g, i, none⟩ u) t m sv n := by
  obtain ⟨xs, h1⟩ := h
  exact ⟨_, h1.set hg (by rw [h1.1]; exact hi) u⟩
theorem AnyRow.cell {w : World} {t : TypeId} {m : Nat} {sv : Value} {n : Nat} (h : AnyRow w t m sv n) {g : Nat} (hg : sv.ownBlock = some g) (i : Nat) (hi : i < n * m) : ∃ u, w.cell? ⟨g, i, none⟩ = some u := by
  obtain ⟨xs, h1⟩ := h
  obtain ⟨u, hu⟩ : ∃ u, xs[i]? = some u := ⟨_, List.getElem?_eq_getElem (by rw [h1.1]; exact hi)⟩
  exact ⟨u, h1.cell hg hu⟩
end Go.Lx
namespace Go.Proofs.Ytbbkljgeddjghaa
set_option linter.unusedVariables false
set_option linter.unusedSimpArgs false
open Go.RowKit Go.Lx Go.Shelf
set_option linter.unusedVariables false

set_option maxRecDepth 100000 in
set_option maxHeartbeats 4000000 in
theorem own_walk (a0 a1 : Option Addr) (n0 c0 n1 c1 : Nat) (z0 z1 : List Int) (w : World) (h0 : Ints w a0 n0 z0) (h1 : Ints w a1 n1 z1) :
    Calls Try.prog 4 #[.slice a0 n0 c0, .slice a1 n1 c1] w fun e w' => e = .returned (.bool true) ∧ Kept Nil w w' := by
  by_cases hn0 : n0 ≤ 300
  · by_cases hn1 : n1 ≤ 300
    · have hl := laid_any a0 a1 n0 c0 n1 c1 z0 z1 w h0 h1 hn0
      have b0 : (n0 : Int) ≤ 300 := by omega
      have b1 : (n1 : Int) ≤ 300 := by omega
      clear h0 h1
      go_enter Try.func4, Try.ntmps4
      go_wp2_with (go_at_call 22; refine hl.mono ?_; clear hl; rintro e w1 ⟨t, c, r, sv, wv, T, rfl, hla⟩)
      have HLA := hid hla
      have hm3 : T.ents.length ≤ 300 := by have := hla.ents; omega
      have hsz1 := hla.kept.size
      have hTlt := hla.tab.lt
      clear hla
      go_at_call 23
      refine (sight_any none t c r sv T w1 HLA.out.tab (by omega)).mono ?_
      rintro e w2 ⟨csv, esv, rfl, hrc, hcown, hre, heown, hk2⟩
      obtain ⟨ca, ccap, rfl⟩ := Row.sliceOf hrc
      obtain ⟨ea, ecap, rfl⟩ := Row.sliceOf hre
      obtain ⟨n, hn⟩ : ∃ n, n = T.cells.length := ⟨_, rfl⟩
      obtain ⟨m, hm⟩ : ∃ m, m = T.ents.length := ⟨_, rfl⟩
      have hn15 : n ≤ 32768 := by rw [hn, HLA.out.good.cg.len]; exact le_two _ HLA.out.tab.cells.hi
      obtain ⟨w3, hw3⟩ : ∃ w3, w3 = w2.alloc (.cells #[.int .i64 T.log, .int .i64 (widthOf T.log), .slice ca T.cells.length ccap, .slice ea T.ents.length ecap, .int .i64 T.live, .int .i64 T.births, .int .i64 T.made] 29) := ⟨_, rfl⟩
      have hk3 : Kept Nil w2 w3 := by rw [hw3]; exact (Kept.refl _ _).alloc _
      have hz3 : w3.heap.size = w2.heap.size + 1 := by rw [hw3]; simp
      have hA : Blk w3 w2.heap.size 29 [.int .i64 T.log, .int .i64 (widthOf T.log), .slice ca T.cells.length ccap, .slice ea T.ents.length ecap, .int .i64 T.live, .int .i64 T.births, .int .i64 T.made] := by rw [hw3]; exact Blk.new w2 29 _
      have hgc : ∀ b, (Value.slice ca T.cells.length ccap).ownBlock = some b → w1.heap.size ≤ b ∧ b < w2.heap.size := fun b hb => ⟨hcown b hb, hrc.lt hb⟩
      have hge : ∀ b, (Value.slice ea T.ents.length ecap).ownBlock = some b → w1.heap.size ≤ b ∧ b < w2.heap.size := fun b hb => ⟨heown b hb, hre.lt hb⟩
      have hz2 := hk2.size
      rw [← hn] at hw3 hA hgc
      rw [← hm] at hw3 hA hge
      have HT3 := hid ((HLA.out.tab.kept' hk2 (fun _ _ => id)).kept' hk3 (fun _ _ => id))
      have HRC := hid (hrc.kept hk3 (fun _ _ => id))
      have HRE := hid (hre.kept hk3 (fun _ _ => id))
      have HKW3 := hid ((HLA.out.kept.trans hk2 (fun _ _ h => h)).trans hk3 (fun _ _ h => h))
      rw [← hn, ← hm]
      have HW3 := hid hw3
      have HN := hid hn
      have HM := hid hm
      have HA := hid hA
      rw [← hm] at hm3
      clear hrc hre hcown heown hk2 hk3 hn hm hA hw3
      go_wp2_with fail
      rw [← HW3.out]
      go_at_call 23
      refine (sight_any none t c r sv T w3 HT3.out (by have := HM.out; omega)).mono ?_
      rintro e w4 ⟨csv, esv, rfl, hrc, hcown, hre, heown, hk4⟩
      obtain ⟨cb, cbcap, rfl⟩ := Row.sliceOf hrc
      obtain ⟨eb, ebcap, rfl⟩ := Row.sliceOf hre
      obtain ⟨w5, hw5⟩ : ∃ w5, w5 = w4.alloc (.cells #[.int .i64 T.log, .int .i64 (widthOf T.log), .slice cb T.cells.length cbcap, .slice eb T.ents.length ebcap, .int .i64 T.live, .int .i64 T.births, .int .i64 T.made] 29) := ⟨_, rfl⟩
      have hk5 : Kept Nil w4 w5 := by rw [hw5]; exact (Kept.refl _ _).alloc _
      have hB : Blk w5 w4.heap.size 29 [.int .i64 T.log, .int .i64 (widthOf T.log), .slice cb T.cells.length cbcap, .slice eb T.ents.length ebcap, .int .i64 T.live, .int .i64 T.births, .int .i64 T.made] := by rw [hw5]; exact Blk.new w4 29 _
      have hk35 : Kept Nil w3 w5 := hk4.trans hk5 (fun _ _ h => h)
      have hz4 := hk4.size
      have hz5 : w5.heap.size = w4.heap.size + 1 := by rw [hw5]; simp
      rw [← HN.out, ← HM.out] at hw5 hB
      have HT5 := hid (HT3.out.kept' hk35 (fun _ _ => id))
      have HA5 := hid (HA.out.kept hk35 id)
      have HB5 := hid hB
      have HC1 : Hid (IntRow w5 3 (.slice ca n ccap) n) := by
        have h := HRC.out.kept hk35 (fun _ _ => id)
        rw [← HN.out] at h
        exact ⟨_, h, fun i hi => ⟨T.cells[i]'(by have := HN.out; omega), by rw [List.getElem?_map, List.getElem?_eq_getElem (by have := HN.out; omega)]; rfl⟩⟩
      have HE1 : Hid (AnyRow w5 32 5 (.slice ea m ecap) m) := by
        have h := HRE.out.kept hk35 (fun _ _ => id)
        rw [← HM.out] at h
        exact ⟨_, h⟩
      have HC2 := hid (hrc.kept hk5 (fun _ _ => id))
      have HE2 := hid (hre.kept hk5 (fun _ _ => id))
      have hC2b : ∀ b, (Value.slice cb T.cells.length cbcap).ownBlock = some b → w3.heap.size ≤ b ∧ b < w5.heap.size := fun b hb => ⟨hcown b hb, by have := hrc.lt hb; omega⟩
      have hE2b : ∀ b, (Value.slice eb T.ents.length ebcap).ownBlock = some b → w3.heap.size ≤ b ∧ b < w5.heap.size := fun b hb => ⟨heown b hb, by have := hre.lt hb; omega⟩
      have HC2b := hid hC2b
      have HE2b := hid hE2b
      have HKW5 := hid (HKW3.out.trans hk35 (fun _ _ h => h))
      have HW5 := hid hw5
      have HZ3 := hid hz3
      have HZ5 := hid hz5
      have HGC := hid hgc
      have HGE := hid hge
      have HTLT := hid hTlt
      have hz35 : w3.heap.size ≤ w5.heap.size := hk35.size
      have hz13 : w1.heap.size ≤ w3.heap.size := by omega
      have hn8 : 8 ≤ n := by rw [HN.out, HT5.out.cells.len]; exact two_le _ HT5.out.cells.lo
      rw [← HN.out, ← HM.out]
      clear hrc hre hcown heown hk4 hk5 hk35 hB hw5 hz3 hz5 hgc hge hTlt hC2b hE2b hz4 hz2 HRC HRE HA HT3 HKW3
      go_wp2_with fail
      rw [← HW5.out]
      go_loopw [10] (fun i W => ∃ k : Nat, k ≤ n ∧ i = .int .i64 k ∧ IntRow W 3 (.slice ca n ccap) n ∧ AnyRow W 32 5 (.slice ea m ecap) m ∧ Kept (fun b => (w1.heap.size ≤ b ∧ b < w2.heap.size) ∨ w5.heap.size ≤ b) w5 W) (fun i _ => n - (intOf i).toNat)
      case atStart => exact ⟨0, Nat.zero_le _, rfl, HC1.out, HE1.out, Kept.refl _ _⟩
      case round =>
        obtain ⟨k, hk, rfl, hrc, hre, hkw⟩ := hrel
        have hA := HA5.out.kept hkw (by have := HZ3.out; omega)
        have q2 : wr.cell? ⟨w2.heap.size, 2, none⟩ = some (.slice ca n ccap) := hA.cell 2
        have q3 : wr.cell? ⟨w2.heap.size, 3, none⟩ = some (.slice ea m ecap) := hA.cell 3
        by_cases hlt : k < n
        · obtain ⟨xs, hrow, hxs⟩ := hrc
          obtain ⟨z, hz⟩ := hxs k hlt
          obtain ⟨g, gcap, hsv, g1, g2⟩ : ∃ g cap, (Value.slice ca n ccap) = .slice (some ⟨g, 0, none⟩) n cap ∧ n ≤ cap ∧ cap ≤ maxLen := by
            rcases hrow.form with ⟨_, h0, _⟩ | h
            · omega
            · exact h
          have hca : ca = some ⟨g, 0, none⟩ := by simp at hsv; exact hsv.1
          subst hca
          have cc := hrow.cell (g := g) rfl hz
          have cf := hrow.frozen (g := g) rfl k
          have hgb := HGC.out g rfl
          have hlt' : (k : Int) < (n : Int) := by omega
          have HROW : Hid (IntRow wr 3 (.slice (some ⟨g, 0, none⟩) n ccap) n) := ⟨xs, hrow, hxs⟩
          have HKW := hid hkw
          have hne : ∀ b, (Value.slice ea m ecap).ownBlock = some b → b ≠ g := by
            intro b hb e
            subst e
            obtain ⟨ys, h⟩ := hre
            obtain ⟨c1, hb1⟩ := Row.blk h hb
            obtain ⟨c2, hb2⟩ := Row.blk hrow (g := b) rfl
            exact hb1.ne hb2 (by decide) rfl
          have HRE : Hid (AnyRow (wr.setCell ⟨g, k, none⟩ (.int .i64 (500 + (k : Int)))) 32 5 (.slice ea m ecap) m) := by
            obtain ⟨ys, h⟩ := hre
            exact ⟨ys, h.other (a := ⟨g, k, none⟩) (fun b hb => hne b hb) _⟩
          clear hrow hxs hz hsv hkw hre hA hne
          go_wp2
          go_roundw
          case rel => exact ⟨k + 1, by omega, by go_num, HROW.out.set rfl k hlt _, HRE.out, HKW.out.setCell (p := ⟨g, k, none⟩) (.inl (.inl hgb)) _⟩
          case measure => simp [intOf]; omega
        · obtain rfl : k = n := by omega
          have HRC := hid hrc
          have HRE := hid hre
          have HKW := hid hkw
          clear hrc hre hkw hA
          go_wp2
          go_loopw [11] (fun i W => ∃ j : Nat, j ≤ m ∧ i = .int .i64 j ∧ IntRow W 3 (.slice ca k ccap) k ∧ AnyRow W 32 5 (.slice ea m ecap) m ∧ Kept (fun b => (w1.heap.size ≤ b ∧ b < w2.heap.size) ∨ w5.heap.size ≤ b) w5 W) (fun i _ => m - (intOf i).toNat)
          case atStart => exact ⟨0, Nat.zero_le _, rfl, HRC.out, HRE.out, HKW.out⟩
          case round =>
            obtain ⟨j, hj, rfl, hrc, hre, hkw⟩ := hrel
            have hA := HA5.out.kept hkw (by have := HZ3.out; omega)
            have q2 : wr.cell? ⟨w2.heap.size, 2, none⟩ = some (.slice ca k ccap) := hA.cell 2
            have q3 : wr.cell? ⟨w2.heap.size, 3, none⟩ = some (.slice ea m ecap) := hA.cell 3
            by_cases hltj : j < m
            · obtain ⟨g, gcap, hsv, g1, g2⟩ : ∃ g cap, (Value.slice ea m ecap) = .slice (some ⟨g, 0, none⟩) m cap ∧ m ≤ cap ∧ cap ≤ maxLen := by
                obtain ⟨xs, hrow⟩ := hre
                rcases hrow.form with ⟨_, h0, _⟩ | h
                · omega
                · exact h
              have hea : ea = some ⟨g, 0, none⟩ := by simp at hsv; exact hsv.1
              subst hea
              obtain ⟨u0, c0⟩ := hre.cell (g := g) rfl (j * 5) (by omega)
              obtain ⟨u1, c1⟩ := hre.cell (g := g) rfl (j * 5 + 1) (by omega)
              obtain ⟨u2, c2⟩ := hre.cell (g := g) rfl (j * 5 + 2) (by omega)
              obtain ⟨u3, c3⟩ := hre.cell (g := g) rfl (j * 5 + 3) (by omega)
              obtain ⟨u4, c4⟩ := hre.cell (g := g) rfl (j * 5 + 4) (by omega)
              have hfz : ∀ i, wr.frozen? ⟨g, i, none⟩ = false := by
                obtain ⟨xs, hrow⟩ := hre
                exact fun i => hrow.frozen (g := g) rfl i
              have f0 := hfz (j * 5)
              have f1 := hfz (j * 5 + 1)
              have f2 := hfz (j * 5 + 2)
              have f3 := hfz (j * 5 + 3)
              have f4 := hfz (j * 5 + 4)
              have hgb := HGE.out g rfl
              have hltj' : (j : Int) < (m : Int) := by omega
              have hne : ∀ b, (Value.slice ca k ccap).ownBlock = some b → b ≠ g := by
                intro b hb e
                subst e
                obtain ⟨ys, h, _⟩ := hrc
                obtain ⟨xs, hrow⟩ := hre
                obtain ⟨c1, hb1⟩ := Row.blk h hb
                obtain ⟨c2, hb2⟩ := Row.blk hrow (g := b) rfl
                exact hb1.ne hb2 (by decide) rfl
              have hfin : IntRow (((((wr.setCell ⟨g, j * 5, none⟩ (.bool false)).setCell ⟨g, j * 5 + 1, none⟩ (.int .i64 0)).setCell ⟨g, j * 5 + 2, none⟩ (.int .i64 (500 + (j : Int)))).setCell ⟨g, j * 5 + 3, none⟩ (.int .i64 0)).setCell ⟨g, j * 5 + 4, none⟩ (.int .i64 0)) 3 (.slice ca k ccap) k ∧
                  AnyRow (((((wr.setCell ⟨g, j * 5, none⟩ (.bool false)).setCell ⟨g, j * 5 + 1, none⟩ (.int .i64 0)).setCell ⟨g, j * 5 + 2, none⟩ (.int .i64 (500 + (j : Int)))).setCell ⟨g, j * 5 + 3, none⟩ (.int .i64 0)).setCell ⟨g, j * 5 + 4, none⟩ (.int .i64 0)) 32 5 (.slice (some ⟨g, 0, none⟩) m ecap) m ∧
                  Kept (fun b => (w1.heap.size ≤ b ∧ b < w2.heap.size) ∨ w5.heap.size ≤ b) w5 (((((wr.setCell ⟨g, j * 5, none⟩ (.bool false)).setCell ⟨g, j * 5 + 1, none⟩ (.int .i64 0)).setCell ⟨g, j * 5 + 2, none⟩ (.int .i64 (500 + (j : Int)))).setCell ⟨g, j * 5 + 3, none⟩ (.int .i64 0)).setCell ⟨g, j * 5 + 4, none⟩ (.int .i64 0)) := by
                refine ⟨?_, ?_, ?_⟩
                · obtain ⟨ys, h, h'⟩ := hrc
                  exact ⟨ys, ((((h.other (a := ⟨g, j * 5, none⟩) hne _).other (a := ⟨g, j * 5 + 1, none⟩) hne _).other (a := ⟨g, j * 5 + 2, none⟩) hne _).other (a := ⟨g, j * 5 + 3, none⟩) hne _).other (a := ⟨g, j * 5 + 4, none⟩) hne _, h'⟩
                · exact ((((hre.set rfl (j * 5) (by omega) _).set rfl (j * 5 + 1) (by omega) _).set rfl (j * 5 + 2) (by omega) _).set rfl (j * 5 + 3) (by omega) _).set rfl (j * 5 + 4) (by omega) _
                · exact ((((hkw.setCell (p := ⟨g, j * 5, none⟩) (.inl (.inl hgb)) _).setCell (p := ⟨g, j * 5 + 1, none⟩) (.inl (.inl hgb)) _).setCell (p := ⟨g, j * 5 + 2, none⟩) (.inl (.inl hgb)) _).setCell (p := ⟨g, j * 5 + 3, none⟩) (.inl (.inl hgb)) _).setCell (p := ⟨g, j * 5 + 4, none⟩) (.inl (.inl hgb)) _
              have HFIN := hid hfin
              clear hfin hne hfz hrc hre hkw hA hsv
              go_wp2
              go_roundw
              case rel => exact ⟨j + 1, by omega, by go_num, HFIN.out.1, HFIN.out.2.1, HFIN.out.2.2⟩
              case measure => simp [intOf]; omega
            · obtain rfl : j = m := by omega
              obtain ⟨xs1, hrc1, -⟩ := hrc
              obtain ⟨xs2, hre1⟩ := hre
              have ROW1 := hid (hrc1.alloc (.cells #[.int .i64 7, .int .i64 7] 3))
              have SRC1 := hid (Src.new wr 3 [.int .i64 7, .int .i64 7] 2 1 rfl (by simp [Value.oneCell']))
              have hk1 := hkw.alloc (.cells #[.int .i64 7, .int .i64 7] 3)
              have hne : ∀ b, (Value.slice ea j ecap).ownBlock = some b → ¬ (Value.slice ca k ccap).ownBlock = some b := by
                intro b hb hb'
                obtain ⟨c1, hb1⟩ := Row.blk hrc1 hb'
                obtain ⟨c2, hb2⟩ := Row.blk hre1 hb
                exact hb1.ne hb2 (by decide) rfl
              have HRE1 := hid (hre1.alloc (.cells #[.int .i64 7, .int .i64 7] 3))
              have HNE := hid hne
              have HK1 := hid hk1
              clear hrc1 hre1 hkw hA hne hk1
              have HNA : Hid (¬ ((w1.heap.size ≤ w2.heap.size ∧ w2.heap.size < w2.heap.size) ∨ w5.heap.size ≤ w2.heap.size)) := by have := HZ3.out; show ¬ _; omega
              go_wp2_with (first | (at_builtin; refine wpList_app _ elemInt rfl _ _ rfl rfl ROW1.out rfl SRC1.out (by omega) ?_; intro v6 w6 happ6; have hk6 := happ6.grown HK1.out (fun b hb => .inl (.inl (HGC.out b hb))); have q36 : w6.cell? ⟨w2.heap.size, 3, none⟩ = some (.slice ea j ecap) := (HA5.out.kept hk6 HNA.out).cell 3; obtain ⟨a6, cap6, rfl⟩ := Row.sliceOf happ6.row; have HK6 := hid hk6; have ROW2 := hid ((HRE1.out.kept happ6.kept HNE.out).alloc (.cells #[.bool false, .int .i64 0, .int .i64 7, .int .i64 0, .int .i64 0, .bool false, .int .i64 0, .int .i64 7, .int .i64 0, .int .i64 0] 32)); have SRC2 := hid (Src.new w6 32 [.bool false, .int .i64 0, .int .i64 7, .int .i64 0, .int .i64 0, .bool false, .int .i64 0, .int .i64 7, .int .i64 0, .int .i64 0] 2 5 rfl (by simp [Value.oneCell'])); clear hk6 happ6) | (at_builtin; refine wpList_app _ elemEntry rfl _ _ rfl rfl ROW2.out rfl SRC2.out (by omega) ?_; intro v7 w7 happ7; have hk7 := happ7.grown (HK6.out.alloc _) (fun b hb => .inl (.inl (HGE.out b hb))); obtain ⟨a7, cap7, rfl⟩ := Row.sliceOf happ7.row; have HK7 := hid hk7; clear hk7 happ7))
              have hA := HA5.out.kept HK7.out HNA.out
              have hB := HB5.out.kept HK7.out (by have := HZ3.out; have := HZ5.out; omega)
              have hC2 := HC2.out.kept HK7.out (fun b hb h => by have := HC2b.out b hb; have := HZ3.out; omega)
              have hE2 := HE2.out.kept HK7.out (fun b hb h => by have := HE2b.out b hb; have := HZ3.out; omega)
              have hT7 := HT5.out.kept' HK7.out (fun b hb h => by have := HTLT.out b hb; omega)
              have hcell : ∀ W', Kept Nil w7 W' → W'.cell? ⟨w2.heap.size, 2, none⟩ = some (.slice ca k ccap) ∧ W'.cell? ⟨w2.heap.size, 3, none⟩ = some (.slice ea j ecap) ∧ W'.cell? ⟨w4.heap.size, 0, none⟩ = some (.int .i64 T.log) ∧ W'.cell? ⟨w4.heap.size, 1, none⟩ = some (.int .i64 (widthOf T.log)) ∧
                  W'.cell? ⟨w4.heap.size, 2, none⟩ = some (.slice cb k cbcap) ∧ W'.cell? ⟨w4.heap.size, 3, none⟩ = some (.slice eb j ebcap) ∧ W'.cell? ⟨w4.heap.size, 4, none⟩ = some (.int .i64 T.live) ∧ W'.cell? ⟨w4.heap.size, 5, none⟩ = some (.int .i64 T.births) ∧ W'.cell? ⟨w4.heap.size, 6, none⟩ = some (.int .i64 T.made) :=
                fun W' hk => ⟨(hA.kept hk id).cell 2, (hA.kept hk id).cell 3, (hB.kept hk id).cell 0, (hB.kept hk id).cell 1, (hB.kept hk id).cell 2, (hB.kept hk id).cell 3, (hB.kept hk id).cell 4, (hB.kept hk id).cell 5, (hB.kept hk id).cell 6⟩
              have hsight := fun W' (hk : Kept Nil w7 W') => sight_any none t c r sv T W' (hT7.kept' hk (fun _ _ => id)) (by have := HM.out; omega)
              have hlz : T.cells.length ≤ 100000 := by have := HN.out; omega
              have hle : T.ents.length ≤ 100000 := by have := HM.out; omega
              have hsame := fun W' (hk : Kept Nil w7 W') (c3 e3 : Value) (h3 : Row W' 32 5 e3 T.ents.length (flat T.ents)) (h4 : Row W' 3 1 c3 T.cells.length (T.cells.map (Value.int .i64))) =>
                sight_same T.log (widthOf T.log) T.live T.births T.made (.slice cb T.cells.length cbcap) (.slice eb T.ents.length ebcap) c3 e3 T.cells T.ents W' hle hlz (hE2.kept hk (fun _ _ => id)) h3 (hC2.kept hk (fun _ _ => id)) h4
              rw [← HN.out, ← HM.out] at hsame
              have HCELL := hid hcell
              have HSIGHT := hid hsight
              have HSAME := hid hsame
              have HKF := hid (HKW5.out.trans (HK7.out.mono (R' := fun b => w1.heap.size ≤ b) (fun b hb h => by omega)) (fun b hb h => by omega))
              clear hA hB hC2 hE2 hT7 hcell hsight hsame hlz hle
              have kz : Kept Nil w7 w7.drew := (Kept.refl _ _).drew
              have hwk : IntKind.i64.wrap ((k : Int) + 2) = (k : Int) + 2 := IntWalk.i64_in _ (by omega)
              have hwj : IntKind.i64.wrap ((j : Int) + 2) = (j : Int) + 2 := IntWalk.i64_in _ (by omega)
              go_region_held3 (fun W' => Kept Nil w7 W' ∧ W'.cell? ⟨w2.heap.size, 2, none⟩ = some (.slice ca k ccap) ∧ W'.cell? ⟨w2.heap.size, 3, none⟩ = some (.slice ea j ecap) ∧ W'.cell? ⟨w4.heap.size, 0, none⟩ = some (.int .i64 T.log) ∧ W'.cell? ⟨w4.heap.size, 1, none⟩ = some (.int .i64 (widthOf T.log)) ∧
                  W'.cell? ⟨w4.heap.size, 2, none⟩ = some (.slice cb k cbcap) ∧ W'.cell? ⟨w4.heap.size, 3, none⟩ = some (.slice eb j ebcap) ∧ W'.cell? ⟨w4.heap.size, 4, none⟩ = some (.int .i64 T.live) ∧ W'.cell? ⟨w4.heap.size, 5, none⟩ = some (.int .i64 T.births) ∧ W'.cell? ⟨w4.heap.size, 6, none⟩ = some (.int .i64 T.made))
                (first | with_reducible exact ⟨kz, HCELL.out _ kz⟩ | with_reducible exact ⟨kw1, HCELL.out _ kw1⟩ | with_reducible exact ⟨kw2, HCELL.out _ kw2⟩ | with_reducible exact ⟨kw3, HCELL.out _ kw3⟩ | fail)
                ((first
                  | (go_at_call 23; refine (HSIGHT.out _ kz).mono ?_; rintro e W1 ⟨c3, e3, rfl, r1, -, r2, -, k1⟩; rw [← HN.out] at r1; rw [← HM.out] at r2; have kw1 : Kept Nil w7 W1 := kz.trans k1 (fun _ _ h => h))
                  | (go_at_call 24; refine (HSAME.out _ kw1 _ _ r2 r1).mono ?_; rintro e W2 ⟨rfl, k2⟩; have kw2 : Kept Nil w7 W2 := kw1.trans k2 (fun _ _ h => h))
                  | (go_at_call 21; refine (awake_any _).mono ?_; rintro e W3 ⟨rfl, k3⟩; have kw3 : Kept Nil w7 W3 := kw2.trans k3 (fun _ _ h => h))))
              all_goals
                go_wp2
                go_ret
                exact ⟨rfl, (HKF.out.trans kw3 (fun _ _ h => h.elim)).mono (fun b hb h => by omega)⟩
    · have b0 : (n0 : Int) ≤ 300 := by omega
      have b1 : (300 : Int) < (n1 : Int) := by omega
      go_enter Try.func4, Try.ntmps4
      go_wp2_with (go_at_call 21; refine (awake_any w).mono ?_; rintro e w1 ⟨rfl, hk1⟩)
      go_ret
      exact ⟨rfl, hk1⟩
  · have b0 : (300 : Int) < (n0 : Int) := by omega
    go_enter Try.func4, Try.ntmps4
    go_wp2_with (go_at_call 21; refine (awake_any w).mono ?_; rintro e w1 ⟨rfl, hk1⟩)
    go_ret
    exact ⟨rfl, hk1⟩

end Go.Proofs.Ytbbkljgeddjghaa
