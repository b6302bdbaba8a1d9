/-
  What is proved: the walk of lexiconlaw7's TableSeeks: it answers true.
-/
import Derived.Test.YtbbkljgeddjghaaRoom
namespace Go.Proofs.Ytbbkljgeddjghaa
open Go.RowKit Go.Lx Go.Shelf
set_option linter.unusedVariables false
set_option linter.unusedSimpArgs false

/-- Next, of a Seeker that goes along the trail: either all are told, or the next one. -/
theorem next_step (t c r s i : Nat) (sv : Value) (T : Tab) (hash told : Int) (w : World) (h : TabAt w none t c r sv T) (hg : GoodT T) (hs : SeekAt w s t T.log hash i T.turn (i : Nat) told false) (hso : Sought T hash i told) :
    Calls Try.prog 30 #[.pointer (some ⟨s, 0, none⟩)] w fun e w' =>
      ((∃ k : Nat, k < 2 ^ T.log + 12 ∧ (∀ (b : Nat) (y : Ent), IsOf T hash b y → (b : Int) ≤ told) ∧ e = .returned (.tuple #[.int .i64 (-1), .bool false]) ∧ SeekAt w' s t T.log hash k T.turn (k + 1 : Nat) told true) ∨
       (∃ (v : Int) (x : Ent) (k : Nat), 0 ≤ v ∧ told < v ∧ IsOf T hash v.toNat x ∧ (∀ (b : Nat) (y : Ent), IsOf T hash b y → told < b → v ≤ b) ∧ e = .returned (.tuple #[.int .i64 v, .bool true]) ∧ SeekAt w' s t T.log hash (k + 1) T.turn (k + 1 : Nat) v false ∧ Sought T hash (k + 1) v ∧ i ≤ k ∧ (passes T hash told k → False))) ∧
      Kept (fun b => b = s) w w' := by
  obtain ⟨E, h1, h2, h3, h4⟩ := hso.blank hg
  have h15 := le_two T.log h.cells.hi
  refine (next_in none ⟨0, 0, 0, 0⟩ t c r s i E sv T hash (i : Nat) told w h trivial hs (by simp) (by omega) hso.low h2 h3 (by omega) (fun i v hv => (hg.cell_ok i v hv).1)).mono ?_
  rintro e w' ⟨k, hk1, hk2, hp, hc, -, hk⟩
  refine ⟨?_, hk.mono (fun b hb h => h.elim id (fun h => by cases h))⟩
  have e1 : ((i : Nat) : Int) + ((k - i : Nat) : Int) + 1 = ((k + 1 : Nat) : Int) := by omega
  rw [e1] at hc
  rcases hc with ⟨hb, he, hsk⟩ | ⟨v, x, hv, hlt, hx, hh, he, hsk⟩
  · exact .inl ⟨k, by omega, hso.over hg hk1 hp hb, he, hsk⟩
  · obtain ⟨g1, g2, g3, g4⟩ := hso.found hg hk1 hp hv hlt hx hh
    refine .inr ⟨v, x, k, g1, hlt, g2, g3, he, hsk, g4, hk1, ?_⟩
    rintro ⟨u, hu, hu1, hu2⟩
    rw [hv] at hu; cases hu
    exact hu2 x hlt hx hh

theorem lives_len_lt {T : Tab} {b : Nat} {y : Ent} (hy : T.ents[b]? = some y) (hl : y.live = true) : (T.ahead b).length < T.lives.length := by
  rw [lives_at hy hl]; simp

set_option maxRecDepth 100000 in
set_option maxHeartbeats 4000000 in
theorem seeks_walk (a0 a1 : Option Addr) (n0 c0 n1 c1 : Nat) (z0 z1 : List Int) (hash : Int) (w : World) (h0 : Ints w a0 n0 z0) (h1 : Ints w a1 n1 z1) :
    Calls Try.prog 6 #[.slice a0 n0 c0, .slice a1 n1 c1, .int .i64 hash] w fun e w' => e = .returned (.bool true) ∧ Kept Nil w w' := by
  by_cases hn0 : n0 ≤ 300
  · by_cases hn1 : n1 ≤ 300
    · have hl := laid_any a0 a1 n0 c0 n1 c1 z0 z1 w h0 h1 hn0
      have b0 : (n0 : Int) ≤ 300 := by omega
      have b1 : (n1 : Int) ≤ 300 := by omega
      have hfd := Try.sightField2
      clear h0 h1
      go_enter Try.func6, Try.ntmps6
      go_wp2_with (go_at_call 22; refine hl.mono ?_; clear hl; rintro e w1 ⟨t, c, r, sv, wv, T, rfl, hla⟩; obtain ⟨wa, wcap, rfl⟩ := Row.sliceOf hla.row)
      obtain ⟨q, hq⟩ : ∃ q, q = T.lives.length := ⟨_, rfl⟩
      have hq3 : q ≤ 300 := by have h1 := hla.live_le; have h2 := hla.good.live; omega
      have HLA := hid hla
      have HQ := hid hq
      rw [← hq]
      clear hla hq
      go_loopw [10] (fun i W => ∃ k : Nat, k ≤ q + 1 ∧ i = .int .i64 k ∧ Kept Nil w1 W) (fun i _ => q + 1 - (intOf i).toNat)
      case atStart => exact ⟨0, Nat.zero_le _, rfl, Kept.refl _ _⟩
      case round =>
        obtain ⟨k, hk, rfl, hkw⟩ := hrel
        obtain ⟨wq, rfl⟩ : ∃ wq, wq = wr := ⟨_, rfl⟩
        have HLW := hid (HLA.out.on hkw)
        have HK := hid hkw
        by_cases hle : k ≤ q
        · have hle' : (k : Int) ≤ (q : Int) := by omega
          have hbody : ∀ (hh : Int), Calls Try.prog 29 #[.pointer (some ⟨t, 0, none⟩), .int .i64 hh] wq fun e w' => ∃ s, e = .returned (.pointer (some ⟨s, 0, none⟩)) ∧ wq.heap.size ≤ s ∧ SeekAt w' s t T.log hh 0 T.turn 0 (-1) false ∧ Kept Nil wq w' := fun hh => seek_any none t c r sv T hh wq HLW.out.tab
          have HSEEK := hid hbody
          clear hbody hkw
          have hcase : (k = q ∧ ¬ (k : Int) < (q : Int)) ∨ (k < q ∧ (k : Int) < (q : Int)) := by omega
          rcases hcase with ⟨-, hkq⟩ | ⟨hkq0, hkq⟩
          · go_wp2_with fail
            go_at_call 29
            refine (HSEEK.out _).mono ?_
            rintro e w2 ⟨s, rfl, hs, hsk, hk2⟩
            obtain ⟨hh, rfl⟩ : ∃ hh, hh = hash := ⟨_, rfl⟩
            have HSK := hid hsk
            have HK2 := hid hk2
            clear hsk hk2
            go_wp2
            go_loopw [13] (fun i W => ∃ (j p : Nat) (told : Int), j ≤ q ∧ i = .int .i64 j ∧ SeekAt W s t T.log hh p T.turn (p : Nat) told false ∧ Sought T hh p told ∧ ToldTo T hh told j ∧ Kept (fun b => wq.heap.size ≤ b) wq W) (fun i _ => q - (intOf i).toNat)
            case atStart => exact ⟨0, 0, -1, Nat.zero_le _, rfl, HSK.out, Sought.start _ _, ToldTo.start _ _, HK2.out.mono (fun b hb h => h.elim)⟩
            case round =>
              obtain ⟨j, p, told, hj, rfl, hsk, hso, htt, hkw⟩ := hrel
              have hkn : Kept Nil wq wr := hkw.mono (fun b hb h => absurd hb (by omega))
              have HLR := hid (HLW.out.on hkn)
              have HSK2 := hid hsk
              have HSO := hid hso
              have HTT := hid htt
              have HKR := hid hkw
              clear hsk hso htt hkw hkn
              by_cases hltj : j < q
              · obtain ⟨x, hx⟩ : ∃ x, T.lives[j]? = some x := ⟨_, List.getElem?_eq_getElem (by have := HQ.out; omega)⟩
                obtain ⟨n, g1, g2, g3, g4, g5⟩ := HLA.out.good.lives_get hx
                have g3' : (T.ahead n).length = j := by rw [g3, List.length_take]; have := HQ.out; omega
                obtain ⟨g, cc, hsv, q1, q2, hgl, e0, e1, e2, e3, e4⟩ := Row.entCells HLR.out.row hx
                have hwa : wa = some ⟨g, 0, none⟩ := by simp at hsv; exact hsv.1
                subst hwa
                have hltj' : (j : Int) < (q : Int) := by omega
                have G1 := hid g1
                have G2 := hid g2
                have G3 := hid g3'
                have HX := hid hx
                clear g1 g2 g3 g4 g5 g3' hsv hx
                by_cases hxh : x.hash = hh
                · have hne : (x.hash != hh) = false := by simpa using hxh
                  have HXH := hid hxh
                  clear hxh
                  go_wp2_with fail
                  go_at_call 30
                  refine (next_step t c r s p sv T hh told _ HLR.out.tab HLA.out.good HSK2.out HSO.out).mono ?_
                  rintro e w4 ⟨⟨kk, -, hall, -, -⟩ | ⟨v, z, kk, hv0, hlt, hz, hmin, rfl, hsk4, hso4, -, -⟩, hk4⟩
                  · exfalso
                    have h1 := hall n x ⟨G1.out, G2.out, HXH.out⟩
                    have h2 := (HTT.out n x ⟨G1.out, G2.out, HXH.out⟩).1 h1
                    have := G3.out
                    omega
                  · obtain ⟨rfl, htt4⟩ := HTT.out.next G1.out G2.out G3.out HXH.out hv0 hz hlt hmin
                    have hkr4 : Kept (fun b => wq.heap.size ≤ b) wq w4 := HKR.out.trans hk4 (fun b hb e => by subst e; exact hs)
                    have HK4 := hid hkr4
                    have HLR4 := hid (HLW.out.on (hkr4.mono (fun b hb h => absurd hb (by omega))))
                    have HSK4 := hid hsk4
                    have HSO4 := hid hso4
                    have HTT4 := hid htt4
                    clear hk4 hkr4 hsk4 hso4 htt4 hmin hz hlt hv0 e0 e1 e2 e3 e4
                    go_wp2_with fail
                    go_at_call 31
                    refine (at_yes none t c r sv T w4 n x HLR4.out.tab (get_of G1.out G2.out)).mono ?_
                    rintro e w5 ⟨rfl, hk5⟩
                    have hkr5 := HK4.out.trans (hk5.mono (R' := fun b => wq.heap.size ≤ b) (fun b hb h => h.elim)) (fun b hb h => h)
                    have HK5 := hid hkr5
                    obtain ⟨g', cc', hsv, q1, q2, hgl, e0, e1, e2, e3, e4⟩ := Row.entCells (HLR4.out.row.kept hk5 (fun _ _ => id)) HX.out
                    have hgg : g' = g := by simp at hsv; exact hsv.1.symm
                    subst hgg
                    have n1 : ¬ g' = w5.heap.size := by omega
                    have HSK5 : Hid (SeekAt w5 s t T.log hh (kk + 1) T.turn (kk + 1 : Nat) n false) := Blk.kept HSK4.out hk5 id
                    clear hkr5 hk5 hsv
                    unfold Ent.agg
                    go_wp2_with fail
                    go_quiet (fail)
                    go_wp2
                    go_roundw
                    case rel => exact ⟨j + 1, kk + 1, n, by omega, by go_num, (Blk.alloc HSK5.out _).drewN _, HSO4.out, HTT4.out, (HK5.out.alloc _).drewN _⟩
                    case measure => simp [intOf]; omega
                · have hne : (x.hash != hh) = true := by simpa using hxh
                  have HXH := hid hxh
                  clear hxh
                  go_wp2
                  go_roundw
                  case rel => exact ⟨j + 1, p, told, by omega, by go_num, HSK2.out, HSO.out, HTT.out.skip G1.out G2.out G3.out HXH.out, HKR.out⟩
                  case measure => simp [intOf]; omega
              · obtain rfl : j = q := by omega
                go_wp2_with fail
                go_at_call 30
                refine (next_step t c r s p sv T hh told _ HLR.out.tab HLA.out.good HSK2.out HSO.out).mono ?_
                rintro e w4 ⟨⟨kk, hkk, hall, rfl, hsk4⟩ | ⟨v, z, kk, hv0, hlt, hz, hmin, rfl, hsk4, hso4, -, -⟩, hk4⟩
                · have hkr4 : Kept (fun b => wq.heap.size ≤ b) wq w4 := HKR.out.trans hk4 (fun b hb e => by subst e; exact hs)
                  have HK4 := hid hkr4
                  have HLR4 := hid (HLW.out.on (hkr4.mono (fun b hb h => absurd hb (by omega))))
                  obtain ⟨vis, hvis⟩ : ∃ vis, vis = kk + 1 := ⟨_, rfl⟩
                  obtain ⟨nc, hnc⟩ : ∃ nc, nc = T.cells.length := ⟨_, rfl⟩
                  have hnc2 : nc = 2 ^ T.log := by rw [hnc]; exact HLA.out.good.cg.len
                  have hv1 : 1 ≤ vis ∧ vis ≤ nc + 13 ∧ nc ≤ 32768 := by
                    have := le_two T.log HLA.out.tab.cells.hi
                    rw [← hnc2] at hkk this
                    omega
                  have hc5 : w4.cell? ⟨s, 5, none⟩ = some (.int .i64 vis) := by rw [hvis]; exact hsk4.cells.2.2.2.2.1
                  obtain ⟨hv1, hv2, hv3⟩ := hv1
                  have hv1' : ¬ (vis : Int) < 1 := by omega
                  have hv2' : ¬ (nc : Int) + 13 < (vis : Int) := by omega
                  have HNC := hid hnc
                  have hvisit := fun w' (hk : Kept Nil w4 w') => visited_cell s vis w' ((World.cell?_of_block (a := ⟨s, 5, none⟩) (hk.block s (World.block_lt_of_cell? _ _ hc5) id)).trans hc5)
                  have HVIS := hid hvisit
                  clear hall hkk hsk4 hk4 hkr4 hvis hnc hnc2 hc5 hvisit
                  go_wp2_with fail
                  go_at_call 32
                  refine (HVIS.out _ (Kept.refl _ _)).mono ?_
                  rintro e w5 ⟨rfl, rfl⟩
                  go_wp2_with fail
                  go_at_call 23
                  refine (sight_any none t c r sv T _ HLR4.out.tab (by have := HLA.out.ents; omega)).mono ?_
                  rintro e w6 ⟨csv, esv, rfl, hrc, -, -, -, hk6⟩
                  obtain ⟨ca, ccap, rfl⟩ := Row.sliceOf hrc
                  rw [← HNC.out]
                  have hkr6 := HK4.out.trans (hk6.mono (R' := fun b => wq.heap.size ≤ b) (fun b hb h => h.elim)) (fun b hb h => h)
                  have HK6 := hid hkr6
                  have hv6 := HVIS.out _ hk6
                  clear hrc hk6 hkr6
                  go_wp2_with fail
                  go_at_call 32
                  refine hv6.mono ?_
                  clear hv6
                  rintro e w5 ⟨rfl, rfl⟩
                  go_wp2
                  go_roundw
                  case rel => exact ⟨k + 1, by omega, by go_num, HK.out.trans (HK6.out.mono (R' := Nil) (fun b hb h => absurd hb (by omega))) (fun b hb h => h)⟩
                  case measure => simp [intOf]; omega
                · exfalso
                  have := lives_len_lt hz.1 hz.2.1
                  have h2 := (HTT.out _ z hz).2 (by rw [HQ.out]; exact this)
                  omega

          · obtain ⟨y, hy⟩ : ∃ y, T.lives[k]? = some y := ⟨_, List.getElem?_eq_getElem (by have := HQ.out; omega)⟩
            obtain ⟨gy, ccy, hsvy, qy1, qy2, hgly, ey0, ey1, -, -, -⟩ := Row.entCells HLW.out.row hy
            have hway : wa = some ⟨gy, 0, none⟩ := by simp at hsvy; exact hsvy.1
            subst hway
            obtain ⟨hh, hhe⟩ : ∃ hh, hh = y.hash := ⟨_, rfl⟩
            rw [← hhe] at ey1
            clear hsvy hy hhe
            go_wp2_with fail
            go_at_call 29
            refine (HSEEK.out _).mono ?_
            rintro e w2 ⟨s, rfl, hs, hsk, hk2⟩
            clear ey0 ey1
            have HSK := hid hsk
            have HK2 := hid hk2
            clear hsk hk2
            go_wp2
            go_loopw [13] (fun i W => ∃ (j p : Nat) (told : Int), j ≤ q ∧ i = .int .i64 j ∧ SeekAt W s t T.log hh p T.turn (p : Nat) told false ∧ Sought T hh p told ∧ ToldTo T hh told j ∧ Kept (fun b => wq.heap.size ≤ b) wq W) (fun i _ => q - (intOf i).toNat)
            case atStart => exact ⟨0, 0, -1, Nat.zero_le _, rfl, HSK.out, Sought.start _ _, ToldTo.start _ _, HK2.out.mono (fun b hb h => h.elim)⟩
            case round =>
              obtain ⟨j, p, told, hj, rfl, hsk, hso, htt, hkw⟩ := hrel
              have hkn : Kept Nil wq wr := hkw.mono (fun b hb h => absurd hb (by omega))
              have HLR := hid (HLW.out.on hkn)
              have HSK2 := hid hsk
              have HSO := hid hso
              have HTT := hid htt
              have HKR := hid hkw
              clear hsk hso htt hkw hkn
              by_cases hltj : j < q
              · obtain ⟨x, hx⟩ : ∃ x, T.lives[j]? = some x := ⟨_, List.getElem?_eq_getElem (by have := HQ.out; omega)⟩
                obtain ⟨n, g1, g2, g3, g4, g5⟩ := HLA.out.good.lives_get hx
                have g3' : (T.ahead n).length = j := by rw [g3, List.length_take]; have := HQ.out; omega
                obtain ⟨g, cc, hsv, q1, q2, hgl, e0, e1, e2, e3, e4⟩ := Row.entCells HLR.out.row hx
                have hwa : g = gy := by simp at hsv; exact hsv.1.symm
                subst hwa
                have hltj' : (j : Int) < (q : Int) := by omega
                have G1 := hid g1
                have G2 := hid g2
                have G3 := hid g3'
                have HX := hid hx
                clear g1 g2 g3 g4 g5 g3' hsv hx
                by_cases hxh : x.hash = hh
                · have hne : (x.hash != hh) = false := by simpa using hxh
                  have HXH := hid hxh
                  clear hxh
                  go_wp2_with fail
                  go_at_call 30
                  refine (next_step t c r s p sv T hh told _ HLR.out.tab HLA.out.good HSK2.out HSO.out).mono ?_
                  rintro e w4 ⟨⟨kk, -, hall, -, -⟩ | ⟨v, z, kk, hv0, hlt, hz, hmin, rfl, hsk4, hso4, -, -⟩, hk4⟩
                  · exfalso
                    have h1 := hall n x ⟨G1.out, G2.out, HXH.out⟩
                    have h2 := (HTT.out n x ⟨G1.out, G2.out, HXH.out⟩).1 h1
                    have := G3.out
                    omega
                  · obtain ⟨rfl, htt4⟩ := HTT.out.next G1.out G2.out G3.out HXH.out hv0 hz hlt hmin
                    have hkr4 : Kept (fun b => wq.heap.size ≤ b) wq w4 := HKR.out.trans hk4 (fun b hb e => by subst e; exact hs)
                    have HK4 := hid hkr4
                    have HLR4 := hid (HLW.out.on (hkr4.mono (fun b hb h => absurd hb (by omega))))
                    have HSK4 := hid hsk4
                    have HSO4 := hid hso4
                    have HTT4 := hid htt4
                    clear hk4 hkr4 hsk4 hso4 htt4 hmin hz hlt hv0 e0 e1 e2 e3 e4
                    go_wp2_with fail
                    go_at_call 31
                    refine (at_yes none t c r sv T w4 n x HLR4.out.tab (get_of G1.out G2.out)).mono ?_
                    rintro e w5 ⟨rfl, hk5⟩
                    have hkr5 := HK4.out.trans (hk5.mono (R' := fun b => wq.heap.size ≤ b) (fun b hb h => h.elim)) (fun b hb h => h)
                    have HK5 := hid hkr5
                    obtain ⟨g', cc', hsv, q1, q2, hgl, e0, e1, e2, e3, e4⟩ := Row.entCells (HLR4.out.row.kept hk5 (fun _ _ => id)) HX.out
                    have hgg : g' = g := by simp at hsv; exact hsv.1.symm
                    subst hgg
                    have n1 : ¬ g' = w5.heap.size := by omega
                    have HSK5 : Hid (SeekAt w5 s t T.log hh (kk + 1) T.turn (kk + 1 : Nat) n false) := Blk.kept HSK4.out hk5 id
                    clear hkr5 hk5 hsv
                    unfold Ent.agg
                    go_wp2_with fail
                    go_quiet (fail)
                    go_wp2
                    go_roundw
                    case rel => exact ⟨j + 1, kk + 1, n, by omega, by go_num, (Blk.alloc HSK5.out _).drewN _, HSO4.out, HTT4.out, (HK5.out.alloc _).drewN _⟩
                    case measure => simp [intOf]; omega
                · have hne : (x.hash != hh) = true := by simpa using hxh
                  have HXH := hid hxh
                  clear hxh
                  go_wp2
                  go_roundw
                  case rel => exact ⟨j + 1, p, told, by omega, by go_num, HSK2.out, HSO.out, HTT.out.skip G1.out G2.out G3.out HXH.out, HKR.out⟩
                  case measure => simp [intOf]; omega
              · obtain rfl : j = q := by omega
                go_wp2_with fail
                go_at_call 30
                refine (next_step t c r s p sv T hh told _ HLR.out.tab HLA.out.good HSK2.out HSO.out).mono ?_
                rintro e w4 ⟨⟨kk, hkk, hall, rfl, hsk4⟩ | ⟨v, z, kk, hv0, hlt, hz, hmin, rfl, hsk4, hso4, -, -⟩, hk4⟩
                · have hkr4 : Kept (fun b => wq.heap.size ≤ b) wq w4 := HKR.out.trans hk4 (fun b hb e => by subst e; exact hs)
                  have HK4 := hid hkr4
                  have HLR4 := hid (HLW.out.on (hkr4.mono (fun b hb h => absurd hb (by omega))))
                  obtain ⟨vis, hvis⟩ : ∃ vis, vis = kk + 1 := ⟨_, rfl⟩
                  obtain ⟨nc, hnc⟩ : ∃ nc, nc = T.cells.length := ⟨_, rfl⟩
                  have hnc2 : nc = 2 ^ T.log := by rw [hnc]; exact HLA.out.good.cg.len
                  have hv1 : 1 ≤ vis ∧ vis ≤ nc + 13 ∧ nc ≤ 32768 := by
                    have := le_two T.log HLA.out.tab.cells.hi
                    rw [← hnc2] at hkk this
                    omega
                  have hc5 : w4.cell? ⟨s, 5, none⟩ = some (.int .i64 vis) := by rw [hvis]; exact hsk4.cells.2.2.2.2.1
                  obtain ⟨hv1, hv2, hv3⟩ := hv1
                  have hv1' : ¬ (vis : Int) < 1 := by omega
                  have hv2' : ¬ (nc : Int) + 13 < (vis : Int) := by omega
                  have HNC := hid hnc
                  have hvisit := fun w' (hk : Kept Nil w4 w') => visited_cell s vis w' ((World.cell?_of_block (a := ⟨s, 5, none⟩) (hk.block s (World.block_lt_of_cell? _ _ hc5) id)).trans hc5)
                  have HVIS := hid hvisit
                  clear hall hkk hsk4 hk4 hkr4 hvis hnc hnc2 hc5 hvisit
                  go_wp2_with fail
                  go_at_call 32
                  refine (HVIS.out _ (Kept.refl _ _)).mono ?_
                  rintro e w5 ⟨rfl, rfl⟩
                  go_wp2_with fail
                  go_at_call 23
                  refine (sight_any none t c r sv T _ HLR4.out.tab (by have := HLA.out.ents; omega)).mono ?_
                  rintro e w6 ⟨csv, esv, rfl, hrc, -, -, -, hk6⟩
                  obtain ⟨ca, ccap, rfl⟩ := Row.sliceOf hrc
                  rw [← HNC.out]
                  have hkr6 := HK4.out.trans (hk6.mono (R' := fun b => wq.heap.size ≤ b) (fun b hb h => h.elim)) (fun b hb h => h)
                  have HK6 := hid hkr6
                  have hv6 := HVIS.out _ hk6
                  clear hrc hk6 hkr6
                  go_wp2_with fail
                  go_at_call 32
                  refine hv6.mono ?_
                  clear hv6
                  rintro e w5 ⟨rfl, rfl⟩
                  go_wp2
                  go_roundw
                  case rel => exact ⟨k + 1, by omega, by go_num, HK.out.trans (HK6.out.mono (R' := Nil) (fun b hb h => absurd hb (by omega))) (fun b hb h => h)⟩
                  case measure => simp [intOf]; omega
                · exfalso
                  have := lives_len_lt hz.1 hz.2.1
                  have h2 := (HTT.out _ z hz).2 (by rw [HQ.out]; exact this)
                  omega

        · obtain rfl : k = q + 1 := by omega
          have hnle : ¬ ((q : Int) + 1 ≤ (q : Int)) := by omega
          have HKF := hid (HLA.out.kept.trans hkw (fun _ _ h => h))
          clear hkw
          go_wp2_with (go_at_call 21; refine (awake_any _).mono ?_; rintro e w9 ⟨rfl, hk9⟩)
          go_ret
          exact ⟨rfl, HKF.out.trans hk9 (fun _ _ h => h)⟩
    · have b0 : (n0 : Int) ≤ 300 := by omega
      have b1 : (300 : Int) < (n1 : Int) := by omega
      go_enter Try.func6, Try.ntmps6
      go_wp2_with (go_at_call 21; refine (awake_any w).mono ?_; rintro e w1 ⟨rfl, hk1⟩)
      go_ret
      exact ⟨rfl, hk1⟩
  · have b0 : (300 : Int) < (n0 : Int) := by omega
    go_enter Try.func6, Try.ntmps6
    go_wp2_with (go_at_call 21; refine (awake_any w).mono ?_; rintro e w1 ⟨rfl, hk1⟩)
    go_ret
    exact ⟨rfl, hk1⟩

end Go.Proofs.Ytbbkljgeddjghaa
