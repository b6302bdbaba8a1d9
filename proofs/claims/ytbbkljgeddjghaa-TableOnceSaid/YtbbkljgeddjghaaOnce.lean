/-
  What is proved: the walk of lexiconlaw7's TableOnce: it answers true.
-/
import Derived.Test.YtbbkljgeddjghaaSeeks
import Derived.Test.YtbbkljgeddjghaaRef5
namespace Go.Proofs.Ytbbkljgeddjghaa
open Go.RowKit Go.Lx Go.Shelf
set_option linter.unusedVariables false
set_option linter.unusedSimpArgs false

/-- Next, where the first cell holds the entry that is sought. -/
theorem next_first (t c r s n : Nat) (sv : Value) (T : Tab) (hash : Int) (x : Ent) (w : World) (h : TabAt w none t c r sv T) (hg : GoodT T) (hs : SeekAt w s t T.log hash 0 T.turn 0 (-1) false)
    (hx : T.ents[n]? = some x) (hh : x.hash = hash) (hc : T.cells[tc T.log hash 0]? = some (n : Int)) :
    Calls Try.prog 30 #[.pointer (some ⟨s, 0, none⟩)] w fun e w' => e = .returned (.tuple #[.int .i64 n, .bool true]) ∧ SeekAt w' s t T.log hash 1 T.turn 1 n false ∧ Kept (fun b => b = s) w w' := by
  obtain ⟨E, h1, h2, h3, h4⟩ := (Sought.start T hash).blank hg
  have h15 := le_two T.log h.cells.hi
  refine (next_in none ⟨0, 0, 0, 0⟩ t c r s 0 E sv T hash 0 (-1) w h trivial hs (by simp) (by omega) (by omega) h2 h3 (by omega) (fun i v hv => (hg.cell_ok i v hv).1)).mono ?_
  rintro e w' ⟨k, hk1, hk2, hp, hc', -, hk⟩
  have hk0 : k = 0 := by
    by_cases e : k = 0
    · exact e
    · exfalso
      obtain ⟨u, hu, hu1, hu2⟩ := hp 0 (Nat.le_refl _) (by omega)
      rw [hc] at hu; cases hu
      exact hu2 x (by omega) (by simpa using hx) hh
  subst hk0
  rcases hc' with ⟨hb, _, _⟩ | ⟨v, y, hv, hlt, hy, hyh, he, hsk⟩
  · rw [hc] at hb; simp at hb <;> omega
  · rw [hc] at hv; cases hv
    exact ⟨he, by simpa using hsk, hk.mono (fun b hb h => h.elim id (fun h => by cases h))⟩

/-- The first cells of the first so many entries are apart. -/
def ApartTo (T : Tab) (i : Nat) : Prop := ∀ (a b : Nat) (x y : Ent), b < a → a < i → T.lives[a]? = some x → T.lives[b]? = some y → tc T.log x.hash 0 ≠ tc T.log y.hash 0

set_option maxRecDepth 100000 in
set_option maxHeartbeats 4000000 in
theorem once_walk (a0 : Option Addr) (n0 c0 : Nat) (z0 : List Int) (w : World) (h0 : Ints w a0 n0 z0) :
    Calls Try.prog 7 #[.slice a0 n0 c0] w fun e w' => e = .returned (.bool true) ∧ Kept Nil w w' := by
  by_cases hn0 : n0 ≤ 300
  · have hl := laid_any a0 none n0 c0 0 0 z0 [] w h0 ⟨.inl rfl⟩ hn0
    have b0 : (n0 : Int) ≤ 300 := by omega
    have hfd := Try.sightField0
    clear h0
    go_enter Try.func7, Try.ntmps7
    go_wp2_with (go_at_call 22; refine hl.mono ?_; clear hl; rintro e w1 ⟨t, c, r, sv, wv, T, rfl, hla⟩; obtain ⟨wa, wcap, rfl⟩ := Row.sliceOf hla.row)
    obtain ⟨q, hq⟩ : ∃ q, q = T.lives.length := ⟨_, rfl⟩
    have hq3 : q ≤ 300 := by have h1 := hla.live_le; have h2 := hla.good.live; omega
    have hall : T.lives = T.ents := List.filter_eq_self.2 (hla.all (by trivial))
    have HALL := hid hall
    have HLA := hid hla
    have HQ := hid hq
    rw [← hq]
    clear hla hq hall
    go_at_call 23
    refine (sight_any none t c r sv T w1 HLA.out.tab (by have := HLA.out.ents; omega)).mono ?_
    rintro e w2 ⟨csv, esv, rfl, -, -, -, -, hk2⟩
    have HLA2 := hid (HLA.out.on hk2)
    clear hk2
    obtain ⟨lg, hlg⟩ : ∃ lg, lg = T.log := ⟨_, rfl⟩
    have hlg15 : lg ≤ 15 := by rw [hlg]; exact HLA.out.tab.cells.hi
    have HLG := hid hlg
    rw [← hlg]
    clear hlg
    go_wp2
    go_loopw [7] (fun i W => ∃ k : Nat, k ≤ q ∧ i = .int .i64 k ∧ ApartTo T k ∧ Kept Nil w2 W) (fun i _ => q - (intOf i).toNat)
    case atStart => exact ⟨0, Nat.zero_le _, rfl, fun a b x y h1 h2 => by omega, Kept.refl _ _⟩
    case round =>
      obtain ⟨i, hi, rfl, hap, hkw⟩ := hrel
      obtain ⟨wq, rfl⟩ : ∃ wq, wq = wr := ⟨_, rfl⟩
      have HAP := hid hap
      have HK := hid hkw
      have HLW := hid (HLA2.out.on hkw)
      clear hap hkw
      by_cases hlti : i < q
      · obtain ⟨x, hx⟩ : ∃ x, T.lives[i]? = some x := ⟨_, List.getElem?_eq_getElem (by have := HQ.out; omega)⟩
        have hlti' : (i : Int) < (q : Int) := by omega
        have HX := hid hx
        clear hx
        go_wp2
        go_loopw [8] (fun j W => ∃ k : Nat, k ≤ i ∧ j = .int .i64 k ∧ (∀ (b : Nat) (y : Ent), b < k → T.lives[b]? = some y → tc T.log x.hash 0 ≠ tc T.log y.hash 0) ∧ Kept Nil wq W) (fun j _ => i - (intOf j).toNat)
        case atStart => exact ⟨0, Nat.zero_le _, rfl, fun b y h1 => by omega, Kept.refl _ _⟩
        case round =>
          obtain ⟨k, hk, rfl, hne, hkw⟩ := hrel
          have HNE := hid hne
          have HKR := hid hkw
          have hrw := (HLW.out.on hkw).row
          clear hne hkw
          by_cases hltk : k < i
          · obtain ⟨y, hy⟩ : ∃ y, T.lives[k]? = some y := ⟨_, List.getElem?_eq_getElem (by have := HQ.out; omega)⟩
            obtain ⟨g, cc, hsv, q1, q2, hgl, e0, e1, -, -, -⟩ := Row.entCells hrw HX.out
            obtain ⟨g', cc', hsv', q3, q4, hgl', f0, f1, -, -, -⟩ := Row.entCells hrw hy
            have hwa : wa = some ⟨g, 0, none⟩ := by simp at hsv; exact hsv.1
            have hgg : g' = g := by rw [hwa] at hsv'; simp at hsv'; exact hsv'.1.symm
            subst hwa
            subst hgg
            have hltk' : (k : Int) < (i : Int) := by omega
            have hltk2 : (k : Int) < (q : Int) := by omega
            have HY := hid hy
            have hne0 : decide (tc lg x.hash 0 = tc lg y.hash 0) = true ∨ decide (tc lg x.hash 0 = tc lg y.hash 0) = false := by cases decide (tc lg x.hash 0 = tc lg y.hash 0) <;> simp
            clear hsv hsv' hy hrw
            rcases hne0 with hd | hd
            · have hbb : (((tc lg x.hash 0 : Nat) : Int) == ((tc lg y.hash 0 : Nat) : Int)) = true := by rw [of_decide_eq_true hd]; exact beq_self_eq_true _
              clear hd
              go_wp2_with fail
              go_quiet ((go_at_call 33; exact Calls.quiet_of_same ((first5_any _ _ _ hlg15).mono fun e w' ⟨h1, h2⟩ => ⟨h1, h2.symm⟩)))
              go_wp2_with (go_at_call 21; refine (awake_any _).mono ?_; rintro e w9 ⟨rfl, hk9⟩)
              go_ret
              exact ⟨rfl, ((HLW.out.kept.trans HKR.out (fun _ _ h => h)).drewN _).trans hk9 (fun _ _ h => h)⟩
            · have hne1 : tc lg x.hash 0 ≠ tc lg y.hash 0 := of_decide_eq_false hd
              have HNE1 := hid hne1
              have hbb : (((tc lg x.hash 0 : Nat) : Int) == ((tc lg y.hash 0 : Nat) : Int)) = false := by rw [beq_eq_false_iff_ne]; intro e; exact hne1 (Int.ofNat_inj.1 e)
              clear hd hne1
              go_wp2_with fail
              go_quiet ((go_at_call 33; exact Calls.quiet_of_same ((first5_any _ _ _ hlg15).mono fun e w' ⟨h1, h2⟩ => ⟨h1, h2.symm⟩)))
              go_wp2
              go_roundw
              case rel =>
                refine ⟨k + 1, by omega, by go_num, ?_, HKR.out.drewN _⟩
                intro b z hb hz
                by_cases e : b = k
                · subst e
                  have := HY.out
                  rw [hz] at this; cases this
                  rw [← HLG.out]; exact HNE1.out
                · exact HNE.out b z (by omega) hz
              case measure => simp [intOf]; omega
          · obtain rfl : k = i := by omega
            have HAP2 : Hid (ApartTo T (k + 1)) := by
              intro a b x1 y1 hba ha hx1 hy1
              by_cases e : a = k
              · subst e
                have := HX.out
                rw [hx1] at this; cases this
                exact HNE.out b y1 hba hy1
              · exact HAP.out a b x1 y1 hba (by omega) hx1 hy1
            clear hrw
            go_wp2
            go_roundw
            case rel => exact ⟨k + 1, by omega, by go_num, HAP2.out, HK.out.trans HKR.out (fun _ _ h => h)⟩
            case measure => simp [intOf]; omega
      · obtain rfl : i = q := by omega
        have hun : ∀ (a b : Nat) (x y : Ent), T.ents[a]? = some x → T.ents[b]? = some y → a ≠ b → tc T.log x.hash 0 ≠ tc T.log y.hash 0 := by
          intro a b x y hx hy hab
          rw [← HALL.out] at hx hy
          have ha : a < i := by rw [HQ.out]; exact (List.getElem?_eq_some_iff.1 hx).1
          have hb : b < i := by rw [HQ.out]; exact (List.getElem?_eq_some_iff.1 hy).1
          rcases Nat.lt_or_ge b a with h | h
          · exact HAP.out a b x y h ha hx hy
          · exact (HAP.out b a y x (by omega) hb hy hx).symm
        have hfc := HLA.out.good.first_cell (by rw [← HALL.out]; exact fun x hx => (List.mem_filter.1 hx).2) hun
        have HFC := hid hfc
        clear hun hfc
        have hrq := HLW.out
        go_wp2
        go_loopw [9] (fun k W => ∃ j : Nat, j ≤ i ∧ k = .int .i64 j ∧ Kept Nil wq W) (fun k _ => i - (intOf k).toNat)
        case atStart => exact ⟨0, Nat.zero_le _, rfl, Kept.refl _ _⟩
        case round =>
          obtain ⟨j, hj, rfl, hkw⟩ := hrel
          have HKR := hid hkw
          have HLR := hid (hrq.on hkw)
          clear hkw
          by_cases hltj : j < i
          · obtain ⟨x, hx⟩ : ∃ x, T.lives[j]? = some x := ⟨_, List.getElem?_eq_getElem (by have := HQ.out; omega)⟩
            obtain ⟨g, cc, hsv, q1, q2, hgl, e0, e1, e2, e3, e4⟩ := Row.entCells HLR.out.row hx
            have hwa : wa = some ⟨g, 0, none⟩ := by simp at hsv; exact hsv.1
            subst hwa
            have hltj' : (j : Int) < (i : Int) := by omega
            have hxe : T.ents[j]? = some x := by rw [← HALL.out]; exact hx
            have hxl : x.live = true := (List.mem_filter.1 (List.mem_of_getElem? hx)).2
            have hfx := HFC.out j x hxe
            obtain ⟨hh, hhe⟩ : ∃ hh, hh = x.hash := ⟨_, rfl⟩
            rw [← hhe] at hfx e1
            have HHE := hid hhe
            have HFX := hid hfx
            have HXE := hid hxe
            have HXL := hid hxl
            have HX := hid hx
            clear hsv hx hxe hxl hfx hhe
            go_wp2_with fail
            go_at_call 29
            refine (seek_any none t c r sv T hh _ HLR.out.tab).mono ?_
            rintro e w4 ⟨s, rfl, hs, hsk, hk4⟩
            have HLR4 := hid (HLR.out.on hk4)
            have HSK := hid hsk
            have HK4 := hid hk4
            clear hsk hk4
            go_wp2_with fail
            go_at_call 30
            refine (next_first t c r s j sv T hh x w4 HLR4.out.tab HLA.out.good HSK.out HXE.out HHE.out.symm HFX.out).mono ?_
            rintro e w5 ⟨rfl, hsk5, hk5⟩
            have hkr5 : Kept (fun b => wr.heap.size ≤ b) wr w5 := (HK4.out.mono (R' := fun b => wr.heap.size ≤ b) (fun b hb h => h.elim)).trans hk5 (fun b hb e => by subst e; exact hs)
            have hkn5 : Kept Nil wr w5 := hkr5.mono (fun b hb h => absurd hb (by omega))
            have HLR5 := hid (HLR.out.on hkn5)
            have HKN5 := hid hkn5
            have HSK5 := hid hsk5
            clear hk5 hkr5 hkn5 hsk5 e0 e1 e2 e3 e4
            go_wp2_with fail
            go_at_call 31
            refine (at_yes none t c r sv T w5 j x HLR5.out.tab (get_of HXE.out HXL.out)).mono ?_
            rintro e w6 ⟨rfl, hk6⟩
            obtain ⟨g', cc', hsv, q1, q2, hgl, e0, e1, e2, e3, e4⟩ := Row.entCells (HLR5.out.row.kept hk6 (fun _ _ => id)) HX.out
            have hgg : g' = g := by simp at hsv; exact hsv.1.symm
            subst hgg
            have n1 : ¬ g' = w6.heap.size := by omega
            have hsk6 : SeekAt w6 s t T.log hh 1 T.turn 1 j false := Blk.kept HSK5.out hk6 id
            have s5 : w6.cell? ⟨s, 5, none⟩ = some (.int .i64 1) := hsk6.cells.2.2.2.2.1
            have hsl : s < w6.heap.size := World.block_lt_of_cell? _ _ s5
            have n2 : ¬ s = w6.heap.size := by omega
            have HK6 := hid (HKN5.out.trans hk6 (fun _ _ h => h))
            have HSK6 := hid hsk6
            clear hsv hk6 hsk6
            have hvis := fun (o : Obj) (n : Nat) => visited_cell s 1 ((w6.alloc o).drewN n) (((Blk.alloc HSK6.out o).drewN n).cell 5)
            have HVIS := hid hvis
            clear hvis
            unfold Ent.agg
            go_wp2_with fail
            go_quiet ((go_at_call 32; exact Calls.quiet_of_same ((HVIS.out _ _).mono fun e w' ⟨h1, h2⟩ => ⟨h1, h2.symm⟩)))
            go_wp2
            go_roundw
            case rel => exact ⟨j + 1, by omega, by go_num, ((HKR.out.trans HK6.out (fun _ _ h => h)).alloc _).drewN _⟩
            case measure => simp [intOf]; omega
          · obtain rfl : j = i := by omega
            have HKF := hid (HLR.out.kept)
            go_wp2_with (go_at_call 21; refine (awake_any _).mono ?_; rintro e w9 ⟨rfl, hk9⟩)
            go_ret
            exact ⟨rfl, HKF.out.trans hk9 (fun _ _ h => h)⟩
  · have b0 : (300 : Int) < (n0 : Int) := by omega
    go_enter Try.func7, Try.ntmps7
    go_wp2_with (go_at_call 21; refine (awake_any w).mono ?_; rintro e w1 ⟨rfl, hk1⟩)
    go_ret
    exact ⟨rfl, hk1⟩

end Go.Proofs.Ytbbkljgeddjghaa
