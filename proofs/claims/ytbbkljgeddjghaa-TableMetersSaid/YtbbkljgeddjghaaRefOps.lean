/-
  What is proved: walks of the document's answer for chapter 7: there, Put, At, Kill, Clear.
-/
import Derived.Test.YtbbkljgeddjghaaRefAll
namespace Go.Lx
/-- Cells that hold a number, turned to Dead up to a place. -/
def deadTo (cs : List Int) (n : Int) (k : Nat) : List Int := (cs.take k).map (fun v => if v = n then -2 else v) ++ cs.drop k
theorem deadTo_zero (cs : List Int) (n : Int) : deadTo cs n 0 = cs := by simp [deadTo]
theorem deadTo_len (cs : List Int) (n : Int) (k : Nat) : (deadTo cs n k).length = cs.length := by simp [deadTo]; omega
theorem deadTo_get (cs : List Int) (n : Int) (k : Nat) (v : Int) (hv : cs[k]? = some v) : (deadTo cs n k)[k]? = some v := by
  have hk := (List.getElem?_eq_some_iff.1 hv).1
  unfold deadTo
  rw [List.getElem?_append_right (by simp; omega), List.getElem?_drop]
  simp only [List.length_map, List.length_take]
  rw [show k + (k - min k cs.length) = k by omega]; exact hv
theorem deadTo_succ (cs : List Int) (n : Int) (k : Nat) (v : Int) (hv : cs[k]? = some v) : deadTo cs n (k + 1) = if v = n then (deadTo cs n k).set k (-2) else deadTo cs n k := by
  obtain ⟨hk, rfl⟩ := List.getElem?_eq_some_iff.1 hv
  have hl : ((cs.take k).map (fun v => if v = n then -2 else v)).length = k := by simp; omega
  unfold deadTo
  rw [List.take_succ_eq_append_getElem hk, List.map_append, List.drop_eq_getElem_cons hk]
  split
  · rename_i e
    rw [List.set_append_right _ _ (by omega), hl, Nat.sub_self, List.set_cons_zero]
    simp [e]
  · rename_i e
    simp [e]
theorem deadTo_full (cs : List Int) (n : Int) : deadTo cs n cs.length = cs.map (fun v => if v = n then -2 else v) := by simp [deadTo]
theorem dead_set (cs : List Int) (n : Int) (p : Nat) (hp : cs[p]? = some n) (hu : ∀ a : Nat, cs[a]? = some n → a = p) : cs.map (fun v => if v = n then -2 else v) = cs.set p (-2) := by
  refine List.ext_getElem? fun i => ?_
  rw [List.getElem?_map, List.getElem?_set]
  cases hi : cs[i]? with
  | none =>
    have hl : ¬ i < cs.length := fun h => by rw [List.getElem?_eq_getElem h] at hi; cases hi
    by_cases e : p = i
    · subst e; rw [if_pos rfl, if_neg hl]; rfl
    · rw [if_neg e]; rfl
  | some v =>
    have hl : i < cs.length := (List.getElem?_eq_some_iff.1 hi).1
    by_cases e : p = i
    · subst e
      rw [hp] at hi; cases hi
      rw [if_pos rfl, if_pos hl]; simp
    · rw [if_neg e]
      have hne : v ≠ n := by rintro rfl; exact e (hu i hi).symm
      simp [hne]
/-- What the reference's Kill makes of the cells is what the program's makes of them. -/
theorem GoodT.kill_cells {T : Tab} (h : GoodT T) {n : Nat} {x : Ent} (hx : T.ents[n]? = some x) (hl : x.live = true) : (T.kill (n : Nat)).cells = T.cells.map (fun v => if v = (n : Int) then -2 else v) := by
  obtain ⟨p, hp, hc, -⟩ := h.cg.kill n x hx hl
  rw [dead_set T.cells n p hp (fun a ha => h.cg.uniq n a p ha hp)]
  unfold Tab.kill
  rw [get_of hx hl]
  simp only [Int.toNat_natCast, hc]
end Go.Lx
namespace Go.Proofs.Ytbbkljgeddjghaa
open Go.RowKit Go.Lx Go.Shelf
set_option linter.unusedVariables false
set_option linter.unusedSimpArgs false

set_option maxHeartbeats 400000 in
theorem there_low (b : Nat) (i : Int) (w : World) (hi : i < 0) :
    Calls Try.prog 140 #[.pointer (some ⟨b, 0, none⟩), .int .i64 i] w fun e w' => e = .returned (.bool false) ∧ w = w' := by
  go_enter Try.func140, Try.ntmps140
  go_wp2
  go_ret
  exact ⟨rfl, rfl⟩
set_option maxHeartbeats 400000 in
theorem there_high (b : Nat) (a : Option Addr) (n cap i : Nat) (w : World) (hi : n ≤ i) (h1 : w.cell? ⟨b, 0, none⟩ = some (.slice a n cap)) :
    Calls Try.prog 140 #[.pointer (some ⟨b, 0, none⟩), .int .i64 i] w fun e w' => e = .returned (.bool false) ∧ w = w' := by
  have hi' : (n : Int) ≤ (i : Int) := by omega
  have hi2 : (0 : Int) ≤ (i : Int) := by omega
  go_enter Try.func140, Try.ntmps140
  go_wp2
  go_ret
  exact ⟨rfl, rfl⟩
set_option maxHeartbeats 400000 in
theorem there_in (b g n cap i : Nat) (l : Bool) (w : World) (hi : i < n) (h1 : w.cell? ⟨b, 0, none⟩ = some (.slice (some ⟨g, 0, none⟩) n cap)) (h2 : w.cell? ⟨g, i * 5, none⟩ = some (.bool l)) :
    Calls Try.prog 140 #[.pointer (some ⟨b, 0, none⟩), .int .i64 i] w fun e w' => e = .returned (.bool l) ∧ w = w' := by
  have hi' : (i : Int) < (n : Int) := by omega
  have hi2 : (0 : Int) ≤ (i : Int) := by omega
  go_enter Try.func140, Try.ntmps140
  go_wp2
  go_ret
  exact ⟨rfl, rfl⟩
theorem there_yes (m : Option Nat) (b : Nat) (ev cv : Value) (T : Tab) (w : World) (h : RefAt w m b ev cv T) (i : Int) (x : Ent) (hx : T.get i = some x) :
    Calls Try.prog 140 #[.pointer (some ⟨b, 0, none⟩), .int .i64 i] w fun e w' => e = .returned (.bool true) ∧ w = w' := by
  obtain ⟨n, rfl, hx, hl⟩ := Go.Lx.get_at hx
  obtain ⟨g, cap, hsv, -, -, -, e0, -, -, -, -⟩ := Row.entCells h.ents hx
  rw [hl] at e0
  exact there_in b g _ cap n true w (List.getElem?_eq_some_iff.1 hx).1 (by rw [← hsv]; exact h.head.cell 0) e0
theorem there_no (m : Option Nat) (b : Nat) (ev cv : Value) (T : Tab) (w : World) (h : RefAt w m b ev cv T) (i : Int) (hx : T.get i = none) :
    Calls Try.prog 140 #[.pointer (some ⟨b, 0, none⟩), .int .i64 i] w fun e w' => e = .returned (.bool false) ∧ w = w' := by
  by_cases h0 : i < 0
  · exact there_low b i w h0
  · obtain ⟨k, rfl⟩ := Int.eq_ofNat_of_zero_le (Int.not_lt.1 h0)
    by_cases hk : k < T.ents.length
    · have hy : T.ents[k]? = some T.ents[k] := List.getElem?_eq_getElem hk
      obtain ⟨g, cap, hsv, -, -, -, e0, -, -, -, -⟩ := Row.entCells h.ents hy
      have hd : (T.ents[k]).live = false := by
        cases e : (T.ents[k]).live with
        | false => rfl
        | true => rw [get_of hy e] at hx; cases hx
      rw [hd] at e0
      exact there_in b g _ cap k false w hk (by rw [← hsv]; exact h.head.cell 0) e0
    · obtain ⟨a, cap, hsv⟩ := Row.sliceOf h.ents
      exact there_high b a T.ents.length cap k w (by omega) (by rw [← hsv]; exact h.head.cell 0)

set_option maxHeartbeats 400000 in
theorem put7_no (m : Option Nat) (b : Nat) (ev cv : Value) (T : Tab) (w : World) (h : RefAt w m b ev cv T) (i v : Int) (hx : T.get i = none) :
    Calls Try.prog 92 #[.pointer (some ⟨b, 0, none⟩), .int .i64 i, .int .i64 v] w fun e w' => e = .returned (.int .i64 7) ∧ w = w' := by
  have ht := there_no m b ev cv T w h i hx
  clear h
  go_enter Try.func92, Try.ntmps92
  go_wp2_with (go_at_call 140; refine ht.mono ?_; clear ht; rintro e w' ⟨rfl, rfl⟩)
  go_ret
  exact ⟨rfl, rfl⟩
set_option maxHeartbeats 400000 in
theorem put7_yes (m : Option Nat) (b : Nat) (ev cv : Value) (T : Tab) (w : World) (h : RefAt w m b ev cv T) (i v : Int) (x : Ent) (hx : T.get i = some x) :
    Calls Try.prog 92 #[.pointer (some ⟨b, 0, none⟩), .int .i64 i, .int .i64 v] w fun e w' => e = .returned (.int .i64 0) ∧ RefAt w' m b ev cv (T.put i v) ∧ Kept (rown b ev cv) w w' := by
  have ht := there_yes m b ev cv T w h i x hx
  obtain ⟨n, rfl, hx, hl⟩ := Go.Lx.get_at hx
  have hT : T.put (n : Nat) v = { T with ents := T.ents.set n { x with value := v } } := by unfold Tab.put; rw [get_of hx hl]; simp
  rw [hT]; clear hT
  obtain ⟨g, cap, hsv, q1, q2, hgl, e0, e1, e2, e3, e4⟩ := Row.entCells h.ents hx
  subst hsv
  have c0 : w.cell? ⟨b, 0, none⟩ = some (.slice (some ⟨g, 0, none⟩) T.ents.length cap) := h.head.cell 0
  have f3 := h.ents.frozen (g := g) rfl (n * 5 + 3)
  have hlt := (List.getElem?_eq_some_iff.1 hx).1
  have fin : RefAt (w.setCell ⟨g, n * 5 + 3, none⟩ (.int .i64 v)) m b (.slice (some ⟨g, 0, none⟩) T.ents.length cap) cv { T with ents := T.ents.set n { x with value := v } } := by
    refine ⟨h.head.other (a := ⟨g, n * 5 + 3, none⟩) (h.be (x := g) rfl).symm _, ?_, h.cells.other (a := ⟨g, n * 5 + 3, none⟩) (fun y hy => (h.ec (x := g) rfl hy).symm) _⟩
    have := h.ents.set (g := g) rfl (j := n * 5 + 3) (by rw [flat_len]; omega) (.int .i64 v)
    rw [flat_set _ _ _ x { x with value := v } _ hx (by omega) rfl] at this
    simpa using this
  have hk : Kept (rown b (.slice (some ⟨g, 0, none⟩) T.ents.length cap) cv) w (w.setCell ⟨g, n * 5 + 3, none⟩ (.int .i64 v)) := (Kept.refl _ w).setCell (p := ⟨g, n * 5 + 3, none⟩) (.inl (.inr (.inl rfl))) _
  have FIN := hid fin
  have HK := hid hk
  have hlt' : (n : Int) < (T.ents.length : Int) := by omega
  clear fin hk h hx hl e0 e1 e2 e4
  generalize T.ents.length = ne at *
  go_enter Try.func92, Try.ntmps92
  go_wp2_with (go_at_call 140; refine ht.mono ?_; clear ht; rintro e w' ⟨rfl, rfl⟩)
  go_ret
  exact ⟨rfl, FIN.out, HK.out⟩

set_option maxHeartbeats 400000 in
theorem at7_no (m : Option Nat) (b : Nat) (ev cv : Value) (T : Tab) (w : World) (h : RefAt w m b ev cv T) (i : Int) (hx : T.get i = none) :
    Calls Try.prog 94 #[.pointer (some ⟨b, 0, none⟩), .int .i64 i] w fun e w' => e = .returned (.tuple #[Ent.agg Ent.dead, .int .i64 7]) ∧ Kept Nil w w' := by
  have ht := fun (o : Obj) => there_no m b ev cv T (w.alloc o) (h.kept ((Kept.refl Nil w).alloc o) (fun _ _ => id)) i hx
  have HT := hid ht
  clear h ht
  go_enter Try.func94, Try.ntmps94
  go_wp2_with (go_at_call 140; refine (HT.out _).mono ?_; rintro e w' ⟨rfl, rfl⟩)
  exact bodyPost_ret (v := .tuple #[Ent.agg Ent.dead, .int .i64 7]) (by simp [results, Try.results94, go_sem, Ent.agg, Ent.dead]) rfl ⟨rfl, (Kept.refl _ _).alloc _⟩
set_option maxHeartbeats 400000 in
theorem at7_yes (m : Option Nat) (b : Nat) (ev cv : Value) (T : Tab) (w : World) (h : RefAt w m b ev cv T) (i : Int) (x : Ent) (hx : T.get i = some x) :
    Calls Try.prog 94 #[.pointer (some ⟨b, 0, none⟩), .int .i64 i] w fun e w' => e = .returned (.tuple #[Ent.agg x, .int .i64 0]) ∧ Kept Nil w w' := by
  have ht := fun (o : Obj) => there_yes m b ev cv T (w.alloc o) (h.kept ((Kept.refl Nil w).alloc o) (fun _ _ => id)) i x hx
  obtain ⟨n, rfl, hx, hl⟩ := Go.Lx.get_at hx
  obtain ⟨g, cap, hsv, q1, q2, hgl, e0, e1, e2, e3, e4⟩ := Row.entCells h.ents hx
  subst hsv
  have c0 : w.cell? ⟨b, 0, none⟩ = some (.slice (some ⟨g, 0, none⟩) T.ents.length cap) := h.head.cell 0
  have hbl := h.head.lt
  have hlt := (List.getElem?_eq_some_iff.1 hx).1
  have hlt' : (n : Int) < (T.ents.length : Int) := by omega
  have n1 : ¬ b = w.heap.size := by omega
  have n2 : ¬ g = w.heap.size := by omega
  have HT := hid ht
  clear h ht hx hl
  generalize T.ents.length = ne at *
  go_enter Try.func94, Try.ntmps94
  go_wp2_with (go_at_call 140; refine (HT.out _).mono ?_; rintro e w' ⟨rfl, rfl⟩)
  exact bodyPost_ret (v := .tuple #[Ent.agg x, .int .i64 0]) (by simp [results, Try.results94, go_sem, Ent.agg]) rfl ⟨rfl, (Kept.refl _ _).alloc _⟩

set_option maxHeartbeats 400000 in
theorem kill7_no (m : Option Nat) (b : Nat) (ev cv : Value) (T : Tab) (w : World) (h : RefAt w m b ev cv T) (i : Int) (hx : T.get i = none) :
    Calls Try.prog 93 #[.pointer (some ⟨b, 0, none⟩), .int .i64 i] w fun e w' => e = .returned (.int .i64 7) ∧ w = w' := by
  have ht := there_no m b ev cv T w h i hx
  clear h
  go_enter Try.func93, Try.ntmps93
  go_wp2_with (go_at_call 140; refine ht.mono ?_; clear ht; rintro e w' ⟨rfl, rfl⟩)
  go_ret
  exact ⟨rfl, rfl⟩
set_option maxRecDepth 100000 in
set_option maxHeartbeats 1000000 in
theorem kill7_yes (m : Option Nat) (b : Nat) (ev cv : Value) (T : Tab) (w : World) (h : RefAt w m b ev cv T) (hg : GoodT T) (i : Int) (x : Ent) (hx : T.get i = some x) (hcl : T.cells.length ≤ 100000) (h1 : T.live ≤ 100000) (h2 : T.turn ≤ 100000) (hlen : T.ents.length ≤ 100000) :
    Calls Try.prog 93 #[.pointer (some ⟨b, 0, none⟩), .int .i64 i] w fun e w' => e = .returned (.int .i64 0) ∧ RefAt w' m b ev cv (T.kill i) ∧ Kept (rown b ev cv) w w' := by
  have ht := there_yes m b ev cv T w h i x hx
  obtain ⟨n, rfl, hx', hl⟩ := Go.Lx.get_at hx
  clear hx
  have hx := hx'
  clear hx'
  have hkc := hg.kill_cells hx hl
  obtain ⟨-, -, hke, hkl, hkb⟩ := hg.kill hx hl
  have hkt : (T.kill (n : Nat)).turn = T.turn + 1 ∧ (T.kill (n : Nat)).made = T.made ∧ (T.kill (n : Nat)).log = T.log := by unfold Tab.kill; rw [get_of hx hl]; exact ⟨rfl, rfl, rfl⟩
  obtain ⟨g, cap, hsv, q1, q2, hgl, e0, e1, e2, e3, e4⟩ := Row.entCells h.ents hx
  subst hsv
  obtain ⟨ca, ccap, hcv⟩ := Row.sliceOf h.cells
  subst hcv
  obtain ⟨nc, hnc⟩ : ∃ nc, nc = T.cells.length := ⟨_, rfl⟩
  obtain ⟨ne, hne⟩ : ∃ ne, ne = T.ents.length := ⟨_, rfl⟩
  have hlt := (List.getElem?_eq_some_iff.1 hx).1
  have hlt' : (n : Int) < (ne : Int) := by omega
  have hnb : (n : Int) ≤ 100000 := by omega
  have hl1 : 1 ≤ T.live := by omega
  have H := hid h
  have HNC := hid hnc
  have HNE := hid hne
  have HX := hid hx
  have HKC := hid hkc
  have HKE := hid hke
  have HKL := hid hkl
  have HKB := hid hkb
  have HKT := hid hkt
  rw [← hnc] at hcl
  clear hnc hne hx hkc hke hkl hkb hkt e0 e1 e2 e3 e4 hl hlen hg
  have hhead := H.out.head
  rw [← HNC.out, ← HNE.out] at hhead
  have HHEAD := hid hhead
  clear h hhead hlt
  go_enter Try.func93, Try.ntmps93
  go_wp2_with (go_at_call 140; refine ht.mono ?_; clear ht; rintro e w' ⟨rfl, rfl⟩)
  go_loopw [5] (fun i W => ∃ k : Nat, k ≤ nc ∧ i = .int .i64 k ∧ Row W 3 1 (.slice ca T.cells.length ccap) T.cells.length ((deadTo T.cells n k).map (Value.int .i64)) ∧ Kept (fun x => (Value.slice ca T.cells.length ccap).ownBlock = some x) w W) (fun i _ => nc - (intOf i).toNat)
  case atStart => exact ⟨0, Nat.zero_le _, rfl, by rw [deadTo_zero]; exact H.out.cells, Kept.refl _ _⟩
  case round =>
    obtain ⟨k, hk, rfl, hrow, hkw⟩ := hrel
    have hbr := HHEAD.out.kept hkw (fun e => H.out.bc e rfl)
    have q2 : wr.cell? ⟨b, 2, none⟩ = some (.slice ca nc ccap) := hbr.cell 2
    have q0 : wr.cell? ⟨b, 0, none⟩ = some (.slice (some ⟨g, 0, none⟩) ne cap) := hbr.cell 0
    have HBR := hid hbr
    have HROW := hid hrow
    have HKW := hid hkw
    clear hbr hrow hkw
    by_cases hltk : k < nc
    · obtain ⟨v, hv⟩ : ∃ v, T.cells[k]? = some v := ⟨_, List.getElem?_eq_getElem (by have := HNC.out; omega)⟩
      obtain ⟨g', gcap, hsv, p1, p2⟩ : ∃ g cap, (Value.slice ca T.cells.length ccap) = .slice (some ⟨g, 0, none⟩) T.cells.length cap ∧ T.cells.length ≤ cap ∧ cap ≤ maxLen := by
        rcases HROW.out.form with ⟨_, h0, _⟩ | h
        · have := HNC.out; omega
        · exact h
      have hca : ca = some ⟨g', 0, none⟩ := by simp at hsv; exact hsv.1
      subst hca
      have ck := HROW.out.cell (g := g') (j := k) rfl (by rw [List.getElem?_map, deadTo_get _ _ _ _ hv]; rfl)
      have cf := HROW.out.frozen (g := g') rfl k
      have hs := deadTo_succ T.cells n k v hv
      have hltk' : (k : Int) < (nc : Int) := by omega
      clear hsv hv
      by_cases hvn : v = n
      · subst hvn
        rw [if_pos rfl] at hs
        have HS := hid hs
        clear hs
        go_wp2
        go_roundw
        case rel =>
          refine ⟨k + 1, by omega, by go_num, ?_, HKW.out.setCell (p := ⟨g', k, none⟩) (.inl rfl) _⟩
          rw [HS.out, List.map_set]
          exact HROW.out.set rfl (by rw [List.length_map, deadTo_len, ← HNC.out]; exact hltk) _
        case measure => simp [intOf]; omega
      · rw [if_neg hvn] at hs
        have hvb : (v == (n : Int)) = false := by simpa using hvn
        have HS := hid hs
        clear hs hvn
        go_wp2
        go_roundw
        case rel => exact ⟨k + 1, by omega, by go_num, by rw [HS.out]; exact HROW.out, HKW.out⟩
        case measure => simp [intOf]; omega
    · obtain rfl : k = nc := by omega
      have hents := H.out.ents.kept HKW.out (fun y hy e => H.out.ec hy e rfl)
      have HEN := hid hents
      obtain ⟨g2, cap2, hsv, -, -, -, e0, e1, e2, e3, e4⟩ := Row.entCells hents HX.out
      have hgg : g2 = g := by simp at hsv; exact hsv.1.symm
      subst hgg
      have fz := hents.frozen (g := g2) rfl
      have f0 := fz (n * 5)
      have f1 := fz (n * 5 + 1)
      have f2 := fz (n * 5 + 2)
      have f3 := fz (n * 5 + 3)
      have f4 := fz (n * 5 + 4)
      have d3 : wr.cell? ⟨b, 3, none⟩ = some (.int .i64 T.live) := HBR.out.cell 3
      have d6 : wr.cell? ⟨b, 6, none⟩ = some (.int .i64 T.turn) := HBR.out.cell 6
      have b3 := HBR.out.frozen 3
      have b6 := HBR.out.frozen 6
      have hgb : g2 ≠ b := H.out.be rfl
      have n1 : ¬ g2 = b := hgb
      have n2 : ¬ b = g2 := fun e => hgb e.symm
      clear hents fz hsv
      go_wp2
      have kW : Kept (fun z => z = g2 ∨ z = b) wr (((((((wr.setCell ⟨g2, n * 5, none⟩ (.bool false)).setCell ⟨g2, n * 5 + 1, none⟩ (.int .i64 0)).setCell ⟨g2, n * 5 + 2, none⟩ (.int .i64 0)).setCell ⟨g2, n * 5 + 3, none⟩ (.int .i64 0)).setCell ⟨g2, n * 5 + 4, none⟩ (.int .i64 0)).setCell ⟨b, 3, none⟩ (.int .i64 ((T.live : Int) - 1))).setCell ⟨b, 6, none⟩ (.int .i64 ((T.turn : Int) + 1))) :=
        (((((((Kept.refl (fun z => z = g2 ∨ z = b) wr).setCell (p := ⟨g2, n * 5, none⟩) (.inl (.inl rfl)) _).setCell (p := ⟨g2, n * 5 + 1, none⟩) (.inl (.inl rfl)) _).setCell (p := ⟨g2, n * 5 + 2, none⟩) (.inl (.inl rfl)) _).setCell (p := ⟨g2, n * 5 + 3, none⟩) (.inl (.inl rfl)) _).setCell (p := ⟨g2, n * 5 + 4, none⟩) (.inl (.inl rfl)) _).setCell (p := ⟨b, 3, none⟩) (.inl (.inr rfl)) _).setCell (p := ⟨b, 6, none⟩) (.inl (.inr rfl)) _
      have hr9 := HEN.out.kill (g := g2) rfl HX.out
      have hr9' := (hr9.other (a := ⟨b, 3, none⟩) (fun g' hg' => by cases hg'; exact hgb) (.int .i64 ((T.live : Int) - 1))).other (a := ⟨b, 6, none⟩) (fun g' hg' => by cases hg'; exact hgb) (.int .i64 ((T.turn : Int) + 1))
      have hh9 := ((((HBR.out.other (a := ⟨g2, n * 5, none⟩) hgb.symm (.bool false)).other (a := ⟨g2, n * 5 + 1, none⟩) hgb.symm (.int .i64 0)).other (a := ⟨g2, n * 5 + 2, none⟩) hgb.symm (.int .i64 0)).other (a := ⟨g2, n * 5 + 3, none⟩) hgb.symm (.int .i64 0)).other (a := ⟨g2, n * 5 + 4, none⟩) hgb.symm (.int .i64 0)
      have hh9' := (hh9.set 3 (.int .i64 ((T.live : Int) - 1))).set 6 (.int .i64 ((T.turn : Int) + 1))
      have hc9 := HROW.out.kept kW (fun z hz e => by
        rcases e with e | e
        · exact H.out.ec (x := z) (by rw [e]; rfl) hz rfl
        · exact H.out.bc hz e)
      go_ret
      refine ⟨rfl, ⟨?_, ?_, ?_⟩, ?_⟩
      · have e2 : (((T.kill (n : Nat)).live : Nat) : Int) = (T.live : Int) - 1 := by have := HKL.out; omega
        have e3 : (((T.kill (n : Nat)).turn : Nat) : Int) = (T.turn : Int) + 1 := by rw [HKT.out.1]; simp
        rw [e2, e3, HKB.out, HKT.out.2.1, HKT.out.2.2, ← HNC.out, ← HNE.out]
        exact hh9'
      · rw [HKE.out, List.length_set]; exact hr9'
      · rw [HKC.out, List.length_map, ← deadTo_full, ← HNC.out]
        rw [← HNC.out] at hc9
        exact hc9
      · exact (HKW.out.mono (R' := rown b (.slice (some ⟨g2, 0, none⟩) T.ents.length cap) (.slice ca T.cells.length ccap)) (fun z _ e => .inr (.inr e))).trans kW (fun z _ e => by
          rcases e with e | e
          · exact .inr (.inl (by rw [e]; rfl))
          · exact .inl e)

end Go.Proofs.Ytbbkljgeddjghaa
