/-
  What is proved: the walk of the document's answer for chapter 7: Add, where there is room.
-/
import Derived.Test.YtbbkljgeddjghaaRefSight
namespace Go.Proofs.Ytbbkljgeddjghaa
open Go.RowKit Go.Lx Go.Shelf
set_option linter.unusedVariables false
set_option linter.unusedSimpArgs false

set_option maxRecDepth 100000 in
set_option maxHeartbeats 2000000 in
theorem add7_room (m : Option Nat) (b : Nat) (ev cv : Value) (T : Tab) (w : World) (hash key value : Int) (h : RefAt w m b ev cv T) (hg : GoodT T) (h15 : T.log ≤ 15) (hroom : T.ents.length < room T.log) (h1 : T.live ≤ 100000) (h2 : T.turn ≤ 100000) (h3 : T.births ≤ 100000) :
    Calls Try.prog 91 #[.pointer (some ⟨b, 0, none⟩), .int .i64 hash, .int .i64 key, .int .i64 value] w fun e w' =>
      e = .returned (.tuple #[.int .i64 T.ents.length, .int .i64 0]) ∧ ∃ ev', RefAt w' m b ev' cv (T.put1 hash key value) ∧ (∀ x, ev'.ownBlock = some x → ev.ownBlock = some x ∨ w.heap.size ≤ x) ∧ Kept (rown b ev cv) w w' := by
  obtain ⟨a1, cap1, hev⟩ := Row.sliceOf h.ents
  have hrl := room_le T.log
  have hle := le_two T.log h15
  obtain ⟨ne, hne⟩ : ∃ ne, ne = T.ents.length := ⟨_, rfl⟩
  obtain ⟨rm, hrm⟩ : ∃ rm, rm = room T.log := ⟨_, rfl⟩
  have c0 : w.cell? ⟨b, 0, none⟩ = some (.slice a1 ne cap1) := by rw [hne, ← hev]; exact h.head.cell 0
  have c1 : w.cell? ⟨b, 1, none⟩ = some (.int .i64 T.log) := h.head.cell 1
  have c3 : w.cell? ⟨b, 4, none⟩ = some (.int .i64 T.births) := h.head.cell 4
  have f0 := h.head.frozen 0
  have hroom6 := fun W => room6_any T.log W hg.lo h15
  rw [← hrm] at hroom6 hrl
  rw [← hne, ← hrm] at hroom
  have hnr : ¬ (rm : Int) ≤ (ne : Int) := by omega
  have hnb : ne ≤ 32768 := by omega
  have HRM := hid hrm
  have H := hid h
  have HNE := hid hne
  have HEV := hid hev
  have HROOM := hid hroom6
  have hbl := h.head.lt
  clear h hne hev hrm hroom6 hrl hle hroom
  go_enter Try.func91, Try.ntmps91
  go_wp2_with fail
  go_quiet ((go_at_call 87; exact Calls.quiet_of_same ((HROOM.out _).mono fun e w' ⟨h1, h2⟩ => ⟨h1, h2.symm⟩)))
  obtain ⟨W, hW⟩ : ∃ W, W = w.drewN nq := ⟨_, rfl⟩
  have kk : Kept Nil w W := by rw [hW]; exact (Kept.refl _ w).drewN _
  have hcd : decide (rm ≤ ne) = false := by simp; omega
  rw [← hW]
  have d0 : W.cell? ⟨b, 0, none⟩ = some (.slice a1 ne cap1) := (World.cell?_of_block (a := ⟨b, 0, none⟩) (kk.block _ hbl id)).trans c0
  have d3 : W.cell? ⟨b, 4, none⟩ = some (.int .i64 T.births) := (World.cell?_of_block (a := ⟨b, 4, none⟩) (kk.block _ hbl id)).trans c3
  have f0W := (World.frozen?_of_block (a := ⟨b, 0, none⟩) (kk.block _ hbl id)).trans f0
  clear hW c0 c1 c3 f0
  go_wp2_with fail
  obtain ⟨i0, hi, hz0, hz1, hz2⟩ := info_parts Try.infoEntry
  obtain ⟨x, hx⟩ : ∃ x : Ent, x = ⟨true, hash, key, value, T.births⟩ := ⟨_, rfl⟩
  obtain ⟨WA, hWA⟩ : ∃ WA, WA = W.alloc (Obj.cells #[Value.bool true, Value.int IntKind.i64 hash, Value.int IntKind.i64 key, Value.int IntKind.i64 value, Value.int IntKind.i64 T.births] 32) := ⟨_, rfl⟩
  have hkA : Kept Nil W WA := by rw [hWA]; exact (Kept.refl _ W).alloc _
  have hAT : RefAt W m b ev cv T := H.out.kept kk (fun _ _ => id)
  have hATA : RefAt WA m b ev cv T := hAT.kept hkA (fun _ _ => id)
  have hrowA : Row WA 32 5 (.slice a1 ne cap1) ne (flat T.ents) := by have := hATA.ents; rw [HEV.out, ← HNE.out] at this; exact this
  have hnewA : ∀ j u, x.vals[j]? = some u → WA.cell? ((⟨W.heap.size, 0, none⟩ : Addr).add j) = some u := by
    intro j u hu
    rw [show (⟨W.heap.size, 0, none⟩ : Addr).add j = ⟨W.heap.size, j, none⟩ by unfold Addr.add; split <;> simp_all]
    rw [hWA, hx] at *
    rw [(Blk.new W 32 [Value.bool true, Value.int IntKind.i64 hash, Value.int IntKind.i64 key, Value.int IntKind.i64 value, Value.int IntKind.i64 T.births]).cell]
    exact hu
  have h1c : ∀ v ∈ x.vals, v.oneCell' = true := by simp [Ent.vals, Value.oneCell']
  have hblW : b < W.heap.size := hAT.head.lt
  have hgn : ∀ g, (Value.slice a1 ne cap1).ownBlock = some g → g ≠ b := by
    intro g hg
    exact hAT.be (by rw [HEV.out, ← HNE.out]; exact hg)
  have ROWA := hid hrowA
  have NEWA := hid hnewA
  have H1C := hid h1c
  have HX := hid hx
  have HWA := hid hWA
  have HAT := hid hAT
  have HATA := hid hATA
  have GN := hid hgn
  have HKA := hid hkA
  have HK := hid kk
  have hsA := hkA.size
  have dA3 : WA.cell? ⟨b, 4, none⟩ = some (.int .i64 T.births) := hATA.head.cell 4
  rw [hWA] at dA3
  clear hgn hnewA hrowA h1c hx hWA hAT hATA kk
  refine wp_region_held_drew (S := (fun w' : World => w'.cell? ⟨b, 4, none⟩ = some (.int .i64 T.births))) (by kernel_rfl) d3 (fun _ => ?_)
  refine wpAnyH_take (i := 0) (oi := _) (v := ?_) rfl (by kernel_rfl) (by kernel_rfl) (by kernel_rfl) (fun _ _ _ h => h) (Or.inl ⟨by rfl, ?_⟩) (show (fun w' : World => w'.cell? ⟨b, 4, none⟩ = some (.int .i64 T.births)) W.drew from d3) ?_
  rotate_left
  · rintro w' h1; go_simp; with_reducible rfl
  simp only [Act.put, List.setIfInBounds_toArray, List.set_cons_zero, List.set_cons_succ]
  refine wpAnyH_take (i := 1) (oi := _) (v := ?_) rfl (by kernel_rfl) (by kernel_rfl) (by kernel_rfl) (fun _ _ _ h => h) (Or.inl ⟨by rfl, ?_⟩) (show (fun w' : World => w'.cell? ⟨b, 4, none⟩ = some (.int .i64 T.births)) W.drew from d3) ?_
  rotate_left
  · rintro w' h1; go_simp; with_reducible rfl
  simp only [Act.put, List.setIfInBounds_toArray, List.set_cons_zero, List.set_cons_succ]
  refine wpAnyH_take (i := 2) (oi := _) (v := ?_) rfl (by kernel_rfl) (by kernel_rfl) (by kernel_rfl) (fun _ _ _ h => h) (Or.inl ⟨by rfl, ?_⟩) (show (fun w' : World => w'.cell? ⟨b, 4, none⟩ = some (.int .i64 T.births)) W.drew from d3) ?_
  rotate_left
  · rintro w' h1; go_simp; with_reducible rfl
  simp only [Act.put, List.setIfInBounds_toArray, List.set_cons_zero, List.set_cons_succ]
  refine wpAnyH_take (i := 3) (oi := _) (v := ?_) rfl (by kernel_rfl) (by kernel_rfl) (by kernel_rfl) (fun _ _ _ h => h) (Or.inl ⟨by rfl, ?_⟩) (show (fun w' : World => w'.cell? ⟨b, 4, none⟩ = some (.int .i64 T.births)) W.drew from d3) ?_
  rotate_left
  · rintro w' h1; go_simp; with_reducible rfl
  simp only [Act.put, List.setIfInBounds_toArray, List.set_cons_zero, List.set_cons_succ]
  refine wpAnyH_take (i := 5) (oi := _) (v := ?_) rfl (by kernel_rfl) (by kernel_rfl) (by kernel_rfl) (fun _ _ _ h => h) (Or.inl ⟨by rfl, ?_⟩) (show (fun w' : World => w'.cell? ⟨b, 4, none⟩ = some (.int .i64 T.births)) W.drew from d3) ?_
  rotate_left
  · rintro w' h1; go_simp; with_reducible rfl
  simp only [Act.put, List.setIfInBounds_toArray, List.set_cons_zero, List.set_cons_succ]
  refine wpAnyH_take (i := 6) (oi := _) (v := ?_) rfl (by kernel_rfl) (by kernel_rfl) (by kernel_rfl) (fun _ _ _ h => h) (Or.inl ⟨by rfl, ?_⟩) (show (fun w' : World => w'.cell? ⟨b, 4, none⟩ = some (.int .i64 T.births)) W.drew from d3) ?_
  rotate_left
  · rintro w' h1; go_simp; with_reducible rfl
  simp only [Act.put, List.setIfInBounds_toArray, List.set_cons_zero, List.set_cons_succ]
  refine wpAnyH_take (i := 7) (oi := _) (v := ?_) rfl (by kernel_rfl) (by kernel_rfl) (by kernel_rfl) (fun _ _ _ h => h) (Or.inl ⟨by rfl, ?_⟩) (show (fun w' : World => w'.cell? ⟨b, 4, none⟩ = some (.int .i64 T.births)) W.drew from d3) ?_
  rotate_left
  · rintro w' h1; go_simp; with_reducible rfl
  simp only [Act.put, List.setIfInBounds_toArray, List.set_cons_zero, List.set_cons_succ]
  refine wpAnyH_take (i := 8) (oi := _) (v := ?_) rfl (by kernel_rfl) (by kernel_rfl) (by kernel_rfl) (fun _ _ _ h => h) (Or.inl ⟨by rfl, ?_⟩) (show (fun w' : World => w'.cell? ⟨b, 4, none⟩ = some (.int .i64 T.births)) W.drew from d3) ?_
  rotate_left
  · rintro w' h1; go_simp; with_reducible rfl
  simp only [Act.put, List.setIfInBounds_toArray, List.set_cons_zero, List.set_cons_succ]
  refine wpAnyH_take (i := 9) (oi := _) (v := ?_) rfl (by kernel_rfl) (by kernel_rfl) (by kernel_rfl) (fun _ _ _ h => h) (Or.inl ⟨by rfl, ?_⟩) (show (fun w' : World => w'.cell? ⟨b, 4, none⟩ = some (.int .i64 T.births)) W.drew from d3) ?_
  rotate_left
  · rintro w' h1; go_simp; with_reducible rfl
  simp only [Act.put, List.setIfInBounds_toArray, List.set_cons_zero, List.set_cons_succ]
  refine wpAnyH_take (i := 10) (oi := _) (v := ?_) rfl (by kernel_rfl) (by kernel_rfl) (by kernel_rfl) (fun _ _ _ h => h) (Or.inl ⟨by rfl, ?_⟩) (show (fun w' : World => w'.cell? ⟨b, 4, none⟩ = some (.int .i64 T.births)) W.drew from d3) ?_
  rotate_left
  · rintro w' h1; go_simp; with_reducible rfl
  simp only [Act.put, List.setIfInBounds_toArray, List.set_cons_zero, List.set_cons_succ]
  refine wpAnyH_take (i := 11) (oi := _) (v := ?_) rfl (by kernel_rfl) (by kernel_rfl) (by kernel_rfl) (fun _ _ _ h => h) (Or.inl ⟨by rfl, ?_⟩) (show (fun w' : World => w'.cell? ⟨b, 4, none⟩ = some (.int .i64 T.births)) W.drew from d3) ?_
  rotate_left
  · rintro w' h1; go_simp; with_reducible rfl
  simp only [Act.put, List.setIfInBounds_toArray, List.set_cons_zero, List.set_cons_succ]
  refine wpAnyH_take (i := 12) (oi := _) (v := ?_) rfl (by kernel_rfl) (by kernel_rfl) (by kernel_rfl) (fun _ _ _ h => h) (Or.inl ⟨by rfl, ?_⟩) (show (fun w' : World => w'.cell? ⟨b, 4, none⟩ = some (.int .i64 T.births)) W.drew from d3) ?_
  rotate_left
  · rintro w' h1; go_simp; with_reducible rfl
  simp only [Act.put, List.setIfInBounds_toArray, List.set_cons_zero, List.set_cons_succ]
  refine wpAnyH_ready (rs := [4, 13]) (by kernel_rfl) (by simp) (AllReadyH.cons (o := _) rfl (fun K hK => ?_) (AllReadyH.cons (o := _) rfl (fun K hK => ?_) AllReadyH.nil))
  focus
    go_simp
    refine hK.out _ _ d3 (fun _ => ?_)
    refine wpAnyH_ready (rs := [13]) (by kernel_rfl) (by simp) (AllReadyH.cons (o := _) rfl (fun K hK => ?_) AllReadyH.nil)
    go_simp
    refine hK.out _ _ dA3 (fun _ => ?_)
    refine wpAnyH_ready (rs := [14]) (by kernel_rfl) (by simp) (AllReadyH.cons (o := _) rfl (fun K hK => ?_) AllReadyH.nil)
    rw [← HWA.out]
    refine step_append_row WA.drew (by rfl) (.tmp 48) (.tmp 57) 25 (by rfl) 32 i0 _ 5 40 Try.underlying25 hi hz0 hz1 hz2 rfl (by omega) (.slice a1 ne cap1) ne (flat T.ents) (by rfl) ROWA.out.drew ⟨W.heap.size, 0, none⟩ 1 1 x.vals (by rfl) rfl NEWA.out H1C.out (by unfold maxLen; omega) (by omega) (by omega) ?_
    intro v' w2 hrow2 hg2
    obtain ⟨g2, cap2, rfl, hn2, hm2⟩ := hg2.form
    have hbA : b < WA.drew.heap.size := Nat.lt_of_lt_of_le hblW hsA
    have g2b : g2 ≠ b := by
      rcases hg2.own with e | ⟨g, e, hg⟩
      · exact GN.out g2 (by rw [← e]; rfl)
      · simp [Value.ownBlock] at e; subst e; omega
    have hbw : w2.heap[b]? = W.heap[b]? := (hg2.by_.block b hbA (fun e => (GN.out b e.symm) rfl)).trans (HKA.out.block b hblW id)
    have s0 := (World.cell?_of_block (a := ⟨b, 0, none⟩) hbw).trans d0
    have s4 := (World.cell?_of_block (a := ⟨b, 4, none⟩) hbw).trans d3
    have sf0 := (World.frozen?_of_block (a := ⟨b, 0, none⟩) hbw).trans f0W
    have k4 : (w2.setCell ⟨b, 0, none⟩ (.slice (some ⟨g2, 0, none⟩) (ne + 1) cap2)).cell? ⟨b, 4, none⟩ = some (.int .i64 T.births) := (World.cell?_setCell_other _ _ _ _ (by simp)).trans s4
    refine hK.out _ _ s4 (fun _ => ?_)
    refine wpAnyH_take (i := 15) (oi := _) (v := ?_) rfl (by kernel_rfl) (by kernel_rfl) (by kernel_rfl) (fun _ _ _ h => h) (Or.inl ⟨by rfl, ?_⟩) (show (fun w' : World => w'.cell? ⟨b, 4, none⟩ = some (.int .i64 T.births)) w2 from s4) ?_
    rotate_left
    · rintro w' h1; go_simp; with_reducible rfl
    simp only [Act.put, List.setIfInBounds_toArray, List.set_cons_zero, List.set_cons_succ]
    refine wpAnyH_take (i := 16) (oi := _) (v := ?_) rfl (by kernel_rfl) (by kernel_rfl) (by kernel_rfl) (fun _ _ _ h => h) (Or.inl ⟨by rfl, ?_⟩) (show (fun w' : World => w'.cell? ⟨b, 4, none⟩ = some (.int .i64 T.births)) w2 from s4) ?_
    rotate_left
    · rintro w' h1; go_simp; with_reducible rfl
    simp only [Act.put, List.setIfInBounds_toArray, List.set_cons_zero, List.set_cons_succ]
    refine wpAnyH_ready (rs := [17]) (by kernel_rfl) (by simp) (AllReadyH.cons (o := _) rfl (fun K hK => ?_) AllReadyH.nil)
    go_simp
    refine hK.out _ _ k4 (fun _ => ?_)
    refine wpAnyH_done (by kernel_rfl) ?_ _
  rotate_left
  focus
    go_simp
    refine hK.out _ _ dA3 (fun _ => ?_)
    refine wpAnyH_ready (rs := [4]) (by kernel_rfl) (by simp) (AllReadyH.cons (o := _) rfl (fun K hK => ?_) AllReadyH.nil)
    go_simp
    refine hK.out _ _ dA3 (fun _ => ?_)
    refine wpAnyH_ready (rs := [14]) (by kernel_rfl) (by simp) (AllReadyH.cons (o := _) rfl (fun K hK => ?_) AllReadyH.nil)
    rw [← HWA.out]
    refine step_append_row WA.drew (by rfl) (.tmp 48) (.tmp 57) 25 (by rfl) 32 i0 _ 5 40 Try.underlying25 hi hz0 hz1 hz2 rfl (by omega) (.slice a1 ne cap1) ne (flat T.ents) (by rfl) ROWA.out.drew ⟨W.heap.size, 0, none⟩ 1 1 x.vals (by rfl) rfl NEWA.out H1C.out (by unfold maxLen; omega) (by omega) (by omega) ?_
    intro v' w2 hrow2 hg2
    obtain ⟨g2, cap2, rfl, hn2, hm2⟩ := hg2.form
    have hbA : b < WA.drew.heap.size := Nat.lt_of_lt_of_le hblW hsA
    have g2b : g2 ≠ b := by
      rcases hg2.own with e | ⟨g, e, hg⟩
      · exact GN.out g2 (by rw [← e]; rfl)
      · simp [Value.ownBlock] at e; subst e; omega
    have hbw : w2.heap[b]? = W.heap[b]? := (hg2.by_.block b hbA (fun e => (GN.out b e.symm) rfl)).trans (HKA.out.block b hblW id)
    have s0 := (World.cell?_of_block (a := ⟨b, 0, none⟩) hbw).trans d0
    have s4 := (World.cell?_of_block (a := ⟨b, 4, none⟩) hbw).trans d3
    have sf0 := (World.frozen?_of_block (a := ⟨b, 0, none⟩) hbw).trans f0W
    have k4 : (w2.setCell ⟨b, 0, none⟩ (.slice (some ⟨g2, 0, none⟩) (ne + 1) cap2)).cell? ⟨b, 4, none⟩ = some (.int .i64 T.births) := (World.cell?_setCell_other _ _ _ _ (by simp)).trans s4
    refine hK.out _ _ s4 (fun _ => ?_)
    refine wpAnyH_take (i := 15) (oi := _) (v := ?_) rfl (by kernel_rfl) (by kernel_rfl) (by kernel_rfl) (fun _ _ _ h => h) (Or.inl ⟨by rfl, ?_⟩) (show (fun w' : World => w'.cell? ⟨b, 4, none⟩ = some (.int .i64 T.births)) w2 from s4) ?_
    rotate_left
    · rintro w' h1; go_simp; with_reducible rfl
    simp only [Act.put, List.setIfInBounds_toArray, List.set_cons_zero, List.set_cons_succ]
    refine wpAnyH_take (i := 16) (oi := _) (v := ?_) rfl (by kernel_rfl) (by kernel_rfl) (by kernel_rfl) (fun _ _ _ h => h) (Or.inl ⟨by rfl, ?_⟩) (show (fun w' : World => w'.cell? ⟨b, 4, none⟩ = some (.int .i64 T.births)) w2 from s4) ?_
    rotate_left
    · rintro w' h1; go_simp; with_reducible rfl
    simp only [Act.put, List.setIfInBounds_toArray, List.set_cons_zero, List.set_cons_succ]
    refine wpAnyH_ready (rs := [17]) (by kernel_rfl) (by simp) (AllReadyH.cons (o := _) rfl (fun K hK => ?_) AllReadyH.nil)
    go_simp
    refine hK.out _ _ k4 (fun _ => ?_)
    refine wpAnyH_done (by kernel_rfl) ?_ _
  all_goals
    obtain ⟨W2, hW2⟩ : ∃ W2, W2 = w2.setCell ⟨b, 0, none⟩ (.slice (some ⟨g2, 0, none⟩) (ne + 1) cap2) := ⟨_, rfl⟩
    rw [← hW2] at k4 ⊢
    have hevo : ev = .slice a1 ne cap1 := by rw [HEV.out, ← HNE.out]
    have hkw2 : Kept (fun y => ev.ownBlock = some y) W w2 := ((HKA.out.mono (R' := fun y => ev.ownBlock = some y) (fun _ _ h => h.elim)).drew).grown hg2.by_ (fun k e => .inl (by rw [hevo]; exact e))
    have hh := HAT.out
    have hB2 : Blk W2 b 85 [.slice (some ⟨g2, 0, none⟩) (ne + 1) cap2, .int .i64 T.log, cv, .int .i64 T.live, .int .i64 T.births, .int .i64 T.made, .int .i64 T.turn, mptr m] := by
      rw [hW2]; exact (hh.head.kept hkw2 (fun e => hh.be e rfl)).set 0 _
    have hC2 : Row W2 3 1 cv T.cells.length (T.cells.map (Value.int .i64)) := by
      rw [hW2]; exact (hh.cells.kept hkw2 (fun y hy e => hh.ec e hy rfl)).other (a := ⟨b, 0, none⟩) (fun y hy => hh.bc hy) _
    have hE2 : Row W2 32 5 (.slice (some ⟨g2, 0, none⟩) (ne + 1) cap2) (T.ents ++ [x]).length (flat (T.ents ++ [x])) := by
      have e := hrow2.other (a := ⟨b, 0, none⟩) (fun g' hg' => by cases hg'; exact g2b) (.slice (some ⟨g2, 0, none⟩) (ne + 1) cap2)
      rw [hW2, flat_append, List.length_append, ← HNE.out, show flat [x] = x.vals from by simp [flat]]
      exact e
    have hkW2 : Kept (rown b ev cv) W W2 := by rw [hW2]; exact (hkw2.mono (R' := rown b ev cv) (fun _ _ h => .inr (.inl h))).setCell (p := ⟨b, 0, none⟩) (.inl (.inl rfl)) _
    have hown2 : ∀ y, g2 = y → ev.ownBlock = some y ∨ w.heap.size ≤ y := by
      rintro y rfl
      rcases hg2.own with e | ⟨g, e, hg⟩
      · exact .inl (by rw [hevo, ← e]; rfl)
      · have e' : g2 = g := by simp [Value.ownBlock] at e; exact e
        have h9 : WA.drew.heap.size ≤ g := hg
        have h8 : w.heap.size ≤ W.heap.size := HK.out.size
        have h7 : WA.drew.heap.size = WA.heap.size := rfl
        exact .inr (by omega)
    have hcb : ∀ y, cv.ownBlock = some y → y ≠ b ∧ y ≠ g2 := by
      intro y hy
      obtain ⟨cur, hb⟩ := Row.blk hC2 hy
      obtain ⟨cur', hb'⟩ := Row.blk hE2 (g := g2) rfl
      exact ⟨hh.bc hy, hb.ne hb' (by decide)⟩
    have l3 : W2.cell? ⟨b, 3, none⟩ = some (.int .i64 T.live) := hB2.cell 3
    have l6 : W2.cell? ⟨b, 6, none⟩ = some (.int .i64 T.turn) := hB2.cell 6
    have v3 := hB2.frozen 3
    have v4 := hB2.frozen 4
    have v6 := hB2.frozen 6
    have hcg := hg.cg
    have hnlt : T.ents.length < 2 ^ T.log := by have := HNE.out; have := room_lt T.log; have := HRM.out; omega
    obtain ⟨k, hk, hv, hne, hle⟩ := hcg.lay_eq hnlt hash ne
    have HCB := hid hcb
    have HOWN2 := hid hown2
    have HKW2 := hid hkW2
    have HE2 := hid hE2
    have HC2 := hid hC2
    have HB2 := hid hB2
    have HLE := hid hle
    have HNEV := hid hne
    have HV := hid hv
    have HLEN := hid hcg.len
    clear hW2 hrow2 hg2 hkA dA3 s0 s4 sf0 hbw HWA NEWA ROWA hkw2 d0 d3 f0W hown2 hE2 hC2 hB2 hcb hle hne hv hcg hkW2 hh
    go_wp2_with fail
    obtain ⟨W5, hW5⟩ : ∃ W5, W5 = ((W2.setCell ⟨b, 4, none⟩ (.int .i64 ((T.births : Int) + 1))).setCell ⟨b, 3, none⟩ (.int .i64 ((T.live : Int) + 1))).setCell ⟨b, 6, none⟩ (.int .i64 ((T.turn : Int) + 1)) := ⟨_, rfl⟩
    rw [← hW5]
    have hB5 : Blk W5 b 85 [.slice (some ⟨g2, 0, none⟩) (ne + 1) cap2, .int .i64 T.log, cv, .int .i64 ((T.live : Int) + 1), .int .i64 ((T.births : Int) + 1), .int .i64 T.made, .int .i64 ((T.turn : Int) + 1), mptr m] := by
      rw [hW5]; exact ((HB2.out.set 4 _).set 3 _).set 6 _
    have k5 : Kept (fun y => y = b) W2 W5 := by
      rw [hW5]; exact (((Kept.refl (fun y => y = b) W2).setCell (p := ⟨b, 4, none⟩) (.inl rfl) _).setCell (p := ⟨b, 3, none⟩) (.inl rfl) _).setCell (p := ⟨b, 6, none⟩) (.inl rfl) _
    have hC5 := HC2.out.kept k5 (fun y hy => (HCB.out y hy).1)
    have hE5 := HE2.out.kept k5 (fun y hy => by cases hy; exact g2b)
    have hlay := lay7_any m b T.log k ne _ cv ((T.live : Int) + 1) ((T.births : Int) + 1) T.made ((T.turn : Int) + 1) hash T.cells W5 h15 HLEN.out HNEV.out HV.out hB5 hC5
    have HB5 := hid hB5
    have HC5 := hid hC5
    have HE5 := hid hE5
    have HK5 := hid k5
    clear hW5 hB5 hC5 hE5 k5 l3 l6 v3 v4 v6 k4
    go_wp2_with (go_at_call 90; refine hlay.mono ?_; clear hlay; rintro e W6 ⟨rfl, hC6, hk6⟩)
    refine bodyPost_ret (v := .tuple #[.int .i64 ne, .int .i64 0]) (by simp [results, Try.results91, go_sem]) rfl ⟨by rw [HNE.out], .slice (some ⟨g2, 0, none⟩) (ne + 1) cap2, ⟨?_, ?_, ?_⟩, ?_, ?_⟩
    · exact HB5.out.kept hk6 (fun e => (HCB.out b e).1 rfl)
    · have e := HE5.out.kept hk6 (fun y hy e => by cases hy; exact (HCB.out _ e).2 rfl)
      rw [HX.out] at e
      exact e
    · have e : Row W6 3 1 cv (layCells T.cells T.log hash ne).length ((layCells T.cells T.log hash ne).map (Value.int .i64)) := by
        rw [HLE.out, List.length_set]; exact hC6
      rw [HNE.out] at e
      exact e
    · intro y hy
      cases hy
      exact HOWN2.out _ rfl
    · exact (((HK.out.mono (R' := rown b ev cv) (fun _ _ h => h.elim)).trans HKW2.out (fun _ _ h => h)).trans HK5.out (fun _ _ h => .inl h)).trans hk6 (fun _ _ h => .inr (.inr h))

end Go.Proofs.Ytbbkljgeddjghaa
