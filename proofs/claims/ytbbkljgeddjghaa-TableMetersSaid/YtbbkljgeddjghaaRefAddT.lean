/-
  What is proved: the walk of the document's answer for chapter 7: Add, where it must grow.
-/
import Derived.Test.YtbbkljgeddjghaaRefAdd
namespace Go.Proofs.Ytbbkljgeddjghaa
open Go.RowKit Go.Lx Go.Shelf
set_option linter.unusedVariables false
set_option linter.unusedSimpArgs false

set_option maxRecDepth 100000 in
set_option maxHeartbeats 2000000 in
theorem add7_tight (m : Option Nat) (b : Nat) (ev cv : Value) (T : Tab) (w : World) (hash key value : Int) (h : RefAt w m b ev cv T) (hg : GoodT T) (h15 : T.log ≤ 15) (C : Cnt) (hm : RMt w m C) (hroom : T.tight = true) (h5 : T.live ≤ 10000) (h6 : T.made ≤ 100000) (h1 : T.live ≤ 100000) (h2 : T.turn ≤ 100000) (h3 : T.births ≤ 100000) :
    Calls Try.prog 91 #[.pointer (some ⟨b, 0, none⟩), .int .i64 hash, .int .i64 key, .int .i64 value] w fun e w' =>
      e = .returned (.tuple #[.int .i64 T.grow.ents.length, .int .i64 0]) ∧ ∃ ev' cv', RefAt w' m b ev' cv' (T.grow.put1 hash key value) ∧ (∀ x, rown b ev' cv' x → rown b ev cv x ∨ w.heap.size ≤ x) ∧ RMt w' m C.table ∧ Kept (fun x => rown b ev cv x ∨ m = some x) w w' := by
  obtain ⟨a1, cap1, hev⟩ := Row.sliceOf h.ents
  have hrl := room_le T.log
  have hle := le_two T.log h15
  obtain ⟨ne, hne⟩ : ∃ ne, ne = T.ents.length := ⟨_, rfl⟩
  obtain ⟨rm, hrm⟩ : ∃ rm, rm = room T.log := ⟨_, rfl⟩
  have c0 : w.cell? ⟨b, 0, none⟩ = some (.slice a1 ne cap1) := by rw [hne, ← hev]; exact h.head.cell 0
  have c1 : w.cell? ⟨b, 1, none⟩ = some (.int .i64 T.log) := h.head.cell 1
  have c3 : w.cell? ⟨b, 4, none⟩ = some (.int .i64 T.births) := h.head.cell 4
  have f0 := h.head.frozen 0
  have hroom6 := fun W => room6_any T.log W hg.lo h15
  rw [← hrm] at hroom6 hrl
  have hnr : rm = ne := by unfold Tab.tight at hroom; rw [← hne, ← hrm] at hroom; exact (beq_iff_eq.1 hroom).symm
  have hnb : ne ≤ 32768 := by omega
  have hcl : w.cell? ⟨b, 3, none⟩ = some (.int .i64 T.live) := h.head.cell 3
  have HRM := hid hrm
  have H := hid h
  have HNE := hid hne
  have HEV := hid hev
  have HROOM := hid hroom6
  have hbl := h.head.lt
  clear h hne hev hrm hroom6 hrl hle hroom
  go_enter Try.func91, Try.ntmps91
  go_wp2_with fail
  go_quiet ((go_at_call 87; exact Calls.quiet_of_same ((HROOM.out _).mono fun e w' ⟨h1, h2⟩ => ⟨h1, h2.symm⟩)))
  obtain ⟨W, hW⟩ : ∃ W, W = w.drewN nq := ⟨_, rfl⟩
  have kk : Kept Nil w W := by rw [hW]; exact (Kept.refl _ w).drewN _
  have hcd : decide (rm ≤ ne) = true := by simp; omega
  rw [← hW]
  have d0 : W.cell? ⟨b, 0, none⟩ = some (.slice a1 ne cap1) := (World.cell?_of_block (a := ⟨b, 0, none⟩) (kk.block _ hbl id)).trans c0
  have dl : W.cell? ⟨b, 3, none⟩ = some (.int .i64 T.live) := (World.cell?_of_block (a := ⟨b, 3, none⟩) (kk.block _ hbl id)).trans hcl
  obtain ⟨gl, hgl⟩ : ∃ gl, gl = T.grow.log := ⟨_, rfl⟩
  have hg0 := grow_log h5
  rw [← hgl] at hg0
  have HGL := hid hgl
  have HG3 := hid hg0.2.2
  have HM := hid hm
  have HK := hid kk
  clear hW c0 c1 c3 f0 hgl kk
  go_wp2_with fail
  go_loopw [10] (fun i W' => ∃ k : Nat, 3 ≤ k ∧ k ≤ gl ∧ i = .int .i64 k ∧ Kept Nil W W') (fun i _ => gl - (intOf i).toNat)
  case atStart => exact ⟨3, by omega, hg0.1, rfl, Kept.refl _ _⟩
  case round =>
    obtain ⟨k, hk3, hkg, rfl, hkn⟩ := hrel
    have hk20 : k ≤ 20 := by omega
    have hp := wrap_pow20 k hk20
    have hblW : b < W.heap.size := by have := HK.out.size; omega
    have el : wr.cell? ⟨b, 3, none⟩ = some (.int .i64 T.live) := (World.cell?_of_block (a := ⟨b, 3, none⟩) (hkn.block _ hblW id)).trans dl
    obtain ⟨P, hP⟩ : ∃ P, P = 2 ^ k := ⟨_, rfl⟩
    rw [← hP] at hp
    have hleast := fun (h : 3 * T.live ≤ P) => leastLog_le (p := fun l => decide (3 * T.live ≤ 2 ^ l)) hk3 hk20 (by rw [← hP]; simpa using h)
    have HLE := hid hleast
    have HP := hid hP
    have HKN := hid hkn
    clear hleast hP hkn
    have hpp : wrap64 ((2 : Int) ^ k) = (P : Int) := by have e := wrap_pow20 k hk20; have := HP.out; first | (rw [this]; exact_mod_cast e) | (rw [this]; push_cast; exact e) | (rw [this]; simpa using e)
    by_cases hlt : (P : Int) < 3 * (T.live : Int)
    · have hkl : k < gl := by
        rcases Nat.lt_or_ge k gl with h | h
        · exact h
        · have e : k = gl := by omega
          have := hg0.2.2
          rw [← e, ← HP.out] at this
          omega
      go_wp2_with fail
      go_quiet (fail)
      rw [hpp]
      go_wp2_with fail
      go_roundw
      case rel => exact ⟨k + 1, by omega, by omega, rfl, HKN.out.drewN _⟩
      case measure =>
        show gl - (k + 1) < gl - k
        omega
    · have hkl : k = gl := by
        have := HLE.out (by omega)
        have := HGL.out
        have e : T.grow.log = leastLog (fun l => decide (3 * T.live ≤ 2 ^ l)) := rfl
        omega
      have HKL := hid hkl
      clear hkl
      go_wp2_with fail
      go_quiet (fail)
      rw [hpp]
      have HA : Hid (RefAt (wr.drewN nq) m b ev cv T) := hid ((H.out.kept HK.out (fun _ _ => id)).kept (HKN.out.drewN _) (fun _ _ => id))
      have hmW : RMt (wr.drewN nq) m C := (HM.out.kept HK.out (fun _ _ => id)).kept (HKN.out.drewN _) (fun _ _ => id)
      have hall := all7_any m C b k ev cv T (wr.drewN nq) HA.out hmW hk3 (by omega) (by rw [← HNE.out]; omega) (by have := hg.live; have := HKL.out; have := HG3.out; have h99 : T.live ≤ 2 ^ k := (by rw [HKL.out]; omega); omega) h6
      have HK3 : Hid (Kept Nil w (wr.drewN nq)) := hid ((HK.out.trans HKN.out (fun _ _ h => h)).drewN _)
      have hblq : b < (wr.drewN nq).heap.size := HA.out.head.lt
      go_wp2_with (go_at_call 139; refine hall.mono ?_; clear hall; rintro e W3 ⟨rfl, ev1, cv1, hA1, hown1, hM1, hk1⟩; obtain ⟨TG, hTG⟩ : ∃ TG, TG = T.grow := ⟨_, rfl⟩; have hAG : RefAt W3 m b ev1 cv1 TG := (by rw [HKL.out, HGL.out] at hA1; rw [hTG]; exact hA1); obtain ⟨hgG, hgl1, hgr, hg15, hge⟩ := hg.grow h5; rw [← hTG] at hgG hgl1 hgr hg15 hge; have hev1 := Row.sliceOf hAG.ents; obtain ⟨ag, capg, hevg⟩ := hev1; obtain ⟨ng, hng⟩ : ∃ ng, ng = TG.ents.length := ⟨_, rfl⟩; obtain ⟨rg, hrg⟩ : ∃ rg, rg = room TG.log := ⟨_, rfl⟩; have d0 : W3.cell? ⟨b, 0, none⟩ = some (.slice ag ng capg) := (by rw [hng, ← hevg]; exact hAG.head.cell 0); have d3 : W3.cell? ⟨b, 4, none⟩ = some (.int .i64 TG.births) := hAG.head.cell 4; have f0WG := hAG.head.frozen 0; rw [← hng, ← hrg] at hgr; have hnrG : (ng : Int) < (rg : Int) := (by omega); have hlb : TG.births = T.births := (by rw [hTG]; rfl); have hll2 : TG.live = T.live := (by rw [hTG]; rfl); have hlt2 : TG.turn = T.turn := (by rw [hTG]; rfl); have hnbG : ng ≤ 32768 := (by have := room_le TG.log; have := le_two TG.log hg15; omega); have b1 : TG.births ≤ 100000 := (by omega); have b2 : TG.live ≤ 100000 := (by omega); have b3 : TG.turn ≤ 100000 := (by omega); have h15G := hg15; have HAG := hid hAG; have HTG := hid hTG; have HNG := hid hng; have HRMG := hid hrg; have HEVG := hid hevg; have HOWN1 := hid hown1; have HM1 := hid hM1; have HKK1 := hid hk1; clear hAG hTG hng hrg hevg hown1 hM1 hk1 hA1 hgl1 hge hgr hlb hll2 hlt2)
      obtain ⟨i0, hii, hz0, hz1, hz2⟩ := info_parts Try.infoEntry
      obtain ⟨x, hx⟩ : ∃ x : Ent, x = ⟨true, hash, key, value, TG.births⟩ := ⟨_, rfl⟩
      obtain ⟨WA, hWA⟩ : ∃ WA, WA = W3.alloc (Obj.cells #[Value.bool true, Value.int IntKind.i64 hash, Value.int IntKind.i64 key, Value.int IntKind.i64 value, Value.int IntKind.i64 TG.births] 32) := ⟨_, rfl⟩
      have hkA : Kept Nil W3 WA := by rw [hWA]; exact (Kept.refl _ W3).alloc _
      have hAT : RefAt W3 m b ev1 cv1 TG := HAG.out
      have hATA : RefAt WA m b ev1 cv1 TG := hAT.kept hkA (fun _ _ => id)
      have hrowA : Row WA 32 5 (.slice ag ng capg) ng (flat TG.ents) := by have := hATA.ents; rw [HEVG.out, ← HNG.out] at this; exact this
      have hnewA : ∀ j u, x.vals[j]? = some u → WA.cell? ((⟨W3.heap.size, 0, none⟩ : Addr).add j) = some u := by
        intro j u hu
        rw [show (⟨W3.heap.size, 0, none⟩ : Addr).add j = ⟨W3.heap.size, j, none⟩ by unfold Addr.add; split <;> simp_all]
        rw [hWA, hx] at *
        rw [(Blk.new W3 32 [Value.bool true, Value.int IntKind.i64 hash, Value.int IntKind.i64 key, Value.int IntKind.i64 value, Value.int IntKind.i64 TG.births]).cell]
        exact hu
      have h1c : ∀ v ∈ x.vals, v.oneCell' = true := by simp [Ent.vals, Value.oneCell']
      have hblW : b < W3.heap.size := hAT.head.lt
      have hgn : ∀ g, (Value.slice ag ng capg).ownBlock = some g → g ≠ b := by
        intro g hgG
        exact hAT.be (by rw [HEVG.out, ← HNG.out]; exact hgG)
      have ROWA := hid hrowA
      have NEWA := hid hnewA
      have H1C := hid h1c
      have HX := hid hx
      have HWA := hid hWA
      have HAT := hid hAT
      have HATA := hid hATA
      have GN := hid hgn
      have HKA := hid hkA
      have hsA := hkA.size
      have dA3 : WA.cell? ⟨b, 4, none⟩ = some (.int .i64 TG.births) := hATA.head.cell 4
      rw [hWA] at dA3
      clear hgn hnewA hrowA h1c hx hWA hAT hATA
      refine wp_region_held_drew (S := (fun w' : World => w'.cell? ⟨b, 4, none⟩ = some (.int .i64 TG.births))) (by kernel_rfl) d3 (fun _ => ?_)
      refine wpAnyH_take (i := 0) (oi := _) (v := ?_) rfl (by kernel_rfl) (by kernel_rfl) (by kernel_rfl) (fun _ _ _ h => h) (Or.inl ⟨by rfl, ?_⟩) (show (fun w' : World => w'.cell? ⟨b, 4, none⟩ = some (.int .i64 TG.births)) W3.drew from d3) ?_
      rotate_left
      · rintro w' h1; go_simp; with_reducible rfl
      simp only [Act.put, List.setIfInBounds_toArray, List.set_cons_zero, List.set_cons_succ]
      refine wpAnyH_take (i := 1) (oi := _) (v := ?_) rfl (by kernel_rfl) (by kernel_rfl) (by kernel_rfl) (fun _ _ _ h => h) (Or.inl ⟨by rfl, ?_⟩) (show (fun w' : World => w'.cell? ⟨b, 4, none⟩ = some (.int .i64 TG.births)) W3.drew from d3) ?_
      rotate_left
      · rintro w' h1; go_simp; with_reducible rfl
      simp only [Act.put, List.setIfInBounds_toArray, List.set_cons_zero, List.set_cons_succ]
      refine wpAnyH_take (i := 2) (oi := _) (v := ?_) rfl (by kernel_rfl) (by kernel_rfl) (by kernel_rfl) (fun _ _ _ h => h) (Or.inl ⟨by rfl, ?_⟩) (show (fun w' : World => w'.cell? ⟨b, 4, none⟩ = some (.int .i64 TG.births)) W3.drew from d3) ?_
      rotate_left
      · rintro w' h1; go_simp; with_reducible rfl
      simp only [Act.put, List.setIfInBounds_toArray, List.set_cons_zero, List.set_cons_succ]
      refine wpAnyH_take (i := 3) (oi := _) (v := ?_) rfl (by kernel_rfl) (by kernel_rfl) (by kernel_rfl) (fun _ _ _ h => h) (Or.inl ⟨by rfl, ?_⟩) (show (fun w' : World => w'.cell? ⟨b, 4, none⟩ = some (.int .i64 TG.births)) W3.drew from d3) ?_
      rotate_left
      · rintro w' h1; go_simp; with_reducible rfl
      simp only [Act.put, List.setIfInBounds_toArray, List.set_cons_zero, List.set_cons_succ]
      refine wpAnyH_take (i := 5) (oi := _) (v := ?_) rfl (by kernel_rfl) (by kernel_rfl) (by kernel_rfl) (fun _ _ _ h => h) (Or.inl ⟨by rfl, ?_⟩) (show (fun w' : World => w'.cell? ⟨b, 4, none⟩ = some (.int .i64 TG.births)) W3.drew from d3) ?_
      rotate_left
      · rintro w' h1; go_simp; with_reducible rfl
      simp only [Act.put, List.setIfInBounds_toArray, List.set_cons_zero, List.set_cons_succ]
      refine wpAnyH_take (i := 6) (oi := _) (v := ?_) rfl (by kernel_rfl) (by kernel_rfl) (by kernel_rfl) (fun _ _ _ h => h) (Or.inl ⟨by rfl, ?_⟩) (show (fun w' : World => w'.cell? ⟨b, 4, none⟩ = some (.int .i64 TG.births)) W3.drew from d3) ?_
      rotate_left
      · rintro w' h1; go_simp; with_reducible rfl
      simp only [Act.put, List.setIfInBounds_toArray, List.set_cons_zero, List.set_cons_succ]
      refine wpAnyH_take (i := 7) (oi := _) (v := ?_) rfl (by kernel_rfl) (by kernel_rfl) (by kernel_rfl) (fun _ _ _ h => h) (Or.inl ⟨by rfl, ?_⟩) (show (fun w' : World => w'.cell? ⟨b, 4, none⟩ = some (.int .i64 TG.births)) W3.drew from d3) ?_
      rotate_left
      · rintro w' h1; go_simp; with_reducible rfl
      simp only [Act.put, List.setIfInBounds_toArray, List.set_cons_zero, List.set_cons_succ]
      refine wpAnyH_take (i := 8) (oi := _) (v := ?_) rfl (by kernel_rfl) (by kernel_rfl) (by kernel_rfl) (fun _ _ _ h => h) (Or.inl ⟨by rfl, ?_⟩) (show (fun w' : World => w'.cell? ⟨b, 4, none⟩ = some (.int .i64 TG.births)) W3.drew from d3) ?_
      rotate_left
      · rintro w' h1; go_simp; with_reducible rfl
      simp only [Act.put, List.setIfInBounds_toArray, List.set_cons_zero, List.set_cons_succ]
      refine wpAnyH_take (i := 9) (oi := _) (v := ?_) rfl (by kernel_rfl) (by kernel_rfl) (by kernel_rfl) (fun _ _ _ h => h) (Or.inl ⟨by rfl, ?_⟩) (show (fun w' : World => w'.cell? ⟨b, 4, none⟩ = some (.int .i64 TG.births)) W3.drew from d3) ?_
      rotate_left
      · rintro w' h1; go_simp; with_reducible rfl
      simp only [Act.put, List.setIfInBounds_toArray, List.set_cons_zero, List.set_cons_succ]
      refine wpAnyH_take (i := 10) (oi := _) (v := ?_) rfl (by kernel_rfl) (by kernel_rfl) (by kernel_rfl) (fun _ _ _ h => h) (Or.inl ⟨by rfl, ?_⟩) (show (fun w' : World => w'.cell? ⟨b, 4, none⟩ = some (.int .i64 TG.births)) W3.drew from d3) ?_
      rotate_left
      · rintro w' h1; go_simp; with_reducible rfl
      simp only [Act.put, List.setIfInBounds_toArray, List.set_cons_zero, List.set_cons_succ]
      refine wpAnyH_take (i := 11) (oi := _) (v := ?_) rfl (by kernel_rfl) (by kernel_rfl) (by kernel_rfl) (fun _ _ _ h => h) (Or.inl ⟨by rfl, ?_⟩) (show (fun w' : World => w'.cell? ⟨b, 4, none⟩ = some (.int .i64 TG.births)) W3.drew from d3) ?_
      rotate_left
      · rintro w' h1; go_simp; with_reducible rfl
      simp only [Act.put, List.setIfInBounds_toArray, List.set_cons_zero, List.set_cons_succ]
      refine wpAnyH_take (i := 12) (oi := _) (v := ?_) rfl (by kernel_rfl) (by kernel_rfl) (by kernel_rfl) (fun _ _ _ h => h) (Or.inl ⟨by rfl, ?_⟩) (show (fun w' : World => w'.cell? ⟨b, 4, none⟩ = some (.int .i64 TG.births)) W3.drew from d3) ?_
      rotate_left
      · rintro w' h1; go_simp; with_reducible rfl
      simp only [Act.put, List.setIfInBounds_toArray, List.set_cons_zero, List.set_cons_succ]
      refine wpAnyH_ready (rs := [4, 13]) (by kernel_rfl) (by simp) (AllReadyH.cons (o := _) rfl (fun K hK9 => ?_) (AllReadyH.cons (o := _) rfl (fun K hK9 => ?_) AllReadyH.nil))
      focus
        go_simp
        refine hK9.out _ _ d3 (fun _ => ?_)
        refine wpAnyH_ready (rs := [13]) (by kernel_rfl) (by simp) (AllReadyH.cons (o := _) rfl (fun K hK9 => ?_) AllReadyH.nil)
        go_simp
        refine hK9.out _ _ dA3 (fun _ => ?_)
        refine wpAnyH_ready (rs := [14]) (by kernel_rfl) (by simp) (AllReadyH.cons (o := _) rfl (fun K hK9 => ?_) AllReadyH.nil)
        rw [← HWA.out]
        refine step_append_row WA.drew (by rfl) (.tmp 48) (.tmp 57) 25 (by rfl) 32 i0 _ 5 40 Try.underlying25 hii hz0 hz1 hz2 rfl (by omega) (.slice ag ng capg) ng (flat TG.ents) (by rfl) ROWA.out.drew ⟨W3.heap.size, 0, none⟩ 1 1 x.vals (by rfl) rfl NEWA.out H1C.out (by unfold maxLen; omega) (by omega) (by omega) ?_
        intro v' w2 hrow2 hg2
        obtain ⟨g2, cap2, rfl, hn2, hm2⟩ := hg2.form
        have hbA : b < WA.drew.heap.size := Nat.lt_of_lt_of_le hblW hsA
        have g2b : g2 ≠ b := by
          rcases hg2.own with e | ⟨g, e, hgG⟩
          · exact GN.out g2 (by rw [← e]; rfl)
          · simp [Value.ownBlock] at e; subst e; omega
        have hbw : w2.heap[b]? = W3.heap[b]? := (hg2.by_.block b hbA (fun e => (GN.out b e.symm) rfl)).trans (HKA.out.block b hblW id)
        have s0 := (World.cell?_of_block (a := ⟨b, 0, none⟩) hbw).trans d0
        have s4 := (World.cell?_of_block (a := ⟨b, 4, none⟩) hbw).trans d3
        have sf0 := (World.frozen?_of_block (a := ⟨b, 0, none⟩) hbw).trans f0WG
        have k4 : (w2.setCell ⟨b, 0, none⟩ (.slice (some ⟨g2, 0, none⟩) (ng + 1) cap2)).cell? ⟨b, 4, none⟩ = some (.int .i64 TG.births) := (World.cell?_setCell_other _ _ _ _ (by simp)).trans s4
        refine hK9.out _ _ s4 (fun _ => ?_)
        refine wpAnyH_take (i := 15) (oi := _) (v := ?_) rfl (by kernel_rfl) (by kernel_rfl) (by kernel_rfl) (fun _ _ _ h => h) (Or.inl ⟨by rfl, ?_⟩) (show (fun w' : World => w'.cell? ⟨b, 4, none⟩ = some (.int .i64 TG.births)) w2 from s4) ?_
        rotate_left
        · rintro w' h1; go_simp; with_reducible rfl
        simp only [Act.put, List.setIfInBounds_toArray, List.set_cons_zero, List.set_cons_succ]
        refine wpAnyH_take (i := 16) (oi := _) (v := ?_) rfl (by kernel_rfl) (by kernel_rfl) (by kernel_rfl) (fun _ _ _ h => h) (Or.inl ⟨by rfl, ?_⟩) (show (fun w' : World => w'.cell? ⟨b, 4, none⟩ = some (.int .i64 TG.births)) w2 from s4) ?_
        rotate_left
        · rintro w' h1; go_simp; with_reducible rfl
        simp only [Act.put, List.setIfInBounds_toArray, List.set_cons_zero, List.set_cons_succ]
        refine wpAnyH_ready (rs := [17]) (by kernel_rfl) (by simp) (AllReadyH.cons (o := _) rfl (fun K hK9 => ?_) AllReadyH.nil)
        go_simp
        refine hK9.out _ _ k4 (fun _ => ?_)
        refine wpAnyH_done (by kernel_rfl) ?_ _
      rotate_left
      focus
        go_simp
        refine hK9.out _ _ dA3 (fun _ => ?_)
        refine wpAnyH_ready (rs := [4]) (by kernel_rfl) (by simp) (AllReadyH.cons (o := _) rfl (fun K hK9 => ?_) AllReadyH.nil)
        go_simp
        refine hK9.out _ _ dA3 (fun _ => ?_)
        refine wpAnyH_ready (rs := [14]) (by kernel_rfl) (by simp) (AllReadyH.cons (o := _) rfl (fun K hK9 => ?_) AllReadyH.nil)
        rw [← HWA.out]
        refine step_append_row WA.drew (by rfl) (.tmp 48) (.tmp 57) 25 (by rfl) 32 i0 _ 5 40 Try.underlying25 hii hz0 hz1 hz2 rfl (by omega) (.slice ag ng capg) ng (flat TG.ents) (by rfl) ROWA.out.drew ⟨W3.heap.size, 0, none⟩ 1 1 x.vals (by rfl) rfl NEWA.out H1C.out (by unfold maxLen; omega) (by omega) (by omega) ?_
        intro v' w2 hrow2 hg2
        obtain ⟨g2, cap2, rfl, hn2, hm2⟩ := hg2.form
        have hbA : b < WA.drew.heap.size := Nat.lt_of_lt_of_le hblW hsA
        have g2b : g2 ≠ b := by
          rcases hg2.own with e | ⟨g, e, hgG⟩
          · exact GN.out g2 (by rw [← e]; rfl)
          · simp [Value.ownBlock] at e; subst e; omega
        have hbw : w2.heap[b]? = W3.heap[b]? := (hg2.by_.block b hbA (fun e => (GN.out b e.symm) rfl)).trans (HKA.out.block b hblW id)
        have s0 := (World.cell?_of_block (a := ⟨b, 0, none⟩) hbw).trans d0
        have s4 := (World.cell?_of_block (a := ⟨b, 4, none⟩) hbw).trans d3
        have sf0 := (World.frozen?_of_block (a := ⟨b, 0, none⟩) hbw).trans f0WG
        have k4 : (w2.setCell ⟨b, 0, none⟩ (.slice (some ⟨g2, 0, none⟩) (ng + 1) cap2)).cell? ⟨b, 4, none⟩ = some (.int .i64 TG.births) := (World.cell?_setCell_other _ _ _ _ (by simp)).trans s4
        refine hK9.out _ _ s4 (fun _ => ?_)
        refine wpAnyH_take (i := 15) (oi := _) (v := ?_) rfl (by kernel_rfl) (by kernel_rfl) (by kernel_rfl) (fun _ _ _ h => h) (Or.inl ⟨by rfl, ?_⟩) (show (fun w' : World => w'.cell? ⟨b, 4, none⟩ = some (.int .i64 TG.births)) w2 from s4) ?_
        rotate_left
        · rintro w' h1; go_simp; with_reducible rfl
        simp only [Act.put, List.setIfInBounds_toArray, List.set_cons_zero, List.set_cons_succ]
        refine wpAnyH_take (i := 16) (oi := _) (v := ?_) rfl (by kernel_rfl) (by kernel_rfl) (by kernel_rfl) (fun _ _ _ h => h) (Or.inl ⟨by rfl, ?_⟩) (show (fun w' : World => w'.cell? ⟨b, 4, none⟩ = some (.int .i64 TG.births)) w2 from s4) ?_
        rotate_left
        · rintro w' h1; go_simp; with_reducible rfl
        simp only [Act.put, List.setIfInBounds_toArray, List.set_cons_zero, List.set_cons_succ]
        refine wpAnyH_ready (rs := [17]) (by kernel_rfl) (by simp) (AllReadyH.cons (o := _) rfl (fun K hK9 => ?_) AllReadyH.nil)
        go_simp
        refine hK9.out _ _ k4 (fun _ => ?_)
        refine wpAnyH_done (by kernel_rfl) ?_ _
      all_goals
        obtain ⟨W2, hW2⟩ : ∃ W2, W2 = w2.setCell ⟨b, 0, none⟩ (.slice (some ⟨g2, 0, none⟩) (ng + 1) cap2) := ⟨_, rfl⟩
        rw [← hW2] at k4 ⊢
        have hevo : ev1 = .slice ag ng capg := by rw [HEVG.out, ← HNG.out]
        have hkw2 : Kept (fun y => ev1.ownBlock = some y) W3 w2 := ((HKA.out.mono (R' := fun y => ev1.ownBlock = some y) (fun _ _ h => h.elim)).drew).grown hg2.by_ (fun kl e => .inl (by rw [hevo]; exact e))
        have hh := HAT.out
        have hB2 : Blk W2 b 85 [.slice (some ⟨g2, 0, none⟩) (ng + 1) cap2, .int .i64 TG.log, cv1, .int .i64 TG.live, .int .i64 TG.births, .int .i64 TG.made, .int .i64 TG.turn, mptr m] := by
          rw [hW2]; exact (hh.head.kept hkw2 (fun e => hh.be e rfl)).set 0 _
        have hC2 : Row W2 3 1 cv1 TG.cells.length (TG.cells.map (Value.int .i64)) := by
          rw [hW2]; exact (hh.cells.kept hkw2 (fun y hy e => hh.ec e hy rfl)).other (a := ⟨b, 0, none⟩) (fun y hy => hh.bc hy) _
        have hE2 : Row W2 32 5 (.slice (some ⟨g2, 0, none⟩) (ng + 1) cap2) (TG.ents ++ [x]).length (flat (TG.ents ++ [x])) := by
          have e := hrow2.other (a := ⟨b, 0, none⟩) (fun g' hgG' => by cases hgG'; exact g2b) (.slice (some ⟨g2, 0, none⟩) (ng + 1) cap2)
          rw [hW2, flat_append, List.length_append, ← HNG.out, show flat [x] = x.vals from by simp [flat]]
          exact e
        have hkW2 : Kept (rown b ev1 cv1) W3 W2 := by rw [hW2]; exact (hkw2.mono (R' := rown b ev1 cv1) (fun _ _ h => .inr (.inl h))).setCell (p := ⟨b, 0, none⟩) (.inl (.inl rfl)) _
        have hown2 : ∀ y, g2 = y → ev1.ownBlock = some y ∨ w.heap.size ≤ y := by
          rintro y rfl
          rcases hg2.own with e | ⟨g, e, hgG⟩
          · exact .inl (by rw [hevo, ← e]; rfl)
          · have e' : g2 = g := by simp [Value.ownBlock] at e; exact e
            have h9 : WA.drew.heap.size ≤ g := hgG
            have h8 : w.heap.size ≤ W3.heap.size := (Nat.le_trans HK3.out.size HKK1.out.size)
            have h7 : WA.drew.heap.size = WA.heap.size := rfl
            exact .inr (by omega)
        have hcb : ∀ y, cv1.ownBlock = some y → y ≠ b ∧ y ≠ g2 := by
          intro y hy
          obtain ⟨cur, hb⟩ := Row.blk hC2 hy
          obtain ⟨cur', hb'⟩ := Row.blk hE2 (g := g2) rfl
          exact ⟨hh.bc hy, hb.ne hb' (by decide)⟩
        have l3 : W2.cell? ⟨b, 3, none⟩ = some (.int .i64 TG.live) := hB2.cell 3
        have l6 : W2.cell? ⟨b, 6, none⟩ = some (.int .i64 TG.turn) := hB2.cell 6
        have v3 := hB2.frozen 3
        have v4 := hB2.frozen 4
        have v6 := hB2.frozen 6
        have hcg := hgG.cg
        have hnlt : TG.ents.length < 2 ^ TG.log := by have := HNG.out; have := room_lt TG.log; have := HRMG.out; omega
        obtain ⟨kl, hkl1, hv1, hne1, hle1⟩ := hcg.lay_eq hnlt hash ng
        have HCB := hid hcb
        have HOWN2 := hid hown2
        have HKW2 := hid hkW2
        have HE2 := hid hE2
        have HC2 := hid hC2
        have HB2 := hid hB2
        have HLE1 := hid hle1
        have HNEV := hid hne1
        have HV := hid hv1
        have HLEN := hid hcg.len
        clear hW2 hrow2 hg2 hkA dA3 s0 s4 sf0 hbw HWA NEWA ROWA hkw2 d0 d3 f0WG hown2 hE2 hC2 hB2 hcb hle1 hne1 hv1 hcg hkW2 hh
        go_wp2_with fail
        obtain ⟨W5, hW5⟩ : ∃ W5, W5 = ((W2.setCell ⟨b, 4, none⟩ (.int .i64 ((TG.births : Int) + 1))).setCell ⟨b, 3, none⟩ (.int .i64 ((TG.live : Int) + 1))).setCell ⟨b, 6, none⟩ (.int .i64 ((TG.turn : Int) + 1)) := ⟨_, rfl⟩
        rw [← hW5]
        have hB5 : Blk W5 b 85 [.slice (some ⟨g2, 0, none⟩) (ng + 1) cap2, .int .i64 TG.log, cv1, .int .i64 ((TG.live : Int) + 1), .int .i64 ((TG.births : Int) + 1), .int .i64 TG.made, .int .i64 ((TG.turn : Int) + 1), mptr m] := by
          rw [hW5]; exact ((HB2.out.set 4 _).set 3 _).set 6 _
        have k5 : Kept (fun y => y = b) W2 W5 := by
          rw [hW5]; exact (((Kept.refl (fun y => y = b) W2).setCell (p := ⟨b, 4, none⟩) (.inl rfl) _).setCell (p := ⟨b, 3, none⟩) (.inl rfl) _).setCell (p := ⟨b, 6, none⟩) (.inl rfl) _
        have hC5 := HC2.out.kept k5 (fun y hy => (HCB.out y hy).1)
        have hE5 := HE2.out.kept k5 (fun y hy => by cases hy; exact g2b)
        have hlay := lay7_any m b TG.log kl ng _ cv1 ((TG.live : Int) + 1) ((TG.births : Int) + 1) TG.made ((TG.turn : Int) + 1) hash TG.cells W5 h15G HLEN.out HNEV.out HV.out hB5 hC5
        have HB5 := hid hB5
        have HC5 := hid hC5
        have HE5 := hid hE5
        have HK5 := hid k5
        clear hW5 hB5 hC5 hE5 k5 l3 l6 v3 v4 v6 k4
        go_wp2_with (go_at_call 90; refine hlay.mono ?_; clear hlay; rintro e W6 ⟨rfl, hC6, hk6⟩)
        have hmr : ∀ y, m = some y → ¬ rown b ev1 cv1 y := by
          intro y hy
          subst hy
          have hMb : Blk W3 y 76 [.int .i64 C.table.tables, .int .i64 C.table.cells, .int .i64 C.table.values, .int .i64 C.table.shifts] := HM1.out
          rintro (h | h | h)
          · exact hMb.ne HAG.out.head (by decide) h
          · obtain ⟨cur, hb⟩ := Row.blk HAG.out.ents h; exact hMb.ne hb (by decide) rfl
          · obtain ⟨cur, hb⟩ := Row.blk HAG.out.cells h; exact hMb.ne hb (by decide) rfl
        have k36 : Kept (rown b ev1 cv1) W3 W6 := (HKW2.out.trans HK5.out (fun _ _ h => .inl h)).trans hk6 (fun _ _ h => .inr (.inr h))
        have hs3 : w.heap.size ≤ (wr.drewN nq).heap.size := HK3.out.size
        refine bodyPost_ret (v := .tuple #[.int .i64 ng, .int .i64 0]) (by simp [results, Try.results91, go_sem]) rfl ⟨by rw [HNG.out, HTG.out], .slice (some ⟨g2, 0, none⟩) (ng + 1) cap2, cv1, ?_, ?_, ?_, ?_⟩
        · rw [← HTG.out]
          refine ⟨?_, ?_, ?_⟩
          · exact HB5.out.kept hk6 (fun e => (HCB.out b e).1 rfl)
          · have e := HE5.out.kept hk6 (fun y hy e => by cases hy; exact (HCB.out _ e).2 rfl)
            rw [HX.out] at e
            exact e
          · have e : Row W6 3 1 cv1 (layCells TG.cells TG.log hash ng).length ((layCells TG.cells TG.log hash ng).map (Value.int .i64)) := by
              rw [HLE1.out, List.length_set]; exact hC6
            rw [HNG.out] at e
            exact e
        · have hz : ∀ y, rown b ev1 cv1 y → rown b ev cv y ∨ w.heap.size ≤ y := by
            intro y hy
            rcases HOWN1.out y hy with h | h
            · exact .inl (.inl h)
            · exact .inr (by omega)
          rintro y (h | h | h)
          · exact .inl (.inl h)
          · cases h
            rcases HOWN2.out _ rfl with h | h
            · exact hz _ (.inr (.inl h))
            · exact .inr h
          · exact hz _ (.inr (.inr h))
        · exact HM1.out.kept k36 hmr
        · refine ((HK3.out.mono (R' := fun x => rown b ev cv x ∨ m = some x) (fun _ _ h => h.elim)).trans HKK1.out (fun _ _ h => h.elim (fun h => .inl (.inl h)) .inr)).trans k36 (fun y hy h => ?_)
          rcases HOWN1.out y h with h | h
          · exact .inl (.inl h)
          · omega

theorem add7_any (m : Option Nat) (C : Cnt) (b : Nat) (ev cv : Value) (T : Tab) (w : World) (hash key value : Int) (h : RefAt w m b ev cv T) (hm : RMt w m C) (hg : GoodT T) (h15 : T.log ≤ 15) (h1 : T.live ≤ 10000) (h2 : T.turn ≤ 100000) (h3 : T.births ≤ 100000) (h4 : T.made ≤ 100000) :
    Calls Try.prog 91 #[.pointer (some ⟨b, 0, none⟩), .int .i64 hash, .int .i64 key, .int .i64 value] w fun e w' =>
      e = .returned (.tuple #[.int .i64 (if T.tight then T.grow else T).ents.length, .int .i64 0]) ∧ ∃ ev' cv', RefAt w' m b ev' cv' (T.add hash key value) ∧ (∀ x, rown b ev' cv' x → rown b ev cv x ∨ w.heap.size ≤ x) ∧ RMt w' m (if T.tight then C.table else C) ∧ Kept (fun x => rown b ev cv x ∨ m = some x) w w' := by
  cases ht : T.tight
  · have hr : T.ents.length < room T.log := by
      have := hg.fits
      have hne : T.ents.length ≠ room T.log := by unfold Tab.tight at ht; simpa using ht
      omega
    refine (add7_room m b ev cv T w hash key value h hg h15 hr (by omega) h2 h3).mono ?_
    rintro e w' ⟨rfl, ev', hA, ho, hk⟩
    refine ⟨by simp, ev', cv, by unfold Tab.add; rw [ht]; exact hA, ?_, ?_, hk.mono (fun _ _ h => .inl h)⟩
    · rintro y (hy | hy | hy)
      · exact .inl (.inl hy)
      · exact (ho y hy).elim (fun h => .inl (.inr (.inl h))) .inr
      · exact .inl (.inr (.inr hy))
    · refine hm.kept hk (fun y hy => ?_)
      subst hy
      have hMb : Blk w y 76 [.int .i64 C.tables, .int .i64 C.cells, .int .i64 C.values, .int .i64 C.shifts] := hm
      rintro (e | e | e)
      · exact hMb.ne h.head (by decide) e
      · obtain ⟨cur, hb⟩ := Row.blk h.ents e; exact hMb.ne hb (by decide) rfl
      · obtain ⟨cur, hb⟩ := Row.blk h.cells e; exact hMb.ne hb (by decide) rfl
  · refine (add7_tight m b ev cv T w hash key value h hg h15 C hm ht h1 h4 (by omega) h2 h3).mono ?_
    rintro e w' ⟨rfl, ev', cv', hA, ho, hM, hk⟩
    exact ⟨by simp, ev', cv', by unfold Tab.add; rw [ht]; exact hA, ho, hM, hk⟩

end Go.Proofs.Ytbbkljgeddjghaa
