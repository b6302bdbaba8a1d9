/-
  What is proved: the walk of the document's answer for chapter 7: Copy.
-/
import Derived.Test.YtbbkljgeddjghaaRefAddT
import Derived.Test.YtbbkljgeddjghaaRefMore
import Derived.Test.YtbbkljgeddjghaaHeld
namespace Go.Lx
theorem renumUp_succ (es : List Ent) (k : Nat) (x : Ent) (hx : es[k]? = some x) : renum (es.take (k + 1)) 0 = renum (es.take k) 0 ++ [{ x with birth := k }] := by
  obtain ⟨hk, rfl⟩ := List.getElem?_eq_some_iff.1 hx
  rw [List.take_succ_eq_append_getElem hk, renum_append]
  simp [renum]; omega
end Go.Lx
namespace Go.Proofs.Ytbbkljgeddjghaa
open Go.RowKit Go.Lx Go.Shelf
set_option linter.unusedVariables false
set_option linter.unusedSimpArgs false

set_option maxRecDepth 100000 in
set_option maxHeartbeats 2000000 in
theorem copy7_any (m : Option Nat) (C : Cnt) (b : Nat) (ev cv : Value) (T : Tab) (w : World) (h : RefAt w m b ev cv T) (hm : RMt w m C) (hg : GoodT T) (hl : T.live ≤ 10000) (hlen : T.ents.length ≤ 100000) :
    Calls Try.prog 35 #[.pointer (some ⟨b, 0, none⟩)] w fun e w' => ∃ b' ev' cv', e = .returned (.pointer (some ⟨b', 0, none⟩)) ∧ RefAt w' m b' ev' cv' T.copy ∧ (∀ x, rown b' ev' cv' x → w.heap.size ≤ x) ∧ RMt w' m C.table ∧ Kept (fun x => m = some x) w w' := by
  obtain ⟨hgc, hce, hcl, hc15, hclive⟩ := hg.copy hl
  obtain ⟨gl, hgl⟩ : ∃ gl, gl = T.copy.log := ⟨_, rfl⟩
  have hg3 : 3 ≤ gl := by rw [hgl]; exact hgc.lo
  have hg15 : gl ≤ 15 := by rw [hgl]; exact hc15
  have hroomG : T.live ≤ room gl := by rw [hgl, ← hclive, hgc.live, hcl, ← hce]; exact hgc.fits
  have hleast : ∀ k, 3 ≤ k → k ≤ 20 → T.live ≤ room k → gl ≤ k := by
    intro k h3 h20 hr
    rw [hgl]
    refine ll_le (p := fun l => decide (T.copy.ents.length ≤ 2 * 2 ^ l / 3)) h3 h20 ?_
    have : T.copy.ents.length = T.live := by rw [hce, renum_len, hg.live]
    rw [this]; simpa [room] using hr
  obtain ⟨pm, hpm⟩ : ∃ pm, mptr m = .pointer pm := ⟨_, rfl⟩
  have hbl := h.head.lt
  have HL := hid hleast
  have HRG := hid hroomG
  have H := hid h
  have HM := hid hm
  have HGL := hid hgl
  have HCE := hid hce
  have HCL := hid hcl
  have HPM := hid hpm
  clear hleast hroomG h hm hgl hce hcl hpm hgc hc15 hclive
  go_enter Try.func35, Try.ntmps35
  go_wp2_with fail
  go_loopw [3] (fun i W' => ∃ k : Nat, 3 ≤ k ∧ k ≤ gl ∧ i = .int .i64 k ∧ Kept Nil w W') (fun i _ => gl - (intOf i).toNat)
  case atStart => exact ⟨3, by omega, hg3, rfl, Kept.refl _ _⟩
  case round =>
    obtain ⟨k, hk3, hkg, rfl, hkn⟩ := hrel
    have hk15 : k ≤ 15 := by omega
    have hA := H.out.kept hkn (fun _ _ => id)
    have el : wr.cell? ⟨b, 3, none⟩ = some (.int .i64 T.live) := hA.head.cell 3
    have hroom := fun W => room6_any k W hk3 hk15
    obtain ⟨rk, hrk⟩ : ∃ rk, rk = room k := ⟨_, rfl⟩
    rw [← hrk] at hroom
    have HR := hid hroom
    have HRK := hid hrk
    have HKN := hid hkn
    have HA := hid hA
    clear hroom hrk hkn hA
    by_cases hlt : (rk : Int) < (T.live : Int)
    · have hkl : k < gl := by
        rcases Nat.lt_or_ge k gl with h | h
        · exact h
        · have e : k = gl := by omega
          have := HRG.out
          rw [← e, ← HRK.out] at this
          omega
      go_wp2_with fail
      go_quiet ((go_at_call 87; exact Calls.quiet_of_same ((HR.out _).mono fun e w' ⟨h1, h2⟩ => ⟨h1, h2.symm⟩)))
      go_wp2_with fail
      go_roundw
      case rel => exact ⟨k + 1, by omega, by omega, rfl, HKN.out.drewN _⟩
      case measure =>
        show gl - (k + 1) < gl - k
        omega
    · have hkl : k = gl := by
        have := HL.out k hk3 (by omega) (by rw [← HRK.out]; omega)
        omega
      subst hkl
      go_wp2_with fail
      go_quiet ((go_at_call 87; exact Calls.quiet_of_same ((HR.out _).mono fun e w' ⟨h1, h2⟩ => ⟨h1, h2.symm⟩)))
      obtain ⟨W, hW⟩ : ∃ W, W = wr.drewN nq := ⟨_, rfl⟩
      have hAW : RefAt W m b ev cv T := by rw [hW]; exact HA.out.kept ((Kept.refl Nil wr).drewN _) (fun _ _ => id)
      have hkW : Kept Nil w W := by rw [hW]; exact HKN.out.drewN _
      have hMW : RMt W m C := HM.out.kept hkW (fun _ _ => id)
      rw [← hW]
      have d7 : W.cell? ⟨b, 7, none⟩ = some (.pointer pm) := by rw [← HPM.out]; exact hAW.head.cell 7
      have hB0 := Blk.new W 85 [.slice none 0 0, .int .i64 0, .slice none 0 0, .int .i64 0, .int .i64 0, .int .i64 0, .int .i64 0, mptr m]
      have hkA : Kept Nil W (W.alloc (.cells #[.slice none 0 0, .int .i64 0, .slice none 0 0, .int .i64 0, .int .i64 0, .int .i64 0, .int .i64 0, mptr m] 85)) := (Kept.refl _ W).alloc _
      have hidx := index7_any m C W.heap.size k _ _ _ _ _ _ _ _ hk3 hk15 (hMW.kept hkA (fun _ _ => id)) (by omega) hB0
      rw [HPM.out] at hkA
      have HAA := hid (hAW.kept hkA (fun _ _ => id))
      have HKA := hid hkA
      rw [HPM.out] at hidx
      have hml : ∀ x, m = some x → x < W.heap.size := fun x hx => by subst hx; exact hMW.lt
      have hms : ∀ x, m = some x → ¬ rown b ev cv x := by
        intro x hx
        subst hx
        have hMb : Blk W x 76 [.int .i64 C.tables, .int .i64 C.cells, .int .i64 C.values, .int .i64 C.shifts] := hMW
        rintro (e | e | e)
        · exact hMb.ne hAW.head (by decide) e
        · obtain ⟨cur, hb⟩ := Row.blk hAW.ents e; exact hMb.ne hb (by decide) rfl
        · obtain ⟨cur, hb⟩ := Row.blk hAW.cells e; exact hMb.ne hb (by decide) rfl
      have hAlt : ∀ x, rown b ev cv x → x < W.heap.size := hAW.lt
      have HML := hid hml
      have HMS := hid hms
      have HALT := hid hAlt
      have HKW := hid hkW
      have hsW := hkW.size
      clear hW hAW hkW hMW hB0 hkA hml hms hAlt HR HKN HA
      go_wp2_with (go_at_call 88; refine hidx.mono ?_; clear hidx; rintro e w1 ⟨rfl, g, hgf, hb1, hrow1, hm1, hk1⟩)
      have hAW1 : RefAt w1 m b ev cv T := HAA.out.kept hk1 (fun x hx e => by rcases e with e | e; (have := HALT.out x hx; omega); exact HMS.out x e hx)
      have hsz0 : (W.alloc (.cells #[.slice none 0 0, .int .i64 0, .slice none 0 0, .int .i64 0, .int .i64 0, .int .i64 0, .int .i64 0, .pointer pm] 85)).heap.size = W.heap.size + 1 := by simp
      rw [hsz0] at hgf
      rw [show (0 : Int) + 1 = 1 from rfl] at hb1
      have hsz1 := hk1.size
      rw [hsz0] at hsz1
      have hall := All7_any m b ev cv T w1 hAW1 hlen
      have HB1 := hid hb1
      have HROW1 := hid hrow1
      have HM1 := hid hm1
      have HK1 := hid hk1
      clear hb1 hrow1 hm1 hk1 hAW1
      go_at_call 89
      refine hall.mono ?_
      clear hall
      rintro e w2 ⟨lv, rfl, hrow2, hown2, hk2⟩
      obtain ⟨la, lcap, hlv⟩ := Row.sliceOf hrow2
      subst hlv
      obtain ⟨q, hq⟩ : ∃ q, q = T.lives.length := ⟨_, rfl⟩
      have hql : q ≤ 10000 := by rw [hq, ← hg.live]; exact hl
      have HB2 := hid (HB1.out.kept hk2 id)
      have HC2 := hid (HROW1.out.kept hk2 (fun _ _ => id))
      have HM2 := hid (HM1.out.kept hk2 (fun _ _ => id))
      have HL2 := hid hrow2
      have HO2 := hid hown2
      have HQ := hid hq
      have hsz2 := hk2.size
      have hgw1 : g < w1.heap.size := HROW1.out.lt rfl
      have hcw1 : W.heap.size < w1.heap.size := HB1.out.lt
      have HKF : Hid (Kept (fun x => x = W.heap.size ∨ m = some x) W w2) := by
        exact hid ((HKA.out.mono (R' := fun x => x = W.heap.size ∨ m = some x) (fun _ _ h => h.elim)).trans HK1.out (fun _ _ h => h) |>.trans hk2 (fun _ _ h => h.elim))
      rw [← hq]
      clear hrow2 hown2 hk2 hq
      obtain ⟨c, hc⟩ : ∃ c, c = W.heap.size := ⟨_, rfl⟩
      rw [← hc] at HB2 HKF hsz1 hcw1 hgf ⊢
      have HCW := hid hc
      clear hc
      go_wp2_with fail
      go_loopw [6] (fun i W' => ∃ j : Nat, j ≤ q ∧ i = .int .i64 j ∧ ∃ ev2, Blk W' c 85 [ev2, .int .i64 k, .slice (some ⟨g, 0, none⟩) (2 ^ k) (2 ^ k), .int .i64 0, .int .i64 0, .int .i64 1, .int .i64 0, .pointer pm] ∧
          Row W' 32 5 ev2 j (flat (renum (T.lives.take j) 0)) ∧ (∀ x, ev2.ownBlock = some x → w2.heap.size ≤ x) ∧ Row W' 3 1 (.slice (some ⟨g, 0, none⟩) (2 ^ k) (2 ^ k)) (2 ^ k) ((layUp k T.copy.ents j).map (Value.int .i64)) ∧ Kept (fun x => x = c ∨ x = g) w2 W') (fun i _ => q - (intOf i).toNat)
      case atStart => exact ⟨0, Nat.zero_le _, rfl, _, HB2.out, Row.nil _ _ _, (fun b hb => (by cases hb)), HC2.out, Kept.refl _ _⟩
      case round =>
        obtain ⟨j, hj, rfl, ev2, hbc, hre, hoe, hrc, hkw⟩ := hrel
        have hll := HL2.out.kept hkw (fun x hx e => by have := HO2.out x hx; rcases e with e | e <;> omega)
        have HBC := hid hbc
        have HRE := hid hre
        have HOE := hid hoe
        have HRC := hid hrc
        have HKR := hid hkw
        have HLL := hid hll
        have hsr := hkw.size
        clear hbc hre hoe hrc hkw hll
        by_cases hltj : j < q
        · obtain ⟨x, hx⟩ : ∃ x, T.lives[j]? = some x := ⟨_, List.getElem?_eq_getElem (by have := HQ.out; omega)⟩
          obtain ⟨g1, cc1, hs1, q1, q2, hg1, e0, e1, e2, e3, e4⟩ := Row.entCells HLL.out hx
          have hla : la = some ⟨g1, 0, none⟩ := by simp at hs1; exact hs1.1
          subst hla
          have hltj' : (j : Int) < (q : Int) := by omega
          have hxl : x.live = true := (List.mem_filter.1 (List.mem_of_getElem? hx)).2
          rw [hxl] at e0
          have HX := hid hx
          have HXL := hid hxl
          clear hs1 hx hxl
          go_wp2_with fail
          obtain ⟨y, hy⟩ : ∃ y : Ent, y = { x with birth := j } := ⟨_, rfl⟩
          have hyv : y.vals = [.bool true, .int .i64 x.hash, .int .i64 x.key, .int .i64 x.value, .int .i64 j] := by rw [hy]; unfold Ent.vals; rw [HXL.out]
          obtain ⟨WB, hWB⟩ : ∃ WB, WB = wr.alloc (Obj.cells #[Value.bool true, Value.int IntKind.i64 x.hash, Value.int IntKind.i64 x.key, Value.int IntKind.i64 x.value, Value.int IntKind.i64 j] 32) := ⟨_, rfl⟩
          have hkB : Kept Nil wr WB := by rw [hWB]; exact (Kept.refl _ wr).alloc _
          have hBB : Blk WB wr.heap.size 32 y.vals := by rw [hWB, hyv]; exact Blk.new wr 32 _
          have hcB := HBC.out.kept hkB id
          have hreB := HRE.out.kept hkB (fun _ _ => id)
          have hcl : c < wr.heap.size := HBC.out.lt
          rw [← hWB]
          obtain ⟨Bn, hBn⟩ : ∃ Bn, Bn = wr.heap.size := ⟨_, rfl⟩
          rw [← hBn] at hBB ⊢
          have hBl : Bn < WB.heap.size := hBB.lt
          have hcBl : c < WB.heap.size := by omega
          have hreb : ∀ z, ev2.ownBlock = some z → z ≠ Bn ∧ z ≠ c := by
            intro z hz
            have h1 := HRE.out.lt hz
            have h2 := HOE.out z hz
            exact ⟨by omega, by omega⟩
          have s0 : WB.drew.cell? ⟨c, 0, none⟩ = some ev2 := hcB.cell 0
          have b0 : WB.drew.cell? ⟨Bn, 0, none⟩ = some (.bool true) := by have := hBB.cell 0; rw [hyv] at this; exact this
          have b1 : WB.drew.cell? ⟨Bn, 1, none⟩ = some (.int .i64 x.hash) := by have := hBB.cell 1; rw [hyv] at this; exact this
          have b2 : WB.drew.cell? ⟨Bn, 2, none⟩ = some (.int .i64 x.key) := by have := hBB.cell 2; rw [hyv] at this; exact this
          have b3 : WB.drew.cell? ⟨Bn, 3, none⟩ = some (.int .i64 x.value) := by have := hBB.cell 3; rw [hyv] at this; exact this
          have b4 : WB.drew.cell? ⟨Bn, 4, none⟩ = some (.int .i64 j) := by have := hBB.cell 4; rw [hyv] at this; exact this
          obtain ⟨WC, hWC⟩ : ∃ WC, WC = (WB.alloc (Obj.cells #[Value.bool true, Value.int IntKind.i64 x.hash, Value.int IntKind.i64 x.key, Value.int IntKind.i64 x.value, Value.int IntKind.i64 j] 32)).drew := ⟨_, rfl⟩
          have hkC : Kept Nil WB WC := by rw [hWC]; exact ((Kept.refl Nil WB).alloc _).drew
          have hsC : Src WC (some ⟨WB.heap.size, 0, none⟩) 1 5 y.vals := by
            have h : Src (WB.alloc (.cells y.vals.toArray 32)) (some ⟨WB.heap.size, 0, none⟩) 1 5 y.vals := Src.new WB 32 y.vals 1 5 rfl (by rw [hyv]; simp [Value.oneCell'])
            have e : WC = (WB.alloc (.cells y.vals.toArray 32)).drew := by rw [hWC, hyv]
            rw [e]
            exact ⟨h.len, h.at_, h.one⟩
          have hrC : Row WC 32 5 ev2 j (flat (renum (T.lives.take j) 0)) := by
            rw [hWC]; exact (hreB.alloc _).drew
          have SRC := hid hsC
          have ROW := hid hrC
          have hBC := hcB.kept hkC id
          have hBBC := hBB.kept hkC id
          have HWC := hid hWC
          have HBCC := hid hBC
          have HBBC := hid hBBC
          have HKC := hid hkC
          have HKB := hid hkB
          have HY := hid hy
          have HYV := hid hyv
          have HBN := hid hBn
          have HREB := hid hreb
          clear hsC hrC hWB hBB hcB hreB hBC hBBC hWC hkC hkB hy hyv e0 e1 e2 e3 e4 hBn hreb
          refine wp_region_G (S := fun w' => w'.cell? ⟨c, 0, none⟩ = some ev2 ∧ w'.cell? ⟨Bn, 0, none⟩ = some (.bool true) ∧ w'.cell? ⟨Bn, 1, none⟩ = some (.int .i64 x.hash) ∧ w'.cell? ⟨Bn, 2, none⟩ = some (.int .i64 x.key) ∧ w'.cell? ⟨Bn, 3, none⟩ = some (.int .i64 x.value) ∧ w'.cell? ⟨Bn, 4, none⟩ = some (.int .i64 j)) (by kernel_rfl) 10 ⟨s0, b0, b1, b2, b3, b4⟩ (fun hS => ?_)
          refine wpAnyG_take (i := 0) (oi := _) (v := ?_) rfl (by kernel_rfl) (by kernel_rfl) (by kernel_rfl) (by kernel_rfl) (fun _ _ _ h => h) hS (Or.inl ⟨by kernel_rfl, ?_⟩) ?_
          rotate_left
          · rintro w' ⟨h0, h1, h2, h3, h4, h5⟩; go_simp; with_reducible rfl
          simp only [Act.put, List.getElem_toArray, List.getElem_cons_succ, List.getElem_cons_zero, List.setIfInBounds_toArray, List.set_cons_zero, List.set_cons_succ]
          refine wpAnyG_take (i := 1) (oi := _) (v := ?_) rfl (by kernel_rfl) (by kernel_rfl) (by kernel_rfl) (by kernel_rfl) (fun _ _ _ h => h) hS (Or.inl ⟨by kernel_rfl, ?_⟩) ?_
          rotate_left
          · rintro w' ⟨h0, h1, h2, h3, h4, h5⟩; go_simp; with_reducible rfl
          simp only [Act.put, List.getElem_toArray, List.getElem_cons_succ, List.getElem_cons_zero, List.setIfInBounds_toArray, List.set_cons_zero, List.set_cons_succ]
          refine wpAnyG_take (i := 2) (oi := _) (v := ?_) rfl (by kernel_rfl) (by kernel_rfl) (by kernel_rfl) (by kernel_rfl) (fun _ _ _ h => h) hS (Or.inl ⟨by kernel_rfl, ?_⟩) ?_
          rotate_left
          · rintro w' ⟨h0, h1, h2, h3, h4, h5⟩; go_simp; with_reducible rfl
          simp only [Act.put, List.getElem_toArray, List.getElem_cons_succ, List.getElem_cons_zero, List.setIfInBounds_toArray, List.set_cons_zero, List.set_cons_succ]
          refine wpAnyG_take (i := 3) (oi := _) (v := ?_) rfl (by kernel_rfl) (by kernel_rfl) (by kernel_rfl) (by kernel_rfl) (fun _ _ _ h => h) hS (Or.inl ⟨by kernel_rfl, ?_⟩) ?_
          rotate_left
          · rintro w' ⟨h0, h1, h2, h3, h4, h5⟩; go_simp; with_reducible rfl
          simp only [Act.put, List.getElem_toArray, List.getElem_cons_succ, List.getElem_cons_zero, List.setIfInBounds_toArray, List.set_cons_zero, List.set_cons_succ]
          refine wpAnyG_take (i := 4) (oi := _) (v := ?_) rfl (by kernel_rfl) (by kernel_rfl) (by kernel_rfl) (by kernel_rfl) (fun _ _ _ h => h) hS (Or.inl ⟨by kernel_rfl, ?_⟩) ?_
          rotate_left
          · rintro w' ⟨h0, h1, h2, h3, h4, h5⟩; go_simp; with_reducible rfl
          simp only [Act.put, List.getElem_toArray, List.getElem_cons_succ, List.getElem_cons_zero, List.setIfInBounds_toArray, List.set_cons_zero, List.set_cons_succ]
          refine wpAnyG_take (i := 5) (oi := _) (v := ?_) rfl (by kernel_rfl) (by kernel_rfl) (by kernel_rfl) (by kernel_rfl) (fun _ _ _ h => h) hS (Or.inl ⟨by kernel_rfl, ?_⟩) ?_
          rotate_left
          · rintro w' ⟨h0, h1, h2, h3, h4, h5⟩; go_simp; with_reducible rfl
          simp only [Act.put, List.getElem_toArray, List.getElem_cons_succ, List.getElem_cons_zero, List.setIfInBounds_toArray, List.set_cons_zero, List.set_cons_succ]
          refine wpAnyG_ready (rs := [6]) (by kernel_rfl) (by simp) (AllG.cons (o := _) rfl (by decide) (fun K hK => ?_) AllG.nil)
          go_simp
          rw [← HWC.out]
          have z0 : WC.cell? ⟨c, 0, none⟩ = some ev2 := HBCC.out.cell 0
          have z1 : ∀ W', Kept (fun z => ev2.ownBlock = some z) WC W' → (W'.cell? ⟨c, 0, none⟩ = some ev2 ∧ W'.cell? ⟨Bn, 0, none⟩ = some (.bool true) ∧ W'.cell? ⟨Bn, 1, none⟩ = some (.int .i64 x.hash) ∧ W'.cell? ⟨Bn, 2, none⟩ = some (.int .i64 x.key) ∧ W'.cell? ⟨Bn, 3, none⟩ = some (.int .i64 x.value) ∧ W'.cell? ⟨Bn, 4, none⟩ = some (.int .i64 j)) := by
            intro W' hk'
            have h1 := HBCC.out.kept hk' (fun e => (HREB.out c e).2 rfl)
            have h2 := HBBC.out.kept hk' (fun e => (HREB.out Bn e).1 rfl)
            rw [HYV.out] at h2
            exact ⟨h1.cell 0, h2.cell 0, h2.cell 1, h2.cell 2, h2.cell 3, h2.cell 4⟩
          have Z1 := hid z1
          clear z1
          refine hK.out _ _ (Z1.out _ (Kept.refl _ _)) (fun hS => ?_)
          refine wpAnyG_ready (rs := [7]) (by kernel_rfl) (by simp) (AllG.cons (o := _) rfl (by decide) (fun K hK => ?_) AllG.nil)
          refine step_app WC elemEntry (by rfl) (.tmp 44) (.tmp 46) (by rfl) (v := ev2) (by rfl) ROW.out (by rfl) SRC.out (by omega) ?_
          intro v' w3 happ
          obtain ⟨va, vcap, rfl⟩ := Row.sliceOf happ.row
          refine hK.out _ _ (Z1.out _ happ.kept) (fun hS => ?_)
          have hc3 := HBCC.out.kept happ.kept (fun e => (HREB.out c e).2 rfl)
          have HC3 := hid hc3
          have HAPP := hid happ
          have f0 := hc3.frozen 0
          have c3 : w3.cell? ⟨c, 0, none⟩ = some ev2 := hc3.cell 0
          clear hc3 happ
          refine wpAnyG_ready (rs := [8]) (by kernel_rfl) (by simp) (AllG.cons (o := _) rfl (by decide) (fun K hK => ?_) AllG.nil)
          go_simp
          refine hK.out _ _ hS (fun hS => ?_)
          clear hK K
          try simp only [Act.put, List.getElem_toArray, List.getElem_cons_succ, List.getElem_cons_zero, List.setIfInBounds_toArray, List.set_cons_zero, List.set_cons_succ]
          refine wpAnyG_ready (rs := [9]) (by kernel_rfl) (by simp) (AllG.cons (o := _) rfl (by decide) (fun K hK => ?_) AllG.nil)
          go_simp
          refine hK.out _ _ hS (fun hS => ?_)
          clear hK K
          try simp only [Act.put, List.getElem_toArray, List.getElem_cons_succ, List.getElem_cons_zero, List.setIfInBounds_toArray, List.set_cons_zero, List.set_cons_succ]
          refine wpAnyG_ready (rs := [10]) (by kernel_rfl) (by simp) (AllG.last (o := _) rfl (fun K hK => ?_) AllG.nil)
          go_simp
          refine hK.out _ _ ?_
          refine wpAny_again 1000 (fun _ => True) trivial (fun hS => ?_)
          refine wpAnyG_done (by kernel_rfl) ?_ _
          obtain ⟨W4, hW4⟩ : ∃ W4, W4 = w3.setCell ⟨c, 0, none⟩ (.slice va (j + 1) vcap) := ⟨_, rfl⟩
          rw [← hW4]
          have hvo : ∀ z, (Value.slice va (j + 1) vcap).ownBlock = some z → w2.heap.size ≤ z := by
            intro z hz
            rcases HAPP.out.own z hz with e | e
            · exact HOE.out z e
            · have h1 := HKC.out.size; have h2 := HKB.out.size; have h3 : WC.heap.size ≤ z := e; omega
          have k34 : Kept (fun z => z = c) w3 W4 := by rw [hW4]; exact (Kept.refl (fun z => z = c) w3).setCell (p := ⟨c, 0, none⟩) (.inl rfl) _
          have kw4 : Kept (fun z => z = c ∨ z = g) w2 W4 := by
            refine (((HKR.out.trans HKB.out (fun _ _ h => h.elim)).trans HKC.out (fun _ _ h => h.elim)).trans HAPP.out.kept (fun z hz e => ?_)).trans k34 (fun z _ e => .inl e)
            have := HOE.out z e; omega
          have hc4 : Blk W4 c 85 [.slice va (j + 1) vcap, .int .i64 k, .slice (some ⟨g, 0, none⟩) (2 ^ k) (2 ^ k), .int .i64 0, .int .i64 0, .int .i64 1, .int .i64 0, .pointer pm] := by
            rw [hW4]; exact HC3.out.set 0 _
          have hB4 : Blk W4 Bn 32 y.vals := by
            rw [hW4]
            exact (HBBC.out.kept HAPP.out.kept (fun e => (HREB.out Bn e).1 rfl)).other (a := ⟨c, 0, none⟩) (by have h1 := HBN.out; simp; omega) _
          have hes4 : Row W4 32 5 (.slice va (j + 1) vcap) (j + 1) (flat (renum (T.lives.take (j + 1)) 0)) := by
            have h := HAPP.out.row.kept k34 (fun z hz e => by have := hvo z hz; omega)
            rw [renumUp_succ _ _ _ HX.out, ← HY.out, flat_append, show flat [y] = y.vals by simp [flat]]
            exact h
          have hrc4 : Row W4 3 1 (.slice (some ⟨g, 0, none⟩) (2 ^ k) (2 ^ k)) (2 ^ k) ((layUp k T.copy.ents j).map (Value.int .i64)) := by
            refine ((((HRC.out.kept HKB.out (fun _ _ => id)).kept HKC.out (fun _ _ => id)).kept HAPP.out.kept (fun z hz e => ?_)).kept k34 (fun z hz e => ?_))
            · have e1 : g = z := by simpa [Value.ownBlock] using hz
              have := HOE.out z e; omega
            · have e1 : g = z := by simpa [Value.ownBlock] using hz
              omega
          have r1 : W4.cell? ⟨Bn, 1, none⟩ = some (.int .i64 x.hash) := by have := hB4.cell 1; rw [HYV.out] at this; exact this
          have hall : ∀ z ∈ T.copy.ents, z.live = true := by
            intro z hz
            rw [HCE.out] at hz
            obtain ⟨i, u, hu, rfl⟩ := renum_mem hz
            exact (List.mem_filter.1 (List.mem_of_getElem? hu)).2
          have hell : T.copy.ents.length = q := by rw [HCE.out, renum_len, HQ.out]
          have hfit : T.copy.ents.length ≤ 2 ^ k := by
            have h1 := HRG.out
            have h2 := room_lt k
            have h3 := hg.live
            have h4 := HQ.out
            rw [hell]; omega
          have hcg := layUp_cg k T.copy.ents j hall hfit
          have hyj : T.copy.ents[j]? = some y := by rw [HCE.out, renum_get, HX.out, HY.out]; simp
          have hyh : y.hash = x.hash := by rw [HY.out]
          obtain ⟨kk, hkk, hv, hne, hlc⟩ := hcg.lay_eq (by rw [List.length_take, hell]; have := le_two k hg15; have h1 := HRG.out; have h2 := room_lt k; have h3 := hg.live; have h4 := HQ.out; omega) x.hash j
          have hcm : Blk W4 c 85 [.slice va (j + 1) vcap, .int .i64 k, .slice (some ⟨g, 0, none⟩) (2 ^ k) (2 ^ k), .int .i64 0, .int .i64 0, .int .i64 1, .int .i64 0, mptr m] := by rw [HPM.out]; exact hc4
          have hlay := lay7_any m c k kk j _ (.slice (some ⟨g, 0, none⟩) (2 ^ k) (2 ^ k)) _ _ _ _ x.hash (layUp k T.copy.ents j) _ hg15 hcg.len hne hv hcm (by rw [hcg.len]; exact hrc4)
          rw [hcg.len, ← hlc, ← hyh, ← layUp_succ k T.copy.ents j y hyj, hyh] at hlay
          have HC4 := hid hc4
          have HES := hid hes4
          have HK4 := hid kw4
          have HVO := hid hvo
          clear hW4 k34 kw4 hc4 hB4 hes4 hrc4 hall hcg hyj hyh hkk hv hne hlc hcm hvo c3 f0 hS s0 b0 b1 b2 b3 b4 z0
          go_wp2_with (go_at_call 90; refine hlay.mono ?_; clear hlay; rintro e W5 ⟨rfl, hrow5, hk5⟩)
          go_roundw
          case rel =>
            refine ⟨j + 1, by omega, by go_num, .slice va (j + 1) vcap, HC4.out.kept hk5 (fun e => ?_), HES.out.kept hk5 (fun z hz e => ?_), HVO.out, hrow5, HK4.out.trans hk5 (fun z _ e => ?_)⟩
            · have e1 : g = c := by simpa [Value.ownBlock] using e
              omega
            · have e1 : g = z := by simpa [Value.ownBlock] using e
              have := HVO.out z hz; omega
            · exact .inr (by simpa [Value.ownBlock] using e.symm)
          case measure => simp [intOf]; omega
        · obtain rfl : j = q := by omega
          have hfull : T.lives.take j = T.lives := by rw [HQ.out, List.take_length]
          rw [hfull] at HRE
          have hcb := HBC.out
          have f2 := hcb.frozen 3
          have f4 := hcb.frozen 4
          have d3 : wr.cell? ⟨c, 3, none⟩ = some (.int .i64 0) := hcb.cell 3
          have d4 : wr.cell? ⟨c, 4, none⟩ = some (.int .i64 0) := hcb.cell 4
          clear hcb
          go_wp2_with fail
          obtain ⟨W9, hW9⟩ : ∃ W9, W9 = (wr.setCell ⟨c, 4, none⟩ (.int .i64 j)).setCell ⟨c, 3, none⟩ (.int .i64 j) := ⟨_, rfl⟩
          rw [← hW9]
          have k9 : Kept (fun z => z = c) wr W9 := by rw [hW9]; exact ((Kept.refl (fun z => z = c) wr).setCell (p := ⟨c, 4, none⟩) (.inl rfl) _).setCell (p := ⟨c, 3, none⟩) (.inl rfl) _
          have b9 : Blk W9 c 85 [ev2, .int .i64 k, .slice (some ⟨g, 0, none⟩) (2 ^ k) (2 ^ k), .int .i64 j, .int .i64 j, .int .i64 1, .int .i64 0, mptr m] := by rw [hW9, HPM.out]; exact (HBC.out.set 4 _).set 3 _
          have hell : T.copy.ents.length = j := by rw [HCE.out, renum_len, HQ.out]
          have hfit : T.copy.ents.length ≤ 2 ^ k := by
            have h1 := HRG.out
            have h2 := room_lt k
            have h3 := hg.live
            have h4 := HQ.out
            rw [hell]; omega
          have hall : ∀ z ∈ T.copy.ents, z.live = true := by
            intro z hz
            rw [HCE.out] at hz
            obtain ⟨i, u, hu, rfl⟩ := renum_mem hz
            exact (List.mem_filter.1 (List.mem_of_getElem? hu)).2
          have hcl9 : T.copy.cells = layUp k T.copy.ents j := by
            unfold layUp
            rw [← hell, List.take_length, HGL.out]; rfl
          have hcll : T.copy.cells.length = 2 ^ k := by rw [hcl9]; exact (layUp_cg k T.copy.ents j hall hfit).len
          have hlv : T.copy.live = j := hell
          have hbv : T.copy.births = j := hell
          have hkf : Kept (fun x => m = some x) w W9 := by
            have h1 : Kept (fun x => x = c ∨ m = some x ∨ w2.heap.size ≤ x ∨ x = g) W W9 := ((HKF.out.mono (R' := fun x => x = c ∨ m = some x ∨ w2.heap.size ≤ x ∨ x = g) (fun z _ e => e.elim .inl (fun e => .inr (.inl e)))).trans HKR.out (fun z _ e => e.elim .inl (fun e => .inr (.inr (.inr e))))).trans k9 (fun z _ e => .inl e)
            have hcw := HCW.out
            exact (HKW.out.mono (R' := fun x => m = some x) (fun _ _ h => h.elim)).trans (h1.mono (R' := fun x => x = c ∨ m = some x ∨ w2.heap.size ≤ x ∨ x = g) (fun _ _ h => h)) (fun z hz e => by
              rcases e with e | e | e | e
              · omega
              · exact e
              · omega
              · omega)
          go_ret
          refine ⟨c, ev2, .slice (some ⟨g, 0, none⟩) (2 ^ k) (2 ^ k), rfl, ⟨?_, ?_, ?_⟩, ?_, ?_, hkf⟩
          · rw [hlv, hbv, ← HGL.out]
            exact b9
          · rw [hell, HCE.out]
            exact HRE.out.kept k9 (fun z hz e => by have := HOE.out z hz; omega)
          · rw [hcll, hcl9]
            exact HRC.out.kept k9 (fun z hz e => by have e1 : g = z := (by simpa [Value.ownBlock] using hz); omega)
          · rintro z (e | e | e)
            · have := HCW.out; omega
            · have h1 := HOE.out z e; have h2 := HCW.out; omega
            · have e1 : g = z := by simpa [Value.ownBlock] using e
              have := HCW.out; omega
          · have hmc : m ≠ some c := fun e => by have h1 := HML.out c e; have h2 := HCW.out; omega
            have hmg : m ≠ some g := fun e => by have h1 := HML.out g e; have h2 := HCW.out; omega
            exact (HM2.out.kept HKR.out (fun z hz e => by rcases e with e | e <;> (subst e; first | exact hmc hz | exact hmg hz))).kept k9 (fun z hz e => by subst e; exact hmc hz)
end Go.Proofs.Ytbbkljgeddjghaa
