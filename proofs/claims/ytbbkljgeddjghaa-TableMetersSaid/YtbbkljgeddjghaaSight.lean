/-
  What is proved: the walk of (*Table).Sight.
-/
import Derived.Test.YtbbkljgeddjghaaAdd
namespace Go.Proofs.Ytbbkljgeddjghaa
open Go.RowKit Go.Lx Go.Shelf
set_option linter.unusedVariables false
attribute [local go_sem] Oper.semAt_some

theorem kept7 {R : Nat → Prop} {w0 w : World} {b : Nat} {v0 v1 v2 v3 v4 v5 v6 : Value} (h : Kept R w0 w) (hb : R b ∨ w0.heap.size ≤ b) :
    Kept R w0 (((((((w.setCell ⟨b, 0, none⟩ v0).setCell ⟨b, 1, none⟩ v1).setCell ⟨b, 2, none⟩ v2).setCell ⟨b, 3, none⟩ v3).setCell ⟨b, 4, none⟩ v4).setCell ⟨b, 5, none⟩ v5).setCell ⟨b, 6, none⟩ v6) :=
  ((((((h.setCell (p := ⟨b, 0, none⟩) hb _).setCell (p := ⟨b, 1, none⟩) hb _).setCell (p := ⟨b, 2, none⟩) hb _).setCell (p := ⟨b, 3, none⟩) hb _).setCell (p := ⟨b, 4, none⟩) hb _).setCell (p := ⟨b, 5, none⟩) hb _).setCell (p := ⟨b, 6, none⟩) hb _

set_option maxRecDepth 100000 in
set_option maxHeartbeats 4000000 in
theorem sight_any (m : Option Nat) (t c r : Nat) (sv : Value) (T : Tab) (w : World) (h : TabAt w m t c r sv T) (hlen : T.ents.length ≤ 100000) :
    Calls Try.prog 23 #[.pointer (some ⟨t, 0, none⟩)] w fun e w' => ∃ csv esv, e = .returned (.agg #[.int .i64 T.log, .int .i64 (widthOf T.log), csv, esv, .int .i64 T.live, .int .i64 T.births, .int .i64 T.made]) ∧
      Row w' 3 1 csv T.cells.length (T.cells.map (Value.int .i64)) ∧ (∀ b, csv.ownBlock = some b → w.heap.size ≤ b) ∧ Row w' 32 5 esv T.ents.length (flat T.ents) ∧ (∀ b, esv.ownBlock = some b → w.heap.size ≤ b) ∧ Kept Nil w w' := by
  have htl := h.head.lt
  have ht2 : w.cell? ⟨t, 2, none⟩ = some (.pointer (some ⟨c, 0, none⟩)) := h.head.cell 2
  have hbeg := fun w' (hk : Kept Nil w w') => begin_there t _ w' ((World.cell?_of_block (hk.block t htl id)).trans ht2)
  have HB := hid hbeg
  have H := hid h
  clear hbeg h
  refine calls_of_wp_marks Try.func23 rfl ?_
  simp only [Try.ntmps23, List.size_toArray, List.length_cons, List.length_nil, Nat.reduceAdd, Nat.reduceSub, Array.replicate_succ, Array.replicate_zero, List.push_toArray, List.append_toArray, List.nil_append, List.cons_append]
  go_wp2_with (go_at_call 74; refine (HB.out _ ((Kept.refl _ w).alloc _)).mono ?_; rintro e w' ⟨rfl, rfl⟩)
  rename_i K hK
  have hzero : w.alloc (Obj.cells #[.int .i64 0, .int .i64 0, .slice none 0 0, .slice none 0 0, .int .i64 0, .int .i64 0, .int .i64 0] 29) = w.alloc (Obj.cells #[.int .i64 0, .int .i64 0, .slice none 0 0, .slice none 0 0, .int .i64 0, .int .i64 0, .int .i64 0] 29) := rfl
  obtain ⟨W0, hW0⟩ : ∃ W0, W0 = w.alloc (Obj.cells #[.int .i64 0, .int .i64 0, .slice none 0 0, .slice none 0 0, .int .i64 0, .int .i64 0, .int .i64 0] 29) := ⟨_, rfl⟩
  rw [← hW0]
  have hk0 : Kept Nil w W0 := by rw [hW0]; exact (Kept.refl _ w).alloc _
  have hB0 : Blk W0 w.heap.size 29 [.int .i64 0, .int .i64 0, .slice none 0 0, .slice none 0 0, .int .i64 0, .int .i64 0, .int .i64 0] := by rw [hW0]; exact Blk.new w 29 _
  have hT0 := H.out.kept' hk0 (fun _ _ => id)
  have d2 : W0.cell? ⟨t, 2, none⟩ = some (.pointer (some ⟨c, 0, none⟩)) := hT0.head.cell 2
  have d3 : W0.cell? ⟨t, 3, none⟩ = some (.int .i64 T.live) := hT0.head.cell 3
  have d4 : W0.cell? ⟨t, 4, none⟩ = some (.int .i64 T.births) := hT0.head.cell 4
  have d5 : W0.cell? ⟨t, 5, none⟩ = some (.int .i64 T.made) := hT0.head.cell 5
  have hlog := fun w' (hk : Kept Nil W0 w') => log_any c r T.log T.cells w' (hT0.cells.kept hk id id)
  have hwid := fun w' (hk : Kept Nil W0 w') => width_any c r T.log T.cells w' (hT0.cells.kept hk id id)
  have hcell : ∀ w', Kept Nil W0 w' → w'.cell? ⟨t, 2, none⟩ = some (.pointer (some ⟨c, 0, none⟩)) ∧ w'.cell? ⟨t, 3, none⟩ = some (.int .i64 T.live) ∧ w'.cell? ⟨t, 4, none⟩ = some (.int .i64 T.births) ∧ w'.cell? ⟨t, 5, none⟩ = some (.int .i64 T.made) := by
    intro w' hk
    have hh := hT0.head.kept hk id
    exact ⟨hh.cell 2, hh.cell 3, hh.cell 4, hh.cell 5⟩
  have HLOG := hid hlog
  have HWID := hid hwid
  have HCELL := hid hcell
  have HB0 := hid hB0
  have HT0 := hid hT0
  have HK0 := hid hk0
  clear hlog hwid hcell hB0 hT0 hk0 hW0 hzero ht2
  have hfin : ∀ (x11 x12 x13 x14 x15 x16 x17 x18 x19 x20 x21 x22 x23 x24 x25 x26 x27 x28 x29 x30 x31 x32 x33 : Value) (b3 : Nat) (W : World), Blk W b3 29 [.int .i64 T.log, .int .i64 (widthOf T.log), .slice none 0 0, .slice none 0 0, .int .i64 T.live, .int .i64 T.births, .int .i64 T.made] → w.heap.size < b3 → Kept Nil W0 W → K { tmps := #[Value.pointer (some ⟨t, 0, none⟩), undef, Value.pointer (some ⟨w.heap.size, 0, none⟩), Value.pointer (some ⟨b3, 0, none⟩), undef, undef, Value.pointer (some ⟨t, 0, none⟩), Value.bool false, undef, Value.pointer (some ⟨t, 0, none⟩), Value.tuple #[], x11, x12, x13, x14, x15, x16, x17, x18, x19, x20, x21, x22, x23, x24, x25, x26, x27, x28, x29, x30, x31, x32, x33, undef, undef, undef, undef, undef, undef, undef, undef, undef, undef, undef, undef, undef, undef, undef, undef, undef, undef, undef, undef, undef, undef], defers := [] } W := by
    intro x11 x12 x13 x14 x15 x16 x17 x18 x19 x20 x21 x22 x23 x24 x25 x26 x27 x28 x29 x30 x31 x32 x33 b3 W hb3 hlt hkW
    refine hK _ _ ?_
    have hTW := HT0.out.kept' hkW (fun _ _ => id)
    have q2 : W.cell? ⟨t, 2, none⟩ = some (.pointer (some ⟨c, 0, none⟩)) := hTW.head.cell 2
    have hall := all_any c r T.log T.cells W hTW.cells
    have hB2 := HB0.out.kept hkW id
    have HTW := hid hTW
    clear hTW hK
    apply wp_seq_k; intro K1 hK1
    apply wp_seq_k; intro K2 hK2
    go_wp2_with (go_at_call 77; refine hall.mono ?_; clear hall; rintro e w2 ⟨B, L, rfl, hB, hL, hbB, hbL, hk2⟩)
    have hk2' : Kept Nil W0 w2 := hkW.trans hk2 (fun _ _ h => h)
    have hb3' := hb3.kept hk2 id
    have hB2' := hB2.kept hk2 id
    have HTW2 := hid (HTW.out.kept' hk2 (fun _ _ => id))
    have hb3l := hb3'.lt
    have hb2l := hB2'.lt
    have hLl := hbL.lt
    have hB3l := hb3.lt
    have hfin2 : ∀ (D : Nat) (W9 : World) (csv : Value), w2.heap.size ≤ D → W9.heap[D]? = some (.deferred (some [])) → Kept (fun b => b = b3) w2 W9 → Blk W9 b3 29 [.int .i64 T.log, .int .i64 (widthOf T.log), csv, .slice none 0 0, .int .i64 T.live, .int .i64 T.births, .int .i64 T.made] →
        Row W9 3 1 csv T.cells.length (T.cells.map (Value.int .i64)) → (∀ b, csv.ownBlock = some b → w2.heap.size ≤ b) → K1 { tmps := #[Value.pointer (some ⟨t, 0, none⟩), undef, Value.pointer (some ⟨w.heap.size, 0, none⟩), Value.pointer (some ⟨b3, 0, none⟩), undef, undef, Value.pointer (some ⟨t, 0, none⟩), Value.bool false, undef, Value.pointer (some ⟨t, 0, none⟩), Value.tuple #[], x11, x12, x13, x14, x15, x16, x17, x18, x19, x20, x21, x22, x23, x24, x25, x26, x27, x28, x29, x30, x31, x32, x33, Value.pointer (some ⟨t, 0, none⟩), Value.pointer (some ⟨t, 0, none⟩), Value.pointer (some ⟨t, 2, none⟩), Value.pointer (some ⟨c, 0, none⟩), Value.func (Fn.func 132) #[] #[Value.pointer (some ⟨B, 0, none⟩)], undef, undef, undef, undef, undef, undef, undef, undef, undef, undef, undef, undef, undef, undef, undef, undef, undef], defers := [{ target := .collected D, args := #[] }] } W9 := by
      intro D W9 csv hD hKD hk9 hb9 hrow9 hcsv
      refine hK1 _ _ ?_
      have hT9 := HTW2.out.kept' (R := fun b => b = b3) hk9 (fun b hb e => by subst e; have := H.out.lt _ hb; omega)
      have hB9 := hB2'.kept hk9 (fun e => by omega)
      obtain ⟨i0, hi, hz0, hz1, hz2⟩ := info_parts Try.infoEntry
      have hrs := hT9.ents
      obtain ⟨gc, capc, hcv⟩ : ∃ gc capc, csv = .slice (some ⟨gc, 0, none⟩) T.cells.length capc := by
        rcases hrow9.form with ⟨_, h0, _⟩ | ⟨g, cap, h1, _⟩
        · have hl := hT9.cells.len
          have := Nat.two_pow_pos T.log
          omega
        · exact ⟨g, cap, h1⟩
      subst hcv
      dsimp only []
      apply wp_seq_k; intro K8 hK8
      have hb9l := hb9.lt
      have hB9l := hB9.lt
      have hend : ∀ (y47 y48 y49 y50 y51 y52 y53 y54 : Value) (a2 : Option Addr) (n2 cap2 : Nat) (W : World), Blk W b3 29 [.int .i64 T.log, .int .i64 (widthOf T.log), .slice (some ⟨gc, 0, none⟩) T.cells.length capc, .slice a2 n2 cap2, .int .i64 T.live, .int .i64 T.births, .int .i64 T.made] →
          Kept (fun b => b = b3) W9 W → Row W 32 5 (.slice a2 n2 cap2) T.ents.length (flat T.ents) → (∀ b, (Value.slice a2 n2 cap2).ownBlock = some b → W9.heap.size ≤ b) → K8 { tmps := #[Value.pointer (some ⟨t, 0, none⟩), undef, Value.pointer (some ⟨w.heap.size, 0, none⟩), Value.pointer (some ⟨b3, 0, none⟩), undef, undef, Value.pointer (some ⟨t, 0, none⟩), Value.bool false, undef, Value.pointer (some ⟨t, 0, none⟩), Value.tuple #[], x11, x12, x13, x14, x15, x16, x17, x18, x19, x20, x21, x22, x23, x24, x25, x26, x27, x28, x29, x30, x31, x32, x33, Value.pointer (some ⟨t, 0, none⟩), Value.pointer (some ⟨t, 0, none⟩), Value.pointer (some ⟨t, 2, none⟩), Value.pointer (some ⟨c, 0, none⟩), Value.func (Fn.func 132) #[] #[Value.pointer (some ⟨B, 0, none⟩)], undef, undef, undef, undef, undef, undef, undef, undef, y47, y48, y49, y50, y51, y52, y53, y54, undef], defers := [{ target := .collected D, args := #[] }] } W := by
        intro y47 y48 y49 y50 y51 y52 y53 y54 a2 n2 cap2 W hb hkW hrw hown
        refine hK8 _ _ ?_
        have hBW := hB9.kept hkW (fun e => by omega)
        have u0 : W.cell? ⟨b3, 0, none⟩ = some (.int .i64 T.log) := hb.cell 0
        have u1 : W.cell? ⟨b3, 1, none⟩ = some (.int .i64 (widthOf T.log)) := hb.cell 1
        have u2 : W.cell? ⟨b3, 2, none⟩ = some (.slice (some ⟨gc, 0, none⟩) T.cells.length capc) := hb.cell 2
        have u3 : W.cell? ⟨b3, 3, none⟩ = some (.slice a2 n2 cap2) := hb.cell 3
        have u4 : W.cell? ⟨b3, 4, none⟩ = some (.int .i64 T.live) := hb.cell 4
        have u5 : W.cell? ⟨b3, 5, none⟩ = some (.int .i64 T.births) := hb.cell 5
        have u6 : W.cell? ⟨b3, 6, none⟩ = some (.int .i64 T.made) := hb.cell 6
        have v0 : W.cell? ⟨w.heap.size, 0, none⟩ = some (.int .i64 0) := hBW.cell 0
        have v1 : W.cell? ⟨w.heap.size, 1, none⟩ = some (.int .i64 0) := hBW.cell 1
        have v2 : W.cell? ⟨w.heap.size, 2, none⟩ = some (.slice none 0 0) := hBW.cell 2
        have v3 : W.cell? ⟨w.heap.size, 3, none⟩ = some (.slice none 0 0) := hBW.cell 3
        have v4 : W.cell? ⟨w.heap.size, 4, none⟩ = some (.int .i64 0) := hBW.cell 4
        have v5 : W.cell? ⟨w.heap.size, 5, none⟩ = some (.int .i64 0) := hBW.cell 5
        have v6 : W.cell? ⟨w.heap.size, 6, none⟩ = some (.int .i64 0) := hBW.cell 6
        have f0 := hBW.frozen 0
        have f1 := hBW.frozen 1
        have f2 := hBW.frozen 2
        have f3 := hBW.frozen 3
        have f4 := hBW.frozen 4
        have f5 := hBW.frozen 5
        have f6 := hBW.frozen 6
        have HKD := hid hKD
        have hk9' : Kept (fun b => b = b3) w2 W9 := hk9
        clear hK8 hK1 hKD hk9
        go_wp2
        have wk7 : Blk (((((((W.setCell ⟨w.heap.size, 0, none⟩ (.int .i64 T.log)).setCell ⟨w.heap.size, 1, none⟩ (.int .i64 (widthOf T.log))).setCell ⟨w.heap.size, 2, none⟩ (.slice (some ⟨gc, 0, none⟩) T.cells.length capc)).setCell ⟨w.heap.size, 3, none⟩ (.slice a2 n2 cap2)).setCell ⟨w.heap.size, 4, none⟩ (.int .i64 T.live)).setCell ⟨w.heap.size, 5, none⟩ (.int .i64 T.births)).setCell ⟨w.heap.size, 6, none⟩ (.int .i64 T.made)) w.heap.size 29 [.int .i64 T.log, .int .i64 (widthOf T.log), .slice (some ⟨gc, 0, none⟩) T.cells.length capc, .slice a2 n2 cap2, .int .i64 T.live, .int .i64 T.births, .int .i64 T.made] :=
          ((((((hBW.set 0 (.int .i64 T.log)).set 1 (.int .i64 (widthOf T.log))).set 2 (.slice (some ⟨gc, 0, none⟩) T.cells.length capc)).set 3 (.slice a2 n2 cap2)).set 4 (.int .i64 T.live)).set 5 (.int .i64 T.births)).set 6 (.int .i64 T.made)
        have kk7 := kept7 (R := Nil) (w0 := w) (b := w.heap.size) (v0 := .int .i64 T.log) (v1 := .int .i64 (widthOf T.log)) (v2 := .slice (some ⟨gc, 0, none⟩) T.cells.length capc) (v3 := .slice a2 n2 cap2) (v4 := .int .i64 T.live) (v5 := .int .i64 T.births) (v6 := .int .i64 T.made)
          ((((HK0.out.trans hk2' (fun _ _ h => h)).trans hk9' (fun b hb e => by have := e; omega)).trans hkW (fun b hb e => by have := e; omega)) : Kept Nil w W) (.inr (Nat.le_refl _))
        have kb7 := kept7 (R := fun b => b = w.heap.size) (w0 := W) (b := w.heap.size) (v0 := .int .i64 T.log) (v1 := .int .i64 (widthOf T.log)) (v2 := .slice (some ⟨gc, 0, none⟩) T.cells.length capc) (v3 := .slice a2 n2 cap2) (v4 := .int .i64 T.live) (v5 := .int .i64 T.births) (v6 := .int .i64 T.made) (Kept.refl _ W) (.inl rfl)
        generalize (((((((W.setCell ⟨w.heap.size, 0, none⟩ (.int .i64 T.log)).setCell ⟨w.heap.size, 1, none⟩ (.int .i64 (widthOf T.log))).setCell ⟨w.heap.size, 2, none⟩ (.slice (some ⟨gc, 0, none⟩) T.cells.length capc)).setCell ⟨w.heap.size, 3, none⟩ (.slice a2 n2 cap2)).setCell ⟨w.heap.size, 4, none⟩ (.int .i64 T.live)).setCell ⟨w.heap.size, 5, none⟩ (.int .i64 T.births)).setCell ⟨w.heap.size, 6, none⟩ (.int .i64 T.made)) = Wf at *
        have hKf : Wf.heap[D]? = some (.deferred (some [])) := (kb7.block D (Nat.lt_of_lt_of_le (Array.getElem?_eq_some_iff.1 HKD.out).1 hkW.size) (by omega)).trans ((hkW.block D (Array.getElem?_eq_some_iff.1 HKD.out).1 (by omega)).trans HKD.out)
        have hT := turned_put (o' := .deferred none) hKf rfl hD
        refine leave_mark (.inr rfl) hKf (results_cell_row rfl _ _ w.heap.size 29 _ (0, 0) _ rfl (hT.blk wk7) Try.underlying29 rfl (by kernel_rfl)) ⟨_, _, rfl, ?_, ?_, ?_, ?_, ?_⟩
        · exact hT.row ((hrow9.kept hkW (fun g hg e => by have := hcsv g hg; omega)).kept kb7 (fun g hg e => by have := hcsv g hg; omega))
        · intro b hb; have := hcsv b hb; omega
        · exact hT.row (hrw.kept kb7 (fun g hg e => by have := hown g hg; omega))
        · intro b hb; have := hown b hb; omega
        · exact hT.kept kk7 (by omega)

      have u3 : W9.cell? ⟨b3, 3, none⟩ = some (.slice none 0 0) := hb9.cell 3
      have f3 := hb9.frozen 3
      have HEND := hid hend
      clear hend hK8
      rcases hrs.form with ⟨hsv, hn0, hxs⟩ | ⟨g, cap, hsv, hn1, hn2⟩
      · have d1 : W9.cell? ⟨t, 1, none⟩ = some (.slice none 0 0) := by rw [← hsv]; exact hT9.head.cell 1
        go_still_tail 6, (by kernel_rfl)
        change wpList _ _ _ _ _ W9.drew
        go_wp2
        refine HEND.out _ _ _ _ _ _ _ _ none 0 0 _ ?_ ?_ ?_ ?_
        · exact (hb9.set 3 (.slice none 0 0)).drew
        · exact ((Kept.refl (fun b => b = b3) W9).setCell (p := ⟨b3, 3, none⟩) (.inl rfl) _).drew
        · rw [hn0, hxs]; exact Row.nil _ _ _
        · intro b hb; cases hb

      · obtain ⟨nn, hnn⟩ : ∃ nn, nn = T.ents.length := ⟨_, rfl⟩
        have d1 : W9.cell? ⟨t, 1, none⟩ = some (.slice (some ⟨g, 0, none⟩) nn cap) := by rw [hnn, ← hsv]; exact hT9.head.cell 1
        have HNN := hid hnn
        by_cases h0 : nn = 0
        · rw [h0] at d1
          have hzero : T.ents = [] := List.eq_nil_of_length_eq_zero (by omega)
          clear hnn
          go_still_tail 6, (by kernel_rfl)
          change wpList _ _ _ _ _ W9.drew
          go_wp2
          refine HEND.out _ _ _ _ _ _ _ _ none 0 0 _ ?_ ?_ ?_ ?_
          · exact (hb9.set 3 (.slice none 0 0)).drew
          · exact ((Kept.refl (fun b => b = b3) W9).setCell (p := ⟨b3, 3, none⟩) (.inl rfl) _).drew
          · rw [hzero]; exact Row.nil _ _ _
          · intro b hb; cases hb
        · have hnews : ∀ j u, (flat T.ents)[j]? = some u → W9.drew.cell? ((⟨g, 0, none⟩ : Addr).add j) = some u := by
            intro j u hu
            rw [show (⟨g, 0, none⟩ : Addr).add j = ⟨g, j, none⟩ by unfold Addr.add; split <;> simp_all]
            exact hrs.cell (by rw [hsv]; rfl) hu
          have h1c : ∀ v ∈ flat T.ents, v.oneCell' = true := by
            intro v hv
            obtain ⟨x, _, hx⟩ := List.mem_flatMap.1 hv
            simp [Ent.vals] at hx
            rcases hx with rfl | rfl | rfl | rfl | rfl <;> rfl
          have hl5 : (flat T.ents).length = nn * 5 := by rw [flat_len, hnn]
          have HNEWS := hid hnews
          have H1C := hid h1c
          have HL5 := hid hl5
          have hmx : nn ≤ 100000 := by omega
          clear hnn hnews h1c hl5
          go_still_tail 6, (by kernel_rfl)
          change wpList _ _ _ _ _ W9.drew
          refine wpList_append_row W9.drew (by rfl) (.tmp 48) (.tmp 52) 25 (by rfl) 32 i0 _ 5 40 Try.underlying25 hi hz0 hz1 hz2 rfl (by omega) (.slice none 0 0) 0 [] (by rfl) (Row.nil _ _ _) ⟨g, 0, none⟩ nn cap (flat T.ents) (by rfl) HL5.out HNEWS.out H1C.out (by unfold maxLen; omega) (by omega) (by omega) ?_
          intro v' w3 hrow3 hg3
          obtain ⟨g2, cap2, rfl, -, -⟩ := hg3.form
          have hk3 : Kept Nil W9 w3 := (Kept.refl Nil W9).drew.grown hg3.by_ (fun k e => by cases e)
          have hb3x := hb9.kept hk3 id
          have s3 : w3.cell? ⟨b3, 3, none⟩ = some (.slice none 0 0) := hb3x.cell 3
          have sf3 := hb3x.frozen 3
          have hg2 : W9.heap.size ≤ g2 := by
            rcases hg3.own with e | ⟨g', e, hg⟩
            · cases e
            · cases e; exact hg
          go_wp2
          refine HEND.out _ _ _ _ _ _ _ _ (some ⟨g2, 0, none⟩) nn cap2 _ ?_ ?_ ?_ ?_
          · exact hb3x.set 3 (.slice (some ⟨g2, 0, none⟩) nn cap2)
          · exact (hk3.mono (R' := fun b => b = b3) (fun _ _ h => h.elim)).setCell (p := ⟨b3, 3, none⟩) (.inl rfl) _
          · have e := hrow3.other (a := ⟨b3, 3, none⟩) (fun g' hg' e => by cases hg'; simp at e; omega) (.slice (some ⟨g2, 0, none⟩) nn cap2)
            rw [← HNN.out]
            simpa using e
          · intro b hb; cases hb; exact hg2
    have HFIN2 := hid hfin2
    clear hfin2 hK1
    have hLb3 : L ≠ b3 := by omega
    have hb0 : 0 < T.cells.length := by have := HTW.out.cells.len; have := Nat.two_pow_pos T.log; omega
    have hcl : T.cells.length ≤ 32768 := by rw [HTW.out.cells.len]; exact le_two _ HTW.out.cells.hi
    refine wp_range (α := Int × Int) rfl (enters_of Try.func132 (by kernel_rfl) rfl) (cellsAll_stops 2 (by omega) B L T.cells hcl w2 hbB hbL) (fun h1 h2 => h2.trans h1) (fun W l o o' hl ho _ _ => World.putObj_heap_other (by omega)) (fun _ => rfl)
      (fun pre W' => ∃ csv, Kept (fun b => b = b3) w2 W' ∧ Blk W' b3 29 [.int .i64 T.log, .int .i64 (widthOf T.log), csv, .slice none 0 0, .int .i64 T.live, .int .i64 T.births, .int .i64 T.made] ∧ Row W' 3 1 csv pre.length (pre.map fun x => Value.int .i64 x.2) ∧ (∀ b, csv.ownBlock = some b → w2.heap.size ≤ b))
      (fun cd pre W' => False)
      ?_ ?_ ⟨.slice none 0 0, Kept.refl _ _, hb3', Row.nil _ _ _, fun b hb => by cases hb⟩
      (fun y => { tmps := #[Value.pointer (some ⟨t, 0, none⟩), undef, Value.pointer (some ⟨w.heap.size, 0, none⟩), Value.pointer (some ⟨b3, 0, none⟩), undef, Value.int .i64 y.2, Value.pointer (some ⟨t, 0, none⟩), Value.bool false, undef, Value.pointer (some ⟨t, 0, none⟩), Value.tuple #[], x11, x12, x13, x14, x15, x16, x17, x18, x19, x20, x21, x22, x23, x24, x25, x26, x27, x28, x29, x30, x31, x32, x33, Value.pointer (some ⟨t, 0, none⟩), Value.pointer (some ⟨t, 0, none⟩), Value.pointer (some ⟨t, 2, none⟩), Value.pointer (some ⟨c, 0, none⟩), Value.func (Fn.func 132) #[] #[Value.pointer (some ⟨B, 0, none⟩)], Value.int .i64 y.1, Value.int .i64 y.2, undef, undef, undef, undef, undef, undef, undef, undef, undef, undef, undef, undef, undef, undef, undef], defers := [] })
      ?assign ?body ?done ?stop
    case assign =>
      intro l y W K hK
      gi_wp2
      exact hK
    case body =>
      rintro l pre y W ⟨csv, hk, hb, hrow, hcsv⟩ hpl
      have u2 : W.cell? ⟨b3, 2, none⟩ = some csv := hb.cell 2
      obtain ⟨j0, hj, hj0, hj1, hj2⟩ := info_parts Try.infoI64
      obtain ⟨n0, hn0⟩ : ∃ n0, n0 = pre.length := ⟨_, rfl⟩
      rw [← hn0] at hrow hpl
      have hn0' : n0 ≤ 32768 := by omega
      have hbW := hb.lt
      obtain ⟨WA, hWA⟩ : ∃ WA, WA = W.alloc (Obj.cells #[Value.int IntKind.i64 y.2] 3) := ⟨_, rfl⟩
      have hkA : Kept Nil W WA := by rw [hWA]; exact (Kept.refl _ W).alloc _
      have hnewA : ∀ j u, [Value.int IntKind.i64 y.2][j]? = some u → WA.cell? ((⟨W.heap.size, 0, none⟩ : Addr).add j) = some u := by
        intro j u hu
        rw [show (⟨W.heap.size, 0, none⟩ : Addr).add j = ⟨W.heap.size, j, none⟩ by unfold Addr.add; split <;> simp_all]
        rw [hWA, (Blk.new W 3 [Value.int IntKind.i64 y.2]).cell]
        exact hu
      have hrowA := hrow.kept hkA (fun _ _ => id)
      have hbA := hb.kept hkA id
      have ROWA := hid hrowA
      have NEWA := hid hnewA
      have HWA := hid hWA
      have HCSV := hid hcsv
      have HN0 := hid hn0
      have H1 : Hid (∀ v ∈ [Value.int IntKind.i64 y.2], v.oneCell' = true) := by intro v hv; simp at hv; subst hv; rfl
      clear hWA hnewA hrowA hcsv hn0 hrow
      gi_wp2_with (gi_at_builtin; rw [← HWA.out]; refine wpListIn_append_row WA (by rfl) (.tmp 42) (.tmp 44) 22 (by rfl) 3 j0 _ 1 8 Try.underlying22 hj hj0 hj1 hj2 rfl (by omega) csv n0 (pre.map fun x => Value.int .i64 x.2) (by rfl) ROWA.out ⟨W.heap.size, 0, none⟩ 1 1 [Value.int IntKind.i64 y.2] (by rfl) rfl NEWA.out H1.out (by unfold maxLen; omega) (by omega) (by omega) ?_; intro v' w3 hrow3 hg3; obtain ⟨g2, cap2, rfl, hcp, -⟩ := hg3.form; have hne : ∀ k, csv.ownBlock = some k → k ≠ b3 := (fun k hk' => by have := HCSV.out k hk'; omega); have hk3 : Kept (fun b => csv.ownBlock = some b) W w3 := (hkA.mono (R' := fun b => csv.ownBlock = some b) (fun _ _ h => h.elim)).grown hg3.by_ (fun k e => .inl e); have hb3x := hb.kept hk3 (fun e => hne _ e rfl); have s2 : w3.cell? ⟨b3, 2, none⟩ = some csv := hb3x.cell 2; have sf2 := hb3x.frozen 2)
      have kk : Kept (fun b => b = b3 ∨ csv.ownBlock = some b) W (w3.setCell ⟨b3, 2, none⟩ (.slice (some ⟨g2, 0, none⟩) (n0 + 1) cap2)) := (hk3.mono (R' := fun b => b = b3 ∨ csv.ownBlock = some b) (fun _ _ h => .inr h)).setCell (p := ⟨b3, 2, none⟩) (.inl (.inl rfl)) _
      have hg2 : w2.heap.size ≤ g2 := by
        rcases hg3.own with e | ⟨g', e, hg⟩
        · exact HCSV.out g2 (by rw [← e]; rfl)
        · obtain rfl : g2 = g' := by simpa [Value.ownBlock] using e
          have := hk.size; have := hkA.size; omega
      refine ⟨keepsFrom_of kk (fun b o hb' ho hoc e => ?_), kk.block L (Nat.lt_of_lt_of_le hLl hk.size) (fun e => ?_), ?_, .slice (some ⟨g2, 0, none⟩) (n0 + 1) cap2, hb3x.set 2 _, ?_, fun b hb' => ?_⟩
      · rcases e with e | e
        · omega
        · obtain ⟨cur, hbb⟩ := Row.blk (ROWA.out) e
          have hbb' : Blk W b 3 cur := hbb.same (hkA.block b (by
            have h1 := (Array.getElem?_eq_some_iff.1 ho).1
            exact h1) id).symm
          unfold Blk at hbb'; rw [hbb'] at ho; cases ho; cases hoc
      · rcases e with e | e
        · exact hLb3 e
        · have := HCSV.out L e; omega
      · exact hk.trans kk (fun b hb' e => by rcases e with e | e; exact e; have := HCSV.out b e; omega)
      · have e := hrow3.other (a := ⟨b3, 2, none⟩) (fun g' hg' e => by cases hg'; simp at e; omega) (.slice (some ⟨g2, 0, none⟩) (n0 + 1) cap2)
        rw [List.length_append, List.map_append, ← HN0.out]
        exact e
      · cases hb'; exact hg2
    case done =>
      rintro D xs W hD rfl ⟨csv, hk, hb, hrow, hcsv⟩ hKD
      go_wp2
      rw [upto_length, show (upto (fun j => ((j : Int), T.cells[j]?.getD 0)) T.cells.length).map (fun x => Value.int .i64 x.2) = T.cells.map (Value.int .i64) by
          conv => rhs; rw [← upto_getD T.cells, List.map_map]
          rfl] at hrow
      exact HFIN2.out D W csv hD hKD hk hb hrow hcsv
    case stop =>
      rintro D cd pre W hD _ h
      exact h.elim
    · rintro s W W' ⟨csv, h1, h2, h3, h4⟩ hT
      exact ⟨csv, hT.kept h1 (Nat.le_refl _), hT.blk h2, hT.row h3, h4⟩
    · intro _ _ _ _ h; exact h.elim
  have HFIN := hid hfin
  clear hfin hK
  have HNEW : Hid (∀ w1, Kept Nil (W0.alloc (Obj.cells #[.int .i64 0, .int .i64 0, .slice none 0 0, .slice none 0 0, .int .i64 0, .int .i64 0, .int .i64 0] 29)).drew w1 → Blk w1 W0.heap.size 29 [.int .i64 0, .int .i64 0, .slice none 0 0, .slice none 0 0, .int .i64 0, .int .i64 0, .int .i64 0]) := fun w1 hk => (Blk.new W0 29 [.int .i64 0, .int .i64 0, .slice none 0 0, .slice none 0 0, .int .i64 0, .int .i64 0, .int .i64 0]).drew.kept hk id
  have kz : Kept Nil W0 W0.drew := (Kept.refl _ _).drew
  have ka : Kept Nil W0 (W0.alloc (Obj.cells #[.int .i64 0, .int .i64 0, .slice none 0 0, .slice none 0 0, .int .i64 0, .int .i64 0, .int .i64 0] 29)).drew := ((Kept.refl _ _).alloc _).drew
  go_region_held3 (fun w' => Kept Nil W0 w' ∧ w'.cell? ⟨t, 2, none⟩ = some (.pointer (some ⟨c, 0, none⟩)) ∧ w'.cell? ⟨t, 3, none⟩ = some (.int .i64 T.live) ∧ w'.cell? ⟨t, 4, none⟩ = some (.int .i64 T.births) ∧ w'.cell? ⟨t, 5, none⟩ = some (.int .i64 T.made))
    (first | with_reducible exact ⟨kz, HCELL.out _ kz⟩ | with_reducible exact ⟨ka, HCELL.out _ ka⟩ | with_reducible exact ⟨kw, HCELL.out _ kw⟩ | with_reducible exact ⟨(by assumption : Kept Nil W0 _ ∧ _).1, HCELL.out _ (by assumption : Kept Nil W0 _ ∧ _).1⟩ | with_reducible exact ⟨(by assumption : Kept Nil W0 _ ∧ _).1.alloc _, HCELL.out _ ((by assumption : Kept Nil W0 _ ∧ _).1.alloc _)⟩ | with_reducible exact ⟨kw.alloc _, HCELL.out _ (kw.alloc _)⟩ | with_reducible exact ⟨kept7 kw (.inr (Nat.le_refl _)), HCELL.out _ (kept7 kw (.inr (Nat.le_refl _)))⟩ | fail)
    ((first
      | (go_at_call 75; refine (HLOG.out _ (by exact (by assumption : Kept Nil W0 _ ∧ _).1)).mono ?_; rintro e W1 ⟨rfl, rfl⟩)
      | (go_at_call 76; refine (HWID.out _ (by exact (by assumption : Kept Nil W0 _ ∧ _).1)).mono ?_; rintro e W1 ⟨rfl, hk1⟩; have kw : Kept Nil W0 W1 := Kept.trans (by exact (by assumption : Kept Nil W0 _ ∧ _).1) hk1 (fun _ _ h => h); (try (have hbz : Blk W1 W0.heap.size 29 [.int .i64 0, .int .i64 0, .slice none 0 0, .slice none 0 0, .int .i64 0, .int .i64 0, .int .i64 0] := HNEW.out _ hk1; have z0 : W1.cell? ⟨W0.heap.size, 0, none⟩ = some (.int .i64 0) := hbz.cell 0; have z1 : W1.cell? ⟨W0.heap.size, 1, none⟩ = some (.int .i64 0) := hbz.cell 1; have z2 : W1.cell? ⟨W0.heap.size, 2, none⟩ = some (.slice none 0 0) := hbz.cell 2; have z3 : W1.cell? ⟨W0.heap.size, 3, none⟩ = some (.slice none 0 0) := hbz.cell 3; have z4 : W1.cell? ⟨W0.heap.size, 4, none⟩ = some (.int .i64 0) := hbz.cell 4; have z5 : W1.cell? ⟨W0.heap.size, 5, none⟩ = some (.int .i64 0) := hbz.cell 5; have z6 : W1.cell? ⟨W0.heap.size, 6, none⟩ = some (.int .i64 0) := hbz.cell 6; have y0 := hbz.frozen 0; have y1 := hbz.frozen 1; have y2 := hbz.frozen 2; have y3 := hbz.frozen 3; have y4 := hbz.frozen 4; have y5 := hbz.frozen 5; have y6 := hbz.frozen 6)))))
  · have hk1' := HK0.out
    go_wp2
    refine HFIN.out _ _ _ _ _ _ _ _ _ _ _ _ _ _ _ _ _ _ _ _ _ _ _ _ _ (Blk.new W1 29 [.int .i64 T.log, .int .i64 (widthOf T.log), .slice none 0 0, .slice none 0 0, .int .i64 T.live, .int .i64 T.births, .int .i64 T.made]) ?_ (kw.alloc _)
    have h1 := HB0.out.lt
    have h2 := kw.size
    omega
  all_goals
    go_wp2
    refine HFIN.out _ _ _ _ _ _ _ _ _ _ _ _ _ _ _ _ _ _ _ _ _ _ _ _ _ (((((((hbz.set 0 (.int .i64 T.log)).set 1 (.int .i64 (widthOf T.log))).set 2 (.slice none 0 0)).set 3 (.slice none 0 0)).set 4 (.int .i64 T.live)).set 5 (.int .i64 T.births)).set 6 (.int .i64 T.made)) ?_ (kept7 kw (.inr (Nat.le_refl _)))
    exact HB0.out.lt

end Go.Proofs.Ytbbkljgeddjghaa
