/-
  What is proved: the walk of (*Table).drop: the dead entries are left out.
-/
import Derived.Test.YtbbkljgeddjghaaGrow
import Derived.Test.YtbbkljgeddjghaaRowMore
namespace Go.Proofs.Ytbbkljgeddjghaa
open Go.RowKit Go.Lx Go.Shelf
set_option linter.unusedVariables false

theorem Try.infoEntry : (Try.prog.info? 32).map (fun i => (i.zero, i.size, i.bytes)) = some (some (.agg #[.bool false, .int .i64 0, .int .i64 0, .int .i64 0, .int .i64 0]), 5, 40) := by kernel_rfl
theorem flat_over (es : List Ent) (i : Nat) (x : Ent) (hi : i < es.length) : over (flat es) (i * 5) x.vals = flat (es.set i x) := by
  induction es generalizing i with
  | nil => simp at hi
  | cons y es ih =>
    cases i with
    | zero => simp [over, flat_cons, Ent.vals]
    | succ i =>
      have e := ih i (by simpa using hi)
      have hv : y.vals.length = 5 := rfl
      have hx : x.vals.length = 5 := rfl
      rw [List.set_cons_succ, flat_cons, flat_cons, ← e]
      unfold over
      rw [List.take_append, List.take_of_length_le (by rw [hv]; omega), List.drop_append, List.drop_eq_nil_of_le (by rw [hv, hx]; omega), hv, hx]
      rw [show (i + 1) * 5 - 5 = i * 5 by omega, show (i + 1) * 5 + 5 - 5 = i * 5 + 5 by omega]
      simp
/-- Of the first i entries those that live. -/
def liveTo (es : List Ent) (i : Nat) : List Ent := (es.take i).filter (·.live)
theorem liveTo_succ (es : List Ent) (i : Nat) (x : Ent) (hx : es[i]? = some x) : liveTo es (i + 1) = liveTo es i ++ (if x.live then [x] else []) := by
  obtain ⟨h, rfl⟩ := List.getElem?_eq_some_iff.1 hx
  unfold liveTo
  rw [List.take_succ_eq_append_getElem h, List.filter_append]
  cases hl : es[i].live <;> simp [List.filter, hl]
theorem liveTo_le (es : List Ent) (i : Nat) : (liveTo es i).length ≤ i := Nat.le_trans (List.length_filter_le _ _) (by simp; omega)

set_option maxRecDepth 100000 in
set_option maxHeartbeats 2000000 in
theorem drop_in (m : Option Nat) (t c r g cap n : Nat) (T : Tab) (w : World) (h : TabAt w m t c r (.slice (some ⟨g, 0, none⟩) n cap) T) (hn : T.ents.length = n) (hlen : n ≤ 100000) (hcap : n ≤ cap) (hcap2 : cap ≤ maxLen) :
    Calls Try.prog 109 #[.pointer (some ⟨t, 0, none⟩)] w fun e w' => e = .returned (.tuple #[]) ∧ TabAt w' m t c r (.slice (some ⟨g, 0, none⟩) (liveTo T.ents n).length cap) { T with ents := liveTo T.ents n } ∧ Kept (fun b => b = t ∨ b = g) w w' := by
  unfold maxLen at hcap2
  obtain ⟨i0, hi, hz0, hz1, hz2⟩ := info_parts Try.infoEntry
  have hc1 : w.cell? ⟨t, 1, none⟩ = some (.slice (some ⟨g, 0, none⟩) n cap) := h.head.cell 1
  have hgt : g ≠ t := h.te rfl
  have hents := h.ents
  rw [hn] at hents
  have H := hid h
  have HN := hid hn
  clear h hn
  go_enter Try.func109, Try.ntmps109
  go_wp2
  go_loopw [2, 3, 4, 10] (fun nl _ _ i wr => ∃ (k : Nat) (es : List Ent), k ≤ n ∧ i = .int .i64 k ∧ nl = .int .i64 ((liveTo T.ents k).length : Nat) ∧ es.length = n ∧ es.take (liveTo T.ents k).length = liveTo T.ents k ∧ es.drop k = T.ents.drop k ∧ Row wr 32 5 (.slice (some ⟨g, 0, none⟩) n cap) n (flat es) ∧ Kept (fun b => b = g) w wr) (fun _ _ _ i _ => n - (intOf i).toNat)
  case atStart => exact ⟨0, T.ents, Nat.zero_le _, rfl, rfl, HN.out, by simp [liveTo], rfl, hents, Kept.refl _ _⟩
  case round =>
    obtain ⟨k, es, hkn, rfl, rfl, hel, hta, hdr, hrow, hk⟩ := hrel
    obtain ⟨q, hq⟩ : ∃ q, q = (liveTo T.ents k).length := ⟨_, rfl⟩
    have hqk : q ≤ k := by rw [hq]; exact liveTo_le _ _
    rw [← hq] at hta ⊢
    have HQ := hid hq
    clear hq
    by_cases hlt : k < n
    · obtain ⟨x, hx⟩ : ∃ x, es[k]? = some x := ⟨_, List.getElem?_eq_getElem (by omega)⟩
      have hx0 : T.ents[k]? = some x := by
        have : (es.drop k)[0]? = (T.ents.drop k)[0]? := by rw [hdr]
        simpa [hx] using this.symm
      have e0 : wr.cell? ⟨g, k * 5, none⟩ = some (.bool x.live) := hrow.cell rfl (by rw [show k * 5 = k * 5 + 0 from rfl, flat_get _ _ _ _ hx (by omega)]; rfl)
      have e1 : wr.cell? ⟨g, k * 5 + 1, none⟩ = some (.int .i64 x.hash) := hrow.cell rfl (by rw [flat_get _ _ _ _ hx (by omega)]; rfl)
      have e2 : wr.cell? ⟨g, k * 5 + 2, none⟩ = some (.int .i64 x.key) := hrow.cell rfl (by rw [flat_get _ _ _ _ hx (by omega)]; rfl)
      have e3 : wr.cell? ⟨g, k * 5 + 3, none⟩ = some (.int .i64 x.value) := hrow.cell rfl (by rw [flat_get _ _ _ _ hx (by omega)]; rfl)
      have e4 : wr.cell? ⟨g, k * 5 + 4, none⟩ = some (.int .i64 x.birth) := hrow.cell rfl (by rw [flat_get _ _ _ _ hx (by omega)]; rfl)
      have hcr := (World.cell?_of_block (a := ⟨t, 1, none⟩) (hk.block t (World.block_lt_of_cell? _ _ hc1) (Ne.symm hgt))).trans hc1
      have hgl := hrow.lt (g := g) rfl
      have htl := World.block_lt_of_cell? _ _ hcr
      cases hxl : x.live with
      | false =>
        rw [hxl] at e0
        go_wp2
        go_roundw
        case rel =>
          have e5 : liveTo T.ents (k + 1) = liveTo T.ents k := by rw [liveTo_succ _ _ _ hx0, hxl]; simp
          refine ⟨k + 1, es, by omega, by go_num, by rw [e5, ← HQ.out], hel, by rw [e5, ← HQ.out]; exact hta, ?_, hrow.alloc _, hk.alloc _⟩
          have := congrArg (List.drop 1) hdr
          simpa using this
        case measure => simp [intOf]; omega
      | true =>
        rw [hxl] at e0
        go_wp2_with fail
        obtain ⟨W1, hW1⟩ : ∃ W1, W1 = (wr.alloc (Obj.cells #[Value.bool true, Value.int IntKind.i64 x.hash, Value.int IntKind.i64 x.key, Value.int IntKind.i64 x.value, Value.int IntKind.i64 x.birth] 32)) := ⟨_, rfl⟩
        rw [← hW1]
        have hrow1 : Row W1 32 5 (.slice (some ⟨g, 0, none⟩) n cap) n (flat es) := by rw [hW1]; exact hrow.alloc _
        have hk1 : Kept Nil wr W1 := by rw [hW1]; exact (Kept.refl _ _).alloc _
        have hcr1 := (World.cell?_of_block (a := ⟨t, 1, none⟩) (hk1.block t htl id)).trans hcr
        clear hW1 e0 e1 e2 e3 e4 hcr hrow hc1 hents
        have hsrc : ∀ j v, x.vals[j]? = some v → (flat es)[k * 5 + j]? = some v := fun j v hv => by rw [flat_get _ _ _ _ hx (by have := (List.getElem?_eq_some_iff.1 hv).1; simpa [Ent.vals] using this)]; exact hv
        have hfit : q * 5 + 5 ≤ (flat es).length := by rw [flat_len]; omega
        have h1c : ∀ v ∈ x.vals, v.oneCell' = true := by simp [Ent.vals, Value.oneCell']
        have hover := flat_over es q x (by omega)
        have HO := hid hover
        have HS := hid hsrc
        have HC := hid h1c
        have HF := hid hfit
        have e5 : liveTo T.ents (k + 1) = liveTo T.ents k ++ [x] := by rw [liveTo_succ _ _ _ hx0, hxl]; simp
        have e6 : (liveTo T.ents (k + 1)).length = q + 1 := by rw [e5]; simp [HQ.out]
        have e7 : (es.set q x).take (q + 1) = liveTo T.ents (k + 1) := by
          rw [e5, ← hta]
          have hql : q < (es.set q x).length := by simp; omega
          rw [List.take_succ_eq_append_getElem hql]
          simp [List.take_set_of_le (Nat.le_refl q)]
        have e8 : (es.set q x).drop (k + 1) = T.ents.drop (k + 1) := by
          rw [List.drop_set_of_lt (by omega)]
          have := congrArg (List.drop 1) hdr
          simpa using this
        have E6 := hid e6
        have E7 := hid e7
        have E8 := hid e8
        have EL : Hid ((es.set q x).length = n) := by show _ = _; simpa using hel
        clear hover hsrc h1c hfit hx hx0 hel hta hdr e5 e6 e7 e8
        have a1 : ¬ cap = q := by omega
        have a2 : ¬ cap = k := by omega
        have a3 : (0 : Int) ≤ (q : Int) + 1 := by omega
        have a4 : (0 : Int) ≤ (k : Int) + 1 := by omega
        have a5 : (q : Int) + 1 ≤ (cap : Int) := by omega
        have a6 : (k : Int) + 1 ≤ (cap : Int) := by omega
        have a7 : q + 1 - q = 1 := by omega
        have a8 : k + 1 - k = 1 := by omega
        have b1 : IntKind.i64.wrap ((q : Int) + 1) = (q : Int) + 1 := IntWalk.i64_in _ (by omega)
        have b2 : IntKind.i64.wrap ((k : Int) + 1) = (k : Int) + 1 := IntWalk.i64_in _ (by omega)
        have b3 : ((q : Int) + 1).toNat = q + 1 := by omega
        have b4 : ((k : Int) + 1).toNat = k + 1 := by omega
        go_region_law (refine step_copy_in rfl (.tmp 25) (.tmp 33) 25 25 rfl 32 i0 5 Try.underlying25 hi hz1 hrow1.drew rfl (q * 5) (k * 5) _ _ rfl rfl x.vals rfl HS.out HF.out HC.out ?_; intro w2 hrow2 hg2)
        all_goals
          clear a1 a2 a3 a4 a5 a6 a7 a8 b1 b2 b3 b4
          go_wp2
          go_roundw
          case rel =>
            rw [HO.out] at hrow2
            have hkk : Kept (fun b => b = g) wr w2 := ((hk1.mono (fun _ _ h => h.elim)).drew).grown hg2 (fun k e => by cases e; exact .inl rfl)
            exact ⟨k + 1, _, by omega, by go_num, by rw [E6.out]; go_num, EL.out, by rw [E6.out]; exact E7.out, E8.out, hrow2, hk.trans hkk (fun _ _ h => h)⟩
          case measure => simp [intOf]; omega
    · obtain rfl : k = n := by omega
      have hql : q ≤ k := hqk
      have hcr := (World.cell?_of_block (a := ⟨t, 1, none⟩) (hk.block t (World.block_lt_of_cell? _ _ hc1) (Ne.symm hgt))).trans hc1
      have hHe := (H.out.head.kept hk (Ne.symm hgt))
      clear hc1 hents
      have hz1c : ∀ v ∈ (Builtin.zeroCells (Value.cells (.agg #[.bool false, .int .i64 0, .int .i64 0, .int .i64 0, .int .i64 0])) (k - q)).toList, v.oneCell' = true := by
        intro v hv
        simp only [Builtin.zeroCells, Array.toList_map, List.mem_map] at hv
        obtain ⟨j, _, rfl⟩ := hv
        have hj : j % 5 < 5 := Nat.mod_lt _ (by decide)
        simp only [Value.cells, List.size_toArray, List.length_cons, List.length_nil, Nat.zero_add, Nat.reduceAdd]
        have hc : j % 5 = 0 ∨ j % 5 = 1 ∨ j % 5 = 2 ∨ j % 5 = 3 ∨ j % 5 = 4 := by omega
        rcases hc with h | h | h | h | h <;> rw [h] <;> rfl
      have hfit : q * 5 + (k - q) * 5 ≤ (flat es).length := by rw [flat_len]; omega
      have HZ := hid hz1c
      have HFIT := hid hfit
      have htr := hk
      have fw1 := hHe.frozen 1
      have htl := hHe.lt
      clear hz1c hfit
      obtain ⟨p, cc, hpp, hcq⟩ : ∃ (p : Option Addr) (cc : Nat), (0 < k - q → p = some ⟨g, q * 5, none⟩) ∧ ((cap = q ∧ p = some ⟨g, 0, none⟩ ∧ cc = 0) ∨ (¬ cap = q ∧ p = some ⟨g, q * 5, none⟩ ∧ cc = cap - q)) := by
        by_cases hcq : cap = q
        · exact ⟨some ⟨g, 0, none⟩, 0, by omega, .inl ⟨hcq, rfl, rfl⟩⟩
        · exact ⟨some ⟨g, q * 5, none⟩, cap - q, fun _ => rfl, .inr ⟨hcq, rfl, rfl⟩⟩
      obtain ⟨w2, hr, hrow2, hg2⟩ := run_clear_row (P := Try.prog) 25 0 32 i0 _ 5 Try.underlying25 hi hz0 rfl hrow rfl (q * 5) (k - q) cc p hpp HFIT.out HZ.out
      have hHe2 : Blk w2 t _ _ := hHe.same (hg2.block t htl (by simp; exact Ne.symm hgt))
      have d1 : w2.cell? ⟨t, 1, none⟩ = some (.slice (some ⟨g, 0, none⟩) k cap) := hHe2.cell 1
      have f1 := hHe2.frozen 1
      have hk2 : Kept (fun b => b = t ∨ b = g) w w2 := (hk.mono (fun _ _ h => .inr h)).grown hg2 (fun x e => by cases e; exact .inl (.inr rfl))
      have hcut := hrow2.cut q hql
      have hflat : (over (flat es) (q * 5) (Builtin.zeroCells (Value.cells (.agg #[.bool false, .int .i64 0, .int .i64 0, .int .i64 0, .int .i64 0])) (k - q)).toList).take (q * 5) = flat (liveTo T.ents k) := by
        unfold over
        rw [List.append_assoc, List.take_append_of_le_length (by rw [List.length_take, flat_len]; omega), List.take_take, Nat.min_self, ← hta]
        clear hr hrow2 hcut HZ HFIT
        have : ∀ (es : List Ent) (q : Nat), (flat es).take (q * 5) = flat (es.take q) := by
          intro es
          induction es with
          | nil => intro q; simp [flat]
          | cons y es ih =>
            intro q
            cases q with
            | zero => simp [flat]
            | succ q =>
              rw [List.take_succ_cons, flat_cons, flat_cons, ← ih q, List.take_append, List.take_of_length_le (by simp [Ent.vals]; omega)]
              simp [Ent.vals]; congr 1; omega
        exact this es q
      rw [hflat] at hcut
      have fin : TabAt (w2.setCell ⟨t, 1, none⟩ (.slice (some ⟨g, 0, none⟩) q cap)) m t c r (.slice (some ⟨g, 0, none⟩) q cap) { T with ents := liveTo T.ents k } := by
        have hh := H.out
        refine ⟨?_, ?_, ?_, ?_⟩
        · have := hHe2.set 1 (.slice (some ⟨g, 0, none⟩) q cap); exact this
        · have hcs := hh.cells.kept hk2 (fun e => by rcases e with e | e; exact hh.tc e.symm; exact hh.ce rfl e.symm) (fun e => by rcases e with e | e; exact hh.tr e.symm; exact hh.re rfl e.symm)
          exact ⟨hcs.head.other (a := ⟨t, 1, none⟩) (fun e => hh.tc e.symm) _, hcs.row.other (a := ⟨t, 1, none⟩) (fun e => hh.tr e.symm) _, hcs.len, hcs.lo, hcs.hi, hcs.fit⟩
        · have := hcut.other (a := ⟨t, 1, none⟩) (fun g' hg' => by cases hg'; exact hgt) (.slice (some ⟨g, 0, none⟩) q cap)
          show Row _ _ _ _ (liveTo T.ents k).length _
          rw [← HQ.out]; exact this
        · show (liveTo T.ents k).length ≤ _
          rw [← HQ.out]; exact Nat.le_trans hql (by rw [← HN.out]; exact hh.fits)
      have hkf : Kept (fun b => b = t ∨ b = g) w (w2.setCell ⟨t, 1, none⟩ (.slice (some ⟨g, 0, none⟩) q cap)) := hk2.setCell (p := ⟨t, 1, none⟩) (.inl (.inl rfl)) _
      have FIN := hid fin
      have KF := hid hkf
      clear fin hkf hcut hflat hrow2 hHe2 hHe hk2 hg2 hpp hk hrow hta hdr hel
      rcases hcq with ⟨rfl, rfl, rfl⟩ | ⟨hcq, rfl, rfl⟩
      · obtain rfl : k = cap := by omega
        rw [Nat.sub_self] at hr
        go_wp2
        go_end0
        exact ⟨rfl, by rw [← HQ.out]; exact FIN.out, KF.out⟩
      · go_wp2
        go_end0
        exact ⟨rfl, by rw [← HQ.out]; exact FIN.out, KF.out⟩

end Go.Proofs.Ytbbkljgeddjghaa
