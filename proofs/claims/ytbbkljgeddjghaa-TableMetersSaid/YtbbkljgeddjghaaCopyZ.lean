/-
  What is proved: walks of All and Copy of package table, at a table of whose index nothing is said (a zero one too). (Turned from XAll and XCopy by mkzero.py.)
-/
import Derived.Test.YtbbkljgeddjghaaCopy
namespace Go.Proofs.Ytbbkljgeddjghaa
open Go.RowKit Go.Lx Go.Shelf
set_option linter.unusedVariables false
set_option linter.unusedSimpArgs false
attribute [local go_sem] Oper.semAt_some

/-- The table at block t, whatever its index pv is. -/
structure TabHead (w : World) (m : Option Nat) (t : Nat) (pv : Value) (sv : Value) (T : Tab) : Prop where
  head : Blk w t 146 [mptr m, sv, pv, .int .i64 T.live, .int .i64 T.births, .int .i64 T.made, .int .i64 T.turn]
  ents : Row w 32 5 sv T.ents.length (flat T.ents)
def ownH (t : Nat) (sv : Value) : Nat → Prop := fun b => b = t ∨ sv.ownBlock = some b
theorem TabHead.kept' {R : Nat → Prop} {w w' : World} {m : Option Nat} {t : Nat} {pv sv : Value} {T : Tab} (h : TabHead w m t pv sv T) (hk : Kept R w w') (hR : ∀ b, ownH t sv b → ¬ R b) : TabHead w' m t pv sv T :=
  ⟨h.head.kept hk (hR _ (.inl rfl)), h.ents.kept hk (fun g hg => hR g (.inr hg))⟩
theorem TabHead.ent {w : World} {m : Option Nat} {t : Nat} {pv sv : Value} {T : Tab} (h : TabHead w m t pv sv T) {i : Nat} {x : Ent} (hx : T.ents[i]? = some x) :
    ∃ g cap, sv = .slice (some ⟨g, 0, none⟩) T.ents.length cap ∧ T.ents.length ≤ cap ∧ cap ≤ maxLen ∧ (∀ k v, x.vals[k]? = some v → w.cell? ⟨g, i * 5 + k, none⟩ = some v) ∧ ∀ j, w.frozen? ⟨g, j, none⟩ = false := by
  have hi := (List.getElem?_eq_some_iff.1 hx).1
  rcases h.ents.form with ⟨_, h0, _⟩ | ⟨g, cap, hs, h1, h2⟩
  · omega
  · refine ⟨g, cap, hs, h1, h2, fun k v hv => ?_, fun j => ?_⟩
    · have hk : k < 5 := by have := (List.getElem?_eq_some_iff.1 hv).1; simpa [Ent.vals] using this
      exact h.ents.cell (g := g) (by rw [hs]; rfl) (by rw [flat_get _ _ _ _ hx hk]; exact hv)
    · exact h.ents.frozen (g := g) (by rw [hs]; rfl) j

set_option maxRecDepth 100000 in
set_option maxHeartbeats 4000000 in
theorem lived_anyZ (m : Option Nat) (t : Nat) (pv sv : Value) (T : Tab) (w : World) (h : TabHead w m t pv sv T) (hlen : T.ents.length ≤ 100000) (hlive : T.live ≤ 100000) :
    Calls Try.prog 102 #[.pointer (some ⟨t, 0, none⟩)] w fun e w' => ∃ lv, e = .returned lv ∧ Row w' 170 6 lv (numsFrom T.ents 0).length (flatN (numsFrom T.ents 0)) ∧ (∀ b, lv.ownBlock = some b → w.heap.size ≤ b) ∧ Kept Nil w w' := by
  obtain ⟨i0, hi, hz0, hz1, hz2⟩ := info_parts Try.infoNumbered
  obtain ⟨W0, hmk, hown, hgr⟩ := run_make_own (P := Try.prog) w w.heap.size 166 170 i0 _ 6 Try.underlying166 hi hz0 hz1 .i64 .i64 T.live (by rw [hz2]; omega) (by unfold maxLen; omega) (Nat.le_refl _)
  have hrow0 : Row W0 170 6 (.slice (some ⟨w.heap.size, 0, none⟩) 0 T.live) 0 [] := ownsRow_zero hown
  have hk0 : Kept Nil w W0 := (Kept.refl Nil w).grown hgr (fun k e => by cases e)
  have ht1 : w.cell? ⟨t, 1, none⟩ = some sv := h.head.cell 1
  have ht3 : w.cell? ⟨t, 3, none⟩ = some (.int .i64 T.live) := h.head.cell 3
  have d1 : W0.cell? ⟨t, 1, none⟩ = some sv := (World.cell?_of_block (hk0.block t h.head.lt id)).trans ht1
  obtain ⟨a, cap, hsv⟩ : ∃ a cap, sv = .slice a T.ents.length cap := by
    rcases h.ents.form with ⟨h1, h2, _⟩ | ⟨g, cap, h1, _⟩
    · exact ⟨none, 0, by rw [h1, h2]⟩
    · exact ⟨_, cap, h1⟩
  rw [hsv] at d1
  obtain ⟨n, hn⟩ : ∃ n, n = T.ents.length := ⟨_, rfl⟩
  rw [← hn] at d1 hlen
  have H := hid h
  have HN := hid hn
  have HSV := hid hsv
  clear h hn hsv ht1 hown hgr
  go_enter Try.func102, Try.ntmps102
  go_wp2
  go_loopw [3, 4, 5, 18] (fun lv _ _ i wr => ∃ k, k ≤ n ∧ i = .int .i64 k ∧ Row wr 170 6 lv (numsTo T.ents k).length (flatN (numsTo T.ents k)) ∧ (∀ b, lv.ownBlock = some b → w.heap.size ≤ b) ∧ Kept Nil w wr) (fun _ _ _ i _ => n - (intOf i).toNat)
  case atStart => exact ⟨0, Nat.zero_le _, rfl, hrow0, fun b hb => by cases hb; exact Nat.le_refl _, hk0⟩
  case round =>
    clear hmk d1 hrow0
    obtain ⟨k, hkn, rfl, hrow, hlv, hk⟩ := hrel
    by_cases hlt : k < n
    · obtain ⟨x, hx⟩ : ∃ x, T.ents[k]? = some x := ⟨_, List.getElem?_eq_getElem (by rw [← HN.out]; exact hlt)⟩
      have hTr := H.out.kept' hk (fun _ _ => id)
      obtain ⟨g, cap', hsv', hg1, hg2, hcell, -⟩ := hTr.ent hx
      have hag : a = some ⟨g, 0, none⟩ := by have := HSV.out; rw [this] at hsv'; simp at hsv'; exact hsv'.1
      have e0 : wr.cell? ⟨g, k * 5, none⟩ = some (.bool x.live) := hcell 0 _ rfl
      have e1 : wr.cell? ⟨g, k * 5 + 1, none⟩ = some (.int .i64 x.hash) := hcell 1 _ rfl
      have e2 : wr.cell? ⟨g, k * 5 + 2, none⟩ = some (.int .i64 x.key) := hcell 2 _ rfl
      have e3 : wr.cell? ⟨g, k * 5 + 3, none⟩ = some (.int .i64 x.value) := hcell 3 _ rfl
      have e4 : wr.cell? ⟨g, k * 5 + 4, none⟩ = some (.int .i64 x.birth) := hcell 4 _ rfl
      subst hag
      have hgl := World.block_lt_of_cell? _ _ e0
      have HX := hid hx
      have HROW := hid hrow
      have HLV := hid hlv
      clear hx hTr hcell hsv' hrow hlv
      cases hxl : x.live with
      | false =>
        rw [hxl] at e0
        go_wp2
        go_roundw
        case rel =>
          have e5 : numsTo T.ents (k + 1) = numsTo T.ents k := by rw [numsTo_succ _ _ _ HX.out, hxl]; simp
          refine ⟨k + 1, by omega, by go_num, by rw [e5]; exact HROW.out.alloc _, HLV.out, hk.alloc _⟩
        case measure => simp [intOf]; omega
      | true =>
        rw [hxl] at e0
        obtain ⟨q, hq⟩ : ∃ q, q = (numsTo T.ents k).length := ⟨_, rfl⟩
        have hqb : q ≤ 100000 := by
          have := numsFrom_le (T.ents.take k) 0
          have h2 : (T.ents.take k).length ≤ k := by simp; omega
          unfold numsTo at hq; omega
        have HQ := hid hq
        have hrowq := HROW.out
        rw [← hq] at hrowq
        clear hq
        obtain ⟨WA, hWA⟩ : ∃ WA, WA = (wr.alloc (Obj.cells #[Value.bool true, Value.int IntKind.i64 x.hash, Value.int IntKind.i64 x.key, Value.int IntKind.i64 x.value, Value.int IntKind.i64 x.birth] 32)).alloc (Obj.cells #[Value.int IntKind.i64 k, Value.bool true, Value.int IntKind.i64 x.hash, Value.int IntKind.i64 x.key, Value.int IntKind.i64 x.value, Value.int IntKind.i64 x.birth] 170) := ⟨_, rfl⟩
        have hkA : Kept Nil wr WA := by rw [hWA]; exact ((Kept.refl _ wr).alloc _).alloc _
        have hnewA : ∀ j u, (Value.int .i64 k :: x.vals)[j]? = some u → WA.cell? ((⟨wr.heap.size + 1, 0, none⟩ : Addr).add j) = some u := by
          intro j u hu
          rw [show (⟨wr.heap.size + 1, 0, none⟩ : Addr).add j = ⟨wr.heap.size + 1, j, none⟩ by unfold Addr.add; split <;> simp_all]
          have hb := Blk.new (wr.alloc (Obj.cells #[Value.bool true, Value.int IntKind.i64 x.hash, Value.int IntKind.i64 x.key, Value.int IntKind.i64 x.value, Value.int IntKind.i64 x.birth] 32)) 170 [Value.int IntKind.i64 k, Value.bool true, Value.int IntKind.i64 x.hash, Value.int IntKind.i64 x.key, Value.int IntKind.i64 x.value, Value.int IntKind.i64 x.birth]
          have hb2 : Blk WA (wr.heap.size + 1) 170 [Value.int IntKind.i64 k, Value.bool true, Value.int IntKind.i64 x.hash, Value.int IntKind.i64 x.key, Value.int IntKind.i64 x.value, Value.int IntKind.i64 x.birth] := by rw [hWA]; simpa using hb
          rw [hb2.cell]
          unfold Ent.vals at hu
          rw [hxl] at hu
          exact hu
        have hrowA := hrowq.kept hkA (fun _ _ => id)
        have h1c : ∀ v ∈ (Value.int .i64 k :: x.vals), v.oneCell' = true := by simp [Ent.vals, Value.oneCell']
        have ROWA := hid hrowA
        have NEWA := hid hnewA
        have H1C := hid h1c
        have HWA := hid hWA
        have HKA := hid hkA
        clear hrowA hnewA h1c hWA hkA hrowq
        go_wp2_with (at_builtin; rw [← HWA.out]; refine wpList_append_row WA (by rfl) (.tmp 25) (.tmp 29) 166 (by rfl) 170 i0 _ 6 48 Try.underlying166 hi hz0 hz1 hz2 rfl (by omega) u3 q (flatN (numsTo T.ents k)) (by rfl) ROWA.out ⟨wr.heap.size + 1, 0, none⟩ 1 1 (Value.int .i64 k :: x.vals) (by rfl) rfl NEWA.out H1C.out (by unfold maxLen; omega) (by omega) (by omega) ?_; intro v' w3 hrow3 hg3)
        go_roundw
        case rel =>
          have e5 : numsTo T.ents (k + 1) = numsTo T.ents k ++ [(k, x)] := by rw [numsTo_succ _ _ _ HX.out, hxl]; simp
          refine ⟨k + 1, by omega, by go_num, ?_, ?_, ?_⟩
          · rw [e5, flatN_append, List.length_append, ← HQ.out]
            have : flatN [(k, x)] = Value.int .i64 k :: x.vals := by simp [flatN]
            rw [this]; exact hrow3
          · intro b hb
            rcases hg3.own with e | ⟨g', e, hg⟩
            · exact HLV.out b (by rw [← e]; exact hb)
            · rw [e] at hb; cases hb; have := hk.size; have := HKA.out.size; omega
          · exact (hk.trans HKA.out (fun _ _ h => h)).grown hg3.by_ (fun b e => .inr (HLV.out b e))
        case measure => simp [intOf]; omega
    · obtain rfl : k = n := by omega
      go_wp2
      go_ret
      refine ⟨_, rfl, ?_, hlv, hk⟩
      have e : numsTo T.ents k = numsFrom T.ents 0 := by unfold numsTo; rw [HN.out, List.take_length]
      rw [← e]; exact hrow

set_option maxHeartbeats 1000000 in
theorem iterAll_anyZ (m : Option Nat) (t : Nat) (pv sv : Value) (T : Tab) (w : World) (h : TabHead w m t pv sv T) (hlen : T.ents.length ≤ 100000) (hlive : T.live ≤ 100000) :
    Calls Try.prog 39 #[.pointer (some ⟨t, 0, none⟩)] w fun e w' => ∃ B a cap, e = .returned (.func (.func 103) #[] #[.pointer (some ⟨B, 0, none⟩)]) ∧ w.heap.size ≤ B ∧ Blk w' B 166 [.slice a (numsFrom T.ents 0).length cap] ∧
      Row w' 170 6 (.slice a (numsFrom T.ents 0).length cap) (numsFrom T.ents 0).length (flatN (numsFrom T.ents 0)) ∧ (∀ b, (Value.slice a (numsFrom T.ents 0).length cap).ownBlock = some b → w.heap.size ≤ b) ∧ Kept Nil w w' := by
  have hl := lived_anyZ m t pv sv T w h hlen hlive
  obtain ⟨n, hn⟩ : ∃ n, n = (numsFrom T.ents 0).length := ⟨_, rfl⟩
  rw [← hn] at hl ⊢
  clear h hn
  go_enter Try.func39, Try.ntmps39
  go_wp2_with (go_at_call 102; refine hl.mono ?_; clear hl; rintro e w1 ⟨lv, rfl, hrow, hown, hk⟩; obtain ⟨a, cap, rfl⟩ : ∃ a cap, lv = .slice a n cap := (by rcases hrow.form with ⟨h1, h2, _⟩ | ⟨g, cap, h1, _⟩; exact ⟨none, 0, by rw [h1, h2]⟩; exact ⟨_, cap, h1⟩))
  go_ret
  exact ⟨_, a, cap, rfl, hk.size, Blk.new w1 166 _, hrow.alloc _, hown, hk.alloc _⟩

set_option maxRecDepth 100000 in
set_option maxHeartbeats 4000000 in
theorem copy_anyZ (m : Option Nat) (C : Cnt) (t : Nat) (pv sv : Value) (T : Tab) (w : World) (h : TabHead w m t pv sv T) (hm : Mt w m C) (hlen : T.ents.length ≤ 30000) (hlive : T.live ≤ 10000) (hc : T.live = T.count) :
    Calls Try.prog 28 #[.pointer (some ⟨t, 0, none⟩)] w fun e w' => ∃ t' c' r' sv', e = .returned (.pointer (some ⟨t', 0, none⟩)) ∧ TabAt w' m t' c' r' sv' T.copy ∧ (∀ b, own t' c' r' sv' b → w.heap.size ≤ b) ∧ Mt w' m C.table ∧ Kept (Mr m) w w' := by
  have ht0 : w.cell? ⟨t, 0, none⟩ = some (mptr m) := h.head.cell 0
  obtain ⟨pm, hpm⟩ : ∃ pm, mptr m = .pointer pm := ⟨_, rfl⟩
  rw [hpm] at ht0
  have H := hid h
  have HM := hid hm
  have hit := fun w' (hk : Kept Nil w w') => iterAll_anyZ m t pv sv T w' (h.kept' hk (fun _ _ => id)) (by omega) (by omega)
  have HIT := hid hit
  clear h hm hit
  refine calls_of_wp_marks Try.func28 rfl ?_
  simp only [Try.ntmps28, List.size_toArray, List.length_cons, List.length_nil, Nat.reduceAdd, Nat.reduceSub, Array.replicate_succ, Array.replicate_zero, List.push_toArray, List.append_toArray, List.nil_append, List.cons_append]
  go_wp2_with (go_at_call 39; refine (HIT.out _ (((Kept.refl _ w).alloc _).alloc _)).mono ?_; rintro e w2 ⟨B, a, cap, rfl, hB, hbB, hrow, hown, hk2⟩)
  obtain ⟨W0, hW0⟩ : ∃ W0, W0 = (w.alloc (Obj.cells #[Value.pointer pm, Value.slice none 0 0, Value.pointer none, Value.int .i64 0, Value.int .i64 0, Value.int .i64 0, Value.int .i64 0] 146)).alloc (Obj.cells #[Value.pointer (some ⟨w.heap.size, 0, none⟩)] 24) := ⟨_, rfl⟩
  rw [← hW0] at hk2 hB hown
  have hk0 : Kept Nil w W0 := by rw [hW0]; exact ((Kept.refl _ w).alloc _).alloc _
  have hc0 : Blk W0 w.heap.size 146 [mptr m, .slice none 0 0, .pointer none, .int .i64 0, .int .i64 0, .int .i64 0, .int .i64 0] := by rw [hW0, hpm]; exact (Blk.new w 146 _).alloc _
  have hx0 : Blk W0 (w.heap.size + 1) 24 [.pointer (some ⟨w.heap.size, 0, none⟩)] := by rw [hW0]; simpa using Blk.new (w.alloc (Obj.cells #[Value.pointer pm, Value.slice none 0 0, Value.pointer none, Value.int .i64 0, Value.int .i64 0, Value.int .i64 0, Value.int .i64 0] 146)) 24 [.pointer (some ⟨w.heap.size, 0, none⟩)]
  have hc2 := hc0.kept hk2 id
  have hx2 := hx0.kept hk2 id
  have hkw2 := hk0.trans hk2 (fun _ _ h => h)
  have hs0 : w.heap.size + 2 ≤ W0.heap.size := by rw [hW0]; simp
  have hs2 := hk2.size
  have hM2 := HM.out.kept hkw2 (fun _ _ => id)
  obtain ⟨ls, hls⟩ : ∃ ls, ls = numsFrom T.ents 0 := ⟨_, rfl⟩
  rw [← hls] at hbB hrow hown
  have hll : ls.length ≤ 30000 := by rw [hls]; exact Nat.le_trans (numsFrom_le _ _) hlen
  rename_i K hK
  refine wp_range_box (α := Nat × Ent) rfl (enters_of Try.func103 (by kernel_rfl) rfl) (tabAll_stops 2 (by omega) B a cap ls (by omega) w2 hbB hrow) (fun h k => KpAt.trans h k) (KpAt.put hbB.lt (fun g hg => hrow.lt hg)) (fun _ => rfl)
    (fun pre W' => ∃ esv, Kept (fun b => b = w.heap.size) w2 W' ∧ Blk W' w.heap.size 146 [mptr m, esv, .pointer none, .int .i64 0, .int .i64 (pre.length : Nat), .int .i64 0, .int .i64 0] ∧ Row W' 32 5 esv pre.length (flat (renum (pre.map (·.2)) 0)) ∧ (∀ b, esv.ownBlock = some b → w2.heap.size ≤ b))
    (fun _ _ _ => False)
    ?_ ?_ ⟨.slice none 0 0, Kept.refl _ _, hc2, Row.nil _ _ _, fun b hb => by cases hb⟩
    (fun x a' W' => ∃ b5 esv L, w2.heap.size ≤ b5 ∧ Blk W' b5 32 x.2.vals ∧ Blk W' w.heap.size 146 [mptr m, esv, .pointer none, .int .i64 0, L, .int .i64 0, .int .i64 0] ∧ esv.ownBlock ≠ some b5 ∧ a' = { tmps := #[Value.pointer (some ⟨t, 0, none⟩), undef, Value.pointer none, Value.pointer (some ⟨w.heap.size + 1, 0, none⟩), undef, Value.pointer (some ⟨b5, 0, none⟩), Value.pointer (some ⟨t, 0, none⟩), Value.bool false, Value.pointer (some ⟨t, 0, none⟩), Value.pointer (some ⟨t, 0, none⟩), Value.pointer (some ⟨t, 0, none⟩), Value.pointer pm, Value.agg #[Value.pointer pm, Value.slice none 0 0, Value.pointer none, Value.int .i64 0, Value.int .i64 0, Value.int .i64 0, Value.int .i64 0], Value.pointer (some ⟨w.heap.size, 0, none⟩), Value.pointer (some ⟨t, 0, none⟩), Value.func (Fn.func 103) #[] #[Value.pointer (some ⟨B, 0, none⟩)], Value.int .i64 (x.1 : Nat), Ent.agg x.2, undef, undef, undef, undef, undef, undef, undef, undef, undef, undef, undef, undef, undef, undef, undef, undef, undef, undef, undef, undef, undef, undef, undef, undef, undef, undef, undef, undef, undef, undef, undef, undef, undef, undef, undef, undef, undef], defers := [] })
    ?_ ?assign ?body ?done ?stop
  case assign =>
    rintro l pre x W K' ⟨esv, hk, hb, hrow', hesv⟩ hK'
    unfold Ent.agg
    unfold Ent.agg at hK'
    gi_wp2
    refine hK' _ _ (keepsFrom_of ((Kept.refl Nil W).alloc _) (fun _ _ _ _ _ => id)) ⟨Below.heap_alloc _ _ _ (Nat.lt_of_lt_of_le hbB.lt hk.size), fun g hg => Below.heap_alloc _ _ _ (Nat.lt_of_lt_of_le (hrow.lt hg) hk.size)⟩ ⟨esv, hk.alloc _, hb.alloc _, hrow'.alloc _, hesv⟩ ⟨W.heap.size, esv, _, hk.size, Blk.new W 32 x.2.vals, hb.alloc _, fun e => by have := hrow'.lt e; omega, rfl⟩
  case body =>
    rintro l pre x a' W hl ⟨esv, hk, hb, hrow', hesv⟩ ⟨b5, esv', L, hb5, hblk5, hbc, hno, rfl⟩ hpl
    have hinj := (hbc.inj hb).2
    simp at hinj
    obtain ⟨he, -⟩ := hinj
    rw [he] at hno
    clear hbc he
    have hxW := hx2.kept hk (by omega)
    have q3 : W.cell? ⟨w.heap.size + 1, 0, none⟩ = some (.pointer (some ⟨w.heap.size, 0, none⟩)) := hxW.cell 0
    have c1 : W.cell? ⟨w.heap.size, 1, none⟩ = some esv := hb.cell 1
    have c4 : W.cell? ⟨w.heap.size, 4, none⟩ = some (.int .i64 (pre.length : Nat)) := hb.cell 4
    have f1 := hb.frozen 1
    have f4 := hb.frozen 4
    have e0 : W.cell? ⟨b5, 0, none⟩ = some (.bool x.2.live) := hblk5.cell 0
    have e1 : W.cell? ⟨b5, 1, none⟩ = some (.int .i64 x.2.hash) := hblk5.cell 1
    have e2 : W.cell? ⟨b5, 2, none⟩ = some (.int .i64 x.2.key) := hblk5.cell 2
    have e3 : W.cell? ⟨b5, 3, none⟩ = some (.int .i64 x.2.value) := hblk5.cell 3
    have e4 : W.cell? ⟨b5, 4, none⟩ = some (.int .i64 x.2.birth) := hblk5.cell 4
    have g4 := hblk5.frozen 4
    have hne : b5 ≠ w.heap.size := by omega
    have hne2 : b5 ≠ w.heap.size + 1 := by omega
    obtain ⟨np, hnp⟩ : ∃ np, np = pre.length := ⟨_, rfl⟩
    have hnp3 : np ≤ 30000 := by omega
    have HBLK := hid hb
    have HROW := hid hrow'
    have HESV := hid hesv
    have HB5 := hid hblk5
    rw [← hnp] at c4
    have HNP := hid hnp
    clear hb hrow' hesv hblk5 hnp
    gi_wp2
    obtain ⟨W1, hW1⟩ : ∃ W1, W1 = (W.setCell ⟨b5, 4, none⟩ (.int .i64 np)).setCell ⟨w.heap.size, 4, none⟩ (.int .i64 ((np : Int) + 1)) := ⟨_, rfl⟩
    rw [← hW1]
    obtain ⟨i0, hi, hz0, hz1, hz2⟩ := info_parts Try.infoEntry
    obtain ⟨y, hy⟩ : ∃ y : Ent, y = { x.2 with birth := np } := ⟨_, rfl⟩
    have hk1 : Kept (fun b => b = w.heap.size ∨ b = b5) W W1 := by rw [hW1]; exact ((Kept.refl (fun b => b = w.heap.size ∨ b = b5) W).setCell (p := ⟨b5, 4, none⟩) (.inl (.inr rfl)) _).setCell (p := ⟨w.heap.size, 4, none⟩) (.inl (.inl rfl)) _
    have hb1 : Blk W1 w.heap.size 146 [mptr m, esv, .pointer none, .int .i64 0, .int .i64 ((np : Int) + 1), .int .i64 0, .int .i64 0] := by
      rw [hW1]
      have := (HBLK.out.other (a := ⟨b5, 4, none⟩) hne.symm (.int .i64 np)).set 4 (.int .i64 ((np : Int) + 1))
      exact this
    have hb51 : Blk W1 b5 32 y.vals := by
      rw [hW1, hy]
      have := (HB5.out.set 4 (.int .i64 np)).other (a := ⟨w.heap.size, 4, none⟩) hne (.int .i64 ((np : Int) + 1))
      exact this
    have hesvb : ∀ b, esv.ownBlock = some b → b ≠ w.heap.size ∧ b ≠ b5 := fun b hb => by
      exact ⟨by have := HESV.out b hb; omega, fun e => hno (by rw [hb, e])⟩
    have hr1 : Row W1 32 5 esv np (flat (renum (pre.map (·.2)) 0)) := by
      have := HROW.out.kept hk1 (fun g hg e => by rcases e with e | e; exact (hesvb g hg).1 e; exact (hesvb g hg).2 e)
      rw [← HNP.out] at this; exact this
    have hx1 := hxW.kept hk1 (fun e => by rcases e with e | e; omega; exact hne2 e.symm)
    have hS : ∀ w', Kept (fun b => b = w.heap.size ∨ esv.ownBlock = some b) W1 w' → (fun w' => w'.cell? ⟨w.heap.size + 1, 0, none⟩ = some (.pointer (some ⟨w.heap.size, 0, none⟩)) ∧ w'.cell? ⟨b5, 0, none⟩ = some (.bool x.2.live) ∧ w'.cell? ⟨b5, 1, none⟩ = some (.int .i64 x.2.hash) ∧ w'.cell? ⟨b5, 2, none⟩ = some (.int .i64 x.2.key) ∧ w'.cell? ⟨b5, 3, none⟩ = some (.int .i64 x.2.value) ∧ w'.cell? ⟨b5, 4, none⟩ = some (.int .i64 np)) w' := by
      intro w' hk'
      have ha := hb51.kept hk' (fun e => by rcases e with e | e; exact hne e; exact hno e)
      have hb' := hx1.kept hk' (fun e => by rcases e with e | e; omega; have := HESV.out _ e; omega)
      rw [hy] at ha
      exact ⟨hb'.cell 0, ha.cell 0, ha.cell 1, ha.cell 2, ha.cell 3, ha.cell 4⟩
    have HS := hid hS
    have hS1 := hS W1.drew ((Kept.refl _ W1).drew)
    have d1 : W1.cell? ⟨w.heap.size, 1, none⟩ = some esv := hb1.cell 1
    have fz1 := hb1.frozen 1
    obtain ⟨WA, hWA⟩ : ∃ WA, WA = W1.alloc (Obj.cells #[.bool x.2.live, .int .i64 x.2.hash, .int .i64 x.2.key, .int .i64 x.2.value, .int .i64 np] 32) := ⟨_, rfl⟩
    have hkA : Kept Nil W1 WA := by rw [hWA]; exact (Kept.refl _ W1).alloc _
    have hrowA := hr1.kept hkA (fun _ _ => id)
    have hnewA : ∀ j u, y.vals[j]? = some u → WA.cell? ((⟨W1.heap.size, 0, none⟩ : Addr).add j) = some u := by
      intro j u hu
      rw [show (⟨W1.heap.size, 0, none⟩ : Addr).add j = ⟨W1.heap.size, j, none⟩ by unfold Addr.add; split <;> simp_all]
      have hb2 : Blk WA W1.heap.size 32 [.bool x.2.live, .int .i64 x.2.hash, .int .i64 x.2.key, .int .i64 x.2.value, .int .i64 np] := by rw [hWA]; exact Blk.new W1 32 _
      rw [hb2.cell]
      rw [hy] at hu
      exact hu
    have h1c : ∀ v ∈ y.vals, v.oneCell' = true := by simp [Ent.vals, Value.oneCell']
    have hSA := hS WA.drew ((hkA.mono (fun _ _ h => h.elim)).drew)
    rw [hWA] at hSA
    have dA1 : WA.cell? ⟨w.heap.size, 1, none⟩ = some esv := (hb1.kept hkA id).cell 1
    rw [hWA] at dA1
    have ROWA := hid hrowA
    have NEWA := hid hnewA
    have H1C := hid h1c
    have HWA := hid hWA
    have HY := hid hy
    have HB1 := hid hb1
    have HKA := hid hkA
    clear hrowA hnewA h1c hWA hy hS hW1 hr1 hb51 hx1 q3 c1 c4 f1 f4 e0 e1 e2 e3 e4 g4
    refine round_held (by kernel_rfl) (by kernel_rfl) (fun _ _ h => h) (S := (fun w' => w'.cell? ⟨w.heap.size + 1, 0, none⟩ = some (.pointer (some ⟨w.heap.size, 0, none⟩)) ∧ w'.cell? ⟨b5, 0, none⟩ = some (.bool x.2.live) ∧ w'.cell? ⟨b5, 1, none⟩ = some (.int .i64 x.2.hash) ∧ w'.cell? ⟨b5, 2, none⟩ = some (.int .i64 x.2.key) ∧ w'.cell? ⟨b5, 3, none⟩ = some (.int .i64 x.2.value) ∧ w'.cell? ⟨b5, 4, none⟩ = some (.int .i64 np))) ?_
    refine wpAnyH_take (i := 0) (oi := _) (v := (.pointer (some ⟨w.heap.size, 0, none⟩))) rfl (by kernel_rfl) (by kernel_rfl) (by kernel_rfl) (fun _ _ _ h => h) (Or.inl ⟨by rfl, ?_⟩) hS1 ?_
    · rintro w' ⟨h1, h2, h3, h4, h5, h6⟩; go_simp
    simp only [Act.put, List.setIfInBounds_toArray, List.set_cons_zero, List.set_cons_succ]
    refine wpAnyH_take (i := 1) (oi := _) (v := (.pointer (some ⟨w.heap.size, 0, none⟩))) rfl (by kernel_rfl) (by kernel_rfl) (by kernel_rfl) (fun _ _ _ h => h) (Or.inl ⟨by rfl, ?_⟩) hS1 ?_
    · rintro w' ⟨h1, h2, h3, h4, h5, h6⟩; go_simp
    simp only [Act.put, List.setIfInBounds_toArray, List.set_cons_zero, List.set_cons_succ]
    refine wpAnyH_take (i := 2) (oi := _) (v := (.pointer (some ⟨w.heap.size, 0, none⟩))) rfl (by kernel_rfl) (by kernel_rfl) (by kernel_rfl) (fun _ _ _ h => h) (Or.inl ⟨by rfl, ?_⟩) hS1 ?_
    · rintro w' ⟨h1, h2, h3, h4, h5, h6⟩; go_simp
    simp only [Act.put, List.setIfInBounds_toArray, List.set_cons_zero, List.set_cons_succ]
    refine wpAnyH_take (i := 3) (oi := _) (v := (.pointer (some ⟨w.heap.size, 1, none⟩))) rfl (by kernel_rfl) (by kernel_rfl) (by kernel_rfl) (fun _ _ _ h => h) (Or.inl ⟨by rfl, ?_⟩) hS1 ?_
    · rintro w' ⟨h1, h2, h3, h4, h5, h6⟩; go_simp
    simp only [Act.put, List.setIfInBounds_toArray, List.set_cons_zero, List.set_cons_succ]
    refine wpAnyH_take (i := 5) (oi := _) (v := (.agg #[.bool x.2.live, .int .i64 x.2.hash, .int .i64 x.2.key, .int .i64 x.2.value, .int .i64 np])) rfl (by kernel_rfl) (by kernel_rfl) (by kernel_rfl) (fun _ _ _ h => h) (Or.inl ⟨by rfl, ?_⟩) hS1 ?_
    · rintro w' ⟨h1, h2, h3, h4, h5, h6⟩; go_simp
    simp only [Act.put, List.setIfInBounds_toArray, List.set_cons_zero, List.set_cons_succ]
    refine wpAnyH_ready (rs := [4, 6]) (by kernel_rfl) (by simp) (AllReadyH.cons (o := _) rfl (fun K hK => ?_) (AllReadyH.cons (o := _) rfl (fun K hK => ?_) AllReadyH.nil))
    · go_simp
      refine hK.out _ _ hS1 (fun _ => ?_)
      refine wpAnyH_ready (rs := [6]) (by kernel_rfl) (by simp) (AllReadyH.cons (o := _) rfl (fun K hK => ?_) AllReadyH.nil)
      go_simp
      refine hK.out _ _ hSA (fun _ => ?_)
      refine wpAnyH_ready (rs := [7]) (by kernel_rfl) (by simp) (AllReadyH.cons (o := _) rfl (fun K hK => ?_) AllReadyH.nil)
      rw [← HWA.out]
      refine step_append_row WA.drew (by rfl) (.tmp 34) (.tmp 36) 25 (by rfl) 32 i0 _ 5 40 Try.underlying25 hi hz0 hz1 hz2 rfl (by omega) esv np (flat (renum (pre.map (·.2)) 0)) (by rfl) ROWA.out.drew ⟨W1.heap.size, 0, none⟩ 1 1 y.vals (by rfl) rfl NEWA.out H1C.out (by unfold maxLen; omega) (by omega) (by omega) ?_
      intro v' w3 hrow3 hg3
      obtain ⟨g2, cap2, rfl, hcp, -⟩ := hg3.form
      have hk3 : Kept (fun b => esv.ownBlock = some b) W1 w3 := ((HKA.out.mono (R' := fun b => esv.ownBlock = some b) (fun _ _ h => h.elim)).drew).grown hg3.by_ (fun k e => .inl e)
      have hb3 := HB1.out.kept hk3 (fun e => (hesvb _ e).1 rfl)
      have s1 : w3.cell? ⟨w.heap.size, 1, none⟩ = some esv := hb3.cell 1
      have sf1 := hb3.frozen 1
      have hk3' : Kept (fun b => b = w.heap.size ∨ esv.ownBlock = some b) W1 w3 := hk3.mono (fun _ _ h => .inr h)
      have hS3 := HS.out w3 hk3'
      have hk4 : Kept (fun b => b = w.heap.size ∨ esv.ownBlock = some b) W1 (w3.setCell ⟨w.heap.size, 1, none⟩ (.slice (some ⟨g2, 0, none⟩) (np + 1) cap2)) := hk3'.setCell (p := ⟨w.heap.size, 1, none⟩) (.inl (.inl rfl)) _
      have hS4 := HS.out _ hk4
      refine hK.out _ _ hS3 (fun _ => ?_)
      refine wpAnyH_take (i := 8) (oi := _) (v := (.pointer (some ⟨w.heap.size, 0, none⟩))) rfl (by kernel_rfl) (by kernel_rfl) (by kernel_rfl) (fun _ _ _ h => h) (Or.inl ⟨by rfl, ?_⟩) hS3 ?_
      · rintro w' ⟨h1, h2, h3, h4, h5, h6⟩; go_simp
      simp only [Act.put, List.setIfInBounds_toArray, List.set_cons_zero, List.set_cons_succ]
      refine wpAnyH_take (i := 9) (oi := _) (v := (.pointer (some ⟨w.heap.size, 1, none⟩))) rfl (by kernel_rfl) (by kernel_rfl) (by kernel_rfl) (fun _ _ _ h => h) (Or.inl ⟨by rfl, ?_⟩) hS3 ?_
      · rintro w' ⟨h1, h2, h3, h4, h5, h6⟩; go_simp
      simp only [Act.put, List.setIfInBounds_toArray, List.set_cons_zero, List.set_cons_succ]
      refine wpAnyH_ready (rs := [10]) (by kernel_rfl) (by simp) (AllReadyH.cons (o := _) rfl (fun K hK => ?_) AllReadyH.nil)
      go_simp
      refine hK.out _ _ hS4 (fun _ => ?_)
      refine wpAnyH_done (by kernel_rfl) ?_ _
      have hrow5 : Row (w3.setCell ⟨w.heap.size, 1, none⟩ (.slice (some ⟨g2, 0, none⟩) (np + 1) cap2)) 32 5 (.slice (some ⟨g2, 0, none⟩) (np + 1) cap2) (np + 1) (flat (renum (pre.map (·.2)) 0) ++ y.vals) := hrow3.other (a := ⟨w.heap.size, 1, none⟩) (fun g' hg' e => by
        cases hg'
        simp at e
        rcases hg3.own with e2 | ⟨g3, e2, hg⟩
        · exact (hesvb g2 (by rw [← e2]; rfl)).1 e
        · obtain rfl : g2 = g3 := by simpa [Value.ownBlock] using e2
          have := hk.size; have := hk1.size; have := HKA.out.size; have : WA.drew.heap.size = WA.heap.size := rfl; omega) _
      have kall : Kept (fun b => b = w.heap.size ∨ b = b5 ∨ esv.ownBlock = some b) W (w3.setCell ⟨w.heap.size, 1, none⟩ (.slice (some ⟨g2, 0, none⟩) (np + 1) cap2)) :=
        (hk1.mono (R' := fun b => b = w.heap.size ∨ b = b5 ∨ esv.ownBlock = some b) (fun _ _ h => h.elim .inl (fun e => .inr (.inl e)))).trans hk4 (fun _ _ h => h.elim .inl (fun e => .inr (.inr e)))
      have hg2b : w2.heap.size ≤ g2 := by
        rcases hg3.own with e | ⟨g', e, hg⟩
        · exact HESV.out g2 (by rw [← e]; rfl)
        · obtain rfl : g2 = g' := by simpa [Value.ownBlock] using e
          have := hk.size; have := hk1.size; have := HKA.out.size; have : WA.drew.heap.size = WA.heap.size := rfl; omega
      have hBl := hbB.lt
      refine ⟨keepsFrom_of kall (fun b o hb' ho hoc e => ?_), ⟨kall.block B (Nat.lt_of_lt_of_le hBl hk.size) (fun e => ?_), fun g hg => kall.block g (Nat.lt_of_lt_of_le (hrow.lt hg) hk.size) (fun e => ?_)⟩, .slice (some ⟨g2, 0, none⟩) (np + 1) cap2, ?_, ?_, ?_, fun b hb' => ?_⟩
      · rcases e with e | e | e
        · omega
        · subst e; have h5 := HB5.out; unfold Blk at h5; rw [h5] at ho; cases ho; cases hoc
        · obtain ⟨cur, hbb⟩ := Row.blk HROW.out e
          unfold Blk at hbb; rw [hbb] at ho; cases ho; cases hoc
      · rcases e with e | e | e
        · omega
        · omega
        · have := HESV.out B e; omega
      · have h1 := hown g hg
        have h2 := hrow.lt hg
        rcases e with e | e | e
        · omega
        · omega
        · have := HESV.out g e; omega
      · exact hk.trans kall (fun b hb' e => by rcases e with e | e | e; exact e; omega; have := HESV.out b e; omega)
      · have e := hb3.set 1 (.slice (some ⟨g2, 0, none⟩) (np + 1) cap2)
        rw [List.length_append, ← HNP.out]
        exact e
      · rw [List.length_append, List.map_append, renum_append, flat_append, List.length_map, ← HNP.out]
        have e1 : flat (renum (List.map (·.2) [x]) (0 + np)) = y.vals := by rw [HY.out]; simp [renum, flat]
        rw [e1]
        exact hrow5
      · cases hb'; exact hg2b
    · go_simp
      refine hK.out _ _ hSA (fun _ => ?_)
      refine wpAnyH_ready (rs := [4]) (by kernel_rfl) (by simp) (AllReadyH.cons (o := _) rfl (fun K hK => ?_) AllReadyH.nil)
      go_simp
      refine hK.out _ _ hSA (fun _ => ?_)
      refine wpAnyH_ready (rs := [7]) (by kernel_rfl) (by simp) (AllReadyH.cons (o := _) rfl (fun K hK => ?_) AllReadyH.nil)
      rw [← HWA.out]
      refine step_append_row WA.drew (by rfl) (.tmp 34) (.tmp 36) 25 (by rfl) 32 i0 _ 5 40 Try.underlying25 hi hz0 hz1 hz2 rfl (by omega) esv np (flat (renum (pre.map (·.2)) 0)) (by rfl) ROWA.out.drew ⟨W1.heap.size, 0, none⟩ 1 1 y.vals (by rfl) rfl NEWA.out H1C.out (by unfold maxLen; omega) (by omega) (by omega) ?_
      intro v' w3 hrow3 hg3
      obtain ⟨g2, cap2, rfl, hcp, -⟩ := hg3.form
      have hk3 : Kept (fun b => esv.ownBlock = some b) W1 w3 := ((HKA.out.mono (R' := fun b => esv.ownBlock = some b) (fun _ _ h => h.elim)).drew).grown hg3.by_ (fun k e => .inl e)
      have hb3 := HB1.out.kept hk3 (fun e => (hesvb _ e).1 rfl)
      have s1 : w3.cell? ⟨w.heap.size, 1, none⟩ = some esv := hb3.cell 1
      have sf1 := hb3.frozen 1
      have hk3' : Kept (fun b => b = w.heap.size ∨ esv.ownBlock = some b) W1 w3 := hk3.mono (fun _ _ h => .inr h)
      have hS3 := HS.out w3 hk3'
      have hk4 : Kept (fun b => b = w.heap.size ∨ esv.ownBlock = some b) W1 (w3.setCell ⟨w.heap.size, 1, none⟩ (.slice (some ⟨g2, 0, none⟩) (np + 1) cap2)) := hk3'.setCell (p := ⟨w.heap.size, 1, none⟩) (.inl (.inl rfl)) _
      have hS4 := HS.out _ hk4
      refine hK.out _ _ hS3 (fun _ => ?_)
      refine wpAnyH_take (i := 8) (oi := _) (v := (.pointer (some ⟨w.heap.size, 0, none⟩))) rfl (by kernel_rfl) (by kernel_rfl) (by kernel_rfl) (fun _ _ _ h => h) (Or.inl ⟨by rfl, ?_⟩) hS3 ?_
      · rintro w' ⟨h1, h2, h3, h4, h5, h6⟩; go_simp
      simp only [Act.put, List.setIfInBounds_toArray, List.set_cons_zero, List.set_cons_succ]
      refine wpAnyH_take (i := 9) (oi := _) (v := (.pointer (some ⟨w.heap.size, 1, none⟩))) rfl (by kernel_rfl) (by kernel_rfl) (by kernel_rfl) (fun _ _ _ h => h) (Or.inl ⟨by rfl, ?_⟩) hS3 ?_
      · rintro w' ⟨h1, h2, h3, h4, h5, h6⟩; go_simp
      simp only [Act.put, List.setIfInBounds_toArray, List.set_cons_zero, List.set_cons_succ]
      refine wpAnyH_ready (rs := [10]) (by kernel_rfl) (by simp) (AllReadyH.cons (o := _) rfl (fun K hK => ?_) AllReadyH.nil)
      go_simp
      refine hK.out _ _ hS4 (fun _ => ?_)
      refine wpAnyH_done (by kernel_rfl) ?_ _
      have hrow5 : Row (w3.setCell ⟨w.heap.size, 1, none⟩ (.slice (some ⟨g2, 0, none⟩) (np + 1) cap2)) 32 5 (.slice (some ⟨g2, 0, none⟩) (np + 1) cap2) (np + 1) (flat (renum (pre.map (·.2)) 0) ++ y.vals) := hrow3.other (a := ⟨w.heap.size, 1, none⟩) (fun g' hg' e => by
        cases hg'
        simp at e
        rcases hg3.own with e2 | ⟨g3, e2, hg⟩
        · exact (hesvb g2 (by rw [← e2]; rfl)).1 e
        · obtain rfl : g2 = g3 := by simpa [Value.ownBlock] using e2
          have := hk.size; have := hk1.size; have := HKA.out.size; have : WA.drew.heap.size = WA.heap.size := rfl; omega) _
      have kall : Kept (fun b => b = w.heap.size ∨ b = b5 ∨ esv.ownBlock = some b) W (w3.setCell ⟨w.heap.size, 1, none⟩ (.slice (some ⟨g2, 0, none⟩) (np + 1) cap2)) :=
        (hk1.mono (R' := fun b => b = w.heap.size ∨ b = b5 ∨ esv.ownBlock = some b) (fun _ _ h => h.elim .inl (fun e => .inr (.inl e)))).trans hk4 (fun _ _ h => h.elim .inl (fun e => .inr (.inr e)))
      have hg2b : w2.heap.size ≤ g2 := by
        rcases hg3.own with e | ⟨g', e, hg⟩
        · exact HESV.out g2 (by rw [← e]; rfl)
        · obtain rfl : g2 = g' := by simpa [Value.ownBlock] using e
          have := hk.size; have := hk1.size; have := HKA.out.size; have : WA.drew.heap.size = WA.heap.size := rfl; omega
      have hBl := hbB.lt
      refine ⟨keepsFrom_of kall (fun b o hb' ho hoc e => ?_), ⟨kall.block B (Nat.lt_of_lt_of_le hBl hk.size) (fun e => ?_), fun g hg => kall.block g (Nat.lt_of_lt_of_le (hrow.lt hg) hk.size) (fun e => ?_)⟩, .slice (some ⟨g2, 0, none⟩) (np + 1) cap2, ?_, ?_, ?_, fun b hb' => ?_⟩
      · rcases e with e | e | e
        · omega
        · subst e; have h5 := HB5.out; unfold Blk at h5; rw [h5] at ho; cases ho; cases hoc
        · obtain ⟨cur, hbb⟩ := Row.blk HROW.out e
          unfold Blk at hbb; rw [hbb] at ho; cases ho; cases hoc
      · rcases e with e | e | e
        · omega
        · omega
        · have := HESV.out B e; omega
      · have h1 := hown g hg
        have h2 := hrow.lt hg
        rcases e with e | e | e
        · omega
        · omega
        · have := HESV.out g e; omega
      · exact hk.trans kall (fun b hb' e => by rcases e with e | e | e; exact e; omega; have := HESV.out b e; omega)
      · have e := hb3.set 1 (.slice (some ⟨g2, 0, none⟩) (np + 1) cap2)
        rw [List.length_append, ← HNP.out]
        exact e
      · rw [List.length_append, List.map_append, renum_append, flat_append, List.length_map, ← HNP.out]
        have e1 : flat (renum (List.map (·.2) [x]) (0 + np)) = y.vals := by rw [HY.out]; simp [renum, flat]
        rw [e1]
        exact hrow5
      · cases hb'; exact hg2b
  case done =>
    rintro D xs W hD rfl ⟨esv, hk, hb, hrow', hesv⟩ hKD
    obtain ⟨n, hn⟩ : ∃ n, n = xs.length := ⟨_, rfl⟩
    rw [← hn] at hb hrow' hll
    obtain ⟨ea, ecap, hev⟩ : ∃ ea ecap, esv = .slice ea n ecap := by
      rcases hrow'.form with ⟨h1, h2, _⟩ | ⟨g, cap', h1, _⟩
      · exact ⟨none, 0, by rw [h1, h2]⟩
      · exact ⟨_, cap', h1⟩
    subst hev
    have hes : renum (xs.map (·.2)) 0 = T.copy.ents := by rw [hls, numsFrom_map]; rfl
    rw [hes] at hrow'
    have hnl : T.copy.ents.length = n := by rw [← hes, hn]; have : ∀ (l : List Ent) (k : Nat), (renum l k).length = l.length := (by intro l; induction l with | nil => intro k; rfl | cons x l ih => intro k; simp [renum, ih]); rw [this, List.length_map]
    have hn10 : n ≤ 10000 := by
      have h1 : (xs.map (·.2)).length = T.count := by rw [hls, numsFrom_map]; rfl
      rw [List.length_map] at h1
      omega
    have HNL := hid hnl
    have HHN := hid hn
    have HLS := hid hls
    clear hls hn hes hnl
    have hxW := hx2.kept hk (by omega)
    have q3 : W.cell? ⟨w.heap.size + 1, 0, none⟩ = some (.pointer (some ⟨w.heap.size, 0, none⟩)) := hxW.cell 0
    have d1 : W.cell? ⟨w.heap.size, 1, none⟩ = some (.slice ea n ecap) := hb.cell 1
    have d3 : W.cell? ⟨w.heap.size, 3, none⟩ = some (.int .i64 0) := hb.cell 3
    have f3 := hb.frozen 3
    refine hK _ _ ?_
    dsimp only []
    apply wp_seq_k; intro K9 hK9
    go_still_tail 6, (by kernel_rfl)
    change wpList _ _ _ _ _ W.drew
    go_wp2
    obtain ⟨W1, hW1⟩ : ∃ W1, W1 = W.setCell ⟨w.heap.size, 3, none⟩ (.int .i64 n) := ⟨_, rfl⟩
    rw [← hW1]
    have hk1 : Kept (fun b => b = w.heap.size) W W1 := by rw [hW1]; exact (Kept.refl (fun b => b = w.heap.size) W).setCell (p := ⟨w.heap.size, 3, none⟩) (.inl rfl) _
    have hb1 : Blk W1 w.heap.size 146 [mptr m, .slice ea n ecap, .pointer none, .int .i64 n, .int .i64 n, .int .i64 0, .int .i64 0] := by rw [hW1]; exact hb.set 3 (.int .i64 n)
    have hr1 := hrow'.kept hk1 (fun g hg e => by have := hesv g hg; omega)
    have hx1 := hxW.kept hk1 (by omega)
    have hmlt : ∀ b, m = some b → b < w.heap.size := fun b hb => by
      subst hb
      have hMb : Blk w b 71 [.int .i64 C.tables, .int .i64 C.cells, .int .i64 C.values, .int .i64 C.shifts] := HM.out
      exact hMb.lt
    have hM1 := (hM2.kept hk (fun b hb e => by have := hmlt b hb; omega)).kept hk1 (fun b hb e => by have := hmlt b hb; omega)
    obtain ⟨gl, hgl⟩ : ∃ gl, gl = T.copy.log := ⟨_, rfl⟩
    have hlg : T.copy.log = leastLog (fun i => decide (n ≤ 2 * 2 ^ i / 3)) := by rw [← HNL.out]; rfl
    have hgl15 : gl ≤ 15 := by rw [hgl, hlg]; exact leastLog_le (p := fun i => decide (n ≤ 2 * 2 ^ i / 3)) (by omega) (by omega) (by simp; omega)
    have hsp := leastLog_spec (p := fun i => decide (n ≤ 2 * 2 ^ i / 3)) (by rw [← hlg, ← hgl]; omega)
    rw [← hlg, ← hgl] at hsp
    have hgl3 := hsp.1
    have hglr : n ≤ room gl := of_decide_eq_true hsp.2
    have hleast := fun w' (hkk : Kept Nil W1 w') => least_copy (.pointer (some ⟨w.heap.size + 1, 0, none⟩)) (fun i => decide (n ≤ 2 * 2 ^ i / 3)) w' (fun i w1 h3 h20 hk' => copy1_any (w.heap.size + 1) w.heap.size i n w1 h20 (by omega) ((hx1.kept (hkk.trans hk' (fun _ _ h => h)) id).cell 0) ((hb1.kept (hkk.trans hk' (fun _ _ h => h)) id).cell 3))
    rw [← hlg, ← hgl] at hleast
    have hidx := fun w' (hkk : Kept Nil W1 w') => index_any m C w.heap.size gl _ _ _ _ _ _ w' hgl3 hgl15 (hM1.kept hkk (fun _ _ => id)) (show -1000000 ≤ (0 : Int) ∧ (0 : Int) ≤ 1000000 by omega) (hb1.kept hkk id)
    have HLEAST := hid hleast
    have HIDX := hid hidx
    have HB1 := hid hb1
    have HR1 := hid hr1
    have HX1 := hid hx1
    have HM1 := hid hM1
    have HGL := hid hgl
    have HGR := hid hglr
    have r3 : W1.drew.drew.cell? ⟨w.heap.size + 1, 0, none⟩ = some (.pointer (some ⟨w.heap.size, 0, none⟩)) := hx1.cell 0
    have hkd : Kept Nil W1 W1.drew.drew := (Kept.refl _ _).drew.drew
    have hxl1 := hx1.lt
    have hbm : m ≠ some (w.heap.size + 1) := fun e => by have := hmlt _ e; omega
    clear hleast hidx hb1 hr1 hx1 hM1 hgl hlg hsp hglr hb hrow' d1 d3 f3 q3 hxW hW1
    go_region_held3 (fun w' => w'.cell? ⟨w.heap.size + 1, 0, none⟩ = some (.pointer (some ⟨w.heap.size, 0, none⟩))) (first | with_reducible exact r3 | with_reducible exact r4 | with_reducible exact r5 | fail)
      ((first
        | (go_at_call 79; refine (HLEAST.out _ hkd).mono ?_; rintro e w3 ⟨rfl, hk3⟩; have hk13 := hkd.trans hk3 (fun _ _ h => h); have r4 := (World.cell?_of_block (a := ⟨w.heap.size + 1, 0, none⟩) (hk3.block _ hxl1 id)).trans r3)
        | (go_at_call 78; refine (HIDX.out _ hk13).mono ?_; rintro e w4 ⟨rfl, c4, r4', hc4, hr4, hb4, hcs4, hM4, hk4⟩; have r5 := (World.cell?_of_block (a := ⟨w.heap.size + 1, 0, none⟩) (hk4.block _ (Nat.lt_of_lt_of_le hxl1 hk3.size) (fun e => by rcases e with e | e; exact absurd e (by simp); exact hbm e))).trans r4)))
    have hr4x : Row w4 32 5 (.slice ea n ecap) n (flat T.copy.ents) := by
      have hz := (HR1.out.kept hk13 (fun _ _ => id)).kept hk4 (fun g hg e => by
        have h1 := hesv g hg
        rcases e with e | e
        · omega
        · have := hmlt _ e; omega)
      rw [HHN.out]
      rw [HHN.out] at hz
      exact hz
    have hT4 : TabAt w4 m w.heap.size c4 r4' (.slice ea n ecap) { ents := T.copy.ents, cells := blankC gl, log := gl, live := n, births := n, made := 1, turn := 0 } := by
      refine ⟨hb4, hcs4, ?_, ?_⟩
      · show Row w4 _ _ _ T.copy.ents.length _
        rw [HNL.out]; exact hr4x
      · show T.copy.ents.length ≤ _
        rw [HNL.out]; exact HGR.out
    have hlay := layAll_tab m w.heap.size c4 r4' _ _ w4 hT4 (by show T.copy.ents.length ≤ _; rw [HNL.out]; omega)
    go_wp2_with (go_at_call 81; refine hlay.mono ?_; clear hlay; rintro e w5 ⟨rfl, hT5, hk5⟩; have r6 := (World.cell?_of_block (a := ⟨w.heap.size + 1, 0, none⟩) (hk5.block _ (World.block_lt_of_cell? _ _ r5) (fun e => by have e' : w.heap.size + 1 = r4' := e; have := hk13.size; omega))).trans r5)
    have hDl := (Array.getElem?_eq_some_iff.1 hKD).1
    have z1 := hk1.size
    have z3 := hk13.size
    have z4 := hk4.size
    have hK5 : w5.heap[D]? = some (.deferred (some [])) := by
      rw [hk5.block D (by omega) (fun e => by have e' : D = r4' := e; omega), hk4.block D (by omega) (fun e => by rcases e with e | e; omega; have := hmlt _ e; omega), hk13.block D (by omega) id, hk1.block D hDl (fun e => by omega)]
      exact hKD
    have hT := turned_put (o' := .deferred none) hK5 rfl hD
    have hM5 := hM4.kept hk5 (fun b hb e => by have e' : b = r4' := e; have := hmlt b hb; omega)
    have hkf : Kept (Mr m) w w5 := by
      refine ((((hkw2.mono (R' := Mr m) (fun _ _ h => h.elim)).trans hk (fun b hb e => by omega)).trans hk1 (fun b hb e => by omega)).trans hk13 (fun _ _ h => h.elim)).trans hk4 (fun b hb e => ?_) |>.trans hk5 (fun b hb e => ?_)
      · rcases e with e | e
        · omega
        · exact e
      · have e' : b = r4' := e
        have := hk.size
        omega
    refine leave_mark (.inr rfl) hK5 (v := .pointer (some ⟨w.heap.size, 0, none⟩)) (by simp [results, Try.results28, go_sem]) ⟨_, c4, r4', .slice ea n ecap, rfl, ⟨?_, ?_, ?_, ?_⟩, ?_, ?_, ?_⟩
    · have e := hT.blk hT5.head
      show Blk _ _ _ [mptr m, .slice ea n ecap, .pointer (some ⟨c4, 0, none⟩), .int .i64 (T.copy.ents.length : Nat), .int .i64 (T.copy.ents.length : Nat), .int .i64 (1 : Nat), .int .i64 (0 : Nat)]
      rw [HNL.out]; exact e
    · have e := hT.cells hT5.cells
      show CellsAt _ c4 r4' T.copy.log (layFrom T.copy.log T.copy.ents 0 (blankC T.copy.log))
      rw [← HGL.out]; exact e
    · exact hT.row hT5.ents
    · show T.copy.ents.length ≤ room T.copy.log
      rw [HNL.out, ← HGL.out]; exact HGR.out
    · rintro b (e | e | e | e)
      · omega
      · have := hk.size; omega
      · have := hk.size; omega
      · have := hesv b e; omega
    · cases m with
      | none => trivial
      | some b => exact hT.blk hM5
    · exact hT.kept hkf (by omega)
  case stop =>
    rintro D cd pre W hD _ h
    exact h.elim
  · rintro s W W' ⟨esv, h1, h2, h3, h4⟩ hT
    exact ⟨esv, hT.kept h1 (Nat.le_refl _), hT.blk h2, hT.row h3, h4⟩
  · intro _ _ _ _ h; exact h.elim
  · rintro x a' W W' ⟨b5, e5, L, h1, h2, h3, h4, h5⟩ hT
    exact ⟨b5, e5, L, h1, hT.blk h2, hT.blk h3, h4, h5⟩

end Go.Proofs.Ytbbkljgeddjghaa
