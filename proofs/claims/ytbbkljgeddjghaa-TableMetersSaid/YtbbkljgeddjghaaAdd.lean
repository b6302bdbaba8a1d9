/-
  What is proved: the walk of (*Table).Add.
-/
import Derived.Test.YtbbkljgeddjghaaKill
import Derived.Deep.RegionHeld3
namespace Go.Proofs.Ytbbkljgeddjghaa
set_option linter.unusedVariables false
set_option linter.unusedSimpArgs false
open Go.RowKit Go.Lx Go.Shelf
set_option linter.unusedVariables false

theorem leastLog_spec {p : Nat → Bool} (h : leastLog p ≤ 20) : 3 ≤ leastLog p ∧ p (leastLog p) = true := by
  unfold leastLog at *
  cases e : (List.range' 3 18).find? p with
  | none => rw [e] at h; simp at h
  | some i =>
    have h1 := List.find?_some e
    have h2 := List.mem_of_find?_eq_some e
    have := List.mem_range'_1.1 h2
    exact ⟨by simpa using this.1, h1⟩
theorem leastLog_le {p : Nat → Bool} {l : Nat} (h3 : 3 ≤ l) (h20 : l ≤ 20) (hp : p l = true) : leastLog p ≤ l := by
  by_cases h : leastLog p ≤ l
  · exact h
  · exfalso
    unfold leastLog at h
    cases e : (List.range' 3 18).find? p with
    | none =>
      have := List.find?_eq_none.1 e l (List.mem_range'_1.2 ⟨h3, by omega⟩)
      exact this hp
    | some i =>
      rw [e] at h
      simp only [Option.getD_some] at h
      obtain ⟨_, la, lb, hab, hn⟩ := List.find?_eq_some_iff_append.1 e
      have hs : (List.range' 3 18)[la.length]? = some i := by rw [hab]; simp
      have hi : la.length < 18 ∧ 3 + la.length = i := by
        have := List.getElem?_eq_some_iff.1 hs
        obtain ⟨h1, h2⟩ := this
        simp at h1 h2
        exact ⟨h1, h2⟩
      have hl : la[l - 3]? = some l := by
        have h1 : (la ++ i :: lb)[l - 3]? = some l := by
          rw [← hab]
          rw [List.getElem?_eq_some_iff]
          exact ⟨by simp; omega, by simp; omega⟩
        rwa [List.getElem?_append_left (by omega)] at h1
      have := hn l (List.mem_of_getElem? hl)
      simp [hp] at this

/-- How many entries live. -/
def _root_.Go.Lx.Tab.count (T : Tab) : Nat := (T.ents.filter (·.live)).length

theorem grow_log {T : Tab} (h : T.live ≤ 10000) : 3 ≤ T.grow.log ∧ T.grow.log ≤ 15 ∧ 3 * T.live ≤ 2 ^ T.grow.log := by
  have h1 : T.grow.log ≤ 15 := leastLog_le (p := fun l => decide (3 * T.live ≤ 2 ^ l)) (by omega) (by omega) (by simp; omega)
  obtain ⟨h2, h3⟩ := leastLog_spec (p := fun l => decide (3 * T.live ≤ 2 ^ l)) (Nat.le_trans h1 (by omega))
  exact ⟨h2, h1, of_decide_eq_true h3⟩
theorem grow_room {T : Tab} (h : T.live ≤ 10000) (hc : T.live = T.count) : T.grow.ents.length < room T.grow.log := by
  obtain ⟨h1, h2, h3⟩ := grow_log h
  have h8 : 2 ^ 3 ≤ 2 ^ T.grow.log := Nat.pow_le_pow_right (by omega) h1
  have he : T.grow.ents.length = T.live := hc.symm
  unfold room
  omega

set_option maxRecDepth 100000 in
set_option maxHeartbeats 4000000 in
theorem add_in (T0 : Tab) (C0 : Cnt) (m : Option Nat) (C : Cnt) (t c r : Nat) (sv : Value) (T : Tab) (w : World) (hash key value : Int) (h : TabAt w m t c r sv T) (hm : Mt w m C)
    (h1 : T.live ≤ 10000) (h2 : T.turn ≤ 100000) (h3 : T.births ≤ 100000) (h4 : T.made ≤ 100000) (hlen : T.ents.length ≤ 30000) (hc : T.live = T.count) (hT0 : T0 = if T.tight then T.grow else T) (hC0 : C0 = if T.tight then C.table else C) :
    Calls Try.prog 42 #[.pointer (some ⟨t, 0, none⟩), .int .i64 hash, .int .i64 key, .int .i64 value] w fun e w' =>
      e = .returned (.tuple #[.int .i64 T0.ents.length, .int .i64 0]) ∧ ∃ c' r' sv', TabAt w' m t c' r' sv' (T0.put1 hash key value) ∧ (∀ b, own t c' r' sv' b → own t c r sv b ∨ w.heap.size ≤ b) ∧
        Mt w' m C0 ∧ Kept (fun b => own t c r sv b ∨ m = some b) w w' := by
  have HT0 := hid hT0
  have HC0 := hid hC0
  clear hT0 hC0
  have htl := h.head.lt
  have ht1 : w.cell? ⟨t, 1, none⟩ = some sv := h.head.cell 1
  have ht2 : w.cell? ⟨t, 2, none⟩ = some (.pointer (some ⟨c, 0, none⟩)) := h.head.cell 2
  have hbeg := fun w' (hk : Kept Nil w w') => begin_there t _ w' ((World.cell?_of_block (hk.block t htl id)).trans ht2)
  have HB := hid hbeg
  have H := hid h
  have HM := hid hm
  clear hbeg h hm
  obtain ⟨a, cap, hsv⟩ : ∃ a cap, sv = .slice a T.ents.length cap := by
    rcases H.out.ents.form with ⟨h1, h2, _⟩ | ⟨g, cap, h1, _⟩
    · exact ⟨none, 0, by rw [h1, h2]⟩
    · exact ⟨_, cap, h1⟩
  rw [hsv] at ht1
  have HSV := hid hsv
  clear hsv
  go_enter Try.func42, Try.ntmps42
  go_wp2_with (go_at_call 74; refine (HB.out _ ((Kept.refl _ w).alloc _)).mono ?_; rintro e w' ⟨rfl, rfl⟩)
  rename_i K1 hK1 K hK
  have hfin : ∀ (x10 x16 x17 x18 x19 x20 x21 x22 x23 x24 x25 x26 x27 x28 x29 x30 x31 x32 x33 x34 x35 x36 x37 : Value) (W : World) (T1 : Tab) (c1 r1 : Nat) (sv1 : Value) (C1 : Cnt), TabAt W m t c1 r1 sv1 T1 → T1.ents.length < room T1.log → T1.ents.length ≤ 30000 → T1.live ≤ 10000 → T1.turn ≤ 100000 → T1.births ≤ 100000 → Blk W w.heap.size 24 [.pointer (some ⟨t, 0, none⟩)] →
      Kept (fun b => own t c r sv b ∨ m = some b) w W → (∀ b, own t c1 r1 sv1 b → own t c r sv b ∨ w.heap.size ≤ b) → Mt W m C1 → T1 = T0 → C1 = C0 → K1 { tmps := #[Value.pointer (some { block := t, off := 0 }), Value.int IntKind.i64 hash, Value.int IntKind.i64 key, Value.int IntKind.i64 value, Value.pointer (some { block := w.heap.size, off := 0 }), undef, undef, undef, Value.int IntKind.i64 0, Value.int IntKind.i64 0, x10, undef, Value.pointer (some { block := t, off := 0 }), Value.bool false, Value.pointer (some { block := t, off := 0 }), Value.tuple #[], x16, x17, x18, x19, x20, x21, x22, x23, x24, x25, x26, x27, x28, x29, x30, x31, x32, x33, x34, x35, x36, x37, undef, undef, undef, undef, undef, undef, undef, undef, undef, undef, undef, undef, undef, undef, undef, undef, undef, undef, undef, undef, undef, undef, undef, undef, undef, undef, undef, undef, undef, undef, undef, undef, undef, undef, undef, undef, undef, undef, undef, undef, undef, undef, undef, undef, undef, undef, undef], defers := [] } W := by
    intro x10 x16 x17 x18 x19 x20 x21 x22 x23 x24 x25 x26 x27 x28 x29 x30 x31 x32 x33 x34 x35 x36 x37 W T1 c1 r1 sv1 C1 hT hroom hl b1 b2 b3 hB hkW hown hM hT1 hC1
    refine hK1 _ _ ?_
    have q0 : W.cell? ⟨w.heap.size, 0, none⟩ = some (.pointer (some ⟨t, 0, none⟩)) := hB.cell 0
    have htlW : t < W.heap.size := hT.head.lt
    have hbn : t ≠ w.heap.size := by omega
    obtain ⟨n1, hn1⟩ : ∃ n1, n1 = T1.ents.length := ⟨_, rfl⟩
    obtain ⟨a1, cap1, hsv1e⟩ : ∃ a cap, sv1 = .slice a n1 cap := by
      rcases hT.ents.form with ⟨h1, h2, _⟩ | ⟨g, cap, h1, _⟩
      · exact ⟨none, 0, by rw [h1, hn1, h2]⟩
      · exact ⟨_, cap, by rw [h1, hn1]⟩
    have d1 : W.cell? ⟨t, 1, none⟩ = some (.slice a1 n1 cap1) := by rw [← hsv1e]; exact hT.head.cell 1
    have d4 : W.cell? ⟨t, 4, none⟩ = some (.int .i64 T1.births) := hT.head.cell 4
    have f1 := hT.head.frozen 1
    have hrow := hT.ents
    rw [← hn1] at hrow
    have HT := hid hT
    have HN := hid hn1
    have HC := hid hT1
    have HCC := hid hC1
    clear hT hn1 hT1 hK1 hC1
    go_wp2_with fail
    obtain ⟨i0, hi, hz0, hz1, hz2⟩ := info_parts Try.infoEntry
    obtain ⟨x, hx⟩ : ∃ x : Ent, x = ⟨true, hash, key, value, T1.births⟩ := ⟨_, rfl⟩
    obtain ⟨WA, hWA⟩ : ∃ WA, WA = W.alloc (Obj.cells #[Value.bool true, Value.int IntKind.i64 hash, Value.int IntKind.i64 key, Value.int IntKind.i64 value, Value.int IntKind.i64 T1.births] 32) := ⟨_, rfl⟩
    have hkA : Kept Nil W WA := by rw [hWA]; exact (Kept.refl _ W).alloc _
    have hrowA : Row WA 32 5 (.slice a1 n1 cap1) n1 (flat T1.ents) := by rw [← hsv1e]; exact hrow.kept hkA (fun _ _ => id)
    have hnewA : ∀ j u, x.vals[j]? = some u → WA.cell? ((⟨W.heap.size, 0, none⟩ : Addr).add j) = some u := by
      intro j u hu
      rw [show (⟨W.heap.size, 0, none⟩ : Addr).add j = ⟨W.heap.size, j, none⟩ by unfold Addr.add; split <;> simp_all]
      rw [hWA, hx] at *
      rw [(Blk.new W 32 [Value.bool true, Value.int IntKind.i64 hash, Value.int IntKind.i64 key, Value.int IntKind.i64 value, Value.int IntKind.i64 T1.births]).cell]
      exact hu
    have h1c : ∀ v ∈ x.vals, v.oneCell' = true := by simp [Ent.vals, Value.oneCell']
    have hl30 : n1 ≤ 30000 := by rw [HN.out]; exact hl
    have ROWA := hid hrowA
    have NEWA := hid hnewA
    have H1C := hid h1c
    have HX := hid hx
    have HWA := hid hWA
    have hB1 := hB.kept hkA id
    have hbt : w.heap.size < W.heap.size := hB.lt
    have hgn : ∀ g, (Value.slice a1 n1 cap1).ownBlock = some g → g ≠ t ∧ g ≠ w.heap.size := by
      intro g hg
      rw [← hsv1e] at hg
      obtain ⟨cur, hb⟩ := Row.blk HT.out.ents hg
      exact ⟨hb.ne HT.out.head (by decide), hb.ne hB (by decide)⟩
    have GN := hid hgn
    have hsA := hkA.size
    have qA := (World.cell?_of_block (a := ⟨w.heap.size, 0, none⟩) (hkA.block _ hbt id)).trans q0
    have dA1 := (World.cell?_of_block (a := ⟨t, 1, none⟩) (hkA.block _ htlW id)).trans d1
    have dA4 := (World.cell?_of_block (a := ⟨t, 4, none⟩) (hkA.block _ htlW id)).trans d4
    rw [hWA] at qA dA1 dA4
    clear hgn hnewA hrowA h1c hx hrow hWA
    refine wp_region_held_drew (S := (fun w' : World => w'.cell? ⟨w.heap.size, 0, none⟩ = some (.pointer (some ⟨t, 0, none⟩)) ∧ w'.cell? ⟨t, 4, none⟩ = some (.int .i64 T1.births))) (by kernel_rfl) ⟨q0, d4⟩ (fun _ => ?_)
    refine wpAnyH_take (i := 0) (oi := _) (v := ?_) rfl (by kernel_rfl) (by kernel_rfl) (by kernel_rfl) (fun _ _ _ h => h) (Or.inl ⟨by rfl, ?_⟩) (show (fun w' : World => w'.cell? ⟨w.heap.size, 0, none⟩ = some (.pointer (some ⟨t, 0, none⟩)) ∧ w'.cell? ⟨t, 4, none⟩ = some (.int .i64 T1.births)) W.drew from ⟨q0, d4⟩) ?_
    rotate_left
    · rintro w' ⟨h1, h2⟩; go_simp; with_reducible rfl
    simp only [Act.put, List.setIfInBounds_toArray, List.set_cons_zero, List.set_cons_succ]
    refine wpAnyH_take (i := 1) (oi := _) (v := ?_) rfl (by kernel_rfl) (by kernel_rfl) (by kernel_rfl) (fun _ _ _ h => h) (Or.inl ⟨by rfl, ?_⟩) (show (fun w' : World => w'.cell? ⟨w.heap.size, 0, none⟩ = some (.pointer (some ⟨t, 0, none⟩)) ∧ w'.cell? ⟨t, 4, none⟩ = some (.int .i64 T1.births)) W.drew from ⟨q0, d4⟩) ?_
    rotate_left
    · rintro w' ⟨h1, h2⟩; go_simp; with_reducible rfl
    simp only [Act.put, List.setIfInBounds_toArray, List.set_cons_zero, List.set_cons_succ]
    refine wpAnyH_take (i := 2) (oi := _) (v := ?_) rfl (by kernel_rfl) (by kernel_rfl) (by kernel_rfl) (fun _ _ _ h => h) (Or.inl ⟨by rfl, ?_⟩) (show (fun w' : World => w'.cell? ⟨w.heap.size, 0, none⟩ = some (.pointer (some ⟨t, 0, none⟩)) ∧ w'.cell? ⟨t, 4, none⟩ = some (.int .i64 T1.births)) W.drew from ⟨q0, d4⟩) ?_
    rotate_left
    · rintro w' ⟨h1, h2⟩; go_simp; with_reducible rfl
    simp only [Act.put, List.setIfInBounds_toArray, List.set_cons_zero, List.set_cons_succ]
    refine wpAnyH_take (i := 3) (oi := _) (v := ?_) rfl (by kernel_rfl) (by kernel_rfl) (by kernel_rfl) (fun _ _ _ h => h) (Or.inl ⟨by rfl, ?_⟩) (show (fun w' : World => w'.cell? ⟨w.heap.size, 0, none⟩ = some (.pointer (some ⟨t, 0, none⟩)) ∧ w'.cell? ⟨t, 4, none⟩ = some (.int .i64 T1.births)) W.drew from ⟨q0, d4⟩) ?_
    rotate_left
    · rintro w' ⟨h1, h2⟩; go_simp; with_reducible rfl
    simp only [Act.put, List.setIfInBounds_toArray, List.set_cons_zero, List.set_cons_succ]
    refine wpAnyH_take (i := 5) (oi := _) (v := ?_) rfl (by kernel_rfl) (by kernel_rfl) (by kernel_rfl) (fun _ _ _ h => h) (Or.inl ⟨by rfl, ?_⟩) (show (fun w' : World => w'.cell? ⟨w.heap.size, 0, none⟩ = some (.pointer (some ⟨t, 0, none⟩)) ∧ w'.cell? ⟨t, 4, none⟩ = some (.int .i64 T1.births)) W.drew from ⟨q0, d4⟩) ?_
    rotate_left
    · rintro w' ⟨h1, h2⟩; go_simp; with_reducible rfl
    simp only [Act.put, List.setIfInBounds_toArray, List.set_cons_zero, List.set_cons_succ]
    refine wpAnyH_take (i := 6) (oi := _) (v := ?_) rfl (by kernel_rfl) (by kernel_rfl) (by kernel_rfl) (fun _ _ _ h => h) (Or.inl ⟨by rfl, ?_⟩) (show (fun w' : World => w'.cell? ⟨w.heap.size, 0, none⟩ = some (.pointer (some ⟨t, 0, none⟩)) ∧ w'.cell? ⟨t, 4, none⟩ = some (.int .i64 T1.births)) W.drew from ⟨q0, d4⟩) ?_
    rotate_left
    · rintro w' ⟨h1, h2⟩; go_simp; with_reducible rfl
    simp only [Act.put, List.setIfInBounds_toArray, List.set_cons_zero, List.set_cons_succ]
    refine wpAnyH_take (i := 7) (oi := _) (v := ?_) rfl (by kernel_rfl) (by kernel_rfl) (by kernel_rfl) (fun _ _ _ h => h) (Or.inl ⟨by rfl, ?_⟩) (show (fun w' : World => w'.cell? ⟨w.heap.size, 0, none⟩ = some (.pointer (some ⟨t, 0, none⟩)) ∧ w'.cell? ⟨t, 4, none⟩ = some (.int .i64 T1.births)) W.drew from ⟨q0, d4⟩) ?_
    rotate_left
    · rintro w' ⟨h1, h2⟩; go_simp; with_reducible rfl
    simp only [Act.put, List.setIfInBounds_toArray, List.set_cons_zero, List.set_cons_succ]
    refine wpAnyH_take (i := 8) (oi := _) (v := ?_) rfl (by kernel_rfl) (by kernel_rfl) (by kernel_rfl) (fun _ _ _ h => h) (Or.inl ⟨by rfl, ?_⟩) (show (fun w' : World => w'.cell? ⟨w.heap.size, 0, none⟩ = some (.pointer (some ⟨t, 0, none⟩)) ∧ w'.cell? ⟨t, 4, none⟩ = some (.int .i64 T1.births)) W.drew from ⟨q0, d4⟩) ?_
    rotate_left
    · rintro w' ⟨h1, h2⟩; go_simp; with_reducible rfl
    simp only [Act.put, List.setIfInBounds_toArray, List.set_cons_zero, List.set_cons_succ]
    refine wpAnyH_take (i := 9) (oi := _) (v := ?_) rfl (by kernel_rfl) (by kernel_rfl) (by kernel_rfl) (fun _ _ _ h => h) (Or.inl ⟨by rfl, ?_⟩) (show (fun w' : World => w'.cell? ⟨w.heap.size, 0, none⟩ = some (.pointer (some ⟨t, 0, none⟩)) ∧ w'.cell? ⟨t, 4, none⟩ = some (.int .i64 T1.births)) W.drew from ⟨q0, d4⟩) ?_
    rotate_left
    · rintro w' ⟨h1, h2⟩; go_simp; with_reducible rfl
    simp only [Act.put, List.setIfInBounds_toArray, List.set_cons_zero, List.set_cons_succ]
    refine wpAnyH_take (i := 10) (oi := _) (v := ?_) rfl (by kernel_rfl) (by kernel_rfl) (by kernel_rfl) (fun _ _ _ h => h) (Or.inl ⟨by rfl, ?_⟩) (show (fun w' : World => w'.cell? ⟨w.heap.size, 0, none⟩ = some (.pointer (some ⟨t, 0, none⟩)) ∧ w'.cell? ⟨t, 4, none⟩ = some (.int .i64 T1.births)) W.drew from ⟨q0, d4⟩) ?_
    rotate_left
    · rintro w' ⟨h1, h2⟩; go_simp; with_reducible rfl
    simp only [Act.put, List.setIfInBounds_toArray, List.set_cons_zero, List.set_cons_succ]
    refine wpAnyH_take (i := 11) (oi := _) (v := ?_) rfl (by kernel_rfl) (by kernel_rfl) (by kernel_rfl) (fun _ _ _ h => h) (Or.inl ⟨by rfl, ?_⟩) (show (fun w' : World => w'.cell? ⟨w.heap.size, 0, none⟩ = some (.pointer (some ⟨t, 0, none⟩)) ∧ w'.cell? ⟨t, 4, none⟩ = some (.int .i64 T1.births)) W.drew from ⟨q0, d4⟩) ?_
    rotate_left
    · rintro w' ⟨h1, h2⟩; go_simp; with_reducible rfl
    simp only [Act.put, List.setIfInBounds_toArray, List.set_cons_zero, List.set_cons_succ]
    refine wpAnyH_take (i := 12) (oi := _) (v := ?_) rfl (by kernel_rfl) (by kernel_rfl) (by kernel_rfl) (fun _ _ _ h => h) (Or.inl ⟨by rfl, ?_⟩) (show (fun w' : World => w'.cell? ⟨w.heap.size, 0, none⟩ = some (.pointer (some ⟨t, 0, none⟩)) ∧ w'.cell? ⟨t, 4, none⟩ = some (.int .i64 T1.births)) W.drew from ⟨q0, d4⟩) ?_
    rotate_left
    · rintro w' ⟨h1, h2⟩; go_simp; with_reducible rfl
    simp only [Act.put, List.setIfInBounds_toArray, List.set_cons_zero, List.set_cons_succ]
    refine wpAnyH_ready (rs := [4, 13]) (by kernel_rfl) (by simp) (AllReadyH.cons (o := _) rfl (fun K hK => ?_) (AllReadyH.cons (o := _) rfl (fun K hK => ?_) AllReadyH.nil))
    focus
      go_simp
      refine hK.out _ _ ⟨q0, d4⟩ (fun _ => ?_)
      refine wpAnyH_ready (rs := [13]) (by kernel_rfl) (by simp) (AllReadyH.cons (o := _) rfl (fun K hK => ?_) AllReadyH.nil)
      go_simp
      refine hK.out _ _ ⟨qA, dA4⟩ (fun _ => ?_)
      refine wpAnyH_ready (rs := [14]) (by kernel_rfl) (by simp) (AllReadyH.cons (o := _) rfl (fun K hK => ?_) AllReadyH.nil)
      rw [← HWA.out]
      refine step_append_row WA.drew (by rfl) (.tmp 47) (.tmp 56) 25 (by rfl) 32 i0 _ 5 40 Try.underlying25 hi hz0 hz1 hz2 rfl (by omega) (.slice a1 n1 cap1) n1 (flat T1.ents) (by rfl) ROWA.out.drew ⟨W.heap.size, 0, none⟩ 1 1 x.vals (by rfl) rfl NEWA.out H1C.out (by unfold maxLen; omega) (by omega) (by omega) ?_
      intro v' w2 hrow2 hg2
      obtain ⟨g2, cap2, rfl, hn2, hm2⟩ := hg2.form
      have htA : t < WA.drew.heap.size := Nat.lt_of_lt_of_le htlW hsA
      have hbA : w.heap.size < WA.drew.heap.size := Nat.lt_of_lt_of_le hbt hsA
      have g2t : g2 ≠ t ∧ g2 ≠ w.heap.size := by
        rcases hg2.own with e | ⟨g, e, hg⟩
        · exact GN.out g2 (by rw [← e]; rfl)
        · simp [Value.ownBlock] at e; subst e; omega
      have htw : w2.heap[t]? = W.heap[t]? := (hg2.by_.block t htA (fun e => (GN.out t e.symm).1 rfl)).trans (hkA.block t htlW id)
      have hbw : w2.heap[w.heap.size]? = W.heap[w.heap.size]? := (hg2.by_.block _ hbA (fun e => (GN.out _ e.symm).2 rfl)).trans (hkA.block _ hbt id)
      have s1 := (World.cell?_of_block (a := ⟨t, 1, none⟩) htw).trans d1
      have s4 := (World.cell?_of_block (a := ⟨t, 4, none⟩) htw).trans d4
      have sf1 := (World.frozen?_of_block (a := ⟨t, 1, none⟩) htw).trans f1
      have sq := (World.cell?_of_block (a := ⟨w.heap.size, 0, none⟩) hbw).trans q0
      have kq : (w2.setCell ⟨t, 1, none⟩ (.slice (some ⟨g2, 0, none⟩) (n1 + 1) cap2)).cell? ⟨w.heap.size, 0, none⟩ = some (.pointer (some ⟨t, 0, none⟩)) := (World.cell?_of_block (a := ⟨w.heap.size, 0, none⟩) (Below.heap_setCell w2 ⟨t, 1, none⟩ _ w.heap.size (fun e => hbn e.symm))).trans sq
      have k4 : (w2.setCell ⟨t, 1, none⟩ (.slice (some ⟨g2, 0, none⟩) (n1 + 1) cap2)).cell? ⟨t, 4, none⟩ = some (.int .i64 T1.births) := (World.cell?_setCell_other _ _ _ _ (by simp)).trans s4
      refine hK.out _ _ ⟨sq, s4⟩ (fun _ => ?_)
      refine wpAnyH_take (i := 15) (oi := _) (v := ?_) rfl (by kernel_rfl) (by kernel_rfl) (by kernel_rfl) (fun _ _ _ h => h) (Or.inl ⟨by rfl, ?_⟩) (show (fun w' : World => w'.cell? ⟨w.heap.size, 0, none⟩ = some (.pointer (some ⟨t, 0, none⟩)) ∧ w'.cell? ⟨t, 4, none⟩ = some (.int .i64 T1.births)) w2 from ⟨sq, s4⟩) ?_
      rotate_left
      · rintro w' ⟨h1, h2⟩; go_simp; with_reducible rfl
      simp only [Act.put, List.setIfInBounds_toArray, List.set_cons_zero, List.set_cons_succ]
      refine wpAnyH_take (i := 16) (oi := _) (v := ?_) rfl (by kernel_rfl) (by kernel_rfl) (by kernel_rfl) (fun _ _ _ h => h) (Or.inl ⟨by rfl, ?_⟩) (show (fun w' : World => w'.cell? ⟨w.heap.size, 0, none⟩ = some (.pointer (some ⟨t, 0, none⟩)) ∧ w'.cell? ⟨t, 4, none⟩ = some (.int .i64 T1.births)) w2 from ⟨sq, s4⟩) ?_
      rotate_left
      · rintro w' ⟨h1, h2⟩; go_simp; with_reducible rfl
      simp only [Act.put, List.setIfInBounds_toArray, List.set_cons_zero, List.set_cons_succ]
      refine wpAnyH_ready (rs := [17]) (by kernel_rfl) (by simp) (AllReadyH.cons (o := _) rfl (fun K hK => ?_) AllReadyH.nil)
      go_simp
      refine hK.out _ _ ⟨kq, k4⟩ (fun _ => ?_)
      refine wpAnyH_done (by kernel_rfl) ?_ _
    rotate_left
    focus
      go_simp
      refine hK.out _ _ ⟨qA, dA4⟩ (fun _ => ?_)
      refine wpAnyH_ready (rs := [4]) (by kernel_rfl) (by simp) (AllReadyH.cons (o := _) rfl (fun K hK => ?_) AllReadyH.nil)
      go_simp
      refine hK.out _ _ ⟨qA, dA4⟩ (fun _ => ?_)
      refine wpAnyH_ready (rs := [14]) (by kernel_rfl) (by simp) (AllReadyH.cons (o := _) rfl (fun K hK => ?_) AllReadyH.nil)
      rw [← HWA.out]
      refine step_append_row WA.drew (by rfl) (.tmp 47) (.tmp 56) 25 (by rfl) 32 i0 _ 5 40 Try.underlying25 hi hz0 hz1 hz2 rfl (by omega) (.slice a1 n1 cap1) n1 (flat T1.ents) (by rfl) ROWA.out.drew ⟨W.heap.size, 0, none⟩ 1 1 x.vals (by rfl) rfl NEWA.out H1C.out (by unfold maxLen; omega) (by omega) (by omega) ?_
      intro v' w2 hrow2 hg2
      obtain ⟨g2, cap2, rfl, hn2, hm2⟩ := hg2.form
      have htA : t < WA.drew.heap.size := Nat.lt_of_lt_of_le htlW hsA
      have hbA : w.heap.size < WA.drew.heap.size := Nat.lt_of_lt_of_le hbt hsA
      have g2t : g2 ≠ t ∧ g2 ≠ w.heap.size := by
        rcases hg2.own with e | ⟨g, e, hg⟩
        · exact GN.out g2 (by rw [← e]; rfl)
        · simp [Value.ownBlock] at e; subst e; omega
      have htw : w2.heap[t]? = W.heap[t]? := (hg2.by_.block t htA (fun e => (GN.out t e.symm).1 rfl)).trans (hkA.block t htlW id)
      have hbw : w2.heap[w.heap.size]? = W.heap[w.heap.size]? := (hg2.by_.block _ hbA (fun e => (GN.out _ e.symm).2 rfl)).trans (hkA.block _ hbt id)
      have s1 := (World.cell?_of_block (a := ⟨t, 1, none⟩) htw).trans d1
      have s4 := (World.cell?_of_block (a := ⟨t, 4, none⟩) htw).trans d4
      have sf1 := (World.frozen?_of_block (a := ⟨t, 1, none⟩) htw).trans f1
      have sq := (World.cell?_of_block (a := ⟨w.heap.size, 0, none⟩) hbw).trans q0
      have kq : (w2.setCell ⟨t, 1, none⟩ (.slice (some ⟨g2, 0, none⟩) (n1 + 1) cap2)).cell? ⟨w.heap.size, 0, none⟩ = some (.pointer (some ⟨t, 0, none⟩)) := (World.cell?_of_block (a := ⟨w.heap.size, 0, none⟩) (Below.heap_setCell w2 ⟨t, 1, none⟩ _ w.heap.size (fun e => hbn e.symm))).trans sq
      have k4 : (w2.setCell ⟨t, 1, none⟩ (.slice (some ⟨g2, 0, none⟩) (n1 + 1) cap2)).cell? ⟨t, 4, none⟩ = some (.int .i64 T1.births) := (World.cell?_setCell_other _ _ _ _ (by simp)).trans s4
      refine hK.out _ _ ⟨sq, s4⟩ (fun _ => ?_)
      refine wpAnyH_take (i := 15) (oi := _) (v := ?_) rfl (by kernel_rfl) (by kernel_rfl) (by kernel_rfl) (fun _ _ _ h => h) (Or.inl ⟨by rfl, ?_⟩) (show (fun w' : World => w'.cell? ⟨w.heap.size, 0, none⟩ = some (.pointer (some ⟨t, 0, none⟩)) ∧ w'.cell? ⟨t, 4, none⟩ = some (.int .i64 T1.births)) w2 from ⟨sq, s4⟩) ?_
      rotate_left
      · rintro w' ⟨h1, h2⟩; go_simp; with_reducible rfl
      simp only [Act.put, List.setIfInBounds_toArray, List.set_cons_zero, List.set_cons_succ]
      refine wpAnyH_take (i := 16) (oi := _) (v := ?_) rfl (by kernel_rfl) (by kernel_rfl) (by kernel_rfl) (fun _ _ _ h => h) (Or.inl ⟨by rfl, ?_⟩) (show (fun w' : World => w'.cell? ⟨w.heap.size, 0, none⟩ = some (.pointer (some ⟨t, 0, none⟩)) ∧ w'.cell? ⟨t, 4, none⟩ = some (.int .i64 T1.births)) w2 from ⟨sq, s4⟩) ?_
      rotate_left
      · rintro w' ⟨h1, h2⟩; go_simp; with_reducible rfl
      simp only [Act.put, List.setIfInBounds_toArray, List.set_cons_zero, List.set_cons_succ]
      refine wpAnyH_ready (rs := [17]) (by kernel_rfl) (by simp) (AllReadyH.cons (o := _) rfl (fun K hK => ?_) AllReadyH.nil)
      go_simp
      refine hK.out _ _ ⟨kq, k4⟩ (fun _ => ?_)
      refine wpAnyH_done (by kernel_rfl) ?_ _
    all_goals
      obtain ⟨W2, hW2⟩ : ∃ W2, W2 = w2.setCell ⟨t, 1, none⟩ (.slice (some ⟨g2, 0, none⟩) (n1 + 1) cap2) := ⟨_, rfl⟩
      rw [← hW2] at kq k4 ⊢
      have hkw2 : Kept (own t c1 r1 sv1) W w2 := ((hkA.mono (R' := own t c1 r1 sv1) (fun _ _ h => h.elim)).drew).grown hg2.by_ (fun k e => .inl (.inr (.inr (.inr (by rw [hsv1e]; exact e)))))
      have hkw2' : Kept (fun b => sv1.ownBlock = some b) W w2 := ((hkA.mono (R' := fun b => sv1.ownBlock = some b) (fun _ _ h => h.elim)).drew).grown hg2.by_ (fun k e => .inl (by rw [hsv1e]; exact e))
      have hkW2 : Kept (own t c1 r1 sv1) W W2 := by rw [hW2]; exact hkw2.setCell (p := ⟨t, 1, none⟩) (.inl (.inl rfl)) _
      have hT2 : TabAt W2 m t c1 r1 (.slice (some ⟨g2, 0, none⟩) (n1 + 1) cap2) { T1 with ents := T1.ents ++ [x] } := by
        have hh := HT.out
        rw [hW2]
        refine ⟨(hh.head.kept hkw2' (fun e => hh.te e rfl)).set 1 _, ?_, ?_, ?_⟩
        · have hcs := hh.cells.kept hkw2' (fun e => hh.ce e rfl) (fun e => hh.re e rfl)
          exact ⟨hcs.head.other (a := ⟨t, 1, none⟩) (fun e => hh.tc e.symm) _, hcs.row.other (a := ⟨t, 1, none⟩) (fun e => hh.tr e.symm) _, hcs.len, hcs.lo, hcs.hi, hcs.fit⟩
        · have e := hrow2.other (a := ⟨t, 1, none⟩) (fun g' hg' => by cases hg'; exact g2t.1) (.slice (some ⟨g2, 0, none⟩) (n1 + 1) cap2)
          rw [flat_append, List.length_append, ← HN.out, show flat [x] = x.vals from by simp [flat]]
          exact e
        · show (T1.ents ++ [x]).length ≤ room T1.log
          rw [List.length_append]; exact hroom
      have hown2 : ∀ b, own t c1 r1 (.slice (some ⟨g2, 0, none⟩) (n1 + 1) cap2) b → own t c r sv b ∨ w.heap.size ≤ b := by
        rintro b (h | h | h | h)
        · exact hown b (.inl h)
        · exact hown b (.inr (.inl h))
        · exact hown b (.inr (.inr (.inl h)))
        · rcases hg2.own with e | ⟨g, e, hg⟩
          · exact hown b (.inr (.inr (.inr (by rw [hsv1e, ← e]; exact h))))
          · rw [e] at h; cases h; exact .inr (by have := hkW.size; have : WA.drew.heap.size = WA.heap.size := rfl; omega)
      have hM2 : Mt W2 m C1 := hM.kept hkW2 (by
        intro b hb h
        subst hb
        have hMb : Blk W b 71 [.int .i64 C1.tables, .int .i64 C1.cells, .int .i64 C1.values, .int .i64 C1.shifts] := hM
        rcases h with h | h | h | h
        · exact hMb.ne HT.out.head (by decide) h
        · exact hMb.ne HT.out.cells.head (by decide) h
        · exact hMb.ne HT.out.cells.row (by unfold rowElem; split <;> decide) h
        · obtain ⟨cur, hb⟩ := Row.blk HT.out.ents h; exact hMb.ne hb (by decide) rfl)
      have hlay := lay_tab m t c1 r1 n1 _ _ x W2 hT2 (by show (T1.ents ++ [x])[n1]? = some x; rw [HN.out]; simp)
      have hmr : ∀ b, m = some b → b ≠ r1 ∧ b ≠ t := by
        intro b hb
        subst hb
        have hMb : Blk W b 71 [.int .i64 C1.tables, .int .i64 C1.cells, .int .i64 C1.values, .int .i64 C1.shifts] := hM
        exact ⟨hMb.ne HT.out.cells.row (by unfold rowElem; split <;> decide), hMb.ne HT.out.head (by decide)⟩
      have KEEP := hid hkW
      have OWN2 := hid hown2
      have hbr : w.heap.size ≠ r1 := hB.ne HT.out.cells.row (by unfold rowElem; split <;> decide)
      have hbW2 : w.heap.size < W2.heap.size := World.block_lt_of_cell? _ _ kq
      clear hW2 hrow2 hg2 hkA qA dA1 dA4 s1 s4 sf1 sq htw hbw HWA NEWA ROWA hkw2 hkw2' d1 d4 f1 q0 hB hB1 hown2 hkW
      go_wp2_with (go_at_call 110; refine hlay.mono ?_; clear hlay; rintro e W3 ⟨rfl, hT3, hk3⟩; have uq := (World.cell?_of_block (a := ⟨w.heap.size, 0, none⟩) (hk3.block _ hbW2 hbr)).trans kq; have u4 : W3.cell? ⟨t, 4, none⟩ = some (.int .i64 T1.births) := hT3.head.cell 4; have u3 : W3.cell? ⟨t, 3, none⟩ = some (.int .i64 T1.live) := hT3.head.cell 3; have u6 : W3.cell? ⟨t, 6, none⟩ = some (.int .i64 T1.turn) := hT3.head.cell 6; have v4 := hT3.head.frozen 4; have v3 := hT3.head.frozen 3; have v6 := hT3.head.frozen 6)
      have hf : TabAt (((W3.setCell ⟨t, 4, none⟩ (.int .i64 ((T1.births : Int) + 1))).setCell ⟨t, 3, none⟩ (.int .i64 ((T1.live : Int) + 1))).setCell ⟨t, 6, none⟩ (.int .i64 ((T1.turn : Int) + 1))) m t c1 r1 (.slice (some ⟨g2, 0, none⟩) (n1 + 1) cap2) (T1.put1 hash key value) := by
        have k3 : Kept (fun b => b = t) W3 (((W3.setCell ⟨t, 4, none⟩ (.int .i64 ((T1.births : Int) + 1))).setCell ⟨t, 3, none⟩ (.int .i64 ((T1.live : Int) + 1))).setCell ⟨t, 6, none⟩ (.int .i64 ((T1.turn : Int) + 1))) := (((Kept.refl (fun b => b = t) W3).setCell (p := ⟨t, 4, none⟩) (.inl rfl) _).setCell (p := ⟨t, 3, none⟩) (.inl rfl) _).setCell (p := ⟨t, 6, none⟩) (.inl rfl) _
        refine ⟨?_, ?_, ?_, ?_⟩
        · have e := ((hT3.head.set 4 (.int .i64 ((T1.births : Int) + 1))).set 3 (.int .i64 ((T1.live : Int) + 1))).set 6 (.int .i64 ((T1.turn : Int) + 1))
          exact e
        · have e := hT3.cells.kept k3 (fun e => hT3.tc e.symm) (fun e => hT3.tr e.symm)
          rw [HX.out, HN.out] at e
          exact e
        · have e := hT3.ents.kept k3 (fun g hg => hT3.te hg)
          rw [HX.out] at e
          exact e
        · have e := hT3.fits
          rw [HX.out] at e
          exact e
      have kf : Kept (own t c1 r1 sv1) W (((W3.setCell ⟨t, 4, none⟩ (.int .i64 ((T1.births : Int) + 1))).setCell ⟨t, 3, none⟩ (.int .i64 ((T1.live : Int) + 1))).setCell ⟨t, 6, none⟩ (.int .i64 ((T1.turn : Int) + 1))) :=
        (((hkW2.trans hk3 (fun _ _ h => .inr (.inr (.inl h)))).setCell (p := ⟨t, 4, none⟩) (.inl (.inl rfl)) _).setCell (p := ⟨t, 3, none⟩) (.inl (.inl rfl)) _).setCell (p := ⟨t, 6, none⟩) (.inl (.inl rfl)) _
      have mf : Mt (((W3.setCell ⟨t, 4, none⟩ (.int .i64 ((T1.births : Int) + 1))).setCell ⟨t, 3, none⟩ (.int .i64 ((T1.live : Int) + 1))).setCell ⟨t, 6, none⟩ (.int .i64 ((T1.turn : Int) + 1))) m C1 :=
        (hM2.kept hk3 (fun b hb => (hmr b hb).1)).kept ((((Kept.refl (fun b => b = t) W3).setCell (p := ⟨t, 4, none⟩) (.inl rfl) _).setCell (p := ⟨t, 3, none⟩) (.inl rfl) _).setCell (p := ⟨t, 6, none⟩) (.inl rfl) _) (fun b hb => (hmr b hb).2)
      refine bodyPost_ret (v := .tuple #[.int .i64 n1, .int .i64 0]) (by simp [results, Try.results42, go_sem]) rfl ⟨by rw [HN.out, HC.out], c1, r1, _, by rw [← HC.out]; exact hf, OWN2.out, by rw [← HCC.out]; exact mf, ?_⟩
      refine KEEP.out.trans kf (fun b hb h => ?_)
      rcases hown b h with h | h
      · exact .inl h
      · omega
  have HFIN := hid hfin
  clear hfin hK1
  have hsv := HSV.out
  have d0 : (w.alloc (Obj.cells #[Value.pointer (some { block := t, off := 0 })] 24)).cell? ⟨w.heap.size, 0, none⟩ = some (.pointer (some ⟨t, 0, none⟩)) := (Blk.new w 24 [.pointer (some ⟨t, 0, none⟩)]).cell 0
  obtain ⟨W0, hW0⟩ : ∃ W0, W0 = w.alloc (Obj.cells #[Value.pointer (some { block := t, off := 0 })] 24) := ⟨_, rfl⟩
  rw [← hW0] at d0 ⊢
  have hk0 : Kept Nil w W0 := by rw [hW0]; exact (Kept.refl _ w).alloc _
  have hB0 : Blk W0 w.heap.size 24 [.pointer (some ⟨t, 0, none⟩)] := by rw [hW0]; exact Blk.new w 24 [.pointer (some ⟨t, 0, none⟩)]
  have d1 := (World.cell?_of_block (a := ⟨t, 1, none⟩) (hk0.block t htl id)).trans ht1
  have d2 := (World.cell?_of_block (a := ⟨t, 2, none⟩) (hk0.block t htl id)).trans ht2
  have hroom := room_any c r T.log T.cells W0.drew (H.out.cells.kept hk0.drew id id)
  obtain ⟨nl, hnl⟩ : ∃ nl, nl = T.ents.length := ⟨_, rfl⟩
  obtain ⟨nr, hnr⟩ : ∃ nr, nr = room T.log := ⟨_, rfl⟩
  rw [← hnl] at d1 hlen
  rw [← hnr] at hroom
  have HNL := hid hnl
  have HNR := hid hnr
  have hb0 := hB0.lt
  have ht0 : t < W0.heap.size := Nat.lt_of_lt_of_le htl hk0.size
  clear hnl hnr hW0 hsv ht1 ht2
  go_region_held3 (fun w' => w'.cell? ⟨w.heap.size, 0, none⟩ = some (.pointer (some ⟨t, 0, none⟩)) ∧ w'.cell? ⟨t, 1, none⟩ = some (.slice a nl cap) ∧ w'.cell? ⟨t, 2, none⟩ = some (.pointer (some ⟨c, 0, none⟩))) (first | exact ⟨d0, d1, d2⟩ | exact ⟨x0, x1, x2⟩)
    ((go_at_call 107; refine hroom.mono ?_; rintro e W1 ⟨rfl, hk1⟩; have x0 := (World.cell?_of_block (a := ⟨w.heap.size, 0, none⟩) (hk1.block _ hb0 id)).trans d0; have x1 := (World.cell?_of_block (a := ⟨t, 1, none⟩) (hk1.block _ ht0 id)).trans d1; have x2 := (World.cell?_of_block (a := ⟨t, 2, none⟩) (hk1.block _ ht0 id)).trans d2))
  replace hk1 : Kept Nil W0 W1 := hk1.undrew
  have hkw1 : Kept Nil w W1 := hk0.trans hk1 (fun _ _ h => h)
  have hB1 := hB0.kept hk1 id
  have HK1 := hid hkw1
  have hbe := hB0.lt
  clear d0 d1 d2 hb0 ht0 hB0 hk1 hk0
  by_cases hnn : nl = nr
  · have hti : T.tight = true := by unfold Tab.tight; rw [← HNL.out, ← HNR.out, hnn]; simp
    have hT0 : T0 = T.grow := by rw [HT0.out, if_pos hti]
    have hC0 : C0 = C.table := by rw [HC0.out, if_pos hti]
    have HTT := hid hT0
    have HCC := hid hC0
    have hn5 : 5 ≤ nl := by
      have h3 := H.out.cells.lo
      have h8 : 2 ^ 3 ≤ 2 ^ T.log := Nat.pow_le_pow_right (by omega) h3
      have := HNR.out
      unfold room at this
      omega
    obtain ⟨g, hag⟩ : ∃ g, a = some ⟨g, 0, none⟩ := by
      have hsv := HSV.out
      rcases H.out.ents.form with ⟨h1, h2, _⟩ | ⟨g, cap', h1, _⟩
      · have := HNL.out; omega
      · rw [hsv] at h1; simp at h1; exact ⟨g, h1.1⟩
    subst hag
    have hcapb : nl ≤ cap ∧ cap ≤ maxLen := by
      have hsv := HSV.out
      rcases H.out.ents.form with ⟨h1, h2, _⟩ | ⟨g', cap', h1, h2, h3⟩
      · have := HNL.out; omega
      · rw [hsv] at h1; simp at h1; rw [h1.2, HNL.out]; exact ⟨h2, h3⟩
    have hT1 : TabAt W1 m t c r (.slice (some ⟨g, 0, none⟩) nl cap) T := by
      have := H.out.kept' HK1.out (fun _ _ => id)
      rw [HSV.out, ← HNL.out] at this; exact this
    have hM1 := HM.out.kept HK1.out (fun _ _ => id)
    have hg0 := grow_log h1
    have hgr := grow_room h1 hc
    have hleast := least_add (.pointer (some ⟨w.heap.size, 0, none⟩)) (fun l => decide (3 * T.live ≤ 2 ^ l)) W1 (fun i w1 h3 h20 hk => add1_any w.heap.size t i T.live w1 h20 (by omega) ((hB1.kept hk id).cell 0) ((hT1.head.kept hk id).cell 3))
    have hll : leastLog (fun l => decide (3 * T.live ≤ 2 ^ l)) = T.grow.log := rfl
    rw [hll] at hleast
    obtain ⟨gl, hgl⟩ : ∃ gl, gl = T.grow.log := ⟨_, rfl⟩
    rw [← hgl] at hleast hg0
    have HGL := hid hgl
    have HGR := hid hgr
    have HG0 := hid hg0.2.2
    have hg3 := hg0.1
    have hg15 := hg0.2.1
    have hdrop := fun W2 (hk : Kept Nil W1 W2) => drop_in m t c r g cap nl T W2 (hT1.kept' hk (fun _ _ => id)) HNL.out.symm (by omega) hcapb.1 hcapb.2
    have HDROP := hid hdrop
    have HB1 := hid hB1
    have HT1 := hid hT1
    have HM1 := hid hM1
    have htl1 := hT1.head.lt
    have hbl1 := hB1.lt
    have x0 : W1.cell? ⟨w.heap.size, 0, none⟩ = some (.pointer (some ⟨t, 0, none⟩)) := hB1.cell 0
    have hbg : w.heap.size ≠ g := by obtain ⟨cur, hb⟩ := Row.blk hT1.ents (g := g) rfl; exact (hb.ne hB1 (by decide)).symm
    have hbt : w.heap.size ≠ t := hB1.ne hT1.head (by decide)
    have hbm : m ≠ some w.heap.size := by
      rintro rfl
      have hMb : Blk W1 w.heap.size 71 [.int .i64 C.tables, .int .i64 C.cells, .int .i64 C.values, .int .i64 C.shifts] := hM1
      exact hMb.ne hB1 (by decide) rfl
    have hmt : m ≠ some t := by
      rintro rfl
      have hMb : Blk W1 t 71 [.int .i64 C.tables, .int .i64 C.cells, .int .i64 C.values, .int .i64 C.shifts] := hM1
      exact hMb.ne hT1.head (by decide) rfl
    have hmg : m ≠ some g := by
      rintro rfl
      have hMb : Blk W1 g 71 [.int .i64 C.tables, .int .i64 C.cells, .int .i64 C.values, .int .i64 C.shifts] := hM1
      obtain ⟨cur, hb⟩ := Row.blk hT1.ents (g := g) rfl
      exact hMb.ne hb (by decide) rfl
    have hfl : (liveTo T.ents nl) = T.ents.filter (·.live) := by unfold liveTo; rw [HNL.out, List.take_length]
    have hfc : (T.ents.filter (·.live)).length = T.live := hc.symm
    have HFL := hid hfl
    clear hfl hfc hgl hgr hg0 hll hdrop hT1 hB1 hM1 hkw1 hT0 hC0 hc x1 x2
    subst hnn
    go_wp2_with (go_at_call 79; refine hleast.mono ?_; clear hleast; rintro e W2 ⟨rfl, hk2⟩; have y0 := (World.cell?_of_block (a := ⟨w.heap.size, 0, none⟩) (hk2.block _ hbl1 id)).trans x0)
    go_at_call 109
    refine (HDROP.out _ hk2).mono ?_
    rintro e W3 ⟨rfl, hT3, hk3⟩
    have hbl2 := Nat.lt_of_lt_of_le hbl1 hk2.size
    have z0 := (World.cell?_of_block (a := ⟨w.heap.size, 0, none⟩) (hk3.block _ hbl2 (fun e => by rcases e with e | e; exact hbt e; exact hbg e))).trans y0
    have hM3 := (HM1.out.kept hk2 (fun _ _ => id)).kept hk3 (fun b hb e => by subst hb; rcases e with e | e; exact hmt (by rw [e]); exact hmg (by rw [e]))
    have hidx := index_any m C t gl _ _ _ _ _ _ W3 hg3 hg15 hM3 (show -1000000 ≤ (T.made : Int) ∧ (T.made : Int) ≤ 1000000 by omega) hT3.head
    have hbl3 := Nat.lt_of_lt_of_le hbl2 hk3.size
    go_wp2_with (go_at_call 78; refine hidx.mono ?_; clear hidx; rintro e W4 ⟨rfl, c4, r4, hc4, hr4, hb4, hcs4, hM4, hk4⟩; have a0 := (World.cell?_of_block (a := ⟨w.heap.size, 0, none⟩) (hk4.block _ hbl3 (fun e => by rcases e with e | e; exact hbt e; exact hbm e))).trans z0)
    have hgW : ∀ k, k = t ∨ m = some k → g ≠ k := by
      rintro k (e | e)
      · rw [e]; intro e2; exact hT3.te (g := g) rfl e2
      · intro e2; exact hmg (by rw [e, e2])
    have hrow4 := hT3.ents.kept hk4 (fun g' hg' e => by cases hg'; exact hgW _ e rfl)
    have hT4 : TabAt W4 m t c4 r4 (.slice (some ⟨g, 0, none⟩) (liveTo T.ents nl).length cap) { ents := liveTo T.ents nl, cells := blankC gl, log := gl, live := T.live, births := T.births, made := T.made + 1, turn := T.turn } := by
      refine ⟨hb4, hcs4, hrow4, ?_⟩
      have e := HGR.out
      rw [← HGL.out] at e
      rw [HFL.out]
      exact Nat.le_of_lt e
    have hlay := layAll_tab m t c4 r4 _ _ W4 hT4 (Nat.le_trans (liveTo_le _ _) (by omega))
    have hbr4 : w.heap.size ≠ r4 := by omega
    have hbl4 := Nat.lt_of_lt_of_le hbl3 hk4.size
    go_at_call 81
    refine hlay.mono ?_
    rintro e W5 ⟨rfl, hT5, hk5⟩
    have hB5 : Blk W5 w.heap.size 24 [.pointer (some ⟨t, 0, none⟩)] := (((HB1.out.kept hk2 id).kept hk3 (fun e => by rcases e with e | e; exact hbt e; exact hbg e)).kept hk4 (fun e => by rcases e with e | e; exact hbt e; exact hbm e)).kept hk5 hbr4
    have hs1 := HK1.out.size
    have hs2 := hk2.size
    have hs3 := hk3.size
    have hmlt : ∀ b, m = some b → b < w.heap.size := fun b hb => by
      subst hb
      have hMb : Blk w b 71 [.int .i64 C.tables, .int .i64 C.cells, .int .i64 C.values, .int .i64 C.shifts] := HM.out
      exact hMb.lt
    have hM5 : Mt W5 m C.table := hM4.kept hk5 (fun b hb e => by have := hmlt b hb; omega)
    have hgo : own t c r sv g := .inr (.inr (.inr (by rw [HSV.out]; rfl)))
    have hK5 : Kept (fun b => own t c r sv b ∨ m = some b) w W5 := by
      refine ((((HK1.out.mono (R' := fun b => own t c r sv b ∨ m = some b) (fun _ _ h => h.elim)).trans hk2 (fun _ _ h => h.elim)).trans hk3 ?_).trans hk4 ?_).trans hk5 ?_
      · rintro b _ (e | e)
        · exact .inl (.inl e)
        · rw [e]; exact .inl hgo
      · rintro b _ (e | e)
        · exact .inl (.inl e)
        · exact .inr e
      · intro b hb e; omega
    have hT5' : TabAt W5 m t c4 r4 (.slice (some ⟨g, 0, none⟩) (liveTo T.ents nl).length cap) T.grow := by
      have e := hT5
      rw [HFL.out] at e ⊢
      rw [HGL.out] at e
      exact e
    clear hlay hT4 hrow4 hgW hb4 hcs4 hM4 hk4 hM3 hk3 hT3 hk2 y0 z0 x0
    go_wp2
    refine HFIN.out _ _ _ _ _ _ _ _ _ _ _ _ _ _ _ _ _ _ _ _ _ _ _ W5 T.grow c4 r4 _ C.table hT5' HGR.out ?_ h1 h2 h3 hB5 hK5 ?_ hM5 HTT.out.symm HCC.out.symm
    · show (T.ents.filter (·.live)).length ≤ 30000
      have := List.length_filter_le (·.live) T.ents
      have := HNL.out
      omega
    · rintro b (e | e | e | e)
      · exact .inl (.inl e)
      · exact .inr (by omega)
      · exact .inr (by omega)
      · cases e; exact .inl hgo
  · have hti : ¬ T.tight = true := by unfold Tab.tight; rw [← HNL.out, ← HNR.out]; simpa using hnn
    have hT0 : T0 = T := by rw [HT0.out, if_neg hti]
    have hC0 : C0 = C := by rw [HC0.out, if_neg hti]
    have HTT := hid hT0
    have HCC := hid hC0
    clear hT0 hC0
    go_wp2
    refine HFIN.out _ _ _ _ _ _ _ _ _ _ _ _ _ _ _ _ _ _ _ _ _ _ _ W1 T c r sv C (H.out.kept' HK1.out (fun _ _ => id)) ?_ (by rw [← HNL.out]; exact hlen) h1 h2 h3 hB1 (HK1.out.mono (fun _ _ h => h.elim)) (fun b h => .inl h) (HM.out.kept HK1.out (fun _ _ => id)) HTT.out.symm HCC.out.symm
    have h5 := H.out.fits
    rw [← HNL.out, ← HNR.out] at h5 ⊢
    omega

theorem add_any (m : Option Nat) (C : Cnt) (t c r : Nat) (sv : Value) (T : Tab) (w : World) (hash key value : Int) (h : TabAt w m t c r sv T) (hm : Mt w m C)
    (h1 : T.live ≤ 10000) (h2 : T.turn ≤ 100000) (h3 : T.births ≤ 100000) (h4 : T.made ≤ 100000) (hlen : T.ents.length ≤ 30000) (hc : T.live = T.count) :
    Calls Try.prog 42 #[.pointer (some ⟨t, 0, none⟩), .int .i64 hash, .int .i64 key, .int .i64 value] w fun e w' =>
      e = .returned (.tuple #[.int .i64 (if T.tight then T.grow else T).ents.length, .int .i64 0]) ∧ ∃ c' r' sv', TabAt w' m t c' r' sv' (T.add hash key value) ∧ (∀ b, own t c' r' sv' b → own t c r sv b ∨ w.heap.size ≤ b) ∧
        Mt w' m (if T.tight then C.table else C) ∧ Kept (fun b => own t c r sv b ∨ m = some b) w w' :=
  add_in _ _ m C t c r sv T w hash key value h hm h1 h2 h3 h4 hlen hc rfl rfl
set_option maxHeartbeats 400000 in
theorem add_nil (hash key value : Int) (w : World) : Calls Try.prog 42 #[.pointer none, .int .i64 hash, .int .i64 key, .int .i64 value] w fun e w' => e = .returned (.tuple #[.int .i64 0, .int .i64 1]) ∧ Kept Nil w w' := by
  go_enter Try.func42, Try.ntmps42
  go_wp2
  exact bodyPost_ret (v := .tuple #[.int .i64 0, .int .i64 1]) (by simp [results, Try.results42, go_sem]) rfl ⟨rfl, (Kept.refl _ _).alloc _⟩

end Go.Proofs.Ytbbkljgeddjghaa
