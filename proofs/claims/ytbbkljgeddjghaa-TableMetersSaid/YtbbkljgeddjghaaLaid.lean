/-
  What is proved: the walk of lexiconlaw7's 'laid': a table of adds, of which some are killed, and the list of what it should hold.
-/
import Derived.Test.YtbbkljgeddjghaaLawB
namespace Go.Proofs.Ytbbkljgeddjghaa
open Go.RowKit Go.Lx Go.Shelf
set_option linter.unusedVariables false

/-- A slice of integers that came in. -/
structure Ints (w : World) (a : Option Addr) (n : Nat) (z : List Int) : Prop where
  ex : n = 0 ∨ ∃ b o, a = some ⟨b, o, none⟩ ∧ b < w.heap.size ∧ n ≤ z.length ∧ ∀ i, i < z.length → w.cell? ⟨b, o + i, none⟩ = some (.int .i64 (z.getD i 0))
theorem Ints.cell {w : World} {a : Option Addr} {n : Nat} {z : List Int} (h : Ints w a n z) {i : Nat} (hi : i < n) : ∃ b o, a = some ⟨b, o, none⟩ ∧ b < w.heap.size ∧ w.cell? ⟨b, o + i, none⟩ = some (.int .i64 (z.getD i 0)) := by
  rcases h.ex with h0 | ⟨b, o, h1, h2, h3, h4⟩
  · omega
  · exact ⟨b, o, h1, h2, h4 i (by omega)⟩
theorem Ints.kept {w w' : World} {a : Option Addr} {n : Nat} {z : List Int} (h : Ints w a n z) (hk : Kept Nil w w') : Ints w' a n z := by
  refine ⟨h.ex.imp id ?_⟩
  rintro ⟨b, o, h1, h2, h3, h4⟩
  exact ⟨b, o, h1, Nat.lt_of_lt_of_le h2 hk.size, h3, fun i hi => (World.cell?_of_block (a := ⟨b, o + i, none⟩) (hk.block b h2 id)).trans (h4 i hi)⟩

/-- A table and the list of its live entries, behind k adds. -/
structure LA (w0 w : World) (k : Nat) (nk : Prop) (t c r : Nat) (sv wv : Value) (T : Tab) (es : List Ent) : Prop where
  tab : TabAt w none t c r sv T
  good : GoodT T
  row : Row w 32 5 wv es.length (flat es)
  tfresh : ∀ b, own t c r sv b → w0.heap.size ≤ b
  wfresh : ∀ b, wv.ownBlock = some b → w0.heap.size ≤ b
  apart : ∀ b, wv.ownBlock = some b → ¬ own t c r sv b
  kept : Kept Nil w0 w
  births : T.births = k
  ents : T.ents.length ≤ k
  turn : T.turn ≤ 2 * k
  made : T.made ≤ k + 1
  all : nk → ∀ x ∈ T.ents, x.live = true

theorem LA.start {w w1 : World} {nk : Prop} {t c r : Nat} (h : TabAt w1 none t c r (.slice none 0 0) Tab.new) (ht : w.heap.size ≤ t) (hc : w.heap.size ≤ c) (hr : w.heap.size ≤ r) (hk : Kept Nil w w1) : LA w w1 0 nk t c r (.slice none 0 0) (.slice none 0 0) Tab.new [] := by
  refine ⟨h, GoodT.new, Row.nil _ _ _, ?_, ?_, ?_, hk, rfl, Nat.zero_le _, Nat.zero_le _, Nat.le_refl _, ?_⟩
  · rintro b (rfl | rfl | rfl | e)
    · exact ht
    · exact hc
    · exact hr
    · cases e
  · intro b hb; cases hb
  · intro b hb; cases hb
  · intro _ x hx; cases hx

theorem LA.live_le {w0 w : World} {k : Nat} {nk : Prop} {t c r : Nat} {sv wv : Value} {T : Tab} {es : List Ent} (h : LA w0 w k nk t c r sv wv T es) : T.live ≤ k := by
  have h1 := h.good.live
  have h2 : T.lives.length ≤ T.ents.length := List.length_filter_le _ _
  have := h.ents
  omega

/-- Add, for 'LA'. -/
theorem LA.add {w0 w : World} {k : Nat} {nk : Prop} {t c r : Nat} {sv wv : Value} {T : Tab} {es : List Ent} (h : LA w0 w k nk t c r sv wv T es) (hk : k ≤ 1000) (hash key value : Int) :
    Calls Try.prog 42 #[.pointer (some ⟨t, 0, none⟩), .int .i64 hash, .int .i64 key, .int .i64 value] w fun e w' => ∃ n : Nat, e = .returned (.tuple #[.int .i64 n, .int .i64 0]) ∧ ∃ c' r' sv', LA w0 w' (k + 1) nk t c' r' sv' wv (T.add hash key value) es ∧ w.heap.size ≤ w'.heap.size := by
  have hl := h.live_le
  obtain ⟨g1, g2, g3⟩ := h.good.add (by omega) hash key value
  obtain ⟨-, -, w3, w4, w5, w6, w7, w8⟩ := h.good.wide (by omega)
  refine (add_any none ⟨0, 0, 0, 0⟩ t c r sv T w hash key value h.tab trivial (by omega) (by have := h.turn; omega) (by have := h.births; omega) (by have := h.made; omega) (by have := h.ents; omega) h.good.live).mono ?_
  rintro e w' ⟨rfl, c', r', sv', hT, ho, -, hk'⟩
  refine ⟨_, rfl, c', r', sv', ⟨hT, g1, h.row.kept hk' (fun b hb e => e.elim (h.apart b hb) (fun e => by cases e)), ?_, h.wfresh, ?_, ?_, ?_, ?_, ?_, ?_, ?_⟩, hk'.size⟩
  · intro b hb
    rcases ho b hb with h1 | h1
    · exact h.tfresh b h1
    · have := h.kept.size; omega
  · intro b hb hb'
    rcases ho b hb' with h1 | h1
    · exact h.apart b hb h1
    · have := h.row.lt hb; omega
  · refine h.kept.trans hk' (fun b hb e => ?_)
    rcases e with e | e
    · have := h.tfresh b e; omega
    · cases e
  · rw [add_wide]; have := h.births; simp [Tab.put1]; omega
  · rw [add_wide]
    have h2 : T.wide.ents.length ≤ T.ents.length := by
      unfold Tab.wide; split
      · exact List.length_filter_le _ _
      · exact Nat.le_refl _
    have := h.ents
    simp [Tab.put1]; omega
  · rw [add_wide]; have := h.turn; simp [Tab.put1]; omega
  · rw [add_wide]; have := h.made; simp [Tab.put1]; omega
  · intro hn x hx
    rw [add_wide] at hx
    rcases List.mem_append.1 hx with hx | hx
    · unfold Tab.wide at hx
      split at hx
      · exact h.all hn x (List.mem_filter.1 hx).1
      · exact h.all hn x hx
    · simp at hx; subst hx; rfl
/-- The list, appended to. -/
theorem LA.app {w0 w w' : World} {k : Nat} {nk : Prop} {t c r : Nat} {sv wv wv' : Value} {T : Tab} {es : List Ent} (h : LA w0 w k nk t c r sv wv T es) {x : Ent} (ha : App w w' 32 5 wv wv' (es.length + 1) (flat es ++ x.vals)) : LA w0 w' k nk t c r sv wv' T (es ++ [x]) := by
  refine ⟨h.tab.kept' ha.kept (fun b hb e => h.apart b e hb), h.good, ?_, h.tfresh, ?_, ?_, ?_, h.births, h.ents, h.turn, h.made, h.all⟩
  · rw [flat_append, List.length_append, show flat [x] = x.vals by simp [flat]]; exact ha.row
  · intro b hb
    rcases ha.own b hb with e | e
    · exact h.wfresh b e
    · have := h.kept.size; omega
  · intro b hb hb'
    rcases ha.own b hb with e | e
    · exact h.apart b e hb'
    · have := h.tab.lt b hb'; omega
  · exact h.kept.trans ha.kept (fun b hb e => by have := h.wfresh b e; omega)
/-- Another list. -/
theorem LA.list {w0 w w' : World} {k : Nat} {nk : Prop} {t c r : Nat} {sv wv wv' : Value} {T : Tab} {es es' : List Ent} (h : LA w0 w k nk t c r sv wv T es) (hk : Kept Nil w w') (hr : Row w' 32 5 wv' es'.length (flat es')) (hf : ∀ b, wv'.ownBlock = some b → w.heap.size ≤ b) : LA w0 w' k nk t c r sv wv' T es' := by
  refine ⟨h.tab.kept' hk (fun b hb e => e), h.good, hr, h.tfresh, fun b hb => Nat.le_trans h.kept.size (hf b hb), fun b hb hb' => ?_, h.kept.trans hk (fun _ _ h => h), h.births, h.ents, h.turn, h.made, h.all⟩
  have := h.tab.lt b hb'
  have := hf b hb
  omega
/-- Reads and new memory. -/
theorem LA.on {w0 w w' : World} {k : Nat} {nk : Prop} {t c r : Nat} {sv wv : Value} {T : Tab} {es : List Ent} (h : LA w0 w k nk t c r sv wv T es) (hk : Kept Nil w w') : LA w0 w' k nk t c r sv wv T es :=
  ⟨h.tab.kept' hk (fun b hb e => e), h.good, h.row.kept hk (fun _ _ => id), h.tfresh, h.wfresh, h.apart, h.kept.trans hk (fun _ _ h => h), h.births, h.ents, h.turn, h.made, h.all⟩
/-- Kill, for 'LA'. -/
theorem LA.kill {w0 w : World} {k : Nat} {nk : Prop} {t c r : Nat} {sv wv : Value} {T : Tab} {es : List Ent} (h : LA w0 w (k + 1) nk t c r sv wv T es) (hturn : T.turn ≤ 2 * k + 1) (hk : k ≤ 1000) (hnk : ¬ nk) {n : Nat} {x : Ent} (hx : T.ents[n]? = some x) (hl : x.live = true) :
    Calls Try.prog 45 #[.pointer (some ⟨t, 0, none⟩), .int .i64 n] w fun e w' => e = .returned (.int .i64 0) ∧ LA w0 w' (k + 1) nk t c r sv wv (T.kill (n : Nat)) es ∧ w.heap.size ≤ w'.heap.size := by
  have hll := h.live_le
  obtain ⟨g1, g2, g3, g4, g5⟩ := h.good.kill hx hl
  refine (kill_yes none t c r sv T w n x h.tab (get_of hx hl) (by omega) (by omega) (by omega)).mono ?_
  rintro e w' ⟨rfl, hT, hk'⟩
  have hkk : (T.kill (n : Nat)).turn = T.turn + 1 ∧ (T.kill (n : Nat)).made = T.made := by unfold Tab.kill; rw [get_of hx hl]; exact ⟨rfl, rfl⟩
  refine ⟨rfl, ⟨hT, g1, h.row.kept hk' (fun b hb e => h.apart b hb e), h.tfresh, h.wfresh, h.apart, ?_, by rw [g5]; exact h.births, by rw [g3, List.length_set]; exact h.ents, by omega, by rw [hkk.2]; exact h.made, fun hn => (hnk hn).elim⟩, hk'.size⟩
  exact h.kept.trans hk' (fun b hb e => by have := h.tfresh b e; omega)

theorem LA.cutOut6 {w0 w5 w6 : World} {K : Nat} {nk : Prop} {t c r : Nat} {sv wv rv6 : Value} {T : Tab} {es : List Ent} (h : LA w0 w5 K nk t c r sv wv T es) (kk : Nat) {xs : List Value} (ha6 : App w5 w6 32 5 (.slice none 0 0) rv6 (0 + kk) xs) : Row w6 32 5 wv es.length (flat es) :=
  h.row.kept ha6.kept (fun b hb e => by cases e)
/-- The list without one. -/
theorem LA.cutOut {w0 w5 w6 w7 : World} {K : Nat} {nk : Prop} {t c r : Nat} {sv wv rv6 wv7 : Value} {T : Tab} {es : List Ent} (h : LA w0 w5 K nk t c r sv wv T es) (q kk : Nat) (hes : es.length = q + 1) (hkk : kk < q + 1)
    (hl : T.lives = es.take kk ++ es.drop (kk + 1)) (ha6 : App w5 w6 32 5 (.slice none 0 0) rv6 (0 + kk) ([] ++ flat ((es.drop 0).take kk)))
    (ha7 : App w6 w7 32 5 rv6 wv7 (0 + kk + (q - kk)) ([] ++ flat ((es.drop 0).take kk) ++ flat ((es.drop (kk + 1)).take (q - kk)))) : LA w0 w7 K nk t c r sv wv7 T T.lives ∧ LA w0 w7 K nk t c r sv (if q = 0 then .slice none 0 0 else wv7) T T.lives := by
  have hk6 : Kept Nil w5 w6 := ha6.kept.mono (fun b hb e => by cases e)
  have hf6 : ∀ b, rv6.ownBlock = some b → w5.heap.size ≤ b := fun b hb => (ha6.own b hb).elim (fun e => by cases e) id
  have hk7 : Kept Nil w5 w7 := ha7.grown hk6 (fun b hb => .inr (hf6 b hb))
  have hf7 : ∀ b, wv7.ownBlock = some b → w5.heap.size ≤ b := ha7.fresh hk6.size hf6
  have hlen : T.lives.length = q := by rw [hl]; simp; omega
  have hlen' : 0 + kk + (q - kk) = T.lives.length := by rw [hlen]; omega
  have hr := ha7.row
  rw [hlen', List.nil_append, ← flat_append, List.drop_zero, List.take_of_length_le (l := es.drop (kk + 1)) (by simp; omega), ← hl] at hr
  have h1 := h.list hk7 hr hf7
  refine ⟨h1, ?_⟩
  split
  · rename_i e
    have e2 : T.lives = [] := List.eq_nil_of_length_eq_zero (by omega)
    rw [e2]
    exact h.list hk7 (Row.nil _ _ _) (fun b hb => by cases hb)
  · exact h1

set_option maxRecDepth 100000 in
set_option maxHeartbeats 4000000 in
theorem laid_any (a0 a1 : Option Addr) (n0 c0 n1 c1 : Nat) (z0 z1 : List Int) (w : World) (h0 : Ints w a0 n0 z0) (h1 : Ints w a1 n1 z1) (hn0 : n0 ≤ 300) :
    Calls Try.prog 22 #[.slice a0 n0 c0, .slice a1 n1 c1] w fun e w' => ∃ t c r sv wv T, e = .returned (.tuple #[.pointer (some ⟨t, 0, none⟩), wv, .bool true]) ∧ LA w w' n0 (n1 = 0) t c r sv wv T T.lives := by
  have hnew := tabNew_any none ⟨0, 0, 0, 0⟩ w trivial
  unfold mptr at hnew
  have H0 := hid h0
  have H1 := hid h1
  clear h0 h1
  go_enter Try.func22, Try.ntmps22
  go_wp2_with (go_at_call 72; refine hnew.mono ?_; clear hnew; rintro e w1 ⟨t, c, r, rfl, ht, hc, hr, hT, -, hk1⟩)
  have hst : LA w w1 0 (n1 = 0) t c r (.slice none 0 0) (.slice none 0 0) Tab.new [] := LA.start hT ht hc hr (hk1.mono (fun b hb h => (by cases h)))
  have HST := hid hst
  clear hT hk1 hst ht hc hr
  go_loopw [8, 9] (fun wv i W => ∃ (k : Nat) (c r : Nat) (sv : Value) (T : Tab), k ≤ n0 ∧ i = .int .i64 k ∧ LA w W k (n1 = 0) t c r sv wv T T.lives) (fun _ i _ => n0 - (intOf i).toNat)
  case atStart => exact ⟨0, _, _, _, _, Nat.zero_le _, rfl, HST.out⟩
  case round =>
    obtain ⟨k, c2, r2, sv2, T, hk, rfl, hla⟩ := hrel
    clear HST
    by_cases hlt : k < n0
    · obtain ⟨b0, o0, rfl, hb0, hcell0⟩ := H0.out.cell hlt
      obtain ⟨hh, hhe⟩ : ∃ hh, hh = z0.getD k 0 := ⟨_, rfl⟩
      rw [← hhe] at hcell0
      have hread : ∀ W, Kept Nil w W → W.cell? ⟨b0, o0 + k, none⟩ = some (.int .i64 hh) := fun W hk => (World.cell?_of_block (a := ⟨b0, o0 + k, none⟩) (hk.block b0 hb0 id)).trans hcell0
      have hcell := hread wr hla.kept
      have HREAD := hid hread
      clear hhe hread hcell0
      have hlt' : (k : Int) < (n0 : Int) := by omega
      have hadd := hla.add (by omega) hh k (3 * (k : Int))
      have HLA := hid hla
      clear hla
      go_wp2_with fail
      go_at_call 42
      refine hadd.mono ?_
      clear hadd
      rintro e w2 ⟨n, rfl, c3, r3, sv3, hla1, hsz⟩
      have hcell2 := HREAD.out w2 hla1.kept
      obtain ⟨T1, hT1⟩ : ∃ T1, T1 = T.add hh k (3 * (k : Int)) := ⟨_, rfl⟩
      rw [← hT1] at hla1
      have hl1 : T1.lives = T.lives ++ [⟨true, hh, k, 3 * (k : Int), k⟩] := by
        rw [hT1, (HLA.out.good.add (by have := HLA.out.live_le; omega) hh k (3 * (k : Int))).2.1, HLA.out.births]
      have htn : T1.turn ≤ 2 * k + 1 := by rw [hT1, add_turn]; have := HLA.out.turn; omega
      obtain ⟨q, hq⟩ : ∃ q, q = T.lives.length := ⟨_, rfl⟩
      have hq1 : q ≤ k := by rw [hq, ← HLA.out.good.live]; exact HLA.out.live_le
      have hrow := hla1.row
      rw [← hq] at hrow
      have HQ := hid hq
      have SRC := hid (Src.new w2 32 [.bool true, .int .i64 hh, .int .i64 k, .int .i64 (3 * (k : Int)), .int .i64 k] 1 5 rfl (by simp [Value.oneCell']))
      have ROW := hid (hrow.alloc (.cells #[.bool true, .int .i64 hh, .int .i64 k, .int .i64 (3 * (k : Int)), .int .i64 k] 32))
      have HL1 := hid hl1
      have HT1 := hid hT1
      have HLA1 := hid hla1
      clear hl1 hT1 hla1 hrow hq
      have hla3 : ∀ wv3 w3, App (w2.alloc (.cells #[.bool true, .int .i64 hh, .int .i64 k, .int .i64 (3 * (k : Int)), .int .i64 k] 32)) w3 32 5 u8 wv3 (q + 1) (flat T.lives ++ [.bool true, .int .i64 hh, .int .i64 k, .int .i64 (3 * (k : Int)), .int .i64 k]) → LA w w3 (k + 1) (n1 = 0) t c3 r3 sv3 wv3 T1 T1.lives := by
        intro wv3 w3 ha
        rw [HL1.out]
        rw [HQ.out] at ha
        exact (HLA1.out.on ((Kept.refl Nil _).alloc _)).app ha
      have HLA3 := hid hla3
      clear hla3
      by_cases hk1 : k < n1
      · obtain ⟨b1, o1, rfl, hb1, hkcell0⟩ := H1.out.cell hk1
        obtain ⟨v1, hv1⟩ : ∃ v1, v1 = z1.getD k 0 := ⟨_, rfl⟩
        rw [← hv1] at hkcell0
        have hread1 : ∀ W, Kept Nil w W → W.cell? ⟨b1, o1 + k, none⟩ = some (.int .i64 v1) := fun W hk => (World.cell?_of_block (a := ⟨b1, o1 + k, none⟩) (hk.block b1 hb1 id)).trans hkcell0
        have HREAD1 := hid hread1
        clear hkcell0 hread1 hv1
        have hlt1 : (k : Int) < (n1 : Int) := by omega
        by_cases hv : 0 ≤ v1
        · obtain ⟨kk, hkk⟩ : ∃ kk : Nat, v1 % ((q : Int) + 1) = (kk : Int) := Int.eq_ofNat_of_zero_le (Int.emod_nonneg _ (by omega))
          have hkq : kk < q + 1 := by have := Int.emod_lt_of_pos v1 (b := (q : Int) + 1) (by omega); omega
          have hln : T1.lives.length = q + 1 := by rw [HL1.out, List.length_append, ← HQ.out]; rfl
          obtain ⟨x, hx⟩ : ∃ x, T1.lives[kk]? = some x := ⟨_, List.getElem?_eq_getElem (by omega)⟩
          obtain ⟨nn, g1, g2, g3, g4, g5⟩ := HLA1.out.good.lives_get hx
          have hentc := fun wv3 w3 happ => Row.entCells (HLA3.out wv3 w3 happ).row hx
          have HENT := hid hentc
          have HX := hid hx
          have HLN := hid hln
          have G1 := hid g1
          have G2 := hid g2
          have G3 := hid g3
          have G4 := hid g4
          have G5 := hid g5
          have hkq' : (kk : Int) < (q : Int) + 1 := by omega
          clear hentc hx hln g1 g2 g3 g4 g5
          go_wp2_with (at_builtin; refine wpList_app _ elemEntry rfl (.tmp 41) (.tmp 51) (by rfl) (v := u8) (by rfl) ROW.out (by rfl) SRC.out (by omega) ?_; intro wv3 w3 happ; have hkc := HREAD1.out w3 (HLA3.out _ _ happ).kept; obtain ⟨g, cap3, hsv, hc1, hc2, hgl, e0, e1, e2, e3, e4⟩ := HENT.out _ _ happ; rw [HLN.out] at hsv hc1; subst hsv)
          have HLA4 := hid (HLA3.out _ _ happ)
          clear happ
          go_at_call 73
          refine (number_any none t c3 r3 sv3 T1 w3 HLA4.out.tab (by have := HLA4.out.ents; omega) nn x G1.out G5.out).mono ?_
          rintro e w4 ⟨rfl, hk4⟩
          have HLA5 := hid (HLA4.out.on hk4)
          clear hk4 e0 e1 e2 e3 e4 hgl
          go_wp2_with fail
          go_at_call 45
          refine (HLA5.out.kill htn (by omega) (by omega) G1.out G2.out).mono ?_
          rintro e w5 ⟨rfl, hla6, -⟩
          have HLA6 := hid hla6
          clear hla6
          have hrow6 := HLA6.out.row
          have SRC1 := hid (Src.ents hrow6 rfl 0 kk (by rw [HLN.out]; omega))
          rw [show 0 * 5 = 0 from rfl] at SRC1
          clear hrow6
          have hkc3 : kk ≤ cap3 := by omega
          have hcapi : (cap3 : Int) ≤ 9223372036854775807 := by unfold maxLen at hc2; omega
          have hfin := fun rv6 w6 wv7 w7 ha6 ha7 => HLA6.out.cutOut q kk HLN.out (by omega) (by rw [(HLA5.out.good.kill G1.out G2.out).2.1, G3.out, G4.out]) (rv6 := rv6) (w6 := w6) (wv7 := wv7) (w7 := w7) ha6 ha7
          have HFIN := hid hfin
          have SRC2 := fun rv6 w6 ha6 => Src.ents (HLA6.out.cutOut6 kk (rv6 := rv6) (w6 := w6) (xs := [] ++ flat ((T1.lives.drop 0).take kk)) ha6) rfl (kk + 1) (q - kk) (by rw [HLN.out]; omega)
          have SRC2' := hid SRC2
          have SRC3 : Hid (kk + 1 = cap3 → ∀ w6, Src w6 (some ⟨g, 0, none⟩) (q - kk) 5 (flat ((T1.lives.drop (kk + 1)).take (q - kk)))) := by
            intro e w6
            have e2 : q - kk = 0 := by omega
            rw [e2, List.take_zero]
            exact ⟨rfl, .inl rfl, fun u hu => (by cases hu)⟩
          clear hfin SRC2
          have e9 : 0 + kk + (q - kk) = q := by omega
          have E9 := hid e9
          clear e9
          have hq0 : (q = 0 ∧ ((q : Int) == 0) = true) ∨ (q ≠ 0 ∧ ((q : Int) == 0) = false) := by
            by_cases h : q = 0
            · exact .inl ⟨h, by simpa using h⟩
            · exact .inr ⟨h, by simpa using h⟩
          by_cases hcap : kk + 1 = cap3
          · have HS3 : Hid (∀ w6, Src w6 (some ⟨g, 0, none⟩) 0 5 []) := fun w6 => ⟨rfl, .inl rfl, fun u hu => (by cases hu)⟩
            have e10 : q - kk = 0 := by omega
            have E10 := hid e10
            have e11 : 0 + kk + 0 = q := by omega
            have E11 := hid e11
            clear e11
            subst hcap
            clear SRC3 e10
            rcases hq0 with ⟨hq2, hq3⟩ | ⟨hq2, hq3⟩
            all_goals
              have HQ2 := hid hq2
              clear hq2
              go_wp2_with (first | (at_builtin; refine wpList_app _ elemEntry rfl _ _ rfl (v := .slice none 0 0) rfl (Row.nil _ _ _) rfl SRC1.out (by omega) ?_; intro rv6 w6 happ6) | (at_builtin; (refine wpList_app _ elemEntry rfl _ _ rfl rfl happ6.row rfl (HS3.out _) (by omega) ?_; intro wv7 w7 happ7; have hla9 := HFIN.out _ _ _ _ happ6 (by rw [E10.out, List.take_zero]; exact happ7); have hrow9 := happ7.row; rw [E11.out] at hrow9; obtain ⟨a7, cap7, rfl⟩ := Row.sliceOf hrow9; clear happ6 happ7 hrow9)))
              go_roundw
              case rel =>
                first
                  | (have hh := hla9.2; rw [if_pos HQ2.out] at hh; exact ⟨k + 1, _, _, _, _, by omega, by go_num, hh⟩)
                  | (have hh := hla9.1; exact ⟨k + 1, _, _, _, _, by omega, by go_num, hh⟩)
              case measure => simp [intOf]; omega
          · clear SRC3
            have hcap' : kk + 1 < cap3 := by omega
            clear hcap
            rcases hq0 with ⟨hq2, hq3⟩ | ⟨hq2, hq3⟩
            all_goals
              have HQ2 := hid hq2
              clear hq2
              go_wp2_with (first | (at_builtin; refine wpList_app _ elemEntry rfl _ _ rfl (v := .slice none 0 0) rfl (Row.nil _ _ _) rfl SRC1.out (by omega) ?_; intro rv6 w6 happ6) | (at_builtin; refine wpList_app _ elemEntry rfl _ _ rfl rfl happ6.row rfl (SRC2'.out _ _ happ6) (by omega) ?_; intro wv7 w7 happ7; have hla9 := HFIN.out _ _ _ _ happ6 happ7; have hrow9 := happ7.row; rw [E9.out] at hrow9; obtain ⟨a7, cap7, rfl⟩ := Row.sliceOf hrow9; clear happ6 happ7 hrow9))
              go_roundw
              case rel =>
                first
                  | (have hh := hla9.2; rw [if_pos HQ2.out] at hh; exact ⟨k + 1, _, _, _, _, by omega, by go_num, hh⟩)
                  | (have hh := hla9.1; exact ⟨k + 1, _, _, _, _, by omega, by go_num, hh⟩)
              case measure => simp [intOf]; omega
        · have hv' : v1 < 0 := by omega
          go_wp2_with (at_builtin; refine wpList_app _ elemEntry rfl (.tmp 41) (.tmp 51) (by rfl) (v := u8) (by rfl) ROW.out (by rfl) SRC.out (by omega) ?_; intro wv3 w3 happ; have hkc := HREAD1.out w3 (HLA3.out _ _ happ).kept)
          go_roundw
          case rel => exact ⟨k + 1, _, _, _, T1, by omega, by go_num, HLA3.out _ _ happ⟩
          case measure => simp [intOf]; omega
      · have hge : (n1 : Int) ≤ (k : Int) := by omega
        go_wp2_with (at_builtin; refine wpList_app _ elemEntry rfl (.tmp 41) (.tmp 51) (by rfl) (v := u8) (by rfl) ROW.out (by rfl) SRC.out (by omega) ?_; intro wv3 w3 happ)
        go_roundw
        case rel => exact ⟨k + 1, _, _, _, T1, by omega, by go_num, HLA3.out _ _ happ⟩
        case measure => simp [intOf]; omega
    · obtain rfl : k = n0 := by omega
      go_wp2
      exact bodyPost_ret (v := .tuple #[.pointer (some ⟨t, 0, none⟩), u8, .bool true]) (by simp [results, Try.results22, go_sem]) rfl ⟨t, c2, r2, sv2, u8, T, rfl, hla⟩

end Go.Proofs.Ytbbkljgeddjghaa
