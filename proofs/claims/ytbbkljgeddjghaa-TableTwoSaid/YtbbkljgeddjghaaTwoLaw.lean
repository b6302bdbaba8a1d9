/-
  What is proved: the walk of lexiconlaw7's TableTwo: it answers true.
-/
import Derived.Test.YtbbkljgeddjghaaPlays
namespace Go.Proofs.Ytbbkljgeddjghaa
open Go.RowKit Go.Lx Go.Shelf
set_option linter.unusedVariables false
set_option linter.unusedSimpArgs false

theorem Bnd.more {T : Tab} {n k : Nat} (h : Bnd T n) (hk : n ≤ k) (h5 : k ≤ 5000) : Bnd T k := ⟨Nat.le_trans h.live hk, Nat.le_trans h.births hk, Nat.le_trans h.turn hk, Nat.le_trans h.made (by omega), h5⟩

/-- Two pairs of tables that have nothing in common. -/
structure Pairs (w0 W : World) (x y : Nat) (D1 D2 : Dat) (n : Nat) : Prop where
  one : TwoAt W none none x D1
  two : TwoAt W none none y D2
  b1 : Bnd D1.T n
  b2 : Bnd D2.T n
  apart : ∀ z, foot none none x D1 z → ¬ foot none none y D2 z
  f1 : ∀ z, foot none none x D1 z → w0.heap.size ≤ z
  f2 : ∀ z, foot none none y D2 z → w0.heap.size ≤ z
  kept : Kept Nil w0 W
theorem Pairs.on {w0 W W' : World} {x y : Nat} {D1 D2 : Dat} {n : Nat} (h : Pairs w0 W x y D1 D2 n) (hk : Kept Nil W W') : Pairs w0 W' x y D1 D2 n :=
  ⟨h.one.kept hk (fun _ _ => id), h.two.kept hk (fun _ _ => id), h.b1, h.b2, h.apart, h.f1, h.f2, h.kept.trans hk (fun _ _ h => h)⟩
theorem Pairs.more {w0 W : World} {x y : Nat} {D1 D2 : Dat} {n k : Nat} (h : Pairs w0 W x y D1 D2 n) (hk : n ≤ k) (h5 : k ≤ 5000) : Pairs w0 W x y D1 D2 k :=
  ⟨h.one, h.two, h.b1.more hk h5, h.b2.more hk h5, h.apart, h.f1, h.f2, h.kept⟩
theorem Pairs.swap {w0 W : World} {x y : Nat} {D1 D2 : Dat} {n : Nat} (h : Pairs w0 W x y D1 D2 n) : Pairs w0 W y x D2 D1 n :=
  ⟨h.two, h.one, h.b2, h.b1, fun z a b => h.apart z b a, h.f2, h.f1, h.kept⟩
theorem Pairs.does {w0 W W' : World} {x y : Nat} {D1 D2 : Dat} {n : Nat} {e : Ending} (h : Pairs w0 W x y D1 D2 n) (hn : n + 1 ≤ 5000) (hd : DoesPost W none none x D1 n e W') : e = .returned (.bool true) ∧ ∃ D1', Pairs w0 W' x y D1' D2 (n + 1) := by
  obtain ⟨h1, D1', h2, h3, h4, h5⟩ := hd
  have hs := h.kept.size
  refine ⟨h1, D1', h2, h.two.kept h5 (fun z hz e => h.apart z e hz), h3, h.b2.more (Nat.le_succ _) hn, ?_, ?_, h.f2, ?_⟩
  · intro z hz hy
    rcases h4 z hz with e | e
    · exact h.apart z e hy
    · have := h.two.lt z hy; omega
  · intro z hz
    rcases h4 z hz with e | e
    · exact h.f1 z e
    · omega
  · exact h.kept.trans h5 (fun z hz e => by have := h.f1 z e; omega)

/-- What Sight leaves of one pair. -/
theorem TwoAt.sight {w w' : World} {m rm : Option Nat} {x : Nat} {D : Dat} (hh : TwoAt w m rm x D) {c' r' : Nat} {sv' : Value} (h1 : TabAt w' m D.t c' r' sv' D.T) (h2 : ∀ z, own D.t c' r' sv' z → own D.t D.c D.r D.sv z ∨ w.heap.size ≤ z) (hM : Mt w' m D.C) (hk : Kept (own D.t D.c D.r D.sv) w w') :
    TwoAt w' m rm x { D with c := c', r := r', sv := sv' } ∧ ∀ z, foot m rm x { D with c := c', r := r', sv := sv' } z → foot m rm x D z ∨ w.heap.size ≤ z := by
  have hkr : ∀ z, rfoot rm D z → ¬ own D.t D.c D.r D.sv z := fun z hz e => hh.apart z (.inl e) hz
  refine ⟨⟨Blk.kept hh.blk hk (fun e => hh.xp (.inl e)), .inl h1, hM, hh.ref.kept hk (fun z hz => hkr z (.inl hz)), hh.rmt.kept hk (fun z hz => hkr z (.inr hz)), hh.good, ?_, hh.log, ?_⟩, ?_⟩
  · rintro z (hz | hz) hr
    · rcases h2 z hz with hz | hz
      · exact hh.apart z (.inl hz) hr
      · have := hh.rlt z hr; omega
    · exact hh.apart z (.inr hz) hr
  · refine hh.seek.imp id ?_
    rintro ⟨s, k, e1, e2, e3, e4⟩
    obtain ⟨f1, f2⟩ := sfoot_of e1 e2
    exact ⟨s, k, e1, e2, e3.kept hk (fun e => (hh.slt s f1).2.1 (.inl e)) (fun e => (hh.slt k f2).2.1 (.inl e)), h1.tc.symm⟩
  · rintro z (e | (e | e) | e | e)
    · exact .inl (.inl e)
    · exact (h2 z e).imp (fun e => .inr (.inl (.inl e))) id
    · exact .inl (.inr (.inl (.inr e)))
    · exact .inl (.inr (.inr (.inl e)))
    · exact .inl (.inr (.inr (.inr e)))
theorem Pairs.sight {w0 w w' : World} {x y : Nat} {D1 D2 : Dat} {n : Nat} (h : Pairs w0 w x y D1 D2 n) {c' r' : Nat} {sv' : Value} (h1 : TabAt w' none D1.t c' r' sv' D1.T) (h2 : ∀ z, own D1.t c' r' sv' z → own D1.t D1.c D1.r D1.sv z ∨ w.heap.size ≤ z) (hk : Kept (own D1.t D1.c D1.r D1.sv) w w') :
    Pairs w0 w' x y { D1 with c := c', r := r', sv := sv' } D2 n := by
  obtain ⟨g1, g2⟩ := h.one.sight h1 h2 trivial hk
  have hs := h.kept.size
  refine ⟨g1, h.two.kept hk (fun z hz e => h.apart z (.inr (.inl (.inl e))) hz), h.b1, h.b2, ?_, ?_, h.f2, ?_⟩
  · intro z hz hy
    rcases g2 z hz with e | e
    · exact h.apart z e hy
    · have := h.two.lt z hy; omega
  · intro z hz
    rcases g2 z hz with e | e
    · exact h.f1 z e
    · omega
  · exact h.kept.trans hk (fun z hz e => by have := h.f1 z (.inr (.inl (.inl e))); omega)

/-- The copy's pair, from a pair that is there. -/
theorem pairs_copy {w0 w W1 W2 W : World} {x y : Nat} {D : Dat} {n : Nat} (h : Played w0 w none none x D n) (hn : n + 1 ≤ 5000) {t' c' r' : Nat} {sv' : Value} {b' : Nat} {ev' cv' : Value} (k1 : Kept Nil w W1) (hT : TabAt W1 none t' c' r' sv' D.T.copy) (o1 : ∀ z, own t' c' r' sv' z → w.heap.size ≤ z)
    (k2 : Kept Nil W1 W2) (hR : RefAt W2 none b' ev' cv' D.T.copy) (o2 : ∀ z, rown b' ev' cv' z → W1.heap.size ≤ z) (k3 : Kept Nil W2 W) (hy : y = W2.heap.size) (hB : TwoBlk W y t' b' none none) :
    Pairs w0 W x y D ⟨t', c', r', sv', b', ev', cv', none, none, D.T.copy, D.C⟩ (n + 1) := by
  have hh := h.two
  have s1 := k1.size
  have s2 := k2.size
  obtain ⟨g1, g2, g3, g4, g5⟩ := hh.good.copy (by have := h.bnd.live; omega)
  have kk := (k1.trans k2 (fun _ _ h => h)).trans k3 (fun _ _ h => h)
  have hfy : ∀ z, foot none none y ⟨t', c', r', sv', b', ev', cv', none, none, D.T.copy, D.C⟩ z → w.heap.size ≤ z := by
    rintro z (e | (e | e) | (e | e) | e)
    · omega
    · exact o1 z e
    · cases e
    · have := o2 z e; omega
    · cases e
    · obtain ⟨_, _, e, _⟩ := e; cases e
  have hs := h.kept.size
  refine ⟨hh.kept kk (fun _ _ => id), ⟨hB, .inl ((hT.kept' k2 (fun _ _ => id)).kept' k3 (fun _ _ => id)), trivial, hR.kept k3 (fun _ _ => id), trivial, g1, ?_, g4, .inl rfl⟩, h.bnd.more (Nat.le_succ _) hn, ⟨?_, ?_, Nat.zero_le _, ?_, hn⟩, ?_, ?_, ?_, ?_⟩
  · rintro z (hz | hz) (hr | hr)
    · have := hT.lt z hz; have := o2 z hr; omega
    · cases hr
    · cases hz
    · cases hr
  · show D.T.copy.live ≤ _; have := h.bnd.live; omega
  · have e : D.T.copy.births = D.T.copy.live := rfl
    show D.T.copy.births ≤ _; have := h.bnd.live; omega
  · show 1 ≤ _; omega
  · intro z hz hy'
    have := hh.lt z hz; have := hfy z hy'; omega
  · intro z hz
    rcases h.foot z hz with e | e | e
    · exact e
    · cases e
    · cases e
  · intro z hz
    have := hfy z hz; omega
  · exact (h.kept.mono (R' := Nil) (fun z _ e => by rcases e with e | e <;> cases e)).trans kk (fun _ _ h => h)

set_option maxRecDepth 100000 in
set_option maxHeartbeats 4000000 in
theorem tableTwo_walk (a0 : Option Addr) (cap0 : Nat) (z0 : List Stp) (a1 : Option Addr) (cap1 : Nat) (z1 : List Stp) (a2 : Option Addr) (cap2 : Nat) (z2 : List Stp) (w : World) (h0 : Stps w a0 z0) (m0 : z0.length ≤ maxLen) (h1 : Stps w a1 z1) (m1 : z1.length ≤ maxLen) (h2 : Stps w a2 z2) (m2 : z2.length ≤ maxLen) :
    Calls Try.prog 9 #[.slice a0 z0.length cap0, .slice a1 z1.length cap1, .slice a2 z2.length cap2] w fun e w' => e = .returned (.bool true) ∧ Kept Nil w w' := by
  unfold maxLen at m0 m1 m2
  by_cases hl : z0.length ≤ 400 ∧ z1.length ≤ 400 ∧ z2.length ≤ 400
  · obtain ⟨hl0, hl1, hl2⟩ := hl
    have hp := plays_any false a0 cap0 z0 none none ⟨0, 0, 0, 0⟩ w h0 hl0 trivial trivial (fun z e => by cases e) (fun _ => rfl) (fun z e => by rcases e with e | e <;> cases e)
    obtain ⟨n0, hn0⟩ : ∃ n, n = z0.length := ⟨_, rfl⟩
    obtain ⟨n1, hn1⟩ : ∃ n, n = z1.length := ⟨_, rfl⟩
    obtain ⟨n2, hn2⟩ : ∃ n, n = z2.length := ⟨_, rfl⟩
    rw [← hn0] at hl0 m0 hp ⊢
    rw [← hn1] at hl1 m1 ⊢
    rw [← hn2] at hl2 m2 ⊢
    unfold mptr at hp
    dsimp only [Option.map_none] at hp
    have b0 : ¬ (400 : Int) < (n0 : Int) := by omega
    have b1 : ¬ (400 : Int) < (n1 : Int) := by omega
    have b2 : ¬ (400 : Int) < (n2 : Int) := by omega
    have HS1 := hid h1
    have HS2 := hid h2
    have HN1 := hid hn1
    have HN2 := hid hn2
    clear h0 h1 h2 hn0 hn1 hn2
    go_enter Try.func9, Try.ntmps9
    go_wp2_with fail
    go_at_call 34
    refine hp.mono ?_
    clear hp
    rintro e w1 ⟨x, D, rfl, hp⟩
    have hh := hp.two
    obtain ⟨q1, q2, q3⟩ := hh.sizes
    have hlv := hp.bnd.live
    have hcx := copyZ none D.C D.t D.c D.r D.sv D.T w1.drew (hh.tab.kept (Kept.refl Nil w1).drew (fun _ _ => id)) trivial q1 (by omega) q3
    have hcr := fun W (hk : Kept Nil w1 W) => copy7_any none D.C D.b D.ev D.cv D.T W (hh.ref.kept hk (fun _ _ => id)) trivial hh.good (by omega) (by omega)
    have hS : ∀ W', Kept Nil w1 W' → (W'.cell? ⟨x, 0, none⟩ = some (.pointer (some ⟨D.t, 0, none⟩)) ∧ W'.cell? ⟨x, 1, none⟩ = some (.pointer (some ⟨D.b, 0, none⟩))) := by
      intro W' hk
      have a := Blk.kept hh.blk hk id
      exact ⟨a.cell 0, a.cell 1⟩
    have HP := hid hp
    have HCR := hid hcr
    have HS := hid hS
    clear hp hh hcr hS
    go_wp2_with fail
    refine wp_region_G (S := fun w' => w'.cell? ⟨x, 0, none⟩ = some (.pointer (some ⟨D.t, 0, none⟩)) ∧ w'.cell? ⟨x, 1, none⟩ = some (.pointer (some ⟨D.b, 0, none⟩))) (by kernel_rfl) 1000 (HS.out _ (Kept.refl _ w1).drew) (fun hS => ?_)
    refine wpAnyG_pure (i := 0) (oi := _) (v := ?_) rfl (by decide) (by kernel_rfl) (by kernel_rfl) (by kernel_rfl) (fun _ _ _ h => h) hS (Or.inl ⟨by kernel_rfl, ?_⟩) ?_
    rotate_left
    · intro w'; go_simp; with_reducible rfl
    simp only [Act.put, List.getElem_toArray, List.getElem_cons_succ, List.getElem_cons_zero, List.setIfInBounds_toArray, List.set_cons_zero, List.set_cons_succ]
    refine wpAnyG_pure (i := 1) (oi := _) (v := ?_) rfl (by decide) (by kernel_rfl) (by kernel_rfl) (by kernel_rfl) (fun _ _ _ h => h) hS (Or.inl ⟨by kernel_rfl, ?_⟩) ?_
    rotate_left
    · intro w'; go_simp; with_reducible rfl
    simp only [Act.put, List.getElem_toArray, List.getElem_cons_succ, List.getElem_cons_zero, List.setIfInBounds_toArray, List.set_cons_zero, List.set_cons_succ]
    refine wpAnyG_pure (i := 2) (oi := _) (v := ?_) rfl (by decide) (by kernel_rfl) (by kernel_rfl) (by kernel_rfl) (fun _ _ _ h => h) hS (Or.inl ⟨by kernel_rfl, ?_⟩) ?_
    rotate_left
    · intro w'; go_simp; with_reducible rfl
    simp only [Act.put, List.getElem_toArray, List.getElem_cons_succ, List.getElem_cons_zero, List.setIfInBounds_toArray, List.set_cons_zero, List.set_cons_succ]
    refine wpAnyG_take (i := 3) (oi := _) (v := ?_) rfl (by kernel_rfl) (by kernel_rfl) (by kernel_rfl) (by kernel_rfl) (fun _ _ _ h => h) hS (Or.inl ⟨by kernel_rfl, ?_⟩) ?_
    rotate_left
    · rintro w' ⟨h0, h1⟩; go_simp; with_reducible rfl
    simp only [Act.put, List.getElem_toArray, List.getElem_cons_succ, List.getElem_cons_zero, List.setIfInBounds_toArray, List.set_cons_zero, List.set_cons_succ]
    refine wpAnyG_pure (i := 5) (oi := _) (v := ?_) rfl (by decide) (by kernel_rfl) (by kernel_rfl) (by kernel_rfl) (fun _ _ _ h => h) hS (Or.inl ⟨by kernel_rfl, ?_⟩) ?_
    rotate_left
    · intro w'; go_simp; with_reducible rfl
    simp only [Act.put, List.getElem_toArray, List.getElem_cons_succ, List.getElem_cons_zero, List.setIfInBounds_toArray, List.set_cons_zero, List.set_cons_succ]
    refine wpAnyG_pure (i := 6) (oi := _) (v := ?_) rfl (by decide) (by kernel_rfl) (by kernel_rfl) (by kernel_rfl) (fun _ _ _ h => h) hS (Or.inl ⟨by kernel_rfl, ?_⟩) ?_
    rotate_left
    · intro w'; go_simp; with_reducible rfl
    simp only [Act.put, List.getElem_toArray, List.getElem_cons_succ, List.getElem_cons_zero, List.setIfInBounds_toArray, List.set_cons_zero, List.set_cons_succ]
    refine wpAnyG_pure (i := 7) (oi := _) (v := ?_) rfl (by decide) (by kernel_rfl) (by kernel_rfl) (by kernel_rfl) (fun _ _ _ h => h) hS (Or.inl ⟨by kernel_rfl, ?_⟩) ?_
    rotate_left
    · intro w'; go_simp; with_reducible rfl
    simp only [Act.put, List.getElem_toArray, List.getElem_cons_succ, List.getElem_cons_zero, List.setIfInBounds_toArray, List.set_cons_zero, List.set_cons_succ]
    refine wpAnyG_take (i := 8) (oi := _) (v := ?_) rfl (by kernel_rfl) (by kernel_rfl) (by kernel_rfl) (by kernel_rfl) (fun _ _ _ h => h) hS (Or.inl ⟨by kernel_rfl, ?_⟩) ?_
    rotate_left
    · rintro w' ⟨h0, h1⟩; go_simp; with_reducible rfl
    simp only [Act.put, List.getElem_toArray, List.getElem_cons_succ, List.getElem_cons_zero, List.setIfInBounds_toArray, List.set_cons_zero, List.set_cons_succ]
    refine wpAnyG_ready (rs := [4]) (by kernel_rfl) (by simp) (AllG.cons (o := _) rfl (by decide) (fun K hK => ?_) AllG.nil)
    go_simp
    refine hcx.mono ?_
    clear hcx
    rintro e w2 ⟨t', c', r', sv', rfl, hT2, ho2, -, hk2⟩
    have hk2' : Kept Nil w1 w2 := hk2.undrew.mono (fun z _ e => by cases e)
    refine hK.out _ _ (HS.out _ hk2') (fun hS => ?_)
    clear hK K
    have HT2 := hid hT2
    have HO2 := hid ho2
    have HK2 := hid hk2'
    clear hT2 ho2 hk2 hk2'
    refine wpAnyG_ready (rs := [9]) (by kernel_rfl) (by simp) (AllG.cons (o := _) rfl (by decide) (fun K hK => ?_) AllG.nil)
    go_simp
    refine (HCR.out w2 HK2.out).mono ?_
    rintro e w3 ⟨b', ev', cv', rfl, hR3, ho3, -, hk3⟩
    have hk3' : Kept Nil w2 w3 := hk3.mono (fun z _ e => by cases e)
    refine hK.out _ _ (HS.out _ (HK2.out.trans hk3' (fun _ _ h => h))) (fun hS => ?_)
    clear hK K
    have HR3 := hid hR3
    have HO3 := hid ho3
    have HK3 := hid hk3'
    clear hR3 ho3 hk3 hk3'
    refine wpAnyG_pure (i := 10) (oi := _) (v := ?_) rfl (by decide) (by kernel_rfl) (by kernel_rfl) (by kernel_rfl) (fun _ _ _ h => h) hS (Or.inl ⟨by kernel_rfl, ?_⟩) ?_
    rotate_left
    · intro w'; go_simp; with_reducible rfl
    simp only [Act.put, List.getElem_toArray, List.getElem_cons_succ, List.getElem_cons_zero, List.setIfInBounds_toArray, List.set_cons_zero, List.set_cons_succ]
    refine wpAnyG_ready (rs := [11]) (by kernel_rfl) (by simp) (AllG.cons (o := _) rfl (by decide) (fun K hK => ?_) AllG.nil)
    go_simp
    obtain ⟨W0, hW0⟩ : ∃ W0, W0 = w3.alloc (Obj.cells #[Value.pointer (some ⟨t', 0, none⟩), Value.pointer (some ⟨b', 0, none⟩), Value.pointer none, Value.pointer none] 57) := ⟨_, rfl⟩
    obtain ⟨y, hy⟩ : ∃ y, y = w3.heap.size := ⟨_, rfl⟩
    have k3 : Kept Nil w3 W0 := by rw [hW0]; exact (Kept.refl _ w3).alloc _
    have hB : TwoBlk W0 y t' b' none none := by rw [hW0, hy]; exact Blk.new w3 57 _
    have hpr := pairs_copy HP.out (by omega) HK2.out HT2.out HO2.out HK3.out HR3.out HO3.out k3 hy hB
    have hS0 := HS.out _ ((HK2.out.trans HK3.out (fun _ _ h => h)).trans k3 (fun _ _ h => h))
    rw [← hW0]
    refine hK.out _ _ hS0 (fun hS => ?_)
    clear hK K
    rw [← hy]
    have y0 : W0.cell? ⟨y, 0, none⟩ = some (.pointer (some ⟨t', 0, none⟩)) := Blk.cell hB 0
    have HPR := hid hpr
    clear hW0 hy k3 hB hpr hS0
    refine wpAnyG_ready (rs := [12]) (by kernel_rfl) (by simp) (AllG.cons (o := _) rfl (by decide) (fun K hK => ?_) AllG.nil)
    go_simp
    refine hK.out _ _ hS (fun hS => ?_)
    clear hK K
    try simp only [Act.put, List.getElem_toArray, List.getElem_cons_succ, List.getElem_cons_zero, List.setIfInBounds_toArray, List.set_cons_zero, List.set_cons_succ]
    refine wpAnyG_done (by kernel_rfl) ?_ _
    go_wp2_with fail
    go_loopw [10] (fun i W => ∃ k : Nat, k ≤ 400 ∧ i = .int .i64 k ∧ ∃ D1 D2, Pairs w W x y D1 D2 (n0 + 1 + 2 * k)) (fun i _ => n1 + n2 - (intOf i).toNat)
    case atStart => exact ⟨0, Nat.zero_le _, rfl, _, _, HPR.out⟩
    case round =>
      obtain ⟨k, hk, rfl, D1, D2, hp⟩ := hrel
      have HPP := hid hp
      clear hp HPR y0
      by_cases hk1 : k < n1
      ·
        have hk1' : (k : Int) < (n1 : Int) := by omega
        obtain ⟨s, hsk⟩ : ∃ s, z1[k]? = some s := ⟨_, List.getElem?_eq_getElem (by have := HN1.out; omega)⟩
        obtain ⟨sb, soff, hsa, hsl, c0, c1, c2, c3, c4⟩ := (HS1.out.kept HPP.out.kept (fun _ _ => id)).at hsk
        subst hsa
        have hd := does_any wr none none x D1 (n0 + 1 + 2 * k) s HPP.out.one HPP.out.b1 (by omega)
        rw [stp_agg] at hd
        have hx0 : (0 : Int) ≤ (k : Int) := by omega
        obtain ⟨s0, s1, s2, s3, s4⟩ := s
        dsimp only at c0 c1 c2 c3 c4 hd
        clear hsk
        by_cases hk2 : k < n2
        · have hk2' : (k : Int) < (n2 : Int) := by omega
          go_wp2_with fail
          go_at_call 36
          refine hd.mono ?_
          clear hd
          rintro e w3 hpost
          obtain ⟨rfl, D1', hp3⟩ := HPP.out.does (by omega) hpost
          have HP3 := hid hp3
          clear hpost hp3 c0 c1 c2 c3 c4
          obtain ⟨s', hsk'⟩ : ∃ s, z2[k]? = some s := ⟨_, List.getElem?_eq_getElem (by have := HN2.out; omega)⟩
          obtain ⟨sb', soff', hsa', hsl', d0, d1, d2, d3, d4⟩ := (HS2.out.kept HP3.out.kept (fun _ _ => id)).at hsk'
          subst hsa'
          have he := does_any w3 none none y D2 (n0 + 1 + 2 * k + 1) s' HP3.out.two HP3.out.b2 (by omega)
          rw [stp_agg] at he
          have hx1 : (0 : Int) ≤ (k : Int) := by omega
          obtain ⟨v0, v1, v2, v3, v4⟩ := s'
          dsimp only at d0 d1 d2 d3 d4 he
          clear hsk'
          go_wp2_with fail
          go_at_call 36
          refine he.mono ?_
          clear he
          rintro e w4 hpost
          obtain ⟨rfl, D2', hp4⟩ := HP3.out.swap.does (by omega) hpost
          have HP4 := hid hp4
          clear hpost hp4 d0 d1 d2 d3 d4
          go_wp2_with fail
          go_roundw
          case rel => exact ⟨k + 1, by omega, by go_num, _, _, HP4.out.swap.more (by omega) (by omega)⟩
          case measure => simp [intOf]; omega
        · have hk2' : ¬ (k : Int) < (n2 : Int) := by omega
          go_wp2_with fail
          go_at_call 36
          refine hd.mono ?_
          clear hd
          rintro e w3 hpost
          obtain ⟨rfl, D1', hp3⟩ := HPP.out.does (by omega) hpost
          have HP3 := hid hp3
          clear hpost hp3 c0 c1 c2 c3 c4
          go_wp2_with fail
          go_roundw
          case rel => exact ⟨k + 1, by omega, by go_num, _, _, HP3.out.more (by omega) (by omega)⟩
          case measure => simp [intOf]; omega
      · have hk1' : ¬ (k : Int) < (n1 : Int) := by omega
        by_cases hk2 : k < n2
        · have hk2' : (k : Int) < (n2 : Int) := by omega
          obtain ⟨s', hsk'⟩ : ∃ s, z2[k]? = some s := ⟨_, List.getElem?_eq_getElem (by have := HN2.out; omega)⟩
          obtain ⟨sb', soff', hsa', hsl', d0, d1, d2, d3, d4⟩ := (HS2.out.kept HPP.out.kept (fun _ _ => id)).at hsk'
          subst hsa'
          have he := does_any wr none none y D2 (n0 + 1 + 2 * k) s' HPP.out.two HPP.out.b2 (by omega)
          rw [stp_agg] at he
          have hx1 : (0 : Int) ≤ (k : Int) := by omega
          obtain ⟨v0, v1, v2, v3, v4⟩ := s'
          dsimp only at d0 d1 d2 d3 d4 he
          clear hsk'
          go_wp2_with fail
          go_at_call 36
          refine he.mono ?_
          clear he
          rintro e w4 hpost
          obtain ⟨rfl, D2', hp4⟩ := HPP.out.swap.does (by omega) hpost
          have HP4 := hid hp4
          clear hpost hp4 d0 d1 d2 d3 d4
          go_wp2_with fail
          go_roundw
          case rel => exact ⟨k + 1, by omega, by go_num, _, _, HP4.out.swap.more (by omega) (by omega)⟩
          case measure => simp [intOf]; omega
        · have hk2' : ¬ (k : Int) < (n2 : Int) := by omega
          obtain ⟨t1, c1, r1, sv1, b1, ev1, cv1, sp1, kp1, T1, C1⟩ := D1
          obtain ⟨t2, c2, r2, sv2, b2, ev2, cv2, sp2, kp2, T2, C2⟩ := D2
          have hS4 : ∀ W', Kept (fun z => own t1 c1 r1 sv1 z ∨ own t2 c2 r2 sv2 z) wr W' → (W'.cell? ⟨x, 0, none⟩ = some (.pointer (some ⟨t1, 0, none⟩)) ∧ W'.cell? ⟨x, 1, none⟩ = some (.pointer (some ⟨b1, 0, none⟩)) ∧ W'.cell? ⟨y, 0, none⟩ = some (.pointer (some ⟨t2, 0, none⟩)) ∧ W'.cell? ⟨y, 1, none⟩ = some (.pointer (some ⟨b2, 0, none⟩))) := by
            intro W' hk'
            have hh := HPP.out
            have a1 := Blk.kept hh.one.blk hk' (fun e => e.elim (fun e => hh.one.xp (.inl e)) (fun e => hh.apart x (.inl rfl) (.inr (.inl (.inl e)))))
            have a2 := Blk.kept hh.two.blk hk' (fun e => e.elim (fun e => hh.apart y (.inr (.inl (.inl e))) (.inl rfl)) (fun e => hh.two.xp (.inl e)))
            exact ⟨a1.cell 0, a1.cell 1, a2.cell 0, a2.cell 1⟩
          have HS4 := hid hS4
          have hsz1 := HPP.out.one.sizes
          have hsz2 := HPP.out.two.sizes
          have l1 : T1.log ≤ 15 := HPP.out.one.log
          have l2 : T2.log ≤ 15 := HPP.out.two.log
          have g1 : 3 ≤ T1.log := HPP.out.one.good.lo
          have g2 : 3 ≤ T2.log := HPP.out.two.good.lo
          have hsi := sightZ none C1 t1 c1 r1 sv1 T1 wr.drew (HPP.out.one.tab.kept (Kept.refl Nil wr).drew (fun _ _ => id)) trivial (by have := hsz1.1; (try dsimp only at this); omega)
          unfold sightV at hsi
          have HSI := hid hsi
          have HSZ1 := hid hsz1
          have HSZ2 := hid hsz2
          clear hsi hsz1 hsz2 hS4
          go_wp2_with fail
          refine wp_region_G (S := (fun w' => w'.cell? ⟨x, 0, none⟩ = some (.pointer (some ⟨t1, 0, none⟩)) ∧ w'.cell? ⟨x, 1, none⟩ = some (.pointer (some ⟨b1, 0, none⟩)) ∧ w'.cell? ⟨y, 0, none⟩ = some (.pointer (some ⟨t2, 0, none⟩)) ∧ w'.cell? ⟨y, 1, none⟩ = some (.pointer (some ⟨b2, 0, none⟩)))) (by kernel_rfl) 1000 (HS4.out _ (Kept.refl _ wr).drew) (fun hS => ?_)
          refine wpAnyG_pure (i := 0) (oi := _) (v := ?_) rfl (by decide) (by kernel_rfl) (by kernel_rfl) (by kernel_rfl) (fun _ _ _ h => h) hS (Or.inl ⟨by kernel_rfl, ?_⟩) ?_
          rotate_left
          · intro w'; go_simp; with_reducible rfl
          simp only [Act.put, List.getElem_toArray, List.getElem_cons_succ, List.getElem_cons_zero, List.setIfInBounds_toArray, List.set_cons_zero, List.set_cons_succ]
          refine wpAnyG_pure (i := 1) (oi := _) (v := ?_) rfl (by decide) (by kernel_rfl) (by kernel_rfl) (by kernel_rfl) (fun _ _ _ h => h) hS (Or.inl ⟨by kernel_rfl, ?_⟩) ?_
          rotate_left
          · intro w'; go_simp; with_reducible rfl
          simp only [Act.put, List.getElem_toArray, List.getElem_cons_succ, List.getElem_cons_zero, List.setIfInBounds_toArray, List.set_cons_zero, List.set_cons_succ]
          refine wpAnyG_pure (i := 2) (oi := _) (v := ?_) rfl (by decide) (by kernel_rfl) (by kernel_rfl) (by kernel_rfl) (fun _ _ _ h => h) hS (Or.inl ⟨by kernel_rfl, ?_⟩) ?_
          rotate_left
          · intro w'; go_simp; with_reducible rfl
          simp only [Act.put, List.getElem_toArray, List.getElem_cons_succ, List.getElem_cons_zero, List.setIfInBounds_toArray, List.set_cons_zero, List.set_cons_succ]
          refine wpAnyG_take (i := 3) (oi := _) (v := ?_) rfl (by kernel_rfl) (by kernel_rfl) (by kernel_rfl) (by kernel_rfl) (fun _ _ _ h => h) hS (Or.inl ⟨by kernel_rfl, ?_⟩) ?_
          rotate_left
          · rintro w' ⟨h0, h1, h2, h3⟩; go_simp; with_reducible rfl
          simp only [Act.put, List.getElem_toArray, List.getElem_cons_succ, List.getElem_cons_zero, List.setIfInBounds_toArray, List.set_cons_zero, List.set_cons_succ]
          refine wpAnyG_pure (i := 5) (oi := _) (v := ?_) rfl (by decide) (by kernel_rfl) (by kernel_rfl) (by kernel_rfl) (fun _ _ _ h => h) hS (Or.inl ⟨by kernel_rfl, ?_⟩) ?_
          rotate_left
          · intro w'; go_simp; with_reducible rfl
          simp only [Act.put, List.getElem_toArray, List.getElem_cons_succ, List.getElem_cons_zero, List.setIfInBounds_toArray, List.set_cons_zero, List.set_cons_succ]
          refine wpAnyG_pure (i := 6) (oi := _) (v := ?_) rfl (by decide) (by kernel_rfl) (by kernel_rfl) (by kernel_rfl) (fun _ _ _ h => h) hS (Or.inl ⟨by kernel_rfl, ?_⟩) ?_
          rotate_left
          · intro w'; go_simp; with_reducible rfl
          simp only [Act.put, List.getElem_toArray, List.getElem_cons_succ, List.getElem_cons_zero, List.setIfInBounds_toArray, List.set_cons_zero, List.set_cons_succ]
          refine wpAnyG_pure (i := 7) (oi := _) (v := ?_) rfl (by decide) (by kernel_rfl) (by kernel_rfl) (by kernel_rfl) (fun _ _ _ h => h) hS (Or.inl ⟨by kernel_rfl, ?_⟩) ?_
          rotate_left
          · intro w'; go_simp; with_reducible rfl
          simp only [Act.put, List.getElem_toArray, List.getElem_cons_succ, List.getElem_cons_zero, List.setIfInBounds_toArray, List.set_cons_zero, List.set_cons_succ]
          refine wpAnyG_take (i := 8) (oi := _) (v := ?_) rfl (by kernel_rfl) (by kernel_rfl) (by kernel_rfl) (by kernel_rfl) (fun _ _ _ h => h) hS (Or.inl ⟨by kernel_rfl, ?_⟩) ?_
          rotate_left
          · rintro w' ⟨h0, h1, h2, h3⟩; go_simp; with_reducible rfl
          simp only [Act.put, List.getElem_toArray, List.getElem_cons_succ, List.getElem_cons_zero, List.setIfInBounds_toArray, List.set_cons_zero, List.set_cons_succ]
          refine wpAnyG_ready (rs := [4]) (by kernel_rfl) (by simp) (AllG.cons (o := _) rfl (by decide) (fun K hK => ?_) AllG.nil)
          go_simp
          refine HSI.out.mono ?_
          rintro e w5 ⟨csv, esv, rfl, f1, o1, f2, o2, ⟨ca, ra, sva, hT2, hO2⟩, -, hk5⟩
          have hp5 := (HPP.out.on (Kept.refl Nil wr).drew).sight hT2 hO2 hk5
          have hkk5 := (hk5.undrew.mono (R' := fun z => own t1 c1 r1 sv1 z ∨ own t2 c2 r2 sv2 z) (fun _ _ e => .inl e))
          refine hK.out _ _ (HS4.out _ hkk5) (fun hS => ?_)
          clear hK K
          have hs7 := sight7_any none b1 ev1 cv1 T1 w5 hp5.one.ref g1 l1 (by have := HSZ1.out.1; (try dsimp only at this); omega) (by have := HSZ1.out.2.1; (try dsimp only at this); omega)
          have HP5 := hid hp5
          have HG1 := hid f1
          have HG2 := hid f2
          have HK5 := hid hkk5
          have HS7 := hid hs7
          clear hT2 hO2 hp5 f1 f2 o1 o2 hk5 hkk5 hs7
          refine wpAnyG_ready (rs := [9]) (by kernel_rfl) (by simp) (AllG.cons (o := _) rfl (by decide) (fun K hK => ?_) AllG.nil)
          go_simp
          refine HS7.out.mono ?_
          rintro e w6 ⟨csv2, esv2, rfl, f3, o3, f4, o4, hk6⟩
          refine hK.out _ _ (HS4.out _ (HK5.out.trans hk6 (fun _ _ h => h.elim))) (fun hS => ?_)
          clear hK K
          have hss := sight_same T1.log (widthOf T1.log) T1.live T1.births T1.made csv esv csv2 esv2 T1.cells T1.ents w6 (by have := HSZ1.out.1; (try dsimp only at this); omega) (by have := HSZ1.out.2.1; (try dsimp only at this); omega) (HG2.out.kept hk6 (fun _ _ => id)) f4 (HG1.out.kept hk6 (fun _ _ => id)) f3
          unfold sightV at hss
          have HSS := hid hss
          have HK6 := hid hk6
          clear hss f3 o3 f4 o4 hk6
          refine wpAnyG_ready (rs := [10]) (by kernel_rfl) (by simp) (AllG.cons (o := _) rfl (by decide) (fun K hK => ?_) AllG.nil)
          go_simp
          refine HSS.out.mono ?_
          rintro e w7 ⟨rfl, hk7⟩
          have HK7 := hid ((HK5.out.trans HK6.out (fun _ _ h => h.elim)).trans hk7 (fun _ _ h => h.elim))
          refine hK.out _ _ (HS4.out _ HK7.out) (fun hS => ?_)
          clear hK K
          have HP7 := hid ((HP5.out.on HK6.out).on hk7).swap
          clear hk7
          have hsi := sightZ none C2 t2 c2 r2 sv2 T2 w7 HP7.out.one.tab trivial (by have := HSZ2.out.1; (try dsimp only at this); omega)
          unfold sightV at hsi
          have HSJ := hid hsi
          clear hsi
          refine wpAnyG_pure (i := 11) (oi := _) (v := ?_) rfl (by decide) (by kernel_rfl) (by kernel_rfl) (by kernel_rfl) (fun _ _ _ h => h) hS (Or.inl ⟨by kernel_rfl, ?_⟩) ?_
          rotate_left
          · intro w'; go_simp; with_reducible rfl
          simp only [Act.put, List.getElem_toArray, List.getElem_cons_succ, List.getElem_cons_zero, List.setIfInBounds_toArray, List.set_cons_zero, List.set_cons_succ]
          refine wpAnyG_pure (i := 12) (oi := _) (v := ?_) rfl (by decide) (by kernel_rfl) (by kernel_rfl) (by kernel_rfl) (fun _ _ _ h => h) hS (Or.inl ⟨by kernel_rfl, ?_⟩) ?_
          rotate_left
          · intro w'; go_simp; with_reducible rfl
          simp only [Act.put, List.getElem_toArray, List.getElem_cons_succ, List.getElem_cons_zero, List.setIfInBounds_toArray, List.set_cons_zero, List.set_cons_succ]
          refine wpAnyG_pure (i := 13) (oi := _) (v := ?_) rfl (by decide) (by kernel_rfl) (by kernel_rfl) (by kernel_rfl) (fun _ _ _ h => h) hS (Or.inl ⟨by kernel_rfl, ?_⟩) ?_
          rotate_left
          · intro w'; go_simp; with_reducible rfl
          simp only [Act.put, List.getElem_toArray, List.getElem_cons_succ, List.getElem_cons_zero, List.setIfInBounds_toArray, List.set_cons_zero, List.set_cons_succ]
          refine wpAnyG_pure (i := 14) (oi := _) (v := ?_) rfl (by decide) (by kernel_rfl) (by kernel_rfl) (by kernel_rfl) (fun _ _ _ h => h) hS (Or.inl ⟨by kernel_rfl, ?_⟩) ?_
          rotate_left
          · intro w'; go_simp; with_reducible rfl
          simp only [Act.put, List.getElem_toArray, List.getElem_cons_succ, List.getElem_cons_zero, List.setIfInBounds_toArray, List.set_cons_zero, List.set_cons_succ]
          refine wpAnyG_take (i := 15) (oi := _) (v := ?_) rfl (by kernel_rfl) (by kernel_rfl) (by kernel_rfl) (by kernel_rfl) (fun _ _ _ h => h) hS (Or.inl ⟨by kernel_rfl, ?_⟩) ?_
          rotate_left
          · rintro w' ⟨h0, h1, h2, h3⟩; go_simp; with_reducible rfl
          simp only [Act.put, List.getElem_toArray, List.getElem_cons_succ, List.getElem_cons_zero, List.setIfInBounds_toArray, List.set_cons_zero, List.set_cons_succ]
          refine wpAnyG_pure (i := 17) (oi := _) (v := ?_) rfl (by decide) (by kernel_rfl) (by kernel_rfl) (by kernel_rfl) (fun _ _ _ h => h) hS (Or.inl ⟨by kernel_rfl, ?_⟩) ?_
          rotate_left
          · intro w'; go_simp; with_reducible rfl
          simp only [Act.put, List.getElem_toArray, List.getElem_cons_succ, List.getElem_cons_zero, List.setIfInBounds_toArray, List.set_cons_zero, List.set_cons_succ]
          refine wpAnyG_pure (i := 18) (oi := _) (v := ?_) rfl (by decide) (by kernel_rfl) (by kernel_rfl) (by kernel_rfl) (fun _ _ _ h => h) hS (Or.inl ⟨by kernel_rfl, ?_⟩) ?_
          rotate_left
          · intro w'; go_simp; with_reducible rfl
          simp only [Act.put, List.getElem_toArray, List.getElem_cons_succ, List.getElem_cons_zero, List.setIfInBounds_toArray, List.set_cons_zero, List.set_cons_succ]
          refine wpAnyG_pure (i := 19) (oi := _) (v := ?_) rfl (by decide) (by kernel_rfl) (by kernel_rfl) (by kernel_rfl) (fun _ _ _ h => h) hS (Or.inl ⟨by kernel_rfl, ?_⟩) ?_
          rotate_left
          · intro w'; go_simp; with_reducible rfl
          simp only [Act.put, List.getElem_toArray, List.getElem_cons_succ, List.getElem_cons_zero, List.setIfInBounds_toArray, List.set_cons_zero, List.set_cons_succ]
          refine wpAnyG_take (i := 20) (oi := _) (v := ?_) rfl (by kernel_rfl) (by kernel_rfl) (by kernel_rfl) (by kernel_rfl) (fun _ _ _ h => h) hS (Or.inl ⟨by kernel_rfl, ?_⟩) ?_
          rotate_left
          · rintro w' ⟨h0, h1, h2, h3⟩; go_simp; with_reducible rfl
          simp only [Act.put, List.getElem_toArray, List.getElem_cons_succ, List.getElem_cons_zero, List.setIfInBounds_toArray, List.set_cons_zero, List.set_cons_succ]
          refine wpAnyG_ready (rs := [16]) (by kernel_rfl) (by simp) (AllG.cons (o := _) rfl (by decide) (fun K hK => ?_) AllG.nil)
          go_simp
          refine HSJ.out.mono ?_
          rintro e w8 ⟨csv3, esv3, rfl, f5, o5, f6, o6, ⟨cb, rb, svb, hT8, hO8⟩, -, hk8⟩
          have hp8 := HP7.out.sight hT8 hO8 hk8
          have HK8 := hid (HK7.out.trans (hk8.mono (R' := fun z => own t1 c1 r1 sv1 z ∨ own t2 c2 r2 sv2 z) (fun _ _ e => .inr e)) (fun _ _ h => h))
          refine hK.out _ _ (HS4.out _ HK8.out) (fun hS => ?_)
          clear hK K
          have hs7 := sight7_any none b2 ev2 cv2 T2 w8 hp8.one.ref g2 l2 (by have := HSZ2.out.1; (try dsimp only at this); omega) (by have := HSZ2.out.2.1; (try dsimp only at this); omega)
          have HP8 := hid hp8
          have HG5 := hid f5
          have HG6 := hid f6
          have HS8 := hid hs7
          clear hT8 hO8 hp8 f5 f6 o5 o6 hk8 hs7
          refine wpAnyG_ready (rs := [21]) (by kernel_rfl) (by simp) (AllG.cons (o := _) rfl (by decide) (fun K hK => ?_) AllG.nil)
          go_simp
          refine HS8.out.mono ?_
          rintro e w9 ⟨csv4, esv4, rfl, f7, o7, f8, o8, hk9⟩
          refine hK.out _ _ (HS4.out _ (HK8.out.trans hk9 (fun _ _ h => h.elim))) (fun hS => ?_)
          clear hK K
          have hss := sight_same T2.log (widthOf T2.log) T2.live T2.births T2.made csv3 esv3 csv4 esv4 T2.cells T2.ents w9 (by have := HSZ2.out.1; (try dsimp only at this); omega) (by have := HSZ2.out.2.1; (try dsimp only at this); omega) (HG6.out.kept hk9 (fun _ _ => id)) f8 (HG5.out.kept hk9 (fun _ _ => id)) f7
          unfold sightV at hss
          have HSSB := hid hss
          have HK9 := hid hk9
          clear hss f7 o7 f8 o8 hk9
          refine wpAnyG_ready (rs := [22]) (by kernel_rfl) (by simp) (AllG.cons (o := _) rfl (by decide) (fun K hK => ?_) AllG.nil)
          go_simp
          refine HSSB.out.mono ?_
          rintro e w10 ⟨rfl, hk10⟩
          have HK10 := hid ((HK8.out.trans HK9.out (fun _ _ h => h.elim)).trans hk10 (fun _ _ h => h.elim))
          refine hK.out _ _ (HS4.out _ HK10.out) (fun hS => ?_)
          clear hK K
          have HP10 := hid ((HP8.out.on HK9.out).on hk10)
          clear hk10
          refine wpAnyG_pure (i := 23) (oi := _) (v := ?_) rfl (by decide) (by kernel_rfl) (by kernel_rfl) (by kernel_rfl) (fun _ _ _ h => h) hS (Or.inl ⟨by kernel_rfl, ?_⟩) ?_
          rotate_left
          · intro w'; go_simp; with_reducible rfl
          simp only [Act.put, List.getElem_toArray, List.getElem_cons_succ, List.getElem_cons_zero, List.setIfInBounds_toArray, List.set_cons_zero, List.set_cons_succ]
          refine wpAnyG_pure (i := 24) (oi := _) (v := ?_) rfl (by decide) (by kernel_rfl) (by kernel_rfl) (by kernel_rfl) (fun _ _ _ h => h) hS (Or.inl ⟨by kernel_rfl, ?_⟩) ?_
          rotate_left
          · intro w'; go_simp; with_reducible rfl
          simp only [Act.put, List.getElem_toArray, List.getElem_cons_succ, List.getElem_cons_zero, List.setIfInBounds_toArray, List.set_cons_zero, List.set_cons_succ]
          refine wpAnyG_ready (rs := [25]) (by kernel_rfl) (by simp) (AllG.cons (o := _) rfl (by decide) (fun K hK => ?_) AllG.nil)
          go_simp
          refine (awake_any w10).mono ?_
          rintro e w11 ⟨rfl, hk11⟩
          refine hK.out _ _ (HS4.out _ (HK10.out.trans hk11 (fun _ _ h => h.elim))) (fun hS => ?_)
          clear hK K
          have HP11 := hid (HP10.out.on hk11)
          clear hk11
          refine wpAnyG_pure (i := 26) (oi := _) (v := ?_) rfl (by decide) (by kernel_rfl) (by kernel_rfl) (by kernel_rfl) (fun _ _ _ h => h) hS (Or.inl ⟨by kernel_rfl, ?_⟩) ?_
          rotate_left
          · intro w'; go_simp; with_reducible rfl
          simp only [Act.put, List.getElem_toArray, List.getElem_cons_succ, List.getElem_cons_zero, List.setIfInBounds_toArray, List.set_cons_zero, List.set_cons_succ]
          refine wpAnyG_ready (rs := [27]) (by kernel_rfl) (by simp) (AllG.cons (o := _) rfl (by decide) (fun K hK => ?_) AllG.nil)
          go_simp
          refine hK.out _ _ hS (fun hS => ?_)
          clear hK K
          try simp only [Act.put, List.getElem_toArray, List.getElem_cons_succ, List.getElem_cons_zero, List.setIfInBounds_toArray, List.set_cons_zero, List.set_cons_succ]
          refine wpAnyG_done (by kernel_rfl) ?_ _
          go_wp2_with fail
          refine bodyPost_ret (v := .bool true) (by simp [results, Try.results9, go_sem]) rfl ?_
          exact ⟨rfl, HP11.out.kept⟩
  · generalize hn0 : z0.length = n0 at *
    generalize hn1 : z1.length = n1 at *
    generalize hn2 : z2.length = n2 at *
    clear hn0 hn1 hn2 h0 h1 h2
    by_cases b0 : (400 : Int) < (n0 : Int)
    · by_cases b1 : (400 : Int) < (n1 : Int)
      all_goals
        by_cases b2 : (400 : Int) < (n2 : Int)
        all_goals
          go_enter Try.func9, Try.ntmps9
          go_wp2_with (go_at_call 21; refine (awake_any w).mono ?_; rintro e w1 ⟨rfl, hk1⟩)
          go_ret
          exact ⟨rfl, hk1⟩
    by_cases b1 : (400 : Int) < (n1 : Int)
    · by_cases b2 : (400 : Int) < (n2 : Int)
      all_goals
        go_enter Try.func9, Try.ntmps9
        go_wp2_with (go_at_call 21; refine (awake_any w).mono ?_; rintro e w1 ⟨rfl, hk1⟩)
        go_ret
        exact ⟨rfl, hk1⟩
    by_cases b2 : (400 : Int) < (n2 : Int)
    · go_enter Try.func9, Try.ntmps9
      go_wp2_with (go_at_call 21; refine (awake_any w).mono ?_; rintro e w1 ⟨rfl, hk1⟩)
      go_ret
      exact ⟨rfl, hk1⟩
    · exact absurd ⟨by omega, by omega, by omega⟩ hl
end Go.Proofs.Ytbbkljgeddjghaa
