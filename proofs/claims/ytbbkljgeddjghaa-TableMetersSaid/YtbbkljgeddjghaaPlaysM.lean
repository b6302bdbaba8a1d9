/-
  What is proved: the walk of lexiconlaw7's plays: it answers true, and both tables are the same model table (with meters).
-/
import Derived.Test.YtbbkljgeddjghaaTwoN
import Derived.Test.YtbbkljgeddjghaaSteps
namespace Go.Proofs.Ytbbkljgeddjghaa
open Go.RowKit Go.Lx Go.Shelf
set_option linter.unusedVariables false
set_option linter.unusedSimpArgs false

/-- What plays leaves. -/
structure Played (w0 w : World) (m rm : Option Nat) (x : Nat) (D : Dat) (n : Nat) : Prop where
  two : TwoAt w m rm x D
  bnd : Bnd D.T n
  foot : ∀ z, foot m rm x D z → w0.heap.size ≤ z ∨ m = some z ∨ rm = some z
  kept : Kept (fun z => m = some z ∨ rm = some z) w0 w
theorem Played.on {w0 w w' : World} {m rm : Option Nat} {x : Nat} {D : Dat} {n : Nat} (h : Played w0 w m rm x D n) (hk : Kept Nil w w') : Played w0 w' m rm x D n :=
  ⟨h.two.kept hk (fun _ _ => id), h.bnd, h.foot, h.kept.trans hk (fun _ _ h => h.elim)⟩
theorem Played.does {w0 w w' : World} {m rm : Option Nat} {x : Nat} {D : Dat} {n : Nat} {e : Ending} (h : Played w0 w m rm x D n) (hd : DoesPost w m rm x D n e w') : e = .returned (.bool true) ∧ ∃ D', Played w0 w' m rm x D' (n + 1) := by
  obtain ⟨h1, D', h2, h3, h4, h5⟩ := hd
  refine ⟨h1, D', h2, h3, fun z hz => ?_, h.kept.trans h5 (fun z hz hf => ?_)⟩
  · rcases h4 z hz with e | e
    · exact h.foot z e
    · have := h.kept.size; exact .inl (by omega)
  · rcases h.foot z hf with e | e
    · omega
    · exact e
/-- What Sight leaves of them. -/
theorem Played.sight {w0 w w' : World} {m rm : Option Nat} {x : Nat} {D : Dat} {n : Nat} (h : Played w0 w m rm x D n) {c' r' : Nat} {sv' : Value} (h1 : TabAt w' m D.t c' r' sv' D.T) (h2 : ∀ z, own D.t c' r' sv' z → own D.t D.c D.r D.sv z ∨ w.heap.size ≤ z) (hM : Mt w' m D.C) (hk : Kept (own D.t D.c D.r D.sv) w w') :
    Played w0 w' m rm x { D with c := c', r := r', sv := sv' } n := by
  have hh := h.two
  have hkr : ∀ z, rfoot rm D z → ¬ own D.t D.c D.r D.sv z := fun z hz e => hh.apart z (.inl e) hz
  refine ⟨⟨Blk.kept hh.blk hk (fun e => hh.xp (.inl e)), .inl h1, hM, hh.ref.kept hk (fun z hz => hkr z (.inl hz)), hh.rmt.kept hk (fun z hz => hkr z (.inr hz)), hh.good, ?_, hh.log, ?_⟩, h.bnd, ?_, ?_⟩
  · rintro z (hz | hz) hr
    · rcases h2 z hz with hz | hz
      · exact hh.apart z (.inl hz) hr
      · have := hh.rlt z hr; omega
    · exact hh.apart z (.inr hz) hr
  · refine hh.seek.imp id ?_
    rintro ⟨s, k, e1, e2, e3, e4⟩
    obtain ⟨f1, f2⟩ := sfoot_of e1 e2
    exact ⟨s, k, e1, e2, e3.kept hk (fun e => (hh.slt s f1).2.1 (.inl e)) (fun e => (hh.slt k f2).2.1 (.inl e)), h1.tc.symm⟩
  · rintro z (e | (e | e) | e | e)
    · exact h.foot z (.inl e)
    · rcases h2 z e with e | e
      · exact h.foot z (.inr (.inl (.inl e)))
      · have := h.kept.size; exact .inl (by omega)
    · exact h.foot z (.inr (.inl (.inr e)))
    · exact h.foot z (.inr (.inr (.inl e)))
    · exact h.foot z (.inr (.inr (.inr e)))
  · refine h.kept.trans hk (fun z hz e => ?_)
    rcases h.foot z (.inr (.inl (.inl e))) with e | e
    · omega
    · exact e

theorem _root_.Go.Lx.Stps.kept' {R : Nat → Prop} {w w' : World} {a : Option Addr} {ss : List Stp} (h : Stps w a ss) (hk : Kept R w w') (hR : ∀ b off, a = some ⟨b, off, none⟩ → ¬ R b) : Stps w' a ss := by
  refine ⟨h.wf, ?_⟩
  rcases h.at_ with h0 | ⟨b, off, h1, h2, h3⟩
  · exact .inl h0
  · exact .inr ⟨b, off, h1, Nat.lt_of_lt_of_le h2 hk.size, fun i s hs j v hv => (World.cell?_of_block (a := ⟨b, off + i * 5 + j, none⟩) (hk.block b h2 (hR b off h1))).trans (h3 i s hs j v hv)⟩
theorem stp_agg (s : Stp) : s.agg = .agg #[.int .i64 s.kind, .int .i64 s.hash, .int .i64 s.key, .int .i64 s.value, .int .i64 s.n] := rfl

/-- The beginning: both tables are new. -/
theorem played_new (zero : Bool) (m rm : Option Nat) (C : Cnt) (w w1 w2 W : World) (t c r b x : Nat) (ev cv : Value) (h1 : Kept (Mr m) w w1) (h2 : Kept (fun z => rm = some z) w1 w2) (ht : w.heap.size ≤ t) (hc : w.heap.size ≤ c) (hr : w.heap.size ≤ r)
    (hT : TabAt w1 m t c r (.slice none 0 0) Tab.new) (hM : Mt w1 m C) (hF : RefAt w2 rm b ev cv Tab.new) (ho : ∀ z, rown b ev cv z → w1.heap.size ≤ z) (hRM : RMt w2 rm C) (hmr : ∀ z, m = some z → rm ≠ some z) (hml : ∀ z, m = some z → z < w.heap.size) (hrl : ∀ z, rm = some z → z < w.heap.size)
    (hx : x = w2.heap.size) (hk : Kept Nil w2 W) (hX : TwoBlk W x t b none none) : Played w W m rm x ⟨t, c, r, .slice none 0 0, b, ev, cv, none, none, Tab.new, C⟩ 0 := by
  have s1 := h1.size
  have s2 := h2.size
  have hol : ∀ z, own t c r (.slice none 0 0) z → w.heap.size ≤ z := by
    rintro z (e | e | e | e)
    · omega
    · omega
    · omega
    · cases e
  refine ⟨⟨hX, .inl ((hT.kept' h2 (fun z hz e => by have := hrl z e; have := hol z hz; omega)).kept' hk (fun _ _ => id)), (hM.kept h2 (fun z hz e => hmr z hz e)).kept hk (fun _ _ => id), hF.kept hk (fun _ _ => id), hRM.kept hk (fun _ _ => id), GoodT.new, ?_, by show 3 ≤ 15; omega, .inl rfl⟩, ⟨Nat.le_refl _, Nat.le_refl _, Nat.le_refl _, Nat.le_refl _, by omega⟩, ?_, ?_⟩
  · rintro z (hz | hz) (hr' | hr')
    · have := hT.lt z hz; have := ho z hr'; omega
    · have := hol z hz; have := hrl z hr'; omega
    · have := hml z hz; have := ho z hr'; omega
    · exact hmr z hz hr'
  · rintro z (e | (e | e) | (e | e) | e)
    · exact .inl (by omega)
    · exact .inl (hol z e)
    · exact .inr (.inl e)
    · have := ho z e; exact .inl (by omega)
    · exact .inr (.inr e)
    · obtain ⟨_, _, e, _⟩ := e; cases e
  · exact ((h1.mono (R' := fun z => m = some z ∨ rm = some z) (fun z _ e => .inl e)).trans h2 (fun z _ e => .inr e)).trans hk (fun _ _ h => h.elim)

theorem played_zero (rm : Option Nat) (C : Cnt) (w w1 w2 W : World) (t b x : Nat) (ev cv : Value) (h1 : Kept Nil w w1) (h2 : Kept (fun z => rm = some z) w1 w2)
    (hF : RefAt w2 rm b ev cv Tab.new) (ho : ∀ z, rown b ev cv z → w1.heap.size ≤ z) (hRM : RMt w2 rm C) (hrl : ∀ z, rm = some z → z < w.heap.size)
    (hx : x = w2.heap.size) (hk : Kept Nil w2 W) (hX : TwoBlk W x t b none none) (hZ : ZeroAt W t) (htl : w2.heap.size ≤ t) : Played w W none rm x ⟨t, t, t, .slice none 0 0, b, ev, cv, none, none, Tab.new, C⟩ 0 := by
  have s1 := h1.size
  have s2 := h2.size
  have hol : ∀ z, own t t t (.slice none 0 0) z → w2.heap.size ≤ z := by
    rintro z (e | e | e | e)
    · omega
    · omega
    · omega
    · cases e
  refine ⟨⟨hX, .inr ⟨rfl, rfl, rfl, rfl, rfl, hZ⟩, trivial, hF.kept hk (fun _ _ => id), hRM.kept hk (fun _ _ => id), GoodT.new, ?_, by show 3 ≤ 15; omega, .inl rfl⟩, ⟨Nat.le_refl _, Nat.le_refl _, Nat.le_refl _, Nat.le_refl _, by omega⟩, ?_, ?_⟩
  · rintro z (hz | hz) (hr' | hr')
    · have := hF.lt z hr'; have := hol z hz; omega
    · have := hol z hz; have := hrl z hr'; omega
    · cases hz
    · cases hz
  · rintro z (e | (e | e) | (e | e) | e)
    · exact .inl (by omega)
    · have := hol z e; exact .inl (by omega)
    · cases e
    · have := ho z e; exact .inl (by omega)
    · exact .inr (.inr e)
    · obtain ⟨_, _, e, _⟩ := e; cases e
  · exact ((h1.mono (R' := fun z => none = some z ∨ rm = some z) (fun _ _ h => h.elim)).trans h2 (fun z _ e => .inr e)).trans hk (fun _ _ h => h.elim)

/-- What plays hands back. -/
def PlaysPost (w : World) (m rm : Option Nat) (n : Nat) (e : Ending) (w' : World) : Prop := ∃ x D, e = .returned (.tuple #[.pointer (some ⟨x, 0, none⟩), .bool true]) ∧ Played w w' m rm x D n

set_option maxRecDepth 100000 in
set_option maxHeartbeats 4000000 in
theorem plays_any (zero : Bool) (a : Option Addr) (cap : Nat) (ss : List Stp) (m rm : Option Nat) (C : Cnt) (w : World) (hs : Stps w a ss) (hl : ss.length ≤ 400) (hm : Mt w m C) (hrm : RMt w rm C) (hmr : ∀ z, m = some z → rm ≠ some z) (hz : zero = true → m = none) (hsm : ss ≠ [] → ∀ z, (m = some z ∨ rm = some z) → ∀ b off, a = some ⟨b, off, none⟩ → b ≠ z) :
    Calls Try.prog 34 #[.bool zero, .slice a ss.length cap, mptr m, mptr rm] w (PlaysPost w m rm ss.length) := by
  obtain ⟨pm, hpm⟩ : ∃ pm, mptr m = .pointer pm := ⟨_, rfl⟩
  obtain ⟨pr, hpr⟩ : ∃ pr, mptr rm = .pointer pr := ⟨_, rfl⟩
  have hnew := tabNew_any m C w hm
  have hnew7 := fun W (hk : Kept (Mr m) w W) => new7_any rm C W (hrm.kept hk (fun z hz e => hmr z e hz))
  rw [hpm] at hnew
  rw [hpr] at hnew7
  have HN7 := hid hnew7
  have HS := hid hs
  have HMR := hid hmr
  have HML := hid hm.lt
  have HRL := hid hrm.lt'
  have HZ := hid hz
  have HSM := hid hsm
  obtain ⟨q, hq⟩ : ∃ q, q = ss.length := ⟨_, rfl⟩
  have HQ := hid hq
  rw [← hq] at hl
  rw [hpm, hpr, ← hq]
  clear hnew7 hs hmr hm hrm hz hsm hq hpm hpr
  go_enter Try.func34, Try.ntmps34
  go_wp2_with fail
  go_at_call 72
  refine hnew.mono ?_
  clear hnew
  rintro e w1 ⟨t, c, r, rfl, ht, hc, hr, hT, hM, hk1⟩
  have HT := hid hT
  have HM := hid hM
  have HK1 := hid hk1
  clear hT hM hk1
  go_wp2_with fail
  go_at_call 46
  refine (HN7.out _ HK1.out).mono ?_
  rintro e w2 ⟨b, ev, cv, rfl, hF, ho, hRM, hk2⟩
  have HF := hid hF
  have HO := hid ho
  have HRM := hid hRM
  have HK2 := hid hk2
  clear hF ho hRM hk2
  obtain ⟨x, hx⟩ : ∃ x, x = w2.heap.size := ⟨_, rfl⟩
  cases zero
  focus
    go_wp2_with fail
    rw [← hx]
    obtain ⟨W0, hW0⟩ : ∃ W0, W0 = w2.alloc (Obj.cells #[Value.pointer (some ⟨t, 0, none⟩), Value.pointer (some ⟨b, 0, none⟩), Value.pointer none, Value.pointer none] 57) := ⟨_, rfl⟩
    rw [← hW0]
    have HP : Hid (∃ D, Played w W0 m rm x D 0) := by
      have hk : Kept Nil w2 W0 := by rw [hW0]; exact (Kept.refl _ w2).alloc _
      have hX : TwoBlk W0 x t b none none := by rw [hW0, hx]; exact Blk.new w2 57 _
      exact hid ⟨_, played_new false m rm C.table w w1 w2 W0 t c r b x ev cv HK1.out HK2.out ht hc hr HT.out HM.out HF.out HO.out HRM.out HMR.out HML.out HRL.out hx hk hX⟩
    clear hW0 hx
  rotate_left
  focus
    go_wp2_with fail
    rw [← hx]
    obtain ⟨W0, hW0⟩ : ∃ W0, W0 = (w2.alloc (Obj.cells #[Value.pointer (some ⟨x + 1, 0, none⟩), Value.pointer (some ⟨b, 0, none⟩), Value.pointer none, Value.pointer none] 57)).alloc (Obj.cells #[Value.pointer none, Value.slice none 0 0, Value.pointer none, Value.int IntKind.i64 0, Value.int IntKind.i64 0, Value.int IntKind.i64 0, Value.int IntKind.i64 0] 146) := ⟨_, rfl⟩
    rw [← hW0]
    have HP : Hid (∃ D, Played w W0 m rm x D 0) := by
      have hk : Kept Nil w2 W0 := by rw [hW0]; exact ((Kept.refl _ w2).alloc _).alloc _
      have hX : TwoBlk W0 x (x + 1) b none none := by rw [hW0, hx]; exact (Blk.new w2 57 _).alloc _
      have hZ : ZeroAt W0 (x + 1) := by
        have h := Blk.new (w2.alloc (Obj.cells #[Value.pointer (some ⟨x + 1, 0, none⟩), Value.pointer (some ⟨b, 0, none⟩), Value.pointer none, Value.pointer none] 57)) 146 [Value.pointer none, Value.slice none 0 0, Value.pointer none, Value.int IntKind.i64 0, Value.int IntKind.i64 0, Value.int IntKind.i64 0, Value.int IntKind.i64 0]
        rw [show (w2.alloc (Obj.cells #[Value.pointer (some ⟨x + 1, 0, none⟩), Value.pointer (some ⟨b, 0, none⟩), Value.pointer none, Value.pointer none] 57)).heap.size = x + 1 by simp [hx]] at h
        rw [hW0]
        exact h
      have hm0 := HZ.out (by trivial)
      subst hm0
      exact hid ⟨_, played_zero rm C.table w w1 w2 W0 (x + 1) b x ev cv (HK1.out.mono (fun _ _ e => by cases e)) HK2.out HF.out HO.out HRM.out HRL.out hx hk hX hZ (by omega)⟩
    clear hW0 hx
  all_goals
    go_loopw [11] (fun i W => ∃ k : Nat, k ≤ q ∧ i = .int .i64 k ∧ ∃ D, Played w W m rm x D k) (fun i _ => q - (intOf i).toNat)
    case atStart => exact ⟨0, Nat.zero_le _, rfl, HP.out⟩
    case round =>
      obtain ⟨k, hk, rfl, D, hp⟩ := hrel
      have HPD := hid hp
      clear hp
      by_cases hlt : k < q
      · have hlt' : (k : Int) < (q : Int) := by omega
        obtain ⟨s, hsk⟩ : ∃ s, ss[k]? = some s := ⟨_, List.getElem?_eq_getElem (by have := HQ.out; omega)⟩
        obtain ⟨sb, soff, hsa, hsl, c0, c1, c2, c3, c4⟩ := (HS.out.kept' HPD.out.kept (fun b off hb e => HSM.out (by intro h0; rw [h0] at hsk; cases hsk) b e b off hb rfl)).at hsk
        subst hsa
        have hd := does_any wr.drew m rm x D k s (HPD.out.two.kept (Kept.refl Nil wr).drew (fun _ _ => id)) HPD.out.bnd (by omega)
        rw [stp_agg] at hd
        have hk1 : (0 : Int) ≤ (k : Int) := by omega
        obtain ⟨s0, s1, s2, s3, s4⟩ := s
        dsimp only at c0 c1 c2 c3 c4 hd
        have HSK := hid hsk
        clear hsk
        go_wp2_with fail
        refine wp_region_G (S := fun w' => w'.cell? ⟨sb, soff + k * 5, none⟩ = some (.int .i64 s0) ∧ w'.cell? ⟨sb, soff + k * 5 + 1, none⟩ = some (.int .i64 s1) ∧ w'.cell? ⟨sb, soff + k * 5 + 2, none⟩ = some (.int .i64 s2) ∧ w'.cell? ⟨sb, soff + k * 5 + 3, none⟩ = some (.int .i64 s3) ∧ w'.cell? ⟨sb, soff + k * 5 + 4, none⟩ = some (.int .i64 s4)) (by kernel_rfl) 5 ⟨c0, c1, c2, c3, c4⟩ (fun hS => ?_)
        refine wpAnyG_pure (i := 0) (oi := _) (v := ?_) rfl (by decide) (by kernel_rfl) (by kernel_rfl) (by kernel_rfl) (fun _ _ _ h => h) hS (Or.inl ⟨by kernel_rfl, ?_⟩) ?_
        rotate_left
        · intro w'; go_simp; with_reducible rfl
        simp only [Act.put, List.getElem_toArray, List.getElem_cons_succ, List.getElem_cons_zero, List.setIfInBounds_toArray, List.set_cons_zero, List.set_cons_succ]
        refine wpAnyG_pure (i := 1) (oi := _) (v := ?_) rfl (by decide) (by kernel_rfl) (by kernel_rfl) (by kernel_rfl) (fun _ _ _ h => h) hS (Or.inl ⟨by kernel_rfl, ?_⟩) ?_
        rotate_left
        · intro w'; go_simp; with_reducible rfl
        simp only [Act.put, List.getElem_toArray, List.getElem_cons_succ, List.getElem_cons_zero, List.setIfInBounds_toArray, List.set_cons_zero, List.set_cons_succ]
        refine wpAnyG_pure (i := 2) (oi := _) (v := ?_) rfl (by decide) (by kernel_rfl) (by kernel_rfl) (by kernel_rfl) (fun _ _ _ h => h) hS (Or.inl ⟨by kernel_rfl, ?_⟩) ?_
        rotate_left
        · intro w'; go_simp; with_reducible rfl
        simp only [Act.put, List.getElem_toArray, List.getElem_cons_succ, List.getElem_cons_zero, List.setIfInBounds_toArray, List.set_cons_zero, List.set_cons_succ]
        refine wpAnyG_pure (i := 3) (oi := _) (v := ?_) rfl (by decide) (by kernel_rfl) (by kernel_rfl) (by kernel_rfl) (fun _ _ _ h => h) hS (Or.inl ⟨by kernel_rfl, ?_⟩) ?_
        rotate_left
        · intro w'; go_simp; with_reducible rfl
        simp only [Act.put, List.getElem_toArray, List.getElem_cons_succ, List.getElem_cons_zero, List.setIfInBounds_toArray, List.set_cons_zero, List.set_cons_succ]
        refine wpAnyG_take (i := 4) (oi := _) (v := ?_) rfl (by kernel_rfl) (by kernel_rfl) (by kernel_rfl) (by kernel_rfl) (fun _ _ _ h => h) hS (Or.inl ⟨by kernel_rfl, ?_⟩) ?_
        rotate_left
        · rintro w' ⟨h0, h1, h2, h3, h4⟩; go_simp; with_reducible rfl
        simp only [Act.put, List.getElem_toArray, List.getElem_cons_succ, List.getElem_cons_zero, List.setIfInBounds_toArray, List.set_cons_zero, List.set_cons_succ]
        refine wpAnyG_ready (rs := [5]) (by kernel_rfl) (by simp) (AllG.last (o := _) rfl (fun K hK => ?_) AllG.nil)
        go_simp
        refine hd.mono ?_
        clear hd
        rintro e w3 hpost
        obtain ⟨rfl, D', hp'⟩ := (HPD.out.on (Kept.refl Nil wr).drew).does hpost
        obtain ⟨t1, c1', r1, sv1, b1, ev1, cv1, sp1, kp1, T1, C1⟩ := D'
        have hh := hp'.two
        obtain ⟨z1, z2, z3⟩ := hh.sizes
        have h15 : T1.log ≤ 15 := hh.log
        have h3 : 3 ≤ T1.log := hh.good.lo
        obtain ⟨ea, ecap, hev⟩ := Row.sliceOf hh.ref.ents
        dsimp only at hev z1 z2
        obtain ⟨ne, hne⟩ : ∃ ne, ne = T1.ents.length := ⟨_, rfl⟩
        obtain ⟨lv, hlv⟩ : ∃ lv : Int, lv = (T1.live : Int) := ⟨_, rfl⟩
        have hS2 : ∀ W', Kept (own t1 c1' r1 sv1) w3 W' → (W'.cell? ⟨x, 0, none⟩ = some (.pointer (some ⟨t1, 0, none⟩)) ∧ W'.cell? ⟨x, 1, none⟩ = some (.pointer (some ⟨b1, 0, none⟩)) ∧ W'.cell? ⟨b1, 3, none⟩ = some (.int .i64 lv) ∧ W'.cell? ⟨b1, 0, none⟩ = some (.slice ea ne ecap)) := by
          intro W' hk'
          have a1 := Blk.kept hh.blk hk' (fun e => hh.xp (.inl e))
          have a2 := hh.ref.head.kept hk' (fun e => hh.apart _ (.inl e) (.inl (.inl rfl)))
          refine ⟨a1.cell 0, a1.cell 1, by rw [hlv]; exact a2.cell 3, ?_⟩
          rw [hne, ← hev]; exact a2.cell 0
        have HS2 := hid hS2
        have hlen := fun W (hk' : Kept Nil w3 W) => lenZ m t1 c1' r1 sv1 T1 W (hh.tab.kept hk' (fun _ _ => id))
        rw [← hlv] at hlen
        have HLEN := hid hlen
        have HP' := hid hp'
        have HNE := hid hne
        have HLV := hid hlv
        have hneb : ne ≤ 30000 := by omega
        clear hS2 hlen hp' hh hev hne hlv c0 c1 c2 c3 c4 hpost z1 z2 z3
        refine hK.out _ _ (wpAny_again (S := (fun w' => w'.cell? ⟨x, 0, none⟩ = some (.pointer (some ⟨t1, 0, none⟩)) ∧ w'.cell? ⟨x, 1, none⟩ = some (.pointer (some ⟨b1, 0, none⟩)) ∧ w'.cell? ⟨b1, 3, none⟩ = some (.int .i64 lv) ∧ w'.cell? ⟨b1, 0, none⟩ = some (.slice ea ne ecap))) 1000 (HS2.out _ (Kept.refl _ _)) (fun hS => ?_))
        clear hK K
        refine wpAnyG_pure (i := 6) (oi := _) (v := ?_) rfl (by decide) (by kernel_rfl) (by kernel_rfl) (by kernel_rfl) (fun _ _ _ h => h) hS (Or.inl ⟨by kernel_rfl, ?_⟩) ?_
        rotate_left
        · intro w'; go_simp; with_reducible rfl
        simp only [Act.put, List.getElem_toArray, List.getElem_cons_succ, List.getElem_cons_zero, List.setIfInBounds_toArray, List.set_cons_zero, List.set_cons_succ]
        refine wpAnyG_pure (i := 7) (oi := _) (v := ?_) rfl (by decide) (by kernel_rfl) (by kernel_rfl) (by kernel_rfl) (fun _ _ _ h => h) hS (Or.inl ⟨by kernel_rfl, ?_⟩) ?_
        rotate_left
        · intro w'; go_simp; with_reducible rfl
        simp only [Act.put, List.getElem_toArray, List.getElem_cons_succ, List.getElem_cons_zero, List.setIfInBounds_toArray, List.set_cons_zero, List.set_cons_succ]
        refine wpAnyG_pure (i := 8) (oi := _) (v := ?_) rfl (by decide) (by kernel_rfl) (by kernel_rfl) (by kernel_rfl) (fun _ _ _ h => h) hS (Or.inl ⟨by kernel_rfl, ?_⟩) ?_
        rotate_left
        · intro w'; go_simp; with_reducible rfl
        simp only [Act.put, List.getElem_toArray, List.getElem_cons_succ, List.getElem_cons_zero, List.setIfInBounds_toArray, List.set_cons_zero, List.set_cons_succ]
        refine wpAnyG_pure (i := 9) (oi := _) (v := ?_) rfl (by decide) (by kernel_rfl) (by kernel_rfl) (by kernel_rfl) (fun _ _ _ h => h) hS (Or.inl ⟨by kernel_rfl, ?_⟩) ?_
        rotate_left
        · intro w'; go_simp; with_reducible rfl
        simp only [Act.put, List.getElem_toArray, List.getElem_cons_succ, List.getElem_cons_zero, List.setIfInBounds_toArray, List.set_cons_zero, List.set_cons_succ]
        refine wpAnyG_pure (i := 10) (oi := _) (v := ?_) rfl (by decide) (by kernel_rfl) (by kernel_rfl) (by kernel_rfl) (fun _ _ _ h => h) hS (Or.inl ⟨by kernel_rfl, ?_⟩) ?_
        rotate_left
        · intro w'; go_simp; with_reducible rfl
        simp only [Act.put, List.getElem_toArray, List.getElem_cons_succ, List.getElem_cons_zero, List.setIfInBounds_toArray, List.set_cons_zero, List.set_cons_succ]
        refine wpAnyG_take (i := 11) (oi := _) (v := ?_) rfl (by kernel_rfl) (by kernel_rfl) (by kernel_rfl) (by kernel_rfl) (fun _ _ _ h => h) hS (Or.inl ⟨by kernel_rfl, ?_⟩) ?_
        rotate_left
        · rintro w' ⟨h0, h1, h2, h3⟩; go_simp; with_reducible rfl
        simp only [Act.put, List.getElem_toArray, List.getElem_cons_succ, List.getElem_cons_zero, List.setIfInBounds_toArray, List.set_cons_zero, List.set_cons_succ]
        refine wpAnyG_pure (i := 13) (oi := _) (v := ?_) rfl (by decide) (by kernel_rfl) (by kernel_rfl) (by kernel_rfl) (fun _ _ _ h => h) hS (Or.inl ⟨by kernel_rfl, ?_⟩) ?_
        rotate_left
        · intro w'; go_simp; with_reducible rfl
        simp only [Act.put, List.getElem_toArray, List.getElem_cons_succ, List.getElem_cons_zero, List.setIfInBounds_toArray, List.set_cons_zero, List.set_cons_succ]
        refine wpAnyG_pure (i := 14) (oi := _) (v := ?_) rfl (by decide) (by kernel_rfl) (by kernel_rfl) (by kernel_rfl) (fun _ _ _ h => h) hS (Or.inl ⟨by kernel_rfl, ?_⟩) ?_
        rotate_left
        · intro w'; go_simp; with_reducible rfl
        simp only [Act.put, List.getElem_toArray, List.getElem_cons_succ, List.getElem_cons_zero, List.setIfInBounds_toArray, List.set_cons_zero, List.set_cons_succ]
        refine wpAnyG_pure (i := 15) (oi := _) (v := ?_) rfl (by decide) (by kernel_rfl) (by kernel_rfl) (by kernel_rfl) (fun _ _ _ h => h) hS (Or.inl ⟨by kernel_rfl, ?_⟩) ?_
        rotate_left
        · intro w'; go_simp; with_reducible rfl
        simp only [Act.put, List.getElem_toArray, List.getElem_cons_succ, List.getElem_cons_zero, List.setIfInBounds_toArray, List.set_cons_zero, List.set_cons_succ]
        refine wpAnyG_take (i := 16) (oi := _) (v := ?_) rfl (by kernel_rfl) (by kernel_rfl) (by kernel_rfl) (by kernel_rfl) (fun _ _ _ h => h) hS (Or.inl ⟨by kernel_rfl, ?_⟩) ?_
        rotate_left
        · rintro w' ⟨h0, h1, h2, h3⟩; go_simp; with_reducible rfl
        simp only [Act.put, List.getElem_toArray, List.getElem_cons_succ, List.getElem_cons_zero, List.setIfInBounds_toArray, List.set_cons_zero, List.set_cons_succ]
        refine wpAnyG_pure (i := 17) (oi := _) (v := ?_) rfl (by decide) (by kernel_rfl) (by kernel_rfl) (by kernel_rfl) (fun _ _ _ h => h) hS (Or.inl ⟨by kernel_rfl, ?_⟩) ?_
        rotate_left
        · intro w'; go_simp; with_reducible rfl
        simp only [Act.put, List.getElem_toArray, List.getElem_cons_succ, List.getElem_cons_zero, List.setIfInBounds_toArray, List.set_cons_zero, List.set_cons_succ]
        refine wpAnyG_pure (i := 18) (oi := _) (v := ?_) rfl (by decide) (by kernel_rfl) (by kernel_rfl) (by kernel_rfl) (fun _ _ _ h => h) hS (Or.inl ⟨by kernel_rfl, ?_⟩) ?_
        rotate_left
        · intro w'; go_simp; with_reducible rfl
        simp only [Act.put, List.getElem_toArray, List.getElem_cons_succ, List.getElem_cons_zero, List.setIfInBounds_toArray, List.set_cons_zero, List.set_cons_succ]
        refine wpAnyG_take (i := 19) (oi := _) (v := ?_) rfl (by kernel_rfl) (by kernel_rfl) (by kernel_rfl) (by kernel_rfl) (fun _ _ _ h => h) hS (Or.inl ⟨by kernel_rfl, ?_⟩) ?_
        rotate_left
        · rintro w' ⟨h0, h1, h2, h3⟩; go_simp; with_reducible rfl
        simp only [Act.put, List.getElem_toArray, List.getElem_cons_succ, List.getElem_cons_zero, List.setIfInBounds_toArray, List.set_cons_zero, List.set_cons_succ]
        refine wpAnyG_ready (rs := [12]) (by kernel_rfl) (by simp) (AllG.cons (o := _) rfl (by decide) (fun K hK => ?_) AllG.nil)
        go_simp
        refine (HLEN.out _ (Kept.refl _ _)).mono ?_
        rintro e w4 ⟨rfl, rfl⟩
        refine hK.out _ _ (HS2.out _ (Kept.refl _ _)) (fun hS => ?_)
        clear hK K
        have ebb : (lv != lv) = false := by simp
        refine wpAnyG_pure (i := 20) (oi := _) (v := ?_) rfl (by decide) (by kernel_rfl) (by kernel_rfl) (by kernel_rfl) (fun _ _ _ h => h) hS (Or.inl ⟨by kernel_rfl, ?_⟩) ?_
        rotate_left
        · intro w'; go_simp; with_reducible rfl
        simp only [Act.put, List.getElem_toArray, List.getElem_cons_succ, List.getElem_cons_zero, List.setIfInBounds_toArray, List.set_cons_zero, List.set_cons_succ]
        refine wpAnyG_pure (i := 21) (oi := _) (v := ?_) rfl (by decide) (by kernel_rfl) (by kernel_rfl) (by kernel_rfl) (fun _ _ _ h => h) hS (Or.inl ⟨by kernel_rfl, ?_⟩) ?_
        rotate_left
        · intro w'; go_simp; with_reducible rfl
        simp only [Act.put, List.getElem_toArray, List.getElem_cons_succ, List.getElem_cons_zero, List.setIfInBounds_toArray, List.set_cons_zero, List.set_cons_succ]
        refine wpAnyG_pure (i := 22) (oi := _) (v := ?_) rfl (by decide) (by kernel_rfl) (by kernel_rfl) (by kernel_rfl) (fun _ _ _ h => h) hS (Or.inl ⟨by kernel_rfl, ?_⟩) ?_
        rotate_left
        · intro w'; go_simp; with_reducible rfl
        simp only [Act.put, List.getElem_toArray, List.getElem_cons_succ, List.getElem_cons_zero, List.setIfInBounds_toArray, List.set_cons_zero, List.set_cons_succ]
        refine wpAnyG_pure (i := 23) (oi := _) (v := ?_) rfl (by decide) (by kernel_rfl) (by kernel_rfl) (by kernel_rfl) (fun _ _ _ h => h) hS (Or.inl ⟨by kernel_rfl, ?_⟩) ?_
        rotate_left
        · intro w'; go_simp; with_reducible rfl
        simp only [Act.put, List.getElem_toArray, List.getElem_cons_succ, List.getElem_cons_zero, List.setIfInBounds_toArray, List.set_cons_zero, List.set_cons_succ]
        refine wpAnyG_pure (i := 24) (oi := _) (v := ?_) rfl (by decide) (by kernel_rfl) (by kernel_rfl) (by kernel_rfl) (fun _ _ _ h => h) hS (Or.inl ⟨by kernel_rfl, ?_⟩) ?_
        rotate_left
        · intro w'; go_simp; with_reducible rfl
        simp only [Act.put, List.getElem_toArray, List.getElem_cons_succ, List.getElem_cons_zero, List.setIfInBounds_toArray, List.set_cons_zero, List.set_cons_succ]
        refine wpAnyG_pure (i := 25) (oi := _) (v := ?_) rfl (by decide) (by kernel_rfl) (by kernel_rfl) (by kernel_rfl) (fun _ _ _ h => h) hS (Or.inl ⟨by kernel_rfl, ?_⟩) ?_
        rotate_left
        · intro w'; go_simp; with_reducible rfl
        simp only [Act.put, List.getElem_toArray, List.getElem_cons_succ, List.getElem_cons_zero, List.setIfInBounds_toArray, List.set_cons_zero, List.set_cons_succ]
        refine wpAnyG_take (i := 26) (oi := _) (v := ?_) rfl (by kernel_rfl) (by kernel_rfl) (by kernel_rfl) (by kernel_rfl) (fun _ _ _ h => h) hS (Or.inl ⟨by kernel_rfl, ?_⟩) ?_
        rotate_left
        · rintro w' ⟨h0, h1, h2, h3⟩; go_simp; with_reducible rfl
        simp only [Act.put, List.getElem_toArray, List.getElem_cons_succ, List.getElem_cons_zero, List.setIfInBounds_toArray, List.set_cons_zero, List.set_cons_succ]
        refine wpAnyG_pure (i := 27) (oi := _) (v := ?_) rfl (by decide) (by kernel_rfl) (by kernel_rfl) (by kernel_rfl) (fun _ _ _ h => h) hS (Or.inl ⟨by kernel_rfl, ?_⟩) ?_
        rotate_left
        · intro w'; go_simp; with_reducible rfl
        simp only [Act.put, List.getElem_toArray, List.getElem_cons_succ, List.getElem_cons_zero, List.setIfInBounds_toArray, List.set_cons_zero, List.set_cons_succ]
        refine wpAnyG_pure (i := 28) (oi := _) (v := ?_) rfl (by decide) (by kernel_rfl) (by kernel_rfl) (by kernel_rfl) (fun _ _ _ h => h) hS (Or.inl ⟨by kernel_rfl, ?_⟩) ?_
        rotate_left
        · intro w'; go_simp; with_reducible rfl
        simp only [Act.put, List.getElem_toArray, List.getElem_cons_succ, List.getElem_cons_zero, List.setIfInBounds_toArray, List.set_cons_zero, List.set_cons_succ]
        refine wpAnyG_take (i := 29) (oi := _) (v := ?_) rfl (by kernel_rfl) (by kernel_rfl) (by kernel_rfl) (by kernel_rfl) (fun _ _ _ h => h) hS (Or.inl ⟨by kernel_rfl, ?_⟩) ?_
        rotate_left
        · rintro w' ⟨h0, h1, h2, h3⟩; go_simp; with_reducible rfl
        simp only [Act.put, List.getElem_toArray, List.getElem_cons_succ, List.getElem_cons_zero, List.setIfInBounds_toArray, List.set_cons_zero, List.set_cons_succ]
        have hsz := HP'.out.two.sizes
        have hsi := sightZ m C1 t1 c1' r1 sv1 T1 w3 HP'.out.two.tab HP'.out.two.mt (by have := hsz.1; (try dsimp only at this); omega)
        unfold sightV at hsi
        have HSI := hid hsi
        have HSZ := hid hsz
        clear hsi hsz
        by_cases h100 : (ne : Int) < 100
        ·
          refine wpAnyG_pure (i := 30) (oi := _) (v := ?_) rfl (by decide) (by kernel_rfl) (by kernel_rfl) (by kernel_rfl) (fun _ _ _ h => h) hS (Or.inl ⟨by kernel_rfl, ?_⟩) ?_
          rotate_left
          · intro w'; go_simp; with_reducible rfl
          simp only [Act.put, List.getElem_toArray, List.getElem_cons_succ, List.getElem_cons_zero, List.setIfInBounds_toArray, List.set_cons_zero, List.set_cons_succ]
          refine wpAnyG_pure (i := 31) (oi := _) (v := ?_) rfl (by decide) (by kernel_rfl) (by kernel_rfl) (by kernel_rfl) (fun _ _ _ h => h) hS (Or.inl ⟨by kernel_rfl, ?_⟩) ?_
          rotate_left
          · intro w'; go_simp; with_reducible rfl
          simp only [Act.put, List.getElem_toArray, List.getElem_cons_succ, List.getElem_cons_zero, List.setIfInBounds_toArray, List.set_cons_zero, List.set_cons_succ]
          refine wpAnyG_pure (i := 32) (oi := _) (v := ?_) rfl (by decide) (by kernel_rfl) (by kernel_rfl) (by kernel_rfl) (fun _ _ _ h => h) hS (Or.inl ⟨by kernel_rfl, ?_⟩) ?_
          rotate_left
          · intro w'; go_simp; with_reducible rfl
          simp only [Act.put, List.getElem_toArray, List.getElem_cons_succ, List.getElem_cons_zero, List.setIfInBounds_toArray, List.set_cons_zero, List.set_cons_succ]
          refine wpAnyG_pure (i := 33) (oi := _) (v := ?_) rfl (by decide) (by kernel_rfl) (by kernel_rfl) (by kernel_rfl) (fun _ _ _ h => h) hS (Or.inl ⟨by kernel_rfl, ?_⟩) ?_
          rotate_left
          · intro w'; go_simp; with_reducible rfl
          simp only [Act.put, List.getElem_toArray, List.getElem_cons_succ, List.getElem_cons_zero, List.setIfInBounds_toArray, List.set_cons_zero, List.set_cons_succ]
          refine wpAnyG_pure (i := 34) (oi := _) (v := ?_) rfl (by decide) (by kernel_rfl) (by kernel_rfl) (by kernel_rfl) (fun _ _ _ h => h) hS (Or.inl ⟨by kernel_rfl, ?_⟩) ?_
          rotate_left
          · intro w'; go_simp; with_reducible rfl
          simp only [Act.put, List.getElem_toArray, List.getElem_cons_succ, List.getElem_cons_zero, List.setIfInBounds_toArray, List.set_cons_zero, List.set_cons_succ]
          refine wpAnyG_pure (i := 35) (oi := _) (v := ?_) rfl (by decide) (by kernel_rfl) (by kernel_rfl) (by kernel_rfl) (fun _ _ _ h => h) hS (Or.inl ⟨by kernel_rfl, ?_⟩) ?_
          rotate_left
          · intro w'; go_simp; with_reducible rfl
          simp only [Act.put, List.getElem_toArray, List.getElem_cons_succ, List.getElem_cons_zero, List.setIfInBounds_toArray, List.set_cons_zero, List.set_cons_succ]
          refine wpAnyG_take (i := 36) (oi := _) (v := ?_) rfl (by kernel_rfl) (by kernel_rfl) (by kernel_rfl) (by kernel_rfl) (fun _ _ _ h => h) hS (Or.inl ⟨by kernel_rfl, ?_⟩) ?_
          rotate_left
          · rintro w' ⟨h0, h1, h2, h3⟩; go_simp; with_reducible rfl
          simp only [Act.put, List.getElem_toArray, List.getElem_cons_succ, List.getElem_cons_zero, List.setIfInBounds_toArray, List.set_cons_zero, List.set_cons_succ]
          refine wpAnyG_pure (i := 38) (oi := _) (v := ?_) rfl (by decide) (by kernel_rfl) (by kernel_rfl) (by kernel_rfl) (fun _ _ _ h => h) hS (Or.inl ⟨by kernel_rfl, ?_⟩) ?_
          rotate_left
          · intro w'; go_simp; with_reducible rfl
          simp only [Act.put, List.getElem_toArray, List.getElem_cons_succ, List.getElem_cons_zero, List.setIfInBounds_toArray, List.set_cons_zero, List.set_cons_succ]
          refine wpAnyG_pure (i := 39) (oi := _) (v := ?_) rfl (by decide) (by kernel_rfl) (by kernel_rfl) (by kernel_rfl) (fun _ _ _ h => h) hS (Or.inl ⟨by kernel_rfl, ?_⟩) ?_
          rotate_left
          · intro w'; go_simp; with_reducible rfl
          simp only [Act.put, List.getElem_toArray, List.getElem_cons_succ, List.getElem_cons_zero, List.setIfInBounds_toArray, List.set_cons_zero, List.set_cons_succ]
          refine wpAnyG_pure (i := 40) (oi := _) (v := ?_) rfl (by decide) (by kernel_rfl) (by kernel_rfl) (by kernel_rfl) (fun _ _ _ h => h) hS (Or.inl ⟨by kernel_rfl, ?_⟩) ?_
          rotate_left
          · intro w'; go_simp; with_reducible rfl
          simp only [Act.put, List.getElem_toArray, List.getElem_cons_succ, List.getElem_cons_zero, List.setIfInBounds_toArray, List.set_cons_zero, List.set_cons_succ]
          refine wpAnyG_take (i := 41) (oi := _) (v := ?_) rfl (by kernel_rfl) (by kernel_rfl) (by kernel_rfl) (by kernel_rfl) (fun _ _ _ h => h) hS (Or.inl ⟨by kernel_rfl, ?_⟩) ?_
          rotate_left
          · rintro w' ⟨h0, h1, h2, h3⟩; go_simp; with_reducible rfl
          simp only [Act.put, List.getElem_toArray, List.getElem_cons_succ, List.getElem_cons_zero, List.setIfInBounds_toArray, List.set_cons_zero, List.set_cons_succ]
          refine wpAnyG_ready (rs := [37]) (by kernel_rfl) (by simp) (AllG.cons (o := _) rfl (by decide) (fun K hK => ?_) AllG.nil)
          go_simp
          refine HSI.out.mono ?_
          rintro e w5 ⟨csv, esv, rfl, g1, o1, g2, o2, ⟨c2, r2, sv2, hT2, hO2⟩, hM2, hk5⟩
          have hp5 := HP'.out.sight hT2 hO2 hM2 hk5
          refine hK.out _ _ (HS2.out _ hk5) (fun hS => ?_)
          clear hK K
          have hs7 := sight7_any rm b1 ev1 cv1 T1 w5 hp5.two.ref h3 h15 (by have := HSZ.out.1; (try dsimp only at this); omega) (by have := HSZ.out.2.1; (try dsimp only at this); omega)
          have HP5 := hid hp5
          have HG1 := hid g1
          have HG2 := hid g2
          have HK5 := hid hk5
          have HS7 := hid hs7
          clear hT2 hO2 hM2 hp5 g1 g2 o1 o2 hk5 hs7
          refine wpAnyG_ready (rs := [42]) (by kernel_rfl) (by simp) (AllG.cons (o := _) rfl (by decide) (fun K hK => ?_) AllG.nil)
          go_simp
          refine HS7.out.mono ?_
          rintro e w6 ⟨csv2, esv2, rfl, g3, o3, g4, o4, hk6⟩
          refine hK.out _ _ (HS2.out _ (HK5.out.trans hk6 (fun _ _ h => h.elim))) (fun hS => ?_)
          clear hK K
          have hss := sight_same T1.log (widthOf T1.log) T1.live T1.births T1.made csv esv csv2 esv2 T1.cells T1.ents w6 (by have := HSZ.out.1; (try dsimp only at this); omega) (by have := HSZ.out.2.1; (try dsimp only at this); omega) (HG2.out.kept hk6 (fun _ _ => id)) g4 (HG1.out.kept hk6 (fun _ _ => id)) g3
          unfold sightV at hss
          have HSS := hid hss
          have HK6 := hid hk6
          clear hss g3 o3 g4 o4 hk6
          refine wpAnyG_ready (rs := [43]) (by kernel_rfl) (by simp) (AllG.cons (o := _) rfl (by decide) (fun K hK => ?_) AllG.nil)
          go_simp
          refine HSS.out.mono ?_
          rintro e w7 ⟨rfl, hk7⟩
          refine hK.out _ _ (HS2.out _ ((HK5.out.trans HK6.out (fun _ _ h => h.elim)).trans hk7 (fun _ _ h => h.elim))) (fun hS => ?_)
          clear hK K
          have HP7 := hid ((HP5.out.on HK6.out).on hk7)
          clear hk7
          refine wpAnyG_pure (i := 44) (oi := _) (v := ?_) rfl (by decide) (by kernel_rfl) (by kernel_rfl) (by kernel_rfl) (fun _ _ _ h => h) hS (Or.inl ⟨by kernel_rfl, ?_⟩) ?_
          rotate_left
          · intro w'; go_simp; with_reducible rfl
          simp only [Act.put, List.getElem_toArray, List.getElem_cons_succ, List.getElem_cons_zero, List.setIfInBounds_toArray, List.set_cons_zero, List.set_cons_succ]
          refine wpAnyG_pure (i := 45) (oi := _) (v := ?_) rfl (by decide) (by kernel_rfl) (by kernel_rfl) (by kernel_rfl) (fun _ _ _ h => h) hS (Or.inl ⟨by kernel_rfl, ?_⟩) ?_
          rotate_left
          · intro w'; go_simp; with_reducible rfl
          simp only [Act.put, List.getElem_toArray, List.getElem_cons_succ, List.getElem_cons_zero, List.setIfInBounds_toArray, List.set_cons_zero, List.set_cons_succ]
          refine wpAnyG_pure (i := 46) (oi := _) (v := ?_) rfl (by decide) (by kernel_rfl) (by kernel_rfl) (by kernel_rfl) (fun _ _ _ h => h) hS (Or.inl ⟨by kernel_rfl, ?_⟩) ?_
          rotate_left
          · intro w'; go_simp; with_reducible rfl
          simp only [Act.put, List.getElem_toArray, List.getElem_cons_succ, List.getElem_cons_zero, List.setIfInBounds_toArray, List.set_cons_zero, List.set_cons_succ]
          refine wpAnyG_done (by kernel_rfl) ?_ _
          go_wp2_with fail
          go_roundw
          case rel => exact ⟨k + 1, by omega, by go_num, _, HP7.out⟩
          case measure => simp [intOf]; omega
        · have hd100 : decide ((ne : Int) < 100) = false := decide_eq_false h100
          refine wpAnyG_pure (i := 30) (oi := _) (v := ?_) rfl (by decide) (by kernel_rfl) (by kernel_rfl) (by kernel_rfl) (fun _ _ _ h => h) hS (Or.inl ⟨by kernel_rfl, ?_⟩) ?_
          rotate_left
          · intro w'; go_simp; with_reducible rfl
          simp only [Act.put, List.getElem_toArray, List.getElem_cons_succ, List.getElem_cons_zero, List.setIfInBounds_toArray, List.set_cons_zero, List.set_cons_succ]
          refine wpAnyG_pure (i := 31) (oi := _) (v := ?_) rfl (by decide) (by kernel_rfl) (by kernel_rfl) (by kernel_rfl) (fun _ _ _ h => h) hS (Or.inl ⟨by kernel_rfl, ?_⟩) ?_
          rotate_left
          · intro w'; go_simp; with_reducible rfl
          simp only [Act.put, List.getElem_toArray, List.getElem_cons_succ, List.getElem_cons_zero, List.setIfInBounds_toArray, List.set_cons_zero, List.set_cons_succ]
          refine wpAnyG_pure (i := 32) (oi := _) (v := ?_) rfl (by decide) (by kernel_rfl) (by kernel_rfl) (by kernel_rfl) (fun _ _ _ h => h) hS (Or.inl ⟨by kernel_rfl, ?_⟩) ?_
          rotate_left
          · intro w'; go_simp; with_reducible rfl
          simp only [Act.put, List.getElem_toArray, List.getElem_cons_succ, List.getElem_cons_zero, List.setIfInBounds_toArray, List.set_cons_zero, List.set_cons_succ]
          refine wpAnyG_skip (i := 33) (oi := _) rfl (by kernel_rfl) (by kernel_rfl) (by kernel_rfl) (by kernel_rfl) (fun _ _ _ h => h) hS (by kernel_rfl) ?_
          simp only [Act.put, List.getElem_toArray, List.getElem_cons_succ, List.getElem_cons_zero, List.setIfInBounds_toArray, List.set_cons_zero, List.set_cons_succ]
          refine wpAnyG_skip (i := 34) (oi := _) rfl (by kernel_rfl) (by kernel_rfl) (by kernel_rfl) (by kernel_rfl) (fun _ _ _ h => h) hS (by kernel_rfl) ?_
          simp only [Act.put, List.getElem_toArray, List.getElem_cons_succ, List.getElem_cons_zero, List.setIfInBounds_toArray, List.set_cons_zero, List.set_cons_succ]
          refine wpAnyG_skip (i := 35) (oi := _) rfl (by kernel_rfl) (by kernel_rfl) (by kernel_rfl) (by kernel_rfl) (fun _ _ _ h => h) hS (by kernel_rfl) ?_
          simp only [Act.put, List.getElem_toArray, List.getElem_cons_succ, List.getElem_cons_zero, List.setIfInBounds_toArray, List.set_cons_zero, List.set_cons_succ]
          refine wpAnyG_skip (i := 36) (oi := _) rfl (by kernel_rfl) (by kernel_rfl) (by kernel_rfl) (by kernel_rfl) (fun _ _ _ h => h) hS (by kernel_rfl) ?_
          simp only [Act.put, List.getElem_toArray, List.getElem_cons_succ, List.getElem_cons_zero, List.setIfInBounds_toArray, List.set_cons_zero, List.set_cons_succ]
          refine wpAnyG_skip (i := 37) (oi := _) rfl (by kernel_rfl) (by kernel_rfl) (by kernel_rfl) (by kernel_rfl) (fun _ _ _ h => h) hS (by kernel_rfl) ?_
          simp only [Act.put, List.getElem_toArray, List.getElem_cons_succ, List.getElem_cons_zero, List.setIfInBounds_toArray, List.set_cons_zero, List.set_cons_succ]
          refine wpAnyG_skip (i := 38) (oi := _) rfl (by kernel_rfl) (by kernel_rfl) (by kernel_rfl) (by kernel_rfl) (fun _ _ _ h => h) hS (by kernel_rfl) ?_
          simp only [Act.put, List.getElem_toArray, List.getElem_cons_succ, List.getElem_cons_zero, List.setIfInBounds_toArray, List.set_cons_zero, List.set_cons_succ]
          refine wpAnyG_skip (i := 39) (oi := _) rfl (by kernel_rfl) (by kernel_rfl) (by kernel_rfl) (by kernel_rfl) (fun _ _ _ h => h) hS (by kernel_rfl) ?_
          simp only [Act.put, List.getElem_toArray, List.getElem_cons_succ, List.getElem_cons_zero, List.setIfInBounds_toArray, List.set_cons_zero, List.set_cons_succ]
          refine wpAnyG_skip (i := 40) (oi := _) rfl (by kernel_rfl) (by kernel_rfl) (by kernel_rfl) (by kernel_rfl) (fun _ _ _ h => h) hS (by kernel_rfl) ?_
          simp only [Act.put, List.getElem_toArray, List.getElem_cons_succ, List.getElem_cons_zero, List.setIfInBounds_toArray, List.set_cons_zero, List.set_cons_succ]
          refine wpAnyG_skip (i := 41) (oi := _) rfl (by kernel_rfl) (by kernel_rfl) (by kernel_rfl) (by kernel_rfl) (fun _ _ _ h => h) hS (by kernel_rfl) ?_
          simp only [Act.put, List.getElem_toArray, List.getElem_cons_succ, List.getElem_cons_zero, List.setIfInBounds_toArray, List.set_cons_zero, List.set_cons_succ]
          refine wpAnyG_skip (i := 42) (oi := _) rfl (by kernel_rfl) (by kernel_rfl) (by kernel_rfl) (by kernel_rfl) (fun _ _ _ h => h) hS (by kernel_rfl) ?_
          simp only [Act.put, List.getElem_toArray, List.getElem_cons_succ, List.getElem_cons_zero, List.setIfInBounds_toArray, List.set_cons_zero, List.set_cons_succ]
          refine wpAnyG_skip (i := 43) (oi := _) rfl (by kernel_rfl) (by kernel_rfl) (by kernel_rfl) (by kernel_rfl) (fun _ _ _ h => h) hS (by kernel_rfl) ?_
          simp only [Act.put, List.getElem_toArray, List.getElem_cons_succ, List.getElem_cons_zero, List.setIfInBounds_toArray, List.set_cons_zero, List.set_cons_succ]
          refine wpAnyG_skip (i := 44) (oi := _) rfl (by kernel_rfl) (by kernel_rfl) (by kernel_rfl) (by kernel_rfl) (fun _ _ _ h => h) hS (by kernel_rfl) ?_
          simp only [Act.put, List.getElem_toArray, List.getElem_cons_succ, List.getElem_cons_zero, List.setIfInBounds_toArray, List.set_cons_zero, List.set_cons_succ]
          refine wpAnyG_pure (i := 45) (oi := _) (v := ?_) rfl (by decide) (by kernel_rfl) (by kernel_rfl) (by kernel_rfl) (fun _ _ _ h => h) hS (Or.inl ⟨by kernel_rfl, ?_⟩) ?_
          rotate_left
          · intro w'; go_simp; with_reducible rfl
          simp only [Act.put, List.getElem_toArray, List.getElem_cons_succ, List.getElem_cons_zero, List.setIfInBounds_toArray, List.set_cons_zero, List.set_cons_succ]
          refine wpAnyG_pure (i := 46) (oi := _) (v := ?_) rfl (by decide) (by kernel_rfl) (by kernel_rfl) (by kernel_rfl) (fun _ _ _ h => h) hS (Or.inl ⟨by kernel_rfl, ?_⟩) ?_
          rotate_left
          · intro w'; go_simp; with_reducible rfl
          simp only [Act.put, List.getElem_toArray, List.getElem_cons_succ, List.getElem_cons_zero, List.setIfInBounds_toArray, List.set_cons_zero, List.set_cons_succ]
          refine wpAnyG_done (by kernel_rfl) ?_ _
          go_wp2_with fail
          go_roundw
          case rel => exact ⟨k + 1, by omega, by go_num, _, HP'.out⟩
          case measure => simp [intOf]; omega
      · obtain rfl : k = q := by omega
        obtain ⟨t1, c1', r1, sv1, b1, ev1, cv1, sp1, kp1, T1, C1⟩ := D
        have hh := HPD.out.two
        have hsz := hh.sizes
        have h15 : T1.log ≤ 15 := hh.log
        have h3 : 3 ≤ T1.log := hh.good.lo
        have hS3 : ∀ W', Kept (own t1 c1' r1 sv1) wr W' → (W'.cell? ⟨x, 0, none⟩ = some (.pointer (some ⟨t1, 0, none⟩)) ∧ W'.cell? ⟨x, 1, none⟩ = some (.pointer (some ⟨b1, 0, none⟩))) := by
          intro W' hk'
          have a1 := Blk.kept hh.blk hk' (fun e => hh.xp (.inl e))
          exact ⟨a1.cell 0, a1.cell 1⟩
        have HS3 := hid hS3
        have hsi := sightZ m C1 t1 c1' r1 sv1 T1 wr.drew (hh.tab.kept (Kept.refl Nil wr).drew (fun _ _ => id)) (hh.mt.kept (Kept.refl Nil wr).drew (fun _ _ => id)) (by have := hsz.1; (try dsimp only at this); omega)
        unfold sightV at hsi
        have HSI := hid hsi
        have HSZ := hid hsz
        clear hsi hsz hS3 hh
        go_wp2_with fail
        refine wp_region_G (S := (fun w' => w'.cell? ⟨x, 0, none⟩ = some (.pointer (some ⟨t1, 0, none⟩)) ∧ w'.cell? ⟨x, 1, none⟩ = some (.pointer (some ⟨b1, 0, none⟩)))) (by kernel_rfl) 1000 (HS3.out _ (Kept.refl _ wr).drew) (fun hS => ?_)
        refine wpAnyG_pure (i := 0) (oi := _) (v := ?_) rfl (by decide) (by kernel_rfl) (by kernel_rfl) (by kernel_rfl) (fun _ _ _ h => h) hS (Or.inl ⟨by kernel_rfl, ?_⟩) ?_
        rotate_left
        · intro w'; go_simp; with_reducible rfl
        simp only [Act.put, List.getElem_toArray, List.getElem_cons_succ, List.getElem_cons_zero, List.setIfInBounds_toArray, List.set_cons_zero, List.set_cons_succ]
        refine wpAnyG_pure (i := 1) (oi := _) (v := ?_) rfl (by decide) (by kernel_rfl) (by kernel_rfl) (by kernel_rfl) (fun _ _ _ h => h) hS (Or.inl ⟨by kernel_rfl, ?_⟩) ?_
        rotate_left
        · intro w'; go_simp; with_reducible rfl
        simp only [Act.put, List.getElem_toArray, List.getElem_cons_succ, List.getElem_cons_zero, List.setIfInBounds_toArray, List.set_cons_zero, List.set_cons_succ]
        refine wpAnyG_pure (i := 2) (oi := _) (v := ?_) rfl (by decide) (by kernel_rfl) (by kernel_rfl) (by kernel_rfl) (fun _ _ _ h => h) hS (Or.inl ⟨by kernel_rfl, ?_⟩) ?_
        rotate_left
        · intro w'; go_simp; with_reducible rfl
        simp only [Act.put, List.getElem_toArray, List.getElem_cons_succ, List.getElem_cons_zero, List.setIfInBounds_toArray, List.set_cons_zero, List.set_cons_succ]
        refine wpAnyG_pure (i := 3) (oi := _) (v := ?_) rfl (by decide) (by kernel_rfl) (by kernel_rfl) (by kernel_rfl) (fun _ _ _ h => h) hS (Or.inl ⟨by kernel_rfl, ?_⟩) ?_
        rotate_left
        · intro w'; go_simp; with_reducible rfl
        simp only [Act.put, List.getElem_toArray, List.getElem_cons_succ, List.getElem_cons_zero, List.setIfInBounds_toArray, List.set_cons_zero, List.set_cons_succ]
        refine wpAnyG_take (i := 4) (oi := _) (v := ?_) rfl (by kernel_rfl) (by kernel_rfl) (by kernel_rfl) (by kernel_rfl) (fun _ _ _ h => h) hS (Or.inl ⟨by kernel_rfl, ?_⟩) ?_
        rotate_left
        · rintro w' ⟨h0, h1⟩; go_simp; with_reducible rfl
        simp only [Act.put, List.getElem_toArray, List.getElem_cons_succ, List.getElem_cons_zero, List.setIfInBounds_toArray, List.set_cons_zero, List.set_cons_succ]
        refine wpAnyG_pure (i := 6) (oi := _) (v := ?_) rfl (by decide) (by kernel_rfl) (by kernel_rfl) (by kernel_rfl) (fun _ _ _ h => h) hS (Or.inl ⟨by kernel_rfl, ?_⟩) ?_
        rotate_left
        · intro w'; go_simp; with_reducible rfl
        simp only [Act.put, List.getElem_toArray, List.getElem_cons_succ, List.getElem_cons_zero, List.setIfInBounds_toArray, List.set_cons_zero, List.set_cons_succ]
        refine wpAnyG_pure (i := 7) (oi := _) (v := ?_) rfl (by decide) (by kernel_rfl) (by kernel_rfl) (by kernel_rfl) (fun _ _ _ h => h) hS (Or.inl ⟨by kernel_rfl, ?_⟩) ?_
        rotate_left
        · intro w'; go_simp; with_reducible rfl
        simp only [Act.put, List.getElem_toArray, List.getElem_cons_succ, List.getElem_cons_zero, List.setIfInBounds_toArray, List.set_cons_zero, List.set_cons_succ]
        refine wpAnyG_pure (i := 8) (oi := _) (v := ?_) rfl (by decide) (by kernel_rfl) (by kernel_rfl) (by kernel_rfl) (fun _ _ _ h => h) hS (Or.inl ⟨by kernel_rfl, ?_⟩) ?_
        rotate_left
        · intro w'; go_simp; with_reducible rfl
        simp only [Act.put, List.getElem_toArray, List.getElem_cons_succ, List.getElem_cons_zero, List.setIfInBounds_toArray, List.set_cons_zero, List.set_cons_succ]
        refine wpAnyG_take (i := 9) (oi := _) (v := ?_) rfl (by kernel_rfl) (by kernel_rfl) (by kernel_rfl) (by kernel_rfl) (fun _ _ _ h => h) hS (Or.inl ⟨by kernel_rfl, ?_⟩) ?_
        rotate_left
        · rintro w' ⟨h0, h1⟩; go_simp; with_reducible rfl
        simp only [Act.put, List.getElem_toArray, List.getElem_cons_succ, List.getElem_cons_zero, List.setIfInBounds_toArray, List.set_cons_zero, List.set_cons_succ]
        refine wpAnyG_ready (rs := [5]) (by kernel_rfl) (by simp) (AllG.cons (o := _) rfl (by decide) (fun K hK => ?_) AllG.nil)
        go_simp
        refine HSI.out.mono ?_
        rintro e w5 ⟨csv, esv, rfl, g1, o1, g2, o2, ⟨c2, r2, sv2, hT2, hO2⟩, hM2, hk5⟩
        have hp5 := (HPD.out.on (Kept.refl Nil wr).drew).sight hT2 hO2 hM2 hk5
        refine hK.out _ _ (HS3.out _ hk5.undrew) (fun hS => ?_)
        clear hK K
        have hs7 := sight7_any rm b1 ev1 cv1 T1 w5 hp5.two.ref h3 h15 (by have := HSZ.out.1; (try dsimp only at this); omega) (by have := HSZ.out.2.1; (try dsimp only at this); omega)
        have HP5 := hid hp5
        have HG1 := hid g1
        have HG2 := hid g2
        have HK5 := hid hk5
        have HS7 := hid hs7
        clear hT2 hO2 hM2 hp5 g1 g2 o1 o2 hk5 hs7
        refine wpAnyG_ready (rs := [10]) (by kernel_rfl) (by simp) (AllG.cons (o := _) rfl (by decide) (fun K hK => ?_) AllG.nil)
        go_simp
        refine HS7.out.mono ?_
        rintro e w6 ⟨csv2, esv2, rfl, g3, o3, g4, o4, hk6⟩
        refine hK.out _ _ (HS3.out _ (HK5.out.undrew.trans hk6 (fun _ _ h => h.elim))) (fun hS => ?_)
        clear hK K
        have hss := sight_same T1.log (widthOf T1.log) T1.live T1.births T1.made csv esv csv2 esv2 T1.cells T1.ents w6 (by have := HSZ.out.1; (try dsimp only at this); omega) (by have := HSZ.out.2.1; (try dsimp only at this); omega) (HG2.out.kept hk6 (fun _ _ => id)) g4 (HG1.out.kept hk6 (fun _ _ => id)) g3
        unfold sightV at hss
        have HSS := hid hss
        have HK6 := hid hk6
        clear hss g3 o3 g4 o4 hk6
        refine wpAnyG_ready (rs := [11]) (by kernel_rfl) (by simp) (AllG.cons (o := _) rfl (by decide) (fun K hK => ?_) AllG.nil)
        go_simp
        refine HSS.out.mono ?_
        rintro e w7 ⟨rfl, hk7⟩
        refine hK.out _ _ (HS3.out _ ((HK5.out.undrew.trans HK6.out (fun _ _ h => h.elim)).trans hk7 (fun _ _ h => h.elim))) (fun hS => ?_)
        clear hK K
        have HP7 := hid ((HP5.out.on HK6.out).on hk7)
        clear hk7
        refine wpAnyG_ready (rs := [12]) (by kernel_rfl) (by simp) (AllG.cons (o := _) rfl (by decide) (fun K hK => ?_) AllG.nil)
        go_simp
        refine hK.out _ _ hS (fun hS => ?_)
        clear hK K
        try simp only [Act.put, List.getElem_toArray, List.getElem_cons_succ, List.getElem_cons_zero, List.setIfInBounds_toArray, List.set_cons_zero, List.set_cons_succ]
        refine wpAnyG_ready (rs := [13]) (by kernel_rfl) (by simp) (AllG.cons (o := _) rfl (by decide) (fun K hK => ?_) AllG.nil)
        go_simp
        refine hK.out _ _ hS (fun hS => ?_)
        clear hK K
        try simp only [Act.put, List.getElem_toArray, List.getElem_cons_succ, List.getElem_cons_zero, List.setIfInBounds_toArray, List.set_cons_zero, List.set_cons_succ]
        refine wpAnyG_done (by kernel_rfl) ?_ _
        go_wp2_with fail
        refine bodyPost_ret (v := .tuple #[.pointer (some ⟨x, 0, none⟩), .bool true]) (by simp [results, Try.results34, go_sem]) rfl ?_
        exact ⟨x, _, rfl, HP7.out⟩
end Go.Proofs.Ytbbkljgeddjghaa
