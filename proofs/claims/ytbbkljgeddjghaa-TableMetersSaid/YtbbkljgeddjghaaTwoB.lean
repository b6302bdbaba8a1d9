/-
  What is proved: lexiconlaw7's does, as one contract: Add, Clear, Copy, Seek.
-/
import Derived.Test.YtbbkljgeddjghaaTwo
namespace Go.Proofs.Ytbbkljgeddjghaa
open Go.RowKit Go.Lx Go.Shelf
set_option linter.unusedVariables false
set_option linter.unusedSimpArgs false

/-- What is laid anew on both sides is apart. -/
theorem apart_grow {w W : World} {m rm : Option Nat} {x : Nat} {D : Dat} {c' r' : Nat} {sv' ev' cv' : Value} (h : TwoAt w m rm x D) (hsz : w.heap.size ≤ W.heap.size)
    (o1 : ∀ z, own D.t c' r' sv' z → own D.t D.c D.r D.sv z ∨ w.heap.size ≤ z) (l1 : ∀ z, own D.t c' r' sv' z → z < W.heap.size) (o2 : ∀ z, rown D.b ev' cv' z → rown D.b D.ev D.cv z ∨ W.heap.size ≤ z) :
    ∀ z, (own D.t c' r' sv' z ∨ m = some z) → ¬ (rown D.b ev' cv' z ∨ rm = some z) := by
  rintro z (hz | hz) (hr | hr)
  · have := l1 z hz
    rcases o2 z hr with hr | hr
    · rcases o1 z hz with hz | hz
      · exact h.apart z (.inl hz) (.inl hr)
      · have := h.rlt z (.inl hr); omega
    · omega
  · rcases o1 z hz with hz | hz
    · exact h.apart z (.inl hz) (.inr hr)
    · have := h.rlt z (.inr hr); omega
  · rcases o2 z hr with hr | hr
    · exact h.apart z (.inr hz) (.inl hr)
    · have := h.plt z (.inr hz); omega
  · exact h.apart z (.inr hz) (.inr hr)

/-- The program's side behind a call that turns it. -/
structure SideA (w W : World) (m : Option Nat) (D : Dat) (c' r' : Nat) (sv' : Value) (T' : Tab) (C' : Cnt) : Prop where
  tab : TabAt W m D.t c' r' sv' T'
  own : ∀ z, own D.t c' r' sv' z → own D.t D.c D.r D.sv z ∨ w.heap.size ≤ z
  mt : Mt W m C'
/-- Both sides. -/
structure SideB (w W : World) (m rm : Option Nat) (D : Dat) (c' r' : Nat) (sv' ev' cv' : Value) (T' : Tab) (C' : Cnt) : Prop where
  a : SideA w W m D c' r' sv' T' C'
  ref : RefAt W rm D.b ev' cv' T'
  rown : ∀ z, rown D.b ev' cv' z → rown D.b D.ev D.cv z ∨ w.heap.size ≤ z
  rmt : RMt W rm C'
  apart : ∀ z, (Go.Proofs.Ytbbkljgeddjghaa.own D.t c' r' sv' z ∨ m = some z) → ¬ (Go.Proofs.Ytbbkljgeddjghaa.rown D.b ev' cv' z ∨ rm = some z)
theorem SideA.kept {w W W' : World} {m : Option Nat} {D : Dat} {c' r' : Nat} {sv' : Value} {T' : Tab} {C' : Cnt} {R : Nat → Prop} (h : SideA w W m D c' r' sv' T' C') (hk : Kept R W W') (hR : ∀ z, (Go.Proofs.Ytbbkljgeddjghaa.own D.t c' r' sv' z ∨ m = some z) → ¬ R z) : SideA w W' m D c' r' sv' T' C' :=
  ⟨h.tab.kept' hk (fun z hz => hR z (.inl hz)), h.own, h.mt.kept hk (fun z hz => hR z (.inr hz))⟩
theorem SideB.kept {w W W' : World} {m rm : Option Nat} {D : Dat} {c' r' : Nat} {sv' ev' cv' : Value} {T' : Tab} {C' : Cnt} {R : Nat → Prop} (h : SideB w W m rm D c' r' sv' ev' cv' T' C') (hk : Kept R W W') (hR : ∀ z, (Go.Proofs.Ytbbkljgeddjghaa.own D.t c' r' sv' z ∨ m = some z) → ¬ R z) (hR' : ∀ z, (Go.Proofs.Ytbbkljgeddjghaa.rown D.b ev' cv' z ∨ rm = some z) → ¬ R z) : SideB w W' m rm D c' r' sv' ev' cv' T' C' :=
  ⟨h.a.kept hk hR, h.ref.kept hk (fun z hz => hR' z (.inl hz)), h.rown, h.rmt.kept hk (fun z hz => hR' z (.inr hz)), h.apart⟩
/-- From the one side to both. -/
theorem sideB_of {w W w' : World} {m rm : Option Nat} {x : Nat} {D : Dat} {c' r' : Nat} {sv' ev' cv' : Value} {T' : Tab} {C' : Cnt} {R : Nat → Prop} (h : TwoAt w m rm x D) (hsz : w.heap.size ≤ W.heap.size) (hA : SideA w W m D c' r' sv' T' C') (hk : Kept R W w') (hR : ∀ z, R z → rfoot rm D z)
    (hF : RefAt w' rm D.b ev' cv' T') (ho : ∀ z, rown D.b ev' cv' z → rown D.b D.ev D.cv z ∨ W.heap.size ≤ z) (hM : RMt w' rm C') : SideB w w' m rm D c' r' sv' ev' cv' T' C' := by
  refine ⟨hA.kept hk ?_, hF, fun z hz => (ho z hz).imp id (fun h => by omega), hM, apart_grow h hsz hA.own hA.tab.lt ho⟩
  rintro z (hz | hz) e
  · rcases hA.own z hz with hz | hz
    · exact h.apart z (.inl hz) (hR z e)
    · have := h.rlt z (hR z e); omega
  · exact h.apart z (.inr hz) (hR z e)

theorem does_add (w : World) (m rm : Option Nat) (x : Nat) (D : Dat) (n : Nat) (s : Stp) (h : TwoAt w m rm x D) (hb : Bnd D.T n) (hn : n + 1 ≤ 5000) (hs : s.kind = 1) :
    Calls Try.prog 36 #[.pointer (some ⟨x, 0, none⟩), s.agg] w (DoesPost w m rm x D n) := by
  obtain ⟨z1, z2, z3⟩ := h.sizes
  have b1 := hb.live
  have b2 := hb.turn
  have b3 := hb.births
  have b4 := hb.made
  have b5 := hb.n
  obtain ⟨C', hC'⟩ : ∃ C', C' = if D.T.tight then D.C.table else D.C := ⟨_, rfl⟩
  have hc : Calls2 w 42 91 #[.pointer (some ⟨D.t, 0, none⟩), .int .i64 s.hash, .int .i64 s.key, .int .i64 s.value] #[.pointer (some ⟨D.b, 0, none⟩), .int .i64 s.hash, .int .i64 s.key, .int .i64 s.value]
      (.tuple #[.int .i64 (if D.T.tight then D.T.grow else D.T).ents.length, .int .i64 0]) (.tuple #[.int .i64 (if D.T.tight then D.T.grow else D.T).ents.length, .int .i64 0])
      (fun W => ∃ c' r' sv', SideA w W m D c' r' sv' (D.T.add s.hash s.key s.value) C')
      (fun W => ∃ c' r' sv' ev' cv', SideB w W m rm D c' r' sv' ev' cv' (D.T.add s.hash s.key s.value) C') (pfoot m D) (rfoot rm D) x := by
    refine ⟨?_, ?_, fun u v a k => ?_, fun u v a k => ?_, h.xp, h.xr, h.plt, h.rlt⟩
    · intro W hk
      refine (addZ m D.C D.t D.c D.r D.sv D.T W s.hash s.key s.value (h.tab.kept hk (fun _ _ => id)) (h.mt.kept hk (fun _ _ => id)) (by omega) (by omega) (by omega) (by omega) (by omega) z3).mono ?_
      rintro e w' ⟨h1, c', r', sv', h2, h3, h4, h5⟩
      exact ⟨h1, ⟨c', r', sv', h2, fun z hz => (h3 z hz).imp id (fun h => Nat.le_trans hk.size h), by rw [hC']; exact h4⟩, h5⟩
    · rintro W ⟨c', r', sv', hA⟩ hk
      refine (add7_any rm D.C D.b D.ev D.cv D.T W s.hash s.key s.value (h.ref.kept hk (fun z hz e => h.apart z e (.inl hz))) (h.rmt.kept hk (fun z hz e => h.apart z e (.inr hz))) h.good h.log (by omega) (by omega) (by omega) (by omega)).mono ?_
      rintro e w' ⟨h1, ev', cv', h2, h3, h4, h5⟩
      exact ⟨h1, ⟨c', r', sv', ev', cv', sideB_of h hk.size hA h5 (fun z e => e) h2 h3 (by rw [hC']; exact h4)⟩, h5⟩
    · obtain ⟨c', r', sv', hA⟩ := a; exact ⟨c', r', sv', hA.kept k (fun _ _ => id)⟩
    · obtain ⟨c', r', sv', ev', cv', hB⟩ := a; exact ⟨c', r', sv', ev', cv', hB.kept k (fun _ _ => id) (fun _ _ => id)⟩
  refine (does1 x D.t D.b D.sp D.kp s w _ _ _ _ _ _ hs h.blk hc).mono ?_
  rintro e w' ⟨rfl, ⟨c', r', sv', ev', cv', hB⟩, hk⟩
  obtain ⟨g1, g2, g3, g4, g5, g6, g7, g8⟩ := h.good.wide (by omega)
  obtain ⟨a1, -, -⟩ := h.good.add (by omega) s.hash s.key s.value
  have ht := add_turn D.T s.hash s.key s.value
  refine turned_post h c' r' sv' ev' cv' (D.T.add s.hash s.key s.value) C' hk (fun z e => e) (.inl hB.a.tab) hB.a.mt hB.ref hB.rmt a1 hB.apart hB.a.tab.cells.hi (.inl (by omega)) (fun _ => hB.a.tab.tc.symm) hB.a.own hB.rown ⟨?_, ?_, by omega, ?_, hn⟩
  · show D.T.wide.live + 1 ≤ _; omega
  · show D.T.wide.births + 1 ≤ _; omega
  · show D.T.wide.made ≤ _; omega

theorem does_clear (w : World) (m rm : Option Nat) (x : Nat) (D : Dat) (n : Nat) (s : Stp) (h : TwoAt w m rm x D) (hb : Bnd D.T n) (hn : n + 1 ≤ 5000) (hs : s.kind = 5) :
    Calls Try.prog 36 #[.pointer (some ⟨x, 0, none⟩), s.agg] w (DoesPost w m rm x D n) := by
  have b1 := hb.live
  have b2 := hb.turn
  have b3 := hb.births
  have b4 := hb.made
  have b5 := hb.n
  have hc : Calls2 w 43 95 #[.pointer (some ⟨D.t, 0, none⟩)] #[.pointer (some ⟨D.b, 0, none⟩)] (.tuple #[]) (.tuple #[])
      (fun W => ∃ c' r' sv', SideA w W m D c' r' sv' D.T.clear D.C.table)
      (fun W => ∃ c' r' sv' ev' cv', SideB w W m rm D c' r' sv' ev' cv' D.T.clear D.C.table) (pfoot m D) (rfoot rm D) x := by
    refine ⟨?_, ?_, fun u v a k => ?_, fun u v a k => ?_, h.xp, h.xr, h.plt, h.rlt⟩
    · intro W hk
      refine (clearZ m D.C D.t D.c D.r D.sv D.T W (h.tab.kept hk (fun _ _ => id)) (h.mt.kept hk (fun _ _ => id)) (by omega) (by omega)).mono ?_
      rintro e w' ⟨h1, c', r', h2, h3, h4, h5, h6⟩
      have hs := hk.size
      refine ⟨h1, ⟨c', r', _, h4, ?_, h5⟩, h6.mono (fun z _ e => e.elim (fun e => .inl (.inl e)) .inr)⟩
      rintro z (e | e | e | e)
      · exact .inl (.inl e)
      · exact .inr (by omega)
      · exact .inr (by omega)
      · cases e
    · rintro W ⟨c', r', sv', hA⟩ hk
      refine (clear7_any rm D.C D.b D.ev D.cv D.T W (h.ref.kept hk (fun z hz e => h.apart z e (.inl hz))) (h.rmt.kept hk (fun z hz e => h.apart z e (.inr hz))) (by omega) (by omega)).mono ?_
      rintro e w' ⟨h1, ev', cv', h2, h3, h4, h5⟩
      have h5' : Kept (rfoot rm D) W w' := h5.mono (fun z _ e => e.elim (fun e => .inl (.inl e)) .inr)
      exact ⟨h1, ⟨c', r', sv', ev', cv', sideB_of h hk.size hA h5' (fun z e => e) h2 (fun z hz => (h3 z hz).imp (fun e => .inl e) id) h4⟩, h5'⟩
    · obtain ⟨c', r', sv', hA⟩ := a; exact ⟨c', r', sv', hA.kept k (fun _ _ => id)⟩
    · obtain ⟨c', r', sv', ev', cv', hB⟩ := a; exact ⟨c', r', sv', ev', cv', hB.kept k (fun _ _ => id) (fun _ _ => id)⟩
  refine (does5 x D.t D.b D.sp D.kp s w _ _ _ _ hs h.blk hc).mono ?_
  rintro e w' ⟨rfl, ⟨c', r', sv', ev', cv', hB⟩, hk⟩
  refine turned_post h c' r' sv' ev' cv' D.T.clear D.C.table hk (fun z e => e) (.inl hB.a.tab) hB.a.mt hB.ref hB.rmt h.good.clear.1 hB.apart hB.a.tab.cells.hi (.inl (Nat.lt_succ_self _)) (fun _ => hB.a.tab.tc.symm) hB.a.own hB.rown ⟨?_, ?_, ?_, ?_, hn⟩
  · show 0 ≤ _; omega
  · show D.T.births ≤ _; omega
  · show D.T.turn + 1 ≤ _; omega
  · show D.T.made + 1 ≤ _; omega

theorem does_copy (w : World) (m rm : Option Nat) (x : Nat) (D : Dat) (n : Nat) (s : Stp) (h : TwoAt w m rm x D) (hb : Bnd D.T n) (hn : n + 1 ≤ 5000) (hs : s.kind = 6) :
    Calls Try.prog 36 #[.pointer (some ⟨x, 0, none⟩), s.agg] w (DoesPost w m rm x D n) := by
  obtain ⟨z1, z2, z3⟩ := h.sizes
  have b1 := hb.live
  have b2 := hb.turn
  have b3 := hb.births
  have b4 := hb.made
  have b5 := hb.n
  have hxl : x < w.heap.size := Blk.lt h.blk
  have hmx : m ≠ some x := fun e => h.xp (.inr e)
  have hrx : rm ≠ some x := fun e => h.xr (.inr e)
  have hc : CallsNew w 28 35 #[.pointer (some ⟨D.t, 0, none⟩)] #[.pointer (some ⟨D.b, 0, none⟩)]
      (fun p W => ∃ c' r' sv', TabAt W m p c' r' sv' D.T.copy ∧ (∀ z, own p c' r' sv' z → w.heap.size ≤ z) ∧ Mt W m D.C.table)
      (fun p q W => ∃ c' r' sv' ev' cv', TabAt W m p c' r' sv' D.T.copy ∧ (∀ z, own p c' r' sv' z → w.heap.size ≤ z) ∧ Mt W m D.C.table ∧ RefAt W rm q ev' cv' D.T.copy ∧ (∀ z, rown q ev' cv' z → w.heap.size ≤ z ∧ ¬ own p c' r' sv' z) ∧ RMt W rm D.C.table)
      (fun z => m = some z) (fun z => rm = some z) x := by
    refine ⟨?_, ?_, fun p u v a k => ?_, fun p q u v a k => ?_, hmx, hrx, h.mt.lt, h.rmt.lt'⟩
    · intro W hk
      refine (copyZ m D.C D.t D.c D.r D.sv D.T W (h.tab.kept hk (fun _ _ => id)) (h.mt.kept hk (fun _ _ => id)) (by omega) (by omega) z3).mono ?_
      rintro e w' ⟨t', c', r', sv', h1, h2, h3, h4, h5⟩
      exact ⟨t', h1, ⟨c', r', sv', h2, fun z hz => Nat.le_trans hk.size (h3 z hz), h4⟩, h5⟩
    · rintro p W ⟨c', r', sv', hA1, hA2, hA3⟩ hk
      have hnr : ∀ z, rfoot rm D z → ¬ (m = some z ∨ z = x) := fun z hz e => e.elim (fun e => h.apart z (.inr e) hz) (fun e => h.xr (e ▸ hz))
      refine (copy7_any rm D.C D.b D.ev D.cv D.T W (h.ref.kept hk (fun z hz => hnr z (.inl hz))) (h.rmt.kept hk (fun z hz => hnr z (.inr hz))) h.good (by omega) (by omega)).mono ?_
      rintro e w' ⟨b', ev', cv', h1, h2, h3, h4, h5⟩
      have hs := hk.size
      refine ⟨b', h1, ⟨c', r', sv', ev', cv', hA1.kept' h5 (fun z hz e => ?_), hA2, hA3.kept h5 (fun z hz e => h.apart z (.inr hz) (.inr e)), h2, fun z hz => ⟨Nat.le_trans hs (h3 z hz), fun e => ?_⟩, h4⟩, h5⟩
      · have := h.rlt z (.inr e); have := hA2 z hz; omega
      · have := hA1.lt z e; have := h3 z hz; omega
    · obtain ⟨c', r', sv', a1, a2, a3⟩ := a
      exact ⟨c', r', sv', a1.kept' k (fun z hz e => by have := a2 z hz; omega), a2, a3.kept k (fun z hz e => hmx (by rw [hz, e]))⟩
    · obtain ⟨c', r', sv', ev', cv', a1, a2, a3, a4, a5, a6⟩ := a
      exact ⟨c', r', sv', ev', cv', a1.kept' k (fun z hz e => by have := a2 z hz; omega), a2, a3.kept k (fun z hz e => hmx (by rw [hz, e])), a4.kept k (fun z hz e => by have := (a5 z hz).1; omega), a5, a6.kept k (fun z hz e => hrx (by rw [hz, e]))⟩
  refine (does6 x D.t D.b D.sp D.kp s w _ _ _ _ hs h.blk hc).mono ?_
  rintro e w' ⟨rfl, p, q, ⟨c', r', sv', ev', cv', a1, a2, a3, a4, a5, a6⟩, hx', hk⟩
  obtain ⟨g1, g2, g3, g4, g5⟩ := h.good.copy (by omega)
  refine ⟨rfl, ⟨p, c', r', sv', q, ev', cv', none, D.kp, D.T.copy, D.C.table⟩, ⟨hx', .inl a1, a3, a4, a6, g1, ?_, g4, .inl rfl⟩, ⟨by show D.T.copy.live ≤ _; omega, ?_, Nat.zero_le _, ?_, hn⟩, ?_, hk.mono (fun z _ e => ?_)⟩
  · rintro z (hz | hz) (hr | hr)
    · exact (a5 z hr).2 hz
    · have := h.rlt z (.inr hr); have := a2 z hz; omega
    · have := h.plt z (.inr hz); have := (a5 z hr).1; omega
    · exact h.apart z (.inr hz) (.inr hr)
  · show D.T.copy.births ≤ _
    have e : D.T.copy.births = D.T.copy.live := rfl
    omega
  · show 1 ≤ _; omega
  · rintro z (e | (e | e) | (e | e) | e)
    · exact .inl (.inl e)
    · exact .inr (a2 z e)
    · exact .inl (.inr (.inl (.inr e)))
    · exact .inr (a5 z e).1
    · exact .inl (.inr (.inr (.inl (.inr e))))
    · obtain ⟨s', k', e1, _⟩ := e; cases e1
  · rcases e with e | e | e
    · exact .inr (.inl (.inr e))
    · exact .inr (.inr (.inl (.inr e)))
    · exact .inl e

theorem does_seek (w : World) (m rm : Option Nat) (x : Nat) (D : Dat) (n : Nat) (s : Stp) (h : TwoAt w m rm x D) (hb : Bnd D.T n) (hn : n + 1 ≤ 5000) (hs : s.kind = 7) :
    Calls Try.prog 36 #[.pointer (some ⟨x, 0, none⟩), s.agg] w (DoesPost w m rm x D n) := by
  have hxl : x < w.heap.size := Blk.lt h.blk
  have hmx : m ≠ some x := fun e => h.xp (.inr e)
  have hrx : rm ≠ some x := fun e => h.xr (.inr e)
  have hc : CallsNew w 29 96 #[.pointer (some ⟨D.t, 0, none⟩), .int .i64 s.hash] #[.pointer (some ⟨D.b, 0, none⟩), .int .i64 s.hash]
      (fun p W => ∃ c' r' sv', SideA w W m D c' r' sv' D.T D.C ∧ w.heap.size ≤ p ∧ SeekAt W p D.t D.T.log s.hash 0 D.T.turn 0 (-1) false)
      (fun p q W => ∃ c' r' sv', SideB w W m rm D c' r' sv' D.ev D.cv D.T D.C ∧ w.heap.size ≤ p ∧ w.heap.size ≤ q ∧ SeekAt W p D.t D.T.log s.hash 0 D.T.turn 0 (-1) false ∧ RSeekAt W q D.b D.T.log s.hash 0 D.T.turn 0 (-1) false)
      (own D.t D.c D.r D.sv) Nil x := by
    refine ⟨?_, ?_, fun p u v a k => ?_, fun p q u v a k => ?_, fun e => h.xp (.inl e), id, h.tab.lt, fun _ e => e.elim⟩
    · intro W hk
      refine (seekZ m D.C D.t D.c D.r D.sv D.T s.hash W (h.tab.kept hk (fun _ _ => id)) (h.mt.kept hk (fun _ _ => id))).mono ?_
      rintro e w' ⟨p, h1, h2, h3, ⟨c', r', sv', h4, h5⟩, h6, h7⟩
      exact ⟨p, h1, ⟨c', r', sv', ⟨h4, fun z hz => (h5 z hz).imp id (fun h => Nat.le_trans hk.size h), h6⟩, Nat.le_trans hk.size h2, h3⟩, h7⟩
    · rintro p W ⟨c', r', sv', hA, hp, hsk⟩ hk
      have hnr : ∀ z, rfoot rm D z → ¬ (own D.t D.c D.r D.sv z ∨ z = x) := fun z hz e => e.elim (fun e => h.apart z (.inl e) hz) (fun e => h.xr (e ▸ hz))
      have hR := h.ref.kept hk (fun z hz => hnr z (.inl hz))
      have hM := h.rmt.kept hk (fun z hz => hnr z (.inr hz))
      refine (seek7_any rm D.b D.ev D.cv D.T s.hash W hR h.log).mono ?_
      rintro e w' ⟨q, h1, h2, h3, h4⟩
      exact ⟨q, h1, ⟨c', r', sv', sideB_of (R := Nil) h hk.size hA h4 (fun _ e => e.elim) (hR.kept h4 (fun _ _ => id)) (fun z hz => .inl hz) (hM.kept h4 (fun _ _ => id)), hp, Nat.le_trans hk.size h2, Blk.kept hsk h4 id, h3⟩, h4⟩
    · obtain ⟨c', r', sv', a1, a2, a3⟩ := a
      refine ⟨c', r', sv', a1.kept k ?_, a2, Blk.kept a3 k (by omega)⟩
      rintro z (hz | hz) e
      · subst e
        rcases a1.own z hz with e | e
        · exact h.xp (.inl e)
        · omega
      · exact hmx (by rw [hz, e])
    · obtain ⟨c', r', sv', a1, a2, a3, a4, a5⟩ := a
      refine ⟨c', r', sv', a1.kept k ?_ ?_, a2, a3, Blk.kept a4 k (by omega), Blk.kept a5 k (by omega)⟩
      · rintro z (hz | hz) e
        · subst e
          rcases a1.a.own z hz with e | e
          · exact h.xp (.inl e)
          · omega
        · exact hmx (by rw [hz, e])
      · rintro z (hz | hz) e
        · subst e; exact h.xr (.inl hz)
        · exact hrx (by rw [hz, e])
  refine (does7 x D.t D.b D.sp D.kp s w _ _ _ _ hs h.blk hc).mono ?_
  rintro e w' ⟨rfl, p, q, ⟨c', r', sv', a1, a2, a3, a4, a5⟩, hx', hk⟩
  refine ⟨rfl, { D with c := c', r := r', sv := sv', sp := some ⟨p, 0, none⟩, kp := some ⟨q, 0, none⟩ }, ⟨hx', .inl a1.a.tab, a1.a.mt, a1.ref, a1.rmt, h.good, a1.apart, h.log, .inr ⟨p, q, rfl, rfl, .inl ⟨s.hash, 0, -1, a4, a5, Sought.start _ _⟩, a1.a.tab.tc.symm⟩⟩,
    ⟨Nat.le_succ_of_le hb.live, Nat.le_succ_of_le hb.births, Nat.le_succ_of_le hb.turn, Nat.le_succ_of_le hb.made, hn⟩, ?_, hk.mono (fun z _ e => ?_)⟩
  · rintro z (e | (e | e) | e | e)
    · exact .inl (.inl e)
    · exact (a1.a.own z e).imp (fun e => .inr (.inl (.inl e))) id
    · exact .inl (.inr (.inl (.inr e)))
    · exact .inl (.inr (.inr (.inl e)))
    · obtain ⟨s', k', e1, e2, e3⟩ := e
      simp at e1 e2
      rcases e3 with e3 | e3
      · exact .inr (by omega)
      · exact .inr (by omega)
  · rcases e with e | e | e
    · exact .inr (.inl (.inl e))
    · exact e.elim
    · exact .inl e
end Go.Proofs.Ytbbkljgeddjghaa
