/-
  What is proved: lexiconlaw7's does, as one contract: the Seekers' Next; all kinds.
-/
import Derived.Test.YtbbkljgeddjghaaTwoB
namespace Go.Proofs.Ytbbkljgeddjghaa
open Go.RowKit Go.Lx Go.Shelf
set_option linter.unusedVariables false
set_option linter.unusedSimpArgs false

/-- The reference's Next has not come yet. -/
def MidNext (W : World) (m rm : Option Nat) (x s k : Nat) (D : Dat) (v : Int) (ok : Bool) (nv : Int) : Prop :=
  ∃ C' C'', TwoBlk W x D.t D.b (some ⟨s, 0, none⟩) (some ⟨k, 0, none⟩) ∧ TabAt W m D.t D.c D.r D.sv D.T ∧ Mt W m C'' ∧ RefAt W rm D.b D.ev D.cv D.T ∧ RMt W rm C' ∧
    ((∃ (hash : Int) (i : Nat) (told : Int) (j : Nat), RSeekAt W k D.b D.T.log hash i D.T.turn i told false ∧ Sought D.T hash i told ∧ i ≤ j ∧ (∀ l, i ≤ l → l < j → passes D.T hash told l) ∧ nv = (j + 1 : Nat) ∧ C'' = C'.visits (j - i + 1) ∧
        ((D.T.cells[tc D.T.log hash j]? = some (-1) ∧ v = -1 ∧ ok = false ∧ SeekAt W s D.t D.T.log hash j D.T.turn (j + 1 : Nat) told true) ∨
         (∃ y, D.T.cells[tc D.T.log hash j]? = some v ∧ told < v ∧ D.T.ents[v.toNat]? = some y ∧ y.hash = hash ∧ ok = true ∧ SeekAt W s D.t D.T.log hash (j + 1) D.T.turn (j + 1 : Nat) v false))) ∨
     (∃ (hash : Int) (log i j : Nat) (turns : Nat) (told told' : Int) (over : Bool), v = -1 ∧ ok = false ∧ C'' = C' ∧ SeekAt W s D.t log hash i turns nv told true ∧ RSeekAt W k D.b log hash j turns nv told' over ∧ (over = true ∨ turns < D.T.turn)))

theorem does_next (w : World) (m rm : Option Nat) (x : Nat) (D : Dat) (n : Nat) (s : Stp) (h : TwoAt w m rm x D) (hb : Bnd D.T n) (hn : n + 1 ≤ 5000) (hs : s.kind = 8) :
    Calls Try.prog 36 #[.pointer (some ⟨x, 0, none⟩), s.agg] w (DoesPost w m rm x D n) := by
  have hbn : Bnd D.T (n + 1) := ⟨Nat.le_succ_of_le hb.live, Nat.le_succ_of_le hb.births, Nat.le_succ_of_le hb.turn, Nat.le_succ_of_le hb.made, hn⟩
  by_cases hsp : D.sp = none
  · have hx := h.blk
    rw [hsp] at hx
    refine (does8n x D.t D.b D.kp s w hs hx).mono ?_
    rintro e w' ⟨rfl, hk⟩
    exact ⟨rfl, D, h.kept hk (fun _ _ => id), hbn, fun z hz => .inl hz, hk.mono (fun _ _ h => h.elim)⟩
  obtain ⟨p, q, hp, hq, hsk, hct⟩ := h.seek.resolve_left hsp
  have h15 := le_two D.T.log h.log
  have hcell : ∀ (i : Nat) (v : Int), D.T.cells[i]? = some v → v < D.T.ents.length := fun i v hv => (h.good.cell_ok i v hv).1
  -- what is apart
  have hap : ∀ (W : World), TwoBlk W x D.t D.b (some ⟨p, 0, none⟩) (some ⟨q, 0, none⟩) → (∃ vs, Blk W p 153 vs) → (∃ vs, Blk W q 162 vs) → p ≠ x ∧ q ≠ x ∧ p ≠ q :=
    fun W hx ⟨_, hp⟩ ⟨_, hq⟩ => ⟨Blk.ne hp hx (by decide), Blk.ne hq hx (by decide), Blk.ne hp hq (by decide)⟩
  have hc : CallsNext w p q x (fun W => ∃ C', TwoAt W m rm x { D with C := C' }) (fun v ok nv W => MidNext W m rm x p q D v ok nv) (fun z => z = p ∨ z = q ∨ m = some z ∨ rm = some z) := by
    refine ⟨?_, ?_, ?_, ?_, ?_, ?_⟩
    · rintro W ⟨C', hW⟩
      have hx : TwoBlk W x D.t D.b (some ⟨p, 0, none⟩) (some ⟨q, 0, none⟩) := by have := hW.blk; simp only [hp, hq] at this; exact this
      have hT : TabAt W m D.t D.c D.r D.sv D.T := hW.tab.at hct
      have hsW : SeekPair W D.t D.b p q D.T := by
        rcases hW.seek with e | ⟨s', k', e1, e2, e3, _⟩
        · exact (hsp e).elim
        · simp only [hp, hq] at e1 e2
          cases e1; cases e2; exact e3
      obtain ⟨⟨vs, b1⟩, ⟨vs', b2⟩⟩ := hsW.blks
      obtain ⟨n1, n2, n3⟩ := hap W hx ⟨_, b1⟩ ⟨_, b2⟩
      have hmp : m ≠ some p := hW.mt.not b1 (by decide)
      have hmx : m ≠ some x := hW.mt.not hx (by decide)
      have hmq : m ≠ some q := hW.mt.not b2 (by decide)
      have hrR : ∀ z, rfoot rm D z → ¬ (z = p ∨ m = some z) := by
        rintro z hz (e | e)
        · subst e; exact hW.rnot b1 (by decide) (by decide) (by decide) (by decide) hz
        · exact hW.apart z (.inr e) hz
      have hoR : ∀ z, own D.t D.c D.r D.sv z → ¬ (z = p ∨ m = some z) := by
        rintro z hz (e | e)
        · subst e; exact hW.pnot b1 (by decide) (by decide) (by decide) (by decide) (by decide) (by decide) (.inl hz)
        · exact hW.tab.mnot hW.mt z e hz
      rcases hsW with ⟨hash, i, told, a1, a2, a3⟩ | ⟨hash, log, i, j, turns, visited, told, told', ended, over, a1, a2, a3, a4⟩
      · obtain ⟨E, e1, e2, e3, e4⟩ := a3.blank h.good
        refine (next_in m C' D.t D.c D.r p i E D.sv D.T hash i told W hT hW.mt a1 hmp (by omega) a3.low e2 e3 (by omega) hcell).mono ?_
        rintro e w' ⟨j, j1, j2, j3, j4, j5, j6⟩
        have hk6 := j6
        have hx' : TwoBlk w' x D.t D.b (some ⟨p, 0, none⟩) (some ⟨q, 0, none⟩) := Blk.kept hx j6 (fun e => e.elim (fun e => n1 e.symm) hmx)
        have hT' := hT.kept' j6 hoR
        have hF' := hW.ref.kept j6 (fun z hz => hrR z (.inl hz))
        have hM' := hW.rmt.kept j6 (fun z hz => hrR z (.inr hz))
        have hq' : RSeekAt w' q D.b D.T.log hash i D.T.turn i told false := Blk.kept a2 j6 (fun e => e.elim (fun e => n3 e.symm) hmq)
        have hkk : Kept (fun z => z = p ∨ z = q ∨ m = some z ∨ rm = some z) W w' := j6.mono (fun z _ e => e.elim .inl (fun e => .inr (.inr (.inl e))))
        have hvis : ((i : Int) + ((j - i : Nat) : Int) + 1) = ((j + 1 : Nat) : Int) := by omega
        rw [hvis] at j4
        rcases j4 with ⟨b1, rfl, b3⟩ | ⟨v, y, b1, b2, b3, b4, rfl, b5⟩
        · exact ⟨-1, false, _, rfl, ⟨C', _, hx', hT', j5, hF', hM', .inl ⟨hash, i, told, j, hq', a3, j1, j3, rfl, rfl, .inl ⟨b1, rfl, rfl, b3⟩⟩⟩, hkk⟩
        · exact ⟨v, true, _, rfl, ⟨C', _, hx', hT', j5, hF', hM', .inl ⟨hash, i, told, j, hq', a3, j1, j3, rfl, rfl, .inr ⟨y, b1, b2, b3, b4, rfl, b5⟩⟩⟩, hkk⟩
      · refine (next_over D.t p log i (Blk.ne b1 hT.head (by decide)) hash turns visited told D.T.turn ended W (hT.head.cell 6) a1 (a3.imp id (fun h => by omega))).mono ?_
        rintro e w' ⟨rfl, j4, j6⟩
        have hx' : TwoBlk w' x D.t D.b (some ⟨p, 0, none⟩) (some ⟨q, 0, none⟩) := Blk.kept hx j6 (fun e => n1 e.symm)
        exact ⟨-1, false, visited, rfl, ⟨C', C', hx', hT.kept' j6 (fun z hz e => hoR z hz (.inl e)), hW.mt.kept j6 (fun z hz e => hmp (by rw [hz, e])), hW.ref.kept j6 (fun z hz e => hrR z (.inl hz) (.inl e)), hW.rmt.kept j6 (fun z hz e => hrR z (.inr hz) (.inl e)),
          .inr ⟨hash, log, i, j, turns, told, told', over, rfl, rfl, rfl, j4, Blk.kept a2 j6 (fun e => n3 e.symm), a4⟩⟩, j6.mono (fun z _ e => .inl e)⟩
    · rintro v ok nv W ⟨C', C'', hx, hT, hM, hF, hRM, hst⟩
      have bp : ∃ vs, Blk W p 153 vs := by
        rcases hst with ⟨_, _, _, _, _, _, _, _, _, _, h9⟩ | ⟨_, _, _, _, _, _, _, _, _, _, _, h9, _⟩
        · rcases h9 with ⟨_, _, _, h9⟩ | ⟨_, _, _, _, _, _, h9⟩
          · exact ⟨_, h9⟩
          · exact ⟨_, h9⟩
        · exact ⟨_, h9⟩
      have bq : ∃ vs, Blk W q 162 vs := by
        rcases hst with ⟨_, _, _, _, h9, _⟩ | ⟨_, _, _, _, _, _, _, _, _, _, _, _, h9, _⟩
        · exact ⟨_, h9⟩
        · exact ⟨_, h9⟩
      obtain ⟨n1, n2, n3⟩ := hap W hx bp bq
      obtain ⟨vsp, b1⟩ := bp
      obtain ⟨vsq, b2⟩ := bq
      have hrx : rm ≠ some x := hRM.not hx (by decide)
      have hrp : rm ≠ some p := hRM.not b1 (by decide)
      have hrq : rm ≠ some q := hRM.not b2 (by decide)
      have hmq : m ≠ some q := hM.not b2 (by decide)
      have hoR : ∀ z, own D.t D.c D.r D.sv z → ¬ (z = q ∨ rm = some z) := by
        rintro z hz (e | e)
        · subst e; exact TabZ.not (.inl hT) b2 (by decide) (by decide) (by decide) (by decide) (by decide) hz
        · exact h.apart z (.inl hz) (.inr e)
      have hmR : ∀ z, m = some z → ¬ (z = q ∨ rm = some z) := by
        rintro z hz (e | e)
        · exact hmq (by rw [hz, e])
        · exact h.apart z (.inr hz) (.inr e)
      have hnR : ∀ z, rown D.b D.ev D.cv z → ¬ (z = q ∨ rm = some z) := by
        rintro z hz (e | e)
        · subst e; exact hF.not b2 (by decide) (by decide) (by decide) hz
        · exact hF.mnot hRM z e hz
      rcases hst with ⟨hash, i, told, j, a1, a2, a3, a4, rfl, rfl, a7⟩ | ⟨hash, log, i, j, turns, told, told', over, rfl, rfl, rfl, a4, a5, a6⟩
      · obtain ⟨E, e1, e2, e3, e4⟩ := a2.blank h.good
        refine (next7_in rm C' D.b q i E D.ev D.cv D.T hash i told W hF hRM a1 h.log h.good.cg.len (by omega) a2.low e2 e3 (by omega) hcell).mono ?_
        rintro e w' ⟨j', j1, j2, j3, j4, j5, j6⟩
        -- the place is the same
        have np : ¬ passes D.T hash told j := by
          rintro ⟨u, u1, u2, u3⟩
          rcases a7 with ⟨c1, _⟩ | ⟨y, c1, c2, c3, c4, _⟩
          · rw [c1] at u1; cases u1; exact u2 rfl
          · rw [c1] at u1; cases u1; exact u3 y c2 c3 c4
        have np' : ¬ passes D.T hash told j' := by
          rintro ⟨u, u1, u2, u3⟩
          rcases j4 with ⟨c1, _⟩ | ⟨v', y, c1, c2, c3, c4, _⟩
          · rw [c1] at u1; cases u1; exact u2 rfl
          · rw [c1] at u1; cases u1; exact u3 y c2 c3 c4
        have hjj : j' = j := by
          rcases Nat.lt_trichotomy j' j with e | e | e
          · exact (np' (a4 j' j1 e)).elim
          · exact e
          · exact (np (j3 j a3 e)).elim
        subst hjj
        have hvis : ((i : Int) + ((j' - i : Nat) : Int) + 1) = ((j' + 1 : Nat) : Int) := by omega
        rw [hvis] at j4
        have hx' : TwoBlk w' x D.t D.b (some ⟨p, 0, none⟩) (some ⟨q, 0, none⟩) := Blk.kept hx j6 (fun e => e.elim (fun e => n2 e.symm) hrx)
        have hT' := hT.kept' j6 hoR
        have hM' := hM.kept j6 hmR
        have hF' := hF.kept j6 hnR
        have hpR : ¬ (p = q ∨ rm = some p) := fun e => e.elim n3 hrp
        have hkk : Kept (fun z => z = p ∨ z = q ∨ m = some z ∨ rm = some z) W w' := j6.mono (fun z _ e => e.elim (fun e => .inr (.inl e)) (fun e => .inr (.inr (.inr e))))
        have hlow := a2.low
        rcases a7 with ⟨c1, rfl, rfl, c4⟩ | ⟨y, c1, c2, c3, c4, rfl, c5⟩
        · rcases j4 with ⟨d1, rfl, d3⟩ | ⟨v', y', d1, d2, d3, d4, rfl, d5⟩
          · have hs' : SeekAt w' p D.t D.T.log hash j' D.T.turn (j' + 1 : Nat) told true := Blk.kept c4 j6 hpR
            exact ⟨rfl, ⟨C'.visits (j' - i + 1), ⟨by simp only [hp, hq]; exact hx', .inl hT', hM', hF', j5, h.good, h.apart, h.log, .inr ⟨p, q, hp, hq, .inr ⟨hash, D.T.log, j', j' + 1, D.T.turn, (j' + 1 : Nat), told, told, true, true, hs', d3, .inl rfl, .inl rfl⟩, hct⟩⟩⟩, Blk.cell hs' 5, Blk.cell d3 6, hkk⟩
          · rw [c1] at d1; simp at d1; omega
        · rcases j4 with ⟨d1, rfl, d3⟩ | ⟨v', y', d1, d2, d3, d4, rfl, d5⟩
          · rw [c1] at d1; simp at d1; omega
          · rw [c1] at d1; cases d1
            have hs' : SeekAt w' p D.t D.T.log hash (j' + 1) D.T.turn (j' + 1 : Nat) v false := Blk.kept c5 j6 hpR
            have hso := (a2.found h.good a3 a4 c1 c2 c3 c4).2.2.2
            exact ⟨rfl, ⟨C'.visits (j' - i + 1), ⟨by simp only [hp, hq]; exact hx', .inl hT', hM', hF', j5, h.good, h.apart, h.log, .inr ⟨p, q, hp, hq, .inl ⟨hash, j' + 1, v, hs', d5, hso⟩, hct⟩⟩⟩, Blk.cell hs' 5, Blk.cell d5 6, hkk⟩
      · refine (next7_over q D.b log j hash turns nv told' D.T.turn over W (hF.head.cell 6) a5 (a6.imp id (fun h => by omega))).mono ?_
        rintro e w' ⟨rfl, j4, j6⟩
        have hx' : TwoBlk w' x D.t D.b (some ⟨p, 0, none⟩) (some ⟨q, 0, none⟩) := Blk.kept hx j6 (fun e => n2 e.symm)
        have hs' : SeekAt w' p D.t log hash i turns nv told true := Blk.kept a4 j6 n3
        exact ⟨rfl, ⟨C'', ⟨by simp only [hp, hq]; exact hx', .inl (hT.kept' j6 (fun z hz e => hoR z hz (.inl e))), hM.kept j6 (fun z hz e => hmR z hz (.inl e)), hF.kept j6 (fun z hz e => hnR z hz (.inl e)), hRM.kept j6 (fun z hz e => hrq (by rw [hz, e])), h.good, h.apart, h.log,
          .inr ⟨p, q, hp, hq, .inr ⟨hash, log, i, j, turns, nv, told, told', true, true, hs', j4, .inl rfl, .inl rfl⟩, hct⟩⟩⟩, Blk.cell hs' 5, Blk.cell j4 6, j6.mono (fun z _ e => .inr (.inl e))⟩
    · rintro W ⟨C', hW⟩
      have hx := hW.blk
      simp only [hp, hq] at hx
      exact ⟨Blk.cell hx 2, Blk.cell hx 3⟩
    · rintro v ok nv W ⟨C', C'', hx, _⟩
      exact Blk.cell hx 3
    · rintro u v ⟨C', hu⟩ hk
      exact ⟨C', hu.kept hk (fun _ _ => id)⟩
    · obtain ⟨f1, f2⟩ := sfoot_of hp hq
      rintro z (e | e | e | e)
      · subst e; exact (h.slt _ f1).1
      · subst e; exact (h.slt _ f2).1
      · exact h.plt z (.inr e)
      · exact h.rlt z (.inr e)
  refine (does8 x p q s w _ _ _ hs ⟨D.C, h⟩ hc).mono ?_
  rintro e w' ⟨rfl, ⟨C', hW⟩, hk⟩
  obtain ⟨f1, f2⟩ := sfoot_of hp hq
  refine ⟨rfl, { D with C := C' }, hW, hbn, fun z hz => .inl hz, hk.mono (fun z _ e => ?_)⟩
  rcases e with e | e | e | e
  · subst e; exact .inr (.inr (.inr f1))
  · subst e; exact .inr (.inr (.inr f2))
  · exact .inr (.inl (.inr e))
  · exact .inr (.inr (.inl (.inr e)))

/-- Whatever the step is. -/
theorem does_any (w : World) (m rm : Option Nat) (x : Nat) (D : Dat) (n : Nat) (s : Stp) (h : TwoAt w m rm x D) (hb : Bnd D.T n) (hn : n + 1 ≤ 5000) :
    Calls Try.prog 36 #[.pointer (some ⟨x, 0, none⟩), s.agg] w (DoesPost w m rm x D n) := by
  by_cases h1 : s.kind = 1
  · exact does_add w m rm x D n s h hb hn h1
  by_cases h2 : s.kind = 2
  · exact does_put w m rm x D n s h hb hn h2
  by_cases h3 : s.kind = 3
  · exact does_kill w m rm x D n s h hb hn h3
  by_cases h4 : s.kind = 4
  · exact does_at w m rm x D n s h hb hn h4
  by_cases h5 : s.kind = 5
  · exact does_clear w m rm x D n s h hb hn h5
  by_cases h6 : s.kind = 6
  · exact does_copy w m rm x D n s h hb hn h6
  by_cases h7 : s.kind = 7
  · exact does_seek w m rm x D n s h hb hn h7
  by_cases h8 : s.kind = 8
  · exact does_next w m rm x D n s h hb hn h8
  exact does_other w m rm x D n s h hb hn (by omega)
end Go.Proofs.Ytbbkljgeddjghaa
