/-
  What is proved: lexiconlaw7's does, as one contract: both tables remain the same model table; it answers true.
-/
import Derived.Test.YtbbkljgeddjghaaZero
import Derived.Test.YtbbkljgeddjghaaDoesB
import Derived.Test.YtbbkljgeddjghaaDoesN
namespace Go.Proofs.Ytbbkljgeddjghaa
open Go.RowKit Go.Lx Go.Shelf
set_option linter.unusedVariables false
set_option linter.unusedSimpArgs false

/-- What the two tables and their Seekers are made of. -/
structure Dat where
  t : Nat
  c : Nat
  r : Nat
  sv : Value
  b : Nat
  ev : Value
  cv : Value
  sp : Option Addr
  kp : Option Addr
  T : Tab
  C : Cnt

def pfoot (m : Option Nat) (D : Dat) (z : Nat) : Prop := own D.t D.c D.r D.sv z ∨ m = some z
def rfoot (rm : Option Nat) (D : Dat) (z : Nat) : Prop := rown D.b D.ev D.cv z ∨ rm = some z
def sfoot (D : Dat) (z : Nat) : Prop := ∃ s k, D.sp = some ⟨s, 0, none⟩ ∧ D.kp = some ⟨k, 0, none⟩ ∧ (z = s ∨ z = k)
/-- All blocks of them. -/
def foot (m rm : Option Nat) (x : Nat) (D : Dat) (z : Nat) : Prop := z = x ∨ pfoot m D z ∨ rfoot rm D z ∨ sfoot D z

/-- The last Seekers of both go alike. -/
def SeekPair (w : World) (t b s k : Nat) (T : Tab) : Prop :=
  (∃ (hash : Int) (i : Nat) (told : Int), SeekAt w s t T.log hash i T.turn i told false ∧ RSeekAt w k b T.log hash i T.turn i told false ∧ Sought T hash i told) ∨
  (∃ (hash : Int) (log i j : Nat) (turns : Nat) (visited told told' : Int) (ended over : Bool), SeekAt w s t log hash i turns visited told ended ∧ RSeekAt w k b log hash j turns visited told' over ∧
    (ended = true ∨ turns < T.turn) ∧ (over = true ∨ turns < T.turn))

structure TwoAt (w : World) (m rm : Option Nat) (x : Nat) (D : Dat) : Prop where
  blk : TwoBlk w x D.t D.b D.sp D.kp
  tab : TabZ w m D.t D.c D.r D.sv D.T
  mt : Mt w m D.C
  ref : RefAt w rm D.b D.ev D.cv D.T
  rmt : RMt w rm D.C
  good : GoodT D.T
  apart : ∀ z, pfoot m D z → ¬ rfoot rm D z
  log : D.T.log ≤ 15
  seek : D.sp = none ∨ ∃ s k, D.sp = some ⟨s, 0, none⟩ ∧ D.kp = some ⟨k, 0, none⟩ ∧ SeekPair w D.t D.b s k D.T ∧ D.c ≠ D.t

/-- How great the numbers of a table are, so many calls behind its beginning. -/
structure Bnd (T : Tab) (n : Nat) : Prop where
  live : T.live ≤ n
  births : T.births ≤ n
  turn : T.turn ≤ n
  made : T.made ≤ n + 1
  n : n ≤ 5000

theorem Mt.lt {w : World} {m : Option Nat} {C : Cnt} (h : Mt w m C) : ∀ z, m = some z → z < w.heap.size := by
  intro z hz; subst hz
  exact Blk.lt (c := [.int .i64 C.tables, .int .i64 C.cells, .int .i64 C.values, .int .i64 C.shifts]) h
theorem Mt.not {w : World} {m : Option Nat} {C : Cnt} (h : Mt w m C) {x : Nat} {ty : TypeId} {vs : List Value} (hx : Blk w x ty vs) (h1 : ty ≠ 71) : m ≠ some x := by
  rintro rfl
  exact hx.ne (b' := x) (c' := [.int .i64 C.tables, .int .i64 C.cells, .int .i64 C.values, .int .i64 C.shifts]) h h1 rfl
theorem RMt.not {w : World} {m : Option Nat} {C : Cnt} (h : RMt w m C) {x : Nat} {ty : TypeId} {vs : List Value} (hx : Blk w x ty vs) (h1 : ty ≠ 76) : m ≠ some x := by
  rintro rfl
  exact hx.ne (b' := x) (c' := [.int .i64 C.tables, .int .i64 C.cells, .int .i64 C.values, .int .i64 C.shifts]) h h1 rfl
theorem RMt.lt' {w : World} {m : Option Nat} {C : Cnt} (h : RMt w m C) : ∀ z, m = some z → z < w.heap.size := by
  intro z hz; subst hz; exact RMt.lt h

section
variable {w : World} {m rm : Option Nat} {x : Nat} {D : Dat}
theorem TwoAt.plt (h : TwoAt w m rm x D) : ∀ z, pfoot m D z → z < w.heap.size := fun z hz => hz.elim (h.tab.lt z) (h.mt.lt z)
theorem TwoAt.rlt (h : TwoAt w m rm x D) : ∀ z, rfoot rm D z → z < w.heap.size := fun z hz => hz.elim (h.ref.lt z) (h.rmt.lt' z)
/-- A block of a type that is none of both sides'. -/
theorem TwoAt.pnot (h : TwoAt w m rm x D) {y : Nat} {ty : TypeId} {vs : List Value} (hy : Blk w y ty vs) (h1 : ty ≠ 146) (h2 : ty ≠ 196) (h3 : ty ≠ 237) (h4 : ty ≠ 238) (h5 : ty ≠ 32) (h6 : ty ≠ 71) : ¬ pfoot m D y :=
  fun hz => hz.elim (h.tab.not hy h1 h2 h3 h4 h5) (h.mt.not hy h6)
theorem TwoAt.rnot (h : TwoAt w m rm x D) {y : Nat} {ty : TypeId} {vs : List Value} (hy : Blk w y ty vs) (h1 : ty ≠ 85) (h2 : ty ≠ 32) (h3 : ty ≠ 3) (h4 : ty ≠ 76) : ¬ rfoot rm D y :=
  fun hz => hz.elim (h.ref.not hy h1 h2 h3) (h.rmt.not hy h4)
theorem TwoAt.xp (h : TwoAt w m rm x D) : ¬ pfoot m D x := h.pnot h.blk (by decide) (by decide) (by decide) (by decide) (by decide) (by decide)
theorem TwoAt.xr (h : TwoAt w m rm x D) : ¬ rfoot rm D x := h.rnot h.blk (by decide) (by decide) (by decide) (by decide)

theorem SeekPair.kept {R : Nat → Prop} {w' : World} {t b s k : Nat} {T : Tab} (h : SeekPair w t b s k T) (hk : Kept R w w') (h1 : ¬ R s) (h2 : ¬ R k) : SeekPair w' t b s k T := by
  rcases h with ⟨hash, i, told, a1, a2, a3⟩ | ⟨hash, log, i, j, turns, visited, told, told', ended, over, a1, a2, a3, a4⟩
  · exact .inl ⟨hash, i, told, Blk.kept a1 hk h1, Blk.kept a2 hk h2, a3⟩
  · exact .inr ⟨hash, log, i, j, turns, visited, told, told', ended, over, Blk.kept a1 hk h1, Blk.kept a2 hk h2, a3, a4⟩
theorem SeekPair.blks {t b s k : Nat} {T : Tab} (h : SeekPair w t b s k T) : (∃ vs, Blk w s 153 vs) ∧ ∃ vs, Blk w k 162 vs := by
  rcases h with ⟨hash, i, told, a1, a2, a3⟩ | ⟨hash, log, i, j, turns, visited, told, told', ended, over, a1, a2, a3, a4⟩
  · exact ⟨⟨_, a1⟩, ⟨_, a2⟩⟩
  · exact ⟨⟨_, a1⟩, ⟨_, a2⟩⟩
/-- The table was turned. -/
theorem SeekPair.turned {t b s k : Nat} {T T' : Tab} (h : SeekPair w t b s k T) (hT : T.turn < T'.turn) : SeekPair w t b s k T' := by
  rcases h with ⟨hash, i, told, a1, a2, a3⟩ | ⟨hash, log, i, j, turns, visited, told, told', ended, over, a1, a2, a3, a4⟩
  · exact .inr ⟨hash, T.log, i, i, T.turn, i, told, told, false, false, a1, a2, .inr hT, .inr hT⟩
  · exact .inr ⟨hash, log, i, j, turns, visited, told, told', ended, over, a1, a2, a3.imp id (fun h => by omega), a4.imp id (fun h => by omega)⟩
theorem sfoot_of {s k : Nat} (h1 : D.sp = some ⟨s, 0, none⟩) (h2 : D.kp = some ⟨k, 0, none⟩) : sfoot D s ∧ sfoot D k := ⟨⟨s, k, h1, h2, .inl rfl⟩, ⟨s, k, h1, h2, .inr rfl⟩⟩

theorem TwoAt.slt (h : TwoAt w m rm x D) : ∀ z, sfoot D z → z < w.heap.size ∧ ¬ pfoot m D z ∧ ¬ rfoot rm D z ∧ z ≠ x := by
  rintro z ⟨s, k, h1, h2, hz⟩
  rcases h.seek with e | ⟨s', k', e1, e2, hs, -⟩
  · rw [e] at h1; cases h1
  · rw [h1] at e1; rw [h2] at e2; cases e1; cases e2
    obtain ⟨⟨vs, b1⟩, ⟨vs', b2⟩⟩ := hs.blks
    rcases hz with rfl | rfl
    · exact ⟨b1.lt, h.pnot b1 (by decide) (by decide) (by decide) (by decide) (by decide) (by decide), h.rnot b1 (by decide) (by decide) (by decide) (by decide), Blk.ne b1 h.blk (by decide)⟩
    · exact ⟨b2.lt, h.pnot b2 (by decide) (by decide) (by decide) (by decide) (by decide) (by decide), h.rnot b2 (by decide) (by decide) (by decide) (by decide), Blk.ne b2 h.blk (by decide)⟩
theorem TwoAt.lt (h : TwoAt w m rm x D) : ∀ z, foot m rm x D z → z < w.heap.size := by
  rintro z (rfl | hz | hz | hz)
  · exact Blk.lt h.blk
  · exact h.plt z hz
  · exact h.rlt z hz
  · exact (h.slt z hz).1
/-- Another's work leaves them alone. -/
theorem TwoAt.kept {R : Nat → Prop} {w' : World} (h : TwoAt w m rm x D) (hk : Kept R w w') (hR : ∀ z, foot m rm x D z → ¬ R z) : TwoAt w' m rm x D := by
  refine ⟨Blk.kept h.blk hk (hR _ (.inl rfl)), h.tab.kept hk (fun z hz => hR z (.inr (.inl (.inl hz)))), h.mt.kept hk (fun z hz => hR z (.inr (.inl (.inr hz)))), h.ref.kept hk (fun z hz => hR z (.inr (.inr (.inl (.inl hz))))), h.rmt.kept hk (fun z hz => hR z (.inr (.inr (.inl (.inr hz))))), h.good, h.apart, h.log, ?_⟩
  refine h.seek.imp id ?_
  rintro ⟨s, k, h1, h2, h3, h4⟩
  obtain ⟨f1, f2⟩ := sfoot_of h1 h2
  exact ⟨s, k, h1, h2, h3.kept hk (hR s (.inr (.inr (.inr f1)))) (hR k (.inr (.inr (.inr f2)))), h4⟩

/-- The tables' sizes, out of their bounds. -/
theorem TwoAt.sizes (h : TwoAt w m rm x D) : D.T.ents.length ≤ 30000 ∧ D.T.cells.length ≤ 32768 ∧ D.T.live = D.T.count := by
  have h1 := h.good.fits
  have h2 := room_third D.T.log
  have h3 := le_two D.T.log h.log
  have h4 := h.good.cg.len
  exact ⟨by omega, by omega, h.good.live⟩
end

theorem TabZ.at {w : World} {m : Option Nat} {t c r : Nat} {sv : Value} {T : Tab} (h : TabZ w m t c r sv T) (hne : c ≠ t) : TabAt w m t c r sv T := by
  rcases h with h | ⟨_, e, _⟩
  · exact h
  · exact (hne e).elim
theorem TabZ.mnot {w : World} {m : Option Nat} {t c r : Nat} {sv : Value} {T : Tab} {C : Cnt} (h : TabZ w m t c r sv T) (hm : Mt w m C) : ∀ z, m = some z → ¬ own t c r sv z := by
  intro z hz
  subst hz
  have hMb : Blk w z 71 [.int .i64 C.tables, .int .i64 C.cells, .int .i64 C.values, .int .i64 C.shifts] := hm
  exact h.not hMb (by decide) (by decide) (by decide) (by decide) (by decide)
theorem RefAt.mnot {w : World} {m : Option Nat} {b : Nat} {ev cv : Value} {T : Tab} {C : Cnt} (h : RefAt w m b ev cv T) (hm : RMt w m C) : ∀ z, m = some z → ¬ rown b ev cv z := by
  intro z hz
  subst hz
  have hMb : Blk w z 76 [.int .i64 C.tables, .int .i64 C.cells, .int .i64 C.values, .int .i64 C.shifts] := hm
  exact h.not hMb (by decide) (by decide) (by decide)

/-- What does makes of them. -/
def DoesPost (w : World) (m rm : Option Nat) (x : Nat) (D : Dat) (n : Nat) (e : Ending) (w' : World) : Prop :=
  e = .returned (.bool true) ∧ ∃ D', TwoAt w' m rm x D' ∧ Bnd D'.T (n + 1) ∧ (∀ z, foot m rm x D' z → foot m rm x D z ∨ w.heap.size ≤ z) ∧ Kept (foot m rm x D) w w'

theorem does_put (w : World) (m rm : Option Nat) (x : Nat) (D : Dat) (n : Nat) (s : Stp) (h : TwoAt w m rm x D) (hb : Bnd D.T n) (hn : n + 1 ≤ 5000) (hs : s.kind = 2) :
    Calls Try.prog 36 #[.pointer (some ⟨x, 0, none⟩), s.agg] w (DoesPost w m rm x D n) := by
  have hgood : GoodT (D.T.put s.n s.value) ∧ (D.T.put s.n s.value).log = D.T.log ∧ (D.T.put s.n s.value).turn = D.T.turn ∧ (D.T.put s.n s.value).live = D.T.live ∧ (D.T.put s.n s.value).births = D.T.births ∧ (D.T.put s.n s.value).made = D.T.made ∧ (D.T.put s.n s.value).cells = D.T.cells ∧
      (∀ (hash : Int) (i : Nat) (told : Int), Sought D.T hash i told → Sought (D.T.put s.n s.value) hash i told) := by
    cases hx : D.T.get s.n with
    | none => rw [put_of _ hx]; exact ⟨h.good, rfl, rfl, rfl, rfl, rfl, rfl, fun _ _ _ h => h⟩
    | some y =>
      obtain ⟨k, hk, hy, hl⟩ := Go.Lx.get_at hx
      rw [hk]
      obtain ⟨g1, -, g2⟩ := h.good.put hy hl s.value
      refine ⟨g1, by rw [g2], by rw [g2], by rw [g2], by rw [g2], by rw [g2], by rw [g2], ?_⟩
      intro hash i told hs
      rw [g2]
      refine ⟨hs.low, ?_, hs.full⟩
      intro b z hz hb j hj
      have hz' : ∃ z', IsOf D.T hash b z' := by
        obtain ⟨a1, a2, a3⟩ := hz
        simp only at a1
        rw [List.getElem?_set] at a1
        split at a1
        · rename_i e; subst e
          split at a1
          · simp at a1; subst a1; exact ⟨y, hy, a2, a3⟩
          · cases a1
        · exact ⟨z, a1, a2, a3⟩
      obtain ⟨z', hz'⟩ := hz'
      exact hs.ahead b z' hz' hb j hj
  have hc : Calls2 w 44 92 #[.pointer (some ⟨D.t, 0, none⟩), .int .i64 s.n, .int .i64 s.value] #[.pointer (some ⟨D.b, 0, none⟩), .int .i64 s.n, .int .i64 s.value] (.int .i64 (code (D.T.get s.n))) (.int .i64 (code (D.T.get s.n)))
      (fun W => TabZ W m D.t D.c D.r D.sv (D.T.put s.n s.value)) (fun W => TabZ W m D.t D.c D.r D.sv (D.T.put s.n s.value) ∧ RefAt W rm D.b D.ev D.cv (D.T.put s.n s.value)) (own D.t D.c D.r D.sv) (rown D.b D.ev D.cv) x := by
    refine ⟨fun W hk => putZ m D.t D.c D.r D.sv D.T W s.n s.value (h.tab.kept hk (fun _ _ => id)), ?_, fun u v a k => a.kept k (fun _ _ => id), fun u v a k => ⟨a.1.kept k (fun _ _ => id), a.2.kept k (fun _ _ => id)⟩, fun e => h.xp (.inl e), fun e => h.xr (.inl e), h.tab.lt, h.ref.lt⟩
    intro W hA hk
    refine (put7 rm D.b D.ev D.cv D.T W s.n s.value (h.ref.kept hk (fun z hz e => h.apart z (.inl e) (.inl hz)))).mono ?_
    rintro e w' ⟨h1, h2, h3⟩
    exact ⟨h1, ⟨hA.kept h3 (fun z hz e => h.apart z (.inl hz) (.inl e)), h2⟩, h3⟩
  refine (does2 x D.t D.b D.sp D.kp s w _ _ _ _ _ hs h.blk hc).mono ?_
  rintro e w' ⟨rfl, ⟨hT, hR⟩, hk⟩
  have hkp : ∀ z, sfoot D z → ¬ (own D.t D.c D.r D.sv z ∨ rown D.b D.ev D.cv z) := fun z hz e => e.elim (fun e => (h.slt z hz).2.1 (.inl e)) (fun e => (h.slt z hz).2.2.1 (.inl e))
  refine ⟨rfl, { D with T := D.T.put s.n s.value }, ⟨Blk.kept h.blk hk (fun e => e.elim (fun e => h.xp (.inl e)) (fun e => h.xr (.inl e))), hT, ?_, hR, ?_, hgood.1, h.apart, by show (D.T.put s.n s.value).log ≤ 15; rw [hgood.2.1]; exact h.log, ?_⟩, ?_, fun z hz => .inl hz, hk.mono (fun z _ e => e.elim (fun e => .inr (.inl (.inl e))) (fun e => .inr (.inr (.inl (.inl e)))))⟩
  · exact h.mt.kept hk (fun z hz e => e.elim (h.tab.mnot h.mt z hz) (fun e => h.apart z (.inr hz) (.inl e)))
  · exact h.rmt.kept hk (fun z hz e => e.elim (fun e => h.apart z (.inl e) (.inr hz)) (h.ref.mnot h.rmt z hz))
  · refine h.seek.imp id ?_
    rintro ⟨s', k', h1, h2, h3, h4⟩
    obtain ⟨f1, f2⟩ := sfoot_of h1 h2
    refine ⟨s', k', h1, h2, ?_, h4⟩
    · have h5 := h3.kept hk (hkp _ f1) (hkp _ f2)
      rcases h5 with ⟨hash, i, told, a1, a2, a3⟩ | ⟨hash, log, i, j, turns, visited, told, told', ended, over, a1, a2, a3, a4⟩
      · refine .inl ⟨hash, i, told, ?_, ?_, hgood.2.2.2.2.2.2.2 _ _ _ a3⟩
        · show SeekAt w' s' D.t (D.T.put s.n s.value).log hash i (D.T.put s.n s.value).turn i told false
          rw [hgood.2.1, hgood.2.2.1]; exact a1
        · show RSeekAt w' k' D.b (D.T.put s.n s.value).log hash i (D.T.put s.n s.value).turn i told false
          rw [hgood.2.1, hgood.2.2.1]; exact a2
      · refine .inr ⟨hash, log, i, j, turns, visited, told, told', ended, over, a1, a2, ?_, ?_⟩
        · show _ ∨ turns < (D.T.put s.n s.value).turn; rw [hgood.2.2.1]; exact a3
        · show _ ∨ turns < (D.T.put s.n s.value).turn; rw [hgood.2.2.1]; exact a4
  · have := hb
    exact ⟨by show (D.T.put s.n s.value).live ≤ _; rw [hgood.2.2.2.1]; have := hb.live; omega, by show (D.T.put s.n s.value).births ≤ _; rw [hgood.2.2.2.2.1]; have := hb.births; omega, by show (D.T.put s.n s.value).turn ≤ _; rw [hgood.2.2.1]; have := hb.turn; omega, by show (D.T.put s.n s.value).made ≤ _; rw [hgood.2.2.2.2.2.1]; have := hb.made; omega, hn⟩

/-- What a call does that turns the table: the Seekers are spent. -/
theorem turned_post {w w' : World} {m rm : Option Nat} {x : Nat} {D : Dat} {n : Nat} {R : Nat → Prop} (h : TwoAt w m rm x D) (c' r' : Nat) (sv' ev' cv' : Value) (T' : Tab) (C' : Cnt) (hk : Kept R w w') (hR : ∀ z, R z → pfoot m D z ∨ rfoot rm D z)
    (hT : TabZ w' m D.t c' r' sv' T') (hM : Mt w' m C') (hF : RefAt w' rm D.b ev' cv' T') (hRM : RMt w' rm C') (hg : GoodT T') (hap : ∀ z, (own D.t c' r' sv' z ∨ m = some z) → ¬ (rown D.b ev' cv' z ∨ rm = some z)) (h15 : T'.log ≤ 15) (hturn : D.T.turn < T'.turn ∨ T' = D.T) (hc : D.c ≠ D.t → c' ≠ D.t)
    (ho1 : ∀ z, own D.t c' r' sv' z → own D.t D.c D.r D.sv z ∨ w.heap.size ≤ z) (ho2 : ∀ z, rown D.b ev' cv' z → rown D.b D.ev D.cv z ∨ w.heap.size ≤ z) (hb : Bnd T' (n + 1)) : DoesPost w m rm x D n (.returned (.bool true)) w' := by
  have hkp : ∀ z, sfoot D z → ¬ R z := fun z hz e => (hR z e).elim (h.slt z hz).2.1 (h.slt z hz).2.2.1
  refine ⟨rfl, { D with c := c', r := r', sv := sv', ev := ev', cv := cv', T := T', C := C' }, ⟨Blk.kept h.blk hk (fun e => (hR x e).elim h.xp h.xr), hT, hM, hF, hRM, hg, hap, h15, ?_⟩, hb, ?_, hk.mono (fun z _ e => (hR z e).elim (fun e => .inr (.inl e)) (fun e => .inr (.inr (.inl e))))⟩
  · refine h.seek.imp id ?_
    rintro ⟨s', k', h1, h2, h3, h4⟩
    obtain ⟨f1, f2⟩ := sfoot_of h1 h2
    have h5 := h3.kept hk (hkp _ f1) (hkp _ f2)
    refine ⟨s', k', h1, h2, ?_, hc h4⟩
    rcases hturn with e | e
    · exact h5.turned e
    · show SeekPair w' D.t D.b s' k' T'
      rw [e]; exact h5
  · rintro z (e | (e | e) | (e | e) | e)
    · exact .inl (.inl e)
    · exact (ho1 z e).imp (fun e => .inr (.inl (.inl e))) id
    · exact .inl (.inr (.inl (.inr e)))
    · exact (ho2 z e).imp (fun e => .inr (.inr (.inl (.inl e)))) id
    · exact .inl (.inr (.inr (.inl (.inr e))))
    · exact .inl (.inr (.inr (.inr e)))

theorem does_kill (w : World) (m rm : Option Nat) (x : Nat) (D : Dat) (n : Nat) (s : Stp) (h : TwoAt w m rm x D) (hb : Bnd D.T n) (hn : n + 1 ≤ 5000) (hs : s.kind = 3) :
    Calls Try.prog 36 #[.pointer (some ⟨x, 0, none⟩), s.agg] w (DoesPost w m rm x D n) := by
  obtain ⟨z1, z2, z3⟩ := h.sizes
  have b1 := hb.live
  have b2 := hb.turn
  have b3 := hb.births
  have b4 := hb.made
  have b5 := hb.n
  have hgood : GoodT (D.T.kill s.n) ∧ (D.T.kill s.n).log = D.T.log ∧ (D.T.turn < (D.T.kill s.n).turn ∨ D.T.kill s.n = D.T) ∧ (D.T.kill s.n).turn ≤ D.T.turn + 1 ∧ (D.T.kill s.n).live ≤ D.T.live ∧ (D.T.kill s.n).births = D.T.births ∧ (D.T.kill s.n).made = D.T.made := by
    cases hx : D.T.get s.n with
    | none => rw [kill_of hx]; exact ⟨h.good, rfl, .inr rfl, by omega, Nat.le_refl _, rfl, rfl⟩
    | some y =>
      obtain ⟨k, hk, hy, hl⟩ := Go.Lx.get_at hx
      rw [hk]
      obtain ⟨g1, -, -, g4, g5⟩ := h.good.kill hy hl
      have e : (D.T.kill (k : Nat)).log = D.T.log ∧ (D.T.kill (k : Nat)).turn = D.T.turn + 1 ∧ (D.T.kill (k : Nat)).made = D.T.made := by
        unfold Tab.kill; rw [get_of hy hl]; exact ⟨rfl, rfl, rfl⟩
      exact ⟨g1, e.1, .inl (by omega), by omega, by omega, g5, e.2.2⟩
  have hc : Calls2 w 45 93 #[.pointer (some ⟨D.t, 0, none⟩), .int .i64 s.n] #[.pointer (some ⟨D.b, 0, none⟩), .int .i64 s.n] (.int .i64 (code (D.T.get s.n))) (.int .i64 (code (D.T.get s.n)))
      (fun W => TabZ W m D.t D.c D.r D.sv (D.T.kill s.n)) (fun W => TabZ W m D.t D.c D.r D.sv (D.T.kill s.n) ∧ RefAt W rm D.b D.ev D.cv (D.T.kill s.n)) (own D.t D.c D.r D.sv) (rown D.b D.ev D.cv) x := by
    refine ⟨fun W hk => killZ m D.t D.c D.r D.sv D.T W s.n (h.tab.kept hk (fun _ _ => id)) h.good (by omega) (by omega), ?_, fun u v a k => a.kept k (fun _ _ => id), fun u v a k => ⟨a.1.kept k (fun _ _ => id), a.2.kept k (fun _ _ => id)⟩, fun e => h.xp (.inl e), fun e => h.xr (.inl e), h.tab.lt, h.ref.lt⟩
    intro W hA hk
    refine (kill7 rm D.b D.ev D.cv D.T W s.n (h.ref.kept hk (fun z hz e => h.apart z (.inl e) (.inl hz))) h.good (by omega) (by omega) (by omega) (by omega)).mono ?_
    rintro e w' ⟨h1, h2, h3⟩
    exact ⟨h1, ⟨hA.kept h3 (fun z hz e => h.apart z (.inl hz) (.inl e)), h2⟩, h3⟩
  refine (does3 x D.t D.b D.sp D.kp s w _ _ _ _ _ hs h.blk hc).mono ?_
  rintro e w' ⟨rfl, ⟨hT, hR⟩, hk⟩
  exact turned_post h D.c D.r D.sv D.ev D.cv (D.T.kill s.n) D.C hk (fun z e => e.elim (fun e => .inl (.inl e)) (fun e => .inr (.inl e))) hT
    (h.mt.kept hk (fun z hz e => e.elim (h.tab.mnot h.mt z hz) (fun e => h.apart z (.inr hz) (.inl e)))) hR
    (h.rmt.kept hk (fun z hz e => e.elim (fun e => h.apart z (.inl e) (.inr hz)) (h.ref.mnot h.rmt z hz))) hgood.1 h.apart (by rw [hgood.2.1]; exact h.log) hgood.2.2.1 id (fun z hz => .inl hz) (fun z hz => .inl hz)
    ⟨by have := hgood.2.2.2.2.1; omega, by have := hgood.2.2.2.2.2.1; omega, by have := hgood.2.2.2.1; omega, by have := hgood.2.2.2.2.2.2; omega, hn⟩

theorem does_at (w : World) (m rm : Option Nat) (x : Nat) (D : Dat) (n : Nat) (s : Stp) (h : TwoAt w m rm x D) (hb : Bnd D.T n) (hn : n + 1 ≤ 5000) (hs : s.kind = 4) :
    Calls Try.prog 36 #[.pointer (some ⟨x, 0, none⟩), s.agg] w (DoesPost w m rm x D n) := by
  refine (does4 x D.t D.b D.sp D.kp s w _ _ hs h.blk (fun W hk => atZ m D.t D.c D.r D.sv D.T W s.n (h.tab.kept hk (fun _ _ => id))) (fun W hk => at7 rm D.b D.ev D.cv D.T W s.n (h.ref.kept hk (fun _ _ => id)))).mono ?_
  rintro e w' ⟨rfl, hk⟩
  exact ⟨rfl, D, h.kept hk (fun _ _ => id), ⟨Nat.le_succ_of_le hb.live, Nat.le_succ_of_le hb.births, Nat.le_succ_of_le hb.turn, Nat.le_succ_of_le hb.made, hn⟩, fun z hz => .inl hz, hk.mono (fun _ _ h => h.elim)⟩
theorem does_other (w : World) (m rm : Option Nat) (x : Nat) (D : Dat) (n : Nat) (s : Stp) (h : TwoAt w m rm x D) (hb : Bnd D.T n) (hn : n + 1 ≤ 5000) (hs : s.kind < 1 ∨ 8 < s.kind) :
    Calls Try.prog 36 #[.pointer (some ⟨x, 0, none⟩), s.agg] w (DoesPost w m rm x D n) := by
  refine (does0 x s w hs).mono ?_
  rintro e w' ⟨rfl, hk⟩
  exact ⟨rfl, D, h.kept hk (fun _ _ => id), ⟨Nat.le_succ_of_le hb.live, Nat.le_succ_of_le hb.births, Nat.le_succ_of_le hb.turn, Nat.le_succ_of_le hb.made, hn⟩, fun z hz => .inl hz, hk.mono (fun _ _ h => h.elim)⟩
end Go.Proofs.Ytbbkljgeddjghaa
