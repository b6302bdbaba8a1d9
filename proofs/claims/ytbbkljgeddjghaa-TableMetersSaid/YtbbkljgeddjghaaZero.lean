/-
  What is proved: each call of package table, and of the reference of chapter 7, as one contract; a zero table too.
-/
import Derived.Test.YtbbkljgeddjghaaCopyZ
import Derived.Test.YtbbkljgeddjghaaSightZ
import Derived.Test.YtbbkljgeddjghaaAddZ
import Derived.Test.YtbbkljgeddjghaaSeek
import Derived.Test.YtbbkljgeddjghaaRefCopy
import Derived.Test.YtbbkljgeddjghaaRefNext
import Derived.Test.YtbbkljgeddjghaaRefSight
import Derived.Test.YtbbkljgeddjghaaLawB
namespace Go.Lx
/-- The error of a call with a number. -/
def code (o : Option Ent) : Int := match o with | some _ => 0 | none => 7
theorem put_of {T : Tab} {i : Int} (v : Int) (h : T.get i = none) : T.put i v = T := by unfold Tab.put; rw [h]
theorem kill_of {T : Tab} {i : Int} (h : T.get i = none) : T.kill i = T := by unfold Tab.kill; rw [h]
theorem new_tight : Tab.new.tight = false := by decide +kernel
theorem new_count : Tab.new.live = (Tab.new.ents.filter (·.live)).length := rfl
end Go.Lx
namespace Go.Proofs.Ytbbkljgeddjghaa
open Go.RowKit Go.Lx Go.Shelf
set_option linter.unusedVariables false
set_option linter.unusedSimpArgs false

/-- A zero table. -/
def ZeroAt (w : World) (t : Nat) : Prop := Blk w t 146 [mptr none, .slice none 0 0, .pointer none, .int .i64 0, .int .i64 0, .int .i64 0, .int .i64 0]
/-- A table, or a zero one, which is as a new one. -/
def TabZ (w : World) (m : Option Nat) (t c r : Nat) (sv : Value) (T : Tab) : Prop :=
  TabAt w m t c r sv T ∨ (m = none ∧ c = t ∧ r = t ∧ sv = .slice none 0 0 ∧ T = Tab.new ∧ ZeroAt w t)
theorem TabZ.head1 {w : World} {m : Option Nat} {t c r : Nat} {sv : Value} {T : Tab} (h : TabZ w m t c r sv T) : ∃ vs, Blk w t 146 vs := by
  rcases h with h | ⟨rfl, rfl, rfl, rfl, rfl, h⟩
  · exact ⟨_, h.head⟩
  · exact ⟨_, h⟩
theorem TabZ.lt {w : World} {m : Option Nat} {t c r : Nat} {sv : Value} {T : Tab} (h : TabZ w m t c r sv T) : ∀ z, own t c r sv z → z < w.heap.size := by
  rcases h with h | ⟨rfl, rfl, rfl, rfl, rfl, h⟩
  · exact h.lt
  · rintro z (e | e | e | e)
    · subst e; exact Blk.lt h
    · subst e; exact Blk.lt h
    · subst e; exact Blk.lt h
    · cases e
theorem TabZ.kept {R : Nat → Prop} {w w' : World} {m : Option Nat} {t c r : Nat} {sv : Value} {T : Tab} (h : TabZ w m t c r sv T) (hk : Kept R w w') (hR : ∀ b, own t c r sv b → ¬ R b) : TabZ w' m t c r sv T := by
  rcases h with h | ⟨rfl, rfl, rfl, rfl, rfl, h⟩
  · exact .inl (h.kept' hk hR)
  · exact .inr ⟨rfl, rfl, rfl, rfl, rfl, Blk.kept h hk (hR _ (.inl rfl))⟩
/-- A block of another type is none of a table's. -/
theorem TabZ.not {w : World} {m : Option Nat} {t c r : Nat} {sv : Value} {T : Tab} (h : TabZ w m t c r sv T) {x : Nat} {ty : TypeId} {vs : List Value} (hx : Blk w x ty vs) (h1 : ty ≠ 146) (h2 : ty ≠ 196) (h3 : ty ≠ 237) (h4 : ty ≠ 238) (h5 : ty ≠ 32) : ¬ own t c r sv x := by
  rcases h with h | ⟨rfl, rfl, rfl, rfl, rfl, h⟩
  · rintro (e | e | e | e)
    · exact hx.ne h.head h1 e
    · exact hx.ne h.cells.head h2 e
    · refine hx.ne h.cells.row ?_ e
      unfold rowElem; split <;> assumption
    · obtain ⟨cur, hb⟩ := Row.blk h.ents e; exact hx.ne hb h5 rfl
  · rintro (e | e | e | e)
    · exact hx.ne h h1 e
    · exact hx.ne h h1 e
    · exact hx.ne h h1 e
    · cases e
theorem RefAt.not {w : World} {m : Option Nat} {b : Nat} {ev cv : Value} {T : Tab} (h : RefAt w m b ev cv T) {x : Nat} {ty : TypeId} {vs : List Value} (hx : Blk w x ty vs) (h1 : ty ≠ 85) (h2 : ty ≠ 32) (h3 : ty ≠ 3) : ¬ rown b ev cv x := by
  rintro (e | e | e)
  · exact hx.ne h.head h1 e
  · obtain ⟨cur, hb⟩ := Row.blk h.ents e; exact hx.ne hb h2 rfl
  · obtain ⟨cur, hb⟩ := Row.blk h.cells e; exact hx.ne hb h3 rfl

theorem wrong_zero (t : Nat) (w : World) (i : Int) (h : ZeroAt w t) : Calls Try.prog 86 #[.pointer (some ⟨t, 0, none⟩), .int .i64 i] w fun e w' => e = .returned (.int .i64 7) ∧ w = w' := by
  by_cases h0 : i < 0
  · exact wrong_low t i w h0
  · obtain ⟨k, rfl⟩ := Int.eq_ofNat_of_zero_le (Int.not_lt.1 h0)
    exact wrong_high t none 0 0 k w (Nat.zero_le _) (Blk.cell h 1)
theorem new_get (i : Int) : Tab.new.get i = none := by unfold Tab.get Tab.new; split <;> simp

theorem lenZ (m : Option Nat) (t c r : Nat) (sv : Value) (T : Tab) (w : World) (h : TabZ w m t c r sv T) : Calls Try.prog 25 #[.pointer (some ⟨t, 0, none⟩)] w fun e w' => e = .returned (.int .i64 T.live) ∧ w = w' := by
  rcases h with h | ⟨rfl, rfl, rfl, rfl, rfl, h⟩
  · exact len_cell t _ w (h.head.cell 3)
  · exact len_cell _ 0 w (Blk.cell h 3)
theorem putZ (m : Option Nat) (t c r : Nat) (sv : Value) (T : Tab) (w : World) (i v : Int) (h : TabZ w m t c r sv T) :
    Calls Try.prog 44 #[.pointer (some ⟨t, 0, none⟩), .int .i64 i, .int .i64 v] w fun e w' => e = .returned (.int .i64 (code (T.get i))) ∧ TabZ w' m t c r sv (T.put i v) ∧ Kept (own t c r sv) w w' := by
  cases hx : T.get i with
  | some x =>
    rcases h with h | ⟨rfl, rfl, rfl, rfl, rfl, h⟩
    · exact (put_yes m t c r sv T w i v x h hx).mono fun e w' ⟨h1, h2, h3⟩ => ⟨h1, .inl h2, h3⟩
    · rw [new_get] at hx; cases hx
  | none =>
    rw [put_of v hx]
    rcases h with h | ⟨rfl, rfl, rfl, rfl, rfl, h⟩
    · refine (put_no m t c r sv T w i v h hx).mono ?_
      rintro e w' ⟨h1, rfl⟩; exact ⟨h1, .inl h, Kept.refl _ _⟩
    · refine (put_bad _ i v 7 rfl w (wrong_zero _ w i h)).mono ?_
      rintro e w' ⟨h1, rfl⟩; exact ⟨h1, .inr ⟨rfl, rfl, rfl, rfl, rfl, h⟩, Kept.refl _ _⟩
theorem killZ (m : Option Nat) (t c r : Nat) (sv : Value) (T : Tab) (w : World) (i : Int) (h : TabZ w m t c r sv T) (hg : GoodT T) (h1 : T.live ≤ 100000) (h2 : T.turn ≤ 100000) :
    Calls Try.prog 45 #[.pointer (some ⟨t, 0, none⟩), .int .i64 i] w fun e w' => e = .returned (.int .i64 (code (T.get i))) ∧ TabZ w' m t c r sv (T.kill i) ∧ Kept (own t c r sv) w w' := by
  cases hx : T.get i with
  | some x =>
    rcases h with h | ⟨rfl, rfl, rfl, rfl, rfl, h⟩
    · have h3 : 1 ≤ T.live := by
        obtain ⟨n, rfl, hx', hl⟩ := Go.Lx.get_at hx
        have := (hg.kill hx' hl).2.2.2.1
        omega
      exact (kill_yes m t c r sv T w i x h hx h1 h2 h3).mono fun e w' ⟨h1, h2, h3⟩ => ⟨h1, .inl h2, h3⟩
    · rw [new_get] at hx; cases hx
  | none =>
    rw [kill_of hx]
    have kk : ∀ w', Kept Nil w w' → Kept (own t c r sv) w w' := fun w' k => k.mono (fun _ _ h => h.elim)
    have ht := fun w' (k : Kept Nil w w') => h.kept k (fun _ _ => id)
    rcases h with h | ⟨rfl, rfl, rfl, rfl, rfl, h⟩
    · exact (kill_no m t c r sv T w i h hx).mono fun e w' ⟨h1, h2⟩ => ⟨h1, ht _ h2, kk _ h2⟩
    · exact (kill_bad _ i 7 rfl w fun w' k => wrong_zero _ w' i (Blk.kept h k id)).mono fun e w' ⟨h1, h2⟩ => ⟨h1, ht _ h2, kk _ h2⟩
theorem atZ (m : Option Nat) (t c r : Nat) (sv : Value) (T : Tab) (w : World) (i : Int) (h : TabZ w m t c r sv T) :
    Calls Try.prog 31 #[.pointer (some ⟨t, 0, none⟩), .int .i64 i] w fun e w' => e = .returned (.tuple #[Ent.agg ((T.get i).getD Ent.dead), .int .i64 (code (T.get i))]) ∧ Kept Nil w w' := by
  cases hx : T.get i with
  | some x =>
    rcases h with h | ⟨rfl, rfl, rfl, rfl, rfl, h⟩
    · exact at_yes m t c r sv T w i x h hx
    · rw [new_get] at hx; cases hx
  | none =>
    rcases h with h | ⟨rfl, rfl, rfl, rfl, rfl, h⟩
    · exact at_no m t c r sv T w i h hx
    · exact at_bad _ i 7 rfl w fun o => wrong_zero _ _ i (Blk.alloc h o)

theorem at7 (m : Option Nat) (b : Nat) (ev cv : Value) (T : Tab) (w : World) (i : Int) (h : RefAt w m b ev cv T) :
    Calls Try.prog 94 #[.pointer (some ⟨b, 0, none⟩), .int .i64 i] w fun e w' => e = .returned (.tuple #[Ent.agg ((T.get i).getD Ent.dead), .int .i64 (code (T.get i))]) ∧ Kept Nil w w' := by
  cases hx : T.get i with
  | some x => exact at7_yes m b ev cv T w h i x hx
  | none => exact at7_no m b ev cv T w h i hx
theorem put7 (m : Option Nat) (b : Nat) (ev cv : Value) (T : Tab) (w : World) (i v : Int) (h : RefAt w m b ev cv T) :
    Calls Try.prog 92 #[.pointer (some ⟨b, 0, none⟩), .int .i64 i, .int .i64 v] w fun e w' => e = .returned (.int .i64 (code (T.get i))) ∧ RefAt w' m b ev cv (T.put i v) ∧ Kept (rown b ev cv) w w' := by
  cases hx : T.get i with
  | some x => exact put7_yes m b ev cv T w h i v x hx
  | none =>
    rw [put_of v hx]
    refine (put7_no m b ev cv T w h i v hx).mono ?_
    rintro e w' ⟨h1, rfl⟩; exact ⟨h1, h, Kept.refl _ _⟩
theorem kill7 (m : Option Nat) (b : Nat) (ev cv : Value) (T : Tab) (w : World) (i : Int) (h : RefAt w m b ev cv T) (hg : GoodT T) (hcl : T.cells.length ≤ 100000) (h1 : T.live ≤ 100000) (h2 : T.turn ≤ 100000) (hlen : T.ents.length ≤ 100000) :
    Calls Try.prog 93 #[.pointer (some ⟨b, 0, none⟩), .int .i64 i] w fun e w' => e = .returned (.int .i64 (code (T.get i))) ∧ RefAt w' m b ev cv (T.kill i) ∧ Kept (rown b ev cv) w w' := by
  cases hx : T.get i with
  | some x => exact kill7_yes m b ev cv T w h hg i x hx hcl h1 h2 hlen
  | none =>
    rw [kill_of hx]
    refine (kill7_no m b ev cv T w h i hx).mono ?_
    rintro e w' ⟨h1, rfl⟩; exact ⟨h1, h, Kept.refl _ _⟩

/-- begin of a zero table, from wherever. -/
theorem beginZ (t : Nat) (w : World) (h : ZeroAt w t) : ∀ w', Kept Nil w w' → Calls Try.prog 74 #[.pointer (some ⟨t, 0, none⟩)] w' fun e w1 => e = .returned (.tuple #[]) ∧ ∃ c r sv, TabAt w1 none t c r sv Tab.new ∧ (∀ z, own t c r sv z → z = t ∨ w'.heap.size ≤ z) ∧ Kept (fun z => z = t) w' w1 := by
  intro w' hk
  refine (begin_zero t w' (Blk.kept h hk id)).mono ?_
  rintro e w1 ⟨rfl, c, r, h1, h2, h3, h4⟩
  refine ⟨rfl, c, r, _, h3, ?_, h4⟩
  rintro z (e | e | e | e)
  · exact .inl e
  · exact .inr (by omega)
  · exact .inr (by omega)
  · cases e

theorem addZ (m : Option Nat) (C : Cnt) (t c r : Nat) (sv : Value) (T : Tab) (w : World) (hash key value : Int) (h : TabZ w m t c r sv T) (hm : Mt w m C)
    (h1 : T.live ≤ 10000) (h2 : T.turn ≤ 100000) (h3 : T.births ≤ 100000) (h4 : T.made ≤ 100000) (hlen : T.ents.length ≤ 30000) (hc : T.live = T.count) :
    Calls Try.prog 42 #[.pointer (some ⟨t, 0, none⟩), .int .i64 hash, .int .i64 key, .int .i64 value] w fun e w' =>
      e = .returned (.tuple #[.int .i64 (if T.tight then T.grow else T).ents.length, .int .i64 0]) ∧ ∃ c' r' sv', TabAt w' m t c' r' sv' (T.add hash key value) ∧ (∀ b, own t c' r' sv' b → own t c r sv b ∨ w.heap.size ≤ b) ∧
        Mt w' m (if T.tight then C.table else C) ∧ Kept (fun b => own t c r sv b ∨ m = some b) w w' := by
  rcases h with h | ⟨rfl, rfl, rfl, rfl, rfl, h⟩
  · exact add_any m C t c r sv T w hash key value h hm h1 h2 h3 h4 hlen hc
  · refine (add_from Tab.new C none C _ Tab.new w hash key value rfl (Blk.lt h) (beginZ _ w h) h1 h2 h3 h4 hlen new_tight rfl rfl).mono ?_
    rintro e w' ⟨rfl, c', r', sv', a1, a2, a3, a4⟩
    rw [new_tight]
    refine ⟨by simp, c', r', sv', by unfold Tab.add; rw [new_tight]; exact a1, fun b hb => (a2 b hb).imp (fun e => .inl e) id, by simpa using a3, a4.mono (fun b _ e => e.imp (fun e => .inl e) id)⟩

theorem copyZ (m : Option Nat) (C : Cnt) (t c r : Nat) (sv : Value) (T : Tab) (w : World) (h : TabZ w m t c r sv T) (hm : Mt w m C) (hlen : T.ents.length ≤ 30000) (hlive : T.live ≤ 10000) (hc : T.live = T.count) :
    Calls Try.prog 28 #[.pointer (some ⟨t, 0, none⟩)] w fun e w' => ∃ t' c' r' sv', e = .returned (.pointer (some ⟨t', 0, none⟩)) ∧ TabAt w' m t' c' r' sv' T.copy ∧ (∀ b, own t' c' r' sv' b → w.heap.size ≤ b) ∧ Mt w' m C.table ∧ Kept (Mr m) w w' := by
  rcases h with h | ⟨rfl, rfl, rfl, rfl, rfl, h⟩
  · exact copy_any m C t c r sv T w h hm hlen hlive hc
  · exact copy_anyZ none C _ (.pointer none) (.slice none 0 0) { Tab.new with made := 0 } w ⟨h, Row.nil _ _ _⟩ hm hlen hlive hc

set_option maxHeartbeats 1000000 in
theorem clear_zero (t : Nat) (w : World) (h : ZeroAt w t) :
    Calls Try.prog 43 #[.pointer (some ⟨t, 0, none⟩)] w fun e w' => e = .returned (.tuple #[]) ∧ ∃ c' r', w.heap.size ≤ c' ∧ w.heap.size ≤ r' ∧ TabAt w' none t c' r' (.slice none 0 0) Tab.new.clear ∧ Kept (fun b => b = t) w w' := by
  have hbeg := begin_zero t w h
  clear h
  go_enter Try.func43, Try.ntmps43
  go_wp2_with fail
  go_at_call 74
  refine hbeg.mono ?_
  clear hbeg
  rintro e w0 ⟨rfl, c, r, hc0, hr0, hT, hk0⟩
  have hb := hT.head
  have hc1 : w0.cell? ⟨t, 1, none⟩ = some (.slice none 0 0) := hb.cell 1
  have hc3 : w0.cell? ⟨t, 3, none⟩ = some (.int .i64 0) := hb.cell 3
  have f1 := hb.frozen 1
  have f3 := hb.frozen 3
  have hb2 := (hb.set 1 (.slice none 0 0)).set 3 (.int .i64 0)
  have hk2 : Kept (fun b => b = t) w0 ((w0.setCell ⟨t, 1, none⟩ (.slice none 0 0)).setCell ⟨t, 3, none⟩ (.int .i64 0)) := ((Kept.refl (fun b => b = t) w0).setCell (p := ⟨t, 1, none⟩) (.inl rfl) _).setCell (p := ⟨t, 3, none⟩) (.inl rfl) _
  have hx := index_any none ⟨0, 0, 0, 0⟩ t 3 (.slice none 0 0) (.pointer (some ⟨c, 0, none⟩)) 0 0 1 0 _ (by omega) (by omega) trivial (by omega) hb2
  have HK := hid hk2
  have HK0 := hid hk0
  have hsz := hk2.size
  have hsz0 := hk0.size
  clear hb2 hk2 hb hT hk0
  go_wp2_with (go_at_call 78; refine hx.mono ?_; clear hx; rintro e w1 ⟨rfl, c', r', h1, h2, hb, hc, hm, hk⟩; have d6 : w1.cell? ⟨t, 6, none⟩ = some (.int .i64 0) := hb.cell 6; have f6 := hb.frozen 6)
  go_end0
  refine ⟨rfl, c', r', by omega, by omega, ?_, ?_⟩
  · refine ⟨?_, ?_, Row.nil _ _ _, Nat.zero_le _⟩
    · have := hb.set 6 (.int .i64 (0 + 1))
      simpa [Tab.clear, Tab.new] using this
    · exact hc.kept ((Kept.refl (fun b => b = t) _).setCell (p := ⟨t, 6, none⟩) (.inl rfl) _) (Blk.ne hb hc.head (by decide)).symm (Blk.ne hb hc.row (by decide)).symm
  · exact (HK0.out.trans HK.out (fun _ _ h => h)).trans ((hk.mono (R' := fun b => b = t) (fun _ _ h => h.elim id (fun e => by cases e))).setCell (p := ⟨t, 6, none⟩) (.inl rfl) _) (fun _ _ h => h)

theorem clearZ (m : Option Nat) (C : Cnt) (t c r : Nat) (sv : Value) (T : Tab) (w : World) (h : TabZ w m t c r sv T) (hm : Mt w m C) (hmade : T.made ≤ 100000) (hturn : T.turn ≤ 100000) :
    Calls Try.prog 43 #[.pointer (some ⟨t, 0, none⟩)] w fun e w' => e = .returned (.tuple #[]) ∧ ∃ c' r', w.heap.size ≤ c' ∧ w.heap.size ≤ r' ∧ TabAt w' m t c' r' (.slice none 0 0) T.clear ∧ Mt w' m C.table ∧ Kept (fun b => b = t ∨ m = some b) w w' := by
  rcases h with h | ⟨rfl, rfl, rfl, rfl, rfl, h⟩
  · exact clear_any m C t c r sv T w h hm hmade hturn
  · exact (clear_zero _ w h).mono fun e w' ⟨h1, c', r', h2, h3, h4, h5⟩ => ⟨h1, c', r', h2, h3, h4, trivial, h5.mono (fun _ _ e => .inl e)⟩

set_option maxRecDepth 100000 in
set_option maxHeartbeats 1000000 in
theorem seek_zero (t : Nat) (hash : Int) (w : World) (h : ZeroAt w t) :
    Calls Try.prog 29 #[.pointer (some ⟨t, 0, none⟩), .int .i64 hash] w fun e w' => ∃ s, e = .returned (.pointer (some ⟨s, 0, none⟩)) ∧ w.heap.size ≤ s ∧ SeekAt w' s t 3 hash 0 0 0 (-1) false ∧ (∃ c r sv, TabAt w' none t c r sv Tab.new ∧ ∀ z, own t c r sv z → z = t ∨ w.heap.size ≤ z) ∧ Kept (fun z => z = t) w w' := by
  have hbeg := beginZ t w h w (Kept.refl _ _)
  have e2 := u64_eq hash
  have hu : u64 hash / 32 ^ 0 = u64 hash := by simp
  have HU := hid hu
  clear h hu
  obtain ⟨c0, hc0⟩ : ∃ c0, c0 = tc 3 hash 0 := ⟨_, rfl⟩
  have HC := hid hc0
  unfold SeekAt
  rw [HU.out]
  obtain ⟨u, hu⟩ : ∃ u, u = u64 hash := ⟨_, rfl⟩
  rw [← hu] at e2 ⊢
  clear hu HU hc0
  rw [← HC.out]
  go_enter Try.func29, Try.ntmps29
  go_wp2_with fail
  go_at_call 74
  refine hbeg.mono ?_
  clear hbeg
  rintro e w1 ⟨rfl, c, r, sv, hT, hfr, hk⟩
  have ht2 : w1.cell? ⟨t, 2, none⟩ = some (.pointer (some ⟨c, 0, none⟩)) := hT.head.cell 2
  have ht6 : w1.cell? ⟨t, 6, none⟩ = some (.int .i64 0) := hT.head.cell 6
  have hlog := log_any c r Tab.new.log Tab.new.cells w1.drew (hT.cells.kept (Kept.refl Nil w1).drew id id)
  have hfst := first_any hash Tab.new.log w1.drew hT.cells.hi
  have hl3 : Tab.new.log = 3 := rfl
  rw [hl3] at hlog hfst
  rw [← HC.out] at hfst
  have HT := hid hT
  have HF := hid hfr
  have HK := hid hk
  have hsz := hk.size
  clear hT hfr hk hl3
  go_wp2_with fail
  go_still_tail 16, (by kernel_rfl)
  still_call (hlog.mono fun e w' ⟨h1, h2⟩ => ⟨h1, h2.symm⟩)
  still_call (hfst.mono fun e w' ⟨h1, h2⟩ => ⟨h1, h2.symm⟩)
  repeat still_step
  try refine wpStill_nil ?_
  change wpList _ _ _ _ _ w1.drew
  go_wp2
  go_ret
  refine ⟨_, rfl, hsz, (Blk.new w1 153 _).drew, ⟨c, r, sv, HT.out.kept' ((Kept.refl Nil w1).alloc _).drew (fun _ _ => id), HF.out⟩, (HK.out.alloc _).drew⟩

theorem seekZ (m : Option Nat) (C : Cnt) (t c r : Nat) (sv : Value) (T : Tab) (hash : Int) (w : World) (h : TabZ w m t c r sv T) (hm : Mt w m C) :
    Calls Try.prog 29 #[.pointer (some ⟨t, 0, none⟩), .int .i64 hash] w fun e w' => ∃ s, e = .returned (.pointer (some ⟨s, 0, none⟩)) ∧ w.heap.size ≤ s ∧ SeekAt w' s t T.log hash 0 T.turn 0 (-1) false ∧
      (∃ c' r' sv', TabAt w' m t c' r' sv' T ∧ ∀ z, own t c' r' sv' z → own t c r sv z ∨ w.heap.size ≤ z) ∧ Mt w' m C ∧ Kept (own t c r sv) w w' := by
  rcases h with h | ⟨rfl, rfl, rfl, rfl, rfl, h⟩
  · refine (seek_any m t c r sv T hash w h).mono ?_
    rintro e w' ⟨s, rfl, h1, h2, h3⟩
    exact ⟨s, rfl, h1, h2, ⟨c, r, sv, h.kept' h3 (fun _ _ => id), fun z hz => .inl hz⟩, hm.kept h3 (fun _ _ => id), h3.mono (fun _ _ h => h.elim)⟩
  · refine (seek_zero _ hash w h).mono ?_
    rintro e w' ⟨s, rfl, h1, h2, ⟨c', r', sv', h3, h4⟩, h5⟩
    exact ⟨s, rfl, h1, h2, ⟨c', r', sv', h3, fun z hz => (h4 z hz).imp (fun e => .inl e) id⟩, trivial, h5.mono (fun _ _ e => .inl e)⟩

theorem sightZ (m : Option Nat) (C : Cnt) (t c r : Nat) (sv : Value) (T : Tab) (w : World) (h : TabZ w m t c r sv T) (hm : Mt w m C) (hlen : T.ents.length ≤ 100000) :
    Calls Try.prog 23 #[.pointer (some ⟨t, 0, none⟩)] w fun e w' => ∃ csv esv, e = .returned (sightV T.log (widthOf T.log) csv esv T.live T.births T.made) ∧
      Row w' 3 1 csv T.cells.length (T.cells.map (Value.int .i64)) ∧ (∀ b, csv.ownBlock = some b → w.heap.size ≤ b) ∧ Row w' 32 5 esv T.ents.length (flat T.ents) ∧ (∀ b, esv.ownBlock = some b → w.heap.size ≤ b) ∧
      (∃ c' r' sv', TabAt w' m t c' r' sv' T ∧ ∀ z, own t c' r' sv' z → own t c r sv z ∨ w.heap.size ≤ z) ∧ Mt w' m C ∧ Kept (own t c r sv) w w' := by
  unfold sightV
  rcases h with h | ⟨rfl, rfl, rfl, rfl, rfl, h⟩
  · refine (sight_any m t c r sv T w h hlen).mono ?_
    rintro e w' ⟨csv, esv, rfl, h1, h2, h3, h4, h5⟩
    exact ⟨csv, esv, rfl, h1, h2, h3, h4, ⟨c, r, sv, h.kept' h5 (fun _ _ => id), fun z hz => .inl hz⟩, hm.kept h5 (fun _ _ => id), h5.mono (fun _ _ h => h.elim)⟩
  · refine (sight_from none _ Tab.new w (Blk.lt h) hlen (beginZ _ w h)).mono ?_
    rintro e w' ⟨csv, esv, rfl, h1, h2, h3, h4, ⟨c', r', sv', h5, h6⟩, h7⟩
    exact ⟨csv, esv, rfl, h1, h2, h3, h4, ⟨c', r', sv', h5, fun z hz => (h6 z hz).imp (fun e => .inl e) id⟩, trivial, h7.mono (fun _ _ e => .inl e)⟩
end Go.Proofs.Ytbbkljgeddjghaa
