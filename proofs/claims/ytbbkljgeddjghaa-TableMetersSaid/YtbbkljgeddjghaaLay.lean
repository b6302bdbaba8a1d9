/-
  What is proved: the walk of (*Table).lay: an entry's number is laid into the first empty cell of its trail.
-/
import Derived.Test.YtbbkljgeddjghaaTable
import Derived.StillTailTactics
namespace Go.Proofs.Ytbbkljgeddjghaa
open Go.RowKit Go.Lx Go.Shelf
set_option linter.unusedVariables false
attribute [local go_sem] Oper.semAt_some

theorem _root_.Go.Lx.Turned.cells {B : Nat} {W W' : World} (h : Turned B W W') {c r log : Nat} {cs : List Int} (hc : CellsAt W c r log cs) : CellsAt W' c r log cs :=
  ⟨h.blk hc.head, h.blk hc.row, hc.len, hc.lo, hc.hi, hc.fit⟩
theorem mem_upto {α : Type} {f : Nat → α} {k i : Nat} (h : i < k) : f i ∈ upto f k := List.mem_map.2 ⟨i, List.mem_range.2 h, rfl⟩
theorem findAt_none {cs : List Int} {log N : Nat} {h v : Int} (hn : ∀ i, i < N → cs[tc log h i]? ≠ some v) : findAt cs log h v N = none := by
  unfold findAt
  rw [List.find?_eq_none]
  intro i hi
  simpa using hn i (List.mem_range.1 hi)
theorem findAt_some {cs : List Int} {log N k : Nat} {h v : Int} (hk : k < N) (hn : ∀ i, i < k → cs[tc log h i]? ≠ some v) (hv : cs[tc log h k]? = some v) : findAt cs log h v N = some k := by
  unfold findAt
  rw [List.find?_eq_some_iff_append]
  refine ⟨by simpa using hv, List.range k, (List.range' (k + 1) (N - k - 1)), ?_, ?_⟩
  · have : N = k + (1 + (N - k - 1)) := by omega
    rw [this, List.range_eq_range', ← List.range'_append_1, ← List.range'_append_1]
    simp [List.range_eq_range']
  · intro i hi
    simpa using hn i (List.mem_range.1 hi)
theorem layCells_none {cs : List Int} {log n : Nat} {h : Int} (hn : ∀ i, i < 2 ^ log + 13 → cs[tc log h i]? ≠ some (-1)) : layCells cs log h n = cs := by
  unfold layCells; rw [findAt_none hn]
theorem layCells_some {cs : List Int} {log n k : Nat} {h : Int} (hk : k < 2 ^ log + 13) (hn : ∀ i, i < k → cs[tc log h i]? ≠ some (-1)) (hv : cs[tc log h k]? = some (-1)) : layCells cs log h n = cs.set (tc log h k) n := by
  unfold layCells; rw [findAt_some hk hn hv]

set_option maxRecDepth 100000 in
set_option maxHeartbeats 2000000 in
theorem lay_in (m : Option Nat) (t c r n g cap len log : Nat) (cs : List Int) (h0 : Int) (w : World) 
    (ht2 : w.cell? ⟨t, 2, none⟩ = some (.pointer (some ⟨c, 0, none⟩))) (ht1 : w.cell? ⟨t, 1, none⟩ = some (.slice (some ⟨g, 0, none⟩) len cap)) (hn : n < len)
    (hh : w.cell? ⟨g, n * 5 + 1, none⟩ = some (.int .i64 h0)) (hcs : CellsAt w c r log cs) (htl : t < w.heap.size) (hgl : g < w.heap.size) (htr : t ≠ r) (hgr : g ≠ r) (hroom : n < room log) :
    Calls Try.prog 110 #[.pointer (some ⟨t, 0, none⟩), .int .i64 n] w fun e w' => e = .returned (.tuple #[]) ∧ CellsAt w' c r log (layCells cs log h0 n) ∧ Kept (fun b => b = r) w w' := by
  have hcl := hcs.head.lt
  have hrl := hcs.row.lt
  refine calls_of_wp_marks Try.func110 rfl ?_
  simp only [Try.ntmps110, List.size_toArray, List.length_cons, List.length_nil, Nat.reduceAdd, Nat.reduceSub, Array.replicate_succ, Array.replicate_zero, List.push_toArray, List.append_toArray, List.nil_append, List.cons_append]
  go_wp2
  obtain ⟨W0, hW⟩ : ∃ W0, W0 = ((w.alloc (Obj.cells #[Value.pointer (some { block := t, off := 0 })] 24)).alloc (Obj.cells #[Value.int IntKind.i64 n] 3)) := ⟨_, rfl⟩
  rw [← hW]
  have hk1 : Kept Nil w W0 := by rw [hW]; exact ((Kept.refl _ w).alloc _).alloc _
  have hb1 : Blk W0 w.heap.size 24 [.pointer (some ⟨t, 0, none⟩)] := by rw [hW]; exact (Blk.new w 24 [.pointer (some ⟨t, 0, none⟩)]).alloc _
  have hb2 : Blk W0 (w.heap.size + 1) 3 [.int .i64 n] := by rw [hW]; simpa using Blk.new (w.alloc (Obj.cells #[Value.pointer (some { block := t, off := 0 })] 24)) 3 [.int .i64 n]
  have q0 : W0.cell? ⟨w.heap.size, 0, none⟩ = some (.pointer (some ⟨t, 0, none⟩)) := hb1.cell 0
  have q1 : W0.cell? ⟨w.heap.size + 1, 0, none⟩ = some (.int .i64 n) := hb2.cell 0
  have hcs1 := hcs.kept hk1 id id
  have p2 := (World.cell?_of_block (hk1.block t htl id)).trans ht2
  have p1 := (World.cell?_of_block (hk1.block t htl id)).trans ht1
  have ph := (World.cell?_of_block (a := ⟨g, n * 5 + 1, none⟩) (hk1.block g hgl id)).trans hh
  clear hW
  refine wp_scope_straight ?_
  apply wp_seq_k; intro K hK
  refine wp_label ?_
  simp only [Exit.then]
  refine hK _ _ ?_
  clear hK K
  have hlog : ∀ w1, Kept Nil W0 w1 → Calls Try.prog 75 #[.pointer (some ⟨c, 0, none⟩)] w1 fun e w' => e = .returned (.int .i64 log) ∧ w1 = w' := fun w1 hk => log_any c r log cs w1 (hcs1.kept hk id id)
  have HLOG := hid hlog
  clear hlog
  apply wp_seq_k; intro K hK
  go_still_tail 13, (by kernel_rfl)
  still_call ((HLOG.out _ ((Kept.refl _ _).drew)).mono fun e w' ⟨h1, h2⟩ => ⟨h1, h2.symm⟩)
  repeat still_step
  refine wpStill_nil ?_
  change wpList _ _ _ _ _ W0.drew
  go_wp2_with (go_at_call 111; refine (trailAll_any h0 log _).mono ?_; rintro e w2 ⟨rfl, r1, r2, hk2⟩)
  replace hk2 := hk2.undrew
  have hcs2 := hcs1.kept hk2 id id
  replace hb1 := hb1.kept hk2 id
  replace hb2 := hb2.kept hk2 id
  replace p2 := (World.cell?_of_block (hk2.block t (Nat.lt_of_lt_of_le htl hk1.size) id)).trans p2
  have hkW2 := hk1.trans hk2 (fun _ _ h => h)
  have hrl2 := hcs2.row.lt
  have htl2 : t < w2.heap.size := Nat.lt_of_lt_of_le htl hkW2.size
  have hlt1 := hb1.lt
  have hlt2 := hb2.lt
  clear hk2 hcs1 p1 ph q0 q1 HLOG hh ht1 ht2
  refine wp_range (α := Cell log) rfl (enters_of Try.func142 (by kernel_rfl) rfl) (trail_stops 2 (by omega) log h0 hcs.hi _ _ w2 r1 r2) (fun _ _ => trivial) (fun _ _ _ _ _ _ _ _ => trivial) (fun _ => rfl)
    (fun pre W' => Kept (fun b => b = r) w2 W' ∧ CellsAt W' c r log cs ∧ ∀ x ∈ pre, cs[x.1]? ≠ some (-1))
    (fun cd pre W' => cd = .exit 0 ∧ ∃ pre' x, pre = pre' ++ [x] ∧ (∀ y ∈ pre', cs[y.1]? ≠ some (-1)) ∧ cs[x.1]? = some (-1) ∧ Kept (fun b => b = r) w2 W' ∧ CellsAt W' c r log (cs.set x.1 n))
    ?_ ?_ ⟨Kept.refl _ _, hcs2, by simp⟩ 
    (fun x => { tmps := #[Value.pointer (some { block := t, off := 0 }), Value.int IntKind.i64 n,
          Value.pointer (some { block := w.heap.size, off := 0 }),
          Value.pointer (some { block := w.heap.size + 1, off := 0 }), Value.int IntKind.i64 x.val, undef, undef,
          Value.pointer (some { block := t, off := 0 }), Value.pointer (some { block := t, off := 0 }),
          Value.pointer (some { block := t, off := 1 }), Value.slice (some { block := g, off := 0 }) len cap,
          Value.int IntKind.i64 n, Value.pointer (some { block := g, off := n * 5 }),
          Value.pointer (some { block := g, off := n * 5 + 1 }), Value.int IntKind.i64 h0,
          Value.pointer (some { block := t, off := 0 }), Value.pointer (some { block := t, off := 0 }),
          Value.pointer (some { block := t, off := 2 }), Value.pointer (some { block := c, off := 0 }),
          Value.int IntKind.i64 log,
          Value.func (Fn.func 142) #[]
            #[Value.pointer (some { block := W0.heap.size + 1, off := 0 }),
              Value.pointer (some { block := W0.heap.size, off := 0 })],
          Value.int IntKind.i64 x.val, undef, undef, undef, undef, undef, undef, undef, undef, undef, undef, undef,
          undef, undef, undef, undef, undef, undef, undef], defers := [] })
    ?assign ?body ?done ?stop
  case assign =>
    intro l x W K hK
    gi_wp2
    exact hK
  case body =>
    rintro l pre x W ⟨hk, hc, hne⟩ _
    obtain ⟨v, hv⟩ : ∃ v, cs[x.1]? = some v := ⟨_, List.getElem?_eq_getElem (by rw [hcs.len]; exact x.2)⟩
    have hbW1 := hb1.kept hk (by omega)
    have hbW2 := hb2.kept hk (by omega)
    have q0 : W.cell? ⟨w.heap.size, 0, none⟩ = some (.pointer (some ⟨t, 0, none⟩)) := hbW1.cell 0
    have q1 : W.cell? ⟨w.heap.size + 1, 0, none⟩ = some (.int .i64 n) := hbW2.cell 0
    have q2 := (World.cell?_of_block (a := ⟨t, 2, none⟩) (hk.block t htl2 htr)).trans p2
    obtain ⟨k, hkx⟩ : ∃ k, k = x.1 := ⟨_, rfl⟩
    have hget := get_any c r log x.1 v cs W hc hv
    have hset := fun W1 (hk1 : Kept Nil W W1) => set_any c r log x.1 n cs W1 (hc.kept hk1 id id) x.2 (by omega) (by omega)
    have HSET := hid hset
    have hkl : x.1 < 2 ^ log := x.2
    clear hset
    by_cases hv1 : v = -1
    · subst hv1
      gi_wp2_with (refine ⟨trivial, ?_⟩; gi_at_call 83; refine (round_call l hget).mono ?_; clear hget; rintro e W1 ⟨rfl, hkW1⟩)
      have hbX1 := hbW1.kept hkW1 id
      have hbX2 := hbW2.kept hkW1 id
      have s0 : W1.cell? ⟨w.heap.size, 0, none⟩ = some (.pointer (some ⟨t, 0, none⟩)) := hbX1.cell 0
      have s1 : W1.cell? ⟨w.heap.size + 1, 0, none⟩ = some (.int .i64 n) := hbX2.cell 0
      have s2 := (World.cell?_of_block (a := ⟨t, 2, none⟩) (hkW1.block t (Nat.lt_of_lt_of_le htl2 hk.size) id)).trans q2
      refine round_still_tail 6 (by kernel_rfl) (by kernel_rfl) (by kernel_rfl) (fun _ _ h => h) ?_
      simp only [List.take_succ_cons, List.take_zero, List.drop_succ_cons, List.drop_zero]
      repeat still_step
      refine wpStill_nil ?_
      go_wp2_with (go_at_call 112; refine (HSET.out _ hkW1.drew).mono ?_; rintro e W2 ⟨rfl, hc2, hk2⟩)
      replace hk2 := hk2.undrew
      have hkk : Kept (fun b => b = r) W W2 := (hkW1.mono (fun _ _ h => h.elim)).trans hk2 (fun _ _ h => h)
      gi_wp2
      exact ⟨keepsFrom_of hkk (fun b o hb _ _ e => by have := hb; omega), rfl, pre, x, rfl, hne, hv, hk.trans hkk (fun _ _ h => h), hc2⟩
    · gi_wp2_with (refine ⟨trivial, ?_⟩; gi_at_call 83; refine (round_call l hget).mono ?_; clear hget; rintro e W1 ⟨rfl, hkW1⟩)
      refine ⟨keepsFrom_of hkW1 (fun _ _ _ _ _ => id), trivial, hk.trans hkW1 (fun _ _ h => h.elim), hc.kept hkW1 id id, ?_⟩
      intro y hy
      rcases List.mem_append.1 hy with hy | hy
      · exact hne y hy
      · simp at hy; subst hy; rw [hv]; simpa using hv1
  case done =>
    rintro D xs W hD rfl ⟨hk, hc, hne⟩ hK
    go_wp2
    have hT := turned_put (o' := .deferred none) hK rfl hD
    refine leave_mark (.inl rfl) hK (results_none rfl _ _ _) ⟨rfl, ?_, ?_⟩
    · rw [layCells_none fun i hi => hne (cellAt log h0 i) (mem_upto hi)]
      exact hT.cells hc
    · exact hT.kept ((hkW2.mono (R' := fun b => b = r) (fun _ _ h => h.elim)).trans hk (fun _ _ h => h)) hkW2.size
  case stop =>
    rintro D cd pre W hD ⟨k, hk, rfl⟩ ⟨rfl, pre', x, hpre, hne, hx, hkW, hc⟩ hK
    go_wp2
    have hT := turned_put (o' := .deferred none) hK rfl hD
    rw [upto_succ] at hpre
    obtain ⟨rfl, hxx⟩ := List.append_inj' hpre rfl
    obtain rfl : cellAt log h0 k = x := by simpa using hxx
    refine leave_mark (.inl rfl) hK (results_none rfl _ _ _) ⟨rfl, ?_, ?_⟩
    · rw [layCells_some (k := k) hk (fun i hi => hne (cellAt log h0 i) (mem_upto hi)) hx]
      exact hT.cells hc
    · exact hT.kept ((hkW2.mono (R' := fun b => b = r) (fun _ _ h => h.elim)).trans hkW (fun _ _ h => h)) hkW2.size
  · rintro s W W' ⟨h1, h2, h3⟩ hT
    exact ⟨hT.kept h1 (Nat.le_refl _), hT.cells h2, h3⟩
  · rintro cd s W W' ⟨e, pre', x, h1, h2, h3, h4, h5⟩ hT
    exact ⟨e, pre', x, h1, h2, h3, hT.kept h4 (Nat.le_refl _), hT.cells h5⟩

end Go.Proofs.Ytbbkljgeddjghaa
