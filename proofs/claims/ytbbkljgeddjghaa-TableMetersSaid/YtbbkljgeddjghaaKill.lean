/-
  What is proved: the walk of (*Table).Kill.
-/
import Derived.Test.YtbbkljgeddjghaaBegin
namespace Go.Proofs.Ytbbkljgeddjghaa
open Go.RowKit Go.Lx Go.Shelf
set_option linter.unusedVariables false
attribute [local go_sem] Oper.semAt_some

theorem killCells_none {cs : List Int} {log n : Nat} {h : Int} (hn : ∀ i, i < 2 ^ log + 13 → cs[tc log h i]? ≠ some (n : Int)) : killCells cs log h n = cs := by
  unfold killCells; rw [findAt_none hn]
theorem killCells_some {cs : List Int} {log n k : Nat} {h : Int} (hk : k < 2 ^ log + 13) (hn : ∀ i, i < k → cs[tc log h i]? ≠ some (n : Int)) (hv : cs[tc log h k]? = some (n : Int)) : killCells cs log h n = cs.set (tc log h k) (-2) := by
  unfold killCells; rw [findAt_some hk hn hv]

set_option maxRecDepth 100000 in
set_option maxHeartbeats 2000000 in
theorem kill_bad (p : Option Addr) (i : Int) (k : Int) (hk : (k == 0) = false) (w : World) (hw : ∀ w', Kept Nil w w' → Calls Try.prog 86 #[.pointer p, .int .i64 i] w' fun e w'' => e = .returned (.int .i64 k) ∧ w' = w'') :
    Calls Try.prog 45 #[.pointer p, .int .i64 i] w fun e w' => e = .returned (.int .i64 k) ∧ Kept Nil w w' := by
  have HW := hid hw
  clear hw
  go_enter Try.func45, Try.ntmps45
  go_wp2
  refine wp_scope_straight ?_
  go_wp2_with (go_at_call 86; refine (HW.out _ (((Kept.refl _ w).alloc _).alloc _)).mono ?_; rintro e w' ⟨rfl, rfl⟩)
  simp only [Exit.noGoto]
  go_ret
  exact ⟨rfl, ((Kept.refl _ w).alloc _).alloc _⟩

theorem _root_.Go.Lx.Row.kill {w : World} {sv : Value} {es : List Ent} {len : Nat} (h : Row w 32 5 sv len (flat es)) {g : Nat} (hg : sv.ownBlock = some g) {n : Nat} {x : Ent} (hx : es[n]? = some x) :
    Row (((((w.setCell ⟨g, n * 5, none⟩ (.bool false)).setCell ⟨g, n * 5 + 1, none⟩ (.int .i64 0)).setCell ⟨g, n * 5 + 2, none⟩ (.int .i64 0)).setCell ⟨g, n * 5 + 3, none⟩ (.int .i64 0)).setCell ⟨g, n * 5 + 4, none⟩ (.int .i64 0)) 32 5 sv len (flat (es.set n Ent.dead)) := by
  have hn := (List.getElem?_eq_some_iff.1 hx).1
  have one : ∀ {w : World} {es : List Ent} {x : Ent} (y : Ent) (k : Nat) (v : Value), Row w 32 5 sv len (flat es) → es[n]? = some x → k < 5 → y.vals = x.vals.set k v → Row (w.setCell ⟨g, n * 5 + k, none⟩ v) 32 5 sv len (flat (es.set n y)) := by
    intro w es x y k v h hx hk hy
    have hn := (List.getElem?_eq_some_iff.1 hx).1
    have := h.set hg (j := n * 5 + k) (by rw [flat_len]; omega) v
    rwa [flat_set _ _ _ _ _ _ hx hk hy] at this
  have g1 : ∀ (es : List Ent) (y : Ent), n < es.length → (es.set n y)[n]? = some y := fun es y h => by simp [h]
  have h0 := one { x with live := false } 0 (.bool false) h hx (by omega) rfl
  have h1 := one { x with live := false, hash := 0 } 1 (.int .i64 0) h0 (g1 _ _ hn) (by omega) rfl
  have h2 := one { x with live := false, hash := 0, key := 0 } 2 (.int .i64 0) h1 (g1 _ _ (by simpa using hn)) (by omega) rfl
  have h3 := one { x with live := false, hash := 0, key := 0, value := 0 } 3 (.int .i64 0) h2 (g1 _ _ (by simpa using hn)) (by omega) rfl
  have h4 := one Ent.dead 4 (.int .i64 0) h3 (g1 _ _ (by simpa using hn)) (by omega) rfl
  simpa using h4

set_option maxRecDepth 100000 in
set_option maxHeartbeats 2000000 in
theorem kill_in (m : Option Nat) (t c r g cap : Nat) (n : Nat) (T : Tab) (x : Ent) (w : World) (h : TabAt w m t c r (.slice (some ⟨g, 0, none⟩) T.ents.length cap) T) (hx : T.ents[n]? = some x) (hl : x.live = true) (h1 : T.live ≤ 100000) (h2 : T.turn ≤ 100000) (h3 : 1 ≤ T.live) 
    (hw : ∀ w', Kept Nil w w' → Calls Try.prog 86 #[.pointer (some ⟨t, 0, none⟩), .int .i64 n] w' fun e w'' => e = .returned (.int .i64 0) ∧ w' = w'') :
    Calls Try.prog 45 #[.pointer (some ⟨t, 0, none⟩), .int .i64 n] w fun e w' => e = .returned (.int .i64 0) ∧ TabAt w' m t c r (.slice (some ⟨g, 0, none⟩) T.ents.length cap) (T.kill n) ∧ Kept (own t c r (.slice (some ⟨g, 0, none⟩) T.ents.length cap)) w w' := by
  have hT : T.get n = some x := by unfold Tab.get; simp [hx, hl]
  have hTk : T.kill n = { T with ents := T.ents.set n Ent.dead, cells := killCells T.cells T.log x.hash n, live := T.live - 1, turn := T.turn + 1 } := by unfold Tab.kill; rw [hT]; simp
  rw [hTk]; clear hT hTk
  have HW := hid hw
  clear hw
  have hcl := h.cells.head.lt
  have hrl := h.cells.row.lt
  have htl := h.head.lt
  have hgl := h.ents.lt (g := g) rfl
  have ht1 : w.cell? ⟨t, 1, none⟩ = some (.slice (some ⟨g, 0, none⟩) T.ents.length cap) := h.head.cell 1
  have ht2 : w.cell? ⟨t, 2, none⟩ = some (.pointer (some ⟨c, 0, none⟩)) := h.head.cell 2
  have hh : w.cell? ⟨g, n * 5 + 1, none⟩ = some (.int .i64 x.hash) := h.ents.cell (g := g) rfl (by rw [flat_get _ _ _ _ hx (by omega)]; rfl)
  have hlen := (List.getElem?_eq_some_iff.1 hx).1
  have H := hid h
  have HX := hid hx
  clear h hx
  generalize hlen' : T.ents.length = len at *
  refine calls_of_wp_marks Try.func45 rfl ?_
  simp only [Try.ntmps45, List.size_toArray, List.length_cons, List.length_nil, Nat.reduceAdd, Nat.reduceSub, Array.replicate_succ, Array.replicate_zero, List.push_toArray, List.append_toArray, List.nil_append, List.cons_append]
  go_wp2
  refine wp_scope_straight ?_
  go_wp2_with (go_at_call 86; refine (HW.out _ (((Kept.refl _ w).alloc _).alloc _)).mono ?_; rintro e w' ⟨rfl, rfl⟩)
  obtain ⟨W0, hW⟩ : ∃ W0, W0 = ((w.alloc (Obj.cells #[Value.pointer (some { block := t, off := 0 })] 24)).alloc (Obj.cells #[Value.int IntKind.i64 n] 3)) := ⟨_, rfl⟩
  rw [← hW]
  have hk1 : Kept Nil w W0 := by rw [hW]; exact ((Kept.refl _ w).alloc _).alloc _
  have hb1 : Blk W0 w.heap.size 24 [.pointer (some ⟨t, 0, none⟩)] := by rw [hW]; exact (Blk.new w 24 [.pointer (some ⟨t, 0, none⟩)]).alloc _
  have hb2 : Blk W0 (w.heap.size + 1) 3 [.int .i64 n] := by rw [hW]; simpa using Blk.new (w.alloc (Obj.cells #[Value.pointer (some { block := t, off := 0 })] 24)) 3 [.int .i64 n]
  have q0 : W0.cell? ⟨w.heap.size, 0, none⟩ = some (.pointer (some ⟨t, 0, none⟩)) := hb1.cell 0
  have q1 : W0.cell? ⟨w.heap.size + 1, 0, none⟩ = some (.int .i64 n) := hb2.cell 0
  have hcs1 := H.out.cells.kept hk1 id id
  have p2 := (World.cell?_of_block (hk1.block t htl id)).trans ht2
  have p1 := (World.cell?_of_block (hk1.block t htl id)).trans ht1
  have ph := (World.cell?_of_block (a := ⟨g, n * 5 + 1, none⟩) (hk1.block g hgl id)).trans hh
  clear hW
  refine wp_label ?_
  simp only [Exit.then]
  have hlog : ∀ w1, Kept Nil W0 w1 → Calls Try.prog 75 #[.pointer (some ⟨c, 0, none⟩)] w1 fun e w' => e = .returned (.int .i64 T.log) ∧ w1 = w' := fun w1 hk => log_any c r T.log T.cells w1 (hcs1.kept hk id id)
  have HLOG := hid hlog
  clear hlog
  rename_i K hK
  refine hK _ _ ?_
  clear hK K
  apply wp_seq_k; intro K hK
  apply wp_seq_k; intro K2 hK2
  go_still_tail 13, (by kernel_rfl)
  still_call ((HLOG.out _ ((Kept.refl _ _).drew)).mono fun e w' ⟨h1, h2⟩ => ⟨h1, h2.symm⟩)
  repeat still_step
  refine wpStill_nil ?_
  change wpList _ _ _ _ _ W0.drew
  go_wp2_with (go_at_call 111; refine (trailAll_any x.hash T.log _).mono ?_; rintro e w2 ⟨rfl, r1, r2, hk2⟩)
  replace hk2 := hk2.undrew
  have hcs2 := hcs1.kept hk2 id id
  replace hb1 := hb1.kept hk2 id
  replace hb2 := hb2.kept hk2 id
  have hkW2 := hk1.trans hk2 (fun _ _ h => h)
  have hrl2 := hcs2.row.lt
  have htl2 : t < w2.heap.size := Nat.lt_of_lt_of_le htl hkW2.size
  have hlt1 := hb1.lt
  have hlt2 := hb2.lt
  have htr := H.out.tr
  have hgr : g ≠ r := H.out.re rfl
  have hgt : g ≠ t := H.out.te rfl
  have hgc : g ≠ c := H.out.ce rfl
  have htc := H.out.tc
  have hfin : ∀ (D : Nat) (W : World) (cs' : List Int), w2.heap.size ≤ D → W.heap[D]? = some (.deferred (some [])) → cs' = killCells T.cells T.log x.hash n → CellsAt W c r T.log cs' → Kept (fun b => b = r) w2 W → K { tmps := #[Value.pointer (some { block := t, off := 0 }), Value.int IntKind.i64 ↑n,
          Value.pointer (some { block := w.heap.size, off := 0 }),
          Value.pointer (some { block := w.heap.size + 1, off := 0 }), Value.int IntKind.i64 0, Value.int IntKind.i64 0,
          undef, undef, undef, Value.pointer (some { block := t, off := 0 }), Value.int IntKind.i64 ↑n,
          Value.int IntKind.i64 0, Value.int IntKind.i64 0, Value.bool false, undef,
          Value.pointer (some { block := t, off := 0 }), Value.pointer (some { block := t, off := 0 }),
          Value.pointer (some { block := t, off := 1 }), Value.slice (some { block := g, off := 0 }) len cap,
          Value.int IntKind.i64 ↑n, Value.pointer (some { block := g, off := n * 5 }),
          Value.pointer (some { block := g, off := n * 5 + 1 }), Value.int IntKind.i64 x.hash,
          Value.pointer (some { block := t, off := 0 }), Value.pointer (some { block := t, off := 0 }),
          Value.pointer (some { block := t, off := 2 }), Value.pointer (some { block := c, off := 0 }),
          Value.int IntKind.i64 ↑T.log,
          Value.func (Fn.func 142) #[]
            #[Value.pointer (some { block := W0.heap.size + 1, off := 0 }),
              Value.pointer (some { block := W0.heap.size, off := 0 })],
          undef, undef, undef, undef, undef, undef, undef, undef, undef, undef, undef, undef, undef, undef, undef, undef, undef, undef, undef, undef, undef, undef, undef, undef, undef, undef, undef, undef, undef, undef, undef, undef, undef, undef, undef, undef, undef, undef, undef, undef], defers := [{ target := .collected D, args := #[] }] } W := by
    intro D W cs' hD hKD hcs hcW hkW
    refine hK _ _ ?_
    have hkw := (hkW2.mono (R' := fun b => b = r) (fun _ _ h => h.elim)).trans hkW (fun _ _ h => h)
    have hhead := H.out.head.kept hkw htr
    have hrow := H.out.ents.kept hkw (fun g' hg' => by cases hg'; exact hgr)
    have b1 := hb1.kept hkW (by omega)
    have b2 := hb2.kept hkW (by omega)
    have e0 : W.cell? ⟨w.heap.size, 0, none⟩ = some (.pointer (some ⟨t, 0, none⟩)) := b1.cell 0
    have e1 : W.cell? ⟨w.heap.size + 1, 0, none⟩ = some (.int .i64 n) := b2.cell 0
    have d1 : W.cell? ⟨t, 1, none⟩ = some (.slice (some ⟨g, 0, none⟩) len cap) := hhead.cell 1
    have d3 : W.cell? ⟨t, 3, none⟩ = some (.int .i64 T.live) := hhead.cell 3
    have d6 : W.cell? ⟨t, 6, none⟩ = some (.int .i64 T.turn) := hhead.cell 6
    have f3 := hhead.frozen 3
    have f6 := hhead.frozen 6
    have g0 : W.cell? ⟨g, n * 5, none⟩ = some (.bool x.live) := hrow.cell rfl (by rw [show n * 5 = n * 5 + 0 from rfl, flat_get _ _ _ _ HX.out (by omega)]; rfl)
    have g1 : W.cell? ⟨g, n * 5 + 1, none⟩ = some (.int .i64 x.hash) := hrow.cell rfl (by rw [flat_get _ _ _ _ HX.out (by omega)]; rfl)
    have g2 : W.cell? ⟨g, n * 5 + 2, none⟩ = some (.int .i64 x.key) := hrow.cell rfl (by rw [flat_get _ _ _ _ HX.out (by omega)]; rfl)
    have g3 : W.cell? ⟨g, n * 5 + 3, none⟩ = some (.int .i64 x.value) := hrow.cell rfl (by rw [flat_get _ _ _ _ HX.out (by omega)]; rfl)
    have g4 : W.cell? ⟨g, n * 5 + 4, none⟩ = some (.int .i64 x.birth) := hrow.cell rfl (by rw [flat_get _ _ _ _ HX.out (by omega)]; rfl)
    have fz := hrow.frozen (g := g) rfl
    have z0 := fz (n * 5)
    have z1 := fz (n * 5 + 1)
    have z2 := fz (n * 5 + 2)
    have z3 := fz (n * 5 + 3)
    have z4 := fz (n * 5 + 4)
    clear fz
    apply wp_seq_k; intro K9 hK9
    go_still_tail 7, (by kernel_rfl)
    repeat still_step
    try refine wpStill_nil ?_
    change wpList _ _ _ _ _ W.drew
    go_wp2
    have kW : Kept (fun b => b = g ∨ b = t) W (((((((W.setCell ⟨g, n * 5, none⟩ (.bool false)).setCell ⟨g, n * 5 + 1, none⟩ (.int .i64 0)).setCell ⟨g, n * 5 + 2, none⟩ (.int .i64 0)).setCell ⟨g, n * 5 + 3, none⟩ (.int .i64 0)).setCell ⟨g, n * 5 + 4, none⟩ (.int .i64 0)).setCell ⟨t, 3, none⟩ (.int .i64 ((T.live : Int) - 1))).setCell ⟨t, 6, none⟩ (.int .i64 ((T.turn : Int) + 1))).drew :=
      (((((((((Kept.refl (fun b => b = g ∨ b = t) W).setCell (p := ⟨g, n * 5, none⟩) (.inl (.inl rfl)) _).setCell (p := ⟨g, n * 5 + 1, none⟩) (.inl (.inl rfl)) _).setCell (p := ⟨g, n * 5 + 2, none⟩) (.inl (.inl rfl)) _).setCell (p := ⟨g, n * 5 + 3, none⟩) (.inl (.inl rfl)) _).setCell (p := ⟨g, n * 5 + 4, none⟩) (.inl (.inl rfl)) _).setCell (p := ⟨t, 3, none⟩) (.inl (.inr rfl)) _).setCell (p := ⟨t, 6, none⟩) (.inl (.inr rfl)) _).drew)
    have hr9 := hrow.kill (g := g) rfl HX.out
    have hh9 := ((hhead.other (a := ⟨g, n * 5, none⟩) hgt.symm (.bool false)).other (a := ⟨g, n * 5 + 1, none⟩) hgt.symm (.int .i64 0)).other (a := ⟨g, n * 5 + 2, none⟩) hgt.symm (.int .i64 0)
    have hh9' := ((((hh9.other (a := ⟨g, n * 5 + 3, none⟩) hgt.symm (.int .i64 0)).other (a := ⟨g, n * 5 + 4, none⟩) hgt.symm (.int .i64 0)).set 3 (.int .i64 ((T.live : Int) - 1))).set 6 (.int .i64 ((T.turn : Int) + 1))).drew
    have hr9' := ((hr9.other (a := ⟨t, 3, none⟩) (fun g' hg' => by cases hg'; exact hgt) (.int .i64 ((T.live : Int) - 1))).other (a := ⟨t, 6, none⟩) (fun g' hg' => by cases hg'; exact hgt) (.int .i64 ((T.turn : Int) + 1))).drew
    have hc9 := hcW.kept kW (fun e => by rcases e with e | e; exact hgc e.symm; exact htc e.symm) (fun e => by rcases e with e | e; exact hgr e.symm; exact htr e.symm)
    generalize (((((((W.setCell ⟨g, n * 5, none⟩ (.bool false)).setCell ⟨g, n * 5 + 1, none⟩ (.int .i64 0)).setCell ⟨g, n * 5 + 2, none⟩ (.int .i64 0)).setCell ⟨g, n * 5 + 3, none⟩ (.int .i64 0)).setCell ⟨g, n * 5 + 4, none⟩ (.int .i64 0)).setCell ⟨t, 3, none⟩ (.int .i64 ((T.live : Int) - 1))).setCell ⟨t, 6, none⟩ (.int .i64 ((T.turn : Int) + 1))).drew = W9 at *
    have hK9 : W9.heap[D]? = some (.deferred (some [])) := (kW.block D (Array.getElem?_eq_some_iff.1 hKD).1 (by have := hkW2.size; omega)).trans hKD
    have hT := turned_put (o' := .deferred none) hK9 rfl hD
    refine leave_mark (.inr rfl) hK9 (v := .int .i64 0) (by simp [results, Try.results45, go_sem]) ⟨rfl, ⟨?_, ?_, ?_, ?_⟩, ?_⟩
    · have e := hT.blk hh9'
      have e2 : ((T.live : Int) - 1) = ((T.live - 1 : Nat) : Int) := by omega
      rw [e2] at e
      exact e
    · show CellsAt _ c r T.log (killCells T.cells T.log x.hash n)
      rw [← hcs]; exact hT.cells hc9
    · have e := hT.row hr9'
      show Row _ _ _ _ (T.ents.set n Ent.dead).length _
      rw [List.length_set]; exact e
    · show (T.ents.set n Ent.dead).length ≤ _
      rw [List.length_set, hlen', ← hlen']; exact H.out.fits
    · refine hT.kept ((hkw.mono (R' := own t c r (.slice (some ⟨g, 0, none⟩) len cap)) (fun _ _ h => .inr (.inr (.inl h)))).trans kW ?_) hkW2.size
      rintro b _ (rfl | rfl)
      · exact .inr (.inr (.inr rfl))
      · exact .inl rfl
  have q2' := (World.cell?_of_block (hk2.block t (Nat.lt_of_lt_of_le htl hk1.size) id)).trans p2
  have HFIN := hid hfin
  clear hK hfin hk2 hcs1 p1 ph q0 q1 HLOG hh ht1 ht2 p2
  have hcl2 := hcs2.head.lt
  refine wp_range (α := Cell T.log) rfl (enters_of Try.func142 (by kernel_rfl) rfl) (trail_stops 2 (by omega) T.log x.hash hcs2.hi _ _ w2 r1 r2) (fun _ _ => trivial) (fun _ _ _ _ _ _ _ _ => trivial) (fun _ => rfl)
    (fun pre W' => Kept (fun b => b = r) w2 W' ∧ CellsAt W' c r T.log T.cells ∧ ∀ y ∈ pre, T.cells[y.1]? ≠ some (n : Int))
    (fun cd pre W' => cd = .exit 0 ∧ ∃ pre' y, pre = pre' ++ [y] ∧ (∀ y ∈ pre', T.cells[y.1]? ≠ some (n : Int)) ∧ T.cells[y.1]? = some (n : Int) ∧ Kept (fun b => b = r) w2 W' ∧ CellsAt W' c r T.log (T.cells.set y.1 (-2)))
    ?_ ?_ ⟨Kept.refl _ _, hcs2, by simp⟩
    (fun y => { tmps := #[Value.pointer (some { block := t, off := 0 }), Value.int IntKind.i64 ↑n,
          Value.pointer (some { block := w.heap.size, off := 0 }),
          Value.pointer (some { block := w.heap.size + 1, off := 0 }), Value.int IntKind.i64 0, Value.int IntKind.i64 0,
          Value.int IntKind.i64 y.val, undef, undef, Value.pointer (some { block := t, off := 0 }), Value.int IntKind.i64 ↑n,
          Value.int IntKind.i64 0, Value.int IntKind.i64 0, Value.bool false, undef,
          Value.pointer (some { block := t, off := 0 }), Value.pointer (some { block := t, off := 0 }),
          Value.pointer (some { block := t, off := 1 }), Value.slice (some { block := g, off := 0 }) len cap,
          Value.int IntKind.i64 ↑n, Value.pointer (some { block := g, off := n * 5 }),
          Value.pointer (some { block := g, off := n * 5 + 1 }), Value.int IntKind.i64 x.hash,
          Value.pointer (some { block := t, off := 0 }), Value.pointer (some { block := t, off := 0 }),
          Value.pointer (some { block := t, off := 2 }), Value.pointer (some { block := c, off := 0 }),
          Value.int IntKind.i64 ↑T.log,
          Value.func (Fn.func 142) #[]
            #[Value.pointer (some { block := W0.heap.size + 1, off := 0 }),
              Value.pointer (some { block := W0.heap.size, off := 0 })],
          Value.int IntKind.i64 y.val, undef, undef, undef, undef, undef, undef, undef, undef, undef, undef, undef, undef, undef, undef, undef, undef, undef, undef, undef, undef, undef, undef, undef, undef, undef, undef, undef, undef, undef, undef, undef, undef, undef, undef, undef, undef, undef, undef, undef], defers := [] })
    ?assign ?body ?done ?stop
  case assign =>
    intro l y W K hK
    gi_wp2
    exact hK
  case body =>
    rintro l pre y W ⟨hk, hc, hne⟩ _
    obtain ⟨v, hv⟩ : ∃ v, T.cells[y.1]? = some v := ⟨_, List.getElem?_eq_getElem (by rw [hcs2.len]; exact y.2)⟩
    have hbW1 := hb1.kept hk (by omega)
    have hbW2 := hb2.kept hk (by omega)
    have q0 : W.cell? ⟨w.heap.size, 0, none⟩ = some (.pointer (some ⟨t, 0, none⟩)) := hbW1.cell 0
    have q1 : W.cell? ⟨w.heap.size + 1, 0, none⟩ = some (.int .i64 n) := hbW2.cell 0
    have q2 := (World.cell?_of_block (a := ⟨t, 2, none⟩) (hk.block t htl2 htr)).trans q2'
    obtain ⟨k, hkx⟩ : ∃ k, k = y.1 := ⟨_, rfl⟩
    have hget := get_any c r T.log y.1 v T.cells W hc hv
    have hset := fun W1 (hk1 : Kept Nil W W1) => set_any c r T.log y.1 (-2) T.cells W1 (hc.kept hk1 id id) y.2 (by omega) (by omega)
    have HSET := hid hset
    have hkl : y.1 < 2 ^ T.log := y.2
    clear hset
    by_cases hv1 : v = n
    · subst hv1
      gi_wp2_with (refine ⟨trivial, ?_⟩; gi_at_call 83; refine (round_call l hget).mono ?_; clear hget; rintro e W1 ⟨rfl, hkW1⟩; have hbX1 := hbW1.kept hkW1 id; have hbX2 := hbW2.kept hkW1 id; have s0 : W1.cell? ⟨w.heap.size, 0, none⟩ = some (.pointer (some ⟨t, 0, none⟩)) := hbX1.cell 0; have s1 : W1.cell? ⟨w.heap.size + 1, 0, none⟩ = some (.int .i64 n) := hbX2.cell 0; have s2 := (World.cell?_of_block (a := ⟨t, 2, none⟩) (hkW1.block t (Nat.lt_of_lt_of_le htl2 hk.size) id)).trans q2)
      refine ⟨trivial, ?_⟩
      gi_at_call 112
      refine (round_call l (HSET.out _ hkW1)).mono ?_
      rintro e W2 ⟨rfl, hc2, hk2⟩
      have hkk : Kept (fun b => b = r) W W2 := (hkW1.mono (fun _ _ h => h.elim)).trans hk2 (fun _ _ h => h)
      gi_wp2
      exact ⟨keepsFrom_of hkk (fun b o hb _ _ e => by have := hb; omega), rfl, pre, y, rfl, hne, hv, hk.trans hkk (fun _ _ h => h), hc2⟩
    · gi_wp2_with (refine ⟨trivial, ?_⟩; gi_at_call 83; refine (round_call l hget).mono ?_; clear hget; rintro e W1 ⟨rfl, hkW1⟩; have hbX2 := hbW2.kept hkW1 id; have s1 : W1.cell? ⟨w.heap.size + 1, 0, none⟩ = some (.int .i64 n) := hbX2.cell 0)
      refine ⟨keepsFrom_of hkW1 (fun _ _ _ _ _ => id), trivial, hk.trans hkW1 (fun _ _ h => h.elim), hc.kept hkW1 id id, ?_⟩
      intro z hz
      rcases List.mem_append.1 hz with hz | hz
      · exact hne z hz
      · simp at hz; subst hz; rw [hv]; simpa using hv1
  case done =>
    rintro D xs W hD rfl ⟨hk, hc, hne⟩ hKD
    go_wp2
    exact HFIN.out D W _ hD hKD (killCells_none fun i hi => hne (cellAt T.log x.hash i) (mem_upto hi)).symm hc hk
  case stop =>
    rintro D cd pre W hD ⟨k, hk, rfl⟩ ⟨rfl, pre', y, hpre, hne, hx, hkW, hc⟩ hKD
    go_wp2
    rw [upto_succ] at hpre
    obtain ⟨rfl, hxx⟩ := List.append_inj' hpre rfl
    obtain rfl : cellAt T.log x.hash k = y := by simpa using hxx
    exact HFIN.out D W _ hD hKD (killCells_some (k := k) hk (fun i hi => hne (cellAt T.log x.hash i) (mem_upto hi)) hx).symm hc hkW
  · rintro s W W' ⟨h1, h2, h3⟩ hT
    exact ⟨hT.kept h1 (Nat.le_refl _), hT.cells h2, h3⟩
  · rintro cd s W W' ⟨e, pre', y, h1, h2, h3, h4, h5⟩ hT
    exact ⟨e, pre', y, h1, h2, h3, hT.kept h4 (Nat.le_refl _), hT.cells h5⟩

theorem kill_yes (m : Option Nat) (t c r : Nat) (sv : Value) (T : Tab) (w : World) (i : Int) (x : Ent) (h : TabAt w m t c r sv T) (hx : T.get i = some x) (h1 : T.live ≤ 100000) (h2 : T.turn ≤ 100000) (h3 : 1 ≤ T.live) :
    Calls Try.prog 45 #[.pointer (some ⟨t, 0, none⟩), .int .i64 i] w fun e w' => e = .returned (.int .i64 0) ∧ TabAt w' m t c r sv (T.kill i) ∧ Kept (own t c r sv) w w' := by
  have hw := fun w' (hk : Kept Nil w w') => wrong_yes m t c r sv T w' i x (h.kept' hk (fun _ _ => id)) hx
  obtain ⟨h0, hx, hl⟩ := get_some hx
  obtain ⟨k, rfl⟩ := Int.eq_ofNat_of_zero_le h0
  obtain ⟨g, cap, rfl, -, -, -, -⟩ := h.ent hx
  exact kill_in m t c r g cap k T x w h hx hl h1 h2 h3 hw
theorem kill_no (m : Option Nat) (t c r : Nat) (sv : Value) (T : Tab) (w : World) (i : Int) (h : TabAt w m t c r sv T) (hx : T.get i = none) :
    Calls Try.prog 45 #[.pointer (some ⟨t, 0, none⟩), .int .i64 i] w fun e w' => e = .returned (.int .i64 7) ∧ Kept Nil w w' :=
  kill_bad _ i 7 rfl w fun w' hk => wrong_no m t c r sv T w' i (h.kept' hk (fun _ _ => id)) hx
theorem kill_nil (i : Int) (w : World) : Calls Try.prog 45 #[.pointer none, .int .i64 i] w fun e w' => e = .returned (.int .i64 1) ∧ Kept Nil w w' :=
  kill_bad _ i 1 rfl w fun w' hk => wrong_nil i w'

end Go.Proofs.Ytbbkljgeddjghaa
