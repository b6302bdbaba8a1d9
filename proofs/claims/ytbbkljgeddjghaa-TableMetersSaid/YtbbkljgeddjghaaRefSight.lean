/-
  What is proved: the walk of the document's answer for chapter 7: Sight.
-/
import Derived.Test.YtbbkljgeddjghaaRefMore
import Derived.Deep.RegionHeld3
namespace Go.Lx
open Go.RowKit
/-- A whole row as what an append takes. -/
theorem Row.srcAll {w : World} {E : TypeId} {m n cap : Nat} {a : Option Addr} {xs : List Value} (h : Row w E m (.slice a n cap) n xs) (h1 : ∀ u ∈ xs, u.oneCell' = true) : Src w a n m xs := by
  refine ⟨h.1, ?_, h1⟩
  rcases h.form with ⟨_, h0, _⟩ | ⟨g, cap', hsv, _, _⟩
  · exact .inl h0
  · have ha : a = some ⟨g, 0, none⟩ := by simp at hsv; exact hsv.1
    subst ha
    exact .inr ⟨_, rfl, fun j u hu => by rw [addr_add, Nat.zero_add]; exact h.cell rfl hu⟩
theorem ints_one (zs : List Int) : ∀ u ∈ zs.map (Value.int .i64), u.oneCell' = true := by
  intro u hu
  obtain ⟨z, _, rfl⟩ := List.mem_map.1 hu
  rfl
end Go.Lx
namespace Go.Proofs.Ytbbkljgeddjghaa
open Go.RowKit Go.Lx Go.Shelf
set_option linter.unusedVariables false
set_option linter.unusedSimpArgs false

set_option maxRecDepth 100000 in
set_option maxHeartbeats 2000000 in
theorem sight7_any (m : Option Nat) (b : Nat) (ev cv : Value) (T : Tab) (w : World) (h : RefAt w m b ev cv T) (h3 : 3 ≤ T.log) (h15 : T.log ≤ 15) (hlen : T.ents.length ≤ 100000) (hcl : T.cells.length ≤ 100000) :
    Calls Try.prog 37 #[.pointer (some ⟨b, 0, none⟩)] w fun e w' => ∃ csv esv, e = .returned (.agg #[.int .i64 T.log, .int .i64 (widthOf T.log), csv, esv, .int .i64 T.live, .int .i64 T.births, .int .i64 T.made]) ∧
      Row w' 3 1 csv T.cells.length (T.cells.map (Value.int .i64)) ∧ (∀ x, csv.ownBlock = some x → w.heap.size ≤ x) ∧ Row w' 32 5 esv T.ents.length (flat T.ents) ∧ (∀ x, esv.ownBlock = some x → w.heap.size ≤ x) ∧ Kept Nil w w' := by
  have H := hid h
  have hwid := fun W => width6_any T.log W h3 h15
  have HWID := hid hwid
  clear h hwid
  go_enter Try.func37, Try.ntmps37
  go_wp2_with fail
  obtain ⟨W0, hW0⟩ : ∃ W0, W0 = w.alloc (.cells #[.int .i64 0, .int .i64 0, .slice none 0 0, .slice none 0 0, .int .i64 0, .int .i64 0, .int .i64 0] 29) := ⟨_, rfl⟩
  rw [← hW0]
  have hB0 : Blk W0 w.heap.size 29 [.int .i64 0, .int .i64 0, .slice none 0 0, .slice none 0 0, .int .i64 0, .int .i64 0, .int .i64 0] := by rw [hW0]; exact Blk.new w 29 _
  have hk0 : Kept Nil w W0 := by rw [hW0]; exact (Kept.refl _ _).alloc _
  have hz0 : W0.heap.size = w.heap.size + 1 := by rw [hW0]; simp
  have HR0 := hid (H.out.kept hk0 (fun _ _ => id))
  have HB0 := hid hB0
  have HK0 := hid hk0
  have HZ0 := hid hz0
  clear hB0 hk0 hz0 hW0
  have hcell : ∀ W', Kept Nil W0 W' → W'.cell? ⟨b, 1, none⟩ = some (.int .i64 T.log) ∧ W'.cell? ⟨b, 3, none⟩ = some (.int .i64 T.live) ∧ W'.cell? ⟨b, 4, none⟩ = some (.int .i64 T.births) ∧ W'.cell? ⟨b, 5, none⟩ = some (.int .i64 T.made) :=
    fun W' hk => ⟨(HR0.out.head.kept hk id).cell 1, (HR0.out.head.kept hk id).cell 3, (HR0.out.head.kept hk id).cell 4, (HR0.out.head.kept hk id).cell 5⟩
  have HCELL := hid hcell
  clear hcell
  have kz : Kept Nil W0 W0.drew := (Kept.refl _ _).drew
  have ka : Kept Nil W0 (W0.drew.alloc (Obj.cells #[.int .i64 0, .int .i64 0, .slice none 0 0, .slice none 0 0, .int .i64 0, .int .i64 0, .int .i64 0] 29)) := ((Kept.refl _ _).drew).alloc _
  have ka2 : Kept Nil W0 ((W0.alloc (Obj.cells #[.int .i64 0, .int .i64 0, .slice none 0 0, .slice none 0 0, .int .i64 0, .int .i64 0, .int .i64 0] 29)).drew) := ((Kept.refl _ _).alloc _).drew
  go_region_held3 (fun W' => Kept Nil W0 W' ∧ W'.cell? ⟨b, 1, none⟩ = some (.int .i64 T.log) ∧ W'.cell? ⟨b, 3, none⟩ = some (.int .i64 T.live) ∧ W'.cell? ⟨b, 4, none⟩ = some (.int .i64 T.births) ∧ W'.cell? ⟨b, 5, none⟩ = some (.int .i64 T.made))
    (first | with_reducible exact ⟨kz, HCELL.out _ kz⟩ | with_reducible exact ⟨ka, HCELL.out _ ka⟩ | with_reducible exact ⟨ka2, HCELL.out _ ka2⟩ | with_reducible exact ⟨(by assumption : Kept Nil W0 _ ∧ _).1, HCELL.out _ (by assumption : Kept Nil W0 _ ∧ _).1⟩ | with_reducible exact ⟨(by assumption : Kept Nil W0 _ ∧ _).1.alloc _, HCELL.out _ ((by assumption : Kept Nil W0 _ ∧ _).1.alloc _)⟩ | with_reducible exact ⟨((Kept.refl Nil W0).alloc _).drew, HCELL.out _ (((Kept.refl Nil W0).alloc _).drew)⟩ | with_reducible exact ⟨kz.alloc _, HCELL.out _ (kz.alloc _)⟩ | with_reducible exact ⟨kept7 kz (.inr (Nat.le_refl _)), HCELL.out _ (kept7 kz (.inr (Nat.le_refl _)))⟩ | fail)
    ((go_at_call 98; refine (HWID.out _).mono ?_; rintro e W1 ⟨rfl, rfl⟩))
  all_goals
    obtain ⟨W1, hW1⟩ : ∃ W1, W1 = (W0.alloc (Obj.cells #[.int .i64 T.log, .int .i64 (widthOf T.log), .slice none 0 0, .slice none 0 0, .int .i64 T.live, .int .i64 T.births, .int .i64 T.made] 29)).drew := ⟨_, rfl⟩
    rw [← hW1]
    have hA : Blk W1 (w.heap.size + 1) 29 [.int .i64 T.log, .int .i64 (widthOf T.log), .slice none 0 0, .slice none 0 0, .int .i64 T.live, .int .i64 T.births, .int .i64 T.made] := by rw [hW1, ← HZ0.out]; exact (Blk.new W0 29 _).drew
    have hk1 : Kept Nil W0 W1 := by rw [hW1]; exact ((Kept.refl _ _).alloc _).drew
    have hR := HR0.out.kept hk1 (fun _ _ => id)
    have hZ := HB0.out.kept hk1 id
    obtain ⟨ca, ccap, hcv⟩ := Row.sliceOf hR.cells
    obtain ⟨ea, ecap, hev⟩ := Row.sliceOf hR.ents
    subst hcv
    subst hev
    obtain ⟨nc, hnc⟩ : ∃ nc, nc = T.cells.length := ⟨_, rfl⟩
    obtain ⟨ne, hne⟩ : ∃ ne, ne = T.ents.length := ⟨_, rfl⟩
    have hc2 : W1.cell? ⟨b, 2, none⟩ = some (.slice ca nc ccap) := by rw [hnc]; exact hR.head.cell 2
    have hc0 : W1.cell? ⟨b, 0, none⟩ = some (.slice ea ne ecap) := by rw [hne]; exact hR.head.cell 0
    have hbw : b < w.heap.size := H.out.head.lt
    have a2 : W1.cell? ⟨w.heap.size + 1, 2, none⟩ = some (.slice none 0 0) := hA.cell 2
    have af2 := hA.frozen 2
    have SRC1 := hid (Row.srcAll (hR.cells.drew) (ints_one _))
    rw [← hnc] at SRC1 hcl
    rw [← hne] at hlen
    have HA := hid hA
    have HR1 := hid hR
    have HZ1 := hid hZ
    have HK1 := hid (HK0.out.trans hk1 (fun _ _ h => h))
    have HNC := hid hnc
    have HNE := hid hne
    have hz1 : W0.heap.size = w.heap.size + 1 := HZ0.out
    rw [hz1]
    clear hA hR hZ hk1 hnc hne hW1 kz ka ka2 hz1
    go_wp2_with fail
    go_still_tail 7, (by kernel_rfl)
    change wpList _ _ _ _ _ W1.drew
    refine wpList_app W1.drew elemInt rfl _ _ rfl rfl (Row.nil _ _ _) rfl SRC1.out (by omega) ?_
    intro v2 w2 happ
    rw [Nat.zero_add, List.nil_append] at happ
    have hk2 : Kept Nil W1 w2 := (happ.kept.mono (R' := Nil) (fun x hx e => by cases e)).undrew
    have hf2 : ∀ x, v2.ownBlock = some x → w.heap.size + 2 ≤ x := by
      intro x hx
      rcases happ.own x hx with e | e
      · cases e
      · have h1 := HA.out.lt; have h2 : W1.drew.heap.size = W1.heap.size := rfl; omega
    obtain ⟨va, vcap, rfl⟩ := Row.sliceOf happ.row
    have hA2 := HA.out.kept hk2 id
    have c2 : w2.cell? ⟨w.heap.size + 1, 2, none⟩ = some (.slice none 0 0) := hA2.cell 2
    have cf2 := hA2.frozen 2
    obtain ⟨w3, hw3⟩ : ∃ w3, w3 = w2.setCell ⟨w.heap.size + 1, 2, none⟩ (.slice va nc vcap) := ⟨_, rfl⟩
    have hA3 := hA2.set 2 (.slice va nc vcap)
    have hk3 : Kept (fun x => w.heap.size ≤ x) W1 w3 := by rw [hw3]; exact (hk2.mono (R' := fun x => w.heap.size ≤ x) (fun _ _ h => h.elim)).setCell (p := ⟨w.heap.size + 1, 2, none⟩) (.inl (by show w.heap.size ≤ w.heap.size + 1; omega)) _
    have hkZ : Kept (fun x => x = w.heap.size + 1) W1 w3 := by rw [hw3]; exact (hk2.mono (R' := fun x => x = w.heap.size + 1) (fun _ _ h => h.elim)).setCell (p := ⟨w.heap.size + 1, 2, none⟩) (.inl rfl) _
    have hC3 : Row w3 3 1 (.slice va nc vcap) nc (T.cells.map (Value.int .i64)) := by
      rw [hw3]; exact happ.row.other (a := ⟨w.heap.size + 1, 2, none⟩) (fun x hx e => by have := hf2 x hx; have e : x = w.heap.size + 1 := e; omega) _
    have hR3 := HR1.out.kept hk3 (fun x hx h => absurd h (by have := H.out.lt x hx; omega))
    have hZ3 := HZ1.out.kept hkZ (by omega)
    have b0 : w3.cell? ⟨b, 0, none⟩ = some (.slice ea ne ecap) := by rw [HNE.out]; exact hR3.head.cell 0
    rw [← hw3] at hA3
    have a3 : w3.cell? ⟨w.heap.size + 1, 3, none⟩ = some (.slice none 0 0) := hA3.cell 3
    have SRC2 := hid (Row.srcAll (hR3.ents.drew) (flat_one _))
    rw [← HNE.out] at SRC2
    have HA3 := hid hA3
    have HC3 := hid hC3
    have HR3 := hid hR3
    have HZ3 := hid hZ3
    have HK3 := hid (HK1.out.trans (hk3.mono (R' := fun x => w.heap.size ≤ x) (fun _ _ h => h)) (fun x hx h => absurd hx (by omega)))
    have HF2 := hid hf2
    have HW3 := hid hw3
    have hn1 : ¬ b = w.heap.size + 1 := by omega
    clear happ hk2 hf2 hA2 hA3 hk3 hkZ hC3 hR3 hZ3 hw3
    go_wp2_with fail
    rw [← HW3.out]
    go_still_tail 6, (by kernel_rfl)
    change wpList _ _ _ _ _ w3.drew
    refine wpList_app w3.drew elemEntry rfl _ _ rfl rfl (Row.nil _ _ _) rfl SRC2.out (by omega) ?_
    intro v4 w4 happ
    rw [Nat.zero_add, List.nil_append] at happ
    have hk4 : Kept Nil w3 w4 := (happ.kept.mono (R' := Nil) (fun x hx e => by cases e)).undrew
    have hf4 : ∀ x, v4.ownBlock = some x → w.heap.size + 2 ≤ x := by
      intro x hx
      rcases happ.own x hx with e | e
      · cases e
      · have h1 := HA3.out.lt; have h2 : w3.drew.heap.size = w3.heap.size := rfl; omega
    obtain ⟨ua, ucap, rfl⟩ := Row.sliceOf happ.row
    have hA4 := HA3.out.kept hk4 id
    have hZ4 := HZ3.out.kept hk4 id
    have c3 : w4.cell? ⟨w.heap.size + 1, 3, none⟩ = some (.slice none 0 0) := hA4.cell 3
    have cf3 := hA4.frozen 3
    have hA5 := hA4.set 3 (.slice ua ne ucap)
    have hZ5 := hZ4.other (a := ⟨w.heap.size + 1, 3, none⟩) (by simp) (.slice ua ne ucap)
    obtain ⟨w5, hw5⟩ : ∃ w5, w5 = w4.setCell ⟨w.heap.size + 1, 3, none⟩ (.slice ua ne ucap) := ⟨_, rfl⟩
    have hE5 : Row w5 32 5 (.slice ua ne ucap) ne (flat T.ents) := by
      rw [hw5]; exact happ.row.other (a := ⟨w.heap.size + 1, 3, none⟩) (fun x hx e => by have := hf4 x hx; have e : x = w.heap.size + 1 := e; omega) _
    have hC5 : Row w5 3 1 (.slice va nc vcap) nc (T.cells.map (Value.int .i64)) := by
      rw [hw5]; exact (HC3.out.kept hk4 (fun _ _ => id)).other (a := ⟨w.heap.size + 1, 3, none⟩) (fun x hx e => by have := HF2.out x hx; have e : x = w.heap.size + 1 := e; omega) _
    have hk5 : Kept Nil w w5 := by
      rw [hw5]; exact (HK3.out.trans hk4 (fun _ _ h => h.elim)).setCell (p := ⟨w.heap.size + 1, 3, none⟩) (.inr (by show w.heap.size ≤ w.heap.size + 1; omega)) _
    rw [← hw5] at hA5 hZ5
    have HE5 := hid hE5
    have HC5 := hid hC5
    have HK5 := hid hk5
    have HF4 := hid hf4
    have HW5 := hid hw5
    have x0 : w4.cell? ⟨w.heap.size + 1, 0, none⟩ = some (.int .i64 T.log) := hA4.cell 0
    have x1 : w4.cell? ⟨w.heap.size + 1, 1, none⟩ = some (.int .i64 (widthOf T.log)) := hA4.cell 1
    have x2 : w4.cell? ⟨w.heap.size + 1, 2, none⟩ = some (.slice va nc vcap) := hA4.cell 2
    have x3 : w4.cell? ⟨w.heap.size + 1, 3, none⟩ = some (.slice none 0 0) := hA4.cell 3
    have x4 : w4.cell? ⟨w.heap.size + 1, 4, none⟩ = some (.int .i64 T.live) := hA4.cell 4
    have x5 : w4.cell? ⟨w.heap.size + 1, 5, none⟩ = some (.int .i64 T.births) := hA4.cell 5
    have x6 : w4.cell? ⟨w.heap.size + 1, 6, none⟩ = some (.int .i64 T.made) := hA4.cell 6
    have y0 : w4.cell? ⟨w.heap.size, 0, none⟩ = some (.int .i64 0) := hZ4.cell 0
    have y1 : w4.cell? ⟨w.heap.size, 1, none⟩ = some (.int .i64 0) := hZ4.cell 1
    have y2 : w4.cell? ⟨w.heap.size, 2, none⟩ = some (.slice none 0 0) := hZ4.cell 2
    have y3 : w4.cell? ⟨w.heap.size, 3, none⟩ = some (.slice none 0 0) := hZ4.cell 3
    have y4 : w4.cell? ⟨w.heap.size, 4, none⟩ = some (.int .i64 0) := hZ4.cell 4
    have y5 : w4.cell? ⟨w.heap.size, 5, none⟩ = some (.int .i64 0) := hZ4.cell 5
    have y6 : w4.cell? ⟨w.heap.size, 6, none⟩ = some (.int .i64 0) := hZ4.cell 6
    have z0 := hZ4.frozen 0
    have z1 := hZ4.frozen 1
    have z2 := hZ4.frozen 2
    have z3 := hZ4.frozen 3
    have z4 := hZ4.frozen 4
    have z5 := hZ4.frozen 5
    have z6 := hZ4.frozen 6
    have HZ5 := hid hZ5
    clear happ hk4 hf4 hA4 hZ4 hA5 hZ5 hE5 hC5 hk5 hw5 c2 cf2 b0 a3 a2 af2 hc2 hc0
    go_wp2
    rw [← HW5.out]
    have hk9 := kept7 (v0 := .int .i64 T.log) (v1 := .int .i64 (widthOf T.log)) (v2 := .slice va nc vcap) (v3 := .slice ua ne ucap) (v4 := .int .i64 T.live) (v5 := .int .i64 T.births) (v6 := .int .i64 T.made) HK5.out (b := w.heap.size) (.inr (Nat.le_refl _))
    have hb9 := ((((((HZ5.out.set 0 (.int .i64 T.log)).set 1 (.int .i64 (widthOf T.log))).set 2 (.slice va nc vcap)).set 3 (.slice ua ne ucap)).set 4 (.int .i64 T.live)).set 5 (.int .i64 T.births)).set 6 (.int .i64 T.made)
    have hkr := kept7 (R := fun x => x = w.heap.size) (v0 := .int .i64 T.log) (v1 := .int .i64 (widthOf T.log)) (v2 := .slice va nc vcap) (v3 := .slice ua ne ucap) (v4 := .int .i64 T.live) (v5 := .int .i64 T.births) (v6 := .int .i64 T.made) (Kept.refl (fun x => x = w.heap.size) w5) (b := w.heap.size) (.inl rfl)
    have hc9 := HC5.out.kept hkr (fun x hx e => by have := HF2.out x hx; omega)
    have he9 := HE5.out.kept hkr (fun x hx e => by have := HF4.out x hx; omega)
    obtain ⟨w9, hw9⟩ : ∃ w9, w9 = ((((((w5.setCell ⟨w.heap.size, 0, none⟩ (.int .i64 T.log)).setCell ⟨w.heap.size, 1, none⟩ (.int .i64 (widthOf T.log))).setCell ⟨w.heap.size, 2, none⟩ (.slice va nc vcap)).setCell ⟨w.heap.size, 3, none⟩ (.slice ua ne ucap)).setCell ⟨w.heap.size, 4, none⟩ (.int .i64 T.live)).setCell ⟨w.heap.size, 5, none⟩ (.int .i64 T.births)).setCell ⟨w.heap.size, 6, none⟩ (.int .i64 T.made) := ⟨_, rfl⟩
    rw [← hw9] at hk9 hb9 hc9 he9 ⊢
    have r0 : w9.cell? ⟨w.heap.size, 0, none⟩ = some (.int .i64 T.log) := hb9.cell 0
    have r1 : w9.cell? ⟨w.heap.size, 1, none⟩ = some (.int .i64 (widthOf T.log)) := hb9.cell 1
    have r2 : w9.cell? ⟨w.heap.size, 2, none⟩ = some (.slice va nc vcap) := hb9.cell 2
    have r3 : w9.cell? ⟨w.heap.size, 3, none⟩ = some (.slice ua ne ucap) := hb9.cell 3
    have r4 : w9.cell? ⟨w.heap.size, 4, none⟩ = some (.int .i64 T.live) := hb9.cell 4
    have r5 : w9.cell? ⟨w.heap.size, 5, none⟩ = some (.int .i64 T.births) := hb9.cell 5
    have r6 : w9.cell? ⟨w.heap.size, 6, none⟩ = some (.int .i64 T.made) := hb9.cell 6
    refine bodyPost_ret (v := .agg #[.int .i64 T.log, .int .i64 (widthOf T.log), .slice va nc vcap, .slice ua ne ucap, .int .i64 T.live, .int .i64 T.births, .int .i64 T.made]) (by simp [results, Try.results37, go_sem, r0, r1, r2, r3, r4, r5, r6]) rfl ⟨_, _, rfl, ?_, ?_, ?_, ?_, hk9⟩
    · rw [← HNC.out]; exact hc9
    · intro x hx; have := HF2.out x hx; omega
    · rw [← HNE.out]; exact he9
    · intro x hx; have := HF4.out x hx; omega

end Go.Proofs.Ytbbkljgeddjghaa
