/-
  What is proved: walks of lexiconlaw7: entries, sight (at equal ones), number, live.
-/
import Derived.Test.YtbbkljgeddjghaaCopy
import Derived.Test.YtbbkljgeddjghaaNext
import Derived.Deep.QuietTactic
import Derived.BigQuiet
namespace Go.Proofs.Ytbbkljgeddjghaa
open Go.RowKit Go.Lx Go.Shelf
set_option linter.unusedVariables false

/-- The cells of an entry in a row. -/
theorem Row.entCells {w : World} {sv : Value} {es : List Ent} (h : Row w 32 5 sv es.length (flat es)) {k : Nat} {x : Ent} (hx : es[k]? = some x) :
    ∃ g cap, sv = .slice (some ⟨g, 0, none⟩) es.length cap ∧ es.length ≤ cap ∧ cap ≤ maxLen ∧ g < w.heap.size ∧ w.cell? ⟨g, k * 5, none⟩ = some (.bool x.live) ∧ w.cell? ⟨g, k * 5 + 1, none⟩ = some (.int .i64 x.hash) ∧
      w.cell? ⟨g, k * 5 + 2, none⟩ = some (.int .i64 x.key) ∧ w.cell? ⟨g, k * 5 + 3, none⟩ = some (.int .i64 x.value) ∧ w.cell? ⟨g, k * 5 + 4, none⟩ = some (.int .i64 x.birth) := by
  have hk : k < es.length := (List.getElem?_eq_some_iff.1 hx).1
  rcases h.form with ⟨_, h0, _⟩ | ⟨g, cap, hsv, h1, h2⟩
  · omega
  · have c : ∀ j v, x.vals[j]? = some v → w.cell? ⟨g, k * 5 + j, none⟩ = some v := fun j v hv => by
      have hj : j < 5 := by have := (List.getElem?_eq_some_iff.1 hv).1; simpa [Ent.vals] using this
      exact h.cell (g := g) (by rw [hsv]; rfl) (by rw [flat_get _ _ _ _ hx hj]; exact hv)
    exact ⟨g, cap, hsv, h1, h2, h.lt (by rw [hsv]; rfl), c 0 _ rfl, c 1 _ rfl, c 2 _ rfl, c 3 _ rfl, c 4 _ rfl⟩
theorem Row.sliceOf {w : World} {E : TypeId} {m n : Nat} {sv : Value} {xs : List Value} (h : Row w E m sv n xs) : ∃ a cap, sv = .slice a n cap := by
  rcases h.form with ⟨h1, h2, _⟩ | ⟨g, cap, h1, _⟩
  · exact ⟨none, 0, by rw [h1, h2]⟩
  · exact ⟨_, cap, h1⟩

set_option maxRecDepth 100000 in
set_option maxHeartbeats 1000000 in
theorem entries_same (av bv : Value) (es : List Ent) (w : World) (hl : es.length ≤ 100000) (ha : Row w 32 5 av es.length (flat es)) (hb : Row w 32 5 bv es.length (flat es)) :
    Calls Try.prog 26 #[av, bv] w fun e w' => e = .returned (.bool true) ∧ Kept Nil w w' := by
  obtain ⟨a, ca, hav⟩ := Row.sliceOf ha
  obtain ⟨b, cb, hbv⟩ := Row.sliceOf hb
  have HA := hid ha
  have HB := hid hb
  obtain ⟨n, hn⟩ : ∃ n, n = es.length := ⟨_, rfl⟩
  rw [← hn] at hl hav hbv
  have HN := hid hn
  have HAV := hid hav
  have HBV := hid hbv
  rw [hav, hbv]
  clear ha hb hn hav hbv
  go_enter Try.func26, Try.ntmps26
  go_wp2
  go_loopw [5] (fun i W => ∃ k : Nat, k ≤ n ∧ i = .int .i64 k ∧ Kept Nil w W) (fun i _ => n - (intOf i).toNat)
  case atStart => exact ⟨0, Nat.zero_le _, rfl, Kept.refl _ _⟩
  case round =>
    obtain ⟨k, hk, rfl, hkw⟩ := hrel
    by_cases hlt : k < n
    · obtain ⟨x, hx⟩ : ∃ x, es[k]? = some x := ⟨_, List.getElem?_eq_getElem (by have := HN.out; omega)⟩
      obtain ⟨g1, c1, hs1, q1, q2, hg1, e0, e1, e2, e3, e4⟩ := Row.entCells (HA.out.kept hkw (fun _ _ => id)) hx
      obtain ⟨g2, c2, hs2, q3, q4, hg2, f0, f1, f2, f3, f4⟩ := Row.entCells (HB.out.kept hkw (fun _ _ => id)) hx
      have ha : a = some ⟨g1, 0, none⟩ := by have := HAV.out; rw [hs1] at this; simp at this; exact this.1.symm
      have hb : b = some ⟨g2, 0, none⟩ := by have := HBV.out; rw [hs2] at this; simp at this; exact this.1.symm
      subst ha
      subst hb
      clear hs1 hs2 hx
      have hlt' : (k : Int) < (n : Int) := by omega
      have hKW := hid hkw
      clear hkw
      go_wp2_with fail
      go_quiet (fail)
      go_wp2
      go_roundw
      case rel => exact ⟨k + 1, by omega, by go_num, hKW.out.drewN _⟩
      case measure => simp [intOf]; omega
    · obtain rfl : k = n := by omega
      go_wp2
      go_ret
      exact ⟨rfl, hkw⟩

theorem Try.sightField3 (a b c d e f g : Value) (w : World) : (Instr.field 29 (.agg #[a, b, c, d, e, f, g]) 3).run Try.prog w = .ok d w := by kernel_rfl
theorem Try.sightField2 (a b c d e f g : Value) (w : World) : (Instr.field 29 (.agg #[a, b, c, d, e, f, g]) 2).run Try.prog w = .ok c w := by kernel_rfl
theorem Try.sightField0 (a b c d e f g : Value) (w : World) : (Instr.field 29 (.agg #[a, b, c, d, e, f, g]) 0).run Try.prog w = .ok a w := by kernel_rfl

/-- The first cell at which two entries are unlike. -/
theorem first_unlike (y x : Ent) (h : y.birth ≠ x.birth ∨ y.live ≠ x.live) : (y.live == x.live) = false ∨ ((y.live == x.live) = true ∧ (y.hash == x.hash) = false) ∨ ((y.live == x.live) = true ∧ (y.hash == x.hash) = true ∧ (y.key == x.key) = false) ∨
    ((y.live == x.live) = true ∧ (y.hash == x.hash) = true ∧ (y.key == x.key) = true ∧ (y.value == x.value) = false) ∨ ((y.live == x.live) = true ∧ (y.hash == x.hash) = true ∧ (y.key == x.key) = true ∧ (y.value == x.value) = true ∧ (y.birth == x.birth) = false) := by
  by_cases h1 : y.live = x.live
  · by_cases h2 : y.hash = x.hash
    · by_cases h3 : y.key = x.key
      · by_cases h4 : y.value = x.value
        · rcases h with h | h
          · simp [h1, h2, h3, h4, h]
          · exact (h h1).elim
        · simp [h1, h2, h3, h4]
      · simp [h1, h2, h3]
    · simp [h1, h2]
  · simp [h1]

set_option maxRecDepth 100000 in
set_option maxHeartbeats 1000000 in
theorem number_any (m : Option Nat) (t c r : Nat) (sv : Value) (T : Tab) (w : World) (h : TabAt w m t c r sv T) (hlen : T.ents.length ≤ 100000) (n : Nat) (x : Ent) (hx : T.ents[n]? = some x) (hno : ∀ j y, j < n → T.ents[j]? = some y → y.birth ≠ x.birth ∨ y.live ≠ x.live) :
    Calls Try.prog 73 #[.pointer (some ⟨t, 0, none⟩), Ent.agg x] w fun e w' => e = .returned (.tuple #[.int .i64 n, .bool true]) ∧ Kept Nil w w' := by
  have hs := fun w' (hk : Kept Nil w w') => sight_any m t c r sv T w' (h.kept' hk (fun _ _ => id)) hlen
  have HS := hid hs
  have hnl : n < T.ents.length := (List.getElem?_eq_some_iff.1 hx).1
  have HX := hid hx
  have HNO := hid hno
  clear hs h hx hno
  unfold Ent.agg
  have hfd := Try.sightField3
  go_enter Try.func73, Try.ntmps73
  obtain ⟨N, hN⟩ : ∃ N, N = T.ents.length := ⟨_, rfl⟩
  have hb0 := Blk.new w 32 [.bool x.live, .int .i64 x.hash, .int .i64 x.key, .int .i64 x.value, .int .i64 x.birth]
  have HB0 := hid hb0
  clear hb0
  have hk0 : Kept Nil w (w.alloc (.cells #[.bool x.live, .int .i64 x.hash, .int .i64 x.key, .int .i64 x.value, .int .i64 x.birth] 32)) := (Kept.refl _ _).alloc _
  have HN := hid hN
  clear hN
  go_wp2_with (go_at_call 23; refine (HS.out _ hk0).mono ?_; rintro e w1 ⟨csv, esv, rfl, -, -, hrow, -, hk1⟩)
  have hb1 := HB0.out.kept hk1 id
  have hkw1 := hk0.trans hk1 (fun _ _ h => h)
  obtain ⟨a, cap, rfl⟩ := Row.sliceOf hrow
  have HROW := hid hrow
  have HK1 := hid hkw1
  have HB1 := hid hb1
  rw [← HN.out] at hnl hlen ⊢
  clear hrow hkw1 hb1 hk1 hk0 HB0
  go_wp2
  go_loopw [7] (fun i W => ∃ k : Nat, k ≤ n ∧ i = .int .i64 k ∧ Kept Nil w1 W) (fun i _ => N - (intOf i).toNat)
  case atStart => exact ⟨0, Nat.zero_le _, rfl, Kept.refl _ _⟩
  case round =>
    obtain ⟨k, hk, rfl, hkw⟩ := hrel
    obtain ⟨y, hy⟩ : ∃ y, T.ents[k]? = some y := ⟨_, List.getElem?_eq_getElem (by have := HN.out; omega)⟩
    obtain ⟨g1, c1, hs1, q1, q2, hg1, e0, e1, e2, e3, e4⟩ := Row.entCells (HROW.out.kept hkw (fun _ _ => id)) hy
    have ha : a = some ⟨g1, 0, none⟩ := by simp at hs1; exact hs1.1
    subst ha
    have hb := HB1.out.kept hkw id
    have x0 : wr.cell? ⟨w.heap.size, 0, none⟩ = some (.bool x.live) := hb.cell 0
    have x1 : wr.cell? ⟨w.heap.size, 1, none⟩ = some (.int .i64 x.hash) := hb.cell 1
    have x2 : wr.cell? ⟨w.heap.size, 2, none⟩ = some (.int .i64 x.key) := hb.cell 2
    have x3 : wr.cell? ⟨w.heap.size, 3, none⟩ = some (.int .i64 x.value) := hb.cell 3
    have x4 : wr.cell? ⟨w.heap.size, 4, none⟩ = some (.int .i64 x.birth) := hb.cell 4
    have hlt' : (k : Int) < (N : Int) := by omega
    have hKW := hid hkw
    by_cases hkn : k = n
    · subst hkn
      obtain rfl : y = x := by have := HX.out; rw [hy] at this; simpa using this
      clear hkw hb hs1 hy
      go_wp2_with fail
      go_quiet (fail)
      go_wp2
      exact bodyPost_ret (v := .tuple #[.int .i64 k, .bool true]) (by simp [results, Try.results73, go_sem]) rfl ⟨rfl, (HK1.out.trans hKW.out (fun _ _ h => h)).drewN _⟩
    · have hd := HNO.out k y (by omega) hy
      have hd := first_unlike y x hd
      clear hkw hb hs1 hy
      rcases hd with d1 | ⟨d1, d2⟩ | ⟨d1, d2, d3⟩ | ⟨d1, d2, d3, d4⟩ | ⟨d1, d2, d3, d4, d5⟩
      all_goals
        go_wp2_with fail
        go_quiet (fail)
        go_wp2
        go_roundw
        case rel => exact ⟨k + 1, by omega, by go_num, hKW.out.drewN _⟩
        case measure => simp [intOf]; omega

end Go.Proofs.Ytbbkljgeddjghaa
