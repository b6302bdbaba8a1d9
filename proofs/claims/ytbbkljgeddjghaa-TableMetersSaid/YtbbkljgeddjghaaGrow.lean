/-
  What is proved: walks of package table: least, the closures that are handed to it, layAll, drop, begin, New.
-/
import Derived.Test.YtbbkljgeddjghaaLay
namespace Go.Proofs.Ytbbkljgeddjghaa
open Go.RowKit Go.Lx Go.Shelf
set_option linter.unusedVariables false

theorem leastLog_eq {p : Nat → Bool} {i : Nat} (h3 : 3 ≤ i) (h20 : i ≤ 20) (hn : ∀ j, 3 ≤ j → j < i → p j = false) (hp : p i = true) : leastLog p = i := by
  unfold leastLog
  have : (List.range' 3 18).find? p = some i := by
    rw [List.find?_eq_some_iff_append]
    refine ⟨hp, List.range' 3 (i - 3), List.range' (i + 1) (20 - i), ?_, ?_⟩
    · have e : 18 = (i - 3) + (1 + (20 - i)) := by omega
      rw [e, ← List.range'_append_1, ← List.range'_append_1]
      have e2 : 3 + (i - 3) = i := by omega
      rw [e2]; simp
    · intro j hj
      obtain ⟨h1, h2⟩ := List.mem_range'_1.1 hj
      simp [hn j h1 (by omega)]
  rw [this]; rfl
theorem leastLog_none {p : Nat → Bool} (hn : ∀ j, 3 ≤ j → j < 21 → p j = false) : leastLog p = 21 := by
  unfold leastLog
  have : (List.range' 3 18).find? p = none := by
    rw [List.find?_eq_none]
    intro j hj
    obtain ⟨h1, h2⟩ := List.mem_range'_1.1 hj
    simp [hn j h1 (by omega)]
  rw [this]; rfl

set_option maxHeartbeats 1000000 in
theorem least_add (b : Value) (p : Nat → Bool) (w : World)
    (hcl : ∀ (i : Nat) (w1 : World), 3 ≤ i → i ≤ 20 → Kept Nil w w1 → Calls Try.prog 108 #[.int .i64 i, b] w1 fun e w' => e = .returned (.bool (p i)) ∧ Kept Nil w1 w') :
    Calls Try.prog 79 #[.func (.func 108) #[] #[b]] w fun e w' => e = .returned (.int .i64 (leastLog p)) ∧ Kept Nil w w' := by
  have HCL := hid hcl
  clear hcl
  go_enter Try.func79, Try.ntmps79
  go_wp2
  go_loopw [3] (fun i wr => ∃ k : Nat, 3 ≤ k ∧ k ≤ 21 ∧ i = .int .i64 k ∧ (∀ j, 3 ≤ j → j < k → p j = false) ∧ Kept Nil w wr) (fun i _ => 21 - (intOf i).toNat)
  case atStart => exact ⟨3, by omega, by omega, rfl, fun j h1 h2 => by omega, Kept.refl _ _⟩
  case round =>
    obtain ⟨k, hk3, hk21, rfl, hn, hk⟩ := hrel
    have HN := hid hn
    clear hn
    by_cases hlt : k ≤ 20
    · cases hp : p k with
      | true =>
        have HP := hid hp
        have hc := HCL.out k wr hk3 hlt hk
        rw [hp] at hc
        clear hp
        go_wp2_with (go_at_call 108; refine hc.mono ?_; clear hc; rintro e w1 ⟨rfl, hk1⟩)
        go_ret
        refine ⟨?_, hk.trans hk1 (fun _ _ h => h)⟩
        rw [leastLog_eq hk3 hlt HN.out HP.out]; rfl
      | false =>
        have HP := hid hp
        have hc := HCL.out k wr hk3 hlt hk
        rw [hp] at hc
        clear hp
        go_wp2_with (go_at_call 108; refine hc.mono ?_; clear hc; rintro e w1 ⟨rfl, hk1⟩)
        go_roundw
        case rel =>
          refine ⟨k + 1, by omega, by omega, by go_num, fun j h1 h2 => ?_, hk.trans hk1 (fun _ _ h => h)⟩
          by_cases e : j = k
          · subst e; exact HP.out
          · exact HN.out j h1 (by omega)
        case measure => simp [intOf]; omega
    · obtain rfl : k = 21 := by omega
      go_wp2
      go_ret
      refine ⟨?_, hk⟩
      rw [leastLog_none HN.out]; rfl
set_option maxHeartbeats 1000000 in
theorem least_copy (b : Value) (p : Nat → Bool) (w : World)
    (hcl : ∀ (i : Nat) (w1 : World), 3 ≤ i → i ≤ 20 → Kept Nil w w1 → Calls Try.prog 80 #[.int .i64 i, b] w1 fun e w' => e = .returned (.bool (p i)) ∧ Kept Nil w1 w') :
    Calls Try.prog 79 #[.func (.func 80) #[] #[b]] w fun e w' => e = .returned (.int .i64 (leastLog p)) ∧ Kept Nil w w' := by
  have HCL := hid hcl
  clear hcl
  go_enter Try.func79, Try.ntmps79
  go_wp2
  go_loopw [3] (fun i wr => ∃ k : Nat, 3 ≤ k ∧ k ≤ 21 ∧ i = .int .i64 k ∧ (∀ j, 3 ≤ j → j < k → p j = false) ∧ Kept Nil w wr) (fun i _ => 21 - (intOf i).toNat)
  case atStart => exact ⟨3, by omega, by omega, rfl, fun j h1 h2 => by omega, Kept.refl _ _⟩
  case round =>
    obtain ⟨k, hk3, hk21, rfl, hn, hk⟩ := hrel
    have HN := hid hn
    clear hn
    by_cases hlt : k ≤ 20
    · cases hp : p k with
      | true =>
        have HP := hid hp
        have hc := HCL.out k wr hk3 hlt hk
        rw [hp] at hc
        clear hp
        go_wp2_with (go_at_call 80; refine hc.mono ?_; clear hc; rintro e w1 ⟨rfl, hk1⟩)
        go_ret
        refine ⟨?_, hk.trans hk1 (fun _ _ h => h)⟩
        rw [leastLog_eq hk3 hlt HN.out HP.out]; rfl
      | false =>
        have HP := hid hp
        have hc := HCL.out k wr hk3 hlt hk
        rw [hp] at hc
        clear hp
        go_wp2_with (go_at_call 80; refine hc.mono ?_; clear hc; rintro e w1 ⟨rfl, hk1⟩)
        go_roundw
        case rel =>
          refine ⟨k + 1, by omega, by omega, by go_num, fun j h1 h2 => ?_, hk.trans hk1 (fun _ _ h => h)⟩
          by_cases e : j = k
          · subst e; exact HP.out
          · exact HN.out j h1 (by omega)
        case measure => simp [intOf]; omega
    · obtain rfl : k = 21 := by omega
      go_wp2
      go_ret
      refine ⟨?_, hk⟩
      rw [leastLog_none HN.out]; rfl

theorem wrap_pow20 (log : Nat) (h : log ≤ 20) : wrap64 ((2 : Int) ^ log) = ((2 ^ log : Nat) : Int) := by
  have hle : 2 ^ log ≤ 2 ^ 20 := Nat.pow_le_pow_right (n := 2) (by decide) h
  have : ((2 : Int) ^ log) = ((2 ^ log : Nat) : Int) := by simp
  rw [this]; clear this; generalize 2 ^ log = n at *; unfold wrap64; omega

set_option maxRecDepth 100000 in
set_option maxHeartbeats 1000000 in
theorem add1_any (b t i live : Nat) (w : World) (hi : i ≤ 20) (hl : live ≤ 1000000) (hb : w.cell? ⟨b, 0, none⟩ = some (.pointer (some ⟨t, 0, none⟩))) (ht : w.cell? ⟨t, 3, none⟩ = some (.int .i64 live)) :
    Calls Try.prog 108 #[.int .i64 i, .pointer (some ⟨b, 0, none⟩)] w fun e w' => e = .returned (.bool (decide (3 * live ≤ 2 ^ i))) ∧ Kept Nil w w' := by
  have hp := wrap_pow20 i hi
  generalize 2 ^ i = n at *
  go_enter Try.func108, Try.ntmps108
  go_wp2_with fail
  go_quiet (fail)
  go_wp2
  go_ret
  refine ⟨?_, (Kept.refl _ _).drewN _⟩
  have e : decide ((3 : Int) * (live : Int) ≤ (n : Int)) = decide (3 * live ≤ n) := by rw [decide_eq_decide]; omega
  exact congrArg (fun b => Ending.returned (.bool b)) e

set_option maxRecDepth 100000 in
set_option maxHeartbeats 1000000 in
theorem copy1_any (b t i live : Nat) (w : World) (hi : i ≤ 20) (hl : live ≤ 1000000) (hb : w.cell? ⟨b, 0, none⟩ = some (.pointer (some ⟨t, 0, none⟩))) (ht : w.cell? ⟨t, 3, none⟩ = some (.int .i64 live)) :
    Calls Try.prog 80 #[.int .i64 i, .pointer (some ⟨b, 0, none⟩)] w fun e w' => e = .returned (.bool (decide (live ≤ 2 * 2 ^ i / 3))) ∧ Kept Nil w w' := by
  have hle : 2 ^ i ≤ 2 ^ 20 := Nat.pow_le_pow_right (n := 2) (by decide) hi
  have hp : wrap64 (2 * (2 : Int) ^ i) = ((2 * 2 ^ i : Nat) : Int) := by
    have : ((2 : Int) ^ i) = ((2 ^ i : Nat) : Int) := by simp
    rw [this]; clear this; generalize 2 ^ i = n at *; unfold wrap64; omega
  obtain ⟨n, hn⟩ : ∃ n, n = 2 * 2 ^ i := ⟨_, rfl⟩
  have hn2 : n ≤ 2097152 := by omega
  rw [← hn] at hp ⊢
  clear hn hle
  go_enter Try.func80, Try.ntmps80
  go_wp2_with fail
  go_quiet (fail)
  go_wp2
  go_ret
  refine ⟨?_, (Kept.refl _ _).drewN _⟩
  have e : decide ((live : Int) ≤ (n : Int) / 3) = decide (live ≤ n / 3) := by rw [decide_eq_decide]; omega
  exact congrArg (fun b => Ending.returned (.bool b)) e

/-- An entry is laid. -/
theorem lay_tab (m : Option Nat) (t c r n : Nat) (sv : Value) (T : Tab) (x : Ent) (w : World) (h : TabAt w m t c r sv T) (hx : T.ents[n]? = some x) :
    Calls Try.prog 110 #[.pointer (some ⟨t, 0, none⟩), .int .i64 n] w fun e w' => e = .returned (.tuple #[]) ∧ TabAt w' m t c r sv { T with cells := layCells T.cells T.log x.hash n } ∧ Kept (fun b => b = r) w w' := by
  obtain ⟨g, cap, hsv, h1, h2, hc, hf⟩ := h.ent hx
  have hn := (List.getElem?_eq_some_iff.1 hx).1
  have hg : sv.ownBlock = some g := by rw [hsv]; rfl
  refine (lay_in m t c r n g cap T.ents.length T.log T.cells x.hash w (h.head.cell 2) (by rw [← hsv]; exact h.head.cell 1) hn (hc 1 _ rfl) h.cells h.head.lt (h.ents.lt hg) h.tr (h.re hg) (Nat.lt_of_lt_of_le hn h.fits)).mono ?_
  rintro e w' ⟨he, hcs, hk⟩
  refine ⟨he, ⟨h.head.kept hk h.tr, hcs, h.ents.kept hk (fun g hg => h.re hg), h.fits⟩, hk⟩

theorem layFrom_drop (log : Nat) (es : List Ent) (k : Nat) (x : Ent) (cs : List Int) (hx : es[k]? = some x) : layFrom log (es.drop k) k cs = layFrom log (es.drop (k + 1)) (k + 1) (layCells cs log x.hash k) := by
  obtain ⟨h, rfl⟩ := List.getElem?_eq_some_iff.1 hx
  rw [List.drop_eq_getElem_cons h]; rfl

set_option maxHeartbeats 1000000 in
theorem layAll_tab (m : Option Nat) (t c r : Nat) (sv : Value) (T : Tab) (w : World) (h : TabAt w m t c r sv T) (hlen : T.ents.length ≤ 100000) :
    Calls Try.prog 81 #[.pointer (some ⟨t, 0, none⟩)] w fun e w' => e = .returned (.tuple #[]) ∧ TabAt w' m t c r sv { T with cells := layFrom T.log T.ents 0 T.cells } ∧ Kept (fun b => b = r) w w' := by
  obtain ⟨a, cap, hsv⟩ : ∃ a cap, sv = .slice a T.ents.length cap := by
    rcases h.ents.form with ⟨h1, h2, _⟩ | ⟨g, cap, h1, _⟩
    · exact ⟨none, 0, by rw [h1, h2]⟩
    · exact ⟨_, cap, h1⟩
  have hc1 : w.cell? ⟨t, 1, none⟩ = some (.slice a T.ents.length cap) := by rw [← hsv]; exact h.head.cell 1
  obtain ⟨n, hn⟩ : ∃ n, n = T.ents.length := ⟨_, rfl⟩
  rw [← hn] at hc1 hlen
  have H := hid h
  have HN := hid hn
  clear h hn hsv
  go_enter Try.func81, Try.ntmps81
  go_wp2
  go_loopw [2, 8] (fun _ i wr => ∃ (k : Nat) (cs : List Int), k ≤ n ∧ i = .int .i64 k ∧ TabAt wr m t c r sv { T with cells := cs } ∧ layFrom T.log (T.ents.drop k) k cs = layFrom T.log T.ents 0 T.cells ∧ Kept (fun b => b = r) w wr) (fun _ i _ => n - (intOf i).toNat)
  case atStart => exact ⟨0, T.cells, Nat.zero_le _, rfl, H.out, by simp, Kept.refl _ _⟩
  case round =>
    clear hc1
    obtain ⟨k, cs, hkn, rfl, hT, hlay, hk⟩ := hrel
    by_cases hlt : k < n
    · have hx : T.ents[k]? = some (T.ents[k]'(by rw [← HN.out]; exact hlt)) := List.getElem?_eq_getElem _
      generalize (T.ents[k]'(by rw [← HN.out]; exact hlt)) = x at hx
      have hl := lay_tab m t c r k sv _ x wr hT hx
      have HL := hid hlay
      have HX := hid hx
      clear hlay hT hx
      go_wp2_with (go_at_call 110; refine hl.mono ?_; clear hl; rintro e w1 ⟨rfl, hT1, hk1⟩)
      go_roundw
      case rel => exact ⟨k + 1, _, by omega, by go_num, hT1, by rw [← HL.out, layFrom_drop _ _ _ _ _ HX.out], hk.trans hk1 (fun _ _ h => h)⟩
      case measure => simp [intOf]; omega
    · obtain rfl : k = n := by omega
      go_wp2
      go_end0
      refine ⟨rfl, ?_, hk⟩
      rw [← hlay, HN.out, List.drop_length]
      exact hT

end Go.Proofs.Ytbbkljgeddjghaa
