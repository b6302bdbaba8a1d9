/-
  What is proved: the walks of (*Table).lived, All, Back and the iterators that they hand back.
-/
import Derived.Test.YtbbkljgeddjghaaNext
namespace Go.Lx
/-- The live entries from a number on, with their numbers. -/
def numsFrom : List Ent → Nat → List (Nat × Ent)
  | [], _ => []
  | x :: es, i => (if x.live then [(i, x)] else []) ++ numsFrom es (i + 1)
theorem numsFrom_append (a b : List Ent) (i : Nat) : numsFrom (a ++ b) i = numsFrom a i ++ numsFrom b (i + a.length) := by
  induction a generalizing i with
  | nil => simp [numsFrom]
  | cons x a ih => simp only [List.cons_append, numsFrom, ih, List.append_assoc, List.length_cons]; rw [show i + 1 + a.length = i + (a.length + 1) by omega]
def numsTo (es : List Ent) (k : Nat) : List (Nat × Ent) := numsFrom (es.take k) 0
theorem numsTo_succ (es : List Ent) (k : Nat) (x : Ent) (hx : es[k]? = some x) : numsTo es (k + 1) = numsTo es k ++ (if x.live then [(k, x)] else []) := by
  obtain ⟨h, rfl⟩ := List.getElem?_eq_some_iff.1 hx
  unfold numsTo
  rw [List.take_succ_eq_append_getElem h, numsFrom_append]
  simp [numsFrom, Nat.min_eq_left (Nat.le_of_lt h)]
theorem numsFrom_le (es : List Ent) (i : Nat) : (numsFrom es i).length ≤ es.length := by
  induction es generalizing i with
  | nil => simp [numsFrom]
  | cons x es ih => have := ih (i + 1); simp only [numsFrom, List.length_append, List.length_cons]; split <;> simp <;> omega
theorem numsFrom_map (es : List Ent) (i : Nat) : (numsFrom es i).map (·.2) = es.filter (·.live) := by
  induction es generalizing i with
  | nil => rfl
  | cons x es ih => simp only [numsFrom, List.map_append, ih]; cases h : x.live <;> simp [h]
/-- The cells of numbered entries. -/
def flatN (l : List (Nat × Ent)) : List Value := l.flatMap fun p => Value.int .i64 p.1 :: p.2.vals
theorem flatN_append (a b : List (Nat × Ent)) : flatN (a ++ b) = flatN a ++ flatN b := by simp [flatN]
theorem flatN_len (l : List (Nat × Ent)) : (flatN l).length = l.length * 6 := by
  induction l with
  | nil => rfl
  | cons x l ih => show ((Value.int .i64 x.1 :: x.2.vals) ++ flatN l).length = _; rw [List.length_append, ih]; simp [Ent.vals]; omega
theorem flatN_get (l : List (Nat × Ent)) (i k : Nat) (x : Nat × Ent) (hx : l[i]? = some x) (hk : k < 6) : (flatN l)[i * 6 + k]? = (Value.int .i64 x.1 :: x.2.vals)[k]? := by
  induction l generalizing i with
  | nil => simp at hx
  | cons y l ih =>
    show ((Value.int .i64 y.1 :: y.2.vals) ++ flatN l)[i * 6 + k]? = _
    cases i with
    | zero => simp at hx; subst hx; rw [List.getElem?_append_left (by simp [Ent.vals]; omega)]; congr 1; omega
    | succ i =>
      rw [List.getElem?_append_right (by simp [Ent.vals]; omega)]
      rw [← ih i (by simpa using hx)]
      congr 1; simp [Ent.vals]; omega
end Go.Lx
namespace Go.Proofs.Ytbbkljgeddjghaa
open Go.RowKit Go.Lx Go.Shelf
set_option linter.unusedVariables false
attribute [local go_sem] Oper.semAt_some

theorem Try.infoNumbered : (Try.prog.info? 170).map (fun i => (i.zero, i.size, i.bytes)) = some (some (.agg #[.int .i64 0, .bool false, .int .i64 0, .int .i64 0, .int .i64 0, .int .i64 0]), 6, 48) := by kernel_rfl

set_option maxHeartbeats 400000 in
theorem lived_nil (w : World) : Calls Try.prog 102 #[.pointer none] w fun e w' => e = .returned (.slice none 0 0) ∧ w = w' := by
  go_enter Try.func102, Try.ntmps102
  go_wp2
  go_ret
  exact ⟨rfl, rfl⟩

set_option maxRecDepth 100000 in
set_option maxHeartbeats 4000000 in
theorem lived_any (m : Option Nat) (t c r : Nat) (sv : Value) (T : Tab) (w : World) (h : TabAt w m t c r sv T) (hlen : T.ents.length ≤ 100000) (hlive : T.live ≤ 100000) :
    Calls Try.prog 102 #[.pointer (some ⟨t, 0, none⟩)] w fun e w' => ∃ lv, e = .returned lv ∧ Row w' 170 6 lv (numsFrom T.ents 0).length (flatN (numsFrom T.ents 0)) ∧ (∀ b, lv.ownBlock = some b → w.heap.size ≤ b) ∧ Kept Nil w w' := by
  obtain ⟨i0, hi, hz0, hz1, hz2⟩ := info_parts Try.infoNumbered
  obtain ⟨W0, hmk, hown, hgr⟩ := run_make_own (P := Try.prog) w w.heap.size 166 170 i0 _ 6 Try.underlying166 hi hz0 hz1 .i64 .i64 T.live (by rw [hz2]; omega) (by unfold maxLen; omega) (Nat.le_refl _)
  have hrow0 : Row W0 170 6 (.slice (some ⟨w.heap.size, 0, none⟩) 0 T.live) 0 [] := ownsRow_zero hown
  have hk0 : Kept Nil w W0 := (Kept.refl Nil w).grown hgr (fun k e => by cases e)
  have ht1 : w.cell? ⟨t, 1, none⟩ = some sv := h.head.cell 1
  have ht3 : w.cell? ⟨t, 3, none⟩ = some (.int .i64 T.live) := h.head.cell 3
  have d1 : W0.cell? ⟨t, 1, none⟩ = some sv := (World.cell?_of_block (hk0.block t h.head.lt id)).trans ht1
  obtain ⟨a, cap, hsv⟩ : ∃ a cap, sv = .slice a T.ents.length cap := by
    rcases h.ents.form with ⟨h1, h2, _⟩ | ⟨g, cap, h1, _⟩
    · exact ⟨none, 0, by rw [h1, h2]⟩
    · exact ⟨_, cap, h1⟩
  rw [hsv] at d1
  obtain ⟨n, hn⟩ : ∃ n, n = T.ents.length := ⟨_, rfl⟩
  rw [← hn] at d1 hlen
  have H := hid h
  have HN := hid hn
  have HSV := hid hsv
  clear h hn hsv ht1 hown hgr
  go_enter Try.func102, Try.ntmps102
  go_wp2
  go_loopw [3, 4, 5, 18] (fun lv _ _ i wr => ∃ k, k ≤ n ∧ i = .int .i64 k ∧ Row wr 170 6 lv (numsTo T.ents k).length (flatN (numsTo T.ents k)) ∧ (∀ b, lv.ownBlock = some b → w.heap.size ≤ b) ∧ Kept Nil w wr) (fun _ _ _ i _ => n - (intOf i).toNat)
  case atStart => exact ⟨0, Nat.zero_le _, rfl, hrow0, fun b hb => by cases hb; exact Nat.le_refl _, hk0⟩
  case round =>
    clear hmk d1 hrow0
    obtain ⟨k, hkn, rfl, hrow, hlv, hk⟩ := hrel
    by_cases hlt : k < n
    · obtain ⟨x, hx⟩ : ∃ x, T.ents[k]? = some x := ⟨_, List.getElem?_eq_getElem (by rw [← HN.out]; exact hlt)⟩
      have hTr := H.out.kept' hk (fun _ _ => id)
      obtain ⟨g, cap', hsv', hg1, hg2, hcell, -⟩ := hTr.ent hx
      have hag : a = some ⟨g, 0, none⟩ := by have := HSV.out; rw [this] at hsv'; simp at hsv'; exact hsv'.1
      have e0 : wr.cell? ⟨g, k * 5, none⟩ = some (.bool x.live) := hcell 0 _ rfl
      have e1 : wr.cell? ⟨g, k * 5 + 1, none⟩ = some (.int .i64 x.hash) := hcell 1 _ rfl
      have e2 : wr.cell? ⟨g, k * 5 + 2, none⟩ = some (.int .i64 x.key) := hcell 2 _ rfl
      have e3 : wr.cell? ⟨g, k * 5 + 3, none⟩ = some (.int .i64 x.value) := hcell 3 _ rfl
      have e4 : wr.cell? ⟨g, k * 5 + 4, none⟩ = some (.int .i64 x.birth) := hcell 4 _ rfl
      subst hag
      have hgl := World.block_lt_of_cell? _ _ e0
      have HX := hid hx
      have HROW := hid hrow
      have HLV := hid hlv
      clear hx hTr hcell hsv' hrow hlv
      cases hxl : x.live with
      | false =>
        rw [hxl] at e0
        go_wp2
        go_roundw
        case rel =>
          have e5 : numsTo T.ents (k + 1) = numsTo T.ents k := by rw [numsTo_succ _ _ _ HX.out, hxl]; simp
          refine ⟨k + 1, by omega, by go_num, by rw [e5]; exact HROW.out.alloc _, HLV.out, hk.alloc _⟩
        case measure => simp [intOf]; omega
      | true =>
        rw [hxl] at e0
        obtain ⟨q, hq⟩ : ∃ q, q = (numsTo T.ents k).length := ⟨_, rfl⟩
        have hqb : q ≤ 100000 := by
          have := numsFrom_le (T.ents.take k) 0
          have h2 : (T.ents.take k).length ≤ k := by simp; omega
          unfold numsTo at hq; omega
        have HQ := hid hq
        have hrowq := HROW.out
        rw [← hq] at hrowq
        clear hq
        obtain ⟨WA, hWA⟩ : ∃ WA, WA = (wr.alloc (Obj.cells #[Value.bool true, Value.int IntKind.i64 x.hash, Value.int IntKind.i64 x.key, Value.int IntKind.i64 x.value, Value.int IntKind.i64 x.birth] 32)).alloc (Obj.cells #[Value.int IntKind.i64 k, Value.bool true, Value.int IntKind.i64 x.hash, Value.int IntKind.i64 x.key, Value.int IntKind.i64 x.value, Value.int IntKind.i64 x.birth] 170) := ⟨_, rfl⟩
        have hkA : Kept Nil wr WA := by rw [hWA]; exact ((Kept.refl _ wr).alloc _).alloc _
        have hnewA : ∀ j u, (Value.int .i64 k :: x.vals)[j]? = some u → WA.cell? ((⟨wr.heap.size + 1, 0, none⟩ : Addr).add j) = some u := by
          intro j u hu
          rw [show (⟨wr.heap.size + 1, 0, none⟩ : Addr).add j = ⟨wr.heap.size + 1, j, none⟩ by unfold Addr.add; split <;> simp_all]
          have hb := Blk.new (wr.alloc (Obj.cells #[Value.bool true, Value.int IntKind.i64 x.hash, Value.int IntKind.i64 x.key, Value.int IntKind.i64 x.value, Value.int IntKind.i64 x.birth] 32)) 170 [Value.int IntKind.i64 k, Value.bool true, Value.int IntKind.i64 x.hash, Value.int IntKind.i64 x.key, Value.int IntKind.i64 x.value, Value.int IntKind.i64 x.birth]
          have hb2 : Blk WA (wr.heap.size + 1) 170 [Value.int IntKind.i64 k, Value.bool true, Value.int IntKind.i64 x.hash, Value.int IntKind.i64 x.key, Value.int IntKind.i64 x.value, Value.int IntKind.i64 x.birth] := by rw [hWA]; simpa using hb
          rw [hb2.cell]
          unfold Ent.vals at hu
          rw [hxl] at hu
          exact hu
        have hrowA := hrowq.kept hkA (fun _ _ => id)
        have h1c : ∀ v ∈ (Value.int .i64 k :: x.vals), v.oneCell' = true := by simp [Ent.vals, Value.oneCell']
        have ROWA := hid hrowA
        have NEWA := hid hnewA
        have H1C := hid h1c
        have HWA := hid hWA
        have HKA := hid hkA
        clear hrowA hnewA h1c hWA hkA hrowq
        go_wp2_with (at_builtin; rw [← HWA.out]; refine wpList_append_row WA (by rfl) (.tmp 25) (.tmp 29) 166 (by rfl) 170 i0 _ 6 48 Try.underlying166 hi hz0 hz1 hz2 rfl (by omega) u3 q (flatN (numsTo T.ents k)) (by rfl) ROWA.out ⟨wr.heap.size + 1, 0, none⟩ 1 1 (Value.int .i64 k :: x.vals) (by rfl) rfl NEWA.out H1C.out (by unfold maxLen; omega) (by omega) (by omega) ?_; intro v' w3 hrow3 hg3)
        go_roundw
        case rel =>
          have e5 : numsTo T.ents (k + 1) = numsTo T.ents k ++ [(k, x)] := by rw [numsTo_succ _ _ _ HX.out, hxl]; simp
          refine ⟨k + 1, by omega, by go_num, ?_, ?_, ?_⟩
          · rw [e5, flatN_append, List.length_append, ← HQ.out]
            have : flatN [(k, x)] = Value.int .i64 k :: x.vals := by simp [flatN]
            rw [this]; exact hrow3
          · intro b hb
            rcases hg3.own with e | ⟨g', e, hg⟩
            · exact HLV.out b (by rw [← e]; exact hb)
            · rw [e] at hb; cases hb; have := hk.size; have := HKA.out.size; omega
          · exact (hk.trans HKA.out (fun _ _ h => h)).grown hg3.by_ (fun b e => .inr (HLV.out b e))
        case measure => simp [intOf]; omega
    · obtain rfl : k = n := by omega
      go_wp2
      go_ret
      refine ⟨_, rfl, ?_, hlv, hk⟩
      have e : numsTo T.ents k = numsFrom T.ents 0 := by unfold numsTo; rw [HN.out, List.take_length]
      rw [← e]; exact hrow

set_option maxHeartbeats 1000000 in
theorem iterAll_any (m : Option Nat) (t c r : Nat) (sv : Value) (T : Tab) (w : World) (h : TabAt w m t c r sv T) (hlen : T.ents.length ≤ 100000) (hlive : T.live ≤ 100000) :
    Calls Try.prog 39 #[.pointer (some ⟨t, 0, none⟩)] w fun e w' => ∃ B a cap, e = .returned (.func (.func 103) #[] #[.pointer (some ⟨B, 0, none⟩)]) ∧ w.heap.size ≤ B ∧ Blk w' B 166 [.slice a (numsFrom T.ents 0).length cap] ∧
      Row w' 170 6 (.slice a (numsFrom T.ents 0).length cap) (numsFrom T.ents 0).length (flatN (numsFrom T.ents 0)) ∧ (∀ b, (Value.slice a (numsFrom T.ents 0).length cap).ownBlock = some b → w.heap.size ≤ b) ∧ Kept Nil w w' := by
  have hl := lived_any m t c r sv T w h hlen hlive
  obtain ⟨n, hn⟩ : ∃ n, n = (numsFrom T.ents 0).length := ⟨_, rfl⟩
  rw [← hn] at hl ⊢
  clear h hn
  go_enter Try.func39, Try.ntmps39
  go_wp2_with (go_at_call 102; refine hl.mono ?_; clear hl; rintro e w1 ⟨lv, rfl, hrow, hown, hk⟩; obtain ⟨a, cap, rfl⟩ : ∃ a cap, lv = .slice a n cap := (by rcases hrow.form with ⟨h1, h2, _⟩ | ⟨g, cap, h1, _⟩; exact ⟨none, 0, by rw [h1, h2]⟩; exact ⟨_, cap, h1⟩))
  go_ret
  exact ⟨_, a, cap, rfl, hk.size, Blk.new w1 166 _, hrow.alloc _, hown, hk.alloc _⟩
set_option maxHeartbeats 1000000 in
theorem iterAll_nil (w : World) :
    Calls Try.prog 39 #[.pointer none] w fun e w' => ∃ B, e = .returned (.func (.func 103) #[] #[.pointer (some ⟨B, 0, none⟩)]) ∧ w.heap.size ≤ B ∧ Blk w' B 166 [.slice none 0 0] ∧ Kept Nil w w' := by
  go_enter Try.func39, Try.ntmps39
  go_wp2_with (go_at_call 102; refine (lived_nil _).mono ?_; rintro e w1 ⟨rfl, rfl⟩)
  go_ret
  exact ⟨_, rfl, Nat.le_refl _, Blk.new w 166 _, (Kept.refl _ _).alloc _⟩
set_option maxHeartbeats 1000000 in
theorem iterBack_any (m : Option Nat) (t c r : Nat) (sv : Value) (T : Tab) (w : World) (h : TabAt w m t c r sv T) (hlen : T.ents.length ≤ 100000) (hlive : T.live ≤ 100000) :
    Calls Try.prog 40 #[.pointer (some ⟨t, 0, none⟩)] w fun e w' => ∃ B a cap, e = .returned (.func (.func 104) #[] #[.pointer (some ⟨B, 0, none⟩)]) ∧ w.heap.size ≤ B ∧ Blk w' B 166 [.slice a (numsFrom T.ents 0).length cap] ∧
      Row w' 170 6 (.slice a (numsFrom T.ents 0).length cap) (numsFrom T.ents 0).length (flatN (numsFrom T.ents 0)) ∧ (∀ b, (Value.slice a (numsFrom T.ents 0).length cap).ownBlock = some b → w.heap.size ≤ b) ∧ Kept Nil w w' := by
  have hl := lived_any m t c r sv T w h hlen hlive
  obtain ⟨n, hn⟩ : ∃ n, n = (numsFrom T.ents 0).length := ⟨_, rfl⟩
  rw [← hn] at hl ⊢
  clear h hn
  go_enter Try.func40, Try.ntmps40
  go_wp2_with (go_at_call 102; refine hl.mono ?_; clear hl; rintro e w1 ⟨lv, rfl, hrow, hown, hk⟩; obtain ⟨a, cap, rfl⟩ : ∃ a cap, lv = .slice a n cap := (by rcases hrow.form with ⟨h1, h2, _⟩ | ⟨g, cap, h1, _⟩; exact ⟨none, 0, by rw [h1, h2]⟩; exact ⟨_, cap, h1⟩))
  go_ret
  exact ⟨_, a, cap, rfl, hk.size, Blk.new w1 166 _, hrow.alloc _, hown, hk.alloc _⟩
set_option maxHeartbeats 1000000 in
theorem iterBack_nil (w : World) :
    Calls Try.prog 40 #[.pointer none] w fun e w' => ∃ B, e = .returned (.func (.func 104) #[] #[.pointer (some ⟨B, 0, none⟩)]) ∧ w.heap.size ≤ B ∧ Blk w' B 166 [.slice none 0 0] ∧ Kept Nil w w' := by
  go_enter Try.func40, Try.ntmps40
  go_wp2_with (go_at_call 102; refine (lived_nil _).mono ?_; rintro e w1 ⟨rfl, rfl⟩)
  go_ret
  exact ⟨_, rfl, Nat.le_refl _, Blk.new w 166 _, (Kept.refl _ _).alloc _⟩

/-- What a body must leave alone, that goes on: the iterator's own blocks. -/
def KpAt (B : Nat) (sv : Value) (W W' : World) : Prop := W'.heap[B]? = W.heap[B]? ∧ ∀ g, sv.ownBlock = some g → W'.heap[g]? = W.heap[g]?
theorem KpAt.trans {B : Nat} {sv : Value} {X Y Z : World} (h : KpAt B sv X Y) (k : KpAt B sv Y Z) : KpAt B sv X Z := ⟨k.1.trans h.1, fun g hg => (k.2 g hg).trans (h.2 g hg)⟩
theorem KpAt.put {B : Nat} {sv : Value} {w : World} (hB : B < w.heap.size) (hs : ∀ g, sv.ownBlock = some g → g < w.heap.size) (W : World) (l : Nat) (o o' : Obj) (hl : w.heap.size ≤ l) (_ : W.heap[l]? = some o) (_ : o.isCells = false) (_ : o.isWalk = false) : KpAt B sv W (W.putObj l o') :=
  ⟨World.putObj_heap_other (by omega), fun g hg => World.putObj_heap_other (by have := hs g hg; omega)⟩

set_option maxRecDepth 100000 in
set_option maxHeartbeats 2000000 in
theorem tabAll_in (n : Nat) (hn : 1 ≤ n) (l B : Nat) (a : Option Addr) (cap : Nat) (ls : List (Nat × Ent)) (hls : ls.length ≤ 100000) (J Jx : List (Nat × Ent) → World → Prop) (W : World) (hJ : AbidesFrom W.heap.size J)
    (hY : ∀ pre x W, J pre W → pre.length < ls.length → YieldAt Fence.wide (n - 1) Try.prog l #[.int .i64 (x.1 : Nat), Ent.agg x.2] W fun e W' =>
      (e = .returned (.bool true) ∧ J (pre ++ [x]) W' ∧ KpAt B (.slice a ls.length cap) W W') ∨ (e = .returned (.bool false) ∧ Jx (pre ++ [x]) W'))
    (h1 : Blk W B 166 [.slice a ls.length cap]) (h2 : Row W 170 6 (.slice a ls.length cap) ls.length (flatN ls)) (h0 : J [] W) :
    CallsIn Fence.wide n Try.prog 103 #[.func (.yield l) #[] #[], .pointer (some ⟨B, 0, none⟩)] W fun e W' => (∃ v, e = .returned v) ∧
      ((∃ ys, ys = ls ∧ J ys W') ∨ (∃ pre, (∃ k, k < ls.length ∧ pre = ls.take (k + 1)) ∧ Jx pre W')) := by
  have hc1 : W.cell? ⟨B, 0, none⟩ = some (.slice a ls.length cap) := h1.cell 0
  obtain ⟨N, hN⟩ : ∃ N, N = ls.length := ⟨_, rfl⟩
  rw [← hN] at hc1 hls
  have HN := hid hN
  have H2 := hid h2
  have hsz : ∀ g, (Value.slice a ls.length cap).ownBlock = some g → g < W.heap.size := fun g hg => h2.lt hg
  have HSZ := hid hsz
  clear hN h2 hsz
  refine callsIn_of_wp Try.func103 rfl trivial ?_ rfl
  simp only [Try.ntmps103, List.size_toArray, List.length_cons, List.length_nil, Nat.reduceAdd, Nat.reduceSub, Array.replicate_succ, Array.replicate_zero, List.push_toArray, List.append_toArray, List.nil_append, List.cons_append]
  gi_wp2
  clear hc1
  gi_loopw [4, 7] (fun _ i wr => ∃ k : Nat, k ≤ N ∧ i = .int .i64 k ∧ (∀ g, (Value.slice a ls.length cap).ownBlock = some g → wr.heap[g]? = W.heap[g]?) ∧ J (ls.take k) wr)
    (fun _ i _ => N - (intOf i).toNat)
  case atStart => exact ⟨0, Nat.zero_le _, rfl, fun _ _ => rfl, h0⟩
  case round =>
    obtain ⟨k, hk, rfl, hsame, hJs⟩ := hrel
    by_cases hlt : k < N
    · have hkl : k < ls.length := by rw [← HN.out]; exact hlt
      obtain ⟨x, hx⟩ : ∃ x, ls[k]? = some x := ⟨_, List.getElem?_eq_getElem hkl⟩
      have hrw : Row wr 170 6 (.slice a ls.length cap) ls.length (flatN ls) := H2.out.same hsame
      obtain ⟨g, cap', hsv, hg1, hg2⟩ : ∃ g cap', (Value.slice a ls.length cap) = .slice (some ⟨g, 0, none⟩) ls.length cap' ∧ ls.length ≤ cap' ∧ cap' ≤ maxLen := by
        rcases hrw.form with ⟨_, h0, _⟩ | h
        · omega
        · exact h
      have hag : a = some ⟨g, 0, none⟩ := by simp at hsv; exact hsv.1
      subst hag
      have e0 : wr.cell? ⟨g, k * 6, none⟩ = some (.int .i64 (x.1 : Nat)) := hrw.cell rfl (by rw [show k * 6 = k * 6 + 0 from rfl, flatN_get _ _ _ _ hx (by omega)]; rfl)
      have e1 : wr.cell? ⟨g, k * 6 + 1, none⟩ = some (.bool x.2.live) := hrw.cell rfl (by rw [flatN_get _ _ _ _ hx (by omega)]; rfl)
      have e2 : wr.cell? ⟨g, k * 6 + 2, none⟩ = some (.int .i64 x.2.hash) := hrw.cell rfl (by rw [flatN_get _ _ _ _ hx (by omega)]; rfl)
      have e3 : wr.cell? ⟨g, k * 6 + 3, none⟩ = some (.int .i64 x.2.key) := hrw.cell rfl (by rw [flatN_get _ _ _ _ hx (by omega)]; rfl)
      have e4 : wr.cell? ⟨g, k * 6 + 4, none⟩ = some (.int .i64 x.2.value) := hrw.cell rfl (by rw [flatN_get _ _ _ _ hx (by omega)]; rfl)
      have e5 : wr.cell? ⟨g, k * 6 + 5, none⟩ = some (.int .i64 x.2.birth) := hrw.cell rfl (by rw [flatN_get _ _ _ _ hx (by omega)]; rfl)
      have hgl := hrw.lt (g := g) rfl
      have hcap : (k : Int) < (ls.length : Int) := by omega
      have hJ1 : J (ls.take k) (wr.alloc (Obj.cells #[Value.int .i64 (x.1 : Nat), .bool x.2.live, .int .i64 x.2.hash, .int .i64 x.2.key, .int .i64 x.2.value, .int .i64 x.2.birth] 170)) := hJ _ _ _ none hJs (World.grownBy_alloc _ _ none) (fun _ e => by cases e)
      obtain ⟨fn, tmps, assign, body, hy, hR⟩ := hY _ x _ hJ1 (by simp; omega)
      have htk : ls.take k ++ [x] = ls.take (k + 1) := by
        obtain ⟨hh, rfl⟩ := List.getElem?_eq_some_iff.1 hx
        exact (List.take_succ_eq_append_getElem hh).symm
      rw [htk] at hR
      unfold Ent.agg at hy
      have HX := hid hx
      have HTK := hid htk
      clear hx htk hrw hsv hJ1
      gi_wp2
      refine hR.mono ?_
      rintro e W3 (⟨rfl, hJ3, hs3⟩ | ⟨rfl, hJx3⟩)
      · gi_wp2
        go_roundw
        case rel =>
          refine ⟨k + 1, by omega, by simp, fun g' hg' => ?_, hJ3⟩
          have hl' := HSZ.out g' hg'
          have h1 := hsame g' hg'
          cases hg'
          exact ((hs3.2 g rfl).trans (Below.heap_alloc _ _ _ hgl)).trans h1
        case measure => simp [intOf]; omega
      · gi_wp2
        refine bodyPost_ret (results_none rfl _ _ _) rfl ?_
        exact ⟨⟨_, rfl⟩, .inr ⟨_, ⟨k, hkl, rfl⟩, hJx3⟩⟩
    · obtain rfl : k = N := by omega
      gi_wp2
      go_end0
      exact ⟨⟨_, rfl⟩, .inl ⟨_, rfl, by rw [HN.out, List.take_length] at hJs; exact hJs⟩⟩

/-- **The iterator over a table**: each live entry with its number, in order. -/
theorem tabAll_stops (n : Nat) (hn : 1 ≤ n) (B : Nat) (a : Option Addr) (cap : Nat) (ls : List (Nat × Ent)) (hls : ls.length ≤ 100000) (w : World) (h1 : Blk w B 166 [.slice a ls.length cap]) (h2 : Row w 170 6 (.slice a ls.length cap) ls.length (flatN ls)) :
    SeqStopsK Fence.wide n Try.prog 103 #[.pointer (some ⟨B, 0, none⟩)] (fun x : Nat × Ent => #[.int .i64 (x.1 : Nat), Ent.agg x.2]) (KpAt B (.slice a ls.length cap))
      (fun ys => ys = ls) (fun pre => ∃ k, k < ls.length ∧ pre = ls.take (k + 1)) ls.length w := fun l J Jx W hW hJ _ hY h0 =>
  tabAll_in n hn l B a cap ls hls J Jx W hJ hY (h1.below hW h1.lt) (h2.same fun g hg => hW.block g (h2.lt hg)) h0

end Go.Proofs.Ytbbkljgeddjghaa
