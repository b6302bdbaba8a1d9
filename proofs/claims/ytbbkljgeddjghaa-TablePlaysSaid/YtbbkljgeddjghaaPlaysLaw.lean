/-
  What is proved: the walk of lexiconlaw7's TablePlays: it answers true.
-/
import Derived.Test.YtbbkljgeddjghaaPlays
namespace Go.Proofs.Ytbbkljgeddjghaa
open Go.RowKit Go.Lx Go.Shelf
set_option linter.unusedVariables false
set_option linter.unusedSimpArgs false

set_option maxRecDepth 100000 in
set_option maxHeartbeats 1000000 in
theorem tablePlays_walk (zero : Bool) (a : Option Addr) (cap : Nat) (ss : List Stp) (w : World) (hs : Stps w a ss) (hm : ss.length ≤ maxLen) :
    Calls Try.prog 8 #[.bool zero, .slice a ss.length cap] w fun e w' => e = .returned (.bool true) ∧ Kept Nil w w' := by
  unfold maxLen at hm
  by_cases hl : ss.length ≤ 400
  · have hp := plays_any zero a cap ss none none ⟨0, 0, 0, 0⟩ w hs hl trivial trivial (fun z e => by cases e) (fun _ => rfl) (fun z e => by rcases e with e | e <;> cases e)
    obtain ⟨n, hn⟩ : ∃ n, n = ss.length := ⟨_, rfl⟩
    rw [← hn] at hl hm hp ⊢
    unfold mptr at hp
    dsimp only [Option.map_none] at hp
    have b0 : ¬ (400 : Int) < (n : Int) := by omega
    clear hs hn
    go_enter Try.func8, Try.ntmps8
    go_wp2_with fail
    go_at_call 34
    refine hp.mono ?_
    clear hp
    rintro e w1 ⟨x, D, rfl, hp⟩
    have HK : Hid (Kept Nil w w1) := hid (hp.kept.mono (fun z _ e => by rcases e with e | e <;> cases e))
    clear hp
    go_wp2_with (go_at_call 21; refine (awake_any _).mono ?_; rintro e w9 ⟨rfl, hk9⟩)
    go_ret
    exact ⟨rfl, HK.out.trans hk9 (fun _ _ h => h)⟩
  · have b0 : (400 : Int) < (ss.length : Int) := by omega
    generalize ss.length = n at *
    go_enter Try.func8, Try.ntmps8
    go_wp2_with (go_at_call 21; refine (awake_any w).mono ?_; rintro e w1 ⟨rfl, hk1⟩)
    go_ret
    exact ⟨rfl, hk1⟩
end Go.Proofs.Ytbbkljgeddjghaa
