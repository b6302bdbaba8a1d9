/-
  No cell of these rows narrows 'for every input' (looked for: loops, veiled, ifaces, maps, wideKeys, modest, calm, conditions, laid).
  DERIVED. THE GIVEN ROWS OF THIS SEAT. 18 by the template 'for every input the law returns true; each argument reads behind the call as it read before'; 0 by the template 'total and deterministic' (their statements: YtbbkljgeddjghaaTotals.lean).
  GIVEN WITH THE SEED: the statements are not yours to turn. If you find one false, say at which input.
  Laid BY PROGRAM, IN A SANDBOX (cutbox-rows.mjs): the forced cells as the released guide's own fill.sh prints them over the translation 60901398a7dd1efc… (all of the seat's roots in one cut). By AI agents, Wed Nov 11 2026. No macro, syntax, notation, axiom, sorry.
-/
import Derived.Test.YtbbkljgeddjghaaChecked
import GoSem.Claim
import GoSem.ClaimJoined
import GoSem.ClaimMapViews
import Derived.JoinedTies
import Derived.KernelRfl
namespace Go.Proofs.Ytbbkljgeddjghaa
/- THE CELL 'sum', in the pinned program and in every row, IS THE sha256 OF THE DUMP (.gsa) THAT YtbbkljgeddjghaaProg.lean LOADS. Nothing in Lean hashes anything: it is a label: what it is worth is what the hold of that sum in a sandbox is worth. -/
noncomputable def Try.pinned : Pinned := { name := "ytbbkljgeddjghaa", sum := "60901398a7dd1efca24b004aa1eeb19bb431ab38b1c2e534464812806a273702", checked := Try.checked }
namespace Rows
def none {H : Type} : Left H := { results := [], args := [] }

/-- 'lexiconlaw7.TableRoom': WHATEVER THE INPUT: true; the input reads as it did. -/
def tableRoomSpec : ChangeSpec := { name := "tableRoom", fn := fun _ => fun
  | [d1, d2] => { results := [.lit (.bool true)], args := [d1, d2] }
  | _ => none }
def tableRoomRow : OpenClaim := { program := "ytbbkljgeddjghaa", sum := "60901398a7dd1efca24b004aa1eeb19bb431ab38b1c2e534464812806a273702", func := "lexicon/lexiconlaw7.TableRoom", spec := "tableRoom", inPlace := ["sync/atomic.AddInt64"], unfollowed := true, recurses := true, apart := false }
def TableRoomSaid : Prop := tableRoomRow.holds Try.pinned (OpenSpec.ofChange tableRoomSpec)

/-- ITS FALSE NEIGHBOUR: 'it returns false'. Refute it at one input. -/
def tableRoomWrong : ChangeSpec := { name := "tableRoom", fn := fun _ => fun
  | [d1, d2] => { results := [.lit (.bool false)], args := [d1, d2] }
  | _ => none }
def TableRoomWrongFalsely : Prop := tableRoomRow.holds Try.pinned (OpenSpec.ofChange tableRoomWrong)

/-- 'lexiconlaw7.TableOwn': WHATEVER THE INPUT: true; the input reads as it did. -/
def tableOwnSpec : ChangeSpec := { name := "tableOwn", fn := fun _ => fun
  | [d1, d2] => { results := [.lit (.bool true)], args := [d1, d2] }
  | _ => none }
def tableOwnRow : OpenClaim := { program := "ytbbkljgeddjghaa", sum := "60901398a7dd1efca24b004aa1eeb19bb431ab38b1c2e534464812806a273702", func := "lexicon/lexiconlaw7.TableOwn", spec := "tableOwn", inPlace := ["sync/atomic.AddInt64"], unfollowed := true, recurses := true, apart := false }
def TableOwnSaid : Prop := tableOwnRow.holds Try.pinned (OpenSpec.ofChange tableOwnSpec)

/-- ITS FALSE NEIGHBOUR: 'it returns false'. Refute it at one input. -/
def tableOwnWrong : ChangeSpec := { name := "tableOwn", fn := fun _ => fun
  | [d1, d2] => { results := [.lit (.bool false)], args := [d1, d2] }
  | _ => none }
def TableOwnWrongFalsely : Prop := tableOwnRow.holds Try.pinned (OpenSpec.ofChange tableOwnWrong)

/-- 'lexiconlaw7.TableKeeps': WHATEVER THE INPUT: true; the input reads as it did. -/
def tableKeepsSpec : ChangeSpec := { name := "tableKeeps", fn := fun _ => fun
  | [d1, d2] => { results := [.lit (.bool true)], args := [d1, d2] }
  | _ => none }
def tableKeepsRow : OpenClaim := { program := "ytbbkljgeddjghaa", sum := "60901398a7dd1efca24b004aa1eeb19bb431ab38b1c2e534464812806a273702", func := "lexicon/lexiconlaw7.TableKeeps", spec := "tableKeeps", inPlace := ["sync/atomic.AddInt64"], unfollowed := true, recurses := true, apart := false }
def TableKeepsSaid : Prop := tableKeepsRow.holds Try.pinned (OpenSpec.ofChange tableKeepsSpec)

/-- ITS FALSE NEIGHBOUR: 'it returns false'. Refute it at one input. -/
def tableKeepsWrong : ChangeSpec := { name := "tableKeeps", fn := fun _ => fun
  | [d1, d2] => { results := [.lit (.bool false)], args := [d1, d2] }
  | _ => none }
def TableKeepsWrongFalsely : Prop := tableKeepsRow.holds Try.pinned (OpenSpec.ofChange tableKeepsWrong)

/-- 'lexiconlaw7.TableSeeks': WHATEVER THE INPUT: true; the input reads as it did. -/
def tableSeeksSpec : ChangeSpec := { name := "tableSeeks", fn := fun _ => fun
  | [d1, d2, d3] => { results := [.lit (.bool true)], args := [d1, d2, d3] }
  | _ => none }
def tableSeeksRow : OpenClaim := { program := "ytbbkljgeddjghaa", sum := "60901398a7dd1efca24b004aa1eeb19bb431ab38b1c2e534464812806a273702", func := "lexicon/lexiconlaw7.TableSeeks", spec := "tableSeeks", inPlace := ["sync/atomic.AddInt64"], unfollowed := true, recurses := true, apart := false }
def TableSeeksSaid : Prop := tableSeeksRow.holds Try.pinned (OpenSpec.ofChange tableSeeksSpec)

/-- ITS FALSE NEIGHBOUR: 'it returns false'. Refute it at one input. -/
def tableSeeksWrong : ChangeSpec := { name := "tableSeeks", fn := fun _ => fun
  | [d1, d2, d3] => { results := [.lit (.bool false)], args := [d1, d2, d3] }
  | _ => none }
def TableSeeksWrongFalsely : Prop := tableSeeksRow.holds Try.pinned (OpenSpec.ofChange tableSeeksWrong)

/-- 'lexiconlaw7.TableOnce': WHATEVER THE INPUT: true; the input reads as it did. -/
def tableOnceSpec : ChangeSpec := { name := "tableOnce", fn := fun _ => fun
  | [d] => { results := [.lit (.bool true)], args := [d] }
  | _ => none }
def tableOnceRow : OpenClaim := { program := "ytbbkljgeddjghaa", sum := "60901398a7dd1efca24b004aa1eeb19bb431ab38b1c2e534464812806a273702", func := "lexicon/lexiconlaw7.TableOnce", spec := "tableOnce", inPlace := ["sync/atomic.AddInt64"], unfollowed := true, recurses := true, apart := false }
def TableOnceSaid : Prop := tableOnceRow.holds Try.pinned (OpenSpec.ofChange tableOnceSpec)

/-- ITS FALSE NEIGHBOUR: 'it returns false'. Refute it at one input. -/
def tableOnceWrong : ChangeSpec := { name := "tableOnce", fn := fun _ => fun
  | [d] => { results := [.lit (.bool false)], args := [d] }
  | _ => none }
def TableOnceWrongFalsely : Prop := tableOnceRow.holds Try.pinned (OpenSpec.ofChange tableOnceWrong)

/-- 'lexiconlaw7.TablePlays': WHATEVER THE INPUT: true; the input reads as it did. -/
def tablePlaysSpec : ChangeSpec := { name := "tablePlays", fn := fun _ => fun
  | [d1, d2] => { results := [.lit (.bool true)], args := [d1, d2] }
  | _ => none }
def tablePlaysRow : OpenClaim := { program := "ytbbkljgeddjghaa", sum := "60901398a7dd1efca24b004aa1eeb19bb431ab38b1c2e534464812806a273702", func := "lexicon/lexiconlaw7.TablePlays", spec := "tablePlays", inPlace := ["sync/atomic.AddInt64"], unfollowed := true, recurses := true, apart := false }
def TablePlaysSaid : Prop := tablePlaysRow.holds Try.pinned (OpenSpec.ofChange tablePlaysSpec)

/-- ITS FALSE NEIGHBOUR: 'it returns false'. Refute it at one input. -/
def tablePlaysWrong : ChangeSpec := { name := "tablePlays", fn := fun _ => fun
  | [d1, d2] => { results := [.lit (.bool false)], args := [d1, d2] }
  | _ => none }
def TablePlaysWrongFalsely : Prop := tablePlaysRow.holds Try.pinned (OpenSpec.ofChange tablePlaysWrong)

/-- 'lexiconlaw7.TableTwo': WHATEVER THE INPUT: true; the input reads as it did. -/
def tableTwoSpec : ChangeSpec := { name := "tableTwo", fn := fun _ => fun
  | [d1, d2, d3] => { results := [.lit (.bool true)], args := [d1, d2, d3] }
  | _ => none }
def tableTwoRow : OpenClaim := { program := "ytbbkljgeddjghaa", sum := "60901398a7dd1efca24b004aa1eeb19bb431ab38b1c2e534464812806a273702", func := "lexicon/lexiconlaw7.TableTwo", spec := "tableTwo", inPlace := ["sync/atomic.AddInt64"], unfollowed := true, recurses := true, apart := false }
def TableTwoSaid : Prop := tableTwoRow.holds Try.pinned (OpenSpec.ofChange tableTwoSpec)

/-- ITS FALSE NEIGHBOUR: 'it returns false'. Refute it at one input. -/
def tableTwoWrong : ChangeSpec := { name := "tableTwo", fn := fun _ => fun
  | [d1, d2, d3] => { results := [.lit (.bool false)], args := [d1, d2, d3] }
  | _ => none }
def TableTwoWrongFalsely : Prop := tableTwoRow.holds Try.pinned (OpenSpec.ofChange tableTwoWrong)

/-- 'lexiconlaw7.TableMeters': WHATEVER THE INPUT: true; the input reads as it did. -/
def tableMetersSpec : ChangeSpec := { name := "tableMeters", fn := fun _ => fun
  | [d] => { results := [.lit (.bool true)], args := [d] }
  | _ => none }
def tableMetersRow : OpenClaim := { program := "ytbbkljgeddjghaa", sum := "60901398a7dd1efca24b004aa1eeb19bb431ab38b1c2e534464812806a273702", func := "lexicon/lexiconlaw7.TableMeters", spec := "tableMeters", inPlace := ["sync/atomic.AddInt64", "sync/atomic.LoadInt64"], unfollowed := true, recurses := true, apart := false }
def TableMetersSaid : Prop := tableMetersRow.holds Try.pinned (OpenSpec.ofChange tableMetersSpec)

/-- ITS FALSE NEIGHBOUR: 'it returns false'. Refute it at one input. -/
def tableMetersWrong : ChangeSpec := { name := "tableMeters", fn := fun _ => fun
  | [d] => { results := [.lit (.bool false)], args := [d] }
  | _ => none }
def TableMetersWrongFalsely : Prop := tableMetersRow.holds Try.pinned (OpenSpec.ofChange tableMetersWrong)

/-- 'lexiconlaw7.TableGoes': WHATEVER THE INPUT: true; the input reads as it did. -/
def tableGoesSpec : ChangeSpec := { name := "tableGoes", fn := fun _ => fun
  | [d1, d2, d3] => { results := [.lit (.bool true)], args := [d1, d2, d3] }
  | _ => none }
def tableGoesRow : OpenClaim := { program := "ytbbkljgeddjghaa", sum := "60901398a7dd1efca24b004aa1eeb19bb431ab38b1c2e534464812806a273702", func := "lexicon/lexiconlaw7.TableGoes", spec := "tableGoes", inPlace := ["sync/atomic.AddInt64"], unfollowed := true, recurses := true, apart := false }
def TableGoesSaid : Prop := tableGoesRow.holds Try.pinned (OpenSpec.ofChange tableGoesSpec)

/-- ITS FALSE NEIGHBOUR: 'it returns false'. Refute it at one input. -/
def tableGoesWrong : ChangeSpec := { name := "tableGoes", fn := fun _ => fun
  | [d1, d2, d3] => { results := [.lit (.bool false)], args := [d1, d2, d3] }
  | _ => none }
def TableGoesWrongFalsely : Prop := tableGoesRow.holds Try.pinned (OpenSpec.ofChange tableGoesWrong)

/-- 'lexiconlaw7.TableNothing': WHATEVER THE INPUT: true; the input reads as it did. -/
def tableNothingSpec : ChangeSpec := { name := "tableNothing", fn := fun _ => fun
  | [d] => { results := [.lit (.bool true)], args := [d] }
  | _ => none }
def tableNothingRow : OpenClaim := { program := "ytbbkljgeddjghaa", sum := "60901398a7dd1efca24b004aa1eeb19bb431ab38b1c2e534464812806a273702", func := "lexicon/lexiconlaw7.TableNothing", spec := "tableNothing", inPlace := ["sync/atomic.AddInt64"], unfollowed := true, recurses := true, apart := false }
def TableNothingSaid : Prop := tableNothingRow.holds Try.pinned (OpenSpec.ofChange tableNothingSpec)

/-- ITS FALSE NEIGHBOUR: 'it returns false'. Refute it at one input. -/
def tableNothingWrong : ChangeSpec := { name := "tableNothing", fn := fun _ => fun
  | [d] => { results := [.lit (.bool false)], args := [d] }
  | _ => none }
def TableNothingWrongFalsely : Prop := tableNothingRow.holds Try.pinned (OpenSpec.ofChange tableNothingWrong)

/-- 'lexiconlaw8.ProbeOwn': WHATEVER THE INPUT: true; the input reads as it did. -/
def probeOwnSpec : ChangeSpec := { name := "probeOwn", fn := fun _ => fun
  | [d] => { results := [.lit (.bool true)], args := [d] }
  | _ => none }
def probeOwnRow : OpenClaim := { program := "ytbbkljgeddjghaa", sum := "60901398a7dd1efca24b004aa1eeb19bb431ab38b1c2e534464812806a273702", func := "lexicon/lexiconlaw8.ProbeOwn", spec := "probeOwn", inPlace := ["sync/atomic.AddInt64"], unfollowed := true, recurses := true, apart := false }
def ProbeOwnSaid : Prop := probeOwnRow.holds Try.pinned (OpenSpec.ofChange probeOwnSpec)

/-- ITS FALSE NEIGHBOUR: 'it returns false'. Refute it at one input. -/
def probeOwnWrong : ChangeSpec := { name := "probeOwn", fn := fun _ => fun
  | [d] => { results := [.lit (.bool false)], args := [d] }
  | _ => none }
def ProbeOwnWrongFalsely : Prop := probeOwnRow.holds Try.pinned (OpenSpec.ofChange probeOwnWrong)

/-- 'lexiconlaw8.ProbeFull': WHATEVER THE INPUT: true; the input reads as it did. -/
def probeFullSpec : ChangeSpec := { name := "probeFull", fn := fun _ => fun
  | [d1, d2] => { results := [.lit (.bool true)], args := [d1, d2] }
  | _ => none }
def probeFullRow : OpenClaim := { program := "ytbbkljgeddjghaa", sum := "60901398a7dd1efca24b004aa1eeb19bb431ab38b1c2e534464812806a273702", func := "lexicon/lexiconlaw8.ProbeFull", spec := "probeFull", inPlace := ["sync/atomic.AddInt64"], unfollowed := true, recurses := true, apart := false }
def ProbeFullSaid : Prop := probeFullRow.holds Try.pinned (OpenSpec.ofChange probeFullSpec)

/-- ITS FALSE NEIGHBOUR: 'it returns false'. Refute it at one input. -/
def probeFullWrong : ChangeSpec := { name := "probeFull", fn := fun _ => fun
  | [d1, d2] => { results := [.lit (.bool false)], args := [d1, d2] }
  | _ => none }
def ProbeFullWrongFalsely : Prop := probeFullRow.holds Try.pinned (OpenSpec.ofChange probeFullWrong)

/-- 'lexiconlaw8.ProbeOnce': WHATEVER THE INPUT: true; the input reads as it did. -/
def probeOnceSpec : ChangeSpec := { name := "probeOnce", fn := fun _ => fun
  | [d1, d2, d3] => { results := [.lit (.bool true)], args := [d1, d2, d3] }
  | _ => none }
def probeOnceRow : OpenClaim := { program := "ytbbkljgeddjghaa", sum := "60901398a7dd1efca24b004aa1eeb19bb431ab38b1c2e534464812806a273702", func := "lexicon/lexiconlaw8.ProbeOnce", spec := "probeOnce", inPlace := ["sync/atomic.AddInt64"], unfollowed := true, recurses := true, apart := false }
def ProbeOnceSaid : Prop := probeOnceRow.holds Try.pinned (OpenSpec.ofChange probeOnceSpec)

/-- ITS FALSE NEIGHBOUR: 'it returns false'. Refute it at one input. -/
def probeOnceWrong : ChangeSpec := { name := "probeOnce", fn := fun _ => fun
  | [d1, d2, d3] => { results := [.lit (.bool false)], args := [d1, d2, d3] }
  | _ => none }
def ProbeOnceWrongFalsely : Prop := probeOnceRow.holds Try.pinned (OpenSpec.ofChange probeOnceWrong)

/-- 'lexiconlaw9.StrollNothing': WHATEVER THE INPUT: true; the input reads as it did. -/
def strollNothingSpec : ChangeSpec := { name := "strollNothing", fn := fun _ => fun
  | [d1, d2] => { results := [.lit (.bool true)], args := [d1, d2] }
  | _ => none }
def strollNothingRow : OpenClaim := { program := "ytbbkljgeddjghaa", sum := "60901398a7dd1efca24b004aa1eeb19bb431ab38b1c2e534464812806a273702", func := "lexicon/lexiconlaw9.StrollNothing", spec := "strollNothing", inPlace := ["sync/atomic.AddInt64"], unfollowed := true, recurses := true, apart := false }
def StrollNothingSaid : Prop := strollNothingRow.holds Try.pinned (OpenSpec.ofChange strollNothingSpec)

/-- ITS FALSE NEIGHBOUR: 'it returns false'. Refute it at one input. -/
def strollNothingWrong : ChangeSpec := { name := "strollNothing", fn := fun _ => fun
  | [d1, d2] => { results := [.lit (.bool false)], args := [d1, d2] }
  | _ => none }
def StrollNothingWrongFalsely : Prop := strollNothingRow.holds Try.pinned (OpenSpec.ofChange strollNothingWrong)

/-- 'lexiconlaw9.StrollWhole': WHATEVER THE INPUT: true; the input reads as it did. -/
def strollWholeSpec : ChangeSpec := { name := "strollWhole", fn := fun _ => fun
  | [d1, d2, d3] => { results := [.lit (.bool true)], args := [d1, d2, d3] }
  | _ => none }
def strollWholeRow : OpenClaim := { program := "ytbbkljgeddjghaa", sum := "60901398a7dd1efca24b004aa1eeb19bb431ab38b1c2e534464812806a273702", func := "lexicon/lexiconlaw9.StrollWhole", spec := "strollWhole", inPlace := ["sync/atomic.AddInt64"], unfollowed := true, recurses := true, apart := false }
def StrollWholeSaid : Prop := strollWholeRow.holds Try.pinned (OpenSpec.ofChange strollWholeSpec)

/-- ITS FALSE NEIGHBOUR: 'it returns false'. Refute it at one input. -/
def strollWholeWrong : ChangeSpec := { name := "strollWhole", fn := fun _ => fun
  | [d1, d2, d3] => { results := [.lit (.bool false)], args := [d1, d2, d3] }
  | _ => none }
def StrollWholeWrongFalsely : Prop := strollWholeRow.holds Try.pinned (OpenSpec.ofChange strollWholeWrong)

/-- 'lexiconlaw9.StrollMoves': WHATEVER THE INPUT: true; the input reads as it did. -/
def strollMovesSpec : ChangeSpec := { name := "strollMoves", fn := fun _ => fun
  | [d1, d2, d3, d4, d5] => { results := [.lit (.bool true)], args := [d1, d2, d3, d4, d5] }
  | _ => none }
def strollMovesRow : OpenClaim := { program := "ytbbkljgeddjghaa", sum := "60901398a7dd1efca24b004aa1eeb19bb431ab38b1c2e534464812806a273702", func := "lexicon/lexiconlaw9.StrollMoves", spec := "strollMoves", inPlace := ["sync/atomic.AddInt64"], unfollowed := true, recurses := true, apart := false }
def StrollMovesSaid : Prop := strollMovesRow.holds Try.pinned (OpenSpec.ofChange strollMovesSpec)

/-- ITS FALSE NEIGHBOUR: 'it returns false'. Refute it at one input. -/
def strollMovesWrong : ChangeSpec := { name := "strollMoves", fn := fun _ => fun
  | [d1, d2, d3, d4, d5] => { results := [.lit (.bool false)], args := [d1, d2, d3, d4, d5] }
  | _ => none }
def StrollMovesWrongFalsely : Prop := strollMovesRow.holds Try.pinned (OpenSpec.ofChange strollMovesWrong)

/-- 'lexiconlaw8.ProbeModel': WHATEVER THE INPUT: true; the input reads as it did. -/
def probeModelSpec : ChangeSpec := { name := "probeModel", fn := fun _ => fun
  | [d1, d2, d3, d4] => { results := [.lit (.bool true)], args := [d1, d2, d3, d4] }
  | _ => none }
def probeModelRow : OpenClaim := { program := "ytbbkljgeddjghaa", sum := "60901398a7dd1efca24b004aa1eeb19bb431ab38b1c2e534464812806a273702", func := "lexicon/lexiconlaw8.ProbeModel", spec := "probeModel", inPlace := ["sync/atomic.AddInt64"], unfollowed := true, recurses := true, apart := false }
def ProbeModelSaid : Prop := probeModelRow.holds Try.pinned (OpenSpec.ofChange probeModelSpec)

/-- ITS FALSE NEIGHBOUR: 'it returns false'. Refute it at one input. -/
def probeModelWrong : ChangeSpec := { name := "probeModel", fn := fun _ => fun
  | [d1, d2, d3, d4] => { results := [.lit (.bool false)], args := [d1, d2, d3, d4] }
  | _ => none }
def ProbeModelWrongFalsely : Prop := probeModelRow.holds Try.pinned (OpenSpec.ofChange probeModelWrong)

/-- 'lexiconlaw8.ProbeNothing': WHATEVER THE INPUT: true; the input reads as it did. -/
def probeNothingSpec : ChangeSpec := { name := "probeNothing", fn := fun _ => fun
  | [d] => { results := [.lit (.bool true)], args := [d] }
  | _ => none }
def probeNothingRow : OpenClaim := { program := "ytbbkljgeddjghaa", sum := "60901398a7dd1efca24b004aa1eeb19bb431ab38b1c2e534464812806a273702", func := "lexicon/lexiconlaw8.ProbeNothing", spec := "probeNothing", inPlace := ["sync/atomic.AddInt64"], unfollowed := true, recurses := true, apart := false }
def ProbeNothingSaid : Prop := probeNothingRow.holds Try.pinned (OpenSpec.ofChange probeNothingSpec)

/-- ITS FALSE NEIGHBOUR: 'it returns false'. Refute it at one input. -/
def probeNothingWrong : ChangeSpec := { name := "probeNothing", fn := fun _ => fun
  | [d] => { results := [.lit (.bool false)], args := [d] }
  | _ => none }
def ProbeNothingWrongFalsely : Prop := probeNothingRow.holds Try.pinned (OpenSpec.ofChange probeNothingWrong)

/- THE SECOND FORM. 'bulk': how many values and letters a reading holds, each counted each time it is reached (what is shared counts as often as it is met; a slice's spare places count too). A statement '..UptoSaid' is the law's where the arguments, and the package variables that the reading takes, are together of bulk at most 1048576: NARROWER than '..Said'. Prove '..Said' where nothing that the law and all that it calls make is longer than what came in: it says more and counts as full. Else prove '..UptoSaid'. A law counts once. -/
mutual
def uptoBulk {H : Type} : DataW H → Nat
  | .lit (.string bytes) => bytes.length + 1
  | .lit _ => 1
  | .nil => 1
  | .ptr d => uptoBulk d + 1
  | .slice elems spare => uptoBulkAll elems + uptoBulkAll spare + 1
  | .agg parts => uptoBulkAll parts + 1
  | .iface _ d => uptoBulk d + 1
  | .map entries => uptoBulkEntries entries + 1
  | .held _ => 1
def uptoBulkAll {H : Type} : List (DataW H) → Nat
  | [] => 0
  | d :: r => uptoBulk d + uptoBulkAll r
def uptoBulkEntries {H : Type} : List (Lit × DataW H) → Nat
  | [] => 0
  | x :: r => uptoBulkEntry x + uptoBulkEntries r
def uptoBulkEntry {H : Type} : Lit × DataW H → Nat
  | (.string bytes, d) => bytes.length + uptoBulk d + 1
  | (_, d) => uptoBulk d + 1
 end
def uptoSmall : (H : Type) → List (DataW H) → Bool := fun _ ds => decide (uptoBulkAll ds ≤ 1048576)
def OpenSpec.upto (s : _root_.Go.ChangeSpec) : _root_.Go.OpenSpec := { _root_.Go.OpenSpec.ofChange s with cond := some uptoSmall }

/-- 'lexiconlaw7.TableRoom', WHERE WHAT IT READS IS OF BULK AT MOST 1048576: true; the input reads as it did. -/
def tableRoomUptoRow : OpenClaim := { program := "ytbbkljgeddjghaa", sum := "60901398a7dd1efca24b004aa1eeb19bb431ab38b1c2e534464812806a273702", func := "lexicon/lexiconlaw7.TableRoom", spec := "tableRoom", inPlace := ["sync/atomic.AddInt64"], unfollowed := true, recurses := true, apart := false, narrowed := true }
def TableRoomUptoSaid : Prop := tableRoomUptoRow.holds Try.pinned (OpenSpec.upto tableRoomSpec)

/-- 'lexiconlaw7.TableOwn', WHERE WHAT IT READS IS OF BULK AT MOST 1048576: true; the input reads as it did. -/
def tableOwnUptoRow : OpenClaim := { program := "ytbbkljgeddjghaa", sum := "60901398a7dd1efca24b004aa1eeb19bb431ab38b1c2e534464812806a273702", func := "lexicon/lexiconlaw7.TableOwn", spec := "tableOwn", inPlace := ["sync/atomic.AddInt64"], unfollowed := true, recurses := true, apart := false, narrowed := true }
def TableOwnUptoSaid : Prop := tableOwnUptoRow.holds Try.pinned (OpenSpec.upto tableOwnSpec)

/-- 'lexiconlaw7.TableKeeps', WHERE WHAT IT READS IS OF BULK AT MOST 1048576: true; the input reads as it did. -/
def tableKeepsUptoRow : OpenClaim := { program := "ytbbkljgeddjghaa", sum := "60901398a7dd1efca24b004aa1eeb19bb431ab38b1c2e534464812806a273702", func := "lexicon/lexiconlaw7.TableKeeps", spec := "tableKeeps", inPlace := ["sync/atomic.AddInt64"], unfollowed := true, recurses := true, apart := false, narrowed := true }
def TableKeepsUptoSaid : Prop := tableKeepsUptoRow.holds Try.pinned (OpenSpec.upto tableKeepsSpec)

/-- 'lexiconlaw7.TableSeeks', WHERE WHAT IT READS IS OF BULK AT MOST 1048576: true; the input reads as it did. -/
def tableSeeksUptoRow : OpenClaim := { program := "ytbbkljgeddjghaa", sum := "60901398a7dd1efca24b004aa1eeb19bb431ab38b1c2e534464812806a273702", func := "lexicon/lexiconlaw7.TableSeeks", spec := "tableSeeks", inPlace := ["sync/atomic.AddInt64"], unfollowed := true, recurses := true, apart := false, narrowed := true }
def TableSeeksUptoSaid : Prop := tableSeeksUptoRow.holds Try.pinned (OpenSpec.upto tableSeeksSpec)

/-- 'lexiconlaw7.TableOnce', WHERE WHAT IT READS IS OF BULK AT MOST 1048576: true; the input reads as it did. -/
def tableOnceUptoRow : OpenClaim := { program := "ytbbkljgeddjghaa", sum := "60901398a7dd1efca24b004aa1eeb19bb431ab38b1c2e534464812806a273702", func := "lexicon/lexiconlaw7.TableOnce", spec := "tableOnce", inPlace := ["sync/atomic.AddInt64"], unfollowed := true, recurses := true, apart := false, narrowed := true }
def TableOnceUptoSaid : Prop := tableOnceUptoRow.holds Try.pinned (OpenSpec.upto tableOnceSpec)

/-- 'lexiconlaw7.TablePlays', WHERE WHAT IT READS IS OF BULK AT MOST 1048576: true; the input reads as it did. -/
def tablePlaysUptoRow : OpenClaim := { program := "ytbbkljgeddjghaa", sum := "60901398a7dd1efca24b004aa1eeb19bb431ab38b1c2e534464812806a273702", func := "lexicon/lexiconlaw7.TablePlays", spec := "tablePlays", inPlace := ["sync/atomic.AddInt64"], unfollowed := true, recurses := true, apart := false, narrowed := true }
def TablePlaysUptoSaid : Prop := tablePlaysUptoRow.holds Try.pinned (OpenSpec.upto tablePlaysSpec)

/-- 'lexiconlaw7.TableTwo', WHERE WHAT IT READS IS OF BULK AT MOST 1048576: true; the input reads as it did. -/
def tableTwoUptoRow : OpenClaim := { program := "ytbbkljgeddjghaa", sum := "60901398a7dd1efca24b004aa1eeb19bb431ab38b1c2e534464812806a273702", func := "lexicon/lexiconlaw7.TableTwo", spec := "tableTwo", inPlace := ["sync/atomic.AddInt64"], unfollowed := true, recurses := true, apart := false, narrowed := true }
def TableTwoUptoSaid : Prop := tableTwoUptoRow.holds Try.pinned (OpenSpec.upto tableTwoSpec)

/-- 'lexiconlaw7.TableMeters', WHERE WHAT IT READS IS OF BULK AT MOST 1048576: true; the input reads as it did. -/
def tableMetersUptoRow : OpenClaim := { program := "ytbbkljgeddjghaa", sum := "60901398a7dd1efca24b004aa1eeb19bb431ab38b1c2e534464812806a273702", func := "lexicon/lexiconlaw7.TableMeters", spec := "tableMeters", inPlace := ["sync/atomic.AddInt64", "sync/atomic.LoadInt64"], unfollowed := true, recurses := true, apart := false, narrowed := true }
def TableMetersUptoSaid : Prop := tableMetersUptoRow.holds Try.pinned (OpenSpec.upto tableMetersSpec)

/-- 'lexiconlaw7.TableGoes', WHERE WHAT IT READS IS OF BULK AT MOST 1048576: true; the input reads as it did. -/
def tableGoesUptoRow : OpenClaim := { program := "ytbbkljgeddjghaa", sum := "60901398a7dd1efca24b004aa1eeb19bb431ab38b1c2e534464812806a273702", func := "lexicon/lexiconlaw7.TableGoes", spec := "tableGoes", inPlace := ["sync/atomic.AddInt64"], unfollowed := true, recurses := true, apart := false, narrowed := true }
def TableGoesUptoSaid : Prop := tableGoesUptoRow.holds Try.pinned (OpenSpec.upto tableGoesSpec)

/-- 'lexiconlaw7.TableNothing', WHERE WHAT IT READS IS OF BULK AT MOST 1048576: true; the input reads as it did. -/
def tableNothingUptoRow : OpenClaim := { program := "ytbbkljgeddjghaa", sum := "60901398a7dd1efca24b004aa1eeb19bb431ab38b1c2e534464812806a273702", func := "lexicon/lexiconlaw7.TableNothing", spec := "tableNothing", inPlace := ["sync/atomic.AddInt64"], unfollowed := true, recurses := true, apart := false, narrowed := true }
def TableNothingUptoSaid : Prop := tableNothingUptoRow.holds Try.pinned (OpenSpec.upto tableNothingSpec)

/-- 'lexiconlaw8.ProbeOwn', WHERE WHAT IT READS IS OF BULK AT MOST 1048576: true; the input reads as it did. -/
def probeOwnUptoRow : OpenClaim := { program := "ytbbkljgeddjghaa", sum := "60901398a7dd1efca24b004aa1eeb19bb431ab38b1c2e534464812806a273702", func := "lexicon/lexiconlaw8.ProbeOwn", spec := "probeOwn", inPlace := ["sync/atomic.AddInt64"], unfollowed := true, recurses := true, apart := false, narrowed := true }
def ProbeOwnUptoSaid : Prop := probeOwnUptoRow.holds Try.pinned (OpenSpec.upto probeOwnSpec)

/-- 'lexiconlaw8.ProbeFull', WHERE WHAT IT READS IS OF BULK AT MOST 1048576: true; the input reads as it did. -/
def probeFullUptoRow : OpenClaim := { program := "ytbbkljgeddjghaa", sum := "60901398a7dd1efca24b004aa1eeb19bb431ab38b1c2e534464812806a273702", func := "lexicon/lexiconlaw8.ProbeFull", spec := "probeFull", inPlace := ["sync/atomic.AddInt64"], unfollowed := true, recurses := true, apart := false, narrowed := true }
def ProbeFullUptoSaid : Prop := probeFullUptoRow.holds Try.pinned (OpenSpec.upto probeFullSpec)

/-- 'lexiconlaw8.ProbeOnce', WHERE WHAT IT READS IS OF BULK AT MOST 1048576: true; the input reads as it did. -/
def probeOnceUptoRow : OpenClaim := { program := "ytbbkljgeddjghaa", sum := "60901398a7dd1efca24b004aa1eeb19bb431ab38b1c2e534464812806a273702", func := "lexicon/lexiconlaw8.ProbeOnce", spec := "probeOnce", inPlace := ["sync/atomic.AddInt64"], unfollowed := true, recurses := true, apart := false, narrowed := true }
def ProbeOnceUptoSaid : Prop := probeOnceUptoRow.holds Try.pinned (OpenSpec.upto probeOnceSpec)

/-- 'lexiconlaw9.StrollNothing', WHERE WHAT IT READS IS OF BULK AT MOST 1048576: true; the input reads as it did. -/
def strollNothingUptoRow : OpenClaim := { program := "ytbbkljgeddjghaa", sum := "60901398a7dd1efca24b004aa1eeb19bb431ab38b1c2e534464812806a273702", func := "lexicon/lexiconlaw9.StrollNothing", spec := "strollNothing", inPlace := ["sync/atomic.AddInt64"], unfollowed := true, recurses := true, apart := false, narrowed := true }
def StrollNothingUptoSaid : Prop := strollNothingUptoRow.holds Try.pinned (OpenSpec.upto strollNothingSpec)

/-- 'lexiconlaw9.StrollWhole', WHERE WHAT IT READS IS OF BULK AT MOST 1048576: true; the input reads as it did. -/
def strollWholeUptoRow : OpenClaim := { program := "ytbbkljgeddjghaa", sum := "60901398a7dd1efca24b004aa1eeb19bb431ab38b1c2e534464812806a273702", func := "lexicon/lexiconlaw9.StrollWhole", spec := "strollWhole", inPlace := ["sync/atomic.AddInt64"], unfollowed := true, recurses := true, apart := false, narrowed := true }
def StrollWholeUptoSaid : Prop := strollWholeUptoRow.holds Try.pinned (OpenSpec.upto strollWholeSpec)

/-- 'lexiconlaw9.StrollMoves', WHERE WHAT IT READS IS OF BULK AT MOST 1048576: true; the input reads as it did. -/
def strollMovesUptoRow : OpenClaim := { program := "ytbbkljgeddjghaa", sum := "60901398a7dd1efca24b004aa1eeb19bb431ab38b1c2e534464812806a273702", func := "lexicon/lexiconlaw9.StrollMoves", spec := "strollMoves", inPlace := ["sync/atomic.AddInt64"], unfollowed := true, recurses := true, apart := false, narrowed := true }
def StrollMovesUptoSaid : Prop := strollMovesUptoRow.holds Try.pinned (OpenSpec.upto strollMovesSpec)

/-- 'lexiconlaw8.ProbeModel', WHERE WHAT IT READS IS OF BULK AT MOST 1048576: true; the input reads as it did. -/
def probeModelUptoRow : OpenClaim := { program := "ytbbkljgeddjghaa", sum := "60901398a7dd1efca24b004aa1eeb19bb431ab38b1c2e534464812806a273702", func := "lexicon/lexiconlaw8.ProbeModel", spec := "probeModel", inPlace := ["sync/atomic.AddInt64"], unfollowed := true, recurses := true, apart := false, narrowed := true }
def ProbeModelUptoSaid : Prop := probeModelUptoRow.holds Try.pinned (OpenSpec.upto probeModelSpec)

/-- 'lexiconlaw8.ProbeNothing', WHERE WHAT IT READS IS OF BULK AT MOST 1048576: true; the input reads as it did. -/
def probeNothingUptoRow : OpenClaim := { program := "ytbbkljgeddjghaa", sum := "60901398a7dd1efca24b004aa1eeb19bb431ab38b1c2e534464812806a273702", func := "lexicon/lexiconlaw8.ProbeNothing", spec := "probeNothing", inPlace := ["sync/atomic.AddInt64"], unfollowed := true, recurses := true, apart := false, narrowed := true }
def ProbeNothingUptoSaid : Prop := probeNothingUptoRow.holds Try.pinned (OpenSpec.upto probeNothingSpec)

end Rows
end Go.Proofs.Ytbbkljgeddjghaa
