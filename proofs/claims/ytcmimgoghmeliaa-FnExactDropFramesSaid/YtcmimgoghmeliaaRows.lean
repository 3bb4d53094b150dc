/-
  No cell of these rows narrows 'for every input' (looked for: loops, veiled, ifaces, maps, wideKeys, modest, calm, conditions, laid).
  DERIVED. THE GIVEN ROWS OF THIS SEAT. 12 by the template 'for every input the law returns true; each argument reads behind the call as it read before'; 0 by the template 'total and deterministic' (their statements: YtcmimgoghmeliaaTotals.lean).
  GIVEN WITH THE SEED: the statements are not yours to turn. If you find one false, say at which input.
  Laid BY PROGRAM, IN A SANDBOX (cutbox-rows.mjs): the forced cells as the released guide's own fill.sh prints them over the translation 795fb6d8d0b1d0d8… (all of the seat's roots in one cut). By AI agents, Wed Nov 11 2026. No macro, syntax, notation, axiom, sorry.
-/
import Derived.Test.YtcmimgoghmeliaaChecked
import GoSem.Claim
import GoSem.ClaimJoined
import GoSem.ClaimMapViews
import Derived.JoinedTies
import Derived.KernelRfl
namespace Go.Proofs.Ytcmimgoghmeliaa
/- THE CELL 'sum', in the pinned program and in every row, IS THE sha256 OF THE DUMP (.gsa) THAT YtcmimgoghmeliaaProg.lean LOADS. Nothing in Lean hashes anything: it is a label: what it is worth is what the hold of that sum in a sandbox is worth. -/
noncomputable def Try.pinned : Pinned := { name := "ytcmimgoghmeliaa", sum := "795fb6d8d0b1d0d85d0fb12413483914cd74b848124b6c73661a31acb6c7be9e", checked := Try.checked }
namespace Rows
def none {H : Type} : Left H := { results := [], args := [] }

/-- 'laws.FnExactLaneNew': WHATEVER THE INPUT: true; the input reads as it did. -/
def fnExactLaneNewSpec : ChangeSpec := { name := "fnExactLaneNew", fn := fun _ => fun
  | [d] => { results := [.lit (.bool true)], args := [d] }
  | _ => none }
def fnExactLaneNewRow : OpenClaim := { program := "ytcmimgoghmeliaa", sum := "795fb6d8d0b1d0d85d0fb12413483914cd74b848124b6c73661a31acb6c7be9e", func := "loop.example/g00985/laws.FnExactLaneNew", spec := "fnExactLaneNew", apart := false }
def FnExactLaneNewSaid : Prop := fnExactLaneNewRow.holds Try.pinned (OpenSpec.ofChange fnExactLaneNewSpec)

/-- ITS FALSE NEIGHBOUR: 'it returns false'. Refute it at one input. -/
def fnExactLaneNewWrong : ChangeSpec := { name := "fnExactLaneNew", fn := fun _ => fun
  | [d] => { results := [.lit (.bool false)], args := [d] }
  | _ => none }
def FnExactLaneNewWrongFalsely : Prop := fnExactLaneNewRow.holds Try.pinned (OpenSpec.ofChange fnExactLaneNewWrong)

/-- 'laws.FnExactActiveMask': WHATEVER THE INPUT: true; the input reads as it did. -/
def fnExactActiveMaskSpec : ChangeSpec := { name := "fnExactActiveMask", fn := fun _ => fun
  | [d] => { results := [.lit (.bool true)], args := [d] }
  | _ => none }
def fnExactActiveMaskRow : OpenClaim := { program := "ytcmimgoghmeliaa", sum := "795fb6d8d0b1d0d85d0fb12413483914cd74b848124b6c73661a31acb6c7be9e", func := "loop.example/g00985/laws.FnExactActiveMask", spec := "fnExactActiveMask", apart := false }
def FnExactActiveMaskSaid : Prop := fnExactActiveMaskRow.holds Try.pinned (OpenSpec.ofChange fnExactActiveMaskSpec)

/-- ITS FALSE NEIGHBOUR: 'it returns false'. Refute it at one input. -/
def fnExactActiveMaskWrong : ChangeSpec := { name := "fnExactActiveMask", fn := fun _ => fun
  | [d] => { results := [.lit (.bool false)], args := [d] }
  | _ => none }
def FnExactActiveMaskWrongFalsely : Prop := fnExactActiveMaskRow.holds Try.pinned (OpenSpec.ofChange fnExactActiveMaskWrong)

/-- 'laws.FnExactSameWarp': WHATEVER THE INPUT: true; the input reads as it did. -/
def fnExactSameWarpSpec : ChangeSpec := { name := "fnExactSameWarp", fn := fun _ => fun
  | [d1, d2] => { results := [.lit (.bool true)], args := [d1, d2] }
  | _ => none }
def fnExactSameWarpRow : OpenClaim := { program := "ytcmimgoghmeliaa", sum := "795fb6d8d0b1d0d85d0fb12413483914cd74b848124b6c73661a31acb6c7be9e", func := "loop.example/g00985/laws.FnExactSameWarp", spec := "fnExactSameWarp", apart := false }
def FnExactSameWarpSaid : Prop := fnExactSameWarpRow.holds Try.pinned (OpenSpec.ofChange fnExactSameWarpSpec)

/-- ITS FALSE NEIGHBOUR: 'it returns false'. Refute it at one input. -/
def fnExactSameWarpWrong : ChangeSpec := { name := "fnExactSameWarp", fn := fun _ => fun
  | [d1, d2] => { results := [.lit (.bool false)], args := [d1, d2] }
  | _ => none }
def FnExactSameWarpWrongFalsely : Prop := fnExactSameWarpRow.holds Try.pinned (OpenSpec.ofChange fnExactSameWarpWrong)

/-- 'laws.FnShuffles': WHATEVER THE INPUT: true; the input reads as it did. -/
def fnShufflesSpec : ChangeSpec := { name := "fnShuffles", fn := fun _ => fun
  | [d] => { results := [.lit (.bool true)], args := [d] }
  | _ => none }
def fnShufflesRow : OpenClaim := { program := "ytcmimgoghmeliaa", sum := "795fb6d8d0b1d0d85d0fb12413483914cd74b848124b6c73661a31acb6c7be9e", func := "loop.example/g00985/laws.FnShuffles", spec := "fnShuffles", unfollowed := true, recurses := true, apart := false }
def FnShufflesSaid : Prop := fnShufflesRow.holds Try.pinned (OpenSpec.ofChange fnShufflesSpec)

/-- ITS FALSE NEIGHBOUR: 'it returns false'. Refute it at one input. -/
def fnShufflesWrong : ChangeSpec := { name := "fnShuffles", fn := fun _ => fun
  | [d] => { results := [.lit (.bool false)], args := [d] }
  | _ => none }
def FnShufflesWrongFalsely : Prop := fnShufflesRow.holds Try.pinned (OpenSpec.ofChange fnShufflesWrong)

/-- 'laws.FnVotes': WHATEVER THE INPUT: true; the input reads as it did. -/
def fnVotesSpec : ChangeSpec := { name := "fnVotes", fn := fun _ => fun
  | [d] => { results := [.lit (.bool true)], args := [d] }
  | _ => none }
def fnVotesRow : OpenClaim := { program := "ytcmimgoghmeliaa", sum := "795fb6d8d0b1d0d85d0fb12413483914cd74b848124b6c73661a31acb6c7be9e", func := "loop.example/g00985/laws.FnVotes", spec := "fnVotes", unfollowed := true, recurses := true, apart := false }
def FnVotesSaid : Prop := fnVotesRow.holds Try.pinned (OpenSpec.ofChange fnVotesSpec)

/-- ITS FALSE NEIGHBOUR: 'it returns false'. Refute it at one input. -/
def fnVotesWrong : ChangeSpec := { name := "fnVotes", fn := fun _ => fun
  | [d] => { results := [.lit (.bool false)], args := [d] }
  | _ => none }
def FnVotesWrongFalsely : Prop := fnVotesRow.holds Try.pinned (OpenSpec.ofChange fnVotesWrong)

/-- 'laws.FnExactCanPredicate': WHATEVER THE INPUT: true; the input reads as it did. -/
def fnExactCanPredicateSpec : ChangeSpec := { name := "fnExactCanPredicate", fn := fun _ => fun
  | [d1, d2] => { results := [.lit (.bool true)], args := [d1, d2] }
  | _ => none }
def fnExactCanPredicateRow : OpenClaim := { program := "ytcmimgoghmeliaa", sum := "795fb6d8d0b1d0d85d0fb12413483914cd74b848124b6c73661a31acb6c7be9e", func := "loop.example/g00985/laws.FnExactCanPredicate", spec := "fnExactCanPredicate", unfollowed := true, recurses := true, apart := false }
def FnExactCanPredicateSaid : Prop := fnExactCanPredicateRow.holds Try.pinned (OpenSpec.ofChange fnExactCanPredicateSpec)

/-- ITS FALSE NEIGHBOUR: 'it returns false'. Refute it at one input. -/
def fnExactCanPredicateWrong : ChangeSpec := { name := "fnExactCanPredicate", fn := fun _ => fun
  | [d1, d2] => { results := [.lit (.bool false)], args := [d1, d2] }
  | _ => none }
def FnExactCanPredicateWrongFalsely : Prop := fnExactCanPredicateRow.holds Try.pinned (OpenSpec.ofChange fnExactCanPredicateWrong)

/-- 'laws.FnExactLaneRegs': WHATEVER THE INPUT: true; the input reads as it did. -/
def fnExactLaneRegsSpec : ChangeSpec := { name := "fnExactLaneRegs", fn := fun _ => fun
  | [d1, d2] => { results := [.lit (.bool true)], args := [d1, d2] }
  | _ => none }
def fnExactLaneRegsRow : OpenClaim := { program := "ytcmimgoghmeliaa", sum := "795fb6d8d0b1d0d85d0fb12413483914cd74b848124b6c73661a31acb6c7be9e", func := "loop.example/g00985/laws.FnExactLaneRegs", spec := "fnExactLaneRegs", apart := false }
def FnExactLaneRegsSaid : Prop := fnExactLaneRegsRow.holds Try.pinned (OpenSpec.ofChange fnExactLaneRegsSpec)

/-- ITS FALSE NEIGHBOUR: 'it returns false'. Refute it at one input. -/
def fnExactLaneRegsWrong : ChangeSpec := { name := "fnExactLaneRegs", fn := fun _ => fun
  | [d1, d2] => { results := [.lit (.bool false)], args := [d1, d2] }
  | _ => none }
def FnExactLaneRegsWrongFalsely : Prop := fnExactLaneRegsRow.holds Try.pinned (OpenSpec.ofChange fnExactLaneRegsWrong)

/-- 'laws.FnExactZeroMask': WHATEVER THE INPUT: true; the input reads as it did. -/
def fnExactZeroMaskSpec : ChangeSpec := { name := "fnExactZeroMask", fn := fun _ => fun
  | [d1, d2] => { results := [.lit (.bool true)], args := [d1, d2] }
  | _ => none }
def fnExactZeroMaskRow : OpenClaim := { program := "ytcmimgoghmeliaa", sum := "795fb6d8d0b1d0d85d0fb12413483914cd74b848124b6c73661a31acb6c7be9e", func := "loop.example/g00985/laws.FnExactZeroMask", spec := "fnExactZeroMask", apart := false }
def FnExactZeroMaskSaid : Prop := fnExactZeroMaskRow.holds Try.pinned (OpenSpec.ofChange fnExactZeroMaskSpec)

/-- ITS FALSE NEIGHBOUR: 'it returns false'. Refute it at one input. -/
def fnExactZeroMaskWrong : ChangeSpec := { name := "fnExactZeroMask", fn := fun _ => fun
  | [d1, d2] => { results := [.lit (.bool false)], args := [d1, d2] }
  | _ => none }
def FnExactZeroMaskWrongFalsely : Prop := fnExactZeroMaskRow.holds Try.pinned (OpenSpec.ofChange fnExactZeroMaskWrong)

/-- 'laws.FnExactLaneOk': WHATEVER THE INPUT: true; the input reads as it did. -/
def fnExactLaneOkSpec : ChangeSpec := { name := "fnExactLaneOk", fn := fun _ => fun
  | [d1, d2] => { results := [.lit (.bool true)], args := [d1, d2] }
  | _ => none }
def fnExactLaneOkRow : OpenClaim := { program := "ytcmimgoghmeliaa", sum := "795fb6d8d0b1d0d85d0fb12413483914cd74b848124b6c73661a31acb6c7be9e", func := "loop.example/g00985/laws.FnExactLaneOk", spec := "fnExactLaneOk", unfollowed := true, recurses := true, apart := false }
def FnExactLaneOkSaid : Prop := fnExactLaneOkRow.holds Try.pinned (OpenSpec.ofChange fnExactLaneOkSpec)

/-- ITS FALSE NEIGHBOUR: 'it returns false'. Refute it at one input. -/
def fnExactLaneOkWrong : ChangeSpec := { name := "fnExactLaneOk", fn := fun _ => fun
  | [d1, d2] => { results := [.lit (.bool false)], args := [d1, d2] }
  | _ => none }
def FnExactLaneOkWrongFalsely : Prop := fnExactLaneOkRow.holds Try.pinned (OpenSpec.ofChange fnExactLaneOkWrong)

/-- 'laws.FnExactLaneEnded': WHATEVER THE INPUT: true; the input reads as it did. -/
def fnExactLaneEndedSpec : ChangeSpec := { name := "fnExactLaneEnded", fn := fun _ => fun
  | [d1, d2] => { results := [.lit (.bool true)], args := [d1, d2] }
  | _ => none }
def fnExactLaneEndedRow : OpenClaim := { program := "ytcmimgoghmeliaa", sum := "795fb6d8d0b1d0d85d0fb12413483914cd74b848124b6c73661a31acb6c7be9e", func := "loop.example/g00985/laws.FnExactLaneEnded", spec := "fnExactLaneEnded", unfollowed := true, recurses := true, apart := false }
def FnExactLaneEndedSaid : Prop := fnExactLaneEndedRow.holds Try.pinned (OpenSpec.ofChange fnExactLaneEndedSpec)

/-- ITS FALSE NEIGHBOUR: 'it returns false'. Refute it at one input. -/
def fnExactLaneEndedWrong : ChangeSpec := { name := "fnExactLaneEnded", fn := fun _ => fun
  | [d1, d2] => { results := [.lit (.bool false)], args := [d1, d2] }
  | _ => none }
def FnExactLaneEndedWrongFalsely : Prop := fnExactLaneEndedRow.holds Try.pinned (OpenSpec.ofChange fnExactLaneEndedWrong)

/-- 'laws.FnExactPredicate': WHATEVER THE INPUT: true; the input reads as it did. -/
def fnExactPredicateSpec : ChangeSpec := { name := "fnExactPredicate", fn := fun _ => fun
  | [d1, d2] => { results := [.lit (.bool true)], args := [d1, d2] }
  | _ => none }
def fnExactPredicateRow : OpenClaim := { program := "ytcmimgoghmeliaa", sum := "795fb6d8d0b1d0d85d0fb12413483914cd74b848124b6c73661a31acb6c7be9e", func := "loop.example/g00985/laws.FnExactPredicate", spec := "fnExactPredicate", unfollowed := true, recurses := true, apart := false }
def FnExactPredicateSaid : Prop := fnExactPredicateRow.holds Try.pinned (OpenSpec.ofChange fnExactPredicateSpec)

/-- ITS FALSE NEIGHBOUR: 'it returns false'. Refute it at one input. -/
def fnExactPredicateWrong : ChangeSpec := { name := "fnExactPredicate", fn := fun _ => fun
  | [d1, d2] => { results := [.lit (.bool false)], args := [d1, d2] }
  | _ => none }
def FnExactPredicateWrongFalsely : Prop := fnExactPredicateRow.holds Try.pinned (OpenSpec.ofChange fnExactPredicateWrong)

/-- 'laws.FnExactDropFrames': WHATEVER THE INPUT: true; the input reads as it did. -/
def fnExactDropFramesSpec : ChangeSpec := { name := "fnExactDropFrames", fn := fun _ => fun
  | [d1, d2] => { results := [.lit (.bool true)], args := [d1, d2] }
  | _ => none }
def fnExactDropFramesRow : OpenClaim := { program := "ytcmimgoghmeliaa", sum := "795fb6d8d0b1d0d85d0fb12413483914cd74b848124b6c73661a31acb6c7be9e", func := "loop.example/g00985/laws.FnExactDropFrames", spec := "fnExactDropFrames", apart := false }
def FnExactDropFramesSaid : Prop := fnExactDropFramesRow.holds Try.pinned (OpenSpec.ofChange fnExactDropFramesSpec)

/-- ITS FALSE NEIGHBOUR: 'it returns false'. Refute it at one input. -/
def fnExactDropFramesWrong : ChangeSpec := { name := "fnExactDropFrames", fn := fun _ => fun
  | [d1, d2] => { results := [.lit (.bool false)], args := [d1, d2] }
  | _ => none }
def FnExactDropFramesWrongFalsely : Prop := fnExactDropFramesRow.holds Try.pinned (OpenSpec.ofChange fnExactDropFramesWrong)

/- THE SECOND FORM. 'bulk': how many values and letters a reading holds, each counted each time it is reached (what is shared counts as often as it is met; a slice's spare places count too). A statement '..UptoSaid' is the law's where the arguments, and the package variables that the reading takes, are together of bulk at most 1048576: NARROWER than '..Said'. Prove '..Said' where nothing that the law and all that it calls make is longer than what came in: it says more and counts as full. Else prove '..UptoSaid'. A law counts once. -/
mutual
def uptoBulk {H : Type} : DataW H → Nat
  | .lit (.string bytes) => bytes.length + 1
  | .lit _ => 1
  | .nil => 1
  | .ptr d => uptoBulk d + 1
  | .slice elems spare => uptoBulkAll elems + uptoBulkAll spare + 1
  | .agg parts => uptoBulkAll parts + 1
  | .iface _ d => uptoBulk d + 1
  | .map entries => uptoBulkEntries entries + 1
  | .held _ => 1
def uptoBulkAll {H : Type} : List (DataW H) → Nat
  | [] => 0
  | d :: r => uptoBulk d + uptoBulkAll r
def uptoBulkEntries {H : Type} : List (Lit × DataW H) → Nat
  | [] => 0
  | x :: r => uptoBulkEntry x + uptoBulkEntries r
def uptoBulkEntry {H : Type} : Lit × DataW H → Nat
  | (.string bytes, d) => bytes.length + uptoBulk d + 1
  | (_, d) => uptoBulk d + 1
 end
def uptoSmall : (H : Type) → List (DataW H) → Bool := fun _ ds => decide (uptoBulkAll ds ≤ 1048576)
def OpenSpec.upto (s : _root_.Go.ChangeSpec) : _root_.Go.OpenSpec := { _root_.Go.OpenSpec.ofChange s with cond := some uptoSmall }

/-- 'laws.FnExactLaneNew', WHERE WHAT IT READS IS OF BULK AT MOST 1048576: true; the input reads as it did. -/
def fnExactLaneNewUptoRow : OpenClaim := { program := "ytcmimgoghmeliaa", sum := "795fb6d8d0b1d0d85d0fb12413483914cd74b848124b6c73661a31acb6c7be9e", func := "loop.example/g00985/laws.FnExactLaneNew", spec := "fnExactLaneNew", apart := false, narrowed := true }
def FnExactLaneNewUptoSaid : Prop := fnExactLaneNewUptoRow.holds Try.pinned (OpenSpec.upto fnExactLaneNewSpec)

/-- 'laws.FnExactActiveMask', WHERE WHAT IT READS IS OF BULK AT MOST 1048576: true; the input reads as it did. -/
def fnExactActiveMaskUptoRow : OpenClaim := { program := "ytcmimgoghmeliaa", sum := "795fb6d8d0b1d0d85d0fb12413483914cd74b848124b6c73661a31acb6c7be9e", func := "loop.example/g00985/laws.FnExactActiveMask", spec := "fnExactActiveMask", apart := false, narrowed := true }
def FnExactActiveMaskUptoSaid : Prop := fnExactActiveMaskUptoRow.holds Try.pinned (OpenSpec.upto fnExactActiveMaskSpec)

/-- 'laws.FnExactSameWarp', WHERE WHAT IT READS IS OF BULK AT MOST 1048576: true; the input reads as it did. -/
def fnExactSameWarpUptoRow : OpenClaim := { program := "ytcmimgoghmeliaa", sum := "795fb6d8d0b1d0d85d0fb12413483914cd74b848124b6c73661a31acb6c7be9e", func := "loop.example/g00985/laws.FnExactSameWarp", spec := "fnExactSameWarp", apart := false, narrowed := true }
def FnExactSameWarpUptoSaid : Prop := fnExactSameWarpUptoRow.holds Try.pinned (OpenSpec.upto fnExactSameWarpSpec)

/-- 'laws.FnShuffles', WHERE WHAT IT READS IS OF BULK AT MOST 1048576: true; the input reads as it did. -/
def fnShufflesUptoRow : OpenClaim := { program := "ytcmimgoghmeliaa", sum := "795fb6d8d0b1d0d85d0fb12413483914cd74b848124b6c73661a31acb6c7be9e", func := "loop.example/g00985/laws.FnShuffles", spec := "fnShuffles", unfollowed := true, recurses := true, apart := false, narrowed := true }
def FnShufflesUptoSaid : Prop := fnShufflesUptoRow.holds Try.pinned (OpenSpec.upto fnShufflesSpec)

/-- 'laws.FnVotes', WHERE WHAT IT READS IS OF BULK AT MOST 1048576: true; the input reads as it did. -/
def fnVotesUptoRow : OpenClaim := { program := "ytcmimgoghmeliaa", sum := "795fb6d8d0b1d0d85d0fb12413483914cd74b848124b6c73661a31acb6c7be9e", func := "loop.example/g00985/laws.FnVotes", spec := "fnVotes", unfollowed := true, recurses := true, apart := false, narrowed := true }
def FnVotesUptoSaid : Prop := fnVotesUptoRow.holds Try.pinned (OpenSpec.upto fnVotesSpec)

/-- 'laws.FnExactCanPredicate', WHERE WHAT IT READS IS OF BULK AT MOST 1048576: true; the input reads as it did. -/
def fnExactCanPredicateUptoRow : OpenClaim := { program := "ytcmimgoghmeliaa", sum := "795fb6d8d0b1d0d85d0fb12413483914cd74b848124b6c73661a31acb6c7be9e", func := "loop.example/g00985/laws.FnExactCanPredicate", spec := "fnExactCanPredicate", unfollowed := true, recurses := true, apart := false, narrowed := true }
def FnExactCanPredicateUptoSaid : Prop := fnExactCanPredicateUptoRow.holds Try.pinned (OpenSpec.upto fnExactCanPredicateSpec)

/-- 'laws.FnExactLaneRegs', WHERE WHAT IT READS IS OF BULK AT MOST 1048576: true; the input reads as it did. -/
def fnExactLaneRegsUptoRow : OpenClaim := { program := "ytcmimgoghmeliaa", sum := "795fb6d8d0b1d0d85d0fb12413483914cd74b848124b6c73661a31acb6c7be9e", func := "loop.example/g00985/laws.FnExactLaneRegs", spec := "fnExactLaneRegs", apart := false, narrowed := true }
def FnExactLaneRegsUptoSaid : Prop := fnExactLaneRegsUptoRow.holds Try.pinned (OpenSpec.upto fnExactLaneRegsSpec)

/-- 'laws.FnExactZeroMask', WHERE WHAT IT READS IS OF BULK AT MOST 1048576: true; the input reads as it did. -/
def fnExactZeroMaskUptoRow : OpenClaim := { program := "ytcmimgoghmeliaa", sum := "795fb6d8d0b1d0d85d0fb12413483914cd74b848124b6c73661a31acb6c7be9e", func := "loop.example/g00985/laws.FnExactZeroMask", spec := "fnExactZeroMask", apart := false, narrowed := true }
def FnExactZeroMaskUptoSaid : Prop := fnExactZeroMaskUptoRow.holds Try.pinned (OpenSpec.upto fnExactZeroMaskSpec)

/-- 'laws.FnExactLaneOk', WHERE WHAT IT READS IS OF BULK AT MOST 1048576: true; the input reads as it did. -/
def fnExactLaneOkUptoRow : OpenClaim := { program := "ytcmimgoghmeliaa", sum := "795fb6d8d0b1d0d85d0fb12413483914cd74b848124b6c73661a31acb6c7be9e", func := "loop.example/g00985/laws.FnExactLaneOk", spec := "fnExactLaneOk", unfollowed := true, recurses := true, apart := false, narrowed := true }
def FnExactLaneOkUptoSaid : Prop := fnExactLaneOkUptoRow.holds Try.pinned (OpenSpec.upto fnExactLaneOkSpec)

/-- 'laws.FnExactLaneEnded', WHERE WHAT IT READS IS OF BULK AT MOST 1048576: true; the input reads as it did. -/
def fnExactLaneEndedUptoRow : OpenClaim := { program := "ytcmimgoghmeliaa", sum := "795fb6d8d0b1d0d85d0fb12413483914cd74b848124b6c73661a31acb6c7be9e", func := "loop.example/g00985/laws.FnExactLaneEnded", spec := "fnExactLaneEnded", unfollowed := true, recurses := true, apart := false, narrowed := true }
def FnExactLaneEndedUptoSaid : Prop := fnExactLaneEndedUptoRow.holds Try.pinned (OpenSpec.upto fnExactLaneEndedSpec)

/-- 'laws.FnExactPredicate', WHERE WHAT IT READS IS OF BULK AT MOST 1048576: true; the input reads as it did. -/
def fnExactPredicateUptoRow : OpenClaim := { program := "ytcmimgoghmeliaa", sum := "795fb6d8d0b1d0d85d0fb12413483914cd74b848124b6c73661a31acb6c7be9e", func := "loop.example/g00985/laws.FnExactPredicate", spec := "fnExactPredicate", unfollowed := true, recurses := true, apart := false, narrowed := true }
def FnExactPredicateUptoSaid : Prop := fnExactPredicateUptoRow.holds Try.pinned (OpenSpec.upto fnExactPredicateSpec)

/-- 'laws.FnExactDropFrames', WHERE WHAT IT READS IS OF BULK AT MOST 1048576: true; the input reads as it did. -/
def fnExactDropFramesUptoRow : OpenClaim := { program := "ytcmimgoghmeliaa", sum := "795fb6d8d0b1d0d85d0fb12413483914cd74b848124b6c73661a31acb6c7be9e", func := "loop.example/g00985/laws.FnExactDropFrames", spec := "fnExactDropFrames", apart := false, narrowed := true }
def FnExactDropFramesUptoSaid : Prop := fnExactDropFramesUptoRow.holds Try.pinned (OpenSpec.upto fnExactDropFramesSpec)

end Rows
end Go.Proofs.Ytcmimgoghmeliaa
