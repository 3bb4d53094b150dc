/-
  No cell of these rows narrows 'for every input' (looked for: loops, veiled, ifaces, maps, wideKeys, modest, calm, conditions, laid).
  DERIVED. THE GIVEN ROWS OF THIS SEAT. 10 by the template 'for every input the law returns true; each argument reads behind the call as it read before'; 0 by the template 'total and deterministic' (their statements: YtbgpnendblmdaaaTotals.lean).
  GIVEN WITH THE SEED: the statements are not yours to turn. If you find one false, say at which input.
  Laid BY PROGRAM, IN A SANDBOX (cutbox-rows.mjs): the forced cells as the released guide's own fill.sh prints them over the translation b2d80a7659534226… (all of the seat's roots in one cut). By AI agents, Wed Nov 11 2026. No macro, syntax, notation, axiom, sorry.
-/
import Derived.Test.YtbgpnendblmdaaaChecked
import GoSem.Claim
import GoSem.ClaimJoined
import GoSem.ClaimMapViews
import Derived.JoinedTies
import Derived.KernelRfl
namespace Go.Proofs.Ytbgpnendblmdaaa
/- THE CELL 'sum', in the pinned program and in every row, IS THE sha256 OF THE DUMP (.gsa) THAT YtbgpnendblmdaaaProg.lean LOADS. Nothing in Lean hashes anything: it is a label: what it is worth is what the hold of that sum in a sandbox is worth. -/
noncomputable def Try.pinned : Pinned := { name := "ytbgpnendblmdaaa", sum := "b2d80a76595342265125e718dfb5187dc4ed13aa1322e9551b412010aa080881", checked := Try.checked }
namespace Rows
def none {H : Type} : Left H := { results := [], args := [] }

/-- 'laws.FnJoins': WHATEVER THE INPUT: true; the input reads as it did. -/
def fnJoinsSpec : ChangeSpec := { name := "fnJoins", fn := fun _ => fun
  | [d] => { results := [.lit (.bool true)], args := [d] }
  | _ => none }
def fnJoinsRow : OpenClaim := { program := "ytbgpnendblmdaaa", sum := "b2d80a76595342265125e718dfb5187dc4ed13aa1322e9551b412010aa080881", func := "loop.example/g00985/laws.FnJoins", spec := "fnJoins", unfollowed := true, recurses := true, apart := false }
def FnJoinsSaid : Prop := fnJoinsRow.holds Try.pinned (OpenSpec.ofChange fnJoinsSpec)

/-- ITS FALSE NEIGHBOUR: 'it returns false'. Refute it at one input. -/
def fnJoinsWrong : ChangeSpec := { name := "fnJoins", fn := fun _ => fun
  | [d] => { results := [.lit (.bool false)], args := [d] }
  | _ => none }
def FnJoinsWrongFalsely : Prop := fnJoinsRow.holds Try.pinned (OpenSpec.ofChange fnJoinsWrong)

/-- 'laws.FnMeets': WHATEVER THE INPUT: true; the input reads as it did. -/
def fnMeetsSpec : ChangeSpec := { name := "fnMeets", fn := fun _ => fun
  | [d] => { results := [.lit (.bool true)], args := [d] }
  | _ => none }
def fnMeetsRow : OpenClaim := { program := "ytbgpnendblmdaaa", sum := "b2d80a76595342265125e718dfb5187dc4ed13aa1322e9551b412010aa080881", func := "loop.example/g00985/laws.FnMeets", spec := "fnMeets", unfollowed := true, recurses := true, apart := false }
def FnMeetsSaid : Prop := fnMeetsRow.holds Try.pinned (OpenSpec.ofChange fnMeetsSpec)

/-- ITS FALSE NEIGHBOUR: 'it returns false'. Refute it at one input. -/
def fnMeetsWrong : ChangeSpec := { name := "fnMeets", fn := fun _ => fun
  | [d] => { results := [.lit (.bool false)], args := [d] }
  | _ => none }
def FnMeetsWrongFalsely : Prop := fnMeetsRow.holds Try.pinned (OpenSpec.ofChange fnMeetsWrong)

/-- 'laws.FnExactAftersOf': WHATEVER THE INPUT: true; the input reads as it did. -/
def fnExactAftersOfSpec : ChangeSpec := { name := "fnExactAftersOf", fn := fun _ => fun
  | [d1, d2] => { results := [.lit (.bool true)], args := [d1, d2] }
  | _ => none }
def fnExactAftersOfRow : OpenClaim := { program := "ytbgpnendblmdaaa", sum := "b2d80a76595342265125e718dfb5187dc4ed13aa1322e9551b412010aa080881", func := "loop.example/g00985/laws.FnExactAftersOf", spec := "fnExactAftersOf", unfollowed := true, recurses := true, apart := false }
def FnExactAftersOfSaid : Prop := fnExactAftersOfRow.holds Try.pinned (OpenSpec.ofChange fnExactAftersOfSpec)

/-- ITS FALSE NEIGHBOUR: 'it returns false'. Refute it at one input. -/
def fnExactAftersOfWrong : ChangeSpec := { name := "fnExactAftersOf", fn := fun _ => fun
  | [d1, d2] => { results := [.lit (.bool false)], args := [d1, d2] }
  | _ => none }
def FnExactAftersOfWrongFalsely : Prop := fnExactAftersOfRow.holds Try.pinned (OpenSpec.ofChange fnExactAftersOfWrong)

/-- 'laws.FnExactFirstAfter': WHATEVER THE INPUT: true; the input reads as it did. -/
def fnExactFirstAfterSpec : ChangeSpec := { name := "fnExactFirstAfter", fn := fun _ => fun
  | [d1, d2] => { results := [.lit (.bool true)], args := [d1, d2] }
  | _ => none }
def fnExactFirstAfterRow : OpenClaim := { program := "ytbgpnendblmdaaa", sum := "b2d80a76595342265125e718dfb5187dc4ed13aa1322e9551b412010aa080881", func := "loop.example/g00985/laws.FnExactFirstAfter", spec := "fnExactFirstAfter", unfollowed := true, recurses := true, apart := false }
def FnExactFirstAfterSaid : Prop := fnExactFirstAfterRow.holds Try.pinned (OpenSpec.ofChange fnExactFirstAfterSpec)

/-- ITS FALSE NEIGHBOUR: 'it returns false'. Refute it at one input. -/
def fnExactFirstAfterWrong : ChangeSpec := { name := "fnExactFirstAfter", fn := fun _ => fun
  | [d1, d2] => { results := [.lit (.bool false)], args := [d1, d2] }
  | _ => none }
def FnExactFirstAfterWrongFalsely : Prop := fnExactFirstAfterRow.holds Try.pinned (OpenSpec.ofChange fnExactFirstAfterWrong)

/-- 'laws.FnExactMeetsAt': WHATEVER THE INPUT: true; the input reads as it did. -/
def fnExactMeetsAtSpec : ChangeSpec := { name := "fnExactMeetsAt", fn := fun _ => fun
  | [d1, d2, d3] => { results := [.lit (.bool true)], args := [d1, d2, d3] }
  | _ => none }
def fnExactMeetsAtRow : OpenClaim := { program := "ytbgpnendblmdaaa", sum := "b2d80a76595342265125e718dfb5187dc4ed13aa1322e9551b412010aa080881", func := "loop.example/g00985/laws.FnExactMeetsAt", spec := "fnExactMeetsAt", unfollowed := true, recurses := true, apart := false }
def FnExactMeetsAtSaid : Prop := fnExactMeetsAtRow.holds Try.pinned (OpenSpec.ofChange fnExactMeetsAtSpec)

/-- ITS FALSE NEIGHBOUR: 'it returns false'. Refute it at one input. -/
def fnExactMeetsAtWrong : ChangeSpec := { name := "fnExactMeetsAt", fn := fun _ => fun
  | [d1, d2, d3] => { results := [.lit (.bool false)], args := [d1, d2, d3] }
  | _ => none }
def FnExactMeetsAtWrongFalsely : Prop := fnExactMeetsAtRow.holds Try.pinned (OpenSpec.ofChange fnExactMeetsAtWrong)

/-- 'laws.FnExactJoinOf': WHATEVER THE INPUT: true; the input reads as it did. -/
def fnExactJoinOfSpec : ChangeSpec := { name := "fnExactJoinOf", fn := fun _ => fun
  | [d1, d2] => { results := [.lit (.bool true)], args := [d1, d2] }
  | _ => none }
def fnExactJoinOfRow : OpenClaim := { program := "ytbgpnendblmdaaa", sum := "b2d80a76595342265125e718dfb5187dc4ed13aa1322e9551b412010aa080881", func := "loop.example/g00985/laws.FnExactJoinOf", spec := "fnExactJoinOf", unfollowed := true, recurses := true, apart := false }
def FnExactJoinOfSaid : Prop := fnExactJoinOfRow.holds Try.pinned (OpenSpec.ofChange fnExactJoinOfSpec)

/-- ITS FALSE NEIGHBOUR: 'it returns false'. Refute it at one input. -/
def fnExactJoinOfWrong : ChangeSpec := { name := "fnExactJoinOf", fn := fun _ => fun
  | [d1, d2] => { results := [.lit (.bool false)], args := [d1, d2] }
  | _ => none }
def FnExactJoinOfWrongFalsely : Prop := fnExactJoinOfRow.holds Try.pinned (OpenSpec.ofChange fnExactJoinOfWrong)

/-- 'laws.FnExactIsInside': WHATEVER THE INPUT: true; the input reads as it did. -/
def fnExactIsInsideSpec : ChangeSpec := { name := "fnExactIsInside", fn := fun _ => fun
  | [d1, d2, d3] => { results := [.lit (.bool true)], args := [d1, d2, d3] }
  | _ => none }
def fnExactIsInsideRow : OpenClaim := { program := "ytbgpnendblmdaaa", sum := "b2d80a76595342265125e718dfb5187dc4ed13aa1322e9551b412010aa080881", func := "loop.example/g00985/laws.FnExactIsInside", spec := "fnExactIsInside", unfollowed := true, recurses := true, apart := false }
def FnExactIsInsideSaid : Prop := fnExactIsInsideRow.holds Try.pinned (OpenSpec.ofChange fnExactIsInsideSpec)

/-- ITS FALSE NEIGHBOUR: 'it returns false'. Refute it at one input. -/
def fnExactIsInsideWrong : ChangeSpec := { name := "fnExactIsInside", fn := fun _ => fun
  | [d1, d2, d3] => { results := [.lit (.bool false)], args := [d1, d2, d3] }
  | _ => none }
def FnExactIsInsideWrongFalsely : Prop := fnExactIsInsideRow.holds Try.pinned (OpenSpec.ofChange fnExactIsInsideWrong)

/-- 'laws.FnExactJoinsOf': WHATEVER THE INPUT: true; the input reads as it did. -/
def fnExactJoinsOfSpec : ChangeSpec := { name := "fnExactJoinsOf", fn := fun _ => fun
  | [d] => { results := [.lit (.bool true)], args := [d] }
  | _ => none }
def fnExactJoinsOfRow : OpenClaim := { program := "ytbgpnendblmdaaa", sum := "b2d80a76595342265125e718dfb5187dc4ed13aa1322e9551b412010aa080881", func := "loop.example/g00985/laws.FnExactJoinsOf", spec := "fnExactJoinsOf", unfollowed := true, recurses := true, apart := false }
def FnExactJoinsOfSaid : Prop := fnExactJoinsOfRow.holds Try.pinned (OpenSpec.ofChange fnExactJoinsOfSpec)

/-- ITS FALSE NEIGHBOUR: 'it returns false'. Refute it at one input. -/
def fnExactJoinsOfWrong : ChangeSpec := { name := "fnExactJoinsOf", fn := fun _ => fun
  | [d] => { results := [.lit (.bool false)], args := [d] }
  | _ => none }
def FnExactJoinsOfWrongFalsely : Prop := fnExactJoinsOfRow.holds Try.pinned (OpenSpec.ofChange fnExactJoinsOfWrong)

/-- 'laws.FnExactIsForward': WHATEVER THE INPUT: true; the input reads as it did. -/
def fnExactIsForwardSpec : ChangeSpec := { name := "fnExactIsForward", fn := fun _ => fun
  | [d1, d2] => { results := [.lit (.bool true)], args := [d1, d2] }
  | _ => none }
def fnExactIsForwardRow : OpenClaim := { program := "ytbgpnendblmdaaa", sum := "b2d80a76595342265125e718dfb5187dc4ed13aa1322e9551b412010aa080881", func := "loop.example/g00985/laws.FnExactIsForward", spec := "fnExactIsForward", unfollowed := true, recurses := true, apart := false }
def FnExactIsForwardSaid : Prop := fnExactIsForwardRow.holds Try.pinned (OpenSpec.ofChange fnExactIsForwardSpec)

/-- ITS FALSE NEIGHBOUR: 'it returns false'. Refute it at one input. -/
def fnExactIsForwardWrong : ChangeSpec := { name := "fnExactIsForward", fn := fun _ => fun
  | [d1, d2] => { results := [.lit (.bool false)], args := [d1, d2] }
  | _ => none }
def FnExactIsForwardWrongFalsely : Prop := fnExactIsForwardRow.holds Try.pinned (OpenSpec.ofChange fnExactIsForwardWrong)

/-- 'laws.FnExactInsideOf': WHATEVER THE INPUT: true; the input reads as it did. -/
def fnExactInsideOfSpec : ChangeSpec := { name := "fnExactInsideOf", fn := fun _ => fun
  | [d1, d2] => { results := [.lit (.bool true)], args := [d1, d2] }
  | _ => none }
def fnExactInsideOfRow : OpenClaim := { program := "ytbgpnendblmdaaa", sum := "b2d80a76595342265125e718dfb5187dc4ed13aa1322e9551b412010aa080881", func := "loop.example/g00985/laws.FnExactInsideOf", spec := "fnExactInsideOf", unfollowed := true, recurses := true, apart := false }
def FnExactInsideOfSaid : Prop := fnExactInsideOfRow.holds Try.pinned (OpenSpec.ofChange fnExactInsideOfSpec)

/-- ITS FALSE NEIGHBOUR: 'it returns false'. Refute it at one input. -/
def fnExactInsideOfWrong : ChangeSpec := { name := "fnExactInsideOf", fn := fun _ => fun
  | [d1, d2] => { results := [.lit (.bool false)], args := [d1, d2] }
  | _ => none }
def FnExactInsideOfWrongFalsely : Prop := fnExactInsideOfRow.holds Try.pinned (OpenSpec.ofChange fnExactInsideOfWrong)

/- THE SECOND FORM. 'bulk': how many values and letters a reading holds, each counted each time it is reached (what is shared counts as often as it is met; a slice's spare places count too). A statement '..UptoSaid' is the law's where the arguments, and the package variables that the reading takes, are together of bulk at most 1048576: NARROWER than '..Said'. Prove '..Said' where nothing that the law and all that it calls make is longer than what came in: it says more and counts as full. Else prove '..UptoSaid'. A law counts once. -/
mutual
def uptoBulk {H : Type} : DataW H → Nat
  | .lit (.string bytes) => bytes.length + 1
  | .lit _ => 1
  | .nil => 1
  | .ptr d => uptoBulk d + 1
  | .slice elems spare => uptoBulkAll elems + uptoBulkAll spare + 1
  | .agg parts => uptoBulkAll parts + 1
  | .iface _ d => uptoBulk d + 1
  | .map entries => uptoBulkEntries entries + 1
  | .held _ => 1
def uptoBulkAll {H : Type} : List (DataW H) → Nat
  | [] => 0
  | d :: r => uptoBulk d + uptoBulkAll r
def uptoBulkEntries {H : Type} : List (Lit × DataW H) → Nat
  | [] => 0
  | x :: r => uptoBulkEntry x + uptoBulkEntries r
def uptoBulkEntry {H : Type} : Lit × DataW H → Nat
  | (.string bytes, d) => bytes.length + uptoBulk d + 1
  | (_, d) => uptoBulk d + 1
 end
def uptoSmall : (H : Type) → List (DataW H) → Bool := fun _ ds => decide (uptoBulkAll ds ≤ 1048576)
def OpenSpec.upto (s : _root_.Go.ChangeSpec) : _root_.Go.OpenSpec := { _root_.Go.OpenSpec.ofChange s with cond := some uptoSmall }

/-- 'laws.FnJoins', WHERE WHAT IT READS IS OF BULK AT MOST 1048576: true; the input reads as it did. -/
def fnJoinsUptoRow : OpenClaim := { program := "ytbgpnendblmdaaa", sum := "b2d80a76595342265125e718dfb5187dc4ed13aa1322e9551b412010aa080881", func := "loop.example/g00985/laws.FnJoins", spec := "fnJoins", unfollowed := true, recurses := true, apart := false, narrowed := true }
def FnJoinsUptoSaid : Prop := fnJoinsUptoRow.holds Try.pinned (OpenSpec.upto fnJoinsSpec)

/-- 'laws.FnMeets', WHERE WHAT IT READS IS OF BULK AT MOST 1048576: true; the input reads as it did. -/
def fnMeetsUptoRow : OpenClaim := { program := "ytbgpnendblmdaaa", sum := "b2d80a76595342265125e718dfb5187dc4ed13aa1322e9551b412010aa080881", func := "loop.example/g00985/laws.FnMeets", spec := "fnMeets", unfollowed := true, recurses := true, apart := false, narrowed := true }
def FnMeetsUptoSaid : Prop := fnMeetsUptoRow.holds Try.pinned (OpenSpec.upto fnMeetsSpec)

/-- 'laws.FnExactAftersOf', WHERE WHAT IT READS IS OF BULK AT MOST 1048576: true; the input reads as it did. -/
def fnExactAftersOfUptoRow : OpenClaim := { program := "ytbgpnendblmdaaa", sum := "b2d80a76595342265125e718dfb5187dc4ed13aa1322e9551b412010aa080881", func := "loop.example/g00985/laws.FnExactAftersOf", spec := "fnExactAftersOf", unfollowed := true, recurses := true, apart := false, narrowed := true }
def FnExactAftersOfUptoSaid : Prop := fnExactAftersOfUptoRow.holds Try.pinned (OpenSpec.upto fnExactAftersOfSpec)

/-- 'laws.FnExactFirstAfter', WHERE WHAT IT READS IS OF BULK AT MOST 1048576: true; the input reads as it did. -/
def fnExactFirstAfterUptoRow : OpenClaim := { program := "ytbgpnendblmdaaa", sum := "b2d80a76595342265125e718dfb5187dc4ed13aa1322e9551b412010aa080881", func := "loop.example/g00985/laws.FnExactFirstAfter", spec := "fnExactFirstAfter", unfollowed := true, recurses := true, apart := false, narrowed := true }
def FnExactFirstAfterUptoSaid : Prop := fnExactFirstAfterUptoRow.holds Try.pinned (OpenSpec.upto fnExactFirstAfterSpec)

/-- 'laws.FnExactMeetsAt', WHERE WHAT IT READS IS OF BULK AT MOST 1048576: true; the input reads as it did. -/
def fnExactMeetsAtUptoRow : OpenClaim := { program := "ytbgpnendblmdaaa", sum := "b2d80a76595342265125e718dfb5187dc4ed13aa1322e9551b412010aa080881", func := "loop.example/g00985/laws.FnExactMeetsAt", spec := "fnExactMeetsAt", unfollowed := true, recurses := true, apart := false, narrowed := true }
def FnExactMeetsAtUptoSaid : Prop := fnExactMeetsAtUptoRow.holds Try.pinned (OpenSpec.upto fnExactMeetsAtSpec)

/-- 'laws.FnExactJoinOf', WHERE WHAT IT READS IS OF BULK AT MOST 1048576: true; the input reads as it did. -/
def fnExactJoinOfUptoRow : OpenClaim := { program := "ytbgpnendblmdaaa", sum := "b2d80a76595342265125e718dfb5187dc4ed13aa1322e9551b412010aa080881", func := "loop.example/g00985/laws.FnExactJoinOf", spec := "fnExactJoinOf", unfollowed := true, recurses := true, apart := false, narrowed := true }
def FnExactJoinOfUptoSaid : Prop := fnExactJoinOfUptoRow.holds Try.pinned (OpenSpec.upto fnExactJoinOfSpec)

/-- 'laws.FnExactIsInside', WHERE WHAT IT READS IS OF BULK AT MOST 1048576: true; the input reads as it did. -/
def fnExactIsInsideUptoRow : OpenClaim := { program := "ytbgpnendblmdaaa", sum := "b2d80a76595342265125e718dfb5187dc4ed13aa1322e9551b412010aa080881", func := "loop.example/g00985/laws.FnExactIsInside", spec := "fnExactIsInside", unfollowed := true, recurses := true, apart := false, narrowed := true }
def FnExactIsInsideUptoSaid : Prop := fnExactIsInsideUptoRow.holds Try.pinned (OpenSpec.upto fnExactIsInsideSpec)

/-- 'laws.FnExactJoinsOf', WHERE WHAT IT READS IS OF BULK AT MOST 1048576: true; the input reads as it did. -/
def fnExactJoinsOfUptoRow : OpenClaim := { program := "ytbgpnendblmdaaa", sum := "b2d80a76595342265125e718dfb5187dc4ed13aa1322e9551b412010aa080881", func := "loop.example/g00985/laws.FnExactJoinsOf", spec := "fnExactJoinsOf", unfollowed := true, recurses := true, apart := false, narrowed := true }
def FnExactJoinsOfUptoSaid : Prop := fnExactJoinsOfUptoRow.holds Try.pinned (OpenSpec.upto fnExactJoinsOfSpec)

/-- 'laws.FnExactIsForward', WHERE WHAT IT READS IS OF BULK AT MOST 1048576: true; the input reads as it did. -/
def fnExactIsForwardUptoRow : OpenClaim := { program := "ytbgpnendblmdaaa", sum := "b2d80a76595342265125e718dfb5187dc4ed13aa1322e9551b412010aa080881", func := "loop.example/g00985/laws.FnExactIsForward", spec := "fnExactIsForward", unfollowed := true, recurses := true, apart := false, narrowed := true }
def FnExactIsForwardUptoSaid : Prop := fnExactIsForwardUptoRow.holds Try.pinned (OpenSpec.upto fnExactIsForwardSpec)

/-- 'laws.FnExactInsideOf', WHERE WHAT IT READS IS OF BULK AT MOST 1048576: true; the input reads as it did. -/
def fnExactInsideOfUptoRow : OpenClaim := { program := "ytbgpnendblmdaaa", sum := "b2d80a76595342265125e718dfb5187dc4ed13aa1322e9551b412010aa080881", func := "loop.example/g00985/laws.FnExactInsideOf", spec := "fnExactInsideOf", unfollowed := true, recurses := true, apart := false, narrowed := true }
def FnExactInsideOfUptoSaid : Prop := fnExactInsideOfUptoRow.holds Try.pinned (OpenSpec.upto fnExactInsideOfSpec)

end Rows
end Go.Proofs.Ytbgpnendblmdaaa
