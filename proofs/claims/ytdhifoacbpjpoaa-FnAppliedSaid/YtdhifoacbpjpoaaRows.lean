/-
  No cell of these rows narrows 'for every input' (looked for: loops, veiled, ifaces, maps, wideKeys, modest, calm, conditions, laid).
  DERIVED. THE GIVEN ROWS OF THIS SEAT. 8 by the template 'for every input the law returns true; each argument reads behind the call as it read before'; 0 by the template 'total and deterministic' (their statements: YtdhifoacbpjpoaaTotals.lean).
  GIVEN WITH THE SEED: the statements are not yours to turn. If you find one false, say at which input.
  Laid BY PROGRAM, IN A SANDBOX (cutbox-rows.mjs): the forced cells as the released guide's own fill.sh prints them over the translation 1f60337431367dba… (all of the seat's roots in one cut). By AI agents, Wed Nov 11 2026. No macro, syntax, notation, axiom, sorry.
-/
import Derived.Test.YtdhifoacbpjpoaaChecked
import GoSem.Claim
import GoSem.ClaimJoined
import GoSem.ClaimMapViews
import Derived.JoinedTies
import Derived.KernelRfl
namespace Go.Proofs.Ytdhifoacbpjpoaa
/- THE CELL 'sum', in the pinned program and in every row, IS THE sha256 OF THE DUMP (.gsa) THAT YtdhifoacbpjpoaaProg.lean LOADS. Nothing in Lean hashes anything: it is a label: what it is worth is what the hold of that sum in a sandbox is worth. -/
noncomputable def Try.pinned : Pinned := { name := "ytdhifoacbpjpoaa", sum := "1f60337431367dba57b92ec6e73f57de5d7c9520bf259cf89346399843251e7a", checked := Try.checked }
namespace Rows
def none {H : Type} : Left H := { results := [], args := [] }

/-- 'laws.FnNewWarps': WHATEVER THE INPUT: true; the input reads as it did. -/
def fnNewWarpsSpec : ChangeSpec := { name := "fnNewWarps", fn := fun _ => fun
  | [d] => { results := [.lit (.bool true)], args := [d] }
  | _ => none }
def fnNewWarpsRow : OpenClaim := { program := "ytdhifoacbpjpoaa", sum := "1f60337431367dba57b92ec6e73f57de5d7c9520bf259cf89346399843251e7a", func := "loop.example/g00985/laws.FnNewWarps", spec := "fnNewWarps", unfollowed := true, recurses := true, apart := false }
def FnNewWarpsSaid : Prop := fnNewWarpsRow.holds Try.pinned (OpenSpec.ofChange fnNewWarpsSpec)

/-- ITS FALSE NEIGHBOUR: 'it returns false'. Refute it at one input. -/
def fnNewWarpsWrong : ChangeSpec := { name := "fnNewWarps", fn := fun _ => fun
  | [d] => { results := [.lit (.bool false)], args := [d] }
  | _ => none }
def FnNewWarpsWrongFalsely : Prop := fnNewWarpsRow.holds Try.pinned (OpenSpec.ofChange fnNewWarpsWrong)

/-- 'laws.FnExactApplyIns': WHATEVER THE INPUT: true; the input reads as it did. -/
def fnExactApplyInsSpec : ChangeSpec := { name := "fnExactApplyIns", fn := fun _ => fun
  | [d1, d2, d3] => { results := [.lit (.bool true)], args := [d1, d2, d3] }
  | _ => none }
def fnExactApplyInsRow : OpenClaim := { program := "ytdhifoacbpjpoaa", sum := "1f60337431367dba57b92ec6e73f57de5d7c9520bf259cf89346399843251e7a", func := "loop.example/g00985/laws.FnExactApplyIns", spec := "fnExactApplyIns", unfollowed := true, recurses := true, apart := false }
def FnExactApplyInsSaid : Prop := fnExactApplyInsRow.holds Try.pinned (OpenSpec.ofChange fnExactApplyInsSpec)

/-- ITS FALSE NEIGHBOUR: 'it returns false'. Refute it at one input. -/
def fnExactApplyInsWrong : ChangeSpec := { name := "fnExactApplyIns", fn := fun _ => fun
  | [d1, d2, d3] => { results := [.lit (.bool false)], args := [d1, d2, d3] }
  | _ => none }
def FnExactApplyInsWrongFalsely : Prop := fnExactApplyInsRow.holds Try.pinned (OpenSpec.ofChange fnExactApplyInsWrong)

/-- 'laws.FnExactPredicateAll': WHATEVER THE INPUT: true; the input reads as it did. -/
def fnExactPredicateAllSpec : ChangeSpec := { name := "fnExactPredicateAll", fn := fun _ => fun
  | [d] => { results := [.lit (.bool true)], args := [d] }
  | _ => none }
def fnExactPredicateAllRow : OpenClaim := { program := "ytdhifoacbpjpoaa", sum := "1f60337431367dba57b92ec6e73f57de5d7c9520bf259cf89346399843251e7a", func := "loop.example/g00985/laws.FnExactPredicateAll", spec := "fnExactPredicateAll", unfollowed := true, recurses := true, apart := false }
def FnExactPredicateAllSaid : Prop := fnExactPredicateAllRow.holds Try.pinned (OpenSpec.ofChange fnExactPredicateAllSpec)

/-- ITS FALSE NEIGHBOUR: 'it returns false'. Refute it at one input. -/
def fnExactPredicateAllWrong : ChangeSpec := { name := "fnExactPredicateAll", fn := fun _ => fun
  | [d] => { results := [.lit (.bool false)], args := [d] }
  | _ => none }
def FnExactPredicateAllWrongFalsely : Prop := fnExactPredicateAllRow.holds Try.pinned (OpenSpec.ofChange fnExactPredicateAllWrong)

/-- 'laws.FnExactWarpNew': WHATEVER THE INPUT: true; the input reads as it did. -/
def fnExactWarpNewSpec : ChangeSpec := { name := "fnExactWarpNew", fn := fun _ => fun
  | [d1, d2] => { results := [.lit (.bool true)], args := [d1, d2] }
  | _ => none }
def fnExactWarpNewRow : OpenClaim := { program := "ytdhifoacbpjpoaa", sum := "1f60337431367dba57b92ec6e73f57de5d7c9520bf259cf89346399843251e7a", func := "loop.example/g00985/laws.FnExactWarpNew", spec := "fnExactWarpNew", unfollowed := true, recurses := true, apart := false }
def FnExactWarpNewSaid : Prop := fnExactWarpNewRow.holds Try.pinned (OpenSpec.ofChange fnExactWarpNewSpec)

/-- ITS FALSE NEIGHBOUR: 'it returns false'. Refute it at one input. -/
def fnExactWarpNewWrong : ChangeSpec := { name := "fnExactWarpNew", fn := fun _ => fun
  | [d1, d2] => { results := [.lit (.bool false)], args := [d1, d2] }
  | _ => none }
def FnExactWarpNewWrongFalsely : Prop := fnExactWarpNewRow.holds Try.pinned (OpenSpec.ofChange fnExactWarpNewWrong)

/-- 'laws.FnExactWarpOk': WHATEVER THE INPUT: true; the input reads as it did. -/
def fnExactWarpOkSpec : ChangeSpec := { name := "fnExactWarpOk", fn := fun _ => fun
  | [d1, d2] => { results := [.lit (.bool true)], args := [d1, d2] }
  | _ => none }
def fnExactWarpOkRow : OpenClaim := { program := "ytdhifoacbpjpoaa", sum := "1f60337431367dba57b92ec6e73f57de5d7c9520bf259cf89346399843251e7a", func := "loop.example/g00985/laws.FnExactWarpOk", spec := "fnExactWarpOk", unfollowed := true, recurses := true, apart := false }
def FnExactWarpOkSaid : Prop := fnExactWarpOkRow.holds Try.pinned (OpenSpec.ofChange fnExactWarpOkSpec)

/-- ITS FALSE NEIGHBOUR: 'it returns false'. Refute it at one input. -/
def fnExactWarpOkWrong : ChangeSpec := { name := "fnExactWarpOk", fn := fun _ => fun
  | [d1, d2] => { results := [.lit (.bool false)], args := [d1, d2] }
  | _ => none }
def FnExactWarpOkWrongFalsely : Prop := fnExactWarpOkRow.holds Try.pinned (OpenSpec.ofChange fnExactWarpOkWrong)

/-- 'laws.FnExactWarpEnded': WHATEVER THE INPUT: true; the input reads as it did. -/
def fnExactWarpEndedSpec : ChangeSpec := { name := "fnExactWarpEnded", fn := fun _ => fun
  | [d1, d2] => { results := [.lit (.bool true)], args := [d1, d2] }
  | _ => none }
def fnExactWarpEndedRow : OpenClaim := { program := "ytdhifoacbpjpoaa", sum := "1f60337431367dba57b92ec6e73f57de5d7c9520bf259cf89346399843251e7a", func := "loop.example/g00985/laws.FnExactWarpEnded", spec := "fnExactWarpEnded", unfollowed := true, recurses := true, apart := false }
def FnExactWarpEndedSaid : Prop := fnExactWarpEndedRow.holds Try.pinned (OpenSpec.ofChange fnExactWarpEndedSpec)

/-- ITS FALSE NEIGHBOUR: 'it returns false'. Refute it at one input. -/
def fnExactWarpEndedWrong : ChangeSpec := { name := "fnExactWarpEnded", fn := fun _ => fun
  | [d1, d2] => { results := [.lit (.bool false)], args := [d1, d2] }
  | _ => none }
def FnExactWarpEndedWrongFalsely : Prop := fnExactWarpEndedRow.holds Try.pinned (OpenSpec.ofChange fnExactWarpEndedWrong)

/-- 'laws.FnExactUniformAfter': WHATEVER THE INPUT: true; the input reads as it did. -/
def fnExactUniformAfterSpec : ChangeSpec := { name := "fnExactUniformAfter", fn := fun _ => fun
  | [d1, d2] => { results := [.lit (.bool true)], args := [d1, d2] }
  | _ => none }
def fnExactUniformAfterRow : OpenClaim := { program := "ytdhifoacbpjpoaa", sum := "1f60337431367dba57b92ec6e73f57de5d7c9520bf259cf89346399843251e7a", func := "loop.example/g00985/laws.FnExactUniformAfter", spec := "fnExactUniformAfter", unfollowed := true, recurses := true, apart := false }
def FnExactUniformAfterSaid : Prop := fnExactUniformAfterRow.holds Try.pinned (OpenSpec.ofChange fnExactUniformAfterSpec)

/-- ITS FALSE NEIGHBOUR: 'it returns false'. Refute it at one input. -/
def fnExactUniformAfterWrong : ChangeSpec := { name := "fnExactUniformAfter", fn := fun _ => fun
  | [d1, d2] => { results := [.lit (.bool false)], args := [d1, d2] }
  | _ => none }
def FnExactUniformAfterWrongFalsely : Prop := fnExactUniformAfterRow.holds Try.pinned (OpenSpec.ofChange fnExactUniformAfterWrong)

/-- 'laws.FnApplied': WHATEVER THE INPUT: true; the input reads as it did. -/
def fnAppliedSpec : ChangeSpec := { name := "fnApplied", fn := fun _ => fun
  | [d] => { results := [.lit (.bool true)], args := [d] }
  | _ => none }
def fnAppliedRow : OpenClaim := { program := "ytdhifoacbpjpoaa", sum := "1f60337431367dba57b92ec6e73f57de5d7c9520bf259cf89346399843251e7a", func := "loop.example/g00985/laws.FnApplied", spec := "fnApplied", unfollowed := true, recurses := true, apart := false }
def FnAppliedSaid : Prop := fnAppliedRow.holds Try.pinned (OpenSpec.ofChange fnAppliedSpec)

/-- ITS FALSE NEIGHBOUR: 'it returns false'. Refute it at one input. -/
def fnAppliedWrong : ChangeSpec := { name := "fnApplied", fn := fun _ => fun
  | [d] => { results := [.lit (.bool false)], args := [d] }
  | _ => none }
def FnAppliedWrongFalsely : Prop := fnAppliedRow.holds Try.pinned (OpenSpec.ofChange fnAppliedWrong)

/- THE SECOND FORM. 'bulk': how many values and letters a reading holds, each counted each time it is reached (what is shared counts as often as it is met; a slice's spare places count too). A statement '..UptoSaid' is the law's where the arguments, and the package variables that the reading takes, are together of bulk at most 1048576: NARROWER than '..Said'. Prove '..Said' where nothing that the law and all that it calls make is longer than what came in: it says more and counts as full. Else prove '..UptoSaid'. A law counts once. -/
mutual
def uptoBulk {H : Type} : DataW H → Nat
  | .lit (.string bytes) => bytes.length + 1
  | .lit _ => 1
  | .nil => 1
  | .ptr d => uptoBulk d + 1
  | .slice elems spare => uptoBulkAll elems + uptoBulkAll spare + 1
  | .agg parts => uptoBulkAll parts + 1
  | .iface _ d => uptoBulk d + 1
  | .map entries => uptoBulkEntries entries + 1
  | .held _ => 1
def uptoBulkAll {H : Type} : List (DataW H) → Nat
  | [] => 0
  | d :: r => uptoBulk d + uptoBulkAll r
def uptoBulkEntries {H : Type} : List (Lit × DataW H) → Nat
  | [] => 0
  | x :: r => uptoBulkEntry x + uptoBulkEntries r
def uptoBulkEntry {H : Type} : Lit × DataW H → Nat
  | (.string bytes, d) => bytes.length + uptoBulk d + 1
  | (_, d) => uptoBulk d + 1
 end
def uptoSmall : (H : Type) → List (DataW H) → Bool := fun _ ds => decide (uptoBulkAll ds ≤ 1048576)
def OpenSpec.upto (s : _root_.Go.ChangeSpec) : _root_.Go.OpenSpec := { _root_.Go.OpenSpec.ofChange s with cond := some uptoSmall }

/-- 'laws.FnNewWarps', WHERE WHAT IT READS IS OF BULK AT MOST 1048576: true; the input reads as it did. -/
def fnNewWarpsUptoRow : OpenClaim := { program := "ytdhifoacbpjpoaa", sum := "1f60337431367dba57b92ec6e73f57de5d7c9520bf259cf89346399843251e7a", func := "loop.example/g00985/laws.FnNewWarps", spec := "fnNewWarps", unfollowed := true, recurses := true, apart := false, narrowed := true }
def FnNewWarpsUptoSaid : Prop := fnNewWarpsUptoRow.holds Try.pinned (OpenSpec.upto fnNewWarpsSpec)

/-- 'laws.FnExactApplyIns', WHERE WHAT IT READS IS OF BULK AT MOST 1048576: true; the input reads as it did. -/
def fnExactApplyInsUptoRow : OpenClaim := { program := "ytdhifoacbpjpoaa", sum := "1f60337431367dba57b92ec6e73f57de5d7c9520bf259cf89346399843251e7a", func := "loop.example/g00985/laws.FnExactApplyIns", spec := "fnExactApplyIns", unfollowed := true, recurses := true, apart := false, narrowed := true }
def FnExactApplyInsUptoSaid : Prop := fnExactApplyInsUptoRow.holds Try.pinned (OpenSpec.upto fnExactApplyInsSpec)

/-- 'laws.FnExactPredicateAll', WHERE WHAT IT READS IS OF BULK AT MOST 1048576: true; the input reads as it did. -/
def fnExactPredicateAllUptoRow : OpenClaim := { program := "ytdhifoacbpjpoaa", sum := "1f60337431367dba57b92ec6e73f57de5d7c9520bf259cf89346399843251e7a", func := "loop.example/g00985/laws.FnExactPredicateAll", spec := "fnExactPredicateAll", unfollowed := true, recurses := true, apart := false, narrowed := true }
def FnExactPredicateAllUptoSaid : Prop := fnExactPredicateAllUptoRow.holds Try.pinned (OpenSpec.upto fnExactPredicateAllSpec)

/-- 'laws.FnExactWarpNew', WHERE WHAT IT READS IS OF BULK AT MOST 1048576: true; the input reads as it did. -/
def fnExactWarpNewUptoRow : OpenClaim := { program := "ytdhifoacbpjpoaa", sum := "1f60337431367dba57b92ec6e73f57de5d7c9520bf259cf89346399843251e7a", func := "loop.example/g00985/laws.FnExactWarpNew", spec := "fnExactWarpNew", unfollowed := true, recurses := true, apart := false, narrowed := true }
def FnExactWarpNewUptoSaid : Prop := fnExactWarpNewUptoRow.holds Try.pinned (OpenSpec.upto fnExactWarpNewSpec)

/-- 'laws.FnExactWarpOk', WHERE WHAT IT READS IS OF BULK AT MOST 1048576: true; the input reads as it did. -/
def fnExactWarpOkUptoRow : OpenClaim := { program := "ytdhifoacbpjpoaa", sum := "1f60337431367dba57b92ec6e73f57de5d7c9520bf259cf89346399843251e7a", func := "loop.example/g00985/laws.FnExactWarpOk", spec := "fnExactWarpOk", unfollowed := true, recurses := true, apart := false, narrowed := true }
def FnExactWarpOkUptoSaid : Prop := fnExactWarpOkUptoRow.holds Try.pinned (OpenSpec.upto fnExactWarpOkSpec)

/-- 'laws.FnExactWarpEnded', WHERE WHAT IT READS IS OF BULK AT MOST 1048576: true; the input reads as it did. -/
def fnExactWarpEndedUptoRow : OpenClaim := { program := "ytdhifoacbpjpoaa", sum := "1f60337431367dba57b92ec6e73f57de5d7c9520bf259cf89346399843251e7a", func := "loop.example/g00985/laws.FnExactWarpEnded", spec := "fnExactWarpEnded", unfollowed := true, recurses := true, apart := false, narrowed := true }
def FnExactWarpEndedUptoSaid : Prop := fnExactWarpEndedUptoRow.holds Try.pinned (OpenSpec.upto fnExactWarpEndedSpec)

/-- 'laws.FnExactUniformAfter', WHERE WHAT IT READS IS OF BULK AT MOST 1048576: true; the input reads as it did. -/
def fnExactUniformAfterUptoRow : OpenClaim := { program := "ytdhifoacbpjpoaa", sum := "1f60337431367dba57b92ec6e73f57de5d7c9520bf259cf89346399843251e7a", func := "loop.example/g00985/laws.FnExactUniformAfter", spec := "fnExactUniformAfter", unfollowed := true, recurses := true, apart := false, narrowed := true }
def FnExactUniformAfterUptoSaid : Prop := fnExactUniformAfterUptoRow.holds Try.pinned (OpenSpec.upto fnExactUniformAfterSpec)

/-- 'laws.FnApplied', WHERE WHAT IT READS IS OF BULK AT MOST 1048576: true; the input reads as it did. -/
def fnAppliedUptoRow : OpenClaim := { program := "ytdhifoacbpjpoaa", sum := "1f60337431367dba57b92ec6e73f57de5d7c9520bf259cf89346399843251e7a", func := "loop.example/g00985/laws.FnApplied", spec := "fnApplied", unfollowed := true, recurses := true, apart := false, narrowed := true }
def FnAppliedUptoSaid : Prop := fnAppliedUptoRow.holds Try.pinned (OpenSpec.upto fnAppliedSpec)

end Rows
end Go.Proofs.Ytdhifoacbpjpoaa
