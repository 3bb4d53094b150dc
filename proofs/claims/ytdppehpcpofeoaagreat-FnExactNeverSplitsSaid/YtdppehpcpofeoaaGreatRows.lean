/-
  No cell of these rows narrows 'for every input' (looked for: loops, veiled, ifaces, maps, wideKeys, modest, calm, conditions, laid).
  DERIVED. THE GIVEN ROWS OF THIS SEAT. 3 by the template 'for every input the law returns true; each argument reads behind the call as it read before'; 0 by the template 'total and deterministic' (their statements: YtdppehpcpofeoaaGreatTotals.lean).
  GIVEN WITH THE SEED: the statements are not yours to turn. If you find one false, say at which input.
  Laid BY PROGRAM, IN A SANDBOX (cutbox-rows.mjs): the forced cells as the released guide's own fill.sh prints them over the translation 40d8d8e86bf0457b… (all of the seat's roots in one cut). By AI agents, Wed Nov 11 2026. No macro, syntax, notation, axiom, sorry.
-/
import Derived.Test.YtdppehpcpofeoaaGreatChecked
import GoSem.Claim
import GoSem.ClaimJoined
import GoSem.ClaimMapViews
import Derived.JoinedTies
import Derived.KernelRfl
namespace Go.Proofs.YtdppehpcpofeoaaGreat
/- THE CELL 'sum', in the pinned program and in every row, IS THE sha256 OF THE DUMP (.gsa) THAT YtdppehpcpofeoaaGreatProg.lean LOADS. Nothing in Lean hashes anything: it is a label: what it is worth is what the hold of that sum in a sandbox is worth. -/
noncomputable def Tryz.pinned : Pinned := { name := "ytdppehpcpofeoaagreat", sum := "40d8d8e86bf0457b6322ff61e5f1f2ddfb5d7413a79b261027db4d936582f522", checked := Tryz.checked }
namespace Rows
def none {H : Type} : Left H := { results := [], args := [] }

/-- 'laws.FnExactMaySplit': WHATEVER THE INPUT: true; the input reads as it did. -/
def fnExactMaySplitSpec : ChangeSpec := { name := "fnExactMaySplit", fn := fun _ => fun
  | [d1, d2] => { results := [.lit (.bool true)], args := [d1, d2] }
  | _ => none }
def fnExactMaySplitRow : OpenClaim := { program := "ytdppehpcpofeoaagreat", sum := "40d8d8e86bf0457b6322ff61e5f1f2ddfb5d7413a79b261027db4d936582f522", func := "loop.example/g00985/laws.FnExactMaySplit", spec := "fnExactMaySplit", unfollowed := true, recurses := true, apart := false }
def FnExactMaySplitSaid : Prop := fnExactMaySplitRow.holds Tryz.pinned (OpenSpec.ofChange fnExactMaySplitSpec)

/-- ITS FALSE NEIGHBOUR: 'it returns false'. Refute it at one input. -/
def fnExactMaySplitWrong : ChangeSpec := { name := "fnExactMaySplit", fn := fun _ => fun
  | [d1, d2] => { results := [.lit (.bool false)], args := [d1, d2] }
  | _ => none }
def FnExactMaySplitWrongFalsely : Prop := fnExactMaySplitRow.holds Tryz.pinned (OpenSpec.ofChange fnExactMaySplitWrong)

/-- 'laws.FnExactNeverSplits': WHATEVER THE INPUT: true; the input reads as it did. -/
def fnExactNeverSplitsSpec : ChangeSpec := { name := "fnExactNeverSplits", fn := fun _ => fun
  | [d] => { results := [.lit (.bool true)], args := [d] }
  | _ => none }
def fnExactNeverSplitsRow : OpenClaim := { program := "ytdppehpcpofeoaagreat", sum := "40d8d8e86bf0457b6322ff61e5f1f2ddfb5d7413a79b261027db4d936582f522", func := "loop.example/g00985/laws.FnExactNeverSplits", spec := "fnExactNeverSplits", unfollowed := true, recurses := true, apart := false }
def FnExactNeverSplitsSaid : Prop := fnExactNeverSplitsRow.holds Tryz.pinned (OpenSpec.ofChange fnExactNeverSplitsSpec)

/-- ITS FALSE NEIGHBOUR: 'it returns false'. Refute it at one input. -/
def fnExactNeverSplitsWrong : ChangeSpec := { name := "fnExactNeverSplits", fn := fun _ => fun
  | [d] => { results := [.lit (.bool false)], args := [d] }
  | _ => none }
def FnExactNeverSplitsWrongFalsely : Prop := fnExactNeverSplitsRow.holds Tryz.pinned (OpenSpec.ofChange fnExactNeverSplitsWrong)

/-- 'laws.FnExactUniformAt': WHATEVER THE INPUT: true; the input reads as it did. -/
def fnExactUniformAtSpec : ChangeSpec := { name := "fnExactUniformAt", fn := fun _ => fun
  | [d] => { results := [.lit (.bool true)], args := [d] }
  | _ => none }
def fnExactUniformAtRow : OpenClaim := { program := "ytdppehpcpofeoaagreat", sum := "40d8d8e86bf0457b6322ff61e5f1f2ddfb5d7413a79b261027db4d936582f522", func := "loop.example/g00985/laws.FnExactUniformAt", spec := "fnExactUniformAt", unfollowed := true, recurses := true, apart := false }
def FnExactUniformAtSaid : Prop := fnExactUniformAtRow.holds Tryz.pinned (OpenSpec.ofChange fnExactUniformAtSpec)

/-- ITS FALSE NEIGHBOUR: 'it returns false'. Refute it at one input. -/
def fnExactUniformAtWrong : ChangeSpec := { name := "fnExactUniformAt", fn := fun _ => fun
  | [d] => { results := [.lit (.bool false)], args := [d] }
  | _ => none }
def FnExactUniformAtWrongFalsely : Prop := fnExactUniformAtRow.holds Tryz.pinned (OpenSpec.ofChange fnExactUniformAtWrong)

/- THE SECOND FORM. 'bulk': how many values and letters a reading holds, each counted each time it is reached (what is shared counts as often as it is met; a slice's spare places count too). A statement '..UptoSaid' is the law's where the arguments, and the package variables that the reading takes, are together of bulk at most 1048576: NARROWER than '..Said'. Prove '..Said' where nothing that the law and all that it calls make is longer than what came in: it says more and counts as full. Else prove '..UptoSaid'. A law counts once. -/
mutual
def uptoBulk {H : Type} : DataW H → Nat
  | .lit (.string bytes) => bytes.length + 1
  | .lit _ => 1
  | .nil => 1
  | .ptr d => uptoBulk d + 1
  | .slice elems spare => uptoBulkAll elems + uptoBulkAll spare + 1
  | .agg parts => uptoBulkAll parts + 1
  | .iface _ d => uptoBulk d + 1
  | .map entries => uptoBulkEntries entries + 1
  | .held _ => 1
def uptoBulkAll {H : Type} : List (DataW H) → Nat
  | [] => 0
  | d :: r => uptoBulk d + uptoBulkAll r
def uptoBulkEntries {H : Type} : List (Lit × DataW H) → Nat
  | [] => 0
  | x :: r => uptoBulkEntry x + uptoBulkEntries r
def uptoBulkEntry {H : Type} : Lit × DataW H → Nat
  | (.string bytes, d) => bytes.length + uptoBulk d + 1
  | (_, d) => uptoBulk d + 1
 end
def uptoSmall : (H : Type) → List (DataW H) → Bool := fun _ ds => decide (uptoBulkAll ds ≤ 1048576)
def OpenSpec.upto (s : _root_.Go.ChangeSpec) : _root_.Go.OpenSpec := { _root_.Go.OpenSpec.ofChange s with cond := some uptoSmall }

/-- 'laws.FnExactMaySplit', WHERE WHAT IT READS IS OF BULK AT MOST 1048576: true; the input reads as it did. -/
def fnExactMaySplitUptoRow : OpenClaim := { program := "ytdppehpcpofeoaagreat", sum := "40d8d8e86bf0457b6322ff61e5f1f2ddfb5d7413a79b261027db4d936582f522", func := "loop.example/g00985/laws.FnExactMaySplit", spec := "fnExactMaySplit", unfollowed := true, recurses := true, apart := false, narrowed := true }
def FnExactMaySplitUptoSaid : Prop := fnExactMaySplitUptoRow.holds Tryz.pinned (OpenSpec.upto fnExactMaySplitSpec)

/-- 'laws.FnExactNeverSplits', WHERE WHAT IT READS IS OF BULK AT MOST 1048576: true; the input reads as it did. -/
def fnExactNeverSplitsUptoRow : OpenClaim := { program := "ytdppehpcpofeoaagreat", sum := "40d8d8e86bf0457b6322ff61e5f1f2ddfb5d7413a79b261027db4d936582f522", func := "loop.example/g00985/laws.FnExactNeverSplits", spec := "fnExactNeverSplits", unfollowed := true, recurses := true, apart := false, narrowed := true }
def FnExactNeverSplitsUptoSaid : Prop := fnExactNeverSplitsUptoRow.holds Tryz.pinned (OpenSpec.upto fnExactNeverSplitsSpec)

/-- 'laws.FnExactUniformAt', WHERE WHAT IT READS IS OF BULK AT MOST 1048576: true; the input reads as it did. -/
def fnExactUniformAtUptoRow : OpenClaim := { program := "ytdppehpcpofeoaagreat", sum := "40d8d8e86bf0457b6322ff61e5f1f2ddfb5d7413a79b261027db4d936582f522", func := "loop.example/g00985/laws.FnExactUniformAt", spec := "fnExactUniformAt", unfollowed := true, recurses := true, apart := false, narrowed := true }
def FnExactUniformAtUptoSaid : Prop := fnExactUniformAtUptoRow.holds Tryz.pinned (OpenSpec.upto fnExactUniformAtSpec)

end Rows
end Go.Proofs.YtdppehpcpofeoaaGreat
