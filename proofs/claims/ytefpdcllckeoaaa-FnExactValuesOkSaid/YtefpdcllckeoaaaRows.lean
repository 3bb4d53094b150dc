/-
  No cell of these rows narrows 'for every input' (looked for: loops, veiled, ifaces, maps, wideKeys, modest, calm, conditions, laid).
  DERIVED. THE GIVEN ROWS OF THIS SEAT. 6 by the template 'for every input the law returns true; each argument reads behind the call as it read before'; 0 by the template 'total and deterministic' (their statements: YtefpdcllckeoaaaTotals.lean).
  GIVEN WITH THE SEED: the statements are not yours to turn. If you find one false, say at which input.
  Laid BY PROGRAM, IN A SANDBOX (cutbox-rows.mjs): the forced cells as the released guide's own fill.sh prints them over the translation e281fd53a55f4677… (all of the seat's roots in one cut). By AI agents, Wed Nov 11 2026. No macro, syntax, notation, axiom, sorry.
-/
import Derived.Test.YtefpdcllckeoaaaChecked
import GoSem.Claim
import GoSem.ClaimJoined
import GoSem.ClaimMapViews
import Derived.JoinedTies
import Derived.KernelRfl
namespace Go.Proofs.Ytefpdcllckeoaaa
/- THE CELL 'sum', in the pinned program and in every row, IS THE sha256 OF THE DUMP (.gsa) THAT YtefpdcllckeoaaaProg.lean LOADS. Nothing in Lean hashes anything: it is a label: what it is worth is what the hold of that sum in a sandbox is worth. -/
noncomputable def Try.pinned : Pinned := { name := "ytefpdcllckeoaaa", sum := "e281fd53a55f467741185617169a338df757ef2cbd41c9ca63cde0e9c6fa08f3", checked := Try.checked }
namespace Rows
def none {H : Type} : Left H := { results := [], args := [] }

/-- 'laws.FnExactIdleLanes': WHATEVER THE INPUT: true; the input reads as it did. -/
def fnExactIdleLanesSpec : ChangeSpec := { name := "fnExactIdleLanes", fn := fun _ => fun
  | [d] => { results := [.lit (.bool true)], args := [d] }
  | _ => none }
def fnExactIdleLanesRow : OpenClaim := { program := "ytefpdcllckeoaaa", sum := "e281fd53a55f467741185617169a338df757ef2cbd41c9ca63cde0e9c6fa08f3", func := "loop.example/g00985/laws.FnExactIdleLanes", spec := "fnExactIdleLanes", apart := false }
def FnExactIdleLanesSaid : Prop := fnExactIdleLanesRow.holds Try.pinned (OpenSpec.ofChange fnExactIdleLanesSpec)

/-- ITS FALSE NEIGHBOUR: 'it returns false'. Refute it at one input. -/
def fnExactIdleLanesWrong : ChangeSpec := { name := "fnExactIdleLanes", fn := fun _ => fun
  | [d] => { results := [.lit (.bool false)], args := [d] }
  | _ => none }
def FnExactIdleLanesWrongFalsely : Prop := fnExactIdleLanesRow.holds Try.pinned (OpenSpec.ofChange fnExactIdleLanesWrong)

/-- 'laws.FnExactNeutralOf': WHATEVER THE INPUT: true; the input reads as it did. -/
def fnExactNeutralOfSpec : ChangeSpec := { name := "fnExactNeutralOf", fn := fun _ => fun
  | [d] => { results := [.lit (.bool true)], args := [d] }
  | _ => none }
def fnExactNeutralOfRow : OpenClaim := { program := "ytefpdcllckeoaaa", sum := "e281fd53a55f467741185617169a338df757ef2cbd41c9ca63cde0e9c6fa08f3", func := "loop.example/g00985/laws.FnExactNeutralOf", spec := "fnExactNeutralOf", apart := false }
def FnExactNeutralOfSaid : Prop := fnExactNeutralOfRow.holds Try.pinned (OpenSpec.ofChange fnExactNeutralOfSpec)

/-- ITS FALSE NEIGHBOUR: 'it returns false'. Refute it at one input. -/
def fnExactNeutralOfWrong : ChangeSpec := { name := "fnExactNeutralOf", fn := fun _ => fun
  | [d] => { results := [.lit (.bool false)], args := [d] }
  | _ => none }
def FnExactNeutralOfWrongFalsely : Prop := fnExactNeutralOfRow.holds Try.pinned (OpenSpec.ofChange fnExactNeutralOfWrong)

/-- 'laws.FnExactAddCosts': WHATEVER THE INPUT: true; the input reads as it did. -/
def fnExactAddCostsSpec : ChangeSpec := { name := "fnExactAddCosts", fn := fun _ => fun
  | [d1, d2] => { results := [.lit (.bool true)], args := [d1, d2] }
  | _ => none }
def fnExactAddCostsRow : OpenClaim := { program := "ytefpdcllckeoaaa", sum := "e281fd53a55f467741185617169a338df757ef2cbd41c9ca63cde0e9c6fa08f3", func := "loop.example/g00985/laws.FnExactAddCosts", spec := "fnExactAddCosts", apart := false }
def FnExactAddCostsSaid : Prop := fnExactAddCostsRow.holds Try.pinned (OpenSpec.ofChange fnExactAddCostsSpec)

/-- ITS FALSE NEIGHBOUR: 'it returns false'. Refute it at one input. -/
def fnExactAddCostsWrong : ChangeSpec := { name := "fnExactAddCosts", fn := fun _ => fun
  | [d1, d2] => { results := [.lit (.bool false)], args := [d1, d2] }
  | _ => none }
def FnExactAddCostsWrongFalsely : Prop := fnExactAddCostsRow.holds Try.pinned (OpenSpec.ofChange fnExactAddCostsWrong)

/-- 'laws.FnExactEfficiency': WHATEVER THE INPUT: true; the input reads as it did. -/
def fnExactEfficiencySpec : ChangeSpec := { name := "fnExactEfficiency", fn := fun _ => fun
  | [d] => { results := [.lit (.bool true)], args := [d] }
  | _ => none }
def fnExactEfficiencyRow : OpenClaim := { program := "ytefpdcllckeoaaa", sum := "e281fd53a55f467741185617169a338df757ef2cbd41c9ca63cde0e9c6fa08f3", func := "loop.example/g00985/laws.FnExactEfficiency", spec := "fnExactEfficiency", apart := false }
def FnExactEfficiencySaid : Prop := fnExactEfficiencyRow.holds Try.pinned (OpenSpec.ofChange fnExactEfficiencySpec)

/-- ITS FALSE NEIGHBOUR: 'it returns false'. Refute it at one input. -/
def fnExactEfficiencyWrong : ChangeSpec := { name := "fnExactEfficiency", fn := fun _ => fun
  | [d] => { results := [.lit (.bool false)], args := [d] }
  | _ => none }
def FnExactEfficiencyWrongFalsely : Prop := fnExactEfficiencyRow.holds Try.pinned (OpenSpec.ofChange fnExactEfficiencyWrong)

/-- 'laws.FnExactLeader': WHATEVER THE INPUT: true; the input reads as it did. -/
def fnExactLeaderSpec : ChangeSpec := { name := "fnExactLeader", fn := fun _ => fun
  | [d] => { results := [.lit (.bool true)], args := [d] }
  | _ => none }
def fnExactLeaderRow : OpenClaim := { program := "ytefpdcllckeoaaa", sum := "e281fd53a55f467741185617169a338df757ef2cbd41c9ca63cde0e9c6fa08f3", func := "loop.example/g00985/laws.FnExactLeader", spec := "fnExactLeader", apart := false }
def FnExactLeaderSaid : Prop := fnExactLeaderRow.holds Try.pinned (OpenSpec.ofChange fnExactLeaderSpec)

/-- ITS FALSE NEIGHBOUR: 'it returns false'. Refute it at one input. -/
def fnExactLeaderWrong : ChangeSpec := { name := "fnExactLeader", fn := fun _ => fun
  | [d] => { results := [.lit (.bool false)], args := [d] }
  | _ => none }
def FnExactLeaderWrongFalsely : Prop := fnExactLeaderRow.holds Try.pinned (OpenSpec.ofChange fnExactLeaderWrong)

/-- 'laws.FnExactValuesOk': WHATEVER THE INPUT: true; the input reads as it did. -/
def fnExactValuesOkSpec : ChangeSpec := { name := "fnExactValuesOk", fn := fun _ => fun
  | [d] => { results := [.lit (.bool true)], args := [d] }
  | _ => none }
def fnExactValuesOkRow : OpenClaim := { program := "ytefpdcllckeoaaa", sum := "e281fd53a55f467741185617169a338df757ef2cbd41c9ca63cde0e9c6fa08f3", func := "loop.example/g00985/laws.FnExactValuesOk", spec := "fnExactValuesOk", unfollowed := true, recurses := true, apart := false }
def FnExactValuesOkSaid : Prop := fnExactValuesOkRow.holds Try.pinned (OpenSpec.ofChange fnExactValuesOkSpec)

/-- ITS FALSE NEIGHBOUR: 'it returns false'. Refute it at one input. -/
def fnExactValuesOkWrong : ChangeSpec := { name := "fnExactValuesOk", fn := fun _ => fun
  | [d] => { results := [.lit (.bool false)], args := [d] }
  | _ => none }
def FnExactValuesOkWrongFalsely : Prop := fnExactValuesOkRow.holds Try.pinned (OpenSpec.ofChange fnExactValuesOkWrong)

/- THE SECOND FORM. 'bulk': how many values and letters a reading holds, each counted each time it is reached (what is shared counts as often as it is met; a slice's spare places count too). A statement '..UptoSaid' is the law's where the arguments, and the package variables that the reading takes, are together of bulk at most 1048576: NARROWER than '..Said'. Prove '..Said' where nothing that the law and all that it calls make is longer than what came in: it says more and counts as full. Else prove '..UptoSaid'. A law counts once. -/
mutual
def uptoBulk {H : Type} : DataW H → Nat
  | .lit (.string bytes) => bytes.length + 1
  | .lit _ => 1
  | .nil => 1
  | .ptr d => uptoBulk d + 1
  | .slice elems spare => uptoBulkAll elems + uptoBulkAll spare + 1
  | .agg parts => uptoBulkAll parts + 1
  | .iface _ d => uptoBulk d + 1
  | .map entries => uptoBulkEntries entries + 1
  | .held _ => 1
def uptoBulkAll {H : Type} : List (DataW H) → Nat
  | [] => 0
  | d :: r => uptoBulk d + uptoBulkAll r
def uptoBulkEntries {H : Type} : List (Lit × DataW H) → Nat
  | [] => 0
  | x :: r => uptoBulkEntry x + uptoBulkEntries r
def uptoBulkEntry {H : Type} : Lit × DataW H → Nat
  | (.string bytes, d) => bytes.length + uptoBulk d + 1
  | (_, d) => uptoBulk d + 1
 end
def uptoSmall : (H : Type) → List (DataW H) → Bool := fun _ ds => decide (uptoBulkAll ds ≤ 1048576)
def OpenSpec.upto (s : _root_.Go.ChangeSpec) : _root_.Go.OpenSpec := { _root_.Go.OpenSpec.ofChange s with cond := some uptoSmall }

/-- 'laws.FnExactIdleLanes', WHERE WHAT IT READS IS OF BULK AT MOST 1048576: true; the input reads as it did. -/
def fnExactIdleLanesUptoRow : OpenClaim := { program := "ytefpdcllckeoaaa", sum := "e281fd53a55f467741185617169a338df757ef2cbd41c9ca63cde0e9c6fa08f3", func := "loop.example/g00985/laws.FnExactIdleLanes", spec := "fnExactIdleLanes", apart := false, narrowed := true }
def FnExactIdleLanesUptoSaid : Prop := fnExactIdleLanesUptoRow.holds Try.pinned (OpenSpec.upto fnExactIdleLanesSpec)

/-- 'laws.FnExactNeutralOf', WHERE WHAT IT READS IS OF BULK AT MOST 1048576: true; the input reads as it did. -/
def fnExactNeutralOfUptoRow : OpenClaim := { program := "ytefpdcllckeoaaa", sum := "e281fd53a55f467741185617169a338df757ef2cbd41c9ca63cde0e9c6fa08f3", func := "loop.example/g00985/laws.FnExactNeutralOf", spec := "fnExactNeutralOf", apart := false, narrowed := true }
def FnExactNeutralOfUptoSaid : Prop := fnExactNeutralOfUptoRow.holds Try.pinned (OpenSpec.upto fnExactNeutralOfSpec)

/-- 'laws.FnExactAddCosts', WHERE WHAT IT READS IS OF BULK AT MOST 1048576: true; the input reads as it did. -/
def fnExactAddCostsUptoRow : OpenClaim := { program := "ytefpdcllckeoaaa", sum := "e281fd53a55f467741185617169a338df757ef2cbd41c9ca63cde0e9c6fa08f3", func := "loop.example/g00985/laws.FnExactAddCosts", spec := "fnExactAddCosts", apart := false, narrowed := true }
def FnExactAddCostsUptoSaid : Prop := fnExactAddCostsUptoRow.holds Try.pinned (OpenSpec.upto fnExactAddCostsSpec)

/-- 'laws.FnExactEfficiency', WHERE WHAT IT READS IS OF BULK AT MOST 1048576: true; the input reads as it did. -/
def fnExactEfficiencyUptoRow : OpenClaim := { program := "ytefpdcllckeoaaa", sum := "e281fd53a55f467741185617169a338df757ef2cbd41c9ca63cde0e9c6fa08f3", func := "loop.example/g00985/laws.FnExactEfficiency", spec := "fnExactEfficiency", apart := false, narrowed := true }
def FnExactEfficiencyUptoSaid : Prop := fnExactEfficiencyUptoRow.holds Try.pinned (OpenSpec.upto fnExactEfficiencySpec)

/-- 'laws.FnExactLeader', WHERE WHAT IT READS IS OF BULK AT MOST 1048576: true; the input reads as it did. -/
def fnExactLeaderUptoRow : OpenClaim := { program := "ytefpdcllckeoaaa", sum := "e281fd53a55f467741185617169a338df757ef2cbd41c9ca63cde0e9c6fa08f3", func := "loop.example/g00985/laws.FnExactLeader", spec := "fnExactLeader", apart := false, narrowed := true }
def FnExactLeaderUptoSaid : Prop := fnExactLeaderUptoRow.holds Try.pinned (OpenSpec.upto fnExactLeaderSpec)

/-- 'laws.FnExactValuesOk', WHERE WHAT IT READS IS OF BULK AT MOST 1048576: true; the input reads as it did. -/
def fnExactValuesOkUptoRow : OpenClaim := { program := "ytefpdcllckeoaaa", sum := "e281fd53a55f467741185617169a338df757ef2cbd41c9ca63cde0e9c6fa08f3", func := "loop.example/g00985/laws.FnExactValuesOk", spec := "fnExactValuesOk", unfollowed := true, recurses := true, apart := false, narrowed := true }
def FnExactValuesOkUptoSaid : Prop := fnExactValuesOkUptoRow.holds Try.pinned (OpenSpec.upto fnExactValuesOkSpec)

end Rows
end Go.Proofs.Ytefpdcllckeoaaa
