/-
  No cell of these rows narrows 'for every input' (looked for: loops, veiled, ifaces, maps, wideKeys, modest, calm, conditions, laid).
  DERIVED. THE GIVEN ROWS OF THIS SEAT. 12 by the template 'for every input the law returns true; each argument reads behind the call as it read before'; 0 by the template 'total and deterministic' (their statements: YtojioeaoeloieaaTotals.lean).
  GIVEN WITH THE SEED: the statements are not yours to turn. If you find one false, say at which input.
  Laid BY PROGRAM, IN A SANDBOX (cutbox-rows.mjs): the forced cells as the released guide's own fill.sh prints them over the translation d1af6718d81d687b… (all of the seat's roots in one cut). By AI agents, Wed Nov 11 2026. No macro, syntax, notation, axiom, sorry.
-/
import Derived.Test.YtojioeaoeloieaaChecked
import GoSem.Claim
import GoSem.ClaimJoined
import GoSem.ClaimMapViews
import Derived.JoinedTies
import Derived.KernelRfl
namespace Go.Proofs.Ytojioeaoeloieaa
/- THE CELL 'sum', in the pinned program and in every row, IS THE sha256 OF THE DUMP (.gsa) THAT YtojioeaoeloieaaProg.lean LOADS. Nothing in Lean hashes anything: it is a label: what it is worth is what the hold of that sum in a sandbox is worth. -/
noncomputable def Try.pinned : Pinned := { name := "ytojioeaoeloieaa", sum := "d1af6718d81d687b0e3526d6fb90aa952ef0ff00d501994e1d823d5ab32dea7a", checked := Try.checked }
namespace Rows
def none {H : Type} : Left H := { results := [], args := [] }

/-- 'laws.FnExactIsPermutation': WHATEVER THE INPUT: true; the input reads as it did. -/
def fnExactIsPermutationSpec : ChangeSpec := { name := "fnExactIsPermutation", fn := fun _ => fun
  | [d] => { results := [.lit (.bool true)], args := [d] }
  | _ => none }
def fnExactIsPermutationRow : OpenClaim := { program := "ytojioeaoeloieaa", sum := "d1af6718d81d687b0e3526d6fb90aa952ef0ff00d501994e1d823d5ab32dea7a", func := "loop.example/g00985/laws.FnExactIsPermutation", spec := "fnExactIsPermutation", apart := false }
def FnExactIsPermutationSaid : Prop := fnExactIsPermutationRow.holds Try.pinned (OpenSpec.ofChange fnExactIsPermutationSpec)

/-- ITS FALSE NEIGHBOUR: 'it returns false'. Refute it at one input. -/
def fnExactIsPermutationWrong : ChangeSpec := { name := "fnExactIsPermutation", fn := fun _ => fun
  | [d] => { results := [.lit (.bool false)], args := [d] }
  | _ => none }
def FnExactIsPermutationWrongFalsely : Prop := fnExactIsPermutationRow.holds Try.pinned (OpenSpec.ofChange fnExactIsPermutationWrong)

/-- 'laws.FnExactInversePermutation': WHATEVER THE INPUT: true; the input reads as it did. -/
def fnExactInversePermutationSpec : ChangeSpec := { name := "fnExactInversePermutation", fn := fun _ => fun
  | [d] => { results := [.lit (.bool true)], args := [d] }
  | _ => none }
def fnExactInversePermutationRow : OpenClaim := { program := "ytojioeaoeloieaa", sum := "d1af6718d81d687b0e3526d6fb90aa952ef0ff00d501994e1d823d5ab32dea7a", func := "loop.example/g00985/laws.FnExactInversePermutation", spec := "fnExactInversePermutation", apart := false }
def FnExactInversePermutationSaid : Prop := fnExactInversePermutationRow.holds Try.pinned (OpenSpec.ofChange fnExactInversePermutationSpec)

/-- ITS FALSE NEIGHBOUR: 'it returns false'. Refute it at one input. -/
def fnExactInversePermutationWrong : ChangeSpec := { name := "fnExactInversePermutation", fn := fun _ => fun
  | [d] => { results := [.lit (.bool false)], args := [d] }
  | _ => none }
def FnExactInversePermutationWrongFalsely : Prop := fnExactInversePermutationRow.holds Try.pinned (OpenSpec.ofChange fnExactInversePermutationWrong)

/-- 'laws.FnExactShuffle': WHATEVER THE INPUT: true; the input reads as it did. -/
def fnExactShuffleSpec : ChangeSpec := { name := "fnExactShuffle", fn := fun _ => fun
  | [d1, d2] => { results := [.lit (.bool true)], args := [d1, d2] }
  | _ => none }
def fnExactShuffleRow : OpenClaim := { program := "ytojioeaoeloieaa", sum := "d1af6718d81d687b0e3526d6fb90aa952ef0ff00d501994e1d823d5ab32dea7a", func := "loop.example/g00985/laws.FnExactShuffle", spec := "fnExactShuffle", unfollowed := true, recurses := true, apart := false }
def FnExactShuffleSaid : Prop := fnExactShuffleRow.holds Try.pinned (OpenSpec.ofChange fnExactShuffleSpec)

/-- ITS FALSE NEIGHBOUR: 'it returns false'. Refute it at one input. -/
def fnExactShuffleWrong : ChangeSpec := { name := "fnExactShuffle", fn := fun _ => fun
  | [d1, d2] => { results := [.lit (.bool false)], args := [d1, d2] }
  | _ => none }
def FnExactShuffleWrongFalsely : Prop := fnExactShuffleRow.holds Try.pinned (OpenSpec.ofChange fnExactShuffleWrong)

/-- 'laws.FnExactBallot': WHATEVER THE INPUT: true; the input reads as it did. -/
def fnExactBallotSpec : ChangeSpec := { name := "fnExactBallot", fn := fun _ => fun
  | [d1, d2] => { results := [.lit (.bool true)], args := [d1, d2] }
  | _ => none }
def fnExactBallotRow : OpenClaim := { program := "ytojioeaoeloieaa", sum := "d1af6718d81d687b0e3526d6fb90aa952ef0ff00d501994e1d823d5ab32dea7a", func := "loop.example/g00985/laws.FnExactBallot", spec := "fnExactBallot", unfollowed := true, recurses := true, apart := false }
def FnExactBallotSaid : Prop := fnExactBallotRow.holds Try.pinned (OpenSpec.ofChange fnExactBallotSpec)

/-- ITS FALSE NEIGHBOUR: 'it returns false'. Refute it at one input. -/
def fnExactBallotWrong : ChangeSpec := { name := "fnExactBallot", fn := fun _ => fun
  | [d1, d2] => { results := [.lit (.bool false)], args := [d1, d2] }
  | _ => none }
def FnExactBallotWrongFalsely : Prop := fnExactBallotRow.holds Try.pinned (OpenSpec.ofChange fnExactBallotWrong)

/-- 'laws.FnExactMatchMask': WHATEVER THE INPUT: true; the input reads as it did. -/
def fnExactMatchMaskSpec : ChangeSpec := { name := "fnExactMatchMask", fn := fun _ => fun
  | [d1, d2, d3] => { results := [.lit (.bool true)], args := [d1, d2, d3] }
  | _ => none }
def fnExactMatchMaskRow : OpenClaim := { program := "ytojioeaoeloieaa", sum := "d1af6718d81d687b0e3526d6fb90aa952ef0ff00d501994e1d823d5ab32dea7a", func := "loop.example/g00985/laws.FnExactMatchMask", spec := "fnExactMatchMask", unfollowed := true, recurses := true, apart := false }
def FnExactMatchMaskSaid : Prop := fnExactMatchMaskRow.holds Try.pinned (OpenSpec.ofChange fnExactMatchMaskSpec)

/-- ITS FALSE NEIGHBOUR: 'it returns false'. Refute it at one input. -/
def fnExactMatchMaskWrong : ChangeSpec := { name := "fnExactMatchMask", fn := fun _ => fun
  | [d1, d2, d3] => { results := [.lit (.bool false)], args := [d1, d2, d3] }
  | _ => none }
def FnExactMatchMaskWrongFalsely : Prop := fnExactMatchMaskRow.holds Try.pinned (OpenSpec.ofChange fnExactMatchMaskWrong)

/-- 'laws.FnMatches': WHATEVER THE INPUT: true; the input reads as it did. -/
def fnMatchesSpec : ChangeSpec := { name := "fnMatches", fn := fun _ => fun
  | [d] => { results := [.lit (.bool true)], args := [d] }
  | _ => none }
def fnMatchesRow : OpenClaim := { program := "ytojioeaoeloieaa", sum := "d1af6718d81d687b0e3526d6fb90aa952ef0ff00d501994e1d823d5ab32dea7a", func := "loop.example/g00985/laws.FnMatches", spec := "fnMatches", unfollowed := true, recurses := true, apart := false }
def FnMatchesSaid : Prop := fnMatchesRow.holds Try.pinned (OpenSpec.ofChange fnMatchesSpec)

/-- ITS FALSE NEIGHBOUR: 'it returns false'. Refute it at one input. -/
def fnMatchesWrong : ChangeSpec := { name := "fnMatches", fn := fun _ => fun
  | [d] => { results := [.lit (.bool false)], args := [d] }
  | _ => none }
def FnMatchesWrongFalsely : Prop := fnMatchesRow.holds Try.pinned (OpenSpec.ofChange fnMatchesWrong)

/-- 'laws.FnExactVoteAny': WHATEVER THE INPUT: true; the input reads as it did. -/
def fnExactVoteAnySpec : ChangeSpec := { name := "fnExactVoteAny", fn := fun _ => fun
  | [d1, d2] => { results := [.lit (.bool true)], args := [d1, d2] }
  | _ => none }
def fnExactVoteAnyRow : OpenClaim := { program := "ytojioeaoeloieaa", sum := "d1af6718d81d687b0e3526d6fb90aa952ef0ff00d501994e1d823d5ab32dea7a", func := "loop.example/g00985/laws.FnExactVoteAny", spec := "fnExactVoteAny", unfollowed := true, recurses := true, apart := false }
def FnExactVoteAnySaid : Prop := fnExactVoteAnyRow.holds Try.pinned (OpenSpec.ofChange fnExactVoteAnySpec)

/-- ITS FALSE NEIGHBOUR: 'it returns false'. Refute it at one input. -/
def fnExactVoteAnyWrong : ChangeSpec := { name := "fnExactVoteAny", fn := fun _ => fun
  | [d1, d2] => { results := [.lit (.bool false)], args := [d1, d2] }
  | _ => none }
def FnExactVoteAnyWrongFalsely : Prop := fnExactVoteAnyRow.holds Try.pinned (OpenSpec.ofChange fnExactVoteAnyWrong)

/-- 'laws.FnShufflesUp': WHATEVER THE INPUT: true; the input reads as it did. -/
def fnShufflesUpSpec : ChangeSpec := { name := "fnShufflesUp", fn := fun _ => fun
  | [d] => { results := [.lit (.bool true)], args := [d] }
  | _ => none }
def fnShufflesUpRow : OpenClaim := { program := "ytojioeaoeloieaa", sum := "d1af6718d81d687b0e3526d6fb90aa952ef0ff00d501994e1d823d5ab32dea7a", func := "loop.example/g00985/laws.FnShufflesUp", spec := "fnShufflesUp", unfollowed := true, recurses := true, apart := false }
def FnShufflesUpSaid : Prop := fnShufflesUpRow.holds Try.pinned (OpenSpec.ofChange fnShufflesUpSpec)

/-- ITS FALSE NEIGHBOUR: 'it returns false'. Refute it at one input. -/
def fnShufflesUpWrong : ChangeSpec := { name := "fnShufflesUp", fn := fun _ => fun
  | [d] => { results := [.lit (.bool false)], args := [d] }
  | _ => none }
def FnShufflesUpWrongFalsely : Prop := fnShufflesUpRow.holds Try.pinned (OpenSpec.ofChange fnShufflesUpWrong)

/-- 'laws.FnExactVoteAll': WHATEVER THE INPUT: true; the input reads as it did. -/
def fnExactVoteAllSpec : ChangeSpec := { name := "fnExactVoteAll", fn := fun _ => fun
  | [d1, d2] => { results := [.lit (.bool true)], args := [d1, d2] }
  | _ => none }
def fnExactVoteAllRow : OpenClaim := { program := "ytojioeaoeloieaa", sum := "d1af6718d81d687b0e3526d6fb90aa952ef0ff00d501994e1d823d5ab32dea7a", func := "loop.example/g00985/laws.FnExactVoteAll", spec := "fnExactVoteAll", unfollowed := true, recurses := true, apart := false }
def FnExactVoteAllSaid : Prop := fnExactVoteAllRow.holds Try.pinned (OpenSpec.ofChange fnExactVoteAllSpec)

/-- ITS FALSE NEIGHBOUR: 'it returns false'. Refute it at one input. -/
def fnExactVoteAllWrong : ChangeSpec := { name := "fnExactVoteAll", fn := fun _ => fun
  | [d1, d2] => { results := [.lit (.bool false)], args := [d1, d2] }
  | _ => none }
def FnExactVoteAllWrongFalsely : Prop := fnExactVoteAllRow.holds Try.pinned (OpenSpec.ofChange fnExactVoteAllWrong)

/-- 'laws.FnExactRotate': WHATEVER THE INPUT: true; the input reads as it did. -/
def fnExactRotateSpec : ChangeSpec := { name := "fnExactRotate", fn := fun _ => fun
  | [d1, d2] => { results := [.lit (.bool true)], args := [d1, d2] }
  | _ => none }
def fnExactRotateRow : OpenClaim := { program := "ytojioeaoeloieaa", sum := "d1af6718d81d687b0e3526d6fb90aa952ef0ff00d501994e1d823d5ab32dea7a", func := "loop.example/g00985/laws.FnExactRotate", spec := "fnExactRotate", unfollowed := true, recurses := true, apart := false }
def FnExactRotateSaid : Prop := fnExactRotateRow.holds Try.pinned (OpenSpec.ofChange fnExactRotateSpec)

/-- ITS FALSE NEIGHBOUR: 'it returns false'. Refute it at one input. -/
def fnExactRotateWrong : ChangeSpec := { name := "fnExactRotate", fn := fun _ => fun
  | [d1, d2] => { results := [.lit (.bool false)], args := [d1, d2] }
  | _ => none }
def FnExactRotateWrongFalsely : Prop := fnExactRotateRow.holds Try.pinned (OpenSpec.ofChange fnExactRotateWrong)

/-- 'laws.FnExactShuffleUp': WHATEVER THE INPUT: true; the input reads as it did. -/
def fnExactShuffleUpSpec : ChangeSpec := { name := "fnExactShuffleUp", fn := fun _ => fun
  | [d1, d2] => { results := [.lit (.bool true)], args := [d1, d2] }
  | _ => none }
def fnExactShuffleUpRow : OpenClaim := { program := "ytojioeaoeloieaa", sum := "d1af6718d81d687b0e3526d6fb90aa952ef0ff00d501994e1d823d5ab32dea7a", func := "loop.example/g00985/laws.FnExactShuffleUp", spec := "fnExactShuffleUp", unfollowed := true, recurses := true, apart := false }
def FnExactShuffleUpSaid : Prop := fnExactShuffleUpRow.holds Try.pinned (OpenSpec.ofChange fnExactShuffleUpSpec)

/-- ITS FALSE NEIGHBOUR: 'it returns false'. Refute it at one input. -/
def fnExactShuffleUpWrong : ChangeSpec := { name := "fnExactShuffleUp", fn := fun _ => fun
  | [d1, d2] => { results := [.lit (.bool false)], args := [d1, d2] }
  | _ => none }
def FnExactShuffleUpWrongFalsely : Prop := fnExactShuffleUpRow.holds Try.pinned (OpenSpec.ofChange fnExactShuffleUpWrong)

/-- 'laws.FnExactShuffleXor': WHATEVER THE INPUT: true; the input reads as it did. -/
def fnExactShuffleXorSpec : ChangeSpec := { name := "fnExactShuffleXor", fn := fun _ => fun
  | [d1, d2] => { results := [.lit (.bool true)], args := [d1, d2] }
  | _ => none }
def fnExactShuffleXorRow : OpenClaim := { program := "ytojioeaoeloieaa", sum := "d1af6718d81d687b0e3526d6fb90aa952ef0ff00d501994e1d823d5ab32dea7a", func := "loop.example/g00985/laws.FnExactShuffleXor", spec := "fnExactShuffleXor", unfollowed := true, recurses := true, apart := false }
def FnExactShuffleXorSaid : Prop := fnExactShuffleXorRow.holds Try.pinned (OpenSpec.ofChange fnExactShuffleXorSpec)

/-- ITS FALSE NEIGHBOUR: 'it returns false'. Refute it at one input. -/
def fnExactShuffleXorWrong : ChangeSpec := { name := "fnExactShuffleXor", fn := fun _ => fun
  | [d1, d2] => { results := [.lit (.bool false)], args := [d1, d2] }
  | _ => none }
def FnExactShuffleXorWrongFalsely : Prop := fnExactShuffleXorRow.holds Try.pinned (OpenSpec.ofChange fnExactShuffleXorWrong)

/- THE SECOND FORM. 'bulk': how many values and letters a reading holds, each counted each time it is reached (what is shared counts as often as it is met; a slice's spare places count too). A statement '..UptoSaid' is the law's where the arguments, and the package variables that the reading takes, are together of bulk at most 1048576: NARROWER than '..Said'. Prove '..Said' where nothing that the law and all that it calls make is longer than what came in: it says more and counts as full. Else prove '..UptoSaid'. A law counts once. -/
mutual
def uptoBulk {H : Type} : DataW H → Nat
  | .lit (.string bytes) => bytes.length + 1
  | .lit _ => 1
  | .nil => 1
  | .ptr d => uptoBulk d + 1
  | .slice elems spare => uptoBulkAll elems + uptoBulkAll spare + 1
  | .agg parts => uptoBulkAll parts + 1
  | .iface _ d => uptoBulk d + 1
  | .map entries => uptoBulkEntries entries + 1
  | .held _ => 1
def uptoBulkAll {H : Type} : List (DataW H) → Nat
  | [] => 0
  | d :: r => uptoBulk d + uptoBulkAll r
def uptoBulkEntries {H : Type} : List (Lit × DataW H) → Nat
  | [] => 0
  | x :: r => uptoBulkEntry x + uptoBulkEntries r
def uptoBulkEntry {H : Type} : Lit × DataW H → Nat
  | (.string bytes, d) => bytes.length + uptoBulk d + 1
  | (_, d) => uptoBulk d + 1
 end
def uptoSmall : (H : Type) → List (DataW H) → Bool := fun _ ds => decide (uptoBulkAll ds ≤ 1048576)
def OpenSpec.upto (s : _root_.Go.ChangeSpec) : _root_.Go.OpenSpec := { _root_.Go.OpenSpec.ofChange s with cond := some uptoSmall }

/-- 'laws.FnExactIsPermutation', WHERE WHAT IT READS IS OF BULK AT MOST 1048576: true; the input reads as it did. -/
def fnExactIsPermutationUptoRow : OpenClaim := { program := "ytojioeaoeloieaa", sum := "d1af6718d81d687b0e3526d6fb90aa952ef0ff00d501994e1d823d5ab32dea7a", func := "loop.example/g00985/laws.FnExactIsPermutation", spec := "fnExactIsPermutation", apart := false, narrowed := true }
def FnExactIsPermutationUptoSaid : Prop := fnExactIsPermutationUptoRow.holds Try.pinned (OpenSpec.upto fnExactIsPermutationSpec)

/-- 'laws.FnExactInversePermutation', WHERE WHAT IT READS IS OF BULK AT MOST 1048576: true; the input reads as it did. -/
def fnExactInversePermutationUptoRow : OpenClaim := { program := "ytojioeaoeloieaa", sum := "d1af6718d81d687b0e3526d6fb90aa952ef0ff00d501994e1d823d5ab32dea7a", func := "loop.example/g00985/laws.FnExactInversePermutation", spec := "fnExactInversePermutation", apart := false, narrowed := true }
def FnExactInversePermutationUptoSaid : Prop := fnExactInversePermutationUptoRow.holds Try.pinned (OpenSpec.upto fnExactInversePermutationSpec)

/-- 'laws.FnExactShuffle', WHERE WHAT IT READS IS OF BULK AT MOST 1048576: true; the input reads as it did. -/
def fnExactShuffleUptoRow : OpenClaim := { program := "ytojioeaoeloieaa", sum := "d1af6718d81d687b0e3526d6fb90aa952ef0ff00d501994e1d823d5ab32dea7a", func := "loop.example/g00985/laws.FnExactShuffle", spec := "fnExactShuffle", unfollowed := true, recurses := true, apart := false, narrowed := true }
def FnExactShuffleUptoSaid : Prop := fnExactShuffleUptoRow.holds Try.pinned (OpenSpec.upto fnExactShuffleSpec)

/-- 'laws.FnExactBallot', WHERE WHAT IT READS IS OF BULK AT MOST 1048576: true; the input reads as it did. -/
def fnExactBallotUptoRow : OpenClaim := { program := "ytojioeaoeloieaa", sum := "d1af6718d81d687b0e3526d6fb90aa952ef0ff00d501994e1d823d5ab32dea7a", func := "loop.example/g00985/laws.FnExactBallot", spec := "fnExactBallot", unfollowed := true, recurses := true, apart := false, narrowed := true }
def FnExactBallotUptoSaid : Prop := fnExactBallotUptoRow.holds Try.pinned (OpenSpec.upto fnExactBallotSpec)

/-- 'laws.FnExactMatchMask', WHERE WHAT IT READS IS OF BULK AT MOST 1048576: true; the input reads as it did. -/
def fnExactMatchMaskUptoRow : OpenClaim := { program := "ytojioeaoeloieaa", sum := "d1af6718d81d687b0e3526d6fb90aa952ef0ff00d501994e1d823d5ab32dea7a", func := "loop.example/g00985/laws.FnExactMatchMask", spec := "fnExactMatchMask", unfollowed := true, recurses := true, apart := false, narrowed := true }
def FnExactMatchMaskUptoSaid : Prop := fnExactMatchMaskUptoRow.holds Try.pinned (OpenSpec.upto fnExactMatchMaskSpec)

/-- 'laws.FnMatches', WHERE WHAT IT READS IS OF BULK AT MOST 1048576: true; the input reads as it did. -/
def fnMatchesUptoRow : OpenClaim := { program := "ytojioeaoeloieaa", sum := "d1af6718d81d687b0e3526d6fb90aa952ef0ff00d501994e1d823d5ab32dea7a", func := "loop.example/g00985/laws.FnMatches", spec := "fnMatches", unfollowed := true, recurses := true, apart := false, narrowed := true }
def FnMatchesUptoSaid : Prop := fnMatchesUptoRow.holds Try.pinned (OpenSpec.upto fnMatchesSpec)

/-- 'laws.FnExactVoteAny', WHERE WHAT IT READS IS OF BULK AT MOST 1048576: true; the input reads as it did. -/
def fnExactVoteAnyUptoRow : OpenClaim := { program := "ytojioeaoeloieaa", sum := "d1af6718d81d687b0e3526d6fb90aa952ef0ff00d501994e1d823d5ab32dea7a", func := "loop.example/g00985/laws.FnExactVoteAny", spec := "fnExactVoteAny", unfollowed := true, recurses := true, apart := false, narrowed := true }
def FnExactVoteAnyUptoSaid : Prop := fnExactVoteAnyUptoRow.holds Try.pinned (OpenSpec.upto fnExactVoteAnySpec)

/-- 'laws.FnShufflesUp', WHERE WHAT IT READS IS OF BULK AT MOST 1048576: true; the input reads as it did. -/
def fnShufflesUpUptoRow : OpenClaim := { program := "ytojioeaoeloieaa", sum := "d1af6718d81d687b0e3526d6fb90aa952ef0ff00d501994e1d823d5ab32dea7a", func := "loop.example/g00985/laws.FnShufflesUp", spec := "fnShufflesUp", unfollowed := true, recurses := true, apart := false, narrowed := true }
def FnShufflesUpUptoSaid : Prop := fnShufflesUpUptoRow.holds Try.pinned (OpenSpec.upto fnShufflesUpSpec)

/-- 'laws.FnExactVoteAll', WHERE WHAT IT READS IS OF BULK AT MOST 1048576: true; the input reads as it did. -/
def fnExactVoteAllUptoRow : OpenClaim := { program := "ytojioeaoeloieaa", sum := "d1af6718d81d687b0e3526d6fb90aa952ef0ff00d501994e1d823d5ab32dea7a", func := "loop.example/g00985/laws.FnExactVoteAll", spec := "fnExactVoteAll", unfollowed := true, recurses := true, apart := false, narrowed := true }
def FnExactVoteAllUptoSaid : Prop := fnExactVoteAllUptoRow.holds Try.pinned (OpenSpec.upto fnExactVoteAllSpec)

/-- 'laws.FnExactRotate', WHERE WHAT IT READS IS OF BULK AT MOST 1048576: true; the input reads as it did. -/
def fnExactRotateUptoRow : OpenClaim := { program := "ytojioeaoeloieaa", sum := "d1af6718d81d687b0e3526d6fb90aa952ef0ff00d501994e1d823d5ab32dea7a", func := "loop.example/g00985/laws.FnExactRotate", spec := "fnExactRotate", unfollowed := true, recurses := true, apart := false, narrowed := true }
def FnExactRotateUptoSaid : Prop := fnExactRotateUptoRow.holds Try.pinned (OpenSpec.upto fnExactRotateSpec)

/-- 'laws.FnExactShuffleUp', WHERE WHAT IT READS IS OF BULK AT MOST 1048576: true; the input reads as it did. -/
def fnExactShuffleUpUptoRow : OpenClaim := { program := "ytojioeaoeloieaa", sum := "d1af6718d81d687b0e3526d6fb90aa952ef0ff00d501994e1d823d5ab32dea7a", func := "loop.example/g00985/laws.FnExactShuffleUp", spec := "fnExactShuffleUp", unfollowed := true, recurses := true, apart := false, narrowed := true }
def FnExactShuffleUpUptoSaid : Prop := fnExactShuffleUpUptoRow.holds Try.pinned (OpenSpec.upto fnExactShuffleUpSpec)

/-- 'laws.FnExactShuffleXor', WHERE WHAT IT READS IS OF BULK AT MOST 1048576: true; the input reads as it did. -/
def fnExactShuffleXorUptoRow : OpenClaim := { program := "ytojioeaoeloieaa", sum := "d1af6718d81d687b0e3526d6fb90aa952ef0ff00d501994e1d823d5ab32dea7a", func := "loop.example/g00985/laws.FnExactShuffleXor", spec := "fnExactShuffleXor", unfollowed := true, recurses := true, apart := false, narrowed := true }
def FnExactShuffleXorUptoSaid : Prop := fnExactShuffleXorUptoRow.holds Try.pinned (OpenSpec.upto fnExactShuffleXorSpec)

end Rows
end Go.Proofs.Ytojioeaoeloieaa
