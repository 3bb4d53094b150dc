-- Written by myprint.py (a program of this session, over the kit's print): not trusted, Lean checks it.
import Derived.Test.YtdhifoacbpjpoaaProg
import Derived.Below
import Derived.Deep.Draws
import Derived.Deep.AppendLies
import Derived.Maps.AppendAt
import Derived.OwnWalk
import Derived.Laws.BytesArg
import Derived.Laws.MakeOwn
import Derived.Laws.OwnMore
import Derived.Deep.OwnRows
import Derived.Tactics
import Derived.Lib.ConvBytes
import Derived.Laws.Slices
import Derived.WalkKit
import Derived.KernelRfl
import Derived.RowKit3
import Derived.Deep.LoopGhost
import Derived.Deep.QuietTactic
import Derived.BigQuiet
import Derived.WideLaws
import Derived.Deep.DeepCutAuto
import Derived.Deep.CutBlock
import Derived.Deep.RegionHeld3
import Derived.Laws.Rows
import Derived.Lib.AppendStr
import Derived.ArgAppend
import Derived.Laws.IdiomCopy
import Derived.OrdersHeld
import Derived.Laws.BitsLemmas
import Derived.RowKit
import Derived.Shelf.Abstract
import Derived.WalkSpells
import Derived.Test.YtdhifoacbpjpoaaWWords
import Derived.Test.YtdhifoacbpjpoaaWLast
import Derived.Test.YtdhifoacbpjpoaaWTab
import Derived.Test.YtdhifoacbpjpoaaWFour
import Derived.Test.YtdhifoacbpjpoaaWQPut
import Derived.Test.YtdhifoacbpjpoaaWApart
import Derived.Test.YtdhifoacbpjpoaaWArr
import Derived.Test.YtdhifoacbpjpoaaWZeros
import Derived.Test.YtdhifoacbpjpoaaWFoot
import Derived.Test.YtdhifoacbpjpoaaWKept
import Derived.Test.YtdhifoacbpjpoaaWShare
import Derived.Test.YtdhifoacbpjpoaaWN
import Derived.Test.YtdhifoacbpjpoaaWFootNe
import Derived.Test.YtdhifoacbpjpoaaWAt
import Derived.Test.YtdhifoacbpjpoaaWEqStruct
import Derived.Test.YtdhifoacbpjpoaaWRepsOne
import Derived.Test.YtdhifoacbpjpoaaWInv
import Derived.Test.YtdhifoacbpjpoaaWInvWords
import Derived.Test.YtdhifoacbpjpoaaWGuard
import Derived.Test.YtdhifoacbpjpoaaWNEv
import Derived.Test.YtdhifoacbpjpoaaWMore
namespace Go.Proofs.Ytdhifoacbpjpoaa.PFnExactUniformAfter
open Go.RowKit Go.Proofs.YtdhifoacbpjpoaaW.PrintWords Go.Proofs.YtdhifoacbpjpoaaW.PrintLast Go.Proofs.YtdhifoacbpjpoaaW.PrintMore
attribute [local go_sem] max2_int min2_int max_two min_two max_three min_three max_four min_four   -- for this text's walks alone
set_option linter.unusedVariables false
set_option linter.unusedSimpArgs false



def errW : Option Int → Value
  | none => .nilIface
  | some c => .iface 0 (.int .i64 c)
theorem errW_none : errW none = .nilIface := rfl
theorem errW_some (c : Int) : errW (some c) = .iface 0 (.int .i64 c) := rfl

theorem info3 : (Try.prog.info? 3).map (fun i => (i.zero, i.size, i.bytes)) = some (some (.int .i64 0), 1, 8) := by kernel_rfl
theorem info9 : (Try.prog.info? 9).map (fun i => (i.zero, i.size, i.bytes)) = some (some (.string ⟨#[]⟩), 1, 16) := by kernel_rfl
-- the values' own types

end Go.Proofs.Ytdhifoacbpjpoaa.PFnExactUniformAfter
