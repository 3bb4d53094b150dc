/-
  The program's AddCosts returns what the reference's returns, for all arguments.
  No condition.
-/
import Derived.Test.YtefpdcllckeoaaaPFnExactAddCostsx2
namespace Go.Proofs.Ytefpdcllckeoaaa.Pure
open Go.RowKit Go.Proofs.Ytefpdcllckeoaaa.PFnExactAddCosts Go.Proofs.YtefpdcllckeoaaaW.PrintWords Go.Proofs.YtefpdcllckeoaaaW.PrintLast Go.Proofs.YtefpdcllckeoaaaW.PrintMore

theorem FnExactAddCosts : laws_FnExactAddCosts.Pure := by
  intro a b c d e f _ _ _ _ _ _
  simp [laws_FnExactAddCosts.f, laws_toCost.f, spec_AddCosts.f, impl_AddCosts.f, laws_eqCost.f]

end Go.Proofs.Ytefpdcllckeoaaa.Pure
