/-
  The program's NeutralOf returns what the reference's returns, for every int.
  No condition.
-/
import Derived.Test.YtefpdcllckeoaaaPFnExactNeutralOfx1
namespace Go.Proofs.Ytefpdcllckeoaaa.Pure
open Go.RowKit Go.Proofs.Ytefpdcllckeoaaa.PFnExactNeutralOf Go.Proofs.YtefpdcllckeoaaaW.PrintWords Go.Proofs.YtefpdcllckeoaaaW.PrintLast

theorem FnExactNeutralOf : laws_FnExactNeutralOf.Pure := by
  intro a _
  have hw : impl_within.f = spec_l01In.f := rfl
  have hr : impl_isReduction.f a = spec_l21Op.f a := by unfold impl_isReduction.f spec_l21Op.f; rw [hw]
  have hn : impl_NeutralOf.f a = spec_NeutralOf.f a := by unfold impl_NeutralOf.f spec_NeutralOf.f; rw [hr]
  unfold laws_FnExactNeutralOf.f
  rw [hn]
  have hs : ∃ r, spec_NeutralOf.f a = some r := by
    unfold spec_NeutralOf.f spec_l21Op.f spec_l01In.f
    by_cases h : a ≥ 0
    · rw [if_pos h]; simp only [Option.bind_some]
      split
      · split <;> exact ⟨_, rfl⟩
      · exact ⟨_, rfl⟩
    · rw [if_neg h]; simp only [Option.bind_some]
      exact ⟨_, rfl⟩
  obtain ⟨r, h⟩ := hs
  rw [h]; simp

end Go.Proofs.Ytefpdcllckeoaaa.Pure
