/-
  The program's IdleLanes returns what the reference's returns, for all arguments.
  No condition.
-/
import Derived.Test.YtefpdcllckeoaaaPFnExactIdleLanesx1
namespace Go.Proofs.Ytefpdcllckeoaaa.Pure
open Go.RowKit Go.Proofs.Ytefpdcllckeoaaa.PFnExactIdleLanes Go.Proofs.YtefpdcllckeoaaaW.PrintWords Go.Proofs.YtefpdcllckeoaaaW.PrintLast Go.Proofs.YtefpdcllckeoaaaW.PrintMore

theorem within_eq : impl_within.f = spec_l01In.f := rfl
theorem in_some (x a b : Int) : spec_l01In.f x a b = some (decide (a ≤ x ∧ x ≤ b)) := by
  unfold spec_l01In.f
  by_cases h : a ≤ x
  · rw [if_pos h]; simp [h]
  · rw [if_neg h]; simp [h]
theorem idle_eq (a b c : Int) : impl_IdleLanes.f a b c = spec_IdleLanes.f a b c := by
  unfold impl_IdleLanes.f spec_IdleLanes.f; rw [within_eq]
theorem idle_some (a b c : Int) : ∃ r, spec_IdleLanes.f a b c = some r := by
  simp only [spec_IdleLanes.f, in_some, Option.bind_some]
  split
  · split <;> exact ⟨_, rfl⟩
  · exact ⟨_, rfl⟩
theorem FnExactIdleLanes : laws_FnExactIdleLanes.Pure := by
  intro a b c _ _ _
  obtain ⟨r, h⟩ := idle_some a b c
  simp only [laws_FnExactIdleLanes.f, laws_toCost.f, Option.bind_some, idle_eq, h, if_true]

end Go.Proofs.Ytefpdcllckeoaaa.Pure
