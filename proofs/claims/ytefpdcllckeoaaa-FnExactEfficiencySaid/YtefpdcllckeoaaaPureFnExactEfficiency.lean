/-
  The program's Efficiency returns what the reference's returns, for all arguments.
  No condition.
-/
import Derived.Test.YtefpdcllckeoaaaPFnExactEfficiencyx1
namespace Go.Proofs.Ytefpdcllckeoaaa.Pure
open Go.RowKit Go.Proofs.Ytefpdcllckeoaaa.PFnExactEfficiency Go.Proofs.YtefpdcllckeoaaaW.PrintWords Go.Proofs.YtefpdcllckeoaaaW.PrintLast Go.Proofs.YtefpdcllckeoaaaW.PrintMore

theorem within_eq : impl_within.f = spec_l01In.f := rfl
theorem in_some (x a b : Int) : spec_l01In.f x a b = some (decide (a ≤ x ∧ x ≤ b)) := by
  unfold spec_l01In.f
  by_cases h : a ≤ x
  · rw [if_pos h]; simp [h]
  · rw [if_neg h]; simp [h]
theorem idle_eq (a b c : Int) : impl_IdleLanes.f a b c = spec_IdleLanes.f a b c := by
  unfold impl_IdleLanes.f spec_IdleLanes.f; rw [within_eq]
theorem idle_some (a b c : Int) : ∃ r, spec_IdleLanes.f a b c = some r ∧ (0 ≤ r → 0 ≤ a ∧ a ≤ 8000) := by
  simp only [spec_IdleLanes.f, in_some, Option.bind_some]
  split
  · rename_i h; simp only [decide_eq_true_eq] at h
    split
    · exact ⟨_, rfl, fun _ => h⟩
    · exact ⟨_, rfl, fun _ => h⟩
  · exact ⟨_, rfl, fun h => absurd h (by decide)⟩
theorem eff_eq (a b c : Int) : impl_Efficiency.f a b c = spec_Efficiency.f a b c := by
  unfold impl_Efficiency.f spec_Efficiency.f; simp only [idle_eq]
theorem eff_some (a b c : Int) : ∃ r, spec_Efficiency.f a b c = some r := by
  obtain ⟨r, h, hr⟩ := idle_some a b c
  simp only [spec_Efficiency.f, h, Option.bind_some]
  repeat' split
  all_goals first
    | exact ⟨_, rfl⟩
    | (exfalso; simp only [wrap64] at *; omega)
theorem FnExactEfficiency : laws_FnExactEfficiency.Pure := by
  intro a b c _ _ _
  obtain ⟨r, h⟩ := eff_some a b c
  simp only [laws_FnExactEfficiency.f, laws_toCost.f, Option.bind_some, eff_eq, h, if_true]

end Go.Proofs.Ytefpdcllckeoaaa.Pure
