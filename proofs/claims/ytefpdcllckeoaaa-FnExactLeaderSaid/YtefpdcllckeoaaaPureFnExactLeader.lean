/-
  The program's Leader returns what the reference's returns, for every int.
  No condition.
-/
import Derived.Test.YtefpdcllckeoaaaPFnExactLeaderx1
namespace Go.Proofs.Ytefpdcllckeoaaa.Pure
open Go.RowKit Go.Proofs.Ytefpdcllckeoaaa.PFnExactLeader Go.Proofs.YtefpdcllckeoaaaW.PrintWords Go.Proofs.YtefpdcllckeoaaaW.PrintLast

theorem within_eq : impl_within.f = spec_l01In.f := rfl
theorem in_some (x a b : Int) : spec_l01In.f x a b = some (decide (a ≤ x ∧ x ≤ b)) := by
  unfold spec_l01In.f
  by_cases h : a ≤ x
  · rw [if_pos h]; simp [h]
  · rw [if_neg h]; simp [h]
theorem hasLane_eq (m i : Int) : impl_HasLane.f m i = spec_HasLane.f m i := by
  simp only [impl_HasLane.f, spec_HasLane.f, impl_IsMask.f, spec_IsMask.f, impl_isLane.f, within_eq, in_some, Option.bind_some]
theorem lanes_eq : ∀ (k : Nat) (m : Int) (l : List Int) (i : Int), impl_LanesOf.l0 k m l i = spec_LanesOf.l0 k m l i
  | 0, _, _, _ => by simp only [impl_LanesOf.l0, spec_LanesOf.l0]
  | k + 1, m, l, i => by simp only [impl_LanesOf.l0, spec_LanesOf.l0, hasLane_eq, lanes_eq k]
theorem hasLane_some (m i : Int) : ∃ b, spec_HasLane.f m i = some b := by
  simp only [spec_HasLane.f, spec_IsMask.f, in_some, Option.bind_some]
  split
  · split
    · rename_i h; simp only [decide_eq_true_eq] at h; rw [if_pos h.1]; exact ⟨_, rfl⟩
    · exact ⟨_, rfl⟩
  · exact ⟨_, rfl⟩
theorem lanes_some (m : Int) : ∀ (d k : Nat) (l : List Int) (i : Int), 0 ≤ i → 8 - i = d → d < k → l.length ≤ i → ∃ r, spec_LanesOf.l0 k m l i = some r := by
  intro d
  induction d with
  | zero =>
    intro k l i h0 hd hk hl
    obtain ⟨k, rfl⟩ : ∃ q, k = q + 1 := ⟨k - 1, by omega⟩
    simp only [spec_LanesOf.l0]
    rw [if_neg (by omega)]
    exact ⟨_, rfl⟩
  | succ d ih =>
    intro k l i h0 hd hk hl
    obtain ⟨k, rfl⟩ : ∃ q, k = q + 1 := ⟨k - 1, by omega⟩
    simp only [spec_LanesOf.l0]
    rw [if_pos (by omega)]
    obtain ⟨b, hb⟩ := hasLane_some m i
    have hw : wrap64 (i + 1) = i + 1 := by unfold wrap64; omega
    rw [hb]; simp only [Option.bind_some, hw]
    cases b with
    | true =>
      rw [if_pos rfl, if_pos (by omega)]
      exact ih k (l ++ [i]) (i + 1) (by omega) (by omega) (by omega) (by rw [List.length_append, List.length_singleton]; omega)
    | false =>
      rw [if_neg (by decide)]
      exact ih k l (i + 1) (by omega) (by omega) (by omega) (by omega)

theorem FnExactLeader : laws_FnExactLeader.Pure := by
  intro a _
  refine ⟨9, ?_⟩
  obtain ⟨l, hl⟩ := lanes_some a 8 9 [] 0 (by omega) (by omega) (by omega) (by simp)
  have hi : impl_LanesOf.l0 9 a [] 0 = some l := (lanes_eq 9 a [] 0).trans hl
  have hs : ∃ r, spec_Leader.f 9 a = some r := by
    unfold spec_Leader.f spec_LanesOf.f
    rw [hl]; simp only [Option.bind_some]
    by_cases h : (l.length : Int) = 0
    · rw [if_pos h]; exact ⟨_, rfl⟩
    · rw [if_neg h, if_pos (by omega)]; exact ⟨_, rfl⟩
  have he : impl_Leader.f 9 a = spec_Leader.f 9 a := by
    unfold impl_Leader.f impl_LanesOf.f spec_Leader.f spec_LanesOf.f
    rw [hl, hi]
  obtain ⟨r, h⟩ := hs
  unfold laws_FnExactLeader.f
  rw [he, h]; simp

end Go.Proofs.Ytefpdcllckeoaaa.Pure
