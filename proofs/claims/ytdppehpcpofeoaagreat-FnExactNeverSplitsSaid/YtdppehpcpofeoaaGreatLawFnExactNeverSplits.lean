-- Written by myprint.py (a program of this session, over the kit's print): not trusted, Lean checks it.
import Derived.Test.YtdppehpcpofeoaaGreatRows
import Derived.Test.YtdppehpcpofeoaaGreatVOpens
import Derived.Test.YtdppehpcpofeoaaGreatPFnExactNeverSplitsx16
import Derived.Test.YtdppehpcpofeoaaGreatPureFnExactNeverSplits
import Derived.WalkKit
import Derived.ProofKit
import Derived.OpenShut
import Derived.ShutString
import Derived.ChangeOld
import Derived.Below
import Derived.SizedLaws
namespace Go.Proofs.YtdppehpcpofeoaaGreat.fnExactNeverSplits
open Go.ChangeShapes Go.WideShapes Go.ChangeAt Go.RowKit Go.Proofs.YtdppehpcpofeoaaGreat.Opens Go.Proofs.YtdppehpcpofeoaaGreat.PFnExactNeverSplits Go.Proofs.YtdppehpcpofeoaaGreatW.PrintWords
set_option linter.unusedVariables false
theorem own : ownKnob Tryz.prog.godebug = none := by kernel_rfl
theorem laidOut : laidOutB Tryz.prog = true := by kernel_rfl
set_option maxRecDepth 100000 in
theorem lifted (os : Os) (started : os.Started) (H : Type) (enc : TypeId × Value → H) :
    ReturnsInHanded {} Tryz.checked os 4 .any (Rows.fnExactNeverSplitsSpec.pre6 enc Tryz.prog Tryz.f4 Rows.fnExactNeverSplitsRow.domain false) (Rows.fnExactNeverSplitsSpec.post enc Tryz.prog Tryz.f4 false true false false) := by
  refine returnsInHanded_of_change_sized (C := Tryz.checked) own started (by kernel_rfl) Tryz.func4
    (ChangeSpec.witness6 (enc := enc) (C := Tryz.checked) false ⟨#[], #[.slice none 0 0], []⟩ 8 (by kernel_rfl) (by kernel_rfl) (by kernel_rfl) (by kernel_rfl)) ?_
  intro W base args ds gs before hval0 hW hcnd hsz0 _
  have hval : ∀ (j : Nat) t v, Tryz.f4.params[j]? = some t → args[j]? = some v → Value.okWide Tryz.prog W .any base t v := hval0
  have hW' := hW
  obtain ⟨p, q, hA0, hV, rfl, hfz, hnd⟩ := hW
  have hA : DataW.TrodAll enc Tryz.prog W 0 (fun _ => true) true Tryz.f4.params.toList args.toList ds p := hA0
  rw [Tryz.params4] at hA hval
  obtain ⟨v0, vs0, d0, ds0, p0, q0, hargs, rfl, rfl, h0, r0⟩ := trodAll_cons hA
  obtain ⟨rfl, rfl, rfl⟩ := trodAll_nil r0
  obtain rfl : args = #[v0] := by cases args; simp_all
  obtain ⟨rfl, rfl⟩ := trodVars_none hV
  have k0_ := h0
  have lt0 : ∀ x ∈ p0, x.block < W.heap.size := by obtain ⟨m, hm⟩ := k0_; exact DataW.trod_lt m _ _ _ hm
  obtain ⟨l0, A0, c0, rfl, hc0, hr0, hm0, hw0⟩ := opens_sl (show Opens Tryz.prog k40 40 _ from opens_iso (opens_struct4 Tryz.underlying40 (by kernel_rfl) rfl rfl rfl rfl (opens_int Tryz.underlying3 (by kernel_rfl)) (opens_int Tryz.underlying3 (by kernel_rfl)) (opens_int Tryz.underlying3 (by kernel_rfl)) (opens_int Tryz.underlying3 (by kernel_rfl)) rfl rfl rfl rfl) (fun x : S40 => (x.f0, x.f1, x.f2, x.f3)) (fun a => ⟨a.1, a.2.1, a.2.2.1, a.2.2.2⟩) (fun _ => rfl)) (by kernel_rfl) Tryz.underlying22 (hval 0 22 v0 rfl rfl) h0
  clear hA0 hval0 hsz0
  obtain ⟨k, h⟩ := Pure.FnExactNeverSplits l0 hm0
  refine (laws_FnExactNeverSplits.calls k _ _ l0 true W hr0 hc0 h).mono fun e W' ⟨he, bel0⟩ => ?_
  subst he
  have bel : Below W.heap.size W W' := bel0
  exact ⟨_, rfl, _, _, _, [], _, [], hW', trodAll_mk1 (shut_bool Tryz.underlying4 _), (trodAll_cons_mk (Below.trod laidOut (by kernel_rfl) (of_decide_eq_true (by kernel_rfl)) k0_ bel lt0) trodAll_mk0), rfl, bel.frame _, fun h => by cases h⟩
theorem over : Rows.fnExactNeverSplitsRow.holds Tryz.pinned (OpenSpec.ofChange Rows.fnExactNeverSplitsSpec) :=
  OpenClaim.holds_of_wide 4 Tryz.f4 rfl rfl rfl rfl rfl rfl rfl ⟨rfl, rfl, rfl, rfl, rfl⟩ rfl rfl rfl rfl rfl (by kernel_rfl) Tryz.func4 (by kernel_rfl)
    (of_decide_eq_true (by kernel_rfl)) (by unfold Func.isWrapper; first | (rw [if_pos (by decide +kernel)]; kernel_rfl) | (rw [if_neg (by decide +kernel)]; exact ⟨rfl, rfl⟩))
    (fun os started H enc _ => lifted os started H enc)
theorem proved : Rows.FnExactNeverSplitsSaid := over
#print axioms proved
end Go.Proofs.YtdppehpcpofeoaaGreat.fnExactNeverSplits
namespace Go.Proofs.YtdppehpcpofeoaaGreat
/-- The row, under a short name, for the claim. -/
theorem fnExactNeverSplits_holds : Rows.FnExactNeverSplitsSaid := fnExactNeverSplits.proved
end Go.Proofs.YtdppehpcpofeoaaGreat
