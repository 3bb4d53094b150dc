-- Written by myprint.py (a program of this session, over the kit's print): not trusted, Lean checks it.
import Derived.Test.YtdppehpcpofeoaaGreatPFnExactNeverSplitsx0
import Derived.Test.YtdppehpcpofeoaaGreatPFnExactNeverSplitsx10
import Derived.Test.YtdppehpcpofeoaaGreatPFnExactNeverSplitsx11
import Derived.Test.YtdppehpcpofeoaaGreatPFnExactNeverSplitsx12
import Derived.Test.YtdppehpcpofeoaaGreatPFnExactNeverSplitsx13
import Derived.Test.YtdppehpcpofeoaaGreatPFnExactNeverSplitsx14
namespace Go.Proofs.YtdppehpcpofeoaaGreat.PFnExactNeverSplits
open Go.RowKit Go.Proofs.YtdppehpcpofeoaaGreatW.PrintWords Go.Proofs.YtdppehpcpofeoaaGreatW.PrintLast Go.Proofs.YtdppehpcpofeoaaGreatW.PrintMore
attribute [local go_sem] max2_int min2_int max_two min_two max_three min_three max_four min_four   -- for this text's walks alone
set_option linter.unusedVariables false
set_option linter.unusedSimpArgs false

/-! ### impl_UniformAt: function 14 -/
mutual
def impl_UniformAt.l0 : Nat → List (S38) → List Int → Option (List Int)
 | 0, _, _ => none
 | k + 1, x0, x3 => (slices_Clone_int_int.f x3).bind fun t498 => (impl_UniformAt.l1 k x0 x3 t498 x0 (x0.length : Int) 0)
def impl_UniformAt.l1 : Nat → List (S38) → List Int → List Int → List (S38) → Int → Int → Option (List Int)
 | 0, _, _, _, _, _, _ => none
 | k + 1, x0, x3, x4, x24, x25, x26 => if x26 < x25 then (if 0 ≤ x26 then (if x26 < (x24.length : Int) then (if x26 < (x3.length : Int) then ((impl_uniformAfter.f k ((rd_T38 x24 x26).f0) ((rd_T38 x24 x26).f1) ((rd_T38 x24 x26).f2) ((rd_T38 x24 x26).f3) (rd x3 x26)).bind fun t504 => ((impl_next.f k x0 x26).bind fun t505 => (impl_UniformAt.l2 k x0 x3 x4 x26 t504 x24 x25 x26 t505 (t505.length : Int) 0 ((rd_T38 x24 x26).f0) ((rd_T38 x24 x26).f1) ((rd_T38 x24 x26).f2) ((rd_T38 x24 x26).f3)))) else (none)) else (none)) else (none)) else ((slices_Equal_int_int.f k x3 x4).bind fun t524 => (if t524 = true then (if 0 ≤ (x0.length : Int) then (if (x0.length : Int) ≤ (x3.length : Int) then ((slices_Clone_int_int.f (x3.take ((x0.length : Int) : Int).toNat)).bind fun t529 => (some t529)) else (none)) else (none)) else (impl_UniformAt.l0 k x0 x3)))
def impl_UniformAt.l2 : Nat → List (S38) → List Int → List Int → Int → Int → List (S38) → Int → Int → List Int → Int → Int → Int → Int → Int → Int → Option (List Int)
 | 0, _, _, _, _, _, _, _, _, _, _, _, _, _, _, _ => none
 | k + 1, x0, x3, x4, x5, x7, x24, x25, x26, x39, x40, x41, x503000, x503001, x503002, x503003 => if x41 < x40 then (if 0 ≤ x41 then (if x41 < (x39.length : Int) then (if 0 ≤ (rd x39 x41) then (if (rd x39 x41) < (x3.length : Int) then (impl_UniformAt.l2 k x0 (x3.set ((rd x39 x41) : Int).toNat (Go.bits .and .i64 (rd x3 (rd x39 x41)) x7)) x4 x5 x7 x24 x25 x26 x39 x40 (wrap64 (x41 + 1)) x503000 x503001 x503002 x503003) else (none)) else (none)) else (none)) else (none)) else ((impl_isBranch.f k x0 x5).bind fun t511 => (if t511 = true then (if 0 ≤ x5 then (if x5 < (x3.length : Int) then (if 0 ≤ x503001 then (impl_UniformAt.j3 k x0 x3 x4 x5 x24 x25 x26 ((Go.bits .and .i64 (shr .i64 (rd x3 x5) x503001) 1) == 1)) else (none)) else (none)) else (none)) else (impl_UniformAt.j3 k x0 x3 x4 x5 x24 x25 x26 true)))
def impl_UniformAt.j3 : Nat → List (S38) → List Int → List Int → Int → List (S38) → Int → Int → Bool → Option (List Int)
 | 0, _, _, _, _, _, _, _, _ => none
 | k + 1, x0, x3, x4, x5, x24, x25, x26, x67 => if x67 = true then (impl_UniformAt.l1 k x0 x3 x4 x24 x25 (wrap64 (x26 + 1))) else ((impl_InsideOf.f k x0 x5).bind fun t513 => ((impl_writtenIn.f k x0 t513).bind fun t516 => ((impl_JoinOf.f k x0 x5).bind fun t517 => (if t513.length < 17592186044416 then ((some (t513 ++ [t517] : List Int)).bind fun y518 => (impl_UniformAt.l3 k x0 x3 x4 t516 x24 x25 x26 y518 (y518.length : Int) 0)) else (none)))))
def impl_UniformAt.l3 : Nat → List (S38) → List Int → List Int → Int → List (S38) → Int → Int → List Int → Int → Int → Option (List Int)
 | 0, _, _, _, _, _, _, _, _, _, _ => none
 | k + 1, x0, x3, x4, x11, x24, x25, x26, x79, x80, x81 => if x81 < x80 then (if 0 ≤ x81 then (if x81 < (x79.length : Int) then (if 0 ≤ (rd x79 x81) then (if (rd x79 x81) < (x3.length : Int) then (impl_UniformAt.l3 k x0 (x3.set ((rd x79 x81) : Int).toNat (Go.bits .andNot .i64 (rd x3 (rd x79 x81)) x11)) x4 x11 x24 x25 x26 x79 x80 (wrap64 (x81 + 1))) else (none)) else (none)) else (none)) else (none)) else (impl_UniformAt.l1 k x0 x3 x4 x24 x25 (wrap64 (x26 + 1)))
end
def impl_UniformAt.f (k : Nat) (l0 : List (S38)) : Option (List Int) := (impl_IsQuiet.f l0).bind fun t491 => (if t491 = true then ((slices_Repeat_int_int.f (([15] : List Int)) (wrap64 ((l0.length : Int) + 1))).bind fun t495 => (impl_UniformAt.l0 k l0 t495)) else (some ([] : List Int)))
theorem impl_UniformAt.mono_l : ∀ k, (∀ y0 y1, LeO (impl_UniformAt.l0 k y0 y1) (impl_UniformAt.l0 (k + 1) y0 y1)) ∧ (∀ y0 y1 y2 y3 y4 y5, LeO (impl_UniformAt.l1 k y0 y1 y2 y3 y4 y5) (impl_UniformAt.l1 (k + 1) y0 y1 y2 y3 y4 y5)) ∧ (∀ y0 y1 y2 y3 y4 y5 y6 y7 y8 y9 y10 y11 y12 y13 y14, LeO (impl_UniformAt.l2 k y0 y1 y2 y3 y4 y5 y6 y7 y8 y9 y10 y11 y12 y13 y14) (impl_UniformAt.l2 (k + 1) y0 y1 y2 y3 y4 y5 y6 y7 y8 y9 y10 y11 y12 y13 y14)) ∧ (∀ y0 y1 y2 y3 y4 y5 y6 y7, LeO (impl_UniformAt.j3 k y0 y1 y2 y3 y4 y5 y6 y7) (impl_UniformAt.j3 (k + 1) y0 y1 y2 y3 y4 y5 y6 y7)) ∧ (∀ y0 y1 y2 y3 y4 y5 y6 y7 y8 y9, LeO (impl_UniformAt.l3 k y0 y1 y2 y3 y4 y5 y6 y7 y8 y9) (impl_UniformAt.l3 (k + 1) y0 y1 y2 y3 y4 y5 y6 y7 y8 y9))
 | 0 => ⟨fun _ _ r h => by simp [impl_UniformAt.l0] at h, fun _ _ _ _ _ _ r h => by simp [impl_UniformAt.l1] at h, fun _ _ _ _ _ _ _ _ _ _ _ _ _ _ _ r h => by simp [impl_UniformAt.l2] at h, fun _ _ _ _ _ _ _ _ r h => by simp [impl_UniformAt.j3] at h, fun _ _ _ _ _ _ _ _ _ _ r h => by simp [impl_UniformAt.l3] at h⟩
 | k + 1 => by
  obtain ⟨ih0, ih1, ih2, ih3, ih4⟩ := impl_UniformAt.mono_l k
  refine ⟨?_, ?_, ?_, ?_, ?_⟩
  intro y0 y1;unfold impl_UniformAt.l0;rotate_left
  intro y0 y1 y2 y3 y4 y5;unfold impl_UniformAt.l1;rotate_left
  intro y0 y1 y2 y3 y4 y5 y6 y7 y8 y9 y10 y11 y12 y13 y14;unfold impl_UniformAt.l2;rotate_left
  intro y0 y1 y2 y3 y4 y5 y6 y7;unfold impl_UniformAt.j3;rotate_left
  intro y0 y1 y2 y3 y4 y5 y6 y7 y8 y9;unfold impl_UniformAt.l3;rotate_left
  all_goals repeat' first
  | (with_reducible exact ih0 _ _)
  | (with_reducible exact ih1 _ _ _ _ _ _)
  | (with_reducible exact ih2 _ _ _ _ _ _ _ _ _ _ _ _ _ _ _)
  | (with_reducible exact ih3 _ _ _ _ _ _ _ _)
  | (with_reducible exact ih4 _ _ _ _ _ _ _ _ _ _)
  | (with_reducible exact impl_InsideOf.mono _ _ _)
  | (with_reducible exact impl_JoinOf.mono _ _ _)
  | (with_reducible exact impl_isBranch.mono _ _ _)
  | (with_reducible exact impl_next.mono _ _ _)
  | (with_reducible exact impl_uniformAfter.mono _ _ _ _ _ _)
  | (with_reducible exact impl_writtenIn.mono _ _ _)
  | (with_reducible exact slices_Equal_int_int.mono _ _ _)
  | (with_reducible exact LeO.refl _)
  | (with_reducible exact LeO.none _)
  | (with_reducible refine LeO.ite ?_ ?_)
  | (with_reducible refine LeO.bind ?_ (fun _ => ?_))
  | exact ih0 _ _
  | exact ih1 _ _ _ _ _ _
  | exact ih2 _ _ _ _ _ _ _ _ _ _ _ _ _ _ _
  | exact ih3 _ _ _ _ _ _ _ _
  | exact ih4 _ _ _ _ _ _ _ _ _ _
  | exact impl_InsideOf.mono _ _ _
  | exact impl_JoinOf.mono _ _ _
  | exact impl_isBranch.mono _ _ _
  | exact impl_next.mono _ _ _
  | exact impl_uniformAfter.mono _ _ _ _ _ _
  | exact impl_writtenIn.mono _ _ _
  | exact slices_Equal_int_int.mono _ _ _
  | exact LeO.none _
  | refine LeO.ite ?_ ?_
  | refine LeO.bind ?_ (fun _ => ?_)
theorem impl_UniformAt.mono : ∀ a0 k, LeO (impl_UniformAt.f k a0) (impl_UniformAt.f (k + 1) a0) := by
 intro a0 k
 obtain ⟨ih0, ih1, ih2, ih3, ih4⟩ := impl_UniformAt.mono_l k
 unfold impl_UniformAt.f
 repeat' first
   | (with_reducible exact ih0 _ _)
   | (with_reducible exact ih1 _ _ _ _ _ _)
   | (with_reducible exact ih2 _ _ _ _ _ _ _ _ _ _ _ _ _ _ _)
   | (with_reducible exact ih3 _ _ _ _ _ _ _ _)
   | (with_reducible exact ih4 _ _ _ _ _ _ _ _ _ _)
   | (with_reducible exact impl_InsideOf.mono _ _ _)
   | (with_reducible exact impl_JoinOf.mono _ _ _)
   | (with_reducible exact impl_isBranch.mono _ _ _)
   | (with_reducible exact impl_next.mono _ _ _)
   | (with_reducible exact impl_uniformAfter.mono _ _ _ _ _ _)
   | (with_reducible exact impl_writtenIn.mono _ _ _)
   | (with_reducible exact slices_Equal_int_int.mono _ _ _)
   | (with_reducible exact LeO.refl _)
   | (with_reducible exact LeO.none _)
   | (with_reducible refine LeO.ite ?_ ?_)
   | (with_reducible refine LeO.bind ?_ (fun _ => ?_))
   | exact ih0 _ _
   | exact ih1 _ _ _ _ _ _
   | exact ih2 _ _ _ _ _ _ _ _ _ _ _ _ _ _ _
   | exact ih3 _ _ _ _ _ _ _ _
   | exact ih4 _ _ _ _ _ _ _ _ _ _
   | exact impl_InsideOf.mono _ _ _
   | exact impl_JoinOf.mono _ _ _
   | exact impl_isBranch.mono _ _ _
   | exact impl_next.mono _ _ _
   | exact impl_uniformAfter.mono _ _ _ _ _ _
   | exact impl_writtenIn.mono _ _ _
   | exact slices_Equal_int_int.mono _ _ _
   | exact LeO.none _
   | refine LeO.ite ?_ ?_
   | refine LeO.bind ?_ (fun _ => ?_)
def impl_UniformAt.T14 : Bool × List (List Nat × List Nat) := (true, [([], []), ([], []), ([0, 1], [0, 1]), ([2], [2]), ([3, 2], [3]), ([4], [4]), ([4], [4]), ([5, 6, 4], [4, 5, 6]), ([7, 4], [4, 7]), ([4], [4]), ([9, 4], [4, 9]), ([8, 10, 4], [4, 8, 10]), ([11, 4], [4, 11]), ([12, 4], [4, 12]), ([4, 13], [4, 13])])
def impl_UniformAt.B14 : List Nat := [0, 0, 3, 7, 15, 31, 31, 127, 255, 31, 543, 2047, 4095, 8191, 16383]
theorem impl_UniformAt.tab14 : rtab .any (opsOf Tryz.f14 14) = impl_UniformAt.T14 := by kernel_rfl
theorem impl_UniformAt.bits14 : waitsOk impl_UniformAt.T14.2 impl_UniformAt.B14 = true := by kernel_rfl
set_option maxHeartbeats 8000000 in
set_option maxRecDepth 100000 in
theorem impl_UniformAt.calls (k : Nat) (A0 : Option Addr) (c0 : Nat) (l0 : List (S38)) (r : List Int) (w : World) (hr0 : Kd.C k38 w A0 l0.length l0) (hc0 : l0.length ≤ c0) (h : impl_UniformAt.f k l0 = some r) :
  Calls Tryz.prog 14 #[.slice A0 l0.length c0] w fun e w' => ∃ v0_ : Value, e = .returned (v0_) ∧ Kd.R (Kd.int .i64) 3 w' w.heap.size (fun _ => True) v0_ r ∧ Below w.heap.size w w' := by
 have hu38 := Tryz.underlying38
 have HR0 := Aside0.mk hr0
 have HC0 := Aside0.mk hc0
 clear hr0 hc0
 have HB := Aside0.mk (Below.refl w.heap.size w)
 have H : ((impl_IsQuiet.f l0).bind fun t491 => (if t491 = true then ((slices_Repeat_int_int.f (([15] : List Int)) (wrap64 ((l0.length : Int) + 1))).bind fun t495 => (impl_UniformAt.l0 k l0 t495)) else (some ([] : List Int)))) = some r := h
 clear h
 replace H := Option.bind_eq_some_iff.mp H
 obtain ⟨t491, A20, H⟩ := H
 replace H : (if t491 = true then ((slices_Repeat_int_int.f (([15] : List Int)) (wrap64 ((l0.length : Int) + 1))).bind fun t495 => (impl_UniformAt.l0 k l0 t495)) else (some ([] : List Int))) = some r := H
 have A2 := Aside0.mk A20
 clear A20
 by_cases c3 : t491 = true
 ·subst c3
  have H1 : ((slices_Repeat_int_int.f (([15] : List Int)) (wrap64 ((l0.length : Int) + 1))).bind fun t495 => (impl_UniformAt.l0 k l0 t495)) = some r := by rw [if_pos rfl] at H; exact H
  clear H
  have H := H1
  clear H1
  obtain ⟨y492, hy492⟩ : ∃ y_ : List Int, y_ = (([15] : List Int)) := ⟨_, rfl⟩
  replace H : ((slices_Repeat_int_int.f y492 (wrap64 ((l0.length : Int) + 1))).bind fun t495 => (impl_UniformAt.l0 k l0 t495)) = some r := rP hy492 H
  have Ny492 := Aside0.mk hy492
  clear hy492
  replace H := Option.bind_eq_some_iff.mp H
  obtain ⟨t495, A40, H⟩ := H
  replace H : (impl_UniformAt.l0 k l0 t495) = some r := H
  have A4 := Aside0.mk A40
  clear A40
  have H' := Aside0.mk H
  clear H
  go_enter Tryz.func14, Tryz.ntmps14
  go_wp2_with (first | ((with_reducible refine gate_callee (f := 23) rfl ?_); refine gL (some 15) Tryz.func23 #[.slice A0 l0.length c0] ?_; (with_reducible refine (impl_IsQuiet.calls _ _ l0 true _ ?side1 ?side2 A2.out).mono ?_); (case side1 => exact cS HR0.out); (case side2 => exact HC0.out); rintro e w5 ⟨rfl, hb⟩; refine ⟨_, rfl, ?_⟩; replace HB := Aside0.mk (below_step bw hb); (try clear hb)) | ((with_reducible refine gate_dst (N := 17) rfl ?_); refine Kd.R_lit (Kd.int .i64) _ 3 ?hg (N := 17) ?hd (xs := ([15] : List Int)) (inner := [.int .i64 15]) (ok := fun _ => True) (okp := fun _ => True) ?hr ?hp (fun _ hk => hk) trivial (Below.refl _ _) (Nat.le_refl _) (by simp) ?_; (case hd => rfl); (case hg => rfl); (case hr => first | (go_simp; done) | (go_simp; rfl)); (case hp => exact (Reps.one (show Kd.M (Kd.int .i64) _ _ _ 15 [.int .i64 15] from rfl) (Reps.none _ _))); intro v493 w6 ho7 hb hg_ hnew_; clear hg_ hnew_; (first | rw [← Ny492.out] at ho7 | (simp only [Int.reduceToNat] at ho7; rw [← Ny492.out] at ho7)); have HO494 := Aside0.mk (Kd.R_lower ho7 (below_size bw)); replace HB := Aside0.mk (below_step bw hb); clear hb ho7; obtain ⟨Ao8, co8, eo8⟩ := Kd.R_slice HO494.out; subst eo8) | ((with_reducible refine gate_callee (f := 35) rfl ?_); refine gL (some 21) Tryz.func35 #[.slice Ao8 y492.length co8, .int .i64 (wrap64 ((l0.length : Int) + 1))] ?_; (with_reducible refine (slices_Repeat_int_int.calls _ _ y492 (wrap64 ((l0.length : Int) + 1)) t495 _ ?side1 ?side2 A4.out).mono ?_); (case side1 => exact cS (Kd.R_reads' HO494.out).2.2); (case side2 => exact (Kd.R_reads' HO494.out).2.1); rintro e w9 ⟨v496, rfl, ho0, hb⟩; refine ⟨_, rfl, ?_⟩; have HO497 := Aside0.mk (Kd.R_lower (Kd.R_new' ho0 (Kd.R_lt (rS HO494.out))) (below_size bw)); replace HO494 := Aside0.mk (Kd.R_elder' (rS HO494.out) (Kd.R_base ho0) hb); replace HB := Aside0.mk (below_step bw hb); (try clear hb); (try clear ho0)))
  go_loopg [] k (fun kq w' => ∃ (x3_1 : List Int), Aside0 (impl_UniformAt.l0 kq l0 x3_1 = some r) ∧ Aside0 (kq ≤ k) ∧ Aside0 (Kd.R (Kd.int .i64) 3 w' w.heap.size (fun _ => True) v496 x3_1) ∧ Aside0 (Below w.heap.size w w'))
  case atStart => exact ⟨(t495), H', ⟨Nat.le_refl _⟩, ⟨by (with_reducible repeat (first | apply Kd.R_alloc | apply Kd.R_drewN | apply Kd.R_drew)); exact Kd.R_mono HO497.out (fun _ hk => trivial)⟩, ⟨bw⟩⟩
  case round =>
   clear H'
   try clear c1;try clear c2;try clear p2;try clear c3;try clear p6
   obtain ⟨x3_1, HA, HK1, HO_3, HB⟩ := hrel
   cases gk with
   | zero => exact absurd HA.out (by simp [impl_UniformAt.l0])
   | succ k1 =>
    have H := HA.out
    clear HA
    simp only [impl_UniformAt.l0] at H
    replace H := Option.bind_eq_some_iff.mp H
    obtain ⟨t498, A100, H⟩ := H
    replace H : (impl_UniformAt.l1 k1 l0 x3_1 t498 l0 (l0.length : Int) 0) = some r := H
    have A10 := Aside0.mk A100
    clear A100
    have H' := Aside0.mk H
    clear H
    obtain ⟨Ao11, co11, eo11⟩ := Kd.R_slice HO_3.out
    subst eo11
    go_wp2_with (first | ((with_reducible refine gate_callee (f := 36) rfl ?_); refine gL (some 23) Tryz.func36 #[.slice Ao11 x3_1.length co11] ?_; (with_reducible refine (slices_Clone_int_int.calls _ _ x3_1 t498 _ ?side1 ?side2 A10.out).mono ?_); (case side1 => exact cS (Kd.R_reads' HO_3.out).2.2); (case side2 => exact (Kd.R_reads' HO_3.out).2.1); rintro e w12 ⟨v499, rfl, ho0, hb⟩; refine ⟨_, rfl, ?_⟩; have HO500 := Aside0.mk (Kd.R_lower (Kd.R_new' ho0 (Kd.R_lt (rS HO_3.out))) (below_size bw)); replace HO_3 := Aside0.mk (Kd.R_elder' (rS HO_3.out) (Kd.R_base ho0) hb); replace HB := Aside0.mk (below_step bw hb); (try clear hb); (try clear ho0)))
    go_loopg [26] k1 (fun kq v26 w' => ∃ (x3_2 : List Int) (x26_2 : Int), v26 = .int .i64 x26_2 ∧ Aside0 (impl_UniformAt.l1 kq l0 x3_2 t498 l0 (l0.length : Int) x26_2 = some r) ∧ Aside0 (kq ≤ k1) ∧ Aside0 (Kd.R (Kd.int .i64) 3 w' w.heap.size (fun k_ => some k_ ≠ (v499 : Value).ownBlock) (.slice Ao11 x3_1.length co11) x3_2) ∧ Aside0 (Kd.R (Kd.int .i64) 3 w' w.heap.size (fun k_ => some k_ ≠ ((.slice Ao11 x3_1.length co11) : Value).ownBlock) v499 t498) ∧ Aside0 (Below w.heap.size w w'))
    case atStart => exact ⟨(x3_1), (0), tR, H', ⟨Nat.le_refl _⟩, ⟨by (with_reducible repeat (first | apply Kd.R_alloc | apply Kd.R_drewN | apply Kd.R_drew)); exact Kd.R_mono HO_3.out (fun _ hk => hk.2)⟩, ⟨by (with_reducible repeat (first | apply Kd.R_alloc | apply Kd.R_drewN | apply Kd.R_drew)); exact Kd.R_mono HO500.out (fun _ hk => hk.2)⟩, ⟨bw⟩⟩
    case round =>
     clear H'
     try clear c1;try clear c2;try clear p2;try clear c3;try clear p6;try clear p2;try clear p6
     obtain ⟨x3_2, x26_2, rfl, HA, HK2, HO_3, HO_4, HB⟩ := hrel
     have hl3_2 := (Kd.R_reads' HO_3.out).1
     rw [hl3_2] at HO_3
     (try simp only [hl3_2])
     (try simp only [hl3_2] at HO_4)
     cases gk with
     | zero => exact absurd HA.out (by simp [impl_UniformAt.l1])
     | succ k2 =>
      have H := HA.out
      clear HA
      simp only [impl_UniformAt.l1] at H
      by_cases c13 : x26_2 < (l0.length : Int)
      ·rw [if_pos c13] at H
       have c13b0 : decide (x26_2 < (l0.length : Int)) = true := decide_eq_true c13
       clear c13
       by_cases c14 : 0 ≤ x26_2
       ·rw [if_pos c14] at H
        have c14b0 : decide (0 ≤ x26_2) = true := decide_eq_true c14
        clear c14
        by_cases c15 : x26_2 < (l0.length : Int)
        ·rw [if_pos c15] at H
         have c15b0 : decide (x26_2 < (l0.length : Int)) = true := decide_eq_true c15
         clear c15
         by_cases c16 : x26_2 < (x3_2.length : Int)
         ·rw [if_pos c16] at H
          have c16b0 : decide (x26_2 < (x3_2.length : Int)) = true := decide_eq_true c16
          clear c16
          replace H := Option.bind_eq_some_iff.mp H
          obtain ⟨t504, A170, H⟩ := H
          replace H : ((impl_next.f k2 l0 x26_2).bind fun t505 => (impl_UniformAt.l2 k2 l0 x3_2 t498 x26_2 t504 l0 (l0.length : Int) x26_2 t505 (t505.length : Int) 0 ((rd_T38 l0 x26_2).f0) ((rd_T38 l0 x26_2).f1) ((rd_T38 l0 x26_2).f2) ((rd_T38 l0 x26_2).f3))) = some r := H
          have A17 := Aside0.mk A170
          clear A170
          replace H := Option.bind_eq_some_iff.mp H
          obtain ⟨t505, A180, H⟩ := H
          replace H : (impl_UniformAt.l2 k2 l0 x3_2 t498 x26_2 t504 l0 (l0.length : Int) x26_2 t505 (t505.length : Int) 0 ((rd_T38 l0 x26_2).f0) ((rd_T38 l0 x26_2).f1) ((rd_T38 l0 x26_2).f2) ((rd_T38 l0 x26_2).f3)) = some r := H
          have A18 := Aside0.mk A180
          clear A180
          have H' := Aside0.mk H
          clear H
          have p501 : 0 ≤ (x26_2 : Int) := dT
          have q501 : x26_2 < (l0.length : Int) := dT
          obtain ⟨ad501, e501, hx501_0, hx501_1, hx501_2, hx501_3⟩ := at_T38 HR0.out x26_2 p501 q501
          cases e501
          replace hx501_0 := (HB.out.cell (World.block_lt_of_cell? w _ hx501_0)).trans hx501_0
          replace hx501_1 := (HB.out.cell (World.block_lt_of_cell? w _ hx501_1)).trans hx501_1
          replace hx501_2 := (HB.out.cell (World.block_lt_of_cell? w _ hx501_2)).trans hx501_2
          replace hx501_3 := (HB.out.cell (World.block_lt_of_cell? w _ hx501_3)).trans hx501_3
          replace p501 := eq_true p501
          replace q501 := eq_true q501
          try go_wp2_with (first | ((with_reducible refine gate_dst (N := 6) rfl ?_); refine box_event ?hg (N := 6) ?hd (cs := #[.int .i64 0, .int .i64 0, .int .i64 0, .int .i64 0]) (t := 38) ?hr ?_; (case hd => rfl); (case hg => rfl); (case hr => first | (go_simp; done) | (go_simp; rfl)); intro gb502 hg w19 hbox hb; replace HO_3 := Aside0.mk (Kd.R_below (rS HO_3.out) hb); replace HO_4 := Aside0.mk (Kd.R_below (rS HO_4.out) hb); have BK502 := Aside0.mk (hbox); have GW502 := Aside0.mk ((by rw [hg]; exact (below_size bw) : w.heap.size ≤ gb502)); have GE502 := Aside0.mk ((by rw [hg]; exact (below_size bw) : w.heap.size ≤ gb502)); replace HB := Aside0.mk (below_step bw hb); clear hb hbox hg; have hcz20_0 : w19.cell? ⟨gb502, 0, none⟩ = some (.int .i64 0) := (blk_cell BK502.out 0).trans rfl; have hcz20_1 : w19.cell? ⟨gb502, 1, none⟩ = some (.int .i64 0) := (blk_cell BK502.out 1).trans rfl; have hcz20_2 : w19.cell? ⟨gb502, 2, none⟩ = some (.int .i64 0) := (blk_cell BK502.out 2).trans rfl; have hcz20_3 : w19.cell? ⟨gb502, 3, none⟩ = some (.int .i64 0) := (blk_cell BK502.out 3).trans rfl; have hfz20_0 := blk_frozen BK502.out 0; have hfz20_1 := blk_frozen BK502.out 1; have hfz20_2 := blk_frozen BK502.out 2; have hfz20_3 := blk_frozen BK502.out 3))
          have n0_ : Aside0 (Kd.R (Kd.int .i64) 3 ((((w19.setCell ⟨gb502, 0, none⟩ (.int .i64 ((rd_T38 l0 x26_2).f0))).setCell ⟨gb502, 1, none⟩ (.int .i64 ((rd_T38 l0 x26_2).f1))).setCell ⟨gb502, 2, none⟩ (.int .i64 ((rd_T38 l0 x26_2).f2))).setCell ⟨gb502, 3, none⟩ (.int .i64 ((rd_T38 l0 x26_2).f3))) w.heap.size (fun k_ => some k_ ≠ (v499 : Value).ownBlock) (.slice Ao11 x3_2.length co11) x3_2) := ⟨by (with_reducible repeat (first | apply Kd.R_alloc | apply Kd.R_drewN | apply Kd.R_drew)); exact Kd.R_mono (Kd.R_far (p := ⟨gb502, 3, none⟩) (Kd.R_far (p := ⟨gb502, 2, none⟩) (Kd.R_far (p := ⟨gb502, 1, none⟩) (Kd.R_far (p := ⟨gb502, 0, none⟩) (Kd.R_types HO_3.out BK502.out (by decide)) (fun _ hk => hk.2) (.int .i64 ((rd_T38 l0 x26_2).f0))) (fun _ hk => hk.2) (.int .i64 ((rd_T38 l0 x26_2).f1))) (fun _ hk => hk.2) (.int .i64 ((rd_T38 l0 x26_2).f2))) (fun _ hk => hk.2) (.int .i64 ((rd_T38 l0 x26_2).f3))) (fun _ hk => hk.1)⟩
          have n1_ : Aside0 (Kd.R (Kd.int .i64) 3 ((((w19.setCell ⟨gb502, 0, none⟩ (.int .i64 ((rd_T38 l0 x26_2).f0))).setCell ⟨gb502, 1, none⟩ (.int .i64 ((rd_T38 l0 x26_2).f1))).setCell ⟨gb502, 2, none⟩ (.int .i64 ((rd_T38 l0 x26_2).f2))).setCell ⟨gb502, 3, none⟩ (.int .i64 ((rd_T38 l0 x26_2).f3))) w.heap.size (fun k_ => some k_ ≠ (.slice Ao11 x3_2.length co11 : Value).ownBlock) v499 t498) := ⟨by (with_reducible repeat (first | apply Kd.R_alloc | apply Kd.R_drewN | apply Kd.R_drew)); exact Kd.R_mono (Kd.R_far (p := ⟨gb502, 3, none⟩) (Kd.R_far (p := ⟨gb502, 2, none⟩) (Kd.R_far (p := ⟨gb502, 1, none⟩) (Kd.R_far (p := ⟨gb502, 0, none⟩) (Kd.R_types HO_4.out BK502.out (by decide)) (fun _ hk => hk.2) (.int .i64 ((rd_T38 l0 x26_2).f0))) (fun _ hk => hk.2) (.int .i64 ((rd_T38 l0 x26_2).f1))) (fun _ hk => hk.2) (.int .i64 ((rd_T38 l0 x26_2).f2))) (fun _ hk => hk.2) (.int .i64 ((rd_T38 l0 x26_2).f3))) (fun _ hk => hk.1)⟩
          have n2_ : Aside0 (((((w19.setCell ⟨gb502, 0, none⟩ (.int .i64 ((rd_T38 l0 x26_2).f0))).setCell ⟨gb502, 1, none⟩ (.int .i64 ((rd_T38 l0 x26_2).f1))).setCell ⟨gb502, 2, none⟩ (.int .i64 ((rd_T38 l0 x26_2).f2))).setCell ⟨gb502, 3, none⟩ (.int .i64 ((rd_T38 l0 x26_2).f3))).heap[gb502]? = some (.cells #[.int .i64 ((rd_T38 l0 x26_2).f0), .int .i64 ((rd_T38 l0 x26_2).f1), .int .i64 ((rd_T38 l0 x26_2).f2), .int .i64 ((rd_T38 l0 x26_2).f3)] 38 (0, 0))) := ⟨by (with_reducible repeat (first | refine blk_drewN ?_ _ | refine blk_drew ?_ | refine blk_alloc ?_ _)); refine blk_put (cs := #[.int .i64 ((rd_T38 l0 x26_2).f0), .int .i64 ((rd_T38 l0 x26_2).f1), .int .i64 ((rd_T38 l0 x26_2).f2), .int .i64 0]) ?_ 3 _ rfl; (with_reducible repeat (first | refine blk_drewN ?_ _ | refine blk_drew ?_ | refine blk_alloc ?_ _)); refine blk_put (cs := #[.int .i64 ((rd_T38 l0 x26_2).f0), .int .i64 ((rd_T38 l0 x26_2).f1), .int .i64 0, .int .i64 0]) ?_ 2 _ rfl; (with_reducible repeat (first | refine blk_drewN ?_ _ | refine blk_drew ?_ | refine blk_alloc ?_ _)); refine blk_put (cs := #[.int .i64 ((rd_T38 l0 x26_2).f0), .int .i64 0, .int .i64 0, .int .i64 0]) ?_ 1 _ rfl; (with_reducible repeat (first | refine blk_drewN ?_ _ | refine blk_drew ?_ | refine blk_alloc ?_ _)); refine blk_put (cs := #[.int .i64 0, .int .i64 0, .int .i64 0, .int .i64 0]) ?_ 0 _ rfl; (with_reducible repeat (first | refine blk_drewN ?_ _ | refine blk_drew ?_ | refine blk_alloc ?_ _)); exact BK502.out⟩
          have n3_ : Aside0 (Below w.heap.size w ((((w19.setCell ⟨gb502, 0, none⟩ (.int .i64 ((rd_T38 l0 x26_2).f0))).setCell ⟨gb502, 1, none⟩ (.int .i64 ((rd_T38 l0 x26_2).f1))).setCell ⟨gb502, 2, none⟩ (.int .i64 ((rd_T38 l0 x26_2).f2))).setCell ⟨gb502, 3, none⟩ (.int .i64 ((rd_T38 l0 x26_2).f3)))) := ⟨bx⟩
          (try clear HO_3)
          (try clear HO_4)
          (try clear BK502)
          (try clear HB)
          generalize ((((w19.setCell ⟨gb502, 0, none⟩ (.int .i64 ((rd_T38 l0 x26_2).f0))).setCell ⟨gb502, 1, none⟩ (.int .i64 ((rd_T38 l0 x26_2).f1))).setCell ⟨gb502, 2, none⟩ (.int .i64 ((rd_T38 l0 x26_2).f2))).setCell ⟨gb502, 3, none⟩ (.int .i64 ((rd_T38 l0 x26_2).f3))) = w21 at n0_ n1_ n2_ n3_ ⊢
          have HO_3 := n0_
          have HO_4 := n1_
          have BK502 := n2_
          have HB := n3_
          clear n0_ n1_ n2_ n3_
          replace HO_3 := Aside0.mk (Kd.R_drew HO_3.out)
          replace HO_4 := Aside0.mk (Kd.R_drew HO_4.out)
          replace BK502 := Aside0.mk (blk_drew BK502.out)
          replace HB := Aside0.mk (below_drew1 HB.out)
          have p503 : 0 ≤ (x26_2 : Int) := dT
          have q503 : x26_2 < (x3_2.length : Int) := dT
          obtain ⟨ad503, e503, hx503_0⟩ := Kd.at_int (Kd.R_reads' HO_3.out).2.2 x26_2 p503 q503
          cases e503
          replace p503 := eq_true p503
          replace q503 := eq_true q503
          refine start_ (n := 7) (S := fun w' => w'.cell? ⟨gb502, 0, none⟩ = some (.int .i64 ((rd_T38 l0 x26_2).f0)) ∧ w'.cell? ⟨gb502, 1, none⟩ = some (.int .i64 ((rd_T38 l0 x26_2).f1)) ∧ w'.cell? ⟨gb502, 2, none⟩ = some (.int .i64 ((rd_T38 l0 x26_2).f2)) ∧ w'.cell? ⟨gb502, 3, none⟩ = some (.int .i64 ((rd_T38 l0 x26_2).f3)) ∧ w'.cell? (ad503.add (x26_2).toNat) = some (.int .i64 (rd x3_2 x26_2))) (ds := []) #[false,false,false,false,false,false,false] (by kernel_rfl) rfl rfl ⟨(blk_cell BK502.out 0).trans rfl, (blk_cell BK502.out 1).trans rfl, (blk_cell BK502.out 2).trans rfl, (blk_cell BK502.out 3).trans rfl, hx503_0⟩ (fun hHeld => ?_)
          generalize w21.drew = w22 at HO_3 HO_4 BK502 HB hx503_0 hHeld ⊢
          refine pure_ (i := 1) (N := some 32) (v := ?_) (a' := ?_) #[Z,Y,Z,Z,Z,Z,Z] rfl rfl (by kernel_rfl) (fun _ _ _ h => h) (Or.inl ⟨by rfl, ?_⟩) ?_ ?_
          rotate_left
          ·intro w'
           go_simp
           with_reducible rfl
          rotate_left
          ·simp only [Act.put, sA, s0, sN, i64_w, i32_w]
           rfl
          refine pure_ (i := 2) (N := some 33) (v := ?_) (a' := ?_) #[Z,Y,Y,Z,Z,Z,Z] rfl rfl (by kernel_rfl) (fun _ _ _ h => h) (Or.inl ⟨by rfl, ?_⟩) ?_ ?_
          rotate_left
          ·intro w'
           go_simp
           with_reducible rfl
          rotate_left
          ·simp only [Act.put, sA, s0, sN, i64_w, i32_w]
           rfl
          refine pure_ (i := 3) (N := some 34) (v := ?_) (a' := ?_) #[Z,Y,Y,Y,Z,Z,Z] rfl rfl (by kernel_rfl) (fun _ _ _ h => h) (Or.inl ⟨by rfl, ?_⟩) ?_ ?_
          rotate_left
          ·intro w'
           go_simp
           with_reducible rfl
          rotate_left
          ·simp only [Act.put, sA, s0, sN, i64_w, i32_w]
           rfl
          refine take_ (i := 0) (N := some 31) (v := ?_) (a' := ?_) #[Y,Y,Y,Y,Z,Z,Z] rfl rfl (by kernel_rfl) (fun _ _ _ h => h) (Or.inl ⟨by rfl, ?_⟩) hHeld ?_ ?_
          rotate_left
          ·rintro w' ⟨s0, s1, s2, s3, s4⟩
           go_simp
           with_reducible rfl
          rotate_left
          ·simp only [Act.put, sA, s0, sN, i64_w, i32_w]
           rfl
          refine take_ (i := 4) (N := some 35) (v := ?_) (a' := ?_) #[Y,Y,Y,Y,Y,Z,Z] rfl rfl (by kernel_rfl) (fun _ _ _ h => h) (Or.inl ⟨by rfl, ?_⟩) hHeld ?_ ?_
          rotate_left
          ·rintro w' ⟨s0, s1, s2, s3, s4⟩
           go_simp
           with_reducible rfl
          rotate_left
          ·simp only [Act.put, sA, s0, sN, i64_w, i32_w]
           rfl
          refine one_ (i := 5) (N := some 36) #[Y,Y,Y,Y,Y,Y,Z] rfl rfl (by kernel_rfl) (by decide) (fun K hK => ?_)
          refine goes_ Tryz.func37 (by kernel_rfl) rfl #[.agg #[.int .i64 ((rd_T38 l0 x26_2).f0), .int .i64 ((rd_T38 l0 x26_2).f1), .int .i64 ((rd_T38 l0 x26_2).f2), .int .i64 ((rd_T38 l0 x26_2).f3)], .int .i64 (rd x3_2 x26_2)] (by rfl) rfl rfl bz ?_
          with_reducible refine (impl_uniformAfter.calls k2 ((rd_T38 l0 x26_2).f0) ((rd_T38 l0 x26_2).f1) ((rd_T38 l0 x26_2).f2) ((rd_T38 l0 x26_2).f3) (rd x3_2 x26_2) t504 _ A17.out).mono ?_
          rintro e w23 ⟨rfl, hb⟩
          have HS4_ := (hb.cell (World.block_lt_of_cell? _ _ (hHeld.2.2.2.2))).trans (hHeld.2.2.2.2)
          refine ⟨_, rfl, ?_⟩
          replace HO_3 := Aside0.mk (Kd.R_below (rS HO_3.out) hb)
          replace HO_4 := Aside0.mk (Kd.R_below (rS HO_4.out) hb)
          replace BK502 := Aside0.mk (blk_below (g := gb502) (o := .cells #[.int .i64 ((rd_T38 l0 x26_2).f0), .int .i64 ((rd_T38 l0 x26_2).f1), .int .i64 ((rd_T38 l0 x26_2).f2), .int .i64 ((rd_T38 l0 x26_2).f3)] 38 (0, 0)) (bS BK502.out) hb)
          replace HB := Aside0.mk (below_step bx hb)
          (try clear hb)
          (try clear hb2)
          (try clear hk)
          (try clear hi)
          refine hK.out _ _ ⟨(blk_cell BK502.out 0).trans rfl, (blk_cell BK502.out 1).trans rfl, (blk_cell BK502.out 2).trans rfl, (blk_cell BK502.out 3).trans rfl, HS4_⟩ (fun hHeld => ?_)
          clear hK K
          refine norm_ (a' := ?_) ?_ ?_
          rotate_left
          ·show Act.put _ (some 36) _ = _
           simp only [Act.put, sA, s0, sN, i64_w, i32_w]
           rfl
          refine pure_ (i := 6) (N := some 7) (v := ?_) (a' := ?_) #[Y,Y,Y,Y,Y,Y,Y] rfl rfl (by kernel_rfl) (fun _ _ _ h => h) (Or.inl ⟨by rfl, ?_⟩) ?_ ?_
          rotate_left
          ·intro w'
           go_simp
           with_reducible rfl
          rotate_left
          ·simp only [Act.put, sA, s0, sN, i64_w, i32_w]
           rfl
          refine done_ (by kernel_rfl) ?_
          try go_wp2_with (first | ((with_reducible refine gate_callee (f := 38) rfl ?_); refine gL (some 39) Tryz.func38 #[.slice (some ad501) l0.length c0, .int .i64 x26_2] ?_; (with_reducible refine (impl_next.calls k2 _ _ l0 x26_2 t505 _ ?side1 ?side2 A18.out).mono ?_); (case side1 => repeat (first | exact (Kd.C_below HR0.out HB.out) | (with_reducible refine Kd.C_alloc ?_ _) | (with_reducible refine Kd.C_drewN ?_ _) | (with_reducible refine Kd.C_drew ?_))); (case side2 => exact HC0.out); rintro e w24 ⟨v506, rfl, ho0, hb⟩; refine ⟨_, rfl, ?_⟩; have HO507 := Aside0.mk (Kd.R_lower (Kd.R_new' (Kd.R_new' ho0 (Kd.R_lt (rS HO_3.out))) (Kd.R_lt (rS HO_4.out))) (below_size bx)); replace HO_3 := Aside0.mk (Kd.R_elder' (rS HO_3.out) (Kd.R_base ho0) hb); replace HO_4 := Aside0.mk (Kd.R_elder' (rS HO_4.out) (Kd.R_base ho0) hb); replace BK502 := Aside0.mk (blk_below (g := gb502) (o := .cells #[.int .i64 ((rd_T38 l0 x26_2).f0), .int .i64 ((rd_T38 l0 x26_2).f1), .int .i64 ((rd_T38 l0 x26_2).f2), .int .i64 ((rd_T38 l0 x26_2).f3)] 38 (0, 0)) (bS BK502.out) hb); replace HB := Aside0.mk (below_step bx hb); (try clear hb); (try clear ho0); obtain ⟨Ao25, co25, eo25⟩ := Kd.R_slice HO507.out; subst eo25))
          (try generalize Value.pointer (some (ad503.add (x26_2).toNat)) = vp41_)
          go_loopg [41] k2 (fun kq v41 w' => ∃ (x3_3 : List Int) (x41_3 : Int), v41 = .int .i64 x41_3 ∧ Aside0 (impl_UniformAt.l2 kq l0 x3_3 t498 x26_2 t504 l0 (l0.length : Int) x26_2 t505 (t505.length : Int) x41_3 ((rd_T38 l0 x26_2).f0) ((rd_T38 l0 x26_2).f1) ((rd_T38 l0 x26_2).f2) ((rd_T38 l0 x26_2).f3) = some r) ∧ Aside0 (kq ≤ k2) ∧ Aside0 (Kd.R (Kd.int .i64) 3 w' w.heap.size (fun k_ => some k_ ≠ (v499 : Value).ownBlock ∧ some k_ ≠ ((.slice Ao25 t505.length co25) : Value).ownBlock) (.slice (some ad503) x3_2.length co11) x3_3) ∧ Aside0 (Kd.R (Kd.int .i64) 3 w' w.heap.size (fun k_ => some k_ ≠ ((.slice (some ad503) x3_2.length co11) : Value).ownBlock ∧ some k_ ≠ ((.slice Ao25 t505.length co25) : Value).ownBlock) v499 t498) ∧ Aside0 (Kd.R (Kd.int .i64) 3 w' w.heap.size (fun k_ => some k_ ≠ ((.slice (some ad503) x3_2.length co11) : Value).ownBlock ∧ some k_ ≠ (v499 : Value).ownBlock) (.slice Ao25 t505.length co25) t505) ∧ Aside0 (w'.heap[gb502]? = some (.cells #[.int .i64 ((rd_T38 l0 x26_2).f0), .int .i64 ((rd_T38 l0 x26_2).f1), .int .i64 ((rd_T38 l0 x26_2).f2), .int .i64 ((rd_T38 l0 x26_2).f3)] 38 (0, 0))) ∧ Aside0 (Below w.heap.size w w'))
          case atStart => exact ⟨(x3_2), (0), tR, H', ⟨Nat.le_refl _⟩, ⟨by (try simp only [hl3_2]); (with_reducible repeat (first | apply Kd.R_alloc | apply Kd.R_drewN | apply Kd.R_drew)); exact HO_3.out⟩, ⟨by (try simp only [hl3_2]); (with_reducible repeat (first | apply Kd.R_alloc | apply Kd.R_drewN | apply Kd.R_drew)); exact HO_4.out⟩, ⟨by (try simp only [hl3_2]); (with_reducible repeat (first | apply Kd.R_alloc | apply Kd.R_drewN | apply Kd.R_drew)); exact Kd.R_mono HO507.out (fun _ hk => ⟨hk.1.2, hk.2⟩)⟩, ⟨by (try simp only [hl3_2]); (with_reducible repeat (first | refine blk_drewN ?_ _ | refine blk_drew ?_ | refine blk_alloc ?_ _)); exact BK502.out⟩, ⟨bx⟩⟩
          case round =>
           clear H'
           try clear c1;try clear c2;try clear p2;try clear c3;try clear p5;try clear q5;try clear hx5;try clear p6;try clear c13;try clear c13b0;try clear c14;try clear c14b0;try clear c15;try clear c15b0;try clear c16;try clear c16b0;try clear c23;try clear hcz20_0;try clear hcz20_1;try clear hcz20_2;try clear hcz20_3;try clear hfz20_0;try clear hfz20_1;try clear hfz20_2;try clear hfz20_3;try clear hx501_0;try clear hx501_1;try clear hx501_2;try clear hx501_3;try clear hx503_0;try clear p2;try clear p501;try clear p503;try clear p6;try clear q501;try clear q503
           obtain ⟨x3_3, x41_3, rfl, HA, HK3, HO_3, HO_4, HO_39, BK502, HB⟩ := hrel
           have hl3_3 := (Kd.R_reads' HO_3.out).1
           rw [hl3_3] at HO_3
           (try simp only [hl3_3])
           (try simp only [hl3_3] at BK502)
           (try simp only [hl3_3] at HO_4)
           (try simp only [hl3_3] at HO_39)
           cases gk with
           | zero => exact absurd HA.out (by simp [impl_UniformAt.l2])
           | succ k3 =>
            have H := HA.out
            clear HA
            simp only [impl_UniformAt.l2] at H
            by_cases c26 : x41_3 < (t505.length : Int)
            ·rw [if_pos c26] at H
             have c26b0 : decide (x41_3 < (t505.length : Int)) = true := decide_eq_true c26
             clear c26
             by_cases c27 : 0 ≤ x41_3
             ·rw [if_pos c27] at H
              have c27b0 : decide (0 ≤ x41_3) = true := decide_eq_true c27
              clear c27
              by_cases c28 : x41_3 < (t505.length : Int)
              ·rw [if_pos c28] at H
               have c28b0 : decide (x41_3 < (t505.length : Int)) = true := decide_eq_true c28
               clear c28
               by_cases c29 : 0 ≤ (rd t505 x41_3)
               ·rw [if_pos c29] at H
                have c29b0 : decide (0 ≤ (rd t505 x41_3)) = true := decide_eq_true c29
                clear c29
                by_cases c30 : (rd t505 x41_3) < (x3_3.length : Int)
                ·rw [if_pos c30] at H
                 have c30b0 : decide ((rd t505 x41_3) < (x3_3.length : Int)) = true := decide_eq_true c30
                 clear c30
                 obtain ⟨y510, hy510⟩ : ∃ y_ : List Int, y_ = (x3_3.set ((rd t505 x41_3) : Int).toNat (Go.bits .and .i64 (rd x3_3 (rd t505 x41_3)) t504)) := ⟨_, rfl⟩
                 replace H : (impl_UniformAt.l2 k3 l0 y510 t498 x26_2 t504 l0 (l0.length : Int) x26_2 t505 (t505.length : Int) (wrap64 (x41_3 + 1)) ((rd_T38 l0 x26_2).f0) ((rd_T38 l0 x26_2).f1) ((rd_T38 l0 x26_2).f2) ((rd_T38 l0 x26_2).f3)) = some r := rP hy510 H
                 have Ny510 := Aside0.mk hy510
                 clear hy510
                 have H' := Aside0.mk H
                 clear H
                 have p508 : 0 ≤ (x41_3 : Int) := dT
                 have q508 : x41_3 < (t505.length : Int) := dT
                 obtain ⟨ad508, e508, hx508_0⟩ := Kd.at_int (Kd.R_reads' HO_39.out).2.2 x41_3 p508 q508
                 cases e508
                 replace p508 := eq_true p508
                 replace q508 := eq_true q508
                 have p509 : 0 ≤ ((rd t505 x41_3) : Int) := dT
                 have q509 : (rd t505 x41_3) < (x3_3.length : Int) := dT
                 obtain ⟨ad509, e509, hx509_0⟩ := Kd.at_int (Kd.R_reads' HO_3.out).2.2 (rd t505 x41_3) p509 q509
                 obtain rfl : ad503 = ad509 := (by injection e509)
                 replace p509 := eq_true p509
                 replace q509 := eq_true q509
                 have p31 : 0 ≤ ((rd t505 x41_3) : Int) := dT
                 have q31 : ((rd t505 x41_3) : Int) < ((x3_3.length : Int) : Int) := dT
                 obtain ⟨go31, co31, eo31, gb31, gl31, cl31, HG31⟩ := Kd.R_form HO_3.out (by omega)
                 (first | cases eo31 | (injection eo31 with ea_ en_ ec_; (first | subst ea_ | (injection ea_ with ea_; subst ea_)); subst ec_; clear en_))
                 have GB31 := Aside0.mk gb31
                 have GG31 := Aside0.mk HG31
                 clear gb31 gl31 HG31
                 (first | simp only [add_plain] at hx503_0 | skip)
                 (first | simp only [add_plain] at hx509_0 | skip)
                 obtain ⟨hx31_0, hf31_0⟩ := Kd.R_celln 0 HO_3.out ((rd t505 x41_3) : Int) p31 q31
                 replace p31 := eq_true p31
                 replace q31 := eq_true q31
                 have HP32 := Kd.R_putg HO_3.out ((rd t505 x41_3) : Int) (Go.bits .and .i64 (rd x3_3 (rd t505 x41_3)) t504)
                 go_wp2_with (first | ((with_reducible refine gate_store (t := 3) (p := 51) rfl ?_); refine store_event (t := 3) (p := 51) (v := ?vo_w33) (w1 := (wr.setCell ⟨go31, ((rd t505 x41_3) : Int).toNat, none⟩ (.int .i64 (Go.bits .and .i64 (rd x3_3 (rd t505 x41_3)) t504)))) ?hg ?ho ?hn ?hr ?_; (case ho => rfl); (case hg => rfl); (case hn => rfl); (case hr => first | (go_simp; done) | (go_simp; rfl)); intro w33 hw; have hg : wr.grownBy w33 (some go31) := (by rw [hw]; exact HP32.2); have hp_ : Kd.R (Kd.int .i64) 3 w33 w.heap.size (fun k_ => some k_ ≠ (v499 : Value).ownBlock ∧ some k_ ≠ (.slice (some ad508) t505.length co25 : Value).ownBlock) (.slice (some ⟨go31, 0, none⟩) x3_3.length co11) y510 := (by rw [hw, Ny510.out]; exact HP32.1); clear HP32; replace HO_4 := Aside0.mk (Kd.R_after (v := (.slice (some ⟨go31, 0, none⟩) x3_3.length co11)) (v1 := (.slice (some ⟨go31, 0, none⟩) x3_3.length co11)) (ok := (fun k_ => some k_ ≠ (.slice (some ad508) t505.length co25 : Value).ownBlock)) (by (with_reducible repeat (first | apply Kd.R_alloc | apply Kd.R_drewN | apply Kd.R_drew)); exact Kd.R_mono HO_4.out (fun _ hk => ⟨hk.2, hk.1⟩)) hg (.inl rfl)); replace HO_39 := Aside0.mk (Kd.R_after (v := (.slice (some ⟨go31, 0, none⟩) x3_3.length co11)) (v1 := (.slice (some ⟨go31, 0, none⟩) x3_3.length co11)) (ok := (fun k_ => some k_ ≠ (v499 : Value).ownBlock)) (by (with_reducible repeat (first | apply Kd.R_alloc | apply Kd.R_drewN | apply Kd.R_drew)); exact Kd.R_mono HO_39.out (fun _ hk => ⟨hk.2, hk.1⟩)) hg (.inl rfl)); replace BK502 := Aside0.mk (blk_grown (g := gb502) (o := .cells #[.int .i64 ((rd_T38 l0 x26_2).f0), .int .i64 ((rd_T38 l0 x26_2).f1), .int .i64 ((rd_T38 l0 x26_2).f2), .int .i64 ((rd_T38 l0 x26_2).f3)] 38 (0, 0)) (bS BK502.out) hg (Kd.R_ne HO_3.out BK502.out (by decide))); replace HO_3 := Aside0.mk (hp_); replace HB := Aside0.mk ((by rw [hw]; exact below_set (HB.out) GB31.out : Below w.heap.size w w33)); clear hg hw hp_))
                 (try simp only [← hl3_3])
                 go_roundg k3
                 case measure => have := HK1.out; have := HK2.out; have := HK3.out; omega
                 case rel => exact ⟨(y510), (wrap64 (x41_3 + 1)), tR, H', ⟨by have := HK1.out; have := HK2.out; have := HK3.out; omega⟩, ⟨by (try simp only [hl3_2]); (try simp only [hl3_3]); (with_reducible repeat (first | apply Kd.R_alloc | apply Kd.R_drewN | apply Kd.R_drew)); exact HO_3.out⟩, ⟨by (try simp only [hl3_2]); (try simp only [hl3_3]); (with_reducible repeat (first | apply Kd.R_alloc | apply Kd.R_drewN | apply Kd.R_drew)); exact Kd.R_mono HO_4.out (fun _ hk => ⟨hk.2, hk.1⟩)⟩, ⟨by (try simp only [hl3_2]); (try simp only [hl3_3]); (with_reducible repeat (first | apply Kd.R_alloc | apply Kd.R_drewN | apply Kd.R_drew)); exact Kd.R_mono HO_39.out (fun _ hk => ⟨hk.2, hk.1⟩)⟩, ⟨by (try simp only [hl3_2]); (try simp only [hl3_3]); (with_reducible repeat (first | refine blk_drewN ?_ _ | refine blk_drew ?_ | refine blk_alloc ?_ _)); exact BK502.out⟩, ⟨bx⟩⟩
                ·rw [if_neg c30] at H
                 exact absurd H (by simp)
               ·rw [if_neg c29] at H
                exact absurd H (by simp)
              ·rw [if_neg c28] at H
               exact absurd H (by simp)
             ·rw [if_neg c27] at H
              exact absurd H (by simp)
            ·rw [if_neg c26] at H
             have c26b0 : decide (x41_3 < (t505.length : Int)) = false := decide_eq_false c26
             clear c26
             have HC34 := Aside0.mk H
             clear H
             go_upto_region 14 with (fail)
             go_cut [67] (fun v67 wc => ∃ (kq : Nat) (x67_33 : Bool), v67 = .bool x67_33 ∧ Aside0 (impl_UniformAt.j3 kq l0 x3_3 t498 x26_2 l0 (l0.length : Int) x26_2 x67_33 = some r) ∧ Aside0 (kq ≤ k3) ∧ Aside0 (Kd.R (Kd.int .i64) 3 wc w.heap.size (fun k_ => some k_ ≠ (v499 : Value).ownBlock) (.slice (some ad503) x3_3.length co11) x3_3) ∧ Aside0 (Kd.R (Kd.int .i64) 3 wc w.heap.size (fun k_ => some k_ ≠ ((.slice (some ad503) x3_3.length co11) : Value).ownBlock) v499 t498) ∧ Aside0 (wc.heap[gb502]? = some (.cells #[.int .i64 ((rd_T38 l0 x26_2).f0), .int .i64 ((rd_T38 l0 x26_2).f1), .int .i64 ((rd_T38 l0 x26_2).f2), .int .i64 ((rd_T38 l0 x26_2).f3)] 38 (0, 0))) ∧ Aside0 (Below w.heap.size w wc))
             case first =>
              have H := HC34.out
              clear HC34
              replace H := Option.bind_eq_some_iff.mp H
              obtain ⟨t511, A350, H⟩ := H
              replace H : (if t511 = true then (if 0 ≤ x26_2 then (if x26_2 < (x3_3.length : Int) then (if 0 ≤ ((rd_T38 l0 x26_2).f1) then (impl_UniformAt.j3 k3 l0 x3_3 t498 x26_2 l0 (l0.length : Int) x26_2 ((Go.bits .and .i64 (shr .i64 (rd x3_3 x26_2) ((rd_T38 l0 x26_2).f1)) 1) == 1)) else (none)) else (none)) else (none)) else (impl_UniformAt.j3 k3 l0 x3_3 t498 x26_2 l0 (l0.length : Int) x26_2 true)) = some r := H
              have A35 := Aside0.mk A350
              clear A350
              by_cases c36 : t511 = true
              ·subst c36
               have H1 : (if 0 ≤ x26_2 then (if x26_2 < (x3_3.length : Int) then (if 0 ≤ ((rd_T38 l0 x26_2).f1) then (impl_UniformAt.j3 k3 l0 x3_3 t498 x26_2 l0 (l0.length : Int) x26_2 ((Go.bits .and .i64 (shr .i64 (rd x3_3 x26_2) ((rd_T38 l0 x26_2).f1)) 1) == 1)) else (none)) else (none)) else (none)) = some r := by rw [if_pos rfl] at H; exact H
               clear H
               have H := H1
               clear H1
               by_cases c37 : 0 ≤ x26_2
               ·rw [if_pos c37] at H
                have c37b0 : decide (0 ≤ x26_2) = true := decide_eq_true c37
                clear c37
                (first | rw [c37b0] | (simp only [i64_w, i32_w]; rw [c37b0]) | skip)
                by_cases c38 : x26_2 < (x3_3.length : Int)
                ·rw [if_pos c38] at H
                 have c38b0 : decide (x26_2 < (x3_3.length : Int)) = true := decide_eq_true c38
                 clear c38
                 by_cases c39 : 0 ≤ ((rd_T38 l0 x26_2).f1)
                 ·rw [if_pos c39] at H
                  have c39b0 := eq_true c39
                  have c39b1 : decide (0 ≤ ((rd_T38 l0 x26_2).f1)) = true := decide_eq_true c39
                  clear c39
                  obtain ⟨ji40, hji40⟩ : ∃ j_ : Int, (shr .i64 (rd x3_3 x26_2) ((rd_T38 l0 x26_2).f1)) = j_ := ⟨_, rfl⟩
                  replace H : (impl_UniformAt.j3 k3 l0 x3_3 t498 x26_2 l0 (l0.length : Int) x26_2 ((Go.bits .and .i64 (ji40) 1) == 1)) = some r := by first | (rw [hji40] at H; exact H) | (simp only [hji40] at H ⊢; exact H)
                  (try rw [hji40] at A35)
                  have hji40_ : ((rd x3_3 x26_2) / 2 ^ min ((rd_T38 l0 x26_2).f1).toNat 64) = ji40 := hji40
                  have hji40z : ((rd_T38 l0 x26_2).f1) ≤ 64 → ((rd x3_3 x26_2) / 2 ^ ((rd_T38 l0 x26_2).f1).toNat) = ji40 := shr_small hji40
                  have H' := Aside0.mk H
                  clear H
                  try go_wp2
                  replace HO_3 := Aside0.mk (Kd.R_drew HO_3.out)
                  replace HO_4 := Aside0.mk (Kd.R_drew HO_4.out)
                  replace HO_39 := Aside0.mk (Kd.R_drew HO_39.out)
                  replace BK502 := Aside0.mk (blk_drew BK502.out)
                  replace HB := Aside0.mk (below_drew1 HB.out)
                  have p512 : 0 ≤ (x26_2 : Int) := dT
                  have q512 : x26_2 < (x3_3.length : Int) := dT
                  obtain ⟨ad512, e512, hx512_0⟩ := Kd.at_int (Kd.R_reads' HO_3.out).2.2 x26_2 p512 q512
                  obtain rfl : ad503 = ad512 := (by injection e512)
                  replace p512 := eq_true p512
                  replace q512 := eq_true q512
                  refine start_ (n := 15) (S := fun w' => w'.cell? ⟨gb502, 0, none⟩ = some (.int .i64 ((rd_T38 l0 x26_2).f0)) ∧ w'.cell? ⟨gb502, 1, none⟩ = some (.int .i64 ((rd_T38 l0 x26_2).f1)) ∧ w'.cell? ⟨gb502, 2, none⟩ = some (.int .i64 ((rd_T38 l0 x26_2).f2)) ∧ w'.cell? ⟨gb502, 3, none⟩ = some (.int .i64 ((rd_T38 l0 x26_2).f3)) ∧ w'.cell? (ad503.add (x26_2).toNat) = some (.int .i64 (rd x3_3 x26_2))) (ds := []) #[false,false,false,false,false,false,false,false,false,false,false,false,false,false,false] (by kernel_rfl) rfl rfl ⟨(blk_cell BK502.out 0).trans rfl, (blk_cell BK502.out 1).trans rfl, (blk_cell BK502.out 2).trans rfl, (blk_cell BK502.out 3).trans rfl, hx512_0⟩ (fun hHeld => ?_); refine with_tabW impl_UniformAt.tab14 impl_UniformAt.bits14 (fun HT_ HW_ => ?_)
                  generalize wr.drew = w41 at HO_3 HO_4 HO_39 BK502 HB hx512_0 hHeld ⊢
                  refine pU 0 53 (v := ?_) (a' := ?_) #[Y,Z,Z,Z,Z,Z,Z,Z,Z,Z,Z,Z,Z,Z,Z] HT_ rfl rfl (by kernel_rfl) ?_ ?_ ?_;rotate_left;(intro w';go_simp;with_reducible rfl);rotate_left;(simp only [Act.put, sA, s0, sN, i64_w, i32_w];rfl)
                  refine pU 1 54 (v := ?_) (a' := ?_) #[Y,Y,Z,Z,Z,Z,Z,Z,Z,Z,Z,Z,Z,Z,Z] HT_ rfl rfl (by kernel_rfl) ?_ ?_ ?_;rotate_left;(intro w';go_simp;with_reducible rfl);rotate_left;(simp only [Act.put, sA, s0, sN, i64_w, i32_w];rfl)
                  refine one_ (i := 2) (N := some 55) #[Y,Y,Y,Z,Z,Z,Z,Z,Z,Z,Z,Z,Z,Z,Z] rfl rfl (one_of HT_.out (by kernel_rfl)) (by decide) (fun K hK => ?_)
                  refine goes_ Tryz.func24 (by kernel_rfl) rfl #[.slice (some ad501) l0.length c0, .int .i64 x26_2] (by rfl) rfl rfl bz ?_
                  with_reducible refine (impl_isBranch.calls k3 _ _ l0 x26_2 true _ ?side1 ?side2 A35.out).mono ?_
                  (case side1 => repeat (first | exact (Kd.C_below HR0.out HB.out) | (with_reducible refine Kd.C_alloc ?_ _) | (with_reducible refine Kd.C_drewN ?_ _) | (with_reducible refine Kd.C_drew ?_)))
                  (case side2 => exact HC0.out)
                  rintro e w42 ⟨rfl, hb⟩
                  have HS4_ := (hb.cell (World.block_lt_of_cell? _ _ (hHeld.2.2.2.2))).trans (hHeld.2.2.2.2)
                  refine ⟨_, rfl, ?_⟩
                  replace HO_3 := Aside0.mk (Kd.R_below (rS HO_3.out) hb)
                  replace HO_4 := Aside0.mk (Kd.R_below (rS HO_4.out) hb)
                  replace HO_39 := Aside0.mk (Kd.R_below (rS HO_39.out) hb)
                  replace BK502 := Aside0.mk (blk_below (g := gb502) (o := .cells #[.int .i64 ((rd_T38 l0 x26_2).f0), .int .i64 ((rd_T38 l0 x26_2).f1), .int .i64 ((rd_T38 l0 x26_2).f2), .int .i64 ((rd_T38 l0 x26_2).f3)] 38 (0, 0)) (bS BK502.out) hb)
                  replace HB := Aside0.mk (below_step bx hb)
                  (try clear hb)
                  (try clear hb2)
                  (try clear hk)
                  (try clear hi)
                  refine hK.out _ _ ⟨(blk_cell BK502.out 0).trans rfl, (blk_cell BK502.out 1).trans rfl, (blk_cell BK502.out 2).trans rfl, (blk_cell BK502.out 3).trans rfl, HS4_⟩ (fun hHeld => ?_)
                  clear hK K
                  refine norm_ (a' := ?_) ?_ ?_
                  rotate_left
                  ·show Act.put _ (some 55) _ = _
                   simp only [Act.put, sA, s0, sN, i64_w, i32_w]
                   rfl
                  refine pU 3 56 (v := ?_) (a' := ?_) #[Y,Y,Y,Y,Z,Z,Z,Z,Z,Z,Z,Z,Z,Z,Z] HT_ rfl rfl (by kernel_rfl) ?_ ?_ ?_;rotate_left;(intro w';go_simp;with_reducible rfl);rotate_left;(simp only [Act.put, sA, s0, sN, i64_w, i32_w];rfl)
                  refine pU 4 57 (v := ?_) (a' := ?_) #[Y,Y,Y,Y,Y,Z,Z,Z,Z,Z,Z,Z,Z,Z,Z] HT_ rfl rfl (by kernel_rfl) ?_ ?_ ?_;rotate_left;(intro w';go_simp;with_reducible rfl);rotate_left;(simp only [Act.put, sA, s0, sN, i64_w, i32_w];rfl)
                  refine pU 5 58 (v := ?_) (a' := ?_) #[Y,Y,Y,Y,Y,Y,Z,Z,Z,Z,Z,Z,Z,Z,Z] HT_ rfl rfl (by kernel_rfl) ?_ ?_ ?_;rotate_left;(intro w';go_simp;with_reducible rfl);rotate_left;(simp only [Act.put, sA, s0, sN, i64_w, i32_w];rfl)
                  refine pU 6 59 (v := ?_) (a' := ?_) #[Y,Y,Y,Y,Y,Y,Y,Z,Z,Z,Z,Z,Z,Z,Z] HT_ rfl rfl (by kernel_rfl) ?_ ?_ ?_;rotate_left;(intro w';go_simp;with_reducible rfl);rotate_left;(simp only [Act.put, sA, s0, sN, i64_w, i32_w];rfl)
                  refine pU 7 60 (v := ?_) (a' := ?_) #[Y,Y,Y,Y,Y,Y,Y,Y,Z,Z,Z,Z,Z,Z,Z] HT_ rfl rfl (by kernel_rfl) ?_ ?_ ?_;rotate_left;(intro w';go_simp;with_reducible rfl);rotate_left;(simp only [Act.put, sA, s0, sN, i64_w, i32_w];rfl)
                  refine pU 9 62 (v := ?_) (a' := ?_) #[Y,Y,Y,Y,Y,Y,Y,Y,Z,Y,Z,Z,Z,Z,Z] HT_ rfl rfl (by kernel_rfl) ?_ ?_ ?_;rotate_left;(intro w';go_simp;with_reducible rfl);rotate_left;(simp only [Act.put, sA, s0, sN, i64_w, i32_w];rfl)
                  refine take_ (i := 8) (N := some 61) (v := ?_) (a' := ?_) #[Y,Y,Y,Y,Y,Y,Y,Y,Y,Y,Z,Z,Z,Z,Z] rfl rfl (take_ofW HT_.out HW_.out (by kernel_rfl)) (fun _ _ _ h => h) (Or.inl ⟨by rfl, ?_⟩) hHeld ?_ ?_
                  rotate_left
                  ·rintro w' ⟨s0, s1, s2, s3, s4⟩
                   go_simp
                   with_reducible rfl
                  rotate_left
                  ·simp only [Act.put, sA, s0, sN, i64_w, i32_w]
                   rfl
                  refine take_ (i := 10) (N := some 63) (v := ?_) (a' := ?_) #[Y,Y,Y,Y,Y,Y,Y,Y,Y,Y,Y,Z,Z,Z,Z] rfl rfl (take_ofW HT_.out HW_.out (by kernel_rfl)) (fun _ _ _ h => h) (Or.inl ⟨by rfl, ?_⟩) hHeld ?_ ?_
                  rotate_left
                  ·rintro w' ⟨s0, s1, s2, s3, s4⟩
                   go_simp
                   with_reducible rfl
                  rotate_left
                  ·simp only [Act.put, sA, s0, sN, i64_w, i32_w]
                   rfl
                  refine pU 11 64 (v := ?_) (a' := ?_) #[Y,Y,Y,Y,Y,Y,Y,Y,Y,Y,Y,Y,Z,Z,Z] HT_ rfl rfl (by kernel_rfl) ?_ ?_ ?_;rotate_left;(intro w';go_simp;with_reducible rfl);rotate_left;(simp only [Act.put, sA, s0, sN, i64_w, i32_w];rfl)
                  refine pU 12 65 (v := ?_) (a' := ?_) #[Y,Y,Y,Y,Y,Y,Y,Y,Y,Y,Y,Y,Y,Z,Z] HT_ rfl rfl (by kernel_rfl) ?_ ?_ ?_;rotate_left;(intro w';go_simp;with_reducible rfl);rotate_left;(simp only [Act.put, sA, s0, sN, i64_w, i32_w];rfl)
                  refine pU 13 66 (v := ?_) (a' := ?_) #[Y,Y,Y,Y,Y,Y,Y,Y,Y,Y,Y,Y,Y,Y,Z] HT_ rfl rfl (by kernel_rfl) ?_ ?_ ?_;rotate_left;(intro w';go_simp;with_reducible rfl);rotate_left;(simp only [Act.put, sA, s0, sN, i64_w, i32_w];rfl)
                  refine pU 14 67 (v := ?_) (a' := ?_) #[Y,Y,Y,Y,Y,Y,Y,Y,Y,Y,Y,Y,Y,Y,Y] HT_ rfl rfl (by kernel_rfl) ?_ ?_ ?_;rotate_left;(intro w';go_simp;with_reducible rfl);rotate_left;(simp only [Act.put, sA, s0, sN, i64_w, i32_w];rfl)
                  refine done_ (done_of HT_.out (by kernel_rfl)) ?_
                  try go_wp2
                  go_meet
                  case rel => exact ⟨_, (((Go.bits .and .i64 (ji40) 1) == 1)), (by first | rfl | (simp; done) | (simp only [← hji40] <;> (first | rfl | simp)) | (simp [*]; done)), H', ⟨by have := HK1.out; have := HK2.out; have := HK3.out; first | omega | exact Nat.le_refl _⟩, ⟨by (try simp only [hl3_2]); (try simp only [hl3_3]); (with_reducible repeat (first | apply Kd.R_alloc | apply Kd.R_drewN | apply Kd.R_drew)); exact Kd.R_mono HO_3.out (fun _ hk => hk.1)⟩, ⟨by (try simp only [hl3_2]); (try simp only [hl3_3]); (with_reducible repeat (first | apply Kd.R_alloc | apply Kd.R_drewN | apply Kd.R_drew)); exact Kd.R_mono HO_4.out (fun _ hk => hk.1)⟩, ⟨by (try simp only [hl3_2]); (try simp only [hl3_3]); (with_reducible repeat (first | refine blk_drewN ?_ _ | refine blk_drew ?_ | refine blk_alloc ?_ _)); exact BK502.out⟩, ⟨bx⟩⟩
                 ·rw [if_neg c39] at H
                  exact absurd H (by simp)
                ·rw [if_neg c38] at H
                 exact absurd H (by simp)
               ·rw [if_neg c37] at H
                exact absurd H (by simp)
              ·replace c36 := Bool.eq_false_iff.mpr c36
               subst c36
               have H1 : (impl_UniformAt.j3 k3 l0 x3_3 t498 x26_2 l0 (l0.length : Int) x26_2 true) = some r := by rw [if_neg (show ¬ (false = true) by decide)] at H; exact H
               clear H
               have H := H1
               clear H1
               have H' := Aside0.mk H
               clear H
               try go_wp2
               replace HO_3 := Aside0.mk (Kd.R_drew HO_3.out)
               replace HO_4 := Aside0.mk (Kd.R_drew HO_4.out)
               replace HO_39 := Aside0.mk (Kd.R_drew HO_39.out)
               replace BK502 := Aside0.mk (blk_drew BK502.out)
               replace HB := Aside0.mk (below_drew1 HB.out)
               refine start_ (n := 15) (S := fun w' => True) (ds := []) #[false,false,false,false,false,false,false,false,false,false,false,false,false,false,false] (by kernel_rfl) rfl rfl trivial (fun hHeld => ?_); refine with_tabW impl_UniformAt.tab14 impl_UniformAt.bits14 (fun HT_ HW_ => ?_)
               generalize wr.drew = w43 at HO_3 HO_4 HO_39 BK502 HB hHeld ⊢
               refine pU 0 53 (v := ?_) (a' := ?_) #[Y,Z,Z,Z,Z,Z,Z,Z,Z,Z,Z,Z,Z,Z,Z] HT_ rfl rfl (by kernel_rfl) ?_ ?_ ?_;rotate_left;(intro w';go_simp;with_reducible rfl);rotate_left;(simp only [Act.put, sA, s0, sN, i64_w, i32_w];rfl)
               refine pU 1 54 (v := ?_) (a' := ?_) #[Y,Y,Z,Z,Z,Z,Z,Z,Z,Z,Z,Z,Z,Z,Z] HT_ rfl rfl (by kernel_rfl) ?_ ?_ ?_;rotate_left;(intro w';go_simp;with_reducible rfl);rotate_left;(simp only [Act.put, sA, s0, sN, i64_w, i32_w];rfl)
               refine one_ (i := 2) (N := some 55) #[Y,Y,Y,Z,Z,Z,Z,Z,Z,Z,Z,Z,Z,Z,Z] rfl rfl (one_of HT_.out (by kernel_rfl)) (by decide) (fun K hK => ?_)
               refine goes_ Tryz.func24 (by kernel_rfl) rfl #[.slice (some ad501) l0.length c0, .int .i64 x26_2] (by rfl) rfl rfl bz ?_
               with_reducible refine (impl_isBranch.calls k3 _ _ l0 x26_2 false _ ?side1 ?side2 A35.out).mono ?_
               (case side1 => repeat (first | exact (Kd.C_below HR0.out HB.out) | (with_reducible refine Kd.C_alloc ?_ _) | (with_reducible refine Kd.C_drewN ?_ _) | (with_reducible refine Kd.C_drew ?_)))
               (case side2 => exact HC0.out)
               rintro e w44 ⟨rfl, hb⟩
               refine ⟨_, rfl, ?_⟩
               replace HO_3 := Aside0.mk (Kd.R_below (rS HO_3.out) hb)
               replace HO_4 := Aside0.mk (Kd.R_below (rS HO_4.out) hb)
               replace HO_39 := Aside0.mk (Kd.R_below (rS HO_39.out) hb)
               replace BK502 := Aside0.mk (blk_below (g := gb502) (o := .cells #[.int .i64 ((rd_T38 l0 x26_2).f0), .int .i64 ((rd_T38 l0 x26_2).f1), .int .i64 ((rd_T38 l0 x26_2).f2), .int .i64 ((rd_T38 l0 x26_2).f3)] 38 (0, 0)) (bS BK502.out) hb)
               replace HB := Aside0.mk (below_step bx hb)
               (try clear hb)
               (try clear hb2)
               (try clear hk)
               (try clear hi)
               refine hK.out _ _ trivial (fun hHeld => ?_)
               clear hK K
               refine norm_ (a' := ?_) ?_ ?_
               rotate_left
               ·show Act.put _ (some 55) _ = _
                simp only [Act.put, sA, s0, sN, i64_w, i32_w]
                rfl
               refine pU 3 56 (v := ?_) (a' := ?_) #[Y,Y,Y,Y,Z,Z,Z,Z,Z,Z,Z,Z,Z,Z,Z] HT_ rfl rfl (by kernel_rfl) ?_ ?_ ?_;rotate_left;(intro w';go_simp;with_reducible rfl);rotate_left;(simp only [Act.put, sA, s0, sN, i64_w, i32_w];rfl)
               refine pU 4 57 (v := ?_) (a' := ?_) #[Y,Y,Y,Y,Y,Z,Z,Z,Z,Z,Z,Z,Z,Z,Z] HT_ rfl rfl (by kernel_rfl) ?_ ?_ ?_;rotate_left;(intro w';go_simp;with_reducible rfl);rotate_left;(simp only [Act.put, sA, s0, sN, i64_w, i32_w];rfl)
               refine pure_ (i := 5) (N := some 58) (v := undef) (a' := ?_) #[Y,Y,Y,Y,Y,Y,Z,Z,Z,Z,Z,Z,Z,Z,Z] rfl rfl (any_of HT_.out (by kernel_rfl)) (fun _ _ _ h => h) (Or.inr ⟨by rfl, rfl⟩) ?_ ?_
               rotate_left
               ·simp only [Act.put, sA, s0, sN, i64_w, i32_w]
                rfl
               refine pure_ (i := 6) (N := some 59) (v := undef) (a' := ?_) #[Y,Y,Y,Y,Y,Y,Y,Z,Z,Z,Z,Z,Z,Z,Z] rfl rfl (any_of HT_.out (by kernel_rfl)) (fun _ _ _ h => h) (Or.inr ⟨by rfl, rfl⟩) ?_ ?_
               rotate_left
               ·simp only [Act.put, sA, s0, sN, i64_w, i32_w]
                rfl
               refine pure_ (i := 7) (N := some 60) (v := undef) (a' := ?_) #[Y,Y,Y,Y,Y,Y,Y,Y,Z,Z,Z,Z,Z,Z,Z] rfl rfl (any_of HT_.out (by kernel_rfl)) (fun _ _ _ h => h) (Or.inr ⟨by rfl, rfl⟩) ?_ ?_
               rotate_left
               ·simp only [Act.put, sA, s0, sN, i64_w, i32_w]
                rfl
               refine pure_ (i := 8) (N := some 61) (v := undef) (a' := ?_) #[Y,Y,Y,Y,Y,Y,Y,Y,Y,Z,Z,Z,Z,Z,Z] rfl rfl (any_of HT_.out (by kernel_rfl)) (fun _ _ _ h => h) (Or.inr ⟨by rfl, rfl⟩) ?_ ?_
               rotate_left
               ·simp only [Act.put, sA, s0, sN, i64_w, i32_w]
                rfl
               refine pure_ (i := 9) (N := some 62) (v := undef) (a' := ?_) #[Y,Y,Y,Y,Y,Y,Y,Y,Y,Y,Z,Z,Z,Z,Z] rfl rfl (any_of HT_.out (by kernel_rfl)) (fun _ _ _ h => h) (Or.inr ⟨by rfl, rfl⟩) ?_ ?_
               rotate_left
               ·simp only [Act.put, sA, s0, sN, i64_w, i32_w]
                rfl
               refine pure_ (i := 10) (N := some 63) (v := undef) (a' := ?_) #[Y,Y,Y,Y,Y,Y,Y,Y,Y,Y,Y,Z,Z,Z,Z] rfl rfl (any_of HT_.out (by kernel_rfl)) (fun _ _ _ h => h) (Or.inr ⟨by rfl, rfl⟩) ?_ ?_
               rotate_left
               ·simp only [Act.put, sA, s0, sN, i64_w, i32_w]
                rfl
               refine pure_ (i := 11) (N := some 64) (v := undef) (a' := ?_) #[Y,Y,Y,Y,Y,Y,Y,Y,Y,Y,Y,Y,Z,Z,Z] rfl rfl (any_of HT_.out (by kernel_rfl)) (fun _ _ _ h => h) (Or.inr ⟨by rfl, rfl⟩) ?_ ?_
               rotate_left
               ·simp only [Act.put, sA, s0, sN, i64_w, i32_w]
                rfl
               refine pure_ (i := 12) (N := some 65) (v := undef) (a' := ?_) #[Y,Y,Y,Y,Y,Y,Y,Y,Y,Y,Y,Y,Y,Z,Z] rfl rfl (any_of HT_.out (by kernel_rfl)) (fun _ _ _ h => h) (Or.inr ⟨by rfl, rfl⟩) ?_ ?_
               rotate_left
               ·simp only [Act.put, sA, s0, sN, i64_w, i32_w]
                rfl
               refine pure_ (i := 13) (N := some 66) (v := undef) (a' := ?_) #[Y,Y,Y,Y,Y,Y,Y,Y,Y,Y,Y,Y,Y,Y,Z] rfl rfl (any_of HT_.out (by kernel_rfl)) (fun _ _ _ h => h) (Or.inr ⟨by rfl, rfl⟩) ?_ ?_
               rotate_left
               ·simp only [Act.put, sA, s0, sN, i64_w, i32_w]
                rfl
               refine pU 14 67 (v := ?_) (a' := ?_) #[Y,Y,Y,Y,Y,Y,Y,Y,Y,Y,Y,Y,Y,Y,Y] HT_ rfl rfl (by kernel_rfl) ?_ ?_ ?_;rotate_left;(intro w';go_simp;with_reducible rfl);rotate_left;(simp only [Act.put, sA, s0, sN, i64_w, i32_w];rfl)
               refine done_ (done_of HT_.out (by kernel_rfl)) ?_
               try go_wp2
               go_meet
               case rel => exact ⟨_, (true), tR, H', ⟨by have := HK1.out; have := HK2.out; have := HK3.out; first | omega | exact Nat.le_refl _⟩, ⟨by (try simp only [hl3_2]); (try simp only [hl3_3]); (with_reducible repeat (first | apply Kd.R_alloc | apply Kd.R_drewN | apply Kd.R_drew)); exact Kd.R_mono HO_3.out (fun _ hk => hk.1)⟩, ⟨by (try simp only [hl3_2]); (try simp only [hl3_3]); (with_reducible repeat (first | apply Kd.R_alloc | apply Kd.R_drewN | apply Kd.R_drew)); exact Kd.R_mono HO_4.out (fun _ hk => hk.1)⟩, ⟨by (try simp only [hl3_2]); (try simp only [hl3_3]); (with_reducible repeat (first | refine blk_drewN ?_ _ | refine blk_drew ?_ | refine blk_alloc ?_ _)); exact BK502.out⟩, ⟨bx⟩⟩
             case rest =>
              clear HC34
              try clear c1;try clear c2;try clear p2;try clear c3;try clear p3;try clear q3;try clear hx3;try clear hf3;try clear p5;try clear q5;try clear hx5;try clear p6;try clear c13;try clear c13b0;try clear c14;try clear c14b0;try clear c15;try clear c15b0;try clear c16;try clear c16b0;try clear c23;try clear c24;try clear c26;try clear c26b0;try clear c27;try clear c27b0;try clear c28;try clear c28b0;try clear c29;try clear c29b0;try clear c30;try clear c30b0;try clear p31;try clear q31;try clear hx31;try clear hf31;try clear c36;try clear c37;try clear c37b0;try clear c38;try clear c38b0;try clear c39;try clear c39b0;try clear c39b1;try clear hcz20_0;try clear hcz20_1;try clear hcz20_2;try clear hcz20_3;try clear hfz20_0;try clear hfz20_1;try clear hfz20_2;try clear hfz20_3;try clear hx31_0;try clear hx501_0;try clear hx501_1;try clear hx501_2;try clear hx501_3;try clear hx503_0;try clear hx508_0;try clear hx509_0;try clear hx512_0;try clear p2;try clear p31;try clear p5;try clear p501;try clear p503;try clear p508;try clear p509;try clear p512;try clear p6;try clear q31;try clear q5;try clear q501;try clear q503;try clear q508;try clear q509;try clear q512
              obtain ⟨kq, x67_33, rfl, HA, HJ33, HO_3, HO_4, BK502, HB⟩ := hcut
              cases kq with
              | zero => exact absurd HA.out (by simp [impl_UniformAt.j3])
              | succ kj33 =>
               have H := HA.out
               clear HA
               simp only [impl_UniformAt.j3] at H
               by_cases c45 : x67_33 = true
               ·subst c45
                have H1 : (impl_UniformAt.l1 kj33 l0 x3_3 t498 l0 (l0.length : Int) (wrap64 (x26_2 + 1))) = some r := by rw [if_pos rfl] at H; exact H
                clear H
                have H := H1
                clear H1
                have H' := Aside0.mk H
                clear H
                go_wp2
                (try simp only [← hl3_2, ← hl3_3])
                go_roundg kj33
                case measure => have := HK1.out; have := HK2.out; have := HK3.out; have := HJ33.out; omega
                case rel => exact ⟨(x3_3), (wrap64 (x26_2 + 1)), tR, H', ⟨by have := HK1.out; have := HK2.out; have := HK3.out; have := HJ33.out; omega⟩, ⟨by (try simp only [hl3_2]); (try simp only [hl3_3]); (with_reducible repeat (first | apply Kd.R_alloc | apply Kd.R_drewN | apply Kd.R_drew)); exact HO_3.out⟩, ⟨by (try simp only [hl3_2]); (try simp only [hl3_3]); (with_reducible repeat (first | apply Kd.R_alloc | apply Kd.R_drewN | apply Kd.R_drew)); exact HO_4.out⟩, ⟨bx⟩⟩
               ·replace c45 := Bool.eq_false_iff.mpr c45
                subst c45
                have H1 : ((impl_InsideOf.f kj33 l0 x26_2).bind fun t513 => ((impl_writtenIn.f kj33 l0 t513).bind fun t516 => ((impl_JoinOf.f kj33 l0 x26_2).bind fun t517 => (if t513.length < 17592186044416 then ((some (t513 ++ [t517] : List Int)).bind fun y518 => (impl_UniformAt.l3 kj33 l0 x3_3 t498 t516 l0 (l0.length : Int) x26_2 y518 (y518.length : Int) 0)) else (none))))) = some r := by rw [if_neg (show ¬ (false = true) by decide)] at H; exact H
                clear H
                have H := H1
                clear H1
                replace H := Option.bind_eq_some_iff.mp H
                obtain ⟨t513, A460, H⟩ := H
                replace H : ((impl_writtenIn.f kj33 l0 t513).bind fun t516 => ((impl_JoinOf.f kj33 l0 x26_2).bind fun t517 => (if t513.length < 17592186044416 then ((some (t513 ++ [t517] : List Int)).bind fun y518 => (impl_UniformAt.l3 kj33 l0 x3_3 t498 t516 l0 (l0.length : Int) x26_2 y518 (y518.length : Int) 0)) else (none)))) = some r := H
                have A46 := Aside0.mk A460
                clear A460
                replace H := Option.bind_eq_some_iff.mp H
                obtain ⟨t516, A470, H⟩ := H
                replace H : ((impl_JoinOf.f kj33 l0 x26_2).bind fun t517 => (if t513.length < 17592186044416 then ((some (t513 ++ [t517] : List Int)).bind fun y518 => (impl_UniformAt.l3 kj33 l0 x3_3 t498 t516 l0 (l0.length : Int) x26_2 y518 (y518.length : Int) 0)) else (none))) = some r := H
                have A47 := Aside0.mk A470
                clear A470
                replace H := Option.bind_eq_some_iff.mp H
                obtain ⟨t517, A480, H⟩ := H
                replace H : (if t513.length < 17592186044416 then ((some (t513 ++ [t517] : List Int)).bind fun y518 => (impl_UniformAt.l3 kj33 l0 x3_3 t498 t516 l0 (l0.length : Int) x26_2 y518 (y518.length : Int) 0)) else (none)) = some r := H
                have A48 := Aside0.mk A480
                clear A480
                by_cases c49 : t513.length < 17592186044416
                ·rw [if_pos c49] at H
                 have LMc49 := Aside0.mk c49
                 clear c49
                 obtain ⟨y518, hy518⟩ : ∃ y_ : List Int, y_ = (t513 ++ [t517]) := ⟨_, rfl⟩
                 replace H : (impl_UniformAt.l3 kj33 l0 x3_3 t498 t516 l0 (l0.length : Int) x26_2 y518 (y518.length : Int) 0) = some r := rP hy518 H
                 have Ny518 := Aside0.mk hy518
                 clear hy518
                 have H' := Aside0.mk H
                 clear H
                 go_wp2_with (first | ((with_reducible refine gate_callee (f := 39) rfl ?_); refine gL (some 70) Tryz.func39 #[.slice (some ad501) l0.length c0, .int .i64 x26_2] ?_; (with_reducible refine (impl_InsideOf.calls kj33 _ _ l0 x26_2 t513 _ ?side1 ?side2 A46.out).mono ?_); (case side1 => repeat (first | exact (Kd.C_below HR0.out HB.out) | (with_reducible refine Kd.C_alloc ?_ _) | (with_reducible refine Kd.C_drewN ?_ _) | (with_reducible refine Kd.C_drew ?_))); (case side2 => exact HC0.out); rintro e w50 ⟨v514, rfl, ho0, hb⟩; refine ⟨_, rfl, ?_⟩; have HO515 := Aside0.mk (Kd.R_lower (Kd.R_new' (Kd.R_new' ho0 (Kd.R_lt (rS HO_3.out))) (Kd.R_lt (rS HO_4.out))) (below_size bx)); replace HO_3 := Aside0.mk (Kd.R_elder' (rS HO_3.out) (Kd.R_base ho0) hb); replace HO_4 := Aside0.mk (Kd.R_elder' (rS HO_4.out) (Kd.R_base ho0) hb); replace BK502 := Aside0.mk (blk_below (g := gb502) (o := .cells #[.int .i64 ((rd_T38 l0 x26_2).f0), .int .i64 ((rd_T38 l0 x26_2).f1), .int .i64 ((rd_T38 l0 x26_2).f2), .int .i64 ((rd_T38 l0 x26_2).f3)] 38 (0, 0)) (bS BK502.out) hb); replace HB := Aside0.mk (below_step bx hb); (try clear hb); (try clear ho0); obtain ⟨Ao51, co51, eo51⟩ := Kd.R_slice HO515.out; subst eo51) | ((with_reducible refine gate_callee (f := 40) rfl ?_); refine gL (some 73) Tryz.func40 #[.slice (some ad501) l0.length c0, .slice Ao51 t513.length co51] ?_; (with_reducible refine (impl_writtenIn.calls kj33 _ _ l0 _ _ t513 t516 _ ?side1 ?side2 ?side3 ?side4 A47.out).mono ?_); (case side1 => repeat (first | exact (Kd.C_below HR0.out HB.out) | (with_reducible refine Kd.C_alloc ?_ _) | (with_reducible refine Kd.C_drewN ?_ _) | (with_reducible refine Kd.C_drew ?_))); (case side2 => exact HC0.out); (case side3 => exact cS (Kd.R_reads' HO515.out).2.2); (case side4 => exact (Kd.R_reads' HO515.out).2.1); rintro e w52 ⟨rfl, hb⟩; refine ⟨_, rfl, ?_⟩; replace HO_3 := Aside0.mk (Kd.R_below (rS HO_3.out) hb); replace HO_4 := Aside0.mk (Kd.R_below (rS HO_4.out) hb); replace HO515 := Aside0.mk (Kd.R_below (rS HO515.out) hb); replace BK502 := Aside0.mk (blk_below (g := gb502) (o := .cells #[.int .i64 ((rd_T38 l0 x26_2).f0), .int .i64 ((rd_T38 l0 x26_2).f1), .int .i64 ((rd_T38 l0 x26_2).f2), .int .i64 ((rd_T38 l0 x26_2).f3)] 38 (0, 0)) (bS BK502.out) hb); replace HB := Aside0.mk (below_step bx hb); (try clear hb)) | ((with_reducible refine gate_callee (f := 41) rfl ?_); refine gL (some 77) Tryz.func41 #[.slice (some ad501) l0.length c0, .int .i64 x26_2] ?_; (with_reducible refine (impl_JoinOf.calls kj33 _ _ l0 x26_2 t517 _ ?side1 ?side2 A48.out).mono ?_); (case side1 => repeat (first | exact (Kd.C_below HR0.out HB.out) | (with_reducible refine Kd.C_alloc ?_ _) | (with_reducible refine Kd.C_drewN ?_ _) | (with_reducible refine Kd.C_drew ?_))); (case side2 => exact HC0.out); rintro e w53 ⟨rfl, hb⟩; refine ⟨_, rfl, ?_⟩; replace HO_3 := Aside0.mk (Kd.R_below (rS HO_3.out) hb); replace HO_4 := Aside0.mk (Kd.R_below (rS HO_4.out) hb); replace HO515 := Aside0.mk (Kd.R_below (rS HO515.out) hb); replace BK502 := Aside0.mk (blk_below (g := gb502) (o := .cells #[.int .i64 ((rd_T38 l0 x26_2).f0), .int .i64 ((rd_T38 l0 x26_2).f1), .int .i64 ((rd_T38 l0 x26_2).f2), .int .i64 ((rd_T38 l0 x26_2).f3)] 38 (0, 0)) (bS BK502.out) hb); replace HB := Aside0.mk (below_step bx hb); (try clear hb)) | ((with_reducible refine gate_builtin (b := .append) (xs := #[.tmp 74, .tmp 78]) rfl ?_); at_builtin; refine Kd.R_append (Kd.int .i64) (w0 := w) w.heap.size rfl (.tmp 74) (.tmp 78) 31 3 (.int .i64 0) 8 rfl Tryz.underlying31 info3 rfl (by decide) (by omega) (.slice Ao51 t513.length co51) t513 t517 [.int .i64 t517] (fun k_ => some k_ ≠ (.slice (some ad503) x3_3.length co11 : Value).ownBlock ∧ some k_ ≠ (v499 : Value).ownBlock) (fun _ => False) rfl rfl ?aP (fun _ hk => hk.elim) ?aF ?aO ?aB ?aS ?aL ?_; (case aP => exact rfl); (case aB => exact bx); (case aF => exact (fun k_ hk => ⟨Kd.fresh' (Kd.R_lt (rS HO_3.out)) k_ hk, Kd.fresh' (Kd.R_lt (rS HO_4.out)) k_ hk⟩)); (case aO => exact (by (with_reducible repeat (first | apply Kd.R_alloc | apply Kd.R_drewN | apply Kd.R_drew)); exact Kd.R_mono HO515.out (fun _ hk => ⟨hk.1.2, hk.2⟩))); (case aS => exact (below_size bx)); (case aL => have := LMc49.out; omega); intro v519 w54 ho hb hg hat; rw [← Ny518.out] at ho; replace HO_3 := Aside0.mk (Kd.R_after (ok := (fun k_ => some k_ ≠ (v499 : Value).ownBlock)) (rS HO_3.out) hg hat); replace HO_4 := Aside0.mk (Kd.R_after (ok := (fun k_ => some k_ ≠ (.slice (some ad503) x3_3.length co11 : Value).ownBlock)) (rS HO_4.out) hg hat); replace BK502 := Aside0.mk (blk_grown (g := gb502) (o := .cells #[.int .i64 ((rd_T38 l0 x26_2).f0), .int .i64 ((rd_T38 l0 x26_2).f1), .int .i64 ((rd_T38 l0 x26_2).f2), .int .i64 ((rd_T38 l0 x26_2).f3)] 38 (0, 0)) (bS BK502.out) hg (Kd.R_ne HO515.out BK502.out (by decide))); replace HB := Aside0.mk (hb); have HO520 := Aside0.mk (ho); clear HO515; clear ho hb hg hat; obtain ⟨Ao55, co55, eo55⟩ := Kd.R_slice HO520.out; subst eo55))
                 (try generalize Value.pointer (some (ad503.add (x26_2).toNat)) = vp81_)
                 go_loopg [81] kj33 (fun kq v81 w' => ∃ (x3_5 : List Int) (x81_5 : Int), v81 = .int .i64 x81_5 ∧ Aside0 (impl_UniformAt.l3 kq l0 x3_5 t498 t516 l0 (l0.length : Int) x26_2 y518 (y518.length : Int) x81_5 = some r) ∧ Aside0 (kq ≤ kj33) ∧ Aside0 (Kd.R (Kd.int .i64) 3 w' w.heap.size (fun k_ => some k_ ≠ (v499 : Value).ownBlock ∧ some k_ ≠ ((.slice Ao55 y518.length co55) : Value).ownBlock) (.slice (some ad503) x3_3.length co11) x3_5) ∧ Aside0 (Kd.R (Kd.int .i64) 3 w' w.heap.size (fun k_ => some k_ ≠ ((.slice (some ad503) x3_3.length co11) : Value).ownBlock ∧ some k_ ≠ ((.slice Ao55 y518.length co55) : Value).ownBlock) v499 t498) ∧ Aside0 (Kd.R (Kd.int .i64) 3 w' w.heap.size (fun k_ => some k_ ≠ ((.slice (some ad503) x3_3.length co11) : Value).ownBlock ∧ some k_ ≠ (v499 : Value).ownBlock) (.slice Ao55 y518.length co55) y518) ∧ Aside0 (w'.heap[gb502]? = some (.cells #[.int .i64 ((rd_T38 l0 x26_2).f0), .int .i64 ((rd_T38 l0 x26_2).f1), .int .i64 ((rd_T38 l0 x26_2).f2), .int .i64 ((rd_T38 l0 x26_2).f3)] 38 (0, 0))) ∧ Aside0 (Below w.heap.size w w'))
                 case atStart => exact ⟨(x3_3), (0), tR, H', ⟨Nat.le_refl _⟩, ⟨by (try simp only [hl3_2]); (try simp only [hl3_3]); (with_reducible repeat (first | apply Kd.R_alloc | apply Kd.R_drewN | apply Kd.R_drew)); exact HO_3.out⟩, ⟨by (try simp only [hl3_2]); (try simp only [hl3_3]); (with_reducible repeat (first | apply Kd.R_alloc | apply Kd.R_drewN | apply Kd.R_drew)); exact HO_4.out⟩, ⟨by (try simp only [hl3_2]); (try simp only [hl3_3]); (with_reducible repeat (first | apply Kd.R_alloc | apply Kd.R_drewN | apply Kd.R_drew)); exact HO520.out⟩, ⟨by (try simp only [hl3_2]); (try simp only [hl3_3]); (with_reducible repeat (first | refine blk_drewN ?_ _ | refine blk_drew ?_ | refine blk_alloc ?_ _)); exact BK502.out⟩, ⟨bx⟩⟩
                 case round =>
                  clear H'
                  try clear c1;try clear c2;try clear p2;try clear c3;try clear p3;try clear q3;try clear hx3;try clear hf3;try clear c4;try clear p5;try clear q5;try clear hx5;try clear p6;try clear c13;try clear c13b0;try clear c14;try clear c14b0;try clear c15;try clear c15b0;try clear c16;try clear c16b0;try clear c23;try clear c24;try clear c26;try clear c26b0;try clear c27;try clear c27b0;try clear c28;try clear c28b0;try clear c29;try clear c29b0;try clear c30;try clear c30b0;try clear p31;try clear q31;try clear hx31;try clear hf31;try clear c36;try clear c37;try clear c37b0;try clear c38;try clear c38b0;try clear c39;try clear c39b0;try clear c39b1;try clear c40;try clear c41;try clear c45;try clear c49;try clear p50;try clear q50;try clear hx50;try clear p51;try clear q51;try clear hx51;try clear hcz20_0;try clear hcz20_1;try clear hcz20_2;try clear hcz20_3;try clear hfz20_0;try clear hfz20_1;try clear hfz20_2;try clear hfz20_3;try clear hx31_0;try clear hx501_0;try clear hx501_1;try clear hx501_2;try clear hx501_3;try clear hx503_0;try clear hx508_0;try clear hx509_0;try clear hx512_0;try clear p2;try clear p3;try clear p31;try clear p5;try clear p501;try clear p503;try clear p508;try clear p509;try clear p512;try clear p6;try clear q3;try clear q31;try clear q5;try clear q501;try clear q503;try clear q508;try clear q509;try clear q512
                  obtain ⟨x3_5, x81_5, rfl, HA, HK5, HO_3, HO_4, HO_79, BK502, HB⟩ := hrel
                  have hl3_5 := (Kd.R_reads' HO_3.out).1
                  rw [hl3_5] at HO_3
                  (try simp only [hl3_5])
                  (try simp only [hl3_5] at BK502)
                  (try simp only [hl3_5] at HO_4)
                  (try simp only [hl3_5] at HO_79)
                  cases gk with
                  | zero => exact absurd HA.out (by simp [impl_UniformAt.l3])
                  | succ k5 =>
                   have H := HA.out
                   clear HA
                   simp only [impl_UniformAt.l3] at H
                   by_cases c56 : x81_5 < (y518.length : Int)
                   ·rw [if_pos c56] at H
                    have c56b0 : decide (x81_5 < (y518.length : Int)) = true := decide_eq_true c56
                    clear c56
                    by_cases c57 : 0 ≤ x81_5
                    ·rw [if_pos c57] at H
                     have c57b0 : decide (0 ≤ x81_5) = true := decide_eq_true c57
                     clear c57
                     by_cases c58 : x81_5 < (y518.length : Int)
                     ·rw [if_pos c58] at H
                      have c58b0 : decide (x81_5 < (y518.length : Int)) = true := decide_eq_true c58
                      clear c58
                      by_cases c59 : 0 ≤ (rd y518 x81_5)
                      ·rw [if_pos c59] at H
                       have c59b0 : decide (0 ≤ (rd y518 x81_5)) = true := decide_eq_true c59
                       clear c59
                       by_cases c60 : (rd y518 x81_5) < (x3_5.length : Int)
                       ·rw [if_pos c60] at H
                        have c60b0 : decide ((rd y518 x81_5) < (x3_5.length : Int)) = true := decide_eq_true c60
                        clear c60
                        obtain ⟨y523, hy523⟩ : ∃ y_ : List Int, y_ = (x3_5.set ((rd y518 x81_5) : Int).toNat (Go.bits .andNot .i64 (rd x3_5 (rd y518 x81_5)) t516)) := ⟨_, rfl⟩
                        replace H : (impl_UniformAt.l3 k5 l0 y523 t498 t516 l0 (l0.length : Int) x26_2 y518 (y518.length : Int) (wrap64 (x81_5 + 1))) = some r := rP hy523 H
                        have Ny523 := Aside0.mk hy523
                        clear hy523
                        have H' := Aside0.mk H
                        clear H
                        have p521 : 0 ≤ (x81_5 : Int) := dT
                        have q521 : x81_5 < (y518.length : Int) := dT
                        obtain ⟨ad521, e521, hx521_0⟩ := Kd.at_int (Kd.R_reads' HO_79.out).2.2 x81_5 p521 q521
                        cases e521
                        replace p521 := eq_true p521
                        replace q521 := eq_true q521
                        have p522 : 0 ≤ ((rd y518 x81_5) : Int) := dT
                        have q522 : (rd y518 x81_5) < (x3_5.length : Int) := dT
                        obtain ⟨ad522, e522, hx522_0⟩ := Kd.at_int (Kd.R_reads' HO_3.out).2.2 (rd y518 x81_5) p522 q522
                        obtain rfl : ad503 = ad522 := (by injection e522)
                        replace p522 := eq_true p522
                        replace q522 := eq_true q522
                        have p61 : 0 ≤ ((rd y518 x81_5) : Int) := dT
                        have q61 : ((rd y518 x81_5) : Int) < ((x3_5.length : Int) : Int) := dT
                        obtain ⟨go61, co61, eo61, gb61, gl61, cl61, HG61⟩ := Kd.R_form HO_3.out (by omega)
                        (first | cases eo61 | (injection eo61 with ea_ en_ ec_; (first | subst ea_ | (injection ea_ with ea_; subst ea_)); subst ec_; clear en_))
                        have GB61 := Aside0.mk gb61
                        have GG61 := Aside0.mk HG61
                        clear gb61 gl61 HG61
                        (first | simp only [add_plain] at hx512_0 | skip)
                        (first | simp only [add_plain] at hx522_0 | skip)
                        obtain ⟨hx61_0, hf61_0⟩ := Kd.R_celln 0 HO_3.out ((rd y518 x81_5) : Int) p61 q61
                        replace p61 := eq_true p61
                        replace q61 := eq_true q61
                        have HP62 := Kd.R_putg HO_3.out ((rd y518 x81_5) : Int) (Go.bits .andNot .i64 (rd x3_5 (rd y518 x81_5)) t516)
                        go_wp2_with (first | ((with_reducible refine gate_store (t := 3) (p := 91) rfl ?_); refine store_event (t := 3) (p := 91) (v := ?vo_w63) (w1 := (wr.setCell ⟨go61, ((rd y518 x81_5) : Int).toNat, none⟩ (.int .i64 (Go.bits .andNot .i64 (rd x3_5 (rd y518 x81_5)) t516)))) ?hg ?ho ?hn ?hr ?_; (case ho => rfl); (case hg => rfl); (case hn => rfl); (case hr => first | (go_simp; done) | (go_simp; rfl)); intro w63 hw; have hg : wr.grownBy w63 (some go61) := (by rw [hw]; exact HP62.2); have hp_ : Kd.R (Kd.int .i64) 3 w63 w.heap.size (fun k_ => some k_ ≠ (v499 : Value).ownBlock ∧ some k_ ≠ (.slice (some ad521) y518.length co55 : Value).ownBlock) (.slice (some ⟨go61, 0, none⟩) x3_5.length co11) y523 := (by rw [hw, Ny523.out]; exact HP62.1); clear HP62; replace HO_4 := Aside0.mk (Kd.R_after (v := (.slice (some ⟨go61, 0, none⟩) x3_5.length co11)) (v1 := (.slice (some ⟨go61, 0, none⟩) x3_5.length co11)) (ok := (fun k_ => some k_ ≠ (.slice (some ad521) y518.length co55 : Value).ownBlock)) (by (with_reducible repeat (first | apply Kd.R_alloc | apply Kd.R_drewN | apply Kd.R_drew)); exact Kd.R_mono HO_4.out (fun _ hk => ⟨hk.2, hk.1⟩)) hg (.inl rfl)); replace HO_79 := Aside0.mk (Kd.R_after (v := (.slice (some ⟨go61, 0, none⟩) x3_5.length co11)) (v1 := (.slice (some ⟨go61, 0, none⟩) x3_5.length co11)) (ok := (fun k_ => some k_ ≠ (v499 : Value).ownBlock)) (by (with_reducible repeat (first | apply Kd.R_alloc | apply Kd.R_drewN | apply Kd.R_drew)); exact Kd.R_mono HO_79.out (fun _ hk => ⟨hk.2, hk.1⟩)) hg (.inl rfl)); replace BK502 := Aside0.mk (blk_grown (g := gb502) (o := .cells #[.int .i64 ((rd_T38 l0 x26_2).f0), .int .i64 ((rd_T38 l0 x26_2).f1), .int .i64 ((rd_T38 l0 x26_2).f2), .int .i64 ((rd_T38 l0 x26_2).f3)] 38 (0, 0)) (bS BK502.out) hg (Kd.R_ne HO_3.out BK502.out (by decide))); replace HO_3 := Aside0.mk (hp_); replace HB := Aside0.mk ((by rw [hw]; exact below_set (HB.out) GB61.out : Below w.heap.size w w63)); clear hg hw hp_))
                        (try simp only [← hl3_5])
                        go_roundg k5
                        case measure => have := HK1.out; have := HK2.out; have := HK3.out; have := HJ33.out; have := HK5.out; omega
                        case rel => exact ⟨(y523), (wrap64 (x81_5 + 1)), tR, H', ⟨by have := HK1.out; have := HK2.out; have := HK3.out; have := HJ33.out; have := HK5.out; omega⟩, ⟨by (try simp only [hl3_2]); (try simp only [hl3_3]); (try simp only [hl3_5]); (with_reducible repeat (first | apply Kd.R_alloc | apply Kd.R_drewN | apply Kd.R_drew)); exact HO_3.out⟩, ⟨by (try simp only [hl3_2]); (try simp only [hl3_3]); (try simp only [hl3_5]); (with_reducible repeat (first | apply Kd.R_alloc | apply Kd.R_drewN | apply Kd.R_drew)); exact Kd.R_mono HO_4.out (fun _ hk => ⟨hk.2, hk.1⟩)⟩, ⟨by (try simp only [hl3_2]); (try simp only [hl3_3]); (try simp only [hl3_5]); (with_reducible repeat (first | apply Kd.R_alloc | apply Kd.R_drewN | apply Kd.R_drew)); exact Kd.R_mono HO_79.out (fun _ hk => ⟨hk.2, hk.1⟩)⟩, ⟨by (try simp only [hl3_2]); (try simp only [hl3_3]); (try simp only [hl3_5]); (with_reducible repeat (first | refine blk_drewN ?_ _ | refine blk_drew ?_ | refine blk_alloc ?_ _)); exact BK502.out⟩, ⟨bx⟩⟩
                       ·rw [if_neg c60] at H
                        exact absurd H (by simp)
                      ·rw [if_neg c59] at H
                       exact absurd H (by simp)
                     ·rw [if_neg c58] at H
                      exact absurd H (by simp)
                    ·rw [if_neg c57] at H
                     exact absurd H (by simp)
                   ·rw [if_neg c56] at H
                    have c56b0 : decide (x81_5 < (y518.length : Int)) = false := decide_eq_false c56
                    clear c56
                    have H' := Aside0.mk H
                    clear H
                    go_wp2
                    (try simp only [← hl3_2, ← hl3_3, ← hl3_5])
                    go_roundg k5
                    case measure => have := HK1.out; have := HK2.out; have := HK3.out; have := HJ33.out; have := HK5.out; omega
                    case rel => exact ⟨(x3_5), (wrap64 (x26_2 + 1)), tR, H', ⟨by have := HK1.out; have := HK2.out; have := HK3.out; have := HJ33.out; have := HK5.out; omega⟩, ⟨by (try simp only [hl3_2]); (try simp only [hl3_3]); (try simp only [hl3_5]); (with_reducible repeat (first | apply Kd.R_alloc | apply Kd.R_drewN | apply Kd.R_drew)); exact Kd.R_mono HO_3.out (fun _ hk => hk.1)⟩, ⟨by (try simp only [hl3_2]); (try simp only [hl3_3]); (try simp only [hl3_5]); (with_reducible repeat (first | apply Kd.R_alloc | apply Kd.R_drewN | apply Kd.R_drew)); exact Kd.R_mono HO_4.out (fun _ hk => hk.1)⟩, ⟨bx⟩⟩
                ·rw [if_neg c49] at H
                 exact absurd H (by simp)
         ·rw [if_neg c16] at H
          exact absurd H (by simp)
        ·rw [if_neg c15] at H
         exact absurd H (by simp)
       ·rw [if_neg c14] at H
        exact absurd H (by simp)
      ·rw [if_neg c13] at H
       have c13b0 : decide (x26_2 < (l0.length : Int)) = false := decide_eq_false c13
       clear c13
       replace H := Option.bind_eq_some_iff.mp H
       obtain ⟨t524, A640, H⟩ := H
       replace H : (if t524 = true then (if 0 ≤ (l0.length : Int) then (if (l0.length : Int) ≤ (x3_2.length : Int) then ((slices_Clone_int_int.f (x3_2.take ((l0.length : Int) : Int).toNat)).bind fun t529 => (some t529)) else (none)) else (none)) else (impl_UniformAt.l0 k2 l0 x3_2)) = some r := H
       have A64 := Aside0.mk A640
       clear A640
       by_cases c65 : t524 = true
       ·subst c65
        have H1 : (if 0 ≤ (l0.length : Int) then (if (l0.length : Int) ≤ (x3_2.length : Int) then ((slices_Clone_int_int.f (x3_2.take ((l0.length : Int) : Int).toNat)).bind fun t529 => (some t529)) else (none)) else (none)) = some r := by rw [if_pos rfl] at H; exact H
        clear H
        have H := H1
        clear H1
        by_cases c66 : 0 ≤ (l0.length : Int)
        ·rw [if_pos c66] at H
         have c66b0 := eq_true c66
         have c66b1 : decide (0 ≤ (l0.length : Int)) = true := decide_eq_true c66
         clear c66
         by_cases c67 : (l0.length : Int) ≤ (x3_2.length : Int)
         ·rw [if_pos c67] at H
          have c67b0 := eq_true c67
          have c67b1 : decide ((l0.length : Int) ≤ (x3_2.length : Int)) = true := decide_eq_true c67
          clear c67
          obtain ⟨y525, hy525⟩ : ∃ y_ : List Int, y_ = (x3_2.take ((l0.length : Int) : Int).toNat) := ⟨_, rfl⟩
          replace H : ((slices_Clone_int_int.f y525).bind fun t529 => (some t529)) = some r := rP hy525 H
          have Ny525 := Aside0.mk hy525
          clear hy525
          replace H := Option.bind_eq_some_iff.mp H
          obtain ⟨t529, A680, H⟩ := H
          replace H : (some t529) = some r := H
          have A68 := Aside0.mk A680
          clear A680
          obtain rfl := Option.some.inj H
          obtain ⟨Ao69, co69, eo69⟩ := Kd.R_slice HO_4.out
          subst eo69
          go_wp2_with (first | ((with_reducible refine gate_callee (f := 42) rfl ?_); refine gL (some 96) Tryz.func42 #[.slice Ao11 x3_2.length co11, .slice Ao69 t498.length co69] ?_; (with_reducible refine (slices_Equal_int_int.calls k2 _ _ x3_2 _ _ t498 true _ ?side1 ?side2 ?side3 ?side4 A64.out).mono ?_); (case side1 => exact cS (Kd.R_reads' HO_3.out).2.2); (case side2 => exact (Kd.R_reads' HO_3.out).2.1); (case side3 => exact cS (Kd.R_reads' HO_4.out).2.2); (case side4 => exact (Kd.R_reads' HO_4.out).2.1); rintro e w' ⟨rfl, ⟨nd, rfl⟩⟩; refine ⟨_, rfl, ?_⟩; have q70 : ((l0.length : Int) : Int) ≤ ((x3_2.length : Int) : Int) := dT; obtain ⟨i070, hi070, _, hsz70, _⟩ := info_parts info3; have hroom70 : x3_2.length ≤ co11 := (Kd.R_reads' HO_3.out).2.1; have hC70 : Kd.C (Kd.int .i64) _ Ao11 x3_2.length x3_2 := (Kd.R_reads' HO_3.out).2.2; have hcut70 := cut_to (P := Tryz.prog) 31 3 .i64 Tryz.underlying31 hi070 Ao11 x3_2.length co11 (l0.length : Int) (dT) q70 hroom70; have hr70 := Kd.C_take (m := ((l0.length : Int) : Int).toNat) hC70 (by omega); have hy70 : y525.length = ((l0.length : Int) : Int).toNat := (by rw [Ny525.out, List.length_take]; omega); rw [← Ny525.out] at hr70; rw [← hy70] at hcut70; have HR528 := Aside0.mk hr70; have HC528 := Aside0.mk (show y525.length ≤ co11 from by omega); clear hr70 hC70 hroom70 hi070 hsz70; have KY70 := Aside0.mk hy70; clear hy70; have KL70 := Aside0.mk (show ((l0.length : Int) : Int).toNat ≤ x3_2.length from by omega); replace q70 := eq_true q70) | ((with_reducible refine gate_callee (f := 36) rfl ?_); refine gL (some 101) Tryz.func36 #[.slice Ao11 y525.length co11] ?_; (with_reducible refine (slices_Clone_int_int.calls _ _ y525 t529 _ ?side1 ?side2 A68.out).mono ?_); (case side1 => repeat (first | exact (by repeat (first | (with_reducible exact HR528.out) | (with_reducible refine Kd.C_alloc ?_ _) | (with_reducible refine Kd.C_drewN ?_ _) | (with_reducible refine Kd.C_drew ?_) | exact HR528.out)) | (with_reducible refine Kd.C_alloc ?_ _) | (with_reducible refine Kd.C_drewN ?_ _) | (with_reducible refine Kd.C_drew ?_))); (case side2 => exact HC528.out); rintro e w71 ⟨v530, rfl, ho0, hb⟩; refine ⟨_, rfl, ?_⟩; have HO531 := Aside0.mk (Kd.R_lower (Kd.R_new' (Kd.R_new' ho0 (Kd.R_lt (rS HO_3.out))) (Kd.R_lt (rS HO_4.out))) (below_size bw)); replace HO_3 := Aside0.mk (Kd.R_elder' (rS HO_3.out) (Kd.R_base ho0) hb); replace HO_4 := Aside0.mk (Kd.R_elder' (rS HO_4.out) (Kd.R_base ho0) hb); replace HR528 := Aside0.mk (Kd.C_below (by repeat (first | (with_reducible exact HR528.out) | (with_reducible refine Kd.C_alloc ?_ _) | (with_reducible refine Kd.C_drewN ?_ _) | (with_reducible refine Kd.C_drew ?_) | exact HR528.out)) hb); replace HB := Aside0.mk (below_step bw hb); (try clear hb); (try clear ho0)))
          go_ret
          exact ⟨_, eR, by (with_reducible repeat (first | apply Kd.R_alloc | apply Kd.R_drewN | apply Kd.R_drew)); exact Kd.R_mono HO531.out (fun _ hk => trivial), bw⟩
         ·rw [if_neg c67] at H
          exact absurd H (by simp)
        ·rw [if_neg c66] at H
         exact absurd H (by simp)
       ·replace c65 := Bool.eq_false_iff.mpr c65
        subst c65
        have H1 : (impl_UniformAt.l0 k2 l0 x3_2) = some r := by rw [if_neg (show ¬ (false = true) by decide)] at H; exact H
        clear H
        have H := H1
        clear H1
        have H' := Aside0.mk H
        clear H
        obtain ⟨Ao72, co72, eo72⟩ := Kd.R_slice HO_4.out
        subst eo72
        go_wp2_with (first | ((with_reducible refine gate_callee (f := 42) rfl ?_); refine gL (some 96) Tryz.func42 #[.slice Ao11 x3_2.length co11, .slice Ao72 t498.length co72] ?_; (with_reducible refine (slices_Equal_int_int.calls k2 _ _ x3_2 _ _ t498 false _ ?side1 ?side2 ?side3 ?side4 A64.out).mono ?_); (case side1 => exact cS (Kd.R_reads' HO_3.out).2.2); (case side2 => exact (Kd.R_reads' HO_3.out).2.1); (case side3 => exact cS (Kd.R_reads' HO_4.out).2.2); (case side4 => exact (Kd.R_reads' HO_4.out).2.1); rintro e w' ⟨rfl, ⟨nd, rfl⟩⟩; refine ⟨_, rfl, ?_⟩))
        (try simp only [← hl3_2])
        go_roundg k2
        case measure => have := HK1.out; have := HK2.out; omega
        case rel => exact ⟨(x3_2), H', ⟨by have := HK1.out; have := HK2.out; omega⟩, ⟨by (try simp only [hl3_2]); (with_reducible repeat (first | apply Kd.R_alloc | apply Kd.R_drewN | apply Kd.R_drew)); exact Kd.R_mono HO_3.out (fun _ hk => trivial)⟩, ⟨bw⟩⟩
 ·replace c3 := Bool.eq_false_iff.mpr c3
  subst c3
  have H1 : (some ([] : List Int)) = some r := by rw [if_neg (show ¬ (false = true) by decide)] at H; exact H
  clear H
  have H := H1
  clear H1
  obtain rfl := Option.some.inj H
  go_enter Tryz.func14, Tryz.ntmps14
  go_wp2_with (first | ((with_reducible refine gate_callee (f := 23) rfl ?_); refine gL (some 15) Tryz.func23 #[.slice A0 l0.length c0] ?_; (with_reducible refine (impl_IsQuiet.calls _ _ l0 false _ ?side1 ?side2 A2.out).mono ?_); (case side1 => exact cS HR0.out); (case side2 => exact HC0.out); rintro e w73 ⟨rfl, hb⟩; refine ⟨_, rfl, ?_⟩; replace HB := Aside0.mk (below_step bw hb); (try clear hb)))
  go_ret
  exact ⟨_, eR, by first | exact Kd.R_nil _ _ _ _ _ | exact Kd.N_nil _ _ _ _ _ | exact Kd.V_nil _ _ _ _ _ | exact Kd.Q_nil _ _ _ _ _ | exact Kd.S_nil _ _ _ _ _, bw⟩

end Go.Proofs.YtdppehpcpofeoaaGreat.PFnExactNeverSplits
