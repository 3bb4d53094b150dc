-- Written by myprint.py (a program of this session, over the kit's print): not trusted, Lean checks it.
import Derived.Test.YtdppehpcpofeoaaGreatPFnExactNeverSplitsx0
import Derived.Test.YtdppehpcpofeoaaGreatPFnExactNeverSplitsx3
import Derived.Test.YtdppehpcpofeoaaGreatPFnExactNeverSplitsx4
import Derived.Test.YtdppehpcpofeoaaGreatPFnExactNeverSplitsx5
import Derived.Test.YtdppehpcpofeoaaGreatPFnExactNeverSplitsx6
import Derived.Test.YtdppehpcpofeoaaGreatPFnExactNeverSplitsx7
namespace Go.Proofs.YtdppehpcpofeoaaGreat.PFnExactNeverSplits
open Go.RowKit Go.Proofs.YtdppehpcpofeoaaGreatW.PrintWords Go.Proofs.YtdppehpcpofeoaaGreatW.PrintLast Go.Proofs.YtdppehpcpofeoaaGreatW.PrintMore
attribute [local go_sem] max2_int min2_int max_two min_two max_three min_three max_four min_four   -- for this text's walks alone
set_option linter.unusedVariables false
set_option linter.unusedSimpArgs false

/-! ### spec_UniformAt: function 13 -/
mutual
def spec_UniformAt.l0 : Nat → List (S38) → List Int → Int → Option (List Int)
 | 0, _, _, _ => none
 | k + 1, x0, x3, x4 => if x4 < (x0.length : Int) then (if x3.length < 17592186044416 then (spec_UniformAt.l0 k x0 (x3 ++ [15]) (wrap64 (x4 + 1))) else (none)) else ((spec_BranchesOf.f k x0).bind fun t323 => (spec_UniformAt.l1 k x0 x3 t323 true))
def spec_UniformAt.l1 : Nat → List (S38) → List Int → List Int → Bool → Option (List Int)
 | 0, _, _, _, _ => none
 | k + 1, x0, x3, x5, x6 => if x6 = true then (spec_UniformAt.l2 k x0 x3 x5 false 0) else (some x3)
def spec_UniformAt.l2 : Nat → List (S38) → List Int → List Int → Bool → Int → Option (List Int)
 | 0, _, _, _, _, _ => none
 | k + 1, x0, x3, x5, x6, x7 => if x7 < (x0.length : Int) then ((spec_l07Next.f k x0 x7).bind fun t326 => (spec_UniformAt.l3 k x0 x3 x5 x6 x7 t326 0)) else (spec_UniformAt.l1 k x0 x3 x5 x6)
def spec_UniformAt.l3 : Nat → List (S38) → List Int → List Int → Bool → Int → List Int → Int → Option (List Int)
 | 0, _, _, _, _, _, _, _ => none
 | k + 1, x0, x3, x5, x6, x7, x8, x9 => if x9 < (x8.length : Int) then (if 0 ≤ x9 then (if 0 ≤ x7 then (if x7 < (x0.length : Int) then (if x7 < (x3.length : Int) then ((spec_UniformAfter.f k ((rd_T38 x0 x7).f0) ((rd_T38 x0 x7).f1) ((rd_T38 x0 x7).f2) ((rd_T38 x0 x7).f3) (rd x3 x7)).bind fun t332 => ((spec_l17Lose.f x3 (rd x8 x9) (Go.bits .andNot .i64 15 t332)).bind fun bt333 => (if bt333.1 = true then (spec_UniformAt.l3 k x0 bt333.2 x5 true x7 x8 (wrap64 (x9 + 1))) else (spec_UniformAt.l3 k x0 bt333.2 x5 x6 x7 x8 (wrap64 (x9 + 1)))))) else (none)) else (none)) else (none)) else (none)) else ((spec_l08Has.f k x5 x7).bind fun t335 => (if t335 = true then (if 0 ≤ x7 then (if x7 < (x3.length : Int) then (if x7 < (x0.length : Int) then (if 0 ≤ ((rd_T38 x0 x7).f1) then (spec_UniformAt.j4 k x0 x3 x5 x6 x7 ((Go.bits .and .i64 (shr .i64 (rd x3 x7) ((rd_T38 x0 x7).f1)) 1) == 1)) else (none)) else (none)) else (none)) else (none)) else (spec_UniformAt.j4 k x0 x3 x5 x6 x7 true)))
def spec_UniformAt.j4 : Nat → List (S38) → List Int → List Int → Bool → Int → Bool → Option (List Int)
 | 0, _, _, _, _, _, _ => none
 | k + 1, x0, x3, x5, x6, x7, x81 => if x81 = true then (spec_UniformAt.l2 k x0 x3 x5 x6 (wrap64 (x7 + 1))) else ((spec_InsideOf.f k x0 x7).bind fun t338 => ((spec_l17Writes.f k x0 t338).bind fun t341 => (spec_UniformAt.l4 k x0 x3 x5 x6 x7 t338 t341 0)))
def spec_UniformAt.l4 : Nat → List (S38) → List Int → List Int → Bool → Int → List Int → Int → Int → Option (List Int)
 | 0, _, _, _, _, _, _, _, _ => none
 | k + 1, x0, x3, x5, x6, x7, x10, x11, x12 => if x12 < (x10.length : Int) then (if 0 ≤ x12 then ((spec_l17Lose.f x3 (rd x10 x12) x11).bind fun bt343 => (if bt343.1 = true then (spec_UniformAt.l4 k x0 bt343.2 x5 true x7 x10 x11 (wrap64 (x12 + 1))) else (spec_UniformAt.l4 k x0 bt343.2 x5 x6 x7 x10 x11 (wrap64 (x12 + 1))))) else (none)) else ((spec_l09Join.f k x0 x7).bind fun t345 => ((spec_l17Lose.f x3 t345 x11).bind fun bt346 => (if bt346.1 = true then (spec_UniformAt.l2 k x0 bt346.2 x5 true (wrap64 (x7 + 1))) else (spec_UniformAt.l2 k x0 bt346.2 x5 x6 (wrap64 (x7 + 1))))))
end
def spec_UniformAt.f (k : Nat) (l0 : List (S38)) : Option (List Int) := (spec_IsQuiet.f k l0).bind fun t313 => (if t313 = true then (spec_UniformAt.l0 k l0 (([] : List Int)) 0) else (some (([] : List Int))))
theorem spec_UniformAt.mono_l : ∀ k, (∀ y0 y1 y2, LeO (spec_UniformAt.l0 k y0 y1 y2) (spec_UniformAt.l0 (k + 1) y0 y1 y2)) ∧ (∀ y0 y1 y2 y3, LeO (spec_UniformAt.l1 k y0 y1 y2 y3) (spec_UniformAt.l1 (k + 1) y0 y1 y2 y3)) ∧ (∀ y0 y1 y2 y3 y4, LeO (spec_UniformAt.l2 k y0 y1 y2 y3 y4) (spec_UniformAt.l2 (k + 1) y0 y1 y2 y3 y4)) ∧ (∀ y0 y1 y2 y3 y4 y5 y6, LeO (spec_UniformAt.l3 k y0 y1 y2 y3 y4 y5 y6) (spec_UniformAt.l3 (k + 1) y0 y1 y2 y3 y4 y5 y6)) ∧ (∀ y0 y1 y2 y3 y4 y5, LeO (spec_UniformAt.j4 k y0 y1 y2 y3 y4 y5) (spec_UniformAt.j4 (k + 1) y0 y1 y2 y3 y4 y5)) ∧ (∀ y0 y1 y2 y3 y4 y5 y6 y7, LeO (spec_UniformAt.l4 k y0 y1 y2 y3 y4 y5 y6 y7) (spec_UniformAt.l4 (k + 1) y0 y1 y2 y3 y4 y5 y6 y7))
 | 0 => ⟨fun _ _ _ r h => by simp [spec_UniformAt.l0] at h, fun _ _ _ _ r h => by simp [spec_UniformAt.l1] at h, fun _ _ _ _ _ r h => by simp [spec_UniformAt.l2] at h, fun _ _ _ _ _ _ _ r h => by simp [spec_UniformAt.l3] at h, fun _ _ _ _ _ _ r h => by simp [spec_UniformAt.j4] at h, fun _ _ _ _ _ _ _ _ r h => by simp [spec_UniformAt.l4] at h⟩
 | k + 1 => by
  obtain ⟨ih0, ih1, ih2, ih3, ih4, ih5⟩ := spec_UniformAt.mono_l k
  refine ⟨?_, ?_, ?_, ?_, ?_, ?_⟩
  intro y0 y1 y2;unfold spec_UniformAt.l0;rotate_left
  intro y0 y1 y2 y3;unfold spec_UniformAt.l1;rotate_left
  intro y0 y1 y2 y3 y4;unfold spec_UniformAt.l2;rotate_left
  intro y0 y1 y2 y3 y4 y5 y6;unfold spec_UniformAt.l3;rotate_left
  intro y0 y1 y2 y3 y4 y5;unfold spec_UniformAt.j4;rotate_left
  intro y0 y1 y2 y3 y4 y5 y6 y7;unfold spec_UniformAt.l4;rotate_left
  all_goals repeat' first
  | (with_reducible exact ih0 _ _ _)
  | (with_reducible exact ih1 _ _ _ _)
  | (with_reducible exact ih2 _ _ _ _ _)
  | (with_reducible exact ih3 _ _ _ _ _ _ _)
  | (with_reducible exact ih4 _ _ _ _ _ _)
  | (with_reducible exact ih5 _ _ _ _ _ _ _ _)
  | (with_reducible exact spec_BranchesOf.mono _ _)
  | (with_reducible exact spec_InsideOf.mono _ _ _)
  | (with_reducible exact spec_IsQuiet.mono _ _)
  | (with_reducible exact spec_UniformAfter.mono _ _ _ _ _ _)
  | (with_reducible exact spec_l07Next.mono _ _ _)
  | (with_reducible exact spec_l08Has.mono _ _ _)
  | (with_reducible exact spec_l09Join.mono _ _ _)
  | (with_reducible exact spec_l17Writes.mono _ _ _)
  | (with_reducible exact LeO.refl _)
  | (with_reducible exact LeO.none _)
  | (with_reducible refine LeO.ite ?_ ?_)
  | (with_reducible refine LeO.bind ?_ (fun _ => ?_))
  | exact ih0 _ _ _
  | exact ih1 _ _ _ _
  | exact ih2 _ _ _ _ _
  | exact ih3 _ _ _ _ _ _ _
  | exact ih4 _ _ _ _ _ _
  | exact ih5 _ _ _ _ _ _ _ _
  | exact spec_BranchesOf.mono _ _
  | exact spec_InsideOf.mono _ _ _
  | exact spec_IsQuiet.mono _ _
  | exact spec_UniformAfter.mono _ _ _ _ _ _
  | exact spec_l07Next.mono _ _ _
  | exact spec_l08Has.mono _ _ _
  | exact spec_l09Join.mono _ _ _
  | exact spec_l17Writes.mono _ _ _
  | exact LeO.none _
  | refine LeO.ite ?_ ?_
  | refine LeO.bind ?_ (fun _ => ?_)
theorem spec_UniformAt.mono : ∀ a0 k, LeO (spec_UniformAt.f k a0) (spec_UniformAt.f (k + 1) a0) := by
 intro a0 k
 obtain ⟨ih0, ih1, ih2, ih3, ih4, ih5⟩ := spec_UniformAt.mono_l k
 unfold spec_UniformAt.f
 repeat' first
   | (with_reducible exact ih0 _ _ _)
   | (with_reducible exact ih1 _ _ _ _)
   | (with_reducible exact ih2 _ _ _ _ _)
   | (with_reducible exact ih3 _ _ _ _ _ _ _)
   | (with_reducible exact ih4 _ _ _ _ _ _)
   | (with_reducible exact ih5 _ _ _ _ _ _ _ _)
   | (with_reducible exact spec_BranchesOf.mono _ _)
   | (with_reducible exact spec_InsideOf.mono _ _ _)
   | (with_reducible exact spec_IsQuiet.mono _ _)
   | (with_reducible exact spec_UniformAfter.mono _ _ _ _ _ _)
   | (with_reducible exact spec_l07Next.mono _ _ _)
   | (with_reducible exact spec_l08Has.mono _ _ _)
   | (with_reducible exact spec_l09Join.mono _ _ _)
   | (with_reducible exact spec_l17Writes.mono _ _ _)
   | (with_reducible exact LeO.refl _)
   | (with_reducible exact LeO.none _)
   | (with_reducible refine LeO.ite ?_ ?_)
   | (with_reducible refine LeO.bind ?_ (fun _ => ?_))
   | exact ih0 _ _ _
   | exact ih1 _ _ _ _
   | exact ih2 _ _ _ _ _
   | exact ih3 _ _ _ _ _ _ _
   | exact ih4 _ _ _ _ _ _
   | exact ih5 _ _ _ _ _ _ _ _
   | exact spec_BranchesOf.mono _ _
   | exact spec_InsideOf.mono _ _ _
   | exact spec_IsQuiet.mono _ _
   | exact spec_UniformAfter.mono _ _ _ _ _ _
   | exact spec_l07Next.mono _ _ _
   | exact spec_l08Has.mono _ _ _
   | exact spec_l09Join.mono _ _ _
   | exact spec_l17Writes.mono _ _ _
   | exact LeO.none _
   | refine LeO.ite ?_ ?_
   | refine LeO.bind ?_ (fun _ => ?_)
def spec_UniformAt.T19 : Bool × List (List Nat × List Nat) := (true, [([], []), ([], []), ([], []), ([1, 2], [1, 2]), ([3], [3]), ([], []), ([], []), ([5, 6], [5, 6]), ([7], [7]), ([], []), ([], []), ([9, 10], [9, 10]), ([11], [11]), ([8, 12], [8, 12]), ([13], [13]), ([0, 4, 14, 13], [0, 4, 14]), ([15, 15], [15]), ([16], [16]), ([16, 17], [16, 17]), ([18, 16, 0, 1, 2, 3, 4, 5, 6, 7, 8, 9, 10, 11, 12, 13, 14, 15, 16, 17, 18], [17, 18])])
def spec_UniformAt.B19 : List Nat := [0, 0, 0, 6, 14, 0, 0, 96, 224, 0, 0, 1536, 3584, 8160, 16352, 32767, 65535, 131071, 262143, 524287]
theorem spec_UniformAt.tab19 : rtab .any (opsOf Tryz.f13 19) = spec_UniformAt.T19 := by kernel_rfl
theorem spec_UniformAt.bits19 : waitsOk spec_UniformAt.T19.2 spec_UniformAt.B19 = true := by kernel_rfl
def spec_UniformAt.T20 : Bool × List (List Nat × List Nat) := (true, [([], []), ([], []), ([0, 1], [0, 1]), ([2], [2]), ([3, 2], [3]), ([4], [4]), ([4], [4]), ([5, 6, 4], [4, 5, 6]), ([7, 4], [4, 7]), ([4], [4]), ([4], [4]), ([9, 10, 4], [4, 9, 10]), ([11, 4], [4, 11]), ([12, 4], [4, 12]), ([8, 13, 4], [4, 8, 13]), ([14, 4], [4, 14]), ([15, 4], [4, 15]), ([4, 16], [4, 16])])
def spec_UniformAt.B20 : List Nat := [0, 0, 3, 7, 15, 31, 31, 127, 255, 31, 31, 1567, 3615, 7711, 16383, 32767, 65535, 131071]
theorem spec_UniformAt.tab20 : rtab .any (opsOf Tryz.f13 20) = spec_UniformAt.T20 := by kernel_rfl
theorem spec_UniformAt.bits20 : waitsOk spec_UniformAt.T20.2 spec_UniformAt.B20 = true := by kernel_rfl
set_option maxHeartbeats 8000000 in
set_option maxRecDepth 100000 in
theorem spec_UniformAt.calls (k : Nat) (A0 : Option Addr) (c0 : Nat) (l0 : List (S38)) (r : List Int) (w : World) (hr0 : Kd.C k38 w A0 l0.length l0) (hc0 : l0.length ≤ c0) (h : spec_UniformAt.f k l0 = some r) :
  Calls Tryz.prog 13 #[.slice A0 l0.length c0] w fun e w' => ∃ v0_ : Value, e = .returned (v0_) ∧ Kd.R (Kd.int .i64) 3 w' w.heap.size (fun _ => True) v0_ r ∧ Below w.heap.size w w' := by
 have hu38 := Tryz.underlying38
 have HR0 := Aside0.mk hr0
 have HC0 := Aside0.mk hc0
 clear hr0 hc0
 have HB := Aside0.mk (Below.refl w.heap.size w)
 have H : ((spec_IsQuiet.f k l0).bind fun t313 => (if t313 = true then (spec_UniformAt.l0 k l0 (([] : List Int)) 0) else (some (([] : List Int))))) = some r := h
 clear h
 replace H := Option.bind_eq_some_iff.mp H
 obtain ⟨t313, A20, H⟩ := H
 replace H : (if t313 = true then (spec_UniformAt.l0 k l0 (([] : List Int)) 0) else (some (([] : List Int)))) = some r := H
 have A2 := Aside0.mk A20
 clear A20
 by_cases c3 : t313 = true
 ·subst c3
  have H1 : (spec_UniformAt.l0 k l0 (([] : List Int)) 0) = some r := by rw [if_pos rfl] at H; exact H
  clear H
  have H := H1
  clear H1
  obtain ⟨y317, hy317⟩ : ∃ y_ : List Int, y_ = (([] : List Int)) := ⟨_, rfl⟩
  replace H : (spec_UniformAt.l0 k l0 y317 0) = some r := rP hy317 H
  have Ny317 := Aside0.mk hy317
  clear hy317
  have H' := Aside0.mk H
  clear H
  go_enter Tryz.func13, Tryz.ntmps13
  go_wp2_with (first | ((with_reducible refine gate_callee (f := 19) rfl ?_); refine gL (some 14) Tryz.func19 #[.slice A0 l0.length c0] ?_; (with_reducible refine (spec_IsQuiet.calls k _ _ l0 true _ ?side1 ?side2 A2.out).mono ?_); (case side1 => exact cS HR0.out); (case side2 => exact HC0.out); rintro e w4 ⟨rfl, hb⟩; refine ⟨_, rfl, ?_⟩; replace HB := Aside0.mk (below_step bw hb); (try clear hb)) | ((with_reducible refine gate_dst (N := 17) rfl ?_); refine Kd.R_lit (Kd.int .i64) _ 3 ?hg (N := 17) ?hd (xs := ([] : List Int)) (inner := []) (ok := fun _ => True) (okp := fun _ => True) ?hr ?hp (fun _ hk => hk) trivial (Below.refl _ _) (Nat.le_refl _) (by simp) ?_; (case hd => rfl); (case hg => rfl); (case hr => first | (go_simp; done) | (go_simp; rfl)); (case hp => exact (Reps.none _ _)); intro v318 w5 ho6 hb hg_ hnew_; clear hg_ hnew_; (first | rw [← Ny317.out] at ho6 | (simp only [Int.reduceToNat] at ho6; rw [← Ny317.out] at ho6)); have HO319 := Aside0.mk (Kd.R_lower ho6 (below_size bw)); replace HB := Aside0.mk (below_step bw hb); clear hb ho6))
  go_loopg [3, 4] k (fun kq v3 v4 w' => ∃ (x3_1 : List Int) (x4_1 : Int), v4 = .int .i64 x4_1 ∧ Aside0 (spec_UniformAt.l0 kq l0 x3_1 x4_1 = some r) ∧ Aside0 (kq ≤ k) ∧ Aside0 (Kd.R (Kd.int .i64) 3 w' w.heap.size (fun _ => True) v3 x3_1) ∧ Aside0 (Below w.heap.size w w'))
  case atStart => exact ⟨(y317), (0), tR, H', ⟨Nat.le_refl _⟩, ⟨rS HO319.out⟩, ⟨bw⟩⟩
  case round =>
   clear H'
   try clear c1;try clear p2;try clear c3
   obtain ⟨x3_1, x4_1, rfl, HA, HK1, HO_3, HB⟩ := hrel
   cases gk with
   | zero => exact absurd HA.out (by simp [spec_UniformAt.l0])
   | succ k1 =>
    have H := HA.out
    clear HA
    simp only [spec_UniformAt.l0] at H
    by_cases c7 : x4_1 < (l0.length : Int)
    ·rw [if_pos c7] at H
     have c7b0 : decide (x4_1 < (l0.length : Int)) = true := decide_eq_true c7
     clear c7
     by_cases c8 : x3_1.length < 17592186044416
     ·rw [if_pos c8] at H
      have LMc8 := Aside0.mk c8
      clear c8
      obtain ⟨y320, hy320⟩ : ∃ y_ : List Int, y_ = (x3_1 ++ [15]) := ⟨_, rfl⟩
      replace H : (spec_UniformAt.l0 k1 l0 y320 (wrap64 (x4_1 + 1))) = some r := rP hy320 H
      have Ny320 := Aside0.mk hy320
      clear hy320
      have H' := Aside0.mk H
      clear H
      go_wp2_with (first | ((with_reducible refine gate_builtin (b := .append) (xs := #[.tmp 24, .tmp 25]) rfl ?_); at_builtin; refine Kd.R_append (Kd.int .i64) (w0 := w) w.heap.size rfl (.tmp 24) (.tmp 25) 31 3 (.int .i64 0) 8 rfl Tryz.underlying31 info3 rfl (by decide) (by omega) u3 x3_1 15 [.int .i64 15] (fun _ => True) (fun _ => False) rfl rfl ?aP (fun _ hk => hk.elim) ?aF ?aO ?aB ?aS ?aL ?_; (case aP => exact rfl); (case aB => exact bw); (case aF => exact (fun _ _ => trivial)); (case aO => exact (rS HO_3.out)); (case aS => exact (below_size bw)); (case aL => have := LMc8.out; omega); intro v321 w9 ho hb hg hat; rw [← Ny320.out] at ho; replace HB := Aside0.mk (hb); have HO322 := Aside0.mk (ho); clear HO_3; clear ho hb hg hat))
      go_roundg k1
      case measure => have := HK1.out; omega
      case rel => exact ⟨(y320), (wrap64 (x4_1 + 1)), tR, H', ⟨by have := HK1.out; omega⟩, ⟨rS HO322.out⟩, ⟨bw⟩⟩
     ·rw [if_neg c8] at H
      exact absurd H (by simp)
    ·rw [if_neg c7] at H
     have c7b0 : decide (x4_1 < (l0.length : Int)) = false := decide_eq_false c7
     clear c7
     replace H := Option.bind_eq_some_iff.mp H
     obtain ⟨t323, A100, H⟩ := H
     replace H : (spec_UniformAt.l1 k1 l0 x3_1 t323 true) = some r := H
     have A10 := Aside0.mk A100
     clear A100
     have H' := Aside0.mk H
     clear H
     go_wp2_with (first | ((with_reducible refine gate_callee (f := 21) rfl ?_); refine gL (some 28) Tryz.func21 #[.slice A0 l0.length c0] ?_; (with_reducible refine (spec_BranchesOf.calls k1 _ _ l0 t323 _ ?side1 ?side2 A10.out).mono ?_); (case side1 => repeat (first | exact (Kd.C_below HR0.out HB.out) | (with_reducible refine Kd.C_alloc ?_ _) | (with_reducible refine Kd.C_drewN ?_ _) | (with_reducible refine Kd.C_drew ?_))); (case side2 => exact HC0.out); rintro e w11 ⟨v324, rfl, ho0, hb⟩; refine ⟨_, rfl, ?_⟩; have HO325 := Aside0.mk (Kd.R_lower (Kd.R_new' ho0 (Kd.R_lt (rS HO_3.out))) (below_size bw)); replace HO_3 := Aside0.mk (Kd.R_elder' (rS HO_3.out) (Kd.R_base ho0) hb); replace HB := Aside0.mk (below_step bw hb); (try clear hb); (try clear ho0)))
     go_loopg [6] k1 (fun kq v6 w' => ∃ (x3_2 : List Int) (x6_2 : Bool), v6 = .bool x6_2 ∧ Aside0 (spec_UniformAt.l1 kq l0 x3_2 t323 x6_2 = some r) ∧ Aside0 (kq ≤ k1) ∧ Aside0 (Kd.R (Kd.int .i64) 3 w' w.heap.size (fun k_ => some k_ ≠ (v324 : Value).ownBlock) u3 x3_2) ∧ Aside0 (Kd.R (Kd.int .i64) 3 w' w.heap.size (fun k_ => some k_ ≠ (u3 : Value).ownBlock) v324 t323) ∧ Aside0 (Below w.heap.size w w'))
     case atStart => exact ⟨(x3_1), (true), tR, H', ⟨Nat.le_refl _⟩, ⟨by (with_reducible repeat (first | apply Kd.R_alloc | apply Kd.R_drewN | apply Kd.R_drew)); exact Kd.R_mono HO_3.out (fun _ hk => hk.2)⟩, ⟨by (with_reducible repeat (first | apply Kd.R_alloc | apply Kd.R_drewN | apply Kd.R_drew)); exact Kd.R_mono HO325.out (fun _ hk => hk.2)⟩, ⟨bw⟩⟩
     case round =>
      clear H'
      try clear c1;try clear c2;try clear p2;try clear c3;try clear p6;try clear c7;try clear c7b0;try clear c8;try clear p2
      obtain ⟨x3_2, x6_2, rfl, HA, HK2, HO_3, HO_5, HB⟩ := hrel
      cases gk with
      | zero => exact absurd HA.out (by simp [spec_UniformAt.l1])
      | succ k2 =>
       have H := HA.out
       clear HA
       simp only [spec_UniformAt.l1] at H
       by_cases c12 : x6_2 = true
       ·subst c12
        have H1 : (spec_UniformAt.l2 k2 l0 x3_2 t323 false 0) = some r := by rw [if_pos rfl] at H; exact H
        clear H
        have H := H1
        clear H1
        have H' := Aside0.mk H
        clear H
        go_wp2
        go_loopg [6, 7] k2 (fun kq v6 v7 w' => ∃ (x3_3 : List Int) (x6_3 : Bool) (x7_3 : Int), v6 = .bool x6_3 ∧ v7 = .int .i64 x7_3 ∧ Aside0 (spec_UniformAt.l2 kq l0 x3_3 t323 x6_3 x7_3 = some r) ∧ Aside0 (kq ≤ k2) ∧ Aside0 (Kd.R (Kd.int .i64) 3 w' w.heap.size (fun k_ => some k_ ≠ (v324 : Value).ownBlock) u3 x3_3) ∧ Aside0 (Kd.R (Kd.int .i64) 3 w' w.heap.size (fun k_ => some k_ ≠ (u3 : Value).ownBlock) v324 t323) ∧ Aside0 (Below w.heap.size w w'))
        case atStart => exact ⟨(x3_2), (false), (0), tR, tR, H', ⟨Nat.le_refl _⟩, ⟨rS HO_3.out⟩, ⟨rS HO_5.out⟩, ⟨bw⟩⟩
        case round =>
         clear H'
         try clear c1;try clear c2;try clear p2;try clear c3;try clear p6;try clear c7;try clear c7b0;try clear c8;try clear c12;try clear p2;try clear p6
         obtain ⟨x3_3, x6_3, x7_3, rfl, rfl, HA, HK3, HO_3, HO_5, HB⟩ := hrel
         cases gk with
         | zero => exact absurd HA.out (by simp [spec_UniformAt.l2])
         | succ k3 =>
          have H := HA.out
          clear HA
          simp only [spec_UniformAt.l2] at H
          by_cases c13 : x7_3 < (l0.length : Int)
          ·rw [if_pos c13] at H
           have c13b0 : decide (x7_3 < (l0.length : Int)) = true := decide_eq_true c13
           clear c13
           replace H := Option.bind_eq_some_iff.mp H
           obtain ⟨t326, A140, H⟩ := H
           replace H : (spec_UniformAt.l3 k3 l0 x3_3 t323 x6_3 x7_3 t326 0) = some r := H
           have A14 := Aside0.mk A140
           clear A140
           have H' := Aside0.mk H
           clear H
           go_wp2_with (first | ((with_reducible refine gate_callee (f := 29) rfl ?_); refine gL (some 38) Tryz.func29 #[.slice A0 l0.length c0, .int .i64 x7_3] ?_; (with_reducible refine (spec_l07Next.calls k3 _ _ l0 x7_3 t326 _ ?side1 ?side2 A14.out).mono ?_); (case side1 => repeat (first | exact (Kd.C_below HR0.out HB.out) | (with_reducible refine Kd.C_alloc ?_ _) | (with_reducible refine Kd.C_drewN ?_ _) | (with_reducible refine Kd.C_drew ?_))); (case side2 => exact HC0.out); rintro e w15 ⟨v327, rfl, ho0, hb⟩; refine ⟨_, rfl, ?_⟩; have HO328 := Aside0.mk (Kd.R_lower (Kd.R_new' (Kd.R_new' ho0 (Kd.R_lt (rS HO_3.out))) (Kd.R_lt (rS HO_5.out))) (below_size bw)); replace HO_3 := Aside0.mk (Kd.R_elder' (rS HO_3.out) (Kd.R_base ho0) hb); replace HO_5 := Aside0.mk (Kd.R_elder' (rS HO_5.out) (Kd.R_base ho0) hb); replace HB := Aside0.mk (below_step bw hb); (try clear hb); (try clear ho0)))
           go_loopg [6, 9] k3 (fun kq v6 v9 w' => ∃ (x3_4 : List Int) (x6_4 : Bool) (x9_4 : Int), v6 = .bool x6_4 ∧ v9 = .int .i64 x9_4 ∧ Aside0 (spec_UniformAt.l3 kq l0 x3_4 t323 x6_4 x7_3 t326 x9_4 = some r) ∧ Aside0 (kq ≤ k3) ∧ Aside0 (Kd.R (Kd.int .i64) 3 w' w.heap.size (fun k_ => some k_ ≠ (v324 : Value).ownBlock ∧ some k_ ≠ (v327 : Value).ownBlock) u3 x3_4) ∧ Aside0 (Kd.R (Kd.int .i64) 3 w' w.heap.size (fun k_ => some k_ ≠ (u3 : Value).ownBlock ∧ some k_ ≠ (v327 : Value).ownBlock) v324 t323) ∧ Aside0 (Kd.R (Kd.int .i64) 3 w' w.heap.size (fun k_ => some k_ ≠ (u3 : Value).ownBlock ∧ some k_ ≠ (v324 : Value).ownBlock) v327 t326) ∧ Aside0 (Below w.heap.size w w'))
           case atStart => exact ⟨(x3_3), (x6_3), (0), tR, tR, H', ⟨Nat.le_refl _⟩, ⟨rS HO_3.out⟩, ⟨rS HO_5.out⟩, ⟨by (with_reducible repeat (first | apply Kd.R_alloc | apply Kd.R_drewN | apply Kd.R_drew)); exact Kd.R_mono HO328.out (fun _ hk => ⟨hk.1.2, hk.2⟩)⟩, ⟨bw⟩⟩
           case round =>
            clear H'
            try clear c1;try clear c2;try clear p2;try clear c3;try clear p6;try clear c7;try clear c7b0;try clear c8;try clear c12;try clear c13;try clear c13b0;try clear p2;try clear p6
            obtain ⟨x3_4, x6_4, x9_4, rfl, rfl, HA, HK4, HO_3, HO_5, HO_8, HB⟩ := hrel
            cases gk with
            | zero => exact absurd HA.out (by simp [spec_UniformAt.l3])
            | succ k4 =>
             have H := HA.out
             clear HA
             simp only [spec_UniformAt.l3] at H
             by_cases c16 : x9_4 < (t326.length : Int)
             ·rw [if_pos c16] at H
              have c16b0 : decide (x9_4 < (t326.length : Int)) = true := decide_eq_true c16
              clear c16
              by_cases c17 : 0 ≤ x9_4
              ·rw [if_pos c17] at H
               have c17b0 : decide (0 ≤ x9_4) = true := decide_eq_true c17
               clear c17
               by_cases c18 : 0 ≤ x7_3
               ·rw [if_pos c18] at H
                have c18b0 : decide (0 ≤ x7_3) = true := decide_eq_true c18
                clear c18
                by_cases c19 : x7_3 < (l0.length : Int)
                ·rw [if_pos c19] at H
                 have c19b0 : decide (x7_3 < (l0.length : Int)) = true := decide_eq_true c19
                 clear c19
                 by_cases c20 : x7_3 < (x3_4.length : Int)
                 ·rw [if_pos c20] at H
                  have c20b0 : decide (x7_3 < (x3_4.length : Int)) = true := decide_eq_true c20
                  clear c20
                  replace H := Option.bind_eq_some_iff.mp H
                  obtain ⟨t332, A210, H⟩ := H
                  replace H : ((spec_l17Lose.f x3_4 (rd t326 x9_4) (Go.bits .andNot .i64 15 t332)).bind fun bt333 => (if bt333.1 = true then (spec_UniformAt.l3 k4 l0 bt333.2 t323 true x7_3 t326 (wrap64 (x9_4 + 1))) else (spec_UniformAt.l3 k4 l0 bt333.2 t323 x6_4 x7_3 t326 (wrap64 (x9_4 + 1))))) = some r := H
                  have A21 := Aside0.mk A210
                  clear A210
                  replace H := Option.bind_eq_some_iff.mp H
                  obtain ⟨⟨t333, t334⟩, A220, H⟩ := H
                  replace H : (if t333 = true then (spec_UniformAt.l3 k4 l0 t334 t323 true x7_3 t326 (wrap64 (x9_4 + 1))) else (spec_UniformAt.l3 k4 l0 t334 t323 x6_4 x7_3 t326 (wrap64 (x9_4 + 1)))) = some r := H
                  have A22 := Aside0.mk A220
                  clear A220
                  by_cases c23 : t333 = true
                  ·subst c23
                   have H1 : (spec_UniformAt.l3 k4 l0 t334 t323 true x7_3 t326 (wrap64 (x9_4 + 1))) = some r := by rw [if_pos rfl] at H; exact H
                   clear H
                   have H := H1
                   clear H1
                   have H' := Aside0.mk H
                   clear H
                   obtain ⟨Ao24, co24, eo24⟩ := Kd.R_slice HO_8.out
                   subst eo24
                   try go_wp2
                   replace HO_3 := Aside0.mk (Kd.R_drew HO_3.out)
                   replace HO_5 := Aside0.mk (Kd.R_drew HO_5.out)
                   replace HO_8 := Aside0.mk (Kd.R_drew HO_8.out)
                   replace HB := Aside0.mk (below_drew1 HB.out)
                   have p329 : 0 ≤ (x9_4 : Int) := dT
                   have q329 : x9_4 < (t326.length : Int) := dT
                   try (obtain ⟨AoZ329, coZ329, eoZ329⟩ := Kd.R_slice HO_8.out; subst eoZ329)
                   obtain ⟨ad329, e329, hx329_0⟩ := Kd.at_int (Kd.R_reads' HO_8.out).2.2 x9_4 p329 q329
                   cases e329
                   replace p329 := eq_true p329
                   replace q329 := eq_true q329
                   have p330 : 0 ≤ (x7_3 : Int) := dT
                   have q330 : x7_3 < (l0.length : Int) := dT
                   obtain ⟨ad330, e330, hx330_0, hx330_1, hx330_2, hx330_3⟩ := at_T38 HR0.out x7_3 p330 q330
                   have hw330_3 := hx330_3
                   have hw330_2 := hx330_2
                   have hw330_1 := hx330_1
                   have hw330_0 := hx330_0
                   cases e330
                   replace hx330_0 := (HB.out.cell (World.block_lt_of_cell? w _ hx330_0)).trans hx330_0
                   replace hx330_1 := (HB.out.cell (World.block_lt_of_cell? w _ hx330_1)).trans hx330_1
                   replace hx330_2 := (HB.out.cell (World.block_lt_of_cell? w _ hx330_2)).trans hx330_2
                   replace hx330_3 := (HB.out.cell (World.block_lt_of_cell? w _ hx330_3)).trans hx330_3
                   replace p330 := eq_true p330
                   replace q330 := eq_true q330
                   obtain ⟨Ao26, co26, eo26⟩ := Kd.R_slice HO_3.out
                   (first | subst eo26 | (injection eo26 with f1_ f2_ f3_; have f4_ := f1_.symm; have f5_ := f3_.symm; clear f1_ f2_ f3_; subst f4_; subst f5_))
                   have p331 : 0 ≤ (x7_3 : Int) := dT
                   have q331 : x7_3 < (x3_4.length : Int) := dT
                   try (obtain ⟨AoZ331, coZ331, eoZ331⟩ := Kd.R_slice HO_3.out; subst eoZ331)
                   obtain ⟨ad331, e331, hx331_0⟩ := Kd.at_int (Kd.R_reads' HO_3.out).2.2 x7_3 p331 q331
                   cases e331
                   replace p331 := eq_true p331
                   replace q331 := eq_true q331
                   refine start_ (n := 20) (S := fun w' => w'.cell? (ad329.add (x9_4).toNat) = some (.int .i64 (rd t326 x9_4)) ∧ w'.cell? (ad330.add ((x7_3).toNat * 4)) = some (.int .i64 ((rd_T38 l0 x7_3).f0)) ∧ w'.cell? ⟨(ad330.add ((x7_3).toNat * 4)).block, (ad330.add ((x7_3).toNat * 4)).off + 1, none⟩ = some (.int .i64 ((rd_T38 l0 x7_3).f1)) ∧ w'.cell? ⟨(ad330.add ((x7_3).toNat * 4)).block, (ad330.add ((x7_3).toNat * 4)).off + 2, none⟩ = some (.int .i64 ((rd_T38 l0 x7_3).f2)) ∧ w'.cell? ⟨(ad330.add ((x7_3).toNat * 4)).block, (ad330.add ((x7_3).toNat * 4)).off + 3, none⟩ = some (.int .i64 ((rd_T38 l0 x7_3).f3)) ∧ w'.cell? (ad331.add (x7_3).toNat) = some (.int .i64 (rd x3_4 x7_3))) (ds := [15]) #[false,false,false,false,false,false,false,false,false,false,false,false,false,false,false,false,false,false,false,false] (by kernel_rfl) rfl rfl ⟨hx329_0, ((HB.out.cell (World.block_lt_of_cell? w _ hw330_0)).trans hw330_0), ((HB.out.cell (World.block_lt_of_cell? w _ hw330_1)).trans hw330_1), ((HB.out.cell (World.block_lt_of_cell? w _ hw330_2)).trans hw330_2), ((HB.out.cell (World.block_lt_of_cell? w _ hw330_3)).trans hw330_3), hx331_0⟩ (fun hHeld => ?_); refine with_tabW spec_UniformAt.tab19 spec_UniformAt.bits19 (fun HT_ HW_ => ?_)
                   generalize wr.drew = w25 at HO_3 HO_5 HO_8 HB hx329_0 hx330_0 hx330_1 hx330_2 hx330_3 hx331_0 hHeld ⊢
                   refine pU 0 45 (v := ?_) (a' := ?_) #[Y,Z,Z,Z,Z,Z,Z,Z,Z,Z,Z,Z,Z,Z,Z,Z,Z,Z,Z,Z] HT_ rfl rfl (by kernel_rfl) ?_ ?_ ?_;rotate_left;(intro w';go_simp;with_reducible rfl);rotate_left;(simp only [Act.put, sA, s0, sN, i64_w, i32_w];rfl)
                   refine pU 1 46 (v := ?_) (a' := ?_) #[Y,Y,Z,Z,Z,Z,Z,Z,Z,Z,Z,Z,Z,Z,Z,Z,Z,Z,Z,Z] HT_ rfl rfl (by kernel_rfl) ?_ ?_ ?_;rotate_left;(intro w';go_simp;with_reducible rfl);rotate_left;(simp only [Act.put, sA, s0, sN, i64_w, i32_w];rfl)
                   refine pU 2 47 (v := ?_) (a' := ?_) #[Y,Y,Y,Z,Z,Z,Z,Z,Z,Z,Z,Z,Z,Z,Z,Z,Z,Z,Z,Z] HT_ rfl rfl (by kernel_rfl) ?_ ?_ ?_;rotate_left;(intro w';go_simp;with_reducible rfl);rotate_left;(simp only [Act.put, sA, s0, sN, i64_w, i32_w];rfl)
                   refine pU 3 48 (v := ?_) (a' := ?_) #[Y,Y,Y,Y,Z,Z,Z,Z,Z,Z,Z,Z,Z,Z,Z,Z,Z,Z,Z,Z] HT_ rfl rfl (by kernel_rfl) ?_ ?_ ?_;rotate_left;(intro w';go_simp;with_reducible rfl);rotate_left;(simp only [Act.put, sA, s0, sN, i64_w, i32_w];rfl)
                   refine pU 5 50 (v := ?_) (a' := ?_) #[Y,Y,Y,Y,Z,Y,Z,Z,Z,Z,Z,Z,Z,Z,Z,Z,Z,Z,Z,Z] HT_ rfl rfl (by kernel_rfl) ?_ ?_ ?_;rotate_left;(intro w';go_simp;with_reducible rfl);rotate_left;(simp only [Act.put, sA, s0, sN, i64_w, i32_w];rfl)
                   refine pU 6 51 (v := ?_) (a' := ?_) #[Y,Y,Y,Y,Z,Y,Y,Z,Z,Z,Z,Z,Z,Z,Z,Z,Z,Z,Z,Z] HT_ rfl rfl (by kernel_rfl) ?_ ?_ ?_;rotate_left;(intro w';go_simp;with_reducible rfl);rotate_left;(simp only [Act.put, sA, s0, sN, i64_w, i32_w];rfl)
                   refine pU 7 52 (v := ?_) (a' := ?_) #[Y,Y,Y,Y,Z,Y,Y,Y,Z,Z,Z,Z,Z,Z,Z,Z,Z,Z,Z,Z] HT_ rfl rfl (by kernel_rfl) ?_ ?_ ?_;rotate_left;(intro w';go_simp;with_reducible rfl);rotate_left;(simp only [Act.put, sA, s0, sN, i64_w, i32_w];rfl)
                   refine pU 9 54 (v := ?_) (a' := ?_) #[Y,Y,Y,Y,Z,Y,Y,Y,Z,Y,Z,Z,Z,Z,Z,Z,Z,Z,Z,Z] HT_ rfl rfl (by kernel_rfl) ?_ ?_ ?_;rotate_left;(intro w';go_simp;with_reducible rfl);rotate_left;(simp only [Act.put, sA, s0, sN, i64_w, i32_w];rfl)
                   refine pU 10 55 (v := ?_) (a' := ?_) #[Y,Y,Y,Y,Z,Y,Y,Y,Z,Y,Y,Z,Z,Z,Z,Z,Z,Z,Z,Z] HT_ rfl rfl (by kernel_rfl) ?_ ?_ ?_;rotate_left;(intro w';go_simp;with_reducible rfl);rotate_left;(simp only [Act.put, sA, s0, sN, i64_w, i32_w];rfl)
                   refine pU 11 56 (v := ?_) (a' := ?_) #[Y,Y,Y,Y,Z,Y,Y,Y,Z,Y,Y,Y,Z,Z,Z,Z,Z,Z,Z,Z] HT_ rfl rfl (by kernel_rfl) ?_ ?_ ?_;rotate_left;(intro w';go_simp;with_reducible rfl);rotate_left;(simp only [Act.put, sA, s0, sN, i64_w, i32_w];rfl)
                   refine take_ (i := 4) (N := some 49) (v := ?_) (a' := ?_) #[Y,Y,Y,Y,Y,Y,Y,Y,Z,Y,Y,Y,Z,Z,Z,Z,Z,Z,Z,Z] rfl rfl (take_ofW HT_.out HW_.out (by kernel_rfl)) (fun _ _ _ h => h) (Or.inl ⟨by rfl, ?_⟩) hHeld ?_ ?_
                   rotate_left
                   ·rintro w' ⟨s0, s1, s2, s3, s4, s5⟩
                    go_simp
                    with_reducible rfl
                   rotate_left
                   ·simp only [Act.put, sA, s0, sN, i64_w, i32_w]
                    rfl
                   refine take_ (i := 8) (N := some 53) (v := ?_) (a' := ?_) #[Y,Y,Y,Y,Y,Y,Y,Y,Y,Y,Y,Y,Z,Z,Z,Z,Z,Z,Z,Z] rfl rfl (take_ofW HT_.out HW_.out (by kernel_rfl)) (fun _ _ _ h => h) (Or.inl ⟨by rfl, ?_⟩) hHeld ?_ ?_
                   rotate_left
                   ·rintro w' ⟨s0, s1, s2, s3, s4, s5⟩
                    go_simp
                    with_reducible rfl
                   rotate_left
                   ·simp only [Act.put, sA, s0, sN, i64_w, i32_w]
                    rfl
                   refine take_ (i := 12) (N := some 57) (v := ?_) (a' := ?_) #[Y,Y,Y,Y,Y,Y,Y,Y,Y,Y,Y,Y,Y,Z,Z,Z,Z,Z,Z,Z] rfl rfl (take_ofW HT_.out HW_.out (by kernel_rfl)) (fun _ _ _ h => h) (Or.inl ⟨by rfl, ?_⟩) hHeld ?_ ?_
                   rotate_left
                   ·rintro w' ⟨s0, s1, s2, s3, s4, s5⟩
                    go_simp
                    with_reducible rfl
                   rotate_left
                   ·simp only [Act.put, sA, s0, sN, i64_w, i32_w]
                    rfl
                   refine one_ (i := 13) (N := some 58) #[Y,Y,Y,Y,Y,Y,Y,Y,Y,Y,Y,Y,Y,Y,Z,Z,Z,Z,Z,Z] rfl rfl (one_of HT_.out (by kernel_rfl)) (by decide) (fun K hK => ?_)
                   refine goes_ Tryz.func31 (by kernel_rfl) rfl #[.agg #[.int .i64 ((rd_T38 l0 x7_3).f0), .int .i64 ((rd_T38 l0 x7_3).f1), .int .i64 ((rd_T38 l0 x7_3).f2), .int .i64 ((rd_T38 l0 x7_3).f3)], .int .i64 (rd x3_4 x7_3)] (by rfl) rfl rfl bz ?_
                   with_reducible refine (spec_UniformAfter.calls k4 ((rd_T38 l0 x7_3).f0) ((rd_T38 l0 x7_3).f1) ((rd_T38 l0 x7_3).f2) ((rd_T38 l0 x7_3).f3) (rd x3_4 x7_3) t332 _ A21.out).mono ?_
                   rintro e w27 ⟨rfl, hb⟩
                   have HS0_ := (hb.cell (World.block_lt_of_cell? _ _ (hHeld.1))).trans (hHeld.1)
                   have HS5_ := (hb.cell (World.block_lt_of_cell? _ _ (hHeld.2.2.2.2.2))).trans (hHeld.2.2.2.2.2)
                   refine ⟨_, rfl, ?_⟩
                   replace HO_3 := Aside0.mk (Kd.R_below (rS HO_3.out) hb)
                   replace HO_5 := Aside0.mk (Kd.R_below (rS HO_5.out) hb)
                   replace HO_8 := Aside0.mk (Kd.R_below (rS HO_8.out) hb)
                   replace HB := Aside0.mk (below_step bw hb)
                   (try clear hb)
                   (try clear hb2)
                   (try clear hk)
                   (try clear hi)
                   refine hK.out _ _ ⟨HS0_, ((HB.out.cell (World.block_lt_of_cell? w _ hw330_0)).trans hw330_0), ((HB.out.cell (World.block_lt_of_cell? w _ hw330_1)).trans hw330_1), ((HB.out.cell (World.block_lt_of_cell? w _ hw330_2)).trans hw330_2), ((HB.out.cell (World.block_lt_of_cell? w _ hw330_3)).trans hw330_3), HS5_⟩ (fun hHeld => ?_)
                   clear hK K
                   refine norm_ (a' := ?_) ?_ ?_
                   rotate_left
                   ·show Act.put _ (some 58) _ = _
                    simp only [Act.put, sA, s0, sN, i64_w, i32_w]
                    rfl
                   refine pU 14 59 (v := ?_) (a' := ?_) #[Y,Y,Y,Y,Y,Y,Y,Y,Y,Y,Y,Y,Y,Y,Y,Z,Z,Z,Z,Z] HT_ rfl rfl (by kernel_rfl) ?_ ?_ ?_;rotate_left;(intro w';go_simp;with_reducible rfl);rotate_left;(simp only [Act.put, sA, s0, sN, i64_w, i32_w];rfl)
                   refine last_ (i := 15) (N := some 60) #[Y,Y,Y,Y,Y,Y,Y,Y,Y,Y,Y,Y,Y,Y,Y,Y,Z,Z,Z,Z] rfl rfl (one_of HT_.out (by kernel_rfl)) (by decide) (fun K hK => ?_)
                   refine goes_ Tryz.func30 (by kernel_rfl) rfl #[.slice (some ad331) x3_4.length co26, .int .i64 (rd t326 x9_4), .int .i64 (Go.bits .andNot .i64 15 t332)] (by rfl) rfl rfl bz ?_
                   with_reducible refine (spec_l17Lose.calls (fun k_ => some k_ = (.slice (some ad331) x3_4.length co26 : Value).ownBlock) (.slice (some ad331) x3_4.length co26) x3_4 (rd t326 x9_4) (Go.bits .andNot .i64 15 t332) true t334 w _ ?side1 ?side2 A22.out).mono ?_
                   (case side1 => repeat (first | (with_reducible first | exact HB.out | apply below_alloc | apply pw_below_drewN | apply below_drew1) | exact HB.out))
                   (case side2 => exact Kd.R_tight rfl HO_3.out)
                   rintro e w28 ⟨rfl, hy0, hb, hkp⟩
                   refine ⟨_, rfl, ?_⟩
                   replace HO_3 := Aside0.mk (Kd.R_reok rfl hy0 (fun k_ e_ => HO_3.out.1 k_ e_))
                   replace HO_5 := Aside0.mk (Kd.R_mono (ok' := fun k_ => some k_ ≠ (.slice (some ad331) x3_4.length co26 : Value).ownBlock ∧ some k_ ≠ (.slice (some ad329) t326.length co24 : Value).ownBlock) (Kd.R_keptB (HO_5.out) hkp (fun k_ hk_ hs_ => (hk_.1) hs_)) (fun k_ hk_ => ⟨hk_.1.1, hk_.1.2⟩))
                   replace HO_8 := Aside0.mk (Kd.R_mono (ok' := fun k_ => some k_ ≠ (.slice (some ad331) x3_4.length co26 : Value).ownBlock ∧ some k_ ≠ (v324 : Value).ownBlock) (Kd.R_keptB (HO_8.out) hkp (fun k_ hk_ hs_ => (hk_.1) hs_)) (fun k_ hk_ => ⟨hk_.1.1, hk_.1.2⟩))
                   replace HB := Aside0.mk (hb)
                   (try clear hb)
                   (try clear hkp)
                   (try clear hy0)
                   refine hK.out _ _ ?_
                   clear hK K
                   refine norm_ (a' := ?_) ?_ ?_
                   rotate_left
                   ·show Act.put _ (some 60) _ = _
                    simp only [Act.put, sA, s0, sN, i64_w, i32_w]
                    rfl
                   refine pU 16 61 (v := ?_) (a' := ?_) #[Y,Y,Y,Y,Y,Y,Y,Y,Y,Y,Y,Y,Y,Y,Y,Y,Y,Z,Z,Z] HT_ rfl rfl (by kernel_rfl) ?_ ?_ ?_;rotate_left;(intro w';go_simp;with_reducible rfl);rotate_left;(simp only [Act.put, sA, s0, sN, i64_w, i32_w];rfl)
                   refine pure_ (i := 17) (N := some 62) (v := undef) (a' := ?_) #[Y,Y,Y,Y,Y,Y,Y,Y,Y,Y,Y,Y,Y,Y,Y,Y,Y,Y,Z,Z] rfl rfl (any_of HT_.out (by kernel_rfl)) (fun _ _ _ h => h) (Or.inr ⟨by rfl, rfl⟩) ?_ ?_
                   rotate_left
                   ·simp only [Act.put, sA, s0, sN, i64_w, i32_w]
                    rfl
                   refine pU 18 63 (v := ?_) (a' := ?_) #[Y,Y,Y,Y,Y,Y,Y,Y,Y,Y,Y,Y,Y,Y,Y,Y,Y,Y,Y,Z] HT_ rfl rfl (by kernel_rfl) ?_ ?_ ?_;rotate_left;(intro w';go_simp;with_reducible rfl);rotate_left;(simp only [Act.put, sA, s0, sN, i64_w, i32_w];rfl)
                   refine pU 19 6 (v := ?_) (a' := ?_) #[Y,Y,Y,Y,Y,Y,Y,Y,Y,Y,Y,Y,Y,Y,Y,Y,Y,Y,Y,Y] HT_ rfl rfl (by kernel_rfl) ?_ ?_ ?_;rotate_left;(intro w';go_simp;with_reducible rfl);rotate_left;(simp only [Act.put, sA, s0, sN, i64_w, i32_w];rfl)
                   refine done_ (done_of HT_.out (by kernel_rfl)) ?_
                   try go_wp2
                   go_roundg k4
                   case measure => have := HK1.out; have := HK2.out; have := HK3.out; have := HK4.out; omega
                   case rel => exact ⟨(t334), (true), (wrap64 (x9_4 + 1)), tR, tR, H', ⟨by have := HK1.out; have := HK2.out; have := HK3.out; have := HK4.out; omega⟩, ⟨rS HO_3.out⟩, ⟨rS HO_5.out⟩, ⟨rS HO_8.out⟩, ⟨bw⟩⟩
                  ·replace c23 := Bool.eq_false_iff.mpr c23
                   subst c23
                   have H1 : (spec_UniformAt.l3 k4 l0 t334 t323 x6_4 x7_3 t326 (wrap64 (x9_4 + 1))) = some r := by rw [if_neg (show ¬ (false = true) by decide)] at H; exact H
                   clear H
                   have H := H1
                   clear H1
                   have H' := Aside0.mk H
                   clear H
                   obtain ⟨Ao29, co29, eo29⟩ := Kd.R_slice HO_8.out
                   subst eo29
                   try go_wp2
                   replace HO_3 := Aside0.mk (Kd.R_drew HO_3.out)
                   replace HO_5 := Aside0.mk (Kd.R_drew HO_5.out)
                   replace HO_8 := Aside0.mk (Kd.R_drew HO_8.out)
                   replace HB := Aside0.mk (below_drew1 HB.out)
                   have p329 : 0 ≤ (x9_4 : Int) := dT
                   have q329 : x9_4 < (t326.length : Int) := dT
                   try (obtain ⟨AoZ329, coZ329, eoZ329⟩ := Kd.R_slice HO_8.out; subst eoZ329)
                   obtain ⟨ad329, e329, hx329_0⟩ := Kd.at_int (Kd.R_reads' HO_8.out).2.2 x9_4 p329 q329
                   cases e329
                   replace p329 := eq_true p329
                   replace q329 := eq_true q329
                   have p330 : 0 ≤ (x7_3 : Int) := dT
                   have q330 : x7_3 < (l0.length : Int) := dT
                   obtain ⟨ad330, e330, hx330_0, hx330_1, hx330_2, hx330_3⟩ := at_T38 HR0.out x7_3 p330 q330
                   have hw330_3 := hx330_3
                   have hw330_2 := hx330_2
                   have hw330_1 := hx330_1
                   have hw330_0 := hx330_0
                   cases e330
                   replace hx330_0 := (HB.out.cell (World.block_lt_of_cell? w _ hx330_0)).trans hx330_0
                   replace hx330_1 := (HB.out.cell (World.block_lt_of_cell? w _ hx330_1)).trans hx330_1
                   replace hx330_2 := (HB.out.cell (World.block_lt_of_cell? w _ hx330_2)).trans hx330_2
                   replace hx330_3 := (HB.out.cell (World.block_lt_of_cell? w _ hx330_3)).trans hx330_3
                   replace p330 := eq_true p330
                   replace q330 := eq_true q330
                   obtain ⟨Ao31, co31, eo31⟩ := Kd.R_slice HO_3.out
                   (first | subst eo31 | (injection eo31 with f1_ f2_ f3_; have f4_ := f1_.symm; have f5_ := f3_.symm; clear f1_ f2_ f3_; subst f4_; subst f5_))
                   have p331 : 0 ≤ (x7_3 : Int) := dT
                   have q331 : x7_3 < (x3_4.length : Int) := dT
                   try (obtain ⟨AoZ331, coZ331, eoZ331⟩ := Kd.R_slice HO_3.out; subst eoZ331)
                   obtain ⟨ad331, e331, hx331_0⟩ := Kd.at_int (Kd.R_reads' HO_3.out).2.2 x7_3 p331 q331
                   cases e331
                   replace p331 := eq_true p331
                   replace q331 := eq_true q331
                   refine start_ (n := 20) (S := fun w' => w'.cell? (ad329.add (x9_4).toNat) = some (.int .i64 (rd t326 x9_4)) ∧ w'.cell? (ad330.add ((x7_3).toNat * 4)) = some (.int .i64 ((rd_T38 l0 x7_3).f0)) ∧ w'.cell? ⟨(ad330.add ((x7_3).toNat * 4)).block, (ad330.add ((x7_3).toNat * 4)).off + 1, none⟩ = some (.int .i64 ((rd_T38 l0 x7_3).f1)) ∧ w'.cell? ⟨(ad330.add ((x7_3).toNat * 4)).block, (ad330.add ((x7_3).toNat * 4)).off + 2, none⟩ = some (.int .i64 ((rd_T38 l0 x7_3).f2)) ∧ w'.cell? ⟨(ad330.add ((x7_3).toNat * 4)).block, (ad330.add ((x7_3).toNat * 4)).off + 3, none⟩ = some (.int .i64 ((rd_T38 l0 x7_3).f3)) ∧ w'.cell? (ad331.add (x7_3).toNat) = some (.int .i64 (rd x3_4 x7_3))) (ds := [15]) #[false,false,false,false,false,false,false,false,false,false,false,false,false,false,false,false,false,false,false,false] (by kernel_rfl) rfl rfl ⟨hx329_0, ((HB.out.cell (World.block_lt_of_cell? w _ hw330_0)).trans hw330_0), ((HB.out.cell (World.block_lt_of_cell? w _ hw330_1)).trans hw330_1), ((HB.out.cell (World.block_lt_of_cell? w _ hw330_2)).trans hw330_2), ((HB.out.cell (World.block_lt_of_cell? w _ hw330_3)).trans hw330_3), hx331_0⟩ (fun hHeld => ?_); refine with_tabW spec_UniformAt.tab19 spec_UniformAt.bits19 (fun HT_ HW_ => ?_)
                   generalize wr.drew = w30 at HO_3 HO_5 HO_8 HB hx329_0 hx330_0 hx330_1 hx330_2 hx330_3 hx331_0 hHeld ⊢
                   refine pU 0 45 (v := ?_) (a' := ?_) #[Y,Z,Z,Z,Z,Z,Z,Z,Z,Z,Z,Z,Z,Z,Z,Z,Z,Z,Z,Z] HT_ rfl rfl (by kernel_rfl) ?_ ?_ ?_;rotate_left;(intro w';go_simp;with_reducible rfl);rotate_left;(simp only [Act.put, sA, s0, sN, i64_w, i32_w];rfl)
                   refine pU 1 46 (v := ?_) (a' := ?_) #[Y,Y,Z,Z,Z,Z,Z,Z,Z,Z,Z,Z,Z,Z,Z,Z,Z,Z,Z,Z] HT_ rfl rfl (by kernel_rfl) ?_ ?_ ?_;rotate_left;(intro w';go_simp;with_reducible rfl);rotate_left;(simp only [Act.put, sA, s0, sN, i64_w, i32_w];rfl)
                   refine pU 2 47 (v := ?_) (a' := ?_) #[Y,Y,Y,Z,Z,Z,Z,Z,Z,Z,Z,Z,Z,Z,Z,Z,Z,Z,Z,Z] HT_ rfl rfl (by kernel_rfl) ?_ ?_ ?_;rotate_left;(intro w';go_simp;with_reducible rfl);rotate_left;(simp only [Act.put, sA, s0, sN, i64_w, i32_w];rfl)
                   refine pU 3 48 (v := ?_) (a' := ?_) #[Y,Y,Y,Y,Z,Z,Z,Z,Z,Z,Z,Z,Z,Z,Z,Z,Z,Z,Z,Z] HT_ rfl rfl (by kernel_rfl) ?_ ?_ ?_;rotate_left;(intro w';go_simp;with_reducible rfl);rotate_left;(simp only [Act.put, sA, s0, sN, i64_w, i32_w];rfl)
                   refine pU 5 50 (v := ?_) (a' := ?_) #[Y,Y,Y,Y,Z,Y,Z,Z,Z,Z,Z,Z,Z,Z,Z,Z,Z,Z,Z,Z] HT_ rfl rfl (by kernel_rfl) ?_ ?_ ?_;rotate_left;(intro w';go_simp;with_reducible rfl);rotate_left;(simp only [Act.put, sA, s0, sN, i64_w, i32_w];rfl)
                   refine pU 6 51 (v := ?_) (a' := ?_) #[Y,Y,Y,Y,Z,Y,Y,Z,Z,Z,Z,Z,Z,Z,Z,Z,Z,Z,Z,Z] HT_ rfl rfl (by kernel_rfl) ?_ ?_ ?_;rotate_left;(intro w';go_simp;with_reducible rfl);rotate_left;(simp only [Act.put, sA, s0, sN, i64_w, i32_w];rfl)
                   refine pU 7 52 (v := ?_) (a' := ?_) #[Y,Y,Y,Y,Z,Y,Y,Y,Z,Z,Z,Z,Z,Z,Z,Z,Z,Z,Z,Z] HT_ rfl rfl (by kernel_rfl) ?_ ?_ ?_;rotate_left;(intro w';go_simp;with_reducible rfl);rotate_left;(simp only [Act.put, sA, s0, sN, i64_w, i32_w];rfl)
                   refine pU 9 54 (v := ?_) (a' := ?_) #[Y,Y,Y,Y,Z,Y,Y,Y,Z,Y,Z,Z,Z,Z,Z,Z,Z,Z,Z,Z] HT_ rfl rfl (by kernel_rfl) ?_ ?_ ?_;rotate_left;(intro w';go_simp;with_reducible rfl);rotate_left;(simp only [Act.put, sA, s0, sN, i64_w, i32_w];rfl)
                   refine pU 10 55 (v := ?_) (a' := ?_) #[Y,Y,Y,Y,Z,Y,Y,Y,Z,Y,Y,Z,Z,Z,Z,Z,Z,Z,Z,Z] HT_ rfl rfl (by kernel_rfl) ?_ ?_ ?_;rotate_left;(intro w';go_simp;with_reducible rfl);rotate_left;(simp only [Act.put, sA, s0, sN, i64_w, i32_w];rfl)
                   refine pU 11 56 (v := ?_) (a' := ?_) #[Y,Y,Y,Y,Z,Y,Y,Y,Z,Y,Y,Y,Z,Z,Z,Z,Z,Z,Z,Z] HT_ rfl rfl (by kernel_rfl) ?_ ?_ ?_;rotate_left;(intro w';go_simp;with_reducible rfl);rotate_left;(simp only [Act.put, sA, s0, sN, i64_w, i32_w];rfl)
                   refine take_ (i := 4) (N := some 49) (v := ?_) (a' := ?_) #[Y,Y,Y,Y,Y,Y,Y,Y,Z,Y,Y,Y,Z,Z,Z,Z,Z,Z,Z,Z] rfl rfl (take_ofW HT_.out HW_.out (by kernel_rfl)) (fun _ _ _ h => h) (Or.inl ⟨by rfl, ?_⟩) hHeld ?_ ?_
                   rotate_left
                   ·rintro w' ⟨s0, s1, s2, s3, s4, s5⟩
                    go_simp
                    with_reducible rfl
                   rotate_left
                   ·simp only [Act.put, sA, s0, sN, i64_w, i32_w]
                    rfl
                   refine take_ (i := 8) (N := some 53) (v := ?_) (a' := ?_) #[Y,Y,Y,Y,Y,Y,Y,Y,Y,Y,Y,Y,Z,Z,Z,Z,Z,Z,Z,Z] rfl rfl (take_ofW HT_.out HW_.out (by kernel_rfl)) (fun _ _ _ h => h) (Or.inl ⟨by rfl, ?_⟩) hHeld ?_ ?_
                   rotate_left
                   ·rintro w' ⟨s0, s1, s2, s3, s4, s5⟩
                    go_simp
                    with_reducible rfl
                   rotate_left
                   ·simp only [Act.put, sA, s0, sN, i64_w, i32_w]
                    rfl
                   refine take_ (i := 12) (N := some 57) (v := ?_) (a' := ?_) #[Y,Y,Y,Y,Y,Y,Y,Y,Y,Y,Y,Y,Y,Z,Z,Z,Z,Z,Z,Z] rfl rfl (take_ofW HT_.out HW_.out (by kernel_rfl)) (fun _ _ _ h => h) (Or.inl ⟨by rfl, ?_⟩) hHeld ?_ ?_
                   rotate_left
                   ·rintro w' ⟨s0, s1, s2, s3, s4, s5⟩
                    go_simp
                    with_reducible rfl
                   rotate_left
                   ·simp only [Act.put, sA, s0, sN, i64_w, i32_w]
                    rfl
                   refine one_ (i := 13) (N := some 58) #[Y,Y,Y,Y,Y,Y,Y,Y,Y,Y,Y,Y,Y,Y,Z,Z,Z,Z,Z,Z] rfl rfl (one_of HT_.out (by kernel_rfl)) (by decide) (fun K hK => ?_)
                   refine goes_ Tryz.func31 (by kernel_rfl) rfl #[.agg #[.int .i64 ((rd_T38 l0 x7_3).f0), .int .i64 ((rd_T38 l0 x7_3).f1), .int .i64 ((rd_T38 l0 x7_3).f2), .int .i64 ((rd_T38 l0 x7_3).f3)], .int .i64 (rd x3_4 x7_3)] (by rfl) rfl rfl bz ?_
                   with_reducible refine (spec_UniformAfter.calls k4 ((rd_T38 l0 x7_3).f0) ((rd_T38 l0 x7_3).f1) ((rd_T38 l0 x7_3).f2) ((rd_T38 l0 x7_3).f3) (rd x3_4 x7_3) t332 _ A21.out).mono ?_
                   rintro e w32 ⟨rfl, hb⟩
                   have HS0_ := (hb.cell (World.block_lt_of_cell? _ _ (hHeld.1))).trans (hHeld.1)
                   have HS5_ := (hb.cell (World.block_lt_of_cell? _ _ (hHeld.2.2.2.2.2))).trans (hHeld.2.2.2.2.2)
                   refine ⟨_, rfl, ?_⟩
                   replace HO_3 := Aside0.mk (Kd.R_below (rS HO_3.out) hb)
                   replace HO_5 := Aside0.mk (Kd.R_below (rS HO_5.out) hb)
                   replace HO_8 := Aside0.mk (Kd.R_below (rS HO_8.out) hb)
                   replace HB := Aside0.mk (below_step bw hb)
                   (try clear hb)
                   (try clear hb2)
                   (try clear hk)
                   (try clear hi)
                   refine hK.out _ _ ⟨HS0_, ((HB.out.cell (World.block_lt_of_cell? w _ hw330_0)).trans hw330_0), ((HB.out.cell (World.block_lt_of_cell? w _ hw330_1)).trans hw330_1), ((HB.out.cell (World.block_lt_of_cell? w _ hw330_2)).trans hw330_2), ((HB.out.cell (World.block_lt_of_cell? w _ hw330_3)).trans hw330_3), HS5_⟩ (fun hHeld => ?_)
                   clear hK K
                   refine norm_ (a' := ?_) ?_ ?_
                   rotate_left
                   ·show Act.put _ (some 58) _ = _
                    simp only [Act.put, sA, s0, sN, i64_w, i32_w]
                    rfl
                   refine pU 14 59 (v := ?_) (a' := ?_) #[Y,Y,Y,Y,Y,Y,Y,Y,Y,Y,Y,Y,Y,Y,Y,Z,Z,Z,Z,Z] HT_ rfl rfl (by kernel_rfl) ?_ ?_ ?_;rotate_left;(intro w';go_simp;with_reducible rfl);rotate_left;(simp only [Act.put, sA, s0, sN, i64_w, i32_w];rfl)
                   refine last_ (i := 15) (N := some 60) #[Y,Y,Y,Y,Y,Y,Y,Y,Y,Y,Y,Y,Y,Y,Y,Y,Z,Z,Z,Z] rfl rfl (one_of HT_.out (by kernel_rfl)) (by decide) (fun K hK => ?_)
                   refine goes_ Tryz.func30 (by kernel_rfl) rfl #[.slice (some ad331) x3_4.length co31, .int .i64 (rd t326 x9_4), .int .i64 (Go.bits .andNot .i64 15 t332)] (by rfl) rfl rfl bz ?_
                   with_reducible refine (spec_l17Lose.calls (fun k_ => some k_ = (.slice (some ad331) x3_4.length co31 : Value).ownBlock) (.slice (some ad331) x3_4.length co31) x3_4 (rd t326 x9_4) (Go.bits .andNot .i64 15 t332) false t334 w _ ?side1 ?side2 A22.out).mono ?_
                   (case side1 => repeat (first | (with_reducible first | exact HB.out | apply below_alloc | apply pw_below_drewN | apply below_drew1) | exact HB.out))
                   (case side2 => exact Kd.R_tight rfl HO_3.out)
                   rintro e w33 ⟨rfl, hy0, hb, hkp⟩
                   refine ⟨_, rfl, ?_⟩
                   replace HO_3 := Aside0.mk (Kd.R_reok rfl hy0 (fun k_ e_ => HO_3.out.1 k_ e_))
                   replace HO_5 := Aside0.mk (Kd.R_mono (ok' := fun k_ => some k_ ≠ (.slice (some ad331) x3_4.length co31 : Value).ownBlock ∧ some k_ ≠ (.slice (some ad329) t326.length co29 : Value).ownBlock) (Kd.R_keptB (HO_5.out) hkp (fun k_ hk_ hs_ => (hk_.1) hs_)) (fun k_ hk_ => ⟨hk_.1.1, hk_.1.2⟩))
                   replace HO_8 := Aside0.mk (Kd.R_mono (ok' := fun k_ => some k_ ≠ (.slice (some ad331) x3_4.length co31 : Value).ownBlock ∧ some k_ ≠ (v324 : Value).ownBlock) (Kd.R_keptB (HO_8.out) hkp (fun k_ hk_ hs_ => (hk_.1) hs_)) (fun k_ hk_ => ⟨hk_.1.1, hk_.1.2⟩))
                   replace HB := Aside0.mk (hb)
                   (try clear hb)
                   (try clear hkp)
                   (try clear hy0)
                   refine hK.out _ _ ?_
                   clear hK K
                   refine norm_ (a' := ?_) ?_ ?_
                   rotate_left
                   ·show Act.put _ (some 60) _ = _
                    simp only [Act.put, sA, s0, sN, i64_w, i32_w]
                    rfl
                   refine pU 16 61 (v := ?_) (a' := ?_) #[Y,Y,Y,Y,Y,Y,Y,Y,Y,Y,Y,Y,Y,Y,Y,Y,Y,Z,Z,Z] HT_ rfl rfl (by kernel_rfl) ?_ ?_ ?_;rotate_left;(intro w';go_simp;with_reducible rfl);rotate_left;(simp only [Act.put, sA, s0, sN, i64_w, i32_w];rfl)
                   refine pU 17 62 (v := ?_) (a' := ?_) #[Y,Y,Y,Y,Y,Y,Y,Y,Y,Y,Y,Y,Y,Y,Y,Y,Y,Y,Z,Z] HT_ rfl rfl (by kernel_rfl) ?_ ?_ ?_;rotate_left;(intro w';go_simp;with_reducible rfl);rotate_left;(simp only [Act.put, sA, s0, sN, i64_w, i32_w];rfl)
                   refine pU 18 63 (v := ?_) (a' := ?_) #[Y,Y,Y,Y,Y,Y,Y,Y,Y,Y,Y,Y,Y,Y,Y,Y,Y,Y,Y,Z] HT_ rfl rfl (by kernel_rfl) ?_ ?_ ?_;rotate_left;(intro w';go_simp;with_reducible rfl);rotate_left;(simp only [Act.put, sA, s0, sN, i64_w, i32_w];rfl)
                   refine pU 19 6 (v := ?_) (a' := ?_) #[Y,Y,Y,Y,Y,Y,Y,Y,Y,Y,Y,Y,Y,Y,Y,Y,Y,Y,Y,Y] HT_ rfl rfl (by kernel_rfl) ?_ ?_ ?_;rotate_left;(intro w';go_simp;with_reducible rfl);rotate_left;(simp only [Act.put, sA, s0, sN, i64_w, i32_w];rfl)
                   refine done_ (done_of HT_.out (by kernel_rfl)) ?_
                   try go_wp2
                   go_roundg k4
                   case measure => have := HK1.out; have := HK2.out; have := HK3.out; have := HK4.out; omega
                   case rel => exact ⟨(t334), (x6_4), (wrap64 (x9_4 + 1)), tR, tR, H', ⟨by have := HK1.out; have := HK2.out; have := HK3.out; have := HK4.out; omega⟩, ⟨rS HO_3.out⟩, ⟨rS HO_5.out⟩, ⟨rS HO_8.out⟩, ⟨bw⟩⟩
                 ·rw [if_neg c20] at H
                  exact absurd H (by simp)
                ·rw [if_neg c19] at H
                 exact absurd H (by simp)
               ·rw [if_neg c18] at H
                exact absurd H (by simp)
              ·rw [if_neg c17] at H
               exact absurd H (by simp)
             ·rw [if_neg c16] at H
              have c16b0 : decide (x9_4 < (t326.length : Int)) = false := decide_eq_false c16
              clear c16
              have HC34 := Aside0.mk H
              clear H
              obtain ⟨Ao35, co35, eo35⟩ := Kd.R_slice HO_8.out
              subst eo35
              go_upto_region 20 with (fail)
              go_cut [81] (fun v81 wc => ∃ (kq : Nat) (x81_33 : Bool), v81 = .bool x81_33 ∧ Aside0 (spec_UniformAt.j4 kq l0 x3_4 t323 x6_4 x7_3 x81_33 = some r) ∧ Aside0 (kq ≤ k4) ∧ Aside0 (Kd.R (Kd.int .i64) 3 wc w.heap.size (fun k_ => some k_ ≠ (v324 : Value).ownBlock) u3 x3_4) ∧ Aside0 (Kd.R (Kd.int .i64) 3 wc w.heap.size (fun k_ => some k_ ≠ (u3 : Value).ownBlock) v324 t323) ∧ Aside0 (Below w.heap.size w wc))
              case first =>
               have H := HC34.out
               clear HC34
               replace H := Option.bind_eq_some_iff.mp H
               obtain ⟨t335, A360, H⟩ := H
               replace H : (if t335 = true then (if 0 ≤ x7_3 then (if x7_3 < (x3_4.length : Int) then (if x7_3 < (l0.length : Int) then (if 0 ≤ ((rd_T38 l0 x7_3).f1) then (spec_UniformAt.j4 k4 l0 x3_4 t323 x6_4 x7_3 ((Go.bits .and .i64 (shr .i64 (rd x3_4 x7_3) ((rd_T38 l0 x7_3).f1)) 1) == 1)) else (none)) else (none)) else (none)) else (none)) else (spec_UniformAt.j4 k4 l0 x3_4 t323 x6_4 x7_3 true)) = some r := H
               have A36 := Aside0.mk A360
               clear A360
               by_cases c37 : t335 = true
               ·subst c37
                have H1 : (if 0 ≤ x7_3 then (if x7_3 < (x3_4.length : Int) then (if x7_3 < (l0.length : Int) then (if 0 ≤ ((rd_T38 l0 x7_3).f1) then (spec_UniformAt.j4 k4 l0 x3_4 t323 x6_4 x7_3 ((Go.bits .and .i64 (shr .i64 (rd x3_4 x7_3) ((rd_T38 l0 x7_3).f1)) 1) == 1)) else (none)) else (none)) else (none)) else (none)) = some r := by rw [if_pos rfl] at H; exact H
                clear H
                have H := H1
                clear H1
                by_cases c38 : 0 ≤ x7_3
                ·rw [if_pos c38] at H
                 have c38b0 : decide (0 ≤ x7_3) = true := decide_eq_true c38
                 clear c38
                 (first | rw [c38b0] | (simp only [i64_w, i32_w]; rw [c38b0]) | skip)
                 by_cases c39 : x7_3 < (x3_4.length : Int)
                 ·rw [if_pos c39] at H
                  have c39b0 : decide (x7_3 < (x3_4.length : Int)) = true := decide_eq_true c39
                  clear c39
                  by_cases c40 : x7_3 < (l0.length : Int)
                  ·rw [if_pos c40] at H
                   have c40b0 : decide (x7_3 < (l0.length : Int)) = true := decide_eq_true c40
                   clear c40
                   by_cases c41 : 0 ≤ ((rd_T38 l0 x7_3).f1)
                   ·rw [if_pos c41] at H
                    have c41b0 := eq_true c41
                    have c41b1 : decide (0 ≤ ((rd_T38 l0 x7_3).f1)) = true := decide_eq_true c41
                    clear c41
                    obtain ⟨ji42, hji42⟩ : ∃ j_ : Int, (shr .i64 (rd x3_4 x7_3) ((rd_T38 l0 x7_3).f1)) = j_ := ⟨_, rfl⟩
                    replace H : (spec_UniformAt.j4 k4 l0 x3_4 t323 x6_4 x7_3 ((Go.bits .and .i64 (ji42) 1) == 1)) = some r := by first | (rw [hji42] at H; exact H) | (simp only [hji42] at H ⊢; exact H)
                    (try rw [hji42] at A36)
                    have hji42_ : ((rd x3_4 x7_3) / 2 ^ min ((rd_T38 l0 x7_3).f1).toNat 64) = ji42 := hji42
                    have hji42z : ((rd_T38 l0 x7_3).f1) ≤ 64 → ((rd x3_4 x7_3) / 2 ^ ((rd_T38 l0 x7_3).f1).toNat) = ji42 := shr_small hji42
                    have H' := Aside0.mk H
                    clear H
                    try go_wp2
                    replace HO_3 := Aside0.mk (Kd.R_drew HO_3.out)
                    replace HO_5 := Aside0.mk (Kd.R_drew HO_5.out)
                    replace HO_8 := Aside0.mk (Kd.R_drew HO_8.out)
                    replace HB := Aside0.mk (below_drew1 HB.out)
                    obtain ⟨Ao44, co44, eo44⟩ := Kd.R_slice HO_5.out
                    (first | subst eo44 | (injection eo44 with f1_ f2_ f3_; have f4_ := f1_.symm; have f5_ := f3_.symm; clear f1_ f2_ f3_; subst f4_; subst f5_))
                    have p336 : 0 ≤ (x7_3 : Int) := dT
                    have q336 : x7_3 < (x3_4.length : Int) := dT
                    try (obtain ⟨AoZ336, coZ336, eoZ336⟩ := Kd.R_slice HO_3.out; subst eoZ336)
                    obtain ⟨ad336, e336, hx336_0⟩ := Kd.at_int (Kd.R_reads' HO_3.out).2.2 x7_3 p336 q336
                    cases e336
                    replace p336 := eq_true p336
                    replace q336 := eq_true q336
                    have p337 : 0 ≤ (x7_3 : Int) := dT
                    have q337 : x7_3 < (l0.length : Int) := dT
                    obtain ⟨ad337, e337, hx337_0, hx337_1, hx337_2, hx337_3⟩ := at_T38 HR0.out x7_3 p337 q337
                    have hw337_3 := hx337_3
                    have hw337_2 := hx337_2
                    have hw337_1 := hx337_1
                    have hw337_0 := hx337_0
                    cases e337
                    replace hx337_0 := (HB.out.cell (World.block_lt_of_cell? w _ hx337_0)).trans hx337_0
                    replace hx337_1 := (HB.out.cell (World.block_lt_of_cell? w _ hx337_1)).trans hx337_1
                    replace hx337_2 := (HB.out.cell (World.block_lt_of_cell? w _ hx337_2)).trans hx337_2
                    replace hx337_3 := (HB.out.cell (World.block_lt_of_cell? w _ hx337_3)).trans hx337_3
                    replace p337 := eq_true p337
                    replace q337 := eq_true q337
                    refine start_ (n := 18) (S := fun w' => w'.cell? (ad336.add (x7_3).toNat) = some (.int .i64 (rd x3_4 x7_3)) ∧ w'.cell? (ad337.add ((x7_3).toNat * 4)) = some (.int .i64 ((rd_T38 l0 x7_3).f0)) ∧ w'.cell? ⟨(ad337.add ((x7_3).toNat * 4)).block, (ad337.add ((x7_3).toNat * 4)).off + 1, none⟩ = some (.int .i64 ((rd_T38 l0 x7_3).f1)) ∧ w'.cell? ⟨(ad337.add ((x7_3).toNat * 4)).block, (ad337.add ((x7_3).toNat * 4)).off + 2, none⟩ = some (.int .i64 ((rd_T38 l0 x7_3).f2)) ∧ w'.cell? ⟨(ad337.add ((x7_3).toNat * 4)).block, (ad337.add ((x7_3).toNat * 4)).off + 3, none⟩ = some (.int .i64 ((rd_T38 l0 x7_3).f3))) (ds := []) #[false,false,false,false,false,false,false,false,false,false,false,false,false,false,false,false,false,false] (by kernel_rfl) rfl rfl ⟨hx336_0, ((HB.out.cell (World.block_lt_of_cell? w _ hw337_0)).trans hw337_0), ((HB.out.cell (World.block_lt_of_cell? w _ hw337_1)).trans hw337_1), ((HB.out.cell (World.block_lt_of_cell? w _ hw337_2)).trans hw337_2), ((HB.out.cell (World.block_lt_of_cell? w _ hw337_3)).trans hw337_3)⟩ (fun hHeld => ?_); refine with_tabW spec_UniformAt.tab20 spec_UniformAt.bits20 (fun HT_ HW_ => ?_)
                    generalize wr.drew = w43 at HO_3 HO_5 HO_8 HB hx336_0 hx337_0 hx337_1 hx337_2 hx337_3 hHeld ⊢
                    refine pU 0 64 (v := ?_) (a' := ?_) #[Y,Z,Z,Z,Z,Z,Z,Z,Z,Z,Z,Z,Z,Z,Z,Z,Z,Z] HT_ rfl rfl (by kernel_rfl) ?_ ?_ ?_;rotate_left;(intro w';go_simp;with_reducible rfl);rotate_left;(simp only [Act.put, sA, s0, sN, i64_w, i32_w];rfl)
                    refine pU 1 65 (v := ?_) (a' := ?_) #[Y,Y,Z,Z,Z,Z,Z,Z,Z,Z,Z,Z,Z,Z,Z,Z,Z,Z] HT_ rfl rfl (by kernel_rfl) ?_ ?_ ?_;rotate_left;(intro w';go_simp;with_reducible rfl);rotate_left;(simp only [Act.put, sA, s0, sN, i64_w, i32_w];rfl)
                    refine one_ (i := 2) (N := some 66) #[Y,Y,Y,Z,Z,Z,Z,Z,Z,Z,Z,Z,Z,Z,Z,Z,Z,Z] rfl rfl (one_of HT_.out (by kernel_rfl)) (by decide) (fun K hK => ?_)
                    refine goes_ Tryz.func20 (by kernel_rfl) rfl #[.slice Ao44 t323.length co44, .int .i64 x7_3] (by rfl) rfl rfl bz ?_
                    with_reducible refine (spec_l08Has.calls k4 _ _ t323 x7_3 true _ ?side1 ?side2 A36.out).mono ?_
                    (case side1 => exact cS (Kd.R_reads' HO_5.out).2.2)
                    (case side2 => exact (Kd.R_reads' HO_5.out).2.1)
                    rintro e w45 ⟨rfl, hb⟩
                    have HS0_ := (hb.cell (World.block_lt_of_cell? _ _ (hHeld.1))).trans (hHeld.1)
                    refine ⟨_, rfl, ?_⟩
                    replace HO_3 := Aside0.mk (Kd.R_below (rS HO_3.out) hb)
                    replace HO_5 := Aside0.mk (Kd.R_below (rS HO_5.out) hb)
                    replace HO_8 := Aside0.mk (Kd.R_below (rS HO_8.out) hb)
                    replace HB := Aside0.mk (below_step bw hb)
                    (try clear hb)
                    (try clear hb2)
                    (try clear hk)
                    (try clear hi)
                    obtain ⟨Ao46, co46, eo46⟩ := Kd.R_slice HO_3.out
                    (first | subst eo46 | (injection eo46 with f1_ f2_ f3_; have f4_ := f1_.symm; have f5_ := f3_.symm; clear f1_ f2_ f3_; subst f4_; subst f5_))
                    refine hK.out _ _ ⟨HS0_, ((HB.out.cell (World.block_lt_of_cell? w _ hw337_0)).trans hw337_0), ((HB.out.cell (World.block_lt_of_cell? w _ hw337_1)).trans hw337_1), ((HB.out.cell (World.block_lt_of_cell? w _ hw337_2)).trans hw337_2), ((HB.out.cell (World.block_lt_of_cell? w _ hw337_3)).trans hw337_3)⟩ (fun hHeld => ?_)
                    clear hK K
                    refine norm_ (a' := ?_) ?_ ?_
                    rotate_left
                    ·show Act.put _ (some 66) _ = _
                     simp only [Act.put, sA, s0, sN, i64_w, i32_w]
                     rfl
                    refine pU 3 67 (v := ?_) (a' := ?_) #[Y,Y,Y,Y,Z,Z,Z,Z,Z,Z,Z,Z,Z,Z,Z,Z,Z,Z] HT_ rfl rfl (by kernel_rfl) ?_ ?_ ?_;rotate_left;(intro w';go_simp;with_reducible rfl);rotate_left;(simp only [Act.put, sA, s0, sN, i64_w, i32_w];rfl)
                    refine pU 4 68 (v := ?_) (a' := ?_) #[Y,Y,Y,Y,Y,Z,Z,Z,Z,Z,Z,Z,Z,Z,Z,Z,Z,Z] HT_ rfl rfl (by kernel_rfl) ?_ ?_ ?_;rotate_left;(intro w';go_simp;with_reducible rfl);rotate_left;(simp only [Act.put, sA, s0, sN, i64_w, i32_w];rfl)
                    refine pU 5 69 (v := ?_) (a' := ?_) #[Y,Y,Y,Y,Y,Y,Z,Z,Z,Z,Z,Z,Z,Z,Z,Z,Z,Z] HT_ rfl rfl (by kernel_rfl) ?_ ?_ ?_;rotate_left;(intro w';go_simp;with_reducible rfl);rotate_left;(simp only [Act.put, sA, s0, sN, i64_w, i32_w];rfl)
                    refine pU 6 70 (v := ?_) (a' := ?_) #[Y,Y,Y,Y,Y,Y,Y,Z,Z,Z,Z,Z,Z,Z,Z,Z,Z,Z] HT_ rfl rfl (by kernel_rfl) ?_ ?_ ?_;rotate_left;(intro w';go_simp;with_reducible rfl);rotate_left;(simp only [Act.put, sA, s0, sN, i64_w, i32_w];rfl)
                    refine pU 7 71 (v := ?_) (a' := ?_) #[Y,Y,Y,Y,Y,Y,Y,Y,Z,Z,Z,Z,Z,Z,Z,Z,Z,Z] HT_ rfl rfl (by kernel_rfl) ?_ ?_ ?_;rotate_left;(intro w';go_simp;with_reducible rfl);rotate_left;(simp only [Act.put, sA, s0, sN, i64_w, i32_w];rfl)
                    refine pU 9 73 (v := ?_) (a' := ?_) #[Y,Y,Y,Y,Y,Y,Y,Y,Z,Y,Z,Z,Z,Z,Z,Z,Z,Z] HT_ rfl rfl (by kernel_rfl) ?_ ?_ ?_;rotate_left;(intro w';go_simp;with_reducible rfl);rotate_left;(simp only [Act.put, sA, s0, sN, i64_w, i32_w];rfl)
                    refine pU 10 74 (v := ?_) (a' := ?_) #[Y,Y,Y,Y,Y,Y,Y,Y,Z,Y,Y,Z,Z,Z,Z,Z,Z,Z] HT_ rfl rfl (by kernel_rfl) ?_ ?_ ?_;rotate_left;(intro w';go_simp;with_reducible rfl);rotate_left;(simp only [Act.put, sA, s0, sN, i64_w, i32_w];rfl)
                    refine pU 11 75 (v := ?_) (a' := ?_) #[Y,Y,Y,Y,Y,Y,Y,Y,Z,Y,Y,Y,Z,Z,Z,Z,Z,Z] HT_ rfl rfl (by kernel_rfl) ?_ ?_ ?_;rotate_left;(intro w';go_simp;with_reducible rfl);rotate_left;(simp only [Act.put, sA, s0, sN, i64_w, i32_w];rfl)
                    refine pU 12 76 (v := ?_) (a' := ?_) #[Y,Y,Y,Y,Y,Y,Y,Y,Z,Y,Y,Y,Y,Z,Z,Z,Z,Z] HT_ rfl rfl (by kernel_rfl) ?_ ?_ ?_;rotate_left;(intro w';go_simp;with_reducible rfl);rotate_left;(simp only [Act.put, sA, s0, sN, i64_w, i32_w];rfl)
                    refine take_ (i := 8) (N := some 72) (v := ?_) (a' := ?_) #[Y,Y,Y,Y,Y,Y,Y,Y,Y,Y,Y,Y,Y,Z,Z,Z,Z,Z] rfl rfl (take_ofW HT_.out HW_.out (by kernel_rfl)) (fun _ _ _ h => h) (Or.inl ⟨by rfl, ?_⟩) hHeld ?_ ?_
                    rotate_left
                    ·rintro w' ⟨s0, s1, s2, s3, s4⟩
                     go_simp
                     with_reducible rfl
                    rotate_left
                    ·simp only [Act.put, sA, s0, sN, i64_w, i32_w]
                     rfl
                    refine take_ (i := 13) (N := some 77) (v := ?_) (a' := ?_) #[Y,Y,Y,Y,Y,Y,Y,Y,Y,Y,Y,Y,Y,Y,Z,Z,Z,Z] rfl rfl (take_ofW HT_.out HW_.out (by kernel_rfl)) (fun _ _ _ h => h) (Or.inl ⟨by rfl, ?_⟩) hHeld ?_ ?_
                    rotate_left
                    ·rintro w' ⟨s0, s1, s2, s3, s4⟩
                     go_simp
                     with_reducible rfl
                    rotate_left
                    ·simp only [Act.put, sA, s0, sN, i64_w, i32_w]
                     rfl
                    refine pU 14 78 (v := ?_) (a' := ?_) #[Y,Y,Y,Y,Y,Y,Y,Y,Y,Y,Y,Y,Y,Y,Y,Z,Z,Z] HT_ rfl rfl (by kernel_rfl) ?_ ?_ ?_;rotate_left;(intro w';go_simp;with_reducible rfl);rotate_left;(simp only [Act.put, sA, s0, sN, i64_w, i32_w];rfl)
                    refine pU 15 79 (v := ?_) (a' := ?_) #[Y,Y,Y,Y,Y,Y,Y,Y,Y,Y,Y,Y,Y,Y,Y,Y,Z,Z] HT_ rfl rfl (by kernel_rfl) ?_ ?_ ?_;rotate_left;(intro w';go_simp;with_reducible rfl);rotate_left;(simp only [Act.put, sA, s0, sN, i64_w, i32_w];rfl)
                    refine pU 16 80 (v := ?_) (a' := ?_) #[Y,Y,Y,Y,Y,Y,Y,Y,Y,Y,Y,Y,Y,Y,Y,Y,Y,Z] HT_ rfl rfl (by kernel_rfl) ?_ ?_ ?_;rotate_left;(intro w';go_simp;with_reducible rfl);rotate_left;(simp only [Act.put, sA, s0, sN, i64_w, i32_w];rfl)
                    refine pU 17 81 (v := ?_) (a' := ?_) #[Y,Y,Y,Y,Y,Y,Y,Y,Y,Y,Y,Y,Y,Y,Y,Y,Y,Y] HT_ rfl rfl (by kernel_rfl) ?_ ?_ ?_;rotate_left;(intro w';go_simp;with_reducible rfl);rotate_left;(simp only [Act.put, sA, s0, sN, i64_w, i32_w];rfl)
                    refine done_ (done_of HT_.out (by kernel_rfl)) ?_
                    try go_wp2
                    go_meet
                    case rel => exact ⟨_, (((Go.bits .and .i64 (ji42) 1) == 1)), (by first | rfl | (simp; done) | (simp only [← hji42] <;> (first | rfl | simp)) | (simp [*]; done)), H', ⟨by have := HK1.out; have := HK2.out; have := HK3.out; have := HK4.out; first | omega | exact Nat.le_refl _⟩, ⟨by (with_reducible repeat (first | apply Kd.R_alloc | apply Kd.R_drewN | apply Kd.R_drew)); exact Kd.R_mono HO_3.out (fun _ hk => hk.1)⟩, ⟨by (with_reducible repeat (first | apply Kd.R_alloc | apply Kd.R_drewN | apply Kd.R_drew)); exact Kd.R_mono HO_5.out (fun _ hk => hk.1)⟩, ⟨bw⟩⟩
                   ·rw [if_neg c41] at H
                    exact absurd H (by simp)
                  ·rw [if_neg c40] at H
                   exact absurd H (by simp)
                 ·rw [if_neg c39] at H
                  exact absurd H (by simp)
                ·rw [if_neg c38] at H
                 exact absurd H (by simp)
               ·replace c37 := Bool.eq_false_iff.mpr c37
                subst c37
                have H1 : (spec_UniformAt.j4 k4 l0 x3_4 t323 x6_4 x7_3 true) = some r := by rw [if_neg (show ¬ (false = true) by decide)] at H; exact H
                clear H
                have H := H1
                clear H1
                have H' := Aside0.mk H
                clear H
                try go_wp2
                replace HO_3 := Aside0.mk (Kd.R_drew HO_3.out)
                replace HO_5 := Aside0.mk (Kd.R_drew HO_5.out)
                replace HO_8 := Aside0.mk (Kd.R_drew HO_8.out)
                replace HB := Aside0.mk (below_drew1 HB.out)
                obtain ⟨Ao48, co48, eo48⟩ := Kd.R_slice HO_5.out
                (first | subst eo48 | (injection eo48 with f1_ f2_ f3_; have f4_ := f1_.symm; have f5_ := f3_.symm; clear f1_ f2_ f3_; subst f4_; subst f5_))
                refine start_ (n := 18) (S := fun w' => True) (ds := []) #[false,false,false,false,false,false,false,false,false,false,false,false,false,false,false,false,false,false] (by kernel_rfl) rfl rfl trivial (fun hHeld => ?_); refine with_tabW spec_UniformAt.tab20 spec_UniformAt.bits20 (fun HT_ HW_ => ?_)
                generalize wr.drew = w47 at HO_3 HO_5 HO_8 HB hHeld ⊢
                refine pU 0 64 (v := ?_) (a' := ?_) #[Y,Z,Z,Z,Z,Z,Z,Z,Z,Z,Z,Z,Z,Z,Z,Z,Z,Z] HT_ rfl rfl (by kernel_rfl) ?_ ?_ ?_;rotate_left;(intro w';go_simp;with_reducible rfl);rotate_left;(simp only [Act.put, sA, s0, sN, i64_w, i32_w];rfl)
                refine pU 1 65 (v := ?_) (a' := ?_) #[Y,Y,Z,Z,Z,Z,Z,Z,Z,Z,Z,Z,Z,Z,Z,Z,Z,Z] HT_ rfl rfl (by kernel_rfl) ?_ ?_ ?_;rotate_left;(intro w';go_simp;with_reducible rfl);rotate_left;(simp only [Act.put, sA, s0, sN, i64_w, i32_w];rfl)
                refine one_ (i := 2) (N := some 66) #[Y,Y,Y,Z,Z,Z,Z,Z,Z,Z,Z,Z,Z,Z,Z,Z,Z,Z] rfl rfl (one_of HT_.out (by kernel_rfl)) (by decide) (fun K hK => ?_)
                refine goes_ Tryz.func20 (by kernel_rfl) rfl #[.slice Ao48 t323.length co48, .int .i64 x7_3] (by rfl) rfl rfl bz ?_
                with_reducible refine (spec_l08Has.calls k4 _ _ t323 x7_3 false _ ?side1 ?side2 A36.out).mono ?_
                (case side1 => exact cS (Kd.R_reads' HO_5.out).2.2)
                (case side2 => exact (Kd.R_reads' HO_5.out).2.1)
                rintro e w49 ⟨rfl, hb⟩
                refine ⟨_, rfl, ?_⟩
                replace HO_3 := Aside0.mk (Kd.R_below (rS HO_3.out) hb)
                replace HO_5 := Aside0.mk (Kd.R_below (rS HO_5.out) hb)
                replace HO_8 := Aside0.mk (Kd.R_below (rS HO_8.out) hb)
                replace HB := Aside0.mk (below_step bw hb)
                (try clear hb)
                (try clear hb2)
                (try clear hk)
                (try clear hi)
                refine hK.out _ _ trivial (fun hHeld => ?_)
                clear hK K
                refine norm_ (a' := ?_) ?_ ?_
                rotate_left
                ·show Act.put _ (some 66) _ = _
                 simp only [Act.put, sA, s0, sN, i64_w, i32_w]
                 rfl
                refine pU 3 67 (v := ?_) (a' := ?_) #[Y,Y,Y,Y,Z,Z,Z,Z,Z,Z,Z,Z,Z,Z,Z,Z,Z,Z] HT_ rfl rfl (by kernel_rfl) ?_ ?_ ?_;rotate_left;(intro w';go_simp;with_reducible rfl);rotate_left;(simp only [Act.put, sA, s0, sN, i64_w, i32_w];rfl)
                refine pU 4 68 (v := ?_) (a' := ?_) #[Y,Y,Y,Y,Y,Z,Z,Z,Z,Z,Z,Z,Z,Z,Z,Z,Z,Z] HT_ rfl rfl (by kernel_rfl) ?_ ?_ ?_;rotate_left;(intro w';go_simp;with_reducible rfl);rotate_left;(simp only [Act.put, sA, s0, sN, i64_w, i32_w];rfl)
                refine pure_ (i := 5) (N := some 69) (v := undef) (a' := ?_) #[Y,Y,Y,Y,Y,Y,Z,Z,Z,Z,Z,Z,Z,Z,Z,Z,Z,Z] rfl rfl (any_of HT_.out (by kernel_rfl)) (fun _ _ _ h => h) (Or.inr ⟨by rfl, rfl⟩) ?_ ?_
                rotate_left
                ·simp only [Act.put, sA, s0, sN, i64_w, i32_w]
                 rfl
                refine pure_ (i := 6) (N := some 70) (v := undef) (a' := ?_) #[Y,Y,Y,Y,Y,Y,Y,Z,Z,Z,Z,Z,Z,Z,Z,Z,Z,Z] rfl rfl (any_of HT_.out (by kernel_rfl)) (fun _ _ _ h => h) (Or.inr ⟨by rfl, rfl⟩) ?_ ?_
                rotate_left
                ·simp only [Act.put, sA, s0, sN, i64_w, i32_w]
                 rfl
                refine pure_ (i := 7) (N := some 71) (v := undef) (a' := ?_) #[Y,Y,Y,Y,Y,Y,Y,Y,Z,Z,Z,Z,Z,Z,Z,Z,Z,Z] rfl rfl (any_of HT_.out (by kernel_rfl)) (fun _ _ _ h => h) (Or.inr ⟨by rfl, rfl⟩) ?_ ?_
                rotate_left
                ·simp only [Act.put, sA, s0, sN, i64_w, i32_w]
                 rfl
                refine pure_ (i := 8) (N := some 72) (v := undef) (a' := ?_) #[Y,Y,Y,Y,Y,Y,Y,Y,Y,Z,Z,Z,Z,Z,Z,Z,Z,Z] rfl rfl (any_of HT_.out (by kernel_rfl)) (fun _ _ _ h => h) (Or.inr ⟨by rfl, rfl⟩) ?_ ?_
                rotate_left
                ·simp only [Act.put, sA, s0, sN, i64_w, i32_w]
                 rfl
                refine pure_ (i := 9) (N := some 73) (v := undef) (a' := ?_) #[Y,Y,Y,Y,Y,Y,Y,Y,Y,Y,Z,Z,Z,Z,Z,Z,Z,Z] rfl rfl (any_of HT_.out (by kernel_rfl)) (fun _ _ _ h => h) (Or.inr ⟨by rfl, rfl⟩) ?_ ?_
                rotate_left
                ·simp only [Act.put, sA, s0, sN, i64_w, i32_w]
                 rfl
                refine pure_ (i := 10) (N := some 74) (v := undef) (a' := ?_) #[Y,Y,Y,Y,Y,Y,Y,Y,Y,Y,Y,Z,Z,Z,Z,Z,Z,Z] rfl rfl (any_of HT_.out (by kernel_rfl)) (fun _ _ _ h => h) (Or.inr ⟨by rfl, rfl⟩) ?_ ?_
                rotate_left
                ·simp only [Act.put, sA, s0, sN, i64_w, i32_w]
                 rfl
                refine pure_ (i := 11) (N := some 75) (v := undef) (a' := ?_) #[Y,Y,Y,Y,Y,Y,Y,Y,Y,Y,Y,Y,Z,Z,Z,Z,Z,Z] rfl rfl (any_of HT_.out (by kernel_rfl)) (fun _ _ _ h => h) (Or.inr ⟨by rfl, rfl⟩) ?_ ?_
                rotate_left
                ·simp only [Act.put, sA, s0, sN, i64_w, i32_w]
                 rfl
                refine pure_ (i := 12) (N := some 76) (v := undef) (a' := ?_) #[Y,Y,Y,Y,Y,Y,Y,Y,Y,Y,Y,Y,Y,Z,Z,Z,Z,Z] rfl rfl (any_of HT_.out (by kernel_rfl)) (fun _ _ _ h => h) (Or.inr ⟨by rfl, rfl⟩) ?_ ?_
                rotate_left
                ·simp only [Act.put, sA, s0, sN, i64_w, i32_w]
                 rfl
                refine pure_ (i := 13) (N := some 77) (v := undef) (a' := ?_) #[Y,Y,Y,Y,Y,Y,Y,Y,Y,Y,Y,Y,Y,Y,Z,Z,Z,Z] rfl rfl (any_of HT_.out (by kernel_rfl)) (fun _ _ _ h => h) (Or.inr ⟨by rfl, rfl⟩) ?_ ?_
                rotate_left
                ·simp only [Act.put, sA, s0, sN, i64_w, i32_w]
                 rfl
                refine pure_ (i := 14) (N := some 78) (v := undef) (a' := ?_) #[Y,Y,Y,Y,Y,Y,Y,Y,Y,Y,Y,Y,Y,Y,Y,Z,Z,Z] rfl rfl (any_of HT_.out (by kernel_rfl)) (fun _ _ _ h => h) (Or.inr ⟨by rfl, rfl⟩) ?_ ?_
                rotate_left
                ·simp only [Act.put, sA, s0, sN, i64_w, i32_w]
                 rfl
                refine pure_ (i := 15) (N := some 79) (v := undef) (a' := ?_) #[Y,Y,Y,Y,Y,Y,Y,Y,Y,Y,Y,Y,Y,Y,Y,Y,Z,Z] rfl rfl (any_of HT_.out (by kernel_rfl)) (fun _ _ _ h => h) (Or.inr ⟨by rfl, rfl⟩) ?_ ?_
                rotate_left
                ·simp only [Act.put, sA, s0, sN, i64_w, i32_w]
                 rfl
                refine pure_ (i := 16) (N := some 80) (v := undef) (a' := ?_) #[Y,Y,Y,Y,Y,Y,Y,Y,Y,Y,Y,Y,Y,Y,Y,Y,Y,Z] rfl rfl (any_of HT_.out (by kernel_rfl)) (fun _ _ _ h => h) (Or.inr ⟨by rfl, rfl⟩) ?_ ?_
                rotate_left
                ·simp only [Act.put, sA, s0, sN, i64_w, i32_w]
                 rfl
                refine pU 17 81 (v := ?_) (a' := ?_) #[Y,Y,Y,Y,Y,Y,Y,Y,Y,Y,Y,Y,Y,Y,Y,Y,Y,Y] HT_ rfl rfl (by kernel_rfl) ?_ ?_ ?_;rotate_left;(intro w';go_simp;with_reducible rfl);rotate_left;(simp only [Act.put, sA, s0, sN, i64_w, i32_w];rfl)
                refine done_ (done_of HT_.out (by kernel_rfl)) ?_
                try go_wp2
                go_meet
                case rel => exact ⟨_, (true), tR, H', ⟨by have := HK1.out; have := HK2.out; have := HK3.out; have := HK4.out; first | omega | exact Nat.le_refl _⟩, ⟨by (with_reducible repeat (first | apply Kd.R_alloc | apply Kd.R_drewN | apply Kd.R_drew)); exact Kd.R_mono HO_3.out (fun _ hk => hk.1)⟩, ⟨by (with_reducible repeat (first | apply Kd.R_alloc | apply Kd.R_drewN | apply Kd.R_drew)); exact Kd.R_mono HO_5.out (fun _ hk => hk.1)⟩, ⟨bw⟩⟩
              case rest =>
               clear HC34
               try clear c1;try clear c2;try clear p2;try clear c3;try clear p3;try clear q3;try clear hx3;try clear c4;try clear p6;try clear c16;try clear c16b0;try clear c17;try clear c18;try clear c19;try clear c20;try clear c30;try clear c31;try clear p33;try clear q33;try clear hx33;try clear c37;try clear c38;try clear c38b0;try clear c39;try clear c39b0;try clear c40;try clear c40b0;try clear c41;try clear c41b0;try clear c41b1;try clear hx336_0;try clear hx337_0;try clear hx337_1;try clear hx337_2;try clear hx337_3;try clear p336;try clear p337;try clear q336;try clear q337
               obtain ⟨kq, x81_33, rfl, HA, HJ33, HO_3, HO_5, HB⟩ := hcut
               cases kq with
               | zero => exact absurd HA.out (by simp [spec_UniformAt.j4])
               | succ kj33 =>
                have H := HA.out
                clear HA
                simp only [spec_UniformAt.j4] at H
                by_cases c50 : x81_33 = true
                ·subst c50
                 have H1 : (spec_UniformAt.l2 kj33 l0 x3_4 t323 x6_4 (wrap64 (x7_3 + 1))) = some r := by rw [if_pos rfl] at H; exact H
                 clear H
                 have H := H1
                 clear H1
                 have H' := Aside0.mk H
                 clear H
                 go_wp2
                 go_roundg kj33
                 case measure => have := HK1.out; have := HK2.out; have := HK3.out; have := HK4.out; have := HJ33.out; omega
                 case rel => exact ⟨(x3_4), (x6_4), (wrap64 (x7_3 + 1)), tR, tR, H', ⟨by have := HK1.out; have := HK2.out; have := HK3.out; have := HK4.out; have := HJ33.out; omega⟩, ⟨rS HO_3.out⟩, ⟨rS HO_5.out⟩, ⟨bw⟩⟩
                ·replace c50 := Bool.eq_false_iff.mpr c50
                 subst c50
                 have H1 : ((spec_InsideOf.f kj33 l0 x7_3).bind fun t338 => ((spec_l17Writes.f kj33 l0 t338).bind fun t341 => (spec_UniformAt.l4 kj33 l0 x3_4 t323 x6_4 x7_3 t338 t341 0))) = some r := by rw [if_neg (show ¬ (false = true) by decide)] at H; exact H
                 clear H
                 have H := H1
                 clear H1
                 replace H := Option.bind_eq_some_iff.mp H
                 obtain ⟨t338, A510, H⟩ := H
                 replace H : ((spec_l17Writes.f kj33 l0 t338).bind fun t341 => (spec_UniformAt.l4 kj33 l0 x3_4 t323 x6_4 x7_3 t338 t341 0)) = some r := H
                 have A51 := Aside0.mk A510
                 clear A510
                 replace H := Option.bind_eq_some_iff.mp H
                 obtain ⟨t341, A520, H⟩ := H
                 replace H : (spec_UniformAt.l4 kj33 l0 x3_4 t323 x6_4 x7_3 t338 t341 0) = some r := H
                 have A52 := Aside0.mk A520
                 clear A520
                 have H' := Aside0.mk H
                 clear H
                 go_wp2_with (first | ((with_reducible refine gate_callee (f := 32) rfl ?_); refine gL (some 84) Tryz.func32 #[.slice A0 l0.length c0, .int .i64 x7_3] ?_; (with_reducible refine (spec_InsideOf.calls kj33 _ _ l0 x7_3 t338 _ ?side1 ?side2 A51.out).mono ?_); (case side1 => repeat (first | exact (Kd.C_below HR0.out HB.out) | (with_reducible refine Kd.C_alloc ?_ _) | (with_reducible refine Kd.C_drewN ?_ _) | (with_reducible refine Kd.C_drew ?_))); (case side2 => exact HC0.out); rintro e w53 ⟨v339, rfl, ho0, hb⟩; refine ⟨_, rfl, ?_⟩; have HO340 := Aside0.mk (Kd.R_lower (Kd.R_new' (Kd.R_new' ho0 (Kd.R_lt (rS HO_3.out))) (Kd.R_lt (rS HO_5.out))) (below_size bw)); replace HO_3 := Aside0.mk (Kd.R_elder' (rS HO_3.out) (Kd.R_base ho0) hb); replace HO_5 := Aside0.mk (Kd.R_elder' (rS HO_5.out) (Kd.R_base ho0) hb); replace HB := Aside0.mk (below_step bw hb); (try clear hb); (try clear ho0); obtain ⟨Ao54, co54, eo54⟩ := Kd.R_slice HO340.out; subst eo54) | ((with_reducible refine gate_callee (f := 33) rfl ?_); refine gL (some 87) Tryz.func33 #[.slice A0 l0.length c0, .slice Ao54 t338.length co54] ?_; (with_reducible refine (spec_l17Writes.calls kj33 _ _ l0 _ _ t338 t341 _ ?side1 ?side2 ?side3 ?side4 A52.out).mono ?_); (case side1 => repeat (first | exact (Kd.C_below HR0.out HB.out) | (with_reducible refine Kd.C_alloc ?_ _) | (with_reducible refine Kd.C_drewN ?_ _) | (with_reducible refine Kd.C_drew ?_))); (case side2 => exact HC0.out); (case side3 => exact cS (Kd.R_reads' HO340.out).2.2); (case side4 => exact (Kd.R_reads' HO340.out).2.1); rintro e w55 ⟨rfl, hb⟩; refine ⟨_, rfl, ?_⟩; replace HO_3 := Aside0.mk (Kd.R_below (rS HO_3.out) hb); replace HO_5 := Aside0.mk (Kd.R_below (rS HO_5.out) hb); replace HO340 := Aside0.mk (Kd.R_below (rS HO340.out) hb); replace HB := Aside0.mk (below_step bw hb); (try clear hb)))
                 go_loopg [6, 12] kj33 (fun kq v6 v12 w' => ∃ (x3_6 : List Int) (x6_6 : Bool) (x12_6 : Int), v6 = .bool x6_6 ∧ v12 = .int .i64 x12_6 ∧ Aside0 (spec_UniformAt.l4 kq l0 x3_6 t323 x6_6 x7_3 t338 t341 x12_6 = some r) ∧ Aside0 (kq ≤ kj33) ∧ Aside0 (Kd.R (Kd.int .i64) 3 w' w.heap.size (fun k_ => some k_ ≠ (v324 : Value).ownBlock ∧ some k_ ≠ ((.slice Ao54 t338.length co54) : Value).ownBlock) u3 x3_6) ∧ Aside0 (Kd.R (Kd.int .i64) 3 w' w.heap.size (fun k_ => some k_ ≠ (u3 : Value).ownBlock ∧ some k_ ≠ ((.slice Ao54 t338.length co54) : Value).ownBlock) v324 t323) ∧ Aside0 (Kd.R (Kd.int .i64) 3 w' w.heap.size (fun k_ => some k_ ≠ (u3 : Value).ownBlock ∧ some k_ ≠ (v324 : Value).ownBlock) (.slice Ao54 t338.length co54) t338) ∧ Aside0 (Below w.heap.size w w'))
                 case atStart => exact ⟨(x3_4), (x6_4), (0), tR, tR, H', ⟨Nat.le_refl _⟩, ⟨rS HO_3.out⟩, ⟨rS HO_5.out⟩, ⟨by (with_reducible repeat (first | apply Kd.R_alloc | apply Kd.R_drewN | apply Kd.R_drew)); exact Kd.R_mono HO340.out (fun _ hk => ⟨hk.1.2, hk.2⟩)⟩, ⟨bw⟩⟩
                 case round =>
                  clear H'
                  try clear c1;try clear c2;try clear p2;try clear c3;try clear p3;try clear q3;try clear hx3;try clear c4;try clear c5;try clear p6;try clear c16;try clear c16b0;try clear c17;try clear c18;try clear c19;try clear c20;try clear c30;try clear c31;try clear c32;try clear c33;try clear p33;try clear q33;try clear hx33;try clear c37;try clear c38;try clear c38b0;try clear c39;try clear c39b0;try clear c40;try clear c40b0;try clear c41;try clear c41b0;try clear c41b1;try clear c50;try clear hx336_0;try clear hx337_0;try clear hx337_1;try clear hx337_2;try clear hx337_3;try clear p2;try clear p3;try clear p33;try clear p336;try clear p337;try clear p6;try clear q3;try clear q33;try clear q336;try clear q337
                  obtain ⟨x3_6, x6_6, x12_6, rfl, rfl, HA, HK6, HO_3, HO_5, HO_10, HB⟩ := hrel
                  cases gk with
                  | zero => exact absurd HA.out (by simp [spec_UniformAt.l4])
                  | succ k6 =>
                   have H := HA.out
                   clear HA
                   simp only [spec_UniformAt.l4] at H
                   by_cases c56 : x12_6 < (t338.length : Int)
                   ·rw [if_pos c56] at H
                    have c56b0 : decide (x12_6 < (t338.length : Int)) = true := decide_eq_true c56
                    clear c56
                    by_cases c57 : 0 ≤ x12_6
                    ·rw [if_pos c57] at H
                     have c57b0 : decide (0 ≤ x12_6) = true := decide_eq_true c57
                     clear c57
                     replace H := Option.bind_eq_some_iff.mp H
                     obtain ⟨⟨t343, t344⟩, A580, H⟩ := H
                     replace H : (if t343 = true then (spec_UniformAt.l4 k6 l0 t344 t323 true x7_3 t338 t341 (wrap64 (x12_6 + 1))) else (spec_UniformAt.l4 k6 l0 t344 t323 x6_6 x7_3 t338 t341 (wrap64 (x12_6 + 1)))) = some r := H
                     have A58 := Aside0.mk A580
                     clear A580
                     by_cases c59 : t343 = true
                     ·subst c59
                      have H1 : (spec_UniformAt.l4 k6 l0 t344 t323 true x7_3 t338 t341 (wrap64 (x12_6 + 1))) = some r := by rw [if_pos rfl] at H; exact H
                      clear H
                      have H := H1
                      clear H1
                      have H' := Aside0.mk H
                      clear H
                      have p342 : 0 ≤ (x12_6 : Int) := dT
                      have q342 : x12_6 < (t338.length : Int) := dT
                      try (obtain ⟨AoZ342, coZ342, eoZ342⟩ := Kd.R_slice HO_10.out; subst eoZ342)
                      obtain ⟨ad342, e342, hx342_0⟩ := Kd.at_int (Kd.R_reads' HO_10.out).2.2 x12_6 p342 q342
                      cases e342
                      replace p342 := eq_true p342
                      replace q342 := eq_true q342
                      obtain ⟨Ao60, co60, eo60⟩ := Kd.R_slice HO_3.out
                      subst eo60
                      go_wp2_with (first | ((with_reducible refine gate_callee (f := 30) rfl ?_); refine gL (some 100) Tryz.func30 #[.slice Ao60 x3_6.length co60, .int .i64 (rd t338 x12_6), .int .i64 t341] ?_; (with_reducible refine (spec_l17Lose.calls (fun k_ => some k_ = (.slice Ao60 x3_6.length co60 : Value).ownBlock) (.slice Ao60 x3_6.length co60) x3_6 (rd t338 x12_6) t341 true t344 w _ ?side1 ?side2 A58.out).mono ?_); (case side1 => repeat (first | (with_reducible first | exact HB.out | apply below_alloc | apply pw_below_drewN | apply below_drew1) | exact HB.out)); (case side2 => exact Kd.R_tight rfl HO_3.out); rintro e w61 ⟨rfl, hy0, hb, hkp⟩; refine ⟨_, rfl, ?_⟩; replace HO_3 := Aside0.mk (Kd.R_reok rfl hy0 (fun k_ e_ => HO_3.out.1 k_ e_)); replace HO_5 := Aside0.mk (Kd.R_mono (ok' := fun k_ => some k_ ≠ (.slice Ao60 x3_6.length co60 : Value).ownBlock ∧ some k_ ≠ (.slice (some ad342) t338.length co54 : Value).ownBlock) (Kd.R_keptB (HO_5.out) hkp (fun k_ hk_ hs_ => (hk_.1) hs_)) (fun k_ hk_ => ⟨hk_.1.1, hk_.1.2⟩)); replace HO_10 := Aside0.mk (Kd.R_mono (ok' := fun k_ => some k_ ≠ (.slice Ao60 x3_6.length co60 : Value).ownBlock ∧ some k_ ≠ (v324 : Value).ownBlock) (Kd.R_keptB (HO_10.out) hkp (fun k_ hk_ hs_ => (hk_.1) hs_)) (fun k_ hk_ => ⟨hk_.1.1, hk_.1.2⟩)); replace HB := Aside0.mk (hb); (try clear hb); (try clear hkp); (try clear hy0)))
                      go_roundg k6
                      case measure => have := HK1.out; have := HK2.out; have := HK3.out; have := HK4.out; have := HJ33.out; have := HK6.out; omega
                      case rel => exact ⟨(t344), (true), (wrap64 (x12_6 + 1)), tR, tR, H', ⟨by have := HK1.out; have := HK2.out; have := HK3.out; have := HK4.out; have := HJ33.out; have := HK6.out; omega⟩, ⟨rS HO_3.out⟩, ⟨rS HO_5.out⟩, ⟨rS HO_10.out⟩, ⟨bw⟩⟩
                     ·replace c59 := Bool.eq_false_iff.mpr c59
                      subst c59
                      have H1 : (spec_UniformAt.l4 k6 l0 t344 t323 x6_6 x7_3 t338 t341 (wrap64 (x12_6 + 1))) = some r := by rw [if_neg (show ¬ (false = true) by decide)] at H; exact H
                      clear H
                      have H := H1
                      clear H1
                      have H' := Aside0.mk H
                      clear H
                      have p342 : 0 ≤ (x12_6 : Int) := dT
                      have q342 : x12_6 < (t338.length : Int) := dT
                      try (obtain ⟨AoZ342, coZ342, eoZ342⟩ := Kd.R_slice HO_10.out; subst eoZ342)
                      obtain ⟨ad342, e342, hx342_0⟩ := Kd.at_int (Kd.R_reads' HO_10.out).2.2 x12_6 p342 q342
                      cases e342
                      replace p342 := eq_true p342
                      replace q342 := eq_true q342
                      obtain ⟨Ao62, co62, eo62⟩ := Kd.R_slice HO_3.out
                      subst eo62
                      go_wp2_with (first | ((with_reducible refine gate_callee (f := 30) rfl ?_); refine gL (some 100) Tryz.func30 #[.slice Ao62 x3_6.length co62, .int .i64 (rd t338 x12_6), .int .i64 t341] ?_; (with_reducible refine (spec_l17Lose.calls (fun k_ => some k_ = (.slice Ao62 x3_6.length co62 : Value).ownBlock) (.slice Ao62 x3_6.length co62) x3_6 (rd t338 x12_6) t341 false t344 w _ ?side1 ?side2 A58.out).mono ?_); (case side1 => repeat (first | (with_reducible first | exact HB.out | apply below_alloc | apply pw_below_drewN | apply below_drew1) | exact HB.out)); (case side2 => exact Kd.R_tight rfl HO_3.out); rintro e w63 ⟨rfl, hy0, hb, hkp⟩; refine ⟨_, rfl, ?_⟩; replace HO_3 := Aside0.mk (Kd.R_reok rfl hy0 (fun k_ e_ => HO_3.out.1 k_ e_)); replace HO_5 := Aside0.mk (Kd.R_mono (ok' := fun k_ => some k_ ≠ (.slice Ao62 x3_6.length co62 : Value).ownBlock ∧ some k_ ≠ (.slice (some ad342) t338.length co54 : Value).ownBlock) (Kd.R_keptB (HO_5.out) hkp (fun k_ hk_ hs_ => (hk_.1) hs_)) (fun k_ hk_ => ⟨hk_.1.1, hk_.1.2⟩)); replace HO_10 := Aside0.mk (Kd.R_mono (ok' := fun k_ => some k_ ≠ (.slice Ao62 x3_6.length co62 : Value).ownBlock ∧ some k_ ≠ (v324 : Value).ownBlock) (Kd.R_keptB (HO_10.out) hkp (fun k_ hk_ hs_ => (hk_.1) hs_)) (fun k_ hk_ => ⟨hk_.1.1, hk_.1.2⟩)); replace HB := Aside0.mk (hb); (try clear hb); (try clear hkp); (try clear hy0)))
                      go_roundg k6
                      case measure => have := HK1.out; have := HK2.out; have := HK3.out; have := HK4.out; have := HJ33.out; have := HK6.out; omega
                      case rel => exact ⟨(t344), (x6_6), (wrap64 (x12_6 + 1)), tR, tR, H', ⟨by have := HK1.out; have := HK2.out; have := HK3.out; have := HK4.out; have := HJ33.out; have := HK6.out; omega⟩, ⟨rS HO_3.out⟩, ⟨rS HO_5.out⟩, ⟨rS HO_10.out⟩, ⟨bw⟩⟩
                    ·rw [if_neg c57] at H
                     exact absurd H (by simp)
                   ·rw [if_neg c56] at H
                    have c56b0 : decide (x12_6 < (t338.length : Int)) = false := decide_eq_false c56
                    clear c56
                    replace H := Option.bind_eq_some_iff.mp H
                    obtain ⟨t345, A640, H⟩ := H
                    replace H : ((spec_l17Lose.f x3_6 t345 t341).bind fun bt346 => (if bt346.1 = true then (spec_UniformAt.l2 k6 l0 bt346.2 t323 true (wrap64 (x7_3 + 1))) else (spec_UniformAt.l2 k6 l0 bt346.2 t323 x6_6 (wrap64 (x7_3 + 1))))) = some r := H
                    have A64 := Aside0.mk A640
                    clear A640
                    replace H := Option.bind_eq_some_iff.mp H
                    obtain ⟨⟨t346, t347⟩, A650, H⟩ := H
                    replace H : (if t346 = true then (spec_UniformAt.l2 k6 l0 t347 t323 true (wrap64 (x7_3 + 1))) else (spec_UniformAt.l2 k6 l0 t347 t323 x6_6 (wrap64 (x7_3 + 1)))) = some r := H
                    have A65 := Aside0.mk A650
                    clear A650
                    by_cases c66 : t346 = true
                    ·subst c66
                     have H1 : (spec_UniformAt.l2 k6 l0 t347 t323 true (wrap64 (x7_3 + 1))) = some r := by rw [if_pos rfl] at H; exact H
                     clear H
                     have H := H1
                     clear H1
                     have H' := Aside0.mk H
                     clear H
                     go_wp2_with (first | ((with_reducible refine gate_callee (f := 34) rfl ?_); refine gL (some 107) Tryz.func34 #[.slice A0 l0.length c0, .int .i64 x7_3] ?_; (with_reducible refine (spec_l09Join.calls k6 _ _ l0 x7_3 t345 _ ?side1 ?side2 A64.out).mono ?_); (case side1 => repeat (first | exact (Kd.C_below HR0.out HB.out) | (with_reducible refine Kd.C_alloc ?_ _) | (with_reducible refine Kd.C_drewN ?_ _) | (with_reducible refine Kd.C_drew ?_))); (case side2 => exact HC0.out); rintro e w67 ⟨rfl, hb⟩; refine ⟨_, rfl, ?_⟩; replace HO_3 := Aside0.mk (Kd.R_below (rS HO_3.out) hb); replace HO_5 := Aside0.mk (Kd.R_below (rS HO_5.out) hb); replace HO_10 := Aside0.mk (Kd.R_below (rS HO_10.out) hb); replace HB := Aside0.mk (below_step bw hb); (try clear hb); obtain ⟨Ao68, co68, eo68⟩ := Kd.R_slice HO_3.out; subst eo68) | ((with_reducible refine gate_callee (f := 30) rfl ?_); refine gL (some 109) Tryz.func30 #[.slice Ao68 x3_6.length co68, .int .i64 t345, .int .i64 t341] ?_; (with_reducible refine (spec_l17Lose.calls (fun k_ => some k_ = (.slice Ao68 x3_6.length co68 : Value).ownBlock) (.slice Ao68 x3_6.length co68) x3_6 t345 t341 true t347 w _ ?side1 ?side2 A65.out).mono ?_); (case side1 => repeat (first | (with_reducible first | exact HB.out | apply below_alloc | apply pw_below_drewN | apply below_drew1) | exact HB.out)); (case side2 => exact Kd.R_tight rfl HO_3.out); rintro e w69 ⟨rfl, hy0, hb, hkp⟩; refine ⟨_, rfl, ?_⟩; replace HO_3 := Aside0.mk (Kd.R_reok rfl hy0 (fun k_ e_ => HO_3.out.1 k_ e_)); replace HO_5 := Aside0.mk (Kd.R_mono (ok' := fun k_ => some k_ ≠ (.slice Ao68 x3_6.length co68 : Value).ownBlock ∧ some k_ ≠ (.slice Ao54 t338.length co54 : Value).ownBlock) (Kd.R_keptB (HO_5.out) hkp (fun k_ hk_ hs_ => (hk_.1) hs_)) (fun k_ hk_ => ⟨hk_.1.1, hk_.1.2⟩)); replace HO_10 := Aside0.mk (Kd.R_mono (ok' := fun k_ => some k_ ≠ (.slice Ao68 x3_6.length co68 : Value).ownBlock ∧ some k_ ≠ (v324 : Value).ownBlock) (Kd.R_keptB (HO_10.out) hkp (fun k_ hk_ hs_ => (hk_.1) hs_)) (fun k_ hk_ => ⟨hk_.1.1, hk_.1.2⟩)); replace HB := Aside0.mk (hb); (try clear hb); (try clear hkp); (try clear hy0)))
                     go_roundg k6
                     case measure => have := HK1.out; have := HK2.out; have := HK3.out; have := HK4.out; have := HJ33.out; have := HK6.out; omega
                     case rel => exact ⟨(t347), (true), (wrap64 (x7_3 + 1)), tR, tR, H', ⟨by have := HK1.out; have := HK2.out; have := HK3.out; have := HK4.out; have := HJ33.out; have := HK6.out; omega⟩, ⟨by (with_reducible repeat (first | apply Kd.R_alloc | apply Kd.R_drewN | apply Kd.R_drew)); exact Kd.R_mono HO_3.out (fun _ hk => hk.1)⟩, ⟨by (with_reducible repeat (first | apply Kd.R_alloc | apply Kd.R_drewN | apply Kd.R_drew)); exact Kd.R_mono HO_5.out (fun _ hk => hk.1)⟩, ⟨bw⟩⟩
                    ·replace c66 := Bool.eq_false_iff.mpr c66
                     subst c66
                     have H1 : (spec_UniformAt.l2 k6 l0 t347 t323 x6_6 (wrap64 (x7_3 + 1))) = some r := by rw [if_neg (show ¬ (false = true) by decide)] at H; exact H
                     clear H
                     have H := H1
                     clear H1
                     have H' := Aside0.mk H
                     clear H
                     go_wp2_with (first | ((with_reducible refine gate_callee (f := 34) rfl ?_); refine gL (some 107) Tryz.func34 #[.slice A0 l0.length c0, .int .i64 x7_3] ?_; (with_reducible refine (spec_l09Join.calls k6 _ _ l0 x7_3 t345 _ ?side1 ?side2 A64.out).mono ?_); (case side1 => repeat (first | exact (Kd.C_below HR0.out HB.out) | (with_reducible refine Kd.C_alloc ?_ _) | (with_reducible refine Kd.C_drewN ?_ _) | (with_reducible refine Kd.C_drew ?_))); (case side2 => exact HC0.out); rintro e w70 ⟨rfl, hb⟩; refine ⟨_, rfl, ?_⟩; replace HO_3 := Aside0.mk (Kd.R_below (rS HO_3.out) hb); replace HO_5 := Aside0.mk (Kd.R_below (rS HO_5.out) hb); replace HO_10 := Aside0.mk (Kd.R_below (rS HO_10.out) hb); replace HB := Aside0.mk (below_step bw hb); (try clear hb); obtain ⟨Ao71, co71, eo71⟩ := Kd.R_slice HO_3.out; subst eo71) | ((with_reducible refine gate_callee (f := 30) rfl ?_); refine gL (some 109) Tryz.func30 #[.slice Ao71 x3_6.length co71, .int .i64 t345, .int .i64 t341] ?_; (with_reducible refine (spec_l17Lose.calls (fun k_ => some k_ = (.slice Ao71 x3_6.length co71 : Value).ownBlock) (.slice Ao71 x3_6.length co71) x3_6 t345 t341 false t347 w _ ?side1 ?side2 A65.out).mono ?_); (case side1 => repeat (first | (with_reducible first | exact HB.out | apply below_alloc | apply pw_below_drewN | apply below_drew1) | exact HB.out)); (case side2 => exact Kd.R_tight rfl HO_3.out); rintro e w72 ⟨rfl, hy0, hb, hkp⟩; refine ⟨_, rfl, ?_⟩; replace HO_3 := Aside0.mk (Kd.R_reok rfl hy0 (fun k_ e_ => HO_3.out.1 k_ e_)); replace HO_5 := Aside0.mk (Kd.R_mono (ok' := fun k_ => some k_ ≠ (.slice Ao71 x3_6.length co71 : Value).ownBlock ∧ some k_ ≠ (.slice Ao54 t338.length co54 : Value).ownBlock) (Kd.R_keptB (HO_5.out) hkp (fun k_ hk_ hs_ => (hk_.1) hs_)) (fun k_ hk_ => ⟨hk_.1.1, hk_.1.2⟩)); replace HO_10 := Aside0.mk (Kd.R_mono (ok' := fun k_ => some k_ ≠ (.slice Ao71 x3_6.length co71 : Value).ownBlock ∧ some k_ ≠ (v324 : Value).ownBlock) (Kd.R_keptB (HO_10.out) hkp (fun k_ hk_ hs_ => (hk_.1) hs_)) (fun k_ hk_ => ⟨hk_.1.1, hk_.1.2⟩)); replace HB := Aside0.mk (hb); (try clear hb); (try clear hkp); (try clear hy0)))
                     go_roundg k6
                     case measure => have := HK1.out; have := HK2.out; have := HK3.out; have := HK4.out; have := HJ33.out; have := HK6.out; omega
                     case rel => exact ⟨(t347), (x6_6), (wrap64 (x7_3 + 1)), tR, tR, H', ⟨by have := HK1.out; have := HK2.out; have := HK3.out; have := HK4.out; have := HJ33.out; have := HK6.out; omega⟩, ⟨by (with_reducible repeat (first | apply Kd.R_alloc | apply Kd.R_drewN | apply Kd.R_drew)); exact Kd.R_mono HO_3.out (fun _ hk => hk.1)⟩, ⟨by (with_reducible repeat (first | apply Kd.R_alloc | apply Kd.R_drewN | apply Kd.R_drew)); exact Kd.R_mono HO_5.out (fun _ hk => hk.1)⟩, ⟨bw⟩⟩
          ·rw [if_neg c13] at H
           have c13b0 : decide (x7_3 < (l0.length : Int)) = false := decide_eq_false c13
           clear c13
           have H' := Aside0.mk H
           clear H
           go_wp2
           go_roundg k3
           case measure => have := HK1.out; have := HK2.out; have := HK3.out; omega
           case rel => exact ⟨(x3_3), (x6_3), tR, H', ⟨by have := HK1.out; have := HK2.out; have := HK3.out; omega⟩, ⟨rS HO_3.out⟩, ⟨rS HO_5.out⟩, ⟨bw⟩⟩
       ·replace c12 := Bool.eq_false_iff.mpr c12
        subst c12
        have H1 : (some x3_2) = some r := by rw [if_neg (show ¬ (false = true) by decide)] at H; exact H
        clear H
        have H := H1
        clear H1
        obtain rfl := Option.some.inj H
        go_wp2
        go_ret
        exact ⟨_, eR, by (with_reducible repeat (first | apply Kd.R_alloc | apply Kd.R_drewN | apply Kd.R_drew)); exact Kd.R_mono HO_3.out (fun _ hk => trivial), bw⟩
 ·replace c3 := Bool.eq_false_iff.mpr c3
  subst c3
  have H1 : (some (([] : List Int))) = some r := by rw [if_neg (show ¬ (false = true) by decide)] at H; exact H
  clear H
  have H := H1
  clear H1
  obtain ⟨y314, hy314⟩ : ∃ y_ : List Int, y_ = (([] : List Int)) := ⟨_, rfl⟩
  replace H : (some y314) = some r := rP hy314 H
  have Ny314 := Aside0.mk hy314
  clear hy314
  obtain rfl := Option.some.inj H
  go_enter Tryz.func13, Tryz.ntmps13
  go_wp2_with (first | ((with_reducible refine gate_callee (f := 19) rfl ?_); refine gL (some 14) Tryz.func19 #[.slice A0 l0.length c0] ?_; (with_reducible refine (spec_IsQuiet.calls k _ _ l0 false _ ?side1 ?side2 A2.out).mono ?_); (case side1 => exact cS HR0.out); (case side2 => exact HC0.out); rintro e w73 ⟨rfl, hb⟩; refine ⟨_, rfl, ?_⟩; replace HB := Aside0.mk (below_step bw hb); (try clear hb)) | ((with_reducible refine gate_dst (N := 16) rfl ?_); refine Kd.R_lit (Kd.int .i64) _ 3 ?hg (N := 16) ?hd (xs := ([] : List Int)) (inner := []) (ok := fun _ => True) (okp := fun _ => True) ?hr ?hp (fun _ hk => hk) trivial (Below.refl _ _) (Nat.le_refl _) (by simp) ?_; (case hd => rfl); (case hg => rfl); (case hr => first | (go_simp; done) | (go_simp; rfl)); (case hp => exact (Reps.none _ _)); intro v315 w74 ho75 hb hg_ hnew_; clear hg_ hnew_; (first | rw [← Ny314.out] at ho75 | (simp only [Int.reduceToNat] at ho75; rw [← Ny314.out] at ho75)); have HO316 := Aside0.mk (Kd.R_lower ho75 (below_size bw)); replace HB := Aside0.mk (below_step bw hb); clear hb ho75))
  go_ret
  exact ⟨_, eR, rS HO316.out, bw⟩

end Go.Proofs.YtdppehpcpofeoaaGreat.PFnExactNeverSplits
