-- Written by myprint.py (a program of this session, over the kit's print): not trusted, Lean checks it.
import Derived.Test.YtbgpnendblmdaaaPFnJoinsx0
import Derived.Test.YtbgpnendblmdaaaPFnJoinsx1
import Derived.Test.YtbgpnendblmdaaaPFnJoinsx3
import Derived.Test.YtbgpnendblmdaaaPFnJoinsx4
import Derived.Test.YtbgpnendblmdaaaPFnJoinsx5
import Derived.Test.YtbgpnendblmdaaaPFnJoinsx9
namespace Go.Proofs.Ytbgpnendblmdaaa.PFnJoins
open Go.RowKit Go.Proofs.YtbgpnendblmdaaaW.PrintWords Go.Proofs.YtbgpnendblmdaaaW.PrintLast Go.Proofs.YtbgpnendblmdaaaW.PrintMore
attribute [local go_sem] max2_int min2_int max_two min_two max_three min_three max_four min_four   -- for this text's walks alone
set_option linter.unusedVariables false
set_option linter.unusedSimpArgs false

/-! ### laws_FnJoins: function 3 -/
mutual
def laws_FnJoins.j0 : Nat → List (S53) → List Int → List Int → Bool → Option (Bool)
 | 0, _, _, _, _ => none
 | k + 1, x3, x4, x5, x30 => if x30 = true then (none) else (laws_FnJoins.l0 k x3 x4 x5 0)
def laws_FnJoins.l0 : Nat → List (S53) → List Int → List Int → Int → Option (Bool)
 | 0, _, _, _, _ => none
 | k + 1, x3, x4, x5, x6 => if x6 < (x4.length : Int) then (if 0 ≤ x6 then ((impl_NextOf.f k x3 (rd x4 x6)).bind fun t474 => ((impl_InsideOf.f k x3 (rd x4 x6)).bind fun t478 => (if x6 < (x5.length : Int) then ((impl_JoinOf.f k x3 (rd x4 x6)).bind fun t483 => (if (rd x5 x6) = t483 then ((laws_has.f k t478 (rd x5 x6)).bind fun t485 => (if t485 = true then (laws_FnJoins.j2 k x3 x4 x5 x6 t474 t478 true) else (if (rd x5 x6) < 0 then (laws_FnJoins.j2 k x3 x4 x5 x6 t474 t478 true) else (laws_FnJoins.j2 k x3 x4 x5 x6 t474 t478 (decide ((rd x5 x6) > (x3.length : Int))))))) else (laws_FnJoins.j2 k x3 x4 x5 x6 t474 t478 true))) else (none)))) else (none)) else (some true)
def laws_FnJoins.j2 : Nat → List (S53) → List Int → List Int → Int → List Int → List Int → Bool → Option (Bool)
 | 0, _, _, _, _, _, _, _ => none
 | k + 1, x3, x4, x5, x6, x7, x8, x83 => if x83 = true then (none) else (laws_FnJoins.l1 k x3 x4 x5 x6 x7 x8 0)
def laws_FnJoins.l1 : Nat → List (S53) → List Int → List Int → Int → List Int → List Int → Int → Option (Bool)
 | 0, _, _, _, _, _, _, _ => none
 | k + 1, x3, x4, x5, x6, x7, x8, x9 => if x9 < (x7.length : Int) then (if 0 ≤ x9 then (if 0 ≤ x6 then (if x6 < (x5.length : Int) then (if (rd x7 x9) = (rd x5 x6) then ((impl_ReachesExit.f k x3 (rd x7 x9)).bind fun t491 => (if t491 = true then ((impl_IsAfter.f k x3 (rd x7 x9) (rd x5 x6)).bind fun t494 => (if t494 = true then (laws_FnJoins.l1 k x3 x4 x5 x6 x7 x8 (wrap64 (x9 + 1))) else (none))) else (laws_FnJoins.l1 k x3 x4 x5 x6 x7 x8 (wrap64 (x9 + 1))))) else (if x6 < (x4.length : Int) then ((impl_IsInside.f k x3 (rd x4 x6) (rd x7 x9)).bind fun t497 => (if t497 = true then ((impl_ReachesExit.f k x3 (rd x7 x9)).bind fun t499 => (if t499 = true then ((impl_IsAfter.f k x3 (rd x7 x9) (rd x5 x6)).bind fun t502 => (if t502 = true then (laws_FnJoins.l1 k x3 x4 x5 x6 x7 x8 (wrap64 (x9 + 1))) else (none))) else (laws_FnJoins.l1 k x3 x4 x5 x6 x7 x8 (wrap64 (x9 + 1))))) else (none))) else (none))) else (none)) else (none)) else (none)) else (laws_FnJoins.l2 k x3 x4 x5 x6 x8 0)
def laws_FnJoins.l2 : Nat → List (S53) → List Int → List Int → Int → List Int → Int → Option (Bool)
 | 0, _, _, _, _, _, _ => none
 | k + 1, x3, x4, x5, x6, x8, x10 => if x10 < (x8.length : Int) then (if 0 ≤ x6 then (if x6 < (x4.length : Int) then ((impl_IsForward.f k x3 (rd x4 x6)).bind fun t504 => (if t504 = true then (if 0 ≤ x10 then (if (rd x8 x10) ≤ (rd x4 x6) then (none) else (if x6 < (x5.length : Int) then (if (rd x8 x10) ≥ (rd x5 x6) then (none) else (laws_FnJoins.l2 k x3 x4 x5 x6 x8 (wrap64 (x10 + 1)))) else (none))) else (none)) else (laws_FnJoins.l2 k x3 x4 x5 x6 x8 (wrap64 (x10 + 1))))) else (none)) else (none)) else (laws_FnJoins.l0 k x3 x4 x5 (wrap64 (x6 + 1)))
end
def laws_FnJoins.f (k : Nat) (l0 : List Int) : Option (Bool) := (laws_big.f l0).bind fun t459 => (if t459 = true then (some true) else ((spec_DrawWild.f k l0).bind fun t460 => ((impl_BranchesOf.f k t460).bind fun t463 => ((impl_JoinsOf.f k t460).bind fun t466 => (if (t466.length : Int) = (t463.length : Int) then ((spec_JoinsOf.f k t460).bind fun t469 => ((laws_sameInts.f k t466 t469).bind fun t472 => (laws_FnJoins.j0 k t460 t463 t466 (!t472)))) else (laws_FnJoins.j0 k t460 t463 t466 true))))))
theorem laws_FnJoins.mono_l : ∀ k, (∀ y0 y1 y2 y3, LeO (laws_FnJoins.j0 k y0 y1 y2 y3) (laws_FnJoins.j0 (k + 1) y0 y1 y2 y3)) ∧ (∀ y0 y1 y2 y3, LeO (laws_FnJoins.l0 k y0 y1 y2 y3) (laws_FnJoins.l0 (k + 1) y0 y1 y2 y3)) ∧ (∀ y0 y1 y2 y3 y4 y5 y6, LeO (laws_FnJoins.j2 k y0 y1 y2 y3 y4 y5 y6) (laws_FnJoins.j2 (k + 1) y0 y1 y2 y3 y4 y5 y6)) ∧ (∀ y0 y1 y2 y3 y4 y5 y6, LeO (laws_FnJoins.l1 k y0 y1 y2 y3 y4 y5 y6) (laws_FnJoins.l1 (k + 1) y0 y1 y2 y3 y4 y5 y6)) ∧ (∀ y0 y1 y2 y3 y4 y5, LeO (laws_FnJoins.l2 k y0 y1 y2 y3 y4 y5) (laws_FnJoins.l2 (k + 1) y0 y1 y2 y3 y4 y5))
 | 0 => ⟨fun _ _ _ _ r h => by simp [laws_FnJoins.j0] at h, fun _ _ _ _ r h => by simp [laws_FnJoins.l0] at h, fun _ _ _ _ _ _ _ r h => by simp [laws_FnJoins.j2] at h, fun _ _ _ _ _ _ _ r h => by simp [laws_FnJoins.l1] at h, fun _ _ _ _ _ _ r h => by simp [laws_FnJoins.l2] at h⟩
 | k + 1 => by
  obtain ⟨ih0, ih1, ih2, ih3, ih4⟩ := laws_FnJoins.mono_l k
  refine ⟨?_, ?_, ?_, ?_, ?_⟩
  intro y0 y1 y2 y3;unfold laws_FnJoins.j0;rotate_left
  intro y0 y1 y2 y3;unfold laws_FnJoins.l0;rotate_left
  intro y0 y1 y2 y3 y4 y5 y6;unfold laws_FnJoins.j2;rotate_left
  intro y0 y1 y2 y3 y4 y5 y6;unfold laws_FnJoins.l1;rotate_left
  intro y0 y1 y2 y3 y4 y5;unfold laws_FnJoins.l2;rotate_left
  all_goals repeat' first
  | (with_reducible exact ih0 _ _ _ _)
  | (with_reducible exact ih1 _ _ _ _)
  | (with_reducible exact ih2 _ _ _ _ _ _ _)
  | (with_reducible exact ih3 _ _ _ _ _ _ _)
  | (with_reducible exact ih4 _ _ _ _ _ _)
  | (with_reducible exact impl_BranchesOf.mono _ _)
  | (with_reducible exact impl_InsideOf.mono _ _ _)
  | (with_reducible exact impl_IsAfter.mono _ _ _ _)
  | (with_reducible exact impl_IsForward.mono _ _ _)
  | (with_reducible exact impl_IsInside.mono _ _ _ _)
  | (with_reducible exact impl_JoinOf.mono _ _ _)
  | (with_reducible exact impl_JoinsOf.mono _ _)
  | (with_reducible exact impl_NextOf.mono _ _ _)
  | (with_reducible exact impl_ReachesExit.mono _ _ _)
  | (with_reducible exact laws_has.mono _ _ _)
  | (with_reducible exact laws_sameInts.mono _ _ _)
  | (with_reducible exact spec_DrawWild.mono _ _)
  | (with_reducible exact spec_JoinsOf.mono _ _)
  | (with_reducible exact LeO.refl _)
  | (with_reducible exact LeO.none _)
  | (with_reducible refine LeO.ite ?_ ?_)
  | (with_reducible refine LeO.bind ?_ (fun _ => ?_))
  | exact ih0 _ _ _ _
  | exact ih1 _ _ _ _
  | exact ih2 _ _ _ _ _ _ _
  | exact ih3 _ _ _ _ _ _ _
  | exact ih4 _ _ _ _ _ _
  | exact impl_BranchesOf.mono _ _
  | exact impl_InsideOf.mono _ _ _
  | exact impl_IsAfter.mono _ _ _ _
  | exact impl_IsForward.mono _ _ _
  | exact impl_IsInside.mono _ _ _ _
  | exact impl_JoinOf.mono _ _ _
  | exact impl_JoinsOf.mono _ _
  | exact impl_NextOf.mono _ _ _
  | exact impl_ReachesExit.mono _ _ _
  | exact laws_has.mono _ _ _
  | exact laws_sameInts.mono _ _ _
  | exact spec_DrawWild.mono _ _
  | exact spec_JoinsOf.mono _ _
  | exact LeO.none _
  | refine LeO.ite ?_ ?_
  | refine LeO.bind ?_ (fun _ => ?_)
theorem laws_FnJoins.mono : ∀ a0 k, LeO (laws_FnJoins.f k a0) (laws_FnJoins.f (k + 1) a0) := by
 intro a0 k
 obtain ⟨ih0, ih1, ih2, ih3, ih4⟩ := laws_FnJoins.mono_l k
 unfold laws_FnJoins.f
 repeat' first
   | (with_reducible exact ih0 _ _ _ _)
   | (with_reducible exact ih1 _ _ _ _)
   | (with_reducible exact ih2 _ _ _ _ _ _ _)
   | (with_reducible exact ih3 _ _ _ _ _ _ _)
   | (with_reducible exact ih4 _ _ _ _ _ _)
   | (with_reducible exact impl_BranchesOf.mono _ _)
   | (with_reducible exact impl_InsideOf.mono _ _ _)
   | (with_reducible exact impl_IsAfter.mono _ _ _ _)
   | (with_reducible exact impl_IsForward.mono _ _ _)
   | (with_reducible exact impl_IsInside.mono _ _ _ _)
   | (with_reducible exact impl_JoinOf.mono _ _ _)
   | (with_reducible exact impl_JoinsOf.mono _ _)
   | (with_reducible exact impl_NextOf.mono _ _ _)
   | (with_reducible exact impl_ReachesExit.mono _ _ _)
   | (with_reducible exact laws_has.mono _ _ _)
   | (with_reducible exact laws_sameInts.mono _ _ _)
   | (with_reducible exact spec_DrawWild.mono _ _)
   | (with_reducible exact spec_JoinsOf.mono _ _)
   | (with_reducible exact LeO.refl _)
   | (with_reducible exact LeO.none _)
   | (with_reducible refine LeO.ite ?_ ?_)
   | (with_reducible refine LeO.bind ?_ (fun _ => ?_))
   | exact ih0 _ _ _ _
   | exact ih1 _ _ _ _
   | exact ih2 _ _ _ _ _ _ _
   | exact ih3 _ _ _ _ _ _ _
   | exact ih4 _ _ _ _ _ _
   | exact impl_BranchesOf.mono _ _
   | exact impl_InsideOf.mono _ _ _
   | exact impl_IsAfter.mono _ _ _ _
   | exact impl_IsForward.mono _ _ _
   | exact impl_IsInside.mono _ _ _ _
   | exact impl_JoinOf.mono _ _ _
   | exact impl_JoinsOf.mono _ _
   | exact impl_NextOf.mono _ _ _
   | exact impl_ReachesExit.mono _ _ _
   | exact laws_has.mono _ _ _
   | exact laws_sameInts.mono _ _ _
   | exact spec_DrawWild.mono _ _
   | exact spec_JoinsOf.mono _ _
   | exact LeO.none _
   | refine LeO.ite ?_ ?_
   | refine LeO.bind ?_ (fun _ => ?_)
def laws_FnJoins.T13 : Bool × List (List Nat × List Nat) := (true, [([], []), ([], []), ([0, 1], [0, 1]), ([2], [2]), ([], []), ([], []), ([], []), ([5, 6], [5, 6]), ([7], [7]), ([4, 8], [4, 8]), ([3, 9], [3, 9]), ([10, 9], [10]), ([11], [11]), ([11], [11]), ([11], [11]), ([13, 14, 11], [11, 13, 14]), ([15, 11], [11, 15]), ([12, 16, 11, 11], [11, 12, 16]), ([11, 17], [11, 17]), ([18, 17], [18]), ([19], [19]), ([19], [19]), ([20, 21, 19], [19, 20, 21]), ([22, 19], [19, 22]), ([23, 19], [19, 23]), ([19, 24], [19, 24]), ([25, 19], [25]), ([26], [26]), ([26], [26]), ([27, 28, 26], [26, 27, 28]), ([29, 26], [26, 29]), ([26], [26]), ([31, 26], [26, 31]), ([30, 32, 26], [26, 30, 32]), ([26, 33], [26, 33])])
def laws_FnJoins.B13 : List Nat := [0, 0, 3, 7, 0, 0, 0, 96, 224, 496, 1023, 2047, 4095, 4095, 4095, 28671, 61439, 131071, 262143, 524287, 1048575, 1048575, 4194303, 8388607, 16777215, 33554431, 67108863, 134217727, 134217727, 536870911, 1073741823, 134217727, 2281701375, 8589934591, 17179869183]
theorem laws_FnJoins.tab13 : rtab .any (opsOf Try.f3 13) = laws_FnJoins.T13 := by kernel_rfl
theorem laws_FnJoins.bits13 : waitsOk laws_FnJoins.T13.2 laws_FnJoins.B13 = true := by kernel_rfl
def laws_FnJoins.T18 : Bool × List (List Nat × List Nat) := (true, [([], []), ([], []), ([0, 1], [0, 1]), ([2], [2]), ([], []), ([], []), ([4, 5], [4, 5]), ([6], [6]), ([3, 7], [3, 7]), ([8], [8]), ([9], [9]), ([9], [9]), ([9], [9]), ([11, 12, 9], [9, 11, 12]), ([13, 9], [9, 13]), ([9], [9]), ([9], [9]), ([15, 16, 9], [9, 15, 16]), ([17, 9], [9, 17]), ([10, 14, 18, 9, 9], [9, 10, 14, 18]), ([19, 9], [9, 19]), ([9, 20], [9, 20]), ([21, 19], [21]), ([22], [22]), ([22], [22]), ([22], [22]), ([24, 25, 22], [22, 24, 25]), ([26, 22], [22, 26]), ([23, 27, 22, 22], [22, 23, 27]), ([28, 28, 22], [22, 28]), ([29], [29]), ([29], [29]), ([29], [29]), ([31, 32, 29], [29, 31, 32]), ([33, 29], [29, 33]), ([29], [29]), ([29], [29]), ([35, 36, 29], [29, 35, 36]), ([37, 29], [29, 37]), ([30, 34, 38, 29, 29], [29, 30, 34, 38]), ([39, 29], [29, 39]), ([29, 40, 22], [22, 29, 40]), ([22, 41], [22, 41])])
def laws_FnJoins.B18 : List Nat := [0, 0, 3, 7, 0, 0, 48, 112, 255, 511, 1023, 1023, 1023, 7167, 15359, 1023, 1023, 99327, 230399, 524287, 1048575, 2097151, 4194303, 8388607, 8388607, 8388607, 58720255, 125829119, 268435455, 536870911, 1073741823, 1073741823, 1073741823, 7516192767, 16106127359, 1073741823, 1073741823, 104152956927, 241591910399, 549755813887, 1099511627775, 2199023255551, 4398046511103]
theorem laws_FnJoins.tab18 : rtab .any (opsOf Try.f3 18) = laws_FnJoins.T18 := by kernel_rfl
theorem laws_FnJoins.bits18 : waitsOk laws_FnJoins.T18.2 laws_FnJoins.B18 = true := by kernel_rfl
def laws_FnJoins.T23 : Bool × List (List Nat × List Nat) := (true, [([], []), ([], []), ([], []), ([1, 2], [1, 2]), ([3], [3]), ([0, 4], [0, 4]), ([5, 5], [5]), ([6], [6]), ([6], [6]), ([7, 8, 6], [6, 7, 8]), ([9, 6], [6, 9]), ([6], [6]), ([6], [6]), ([11, 12, 6], [6, 11, 12]), ([13, 6], [6, 13]), ([10, 14, 6], [6, 10, 14]), ([15, 6, 6], [6, 15]), ([16], [16]), ([16], [16]), ([17, 18, 16], [16, 17, 18]), ([19, 16], [16, 19]), ([16], [16]), ([16], [16]), ([21, 22, 16], [16, 21, 22]), ([23, 16], [16, 23]), ([20, 24, 16], [16, 20, 24]), ([16, 25, 6], [6, 16, 25]), ([6, 26], [6, 26])])
def laws_FnJoins.B23 : List Nat := [0, 0, 0, 6, 14, 31, 63, 127, 127, 511, 1023, 127, 127, 6271, 14463, 32767, 65535, 131071, 131071, 524287, 1048575, 131071, 131071, 6422527, 14811135, 33554431, 67108863, 134217727]
theorem laws_FnJoins.tab23 : rtab .any (opsOf Try.f3 23) = laws_FnJoins.T23 := by kernel_rfl
theorem laws_FnJoins.bits23 : waitsOk laws_FnJoins.T23.2 laws_FnJoins.B23 = true := by kernel_rfl
set_option maxHeartbeats 8000000 in
set_option maxRecDepth 100000 in
theorem laws_FnJoins.calls (k : Nat) (A0 : Option Addr) (c0 : Nat) (l0 : List Int) (r : Bool) (w : World) (hr0 : Kd.C (Kd.int .u8) w A0 l0.length l0) (hc0 : l0.length ≤ c0) (h : laws_FnJoins.f k l0 = some r) :
  Calls Try.prog 3 #[.slice A0 l0.length c0] w fun e w' => e = .returned (.bool r) ∧ Below w.heap.size w w' := by
 have HR0 := Aside0.mk hr0
 have HC0 := Aside0.mk hc0
 clear hr0 hc0
 have HB := Aside0.mk (Below.refl w.heap.size w)
 have H : ((laws_big.f l0).bind fun t459 => (if t459 = true then (some true) else ((spec_DrawWild.f k l0).bind fun t460 => ((impl_BranchesOf.f k t460).bind fun t463 => ((impl_JoinsOf.f k t460).bind fun t466 => (if (t466.length : Int) = (t463.length : Int) then ((spec_JoinsOf.f k t460).bind fun t469 => ((laws_sameInts.f k t466 t469).bind fun t472 => (laws_FnJoins.j0 k t460 t463 t466 (!t472)))) else (laws_FnJoins.j0 k t460 t463 t466 true))))))) = some r := h
 clear h
 replace H := Option.bind_eq_some_iff.mp H
 obtain ⟨t459, A20, H⟩ := H
 replace H : (if t459 = true then (some true) else ((spec_DrawWild.f k l0).bind fun t460 => ((impl_BranchesOf.f k t460).bind fun t463 => ((impl_JoinsOf.f k t460).bind fun t466 => (if (t466.length : Int) = (t463.length : Int) then ((spec_JoinsOf.f k t460).bind fun t469 => ((laws_sameInts.f k t466 t469).bind fun t472 => (laws_FnJoins.j0 k t460 t463 t466 (!t472)))) else (laws_FnJoins.j0 k t460 t463 t466 true)))))) = some r := H
 have A2 := Aside0.mk A20
 clear A20
 by_cases c3 : t459 = true
 ·subst c3
  have H1 : (some true) = some r := by rw [if_pos rfl] at H; exact H
  clear H
  have H := H1
  clear H1
  as_aux_lemma =>
   obtain rfl := Option.some.inj H
   go_enter Try.func3, Try.ntmps3
   go_wp2_with (first | ((with_reducible refine gate_callee (f := 13) rfl ?_); refine gL (some 12) Try.func13 #[.slice A0 l0.length c0] ?_; (with_reducible refine (laws_big.calls _ _ l0 true _ ?side1 ?side2 A2.out).mono ?_); (case side1 => exact cS HR0.out); (case side2 => exact HC0.out); rintro e w' ⟨rfl, ⟨nd, rfl⟩⟩; refine ⟨_, rfl, ?_⟩))
   go_ret
   exact ⟨eR, bw⟩
 ·replace c3 := Bool.eq_false_iff.mpr c3
  subst c3
  have H1 : ((spec_DrawWild.f k l0).bind fun t460 => ((impl_BranchesOf.f k t460).bind fun t463 => ((impl_JoinsOf.f k t460).bind fun t466 => (if (t466.length : Int) = (t463.length : Int) then ((spec_JoinsOf.f k t460).bind fun t469 => ((laws_sameInts.f k t466 t469).bind fun t472 => (laws_FnJoins.j0 k t460 t463 t466 (!t472)))) else (laws_FnJoins.j0 k t460 t463 t466 true))))) = some r := by rw [if_neg (show ¬ (false = true) by decide)] at H; exact H
  clear H
  have H := H1
  clear H1
  replace H := Option.bind_eq_some_iff.mp H
  obtain ⟨t460, A40, H⟩ := H
  replace H : ((impl_BranchesOf.f k t460).bind fun t463 => ((impl_JoinsOf.f k t460).bind fun t466 => (if (t466.length : Int) = (t463.length : Int) then ((spec_JoinsOf.f k t460).bind fun t469 => ((laws_sameInts.f k t466 t469).bind fun t472 => (laws_FnJoins.j0 k t460 t463 t466 (!t472)))) else (laws_FnJoins.j0 k t460 t463 t466 true)))) = some r := H
  have A4 := Aside0.mk A40
  clear A40
  replace H := Option.bind_eq_some_iff.mp H
  obtain ⟨t463, A50, H⟩ := H
  replace H : ((impl_JoinsOf.f k t460).bind fun t466 => (if (t466.length : Int) = (t463.length : Int) then ((spec_JoinsOf.f k t460).bind fun t469 => ((laws_sameInts.f k t466 t469).bind fun t472 => (laws_FnJoins.j0 k t460 t463 t466 (!t472)))) else (laws_FnJoins.j0 k t460 t463 t466 true))) = some r := H
  have A5 := Aside0.mk A50
  clear A50
  replace H := Option.bind_eq_some_iff.mp H
  obtain ⟨t466, A60, H⟩ := H
  replace H : (if (t466.length : Int) = (t463.length : Int) then ((spec_JoinsOf.f k t460).bind fun t469 => ((laws_sameInts.f k t466 t469).bind fun t472 => (laws_FnJoins.j0 k t460 t463 t466 (!t472)))) else (laws_FnJoins.j0 k t460 t463 t466 true)) = some r := H
  have A6 := Aside0.mk A60
  clear A60
  have HC7 := Aside0.mk H
  clear H
  go_enter Try.func3, Try.ntmps3
  go_upto_region 6 with (first | ((with_reducible refine gate_callee (f := 13) rfl ?_); refine gL (some 12) Try.func13 #[.slice A0 l0.length c0] ?_; (with_reducible refine (laws_big.calls _ _ l0 false _ ?side1 ?side2 A2.out).mono ?_); (case side1 => exact cS HR0.out); (case side2 => exact HC0.out); rintro e w' ⟨rfl, ⟨nd, rfl⟩⟩; refine ⟨_, rfl, ?_⟩) | ((with_reducible refine gate_callee (f := 14) rfl ?_); refine gL (some 14) Try.func14 #[.slice A0 l0.length c0] ?_; (with_reducible refine (spec_DrawWild.calls k _ _ l0 t460 _ ?side1 ?side2 A4.out).mono ?_); (case side1 => exact cS HR0.out); (case side2 => exact HC0.out); rintro e w8 ⟨v461, rfl, ho0, hb⟩; refine ⟨_, rfl, ?_⟩; have HO462 := Aside0.mk (Kd.R_lower ho0 (below_size bw)); replace HB := Aside0.mk (below_step bw hb); (try clear hb); (try clear ho0); obtain ⟨Ao9, co9, eo9⟩ := Kd.R_slice HO462.out; subst eo9) | ((with_reducible refine gate_callee (f := 15) rfl ?_); refine gL (some 16) Try.func15 #[.slice Ao9 t460.length co9] ?_; (with_reducible refine (impl_BranchesOf.calls k _ _ t460 t463 _ ?side1 ?side2 A5.out).mono ?_); (case side1 => exact cS (Kd.R_reads' HO462.out).2.2); (case side2 => exact (Kd.R_reads' HO462.out).2.1); rintro e w10 ⟨v464, rfl, ho0, hb⟩; refine ⟨_, rfl, ?_⟩; replace HO462 := Aside0.mk (Kd.R_below (rS HO462.out) hb); have HO465 := Aside0.mk (Kd.R_lower ho0 (below_size bw)); replace HB := Aside0.mk (below_step bw hb); (try clear hb); (try clear ho0)) | ((with_reducible refine gate_callee (f := 16) rfl ?_); refine gL (some 18) Try.func16 #[.slice Ao9 t460.length co9] ?_; (with_reducible refine (impl_JoinsOf.calls k _ _ t460 t466 _ ?side1 ?side2 A6.out).mono ?_); (case side1 => exact cS (Kd.R_reads' HO462.out).2.2); (case side2 => exact (Kd.R_reads' HO462.out).2.1); rintro e w11 ⟨v467, rfl, ho0, hb⟩; refine ⟨_, rfl, ?_⟩; replace HO462 := Aside0.mk (Kd.R_below (rS HO462.out) hb); have HO468 := Aside0.mk (Kd.R_lower (Kd.R_new' ho0 (Kd.R_lt (rS HO465.out))) (below_size bw)); replace HO465 := Aside0.mk (Kd.R_elder' (rS HO465.out) (Kd.R_base ho0) hb); replace HB := Aside0.mk (below_step bw hb); (try clear hb); (try clear ho0)))
  (try simp only [Act.put, List.setIfInBounds_toArray, List.set_cons_zero, List.set_cons_succ])
  go_cut [30] (fun v30 wc => ∃ (kq : Nat) (x30_6 : Bool), v30 = .bool x30_6 ∧ Aside0 (laws_FnJoins.j0 kq t460 t463 t466 x30_6 = some r) ∧ Aside0 (kq ≤ k) ∧ Aside0 (Kd.R k53 53 wc w.heap.size (fun _ => True) (.slice Ao9 t460.length co9) t460) ∧ Aside0 (Kd.R (Kd.int .i64) 3 wc w.heap.size (fun k_ => some k_ ≠ (v467 : Value).ownBlock) v464 t463) ∧ Aside0 (Kd.R (Kd.int .i64) 3 wc w.heap.size (fun k_ => some k_ ≠ (v464 : Value).ownBlock) v467 t466) ∧ Aside0 (Below w.heap.size w wc))
  case first =>
   have H := HC7.out
   clear HC7
   by_cases c12 : (t466.length : Int) = (t463.length : Int)
   ·rw [if_pos c12] at H
    have c12b0 : ((t466.length : Int) == (t463.length : Int)) = true := beq_iff_eq.mpr c12
    have c12b1 : ((t466.length : Int) != (t463.length : Int)) = false := bne_eq_false_iff_eq.mpr c12
    have c12b2 : (t466.length == t463.length) = true := by first | simpa using c12 | (simp at c12 ⊢; omega)
    clear c12
    (first | rw [c12b0] | (simp only [i64_w, i32_w]; rw [c12b0]) | skip)
    replace H := Option.bind_eq_some_iff.mp H
    obtain ⟨t469, A130, H⟩ := H
    replace H : ((laws_sameInts.f k t466 t469).bind fun t472 => (laws_FnJoins.j0 k t460 t463 t466 (!t472))) = some r := H
    have A13 := Aside0.mk A130
    clear A130
    replace H := Option.bind_eq_some_iff.mp H
    obtain ⟨t472, A140, H⟩ := H
    replace H : (laws_FnJoins.j0 k t460 t463 t466 (!t472)) = some r := H
    have A14 := Aside0.mk A140
    clear A140
    as_aux_lemma =>
     have H' := Aside0.mk H
     clear H
     obtain ⟨Ao15, co15, eo15⟩ := Kd.R_slice HO468.out
     subst eo15
     obtain ⟨Ao16, co16, eo16⟩ := Kd.R_slice HO465.out
     subst eo16
     go_wp2_with (first | (go_at_call 18; (with_reducible refine (spec_JoinsOf.calls k _ _ t460 t469 _ ?side1 ?side2 A13.out).mono ?_); (case side1 => exact cS (Kd.R_reads' HO462.out).2.2); (case side2 => exact (Kd.R_reads' HO462.out).2.1); rintro e w17 ⟨v470, rfl, ho0, hb⟩; replace HO462 := Aside0.mk (Kd.R_below (rS HO462.out) hb); have HO471 := Aside0.mk (Kd.R_lower (Kd.R_new' (Kd.R_new' ho0 (Kd.R_lt (rS HO465.out))) (Kd.R_lt (rS HO468.out))) (below_size bw)); replace HO465 := Aside0.mk (Kd.R_elder' (rS HO465.out) (Kd.R_base ho0) hb); replace HO468 := Aside0.mk (Kd.R_elder' (rS HO468.out) (Kd.R_base ho0) hb); replace HB := Aside0.mk (below_step bw hb); (try clear hb); (try clear ho0); obtain ⟨Ao18, co18, eo18⟩ := Kd.R_slice HO471.out; subst eo18) | (go_at_call 17; (with_reducible refine (laws_sameInts.calls k _ _ t466 _ _ t469 t472 _ ?side1 ?side2 ?side3 ?side4 A14.out).mono ?_); (case side1 => exact cS (Kd.R_reads' HO468.out).2.2); (case side2 => exact (Kd.R_reads' HO468.out).2.1); (case side3 => exact cS (Kd.R_reads' HO471.out).2.2); (case side4 => exact (Kd.R_reads' HO471.out).2.1); rintro e w' ⟨rfl, ⟨nd, rfl⟩⟩))
     go_meet
     case rel => exact ⟨_, (!t472), tR, H', ⟨by first | omega | exact Nat.le_refl _⟩, ⟨rS HO462.out⟩, ⟨by (with_reducible repeat (first | apply Kd.R_alloc | apply Kd.R_drewN | apply Kd.R_drew)); exact Kd.R_mono HO465.out (fun _ hk => hk.1.2)⟩, ⟨by (with_reducible repeat (first | apply Kd.R_alloc | apply Kd.R_drewN | apply Kd.R_drew)); exact Kd.R_mono HO468.out (fun _ hk => hk.1.2)⟩, ⟨bw⟩⟩
   ·rw [if_neg c12] at H
    have c12b0 : ((t466.length : Int) == (t463.length : Int)) = false := beq_eq_false_iff_ne.mpr c12
    have c12b1 : ((t466.length : Int) != (t463.length : Int)) = true := bne_iff_ne.mpr c12
    have c12b2 : (t466.length == t463.length) = false := by first | simpa using c12 | (simp at c12 ⊢; omega)
    (first | rw [c12b0] | (simp only [i64_w, i32_w]; rw [c12b0]) | skip)
    as_aux_lemma =>
     have H' := Aside0.mk H
     clear H
     obtain ⟨Ao19, co19, eo19⟩ := Kd.R_slice HO468.out
     subst eo19
     obtain ⟨Ao20, co20, eo20⟩ := Kd.R_slice HO465.out
     subst eo20
     go_wp2
     go_meet
     case rel => exact ⟨_, (true), tR, H', ⟨by first | omega | exact Nat.le_refl _⟩, ⟨rS HO462.out⟩, ⟨by (with_reducible repeat (first | apply Kd.R_alloc | apply Kd.R_drewN | apply Kd.R_drew)); exact Kd.R_mono HO465.out (fun _ hk => hk.2)⟩, ⟨by (with_reducible repeat (first | apply Kd.R_alloc | apply Kd.R_drewN | apply Kd.R_drew)); exact Kd.R_mono HO468.out (fun _ hk => hk.2)⟩, ⟨bw⟩⟩
  case rest =>
   clear HC7
   try clear c1;try clear p2;try clear c3;try clear c12;try clear c12b0;try clear c12b1;try clear c12b2;try clear c13;try clear c14;try clear c15;try clear c16
   obtain ⟨kq, x30_6, rfl, HA, HJ6, HO_3, HO_4, HO_5, HB⟩ := hcut
   cases kq with
   | zero => exact absurd HA.out (by simp [laws_FnJoins.j0])
   | succ kj6 =>
    have H := HA.out
    clear HA
    simp only [laws_FnJoins.j0] at H
    by_cases c21 : x30_6 = true
    ·subst c21
     have H1 : (none) = some r := by rw [if_pos rfl] at H; exact H
     clear H
     have H := H1
     clear H1
     exact absurd H (by simp)
    ·replace c21 := Bool.eq_false_iff.mpr c21
     subst c21
     have H1 : (laws_FnJoins.l0 kj6 t460 t463 t466 0) = some r := by rw [if_neg (show ¬ (false = true) by decide)] at H; exact H
     clear H
     have H := H1
     clear H1
     have H' := Aside0.mk H
     clear H
     go_wp2
     go_loopg [6] kj6 (fun kq v6 w' => ∃ (x6_2 : Int), v6 = .int .i64 x6_2 ∧ Aside0 (laws_FnJoins.l0 kq t460 t463 t466 x6_2 = some r) ∧ Aside0 (kq ≤ kj6) ∧ Aside0 (Kd.R k53 53 w' w.heap.size (fun _ => True) (.slice Ao9 t460.length co9) t460) ∧ Aside0 (Kd.R (Kd.int .i64) 3 w' w.heap.size (fun k_ => some k_ ≠ (v467 : Value).ownBlock) v464 t463) ∧ Aside0 (Kd.R (Kd.int .i64) 3 w' w.heap.size (fun k_ => some k_ ≠ (v464 : Value).ownBlock) v467 t466) ∧ Aside0 (Below w.heap.size w w'))
     case atStart => exact ⟨(0), tR, H', ⟨Nat.le_refl _⟩, ⟨rS HO_3.out⟩, ⟨rS HO_4.out⟩, ⟨rS HO_5.out⟩, ⟨bw⟩⟩
     case round =>
      clear H'
      try clear c1;try clear c2;try clear p2;try clear c3;try clear c12;try clear c12b0;try clear c12b1;try clear c12b2;try clear c13;try clear c14;try clear c15;try clear c16;try clear c21;try clear p2
      obtain ⟨x6_2, rfl, HA, HK2, HO_3, HO_4, HO_5, HB⟩ := hrel
      cases gk with
      | zero => exact absurd HA.out (by simp [laws_FnJoins.l0])
      | succ k2 =>
       have H := HA.out
       clear HA
       simp only [laws_FnJoins.l0] at H
       by_cases c22 : x6_2 < (t463.length : Int)
       ·rw [if_pos c22] at H
        have c22b0 : decide (x6_2 < (t463.length : Int)) = true := decide_eq_true c22
        clear c22
        by_cases c23 : 0 ≤ x6_2
        ·rw [if_pos c23] at H
         have c23b0 : decide (0 ≤ x6_2) = true := decide_eq_true c23
         clear c23
         replace H := Option.bind_eq_some_iff.mp H
         obtain ⟨t474, A240, H⟩ := H
         replace H : ((impl_InsideOf.f k2 t460 (rd t463 x6_2)).bind fun t478 => (if x6_2 < (t466.length : Int) then ((impl_JoinOf.f k2 t460 (rd t463 x6_2)).bind fun t483 => (if (rd t466 x6_2) = t483 then ((laws_has.f k2 t478 (rd t466 x6_2)).bind fun t485 => (if t485 = true then (laws_FnJoins.j2 k2 t460 t463 t466 x6_2 t474 t478 true) else (if (rd t466 x6_2) < 0 then (laws_FnJoins.j2 k2 t460 t463 t466 x6_2 t474 t478 true) else (laws_FnJoins.j2 k2 t460 t463 t466 x6_2 t474 t478 (decide ((rd t466 x6_2) > (t460.length : Int))))))) else (laws_FnJoins.j2 k2 t460 t463 t466 x6_2 t474 t478 true))) else (none))) = some r := H
         have A24 := Aside0.mk A240
         clear A240
         replace H := Option.bind_eq_some_iff.mp H
         obtain ⟨t478, A250, H⟩ := H
         replace H : (if x6_2 < (t466.length : Int) then ((impl_JoinOf.f k2 t460 (rd t463 x6_2)).bind fun t483 => (if (rd t466 x6_2) = t483 then ((laws_has.f k2 t478 (rd t466 x6_2)).bind fun t485 => (if t485 = true then (laws_FnJoins.j2 k2 t460 t463 t466 x6_2 t474 t478 true) else (if (rd t466 x6_2) < 0 then (laws_FnJoins.j2 k2 t460 t463 t466 x6_2 t474 t478 true) else (laws_FnJoins.j2 k2 t460 t463 t466 x6_2 t474 t478 (decide ((rd t466 x6_2) > (t460.length : Int))))))) else (laws_FnJoins.j2 k2 t460 t463 t466 x6_2 t474 t478 true))) else (none)) = some r := H
         have A25 := Aside0.mk A250
         clear A250
         have HC26 := Aside0.mk H
         clear H
         obtain ⟨Ao27, co27, eo27⟩ := Kd.R_slice HO_4.out
         subst eo27
         have p473 : 0 ≤ (x6_2 : Int) := dT
         have q473 : x6_2 < (t463.length : Int) := dT
         try (obtain ⟨AoZ473, coZ473, eoZ473⟩ := Kd.R_slice HO_4.out; subst eoZ473)
         obtain ⟨ad473, e473, hx473_0⟩ := Kd.at_int (Kd.R_reads' HO_4.out).2.2 x6_2 p473 q473
         cases e473
         replace p473 := eq_true p473
         replace q473 := eq_true q473
         go_upto_region 13 with (first | ((with_reducible refine gate_callee (f := 19) rfl ?_); refine gL (some 42) Try.func19 #[.slice Ao9 t460.length co9, .int .i64 (rd t463 x6_2)] ?_; (with_reducible refine (impl_NextOf.calls k2 _ _ t460 (rd t463 x6_2) t474 _ ?side1 ?side2 A24.out).mono ?_); (case side1 => exact cS (Kd.R_reads' HO_3.out).2.2); (case side2 => exact (Kd.R_reads' HO_3.out).2.1); rintro e w28 ⟨v475, rfl, ho0, hb⟩; refine ⟨_, rfl, ?_⟩; replace HO_3 := Aside0.mk (Kd.R_below (rS HO_3.out) hb); have HO476 := Aside0.mk (Kd.R_lower (Kd.R_new' (Kd.R_new' ho0 (Kd.R_lt (rS HO_4.out))) (Kd.R_lt (rS HO_5.out))) (below_size bw)); replace HO_4 := Aside0.mk (Kd.R_elder' (rS HO_4.out) (Kd.R_base ho0) hb); replace HO_5 := Aside0.mk (Kd.R_elder' (rS HO_5.out) (Kd.R_base ho0) hb); replace HB := Aside0.mk (below_step bw hb); (try clear hb); (try clear ho0); have p477 : 0 ≤ (x6_2 : Int) := dT; have q477 : x6_2 < (t463.length : Int) := dT; obtain ⟨ad477, e477, hx477_0⟩ := Kd.at_int (Kd.R_reads' HO_4.out).2.2 x6_2 p477 q477; obtain rfl : ad473 = ad477 := (by injection e477); replace p477 := eq_true p477; replace q477 := eq_true q477) | ((with_reducible refine gate_callee (f := 20) rfl ?_); refine gL (some 48) Try.func20 #[.slice Ao9 t460.length co9, .int .i64 (rd t463 x6_2)] ?_; (with_reducible refine (impl_InsideOf.calls k2 _ _ t460 (rd t463 x6_2) t478 _ ?side1 ?side2 A25.out).mono ?_); (case side1 => exact cS (Kd.R_reads' HO_3.out).2.2); (case side2 => exact (Kd.R_reads' HO_3.out).2.1); rintro e w29 ⟨v479, rfl, ho0, hb⟩; refine ⟨_, rfl, ?_⟩; replace HO_3 := Aside0.mk (Kd.R_below (rS HO_3.out) hb); have HO480 := Aside0.mk (Kd.R_lower (Kd.R_new' (Kd.R_new' (Kd.R_new' ho0 (Kd.R_lt (rS HO_4.out))) (Kd.R_lt (rS HO_5.out))) (Kd.R_lt (rS HO476.out))) (below_size bw)); replace HO_4 := Aside0.mk (Kd.R_elder' (rS HO_4.out) (Kd.R_base ho0) hb); replace HO_5 := Aside0.mk (Kd.R_elder' (rS HO_5.out) (Kd.R_base ho0) hb); replace HO476 := Aside0.mk (Kd.R_elder' (rS HO476.out) (Kd.R_base ho0) hb); replace HB := Aside0.mk (below_step bw hb); (try clear hb); (try clear ho0)))
         (try simp only [Act.put, List.setIfInBounds_toArray, List.set_cons_zero, List.set_cons_succ])
         go_cut [83] (fun v83 wc => ∃ (kq : Nat) (x83_25 : Bool), v83 = .bool x83_25 ∧ Aside0 (laws_FnJoins.j2 kq t460 t463 t466 x6_2 t474 t478 x83_25 = some r) ∧ Aside0 (kq ≤ k2) ∧ Aside0 (Kd.R k53 53 wc w.heap.size (fun _ => True) (.slice Ao9 t460.length co9) t460) ∧ Aside0 (Kd.R (Kd.int .i64) 3 wc w.heap.size (fun k_ => some k_ ≠ (v467 : Value).ownBlock ∧ some k_ ≠ (v475 : Value).ownBlock ∧ some k_ ≠ (v479 : Value).ownBlock) (.slice (some ad473) t463.length co27) t463) ∧ Aside0 (Kd.R (Kd.int .i64) 3 wc w.heap.size (fun k_ => some k_ ≠ ((.slice (some ad473) t463.length co27) : Value).ownBlock ∧ some k_ ≠ (v475 : Value).ownBlock ∧ some k_ ≠ (v479 : Value).ownBlock) v467 t466) ∧ Aside0 (Kd.R (Kd.int .i64) 3 wc w.heap.size (fun k_ => some k_ ≠ ((.slice (some ad473) t463.length co27) : Value).ownBlock ∧ some k_ ≠ (v467 : Value).ownBlock ∧ some k_ ≠ (v479 : Value).ownBlock) v475 t474) ∧ Aside0 (Kd.R (Kd.int .i64) 3 wc w.heap.size (fun k_ => some k_ ≠ ((.slice (some ad473) t463.length co27) : Value).ownBlock ∧ some k_ ≠ (v467 : Value).ownBlock ∧ some k_ ≠ (v475 : Value).ownBlock) v479 t478) ∧ Aside0 (Below w.heap.size w wc))
         case first =>
          have H := HC26.out
          clear HC26
          by_cases c30 : x6_2 < (t466.length : Int)
          ·rw [if_pos c30] at H
           have c30b0 : decide (x6_2 < (t466.length : Int)) = true := decide_eq_true c30
           clear c30
           (first | rw [c30b0] | (simp only [i64_w, i32_w]; rw [c30b0]) | skip)
           replace H := Option.bind_eq_some_iff.mp H
           obtain ⟨t483, A310, H⟩ := H
           replace H : (if (rd t466 x6_2) = t483 then ((laws_has.f k2 t478 (rd t466 x6_2)).bind fun t485 => (if t485 = true then (laws_FnJoins.j2 k2 t460 t463 t466 x6_2 t474 t478 true) else (if (rd t466 x6_2) < 0 then (laws_FnJoins.j2 k2 t460 t463 t466 x6_2 t474 t478 true) else (laws_FnJoins.j2 k2 t460 t463 t466 x6_2 t474 t478 (decide ((rd t466 x6_2) > (t460.length : Int))))))) else (laws_FnJoins.j2 k2 t460 t463 t466 x6_2 t474 t478 true)) = some r := H
           have A31 := Aside0.mk A310
           clear A310
           by_cases c32 : (rd t466 x6_2) = t483
           ·rw [if_pos c32] at H
            have c32b0 : ((rd t466 x6_2) == t483) = true := beq_iff_eq.mpr c32
            have c32b1 : ((rd t466 x6_2) != t483) = false := bne_eq_false_iff_eq.mpr c32
            clear c32
            replace H := Option.bind_eq_some_iff.mp H
            obtain ⟨t485, A330, H⟩ := H
            replace H : (if t485 = true then (laws_FnJoins.j2 k2 t460 t463 t466 x6_2 t474 t478 true) else (if (rd t466 x6_2) < 0 then (laws_FnJoins.j2 k2 t460 t463 t466 x6_2 t474 t478 true) else (laws_FnJoins.j2 k2 t460 t463 t466 x6_2 t474 t478 (decide ((rd t466 x6_2) > (t460.length : Int)))))) = some r := H
            have A33 := Aside0.mk A330
            clear A330
            by_cases c34 : t485 = true
            ·subst c34
             have H1 : (laws_FnJoins.j2 k2 t460 t463 t466 x6_2 t474 t478 true) = some r := by rw [if_pos rfl] at H; exact H
             clear H
             have H := H1
             clear H1
             as_aux_lemma =>
              have H' := Aside0.mk H
              clear H
              try go_wp2
              replace HO_3 := Aside0.mk (Kd.R_drew HO_3.out)
              replace HO_4 := Aside0.mk (Kd.R_drew HO_4.out)
              replace HO_5 := Aside0.mk (Kd.R_drew HO_5.out)
              replace HO476 := Aside0.mk (Kd.R_drew HO476.out)
              replace HO480 := Aside0.mk (Kd.R_drew HO480.out)
              replace HB := Aside0.mk (below_drew1 HB.out)
              obtain ⟨Ao36, co36, eo36⟩ := Kd.R_slice HO_5.out
              (first | subst eo36 | (injection eo36 with f1_ f2_ f3_; have f4_ := f1_.symm; have f5_ := f3_.symm; clear f1_ f2_ f3_; subst f4_; subst f5_))
              have p481 : 0 ≤ (x6_2 : Int) := dT
              have q481 : x6_2 < (t466.length : Int) := dT
              try (obtain ⟨AoZ481, coZ481, eoZ481⟩ := Kd.R_slice HO_5.out; subst eoZ481)
              obtain ⟨ad481, e481, hx481_0⟩ := Kd.at_int (Kd.R_reads' HO_5.out).2.2 x6_2 p481 q481
              cases e481
              replace p481 := eq_true p481
              replace q481 := eq_true q481
              have p482 : 0 ≤ (x6_2 : Int) := dT
              have q482 : x6_2 < (t463.length : Int) := dT
              try (obtain ⟨AoZ482, coZ482, eoZ482⟩ := Kd.R_slice HO_4.out; subst eoZ482)
              obtain ⟨ad482, e482, hx482_0⟩ := Kd.at_int (Kd.R_reads' HO_4.out).2.2 x6_2 p482 q482
              obtain rfl : ad473 = ad482 := (by injection e482)
              replace p482 := eq_true p482
              replace q482 := eq_true q482
              have p484 : 0 ≤ (x6_2 : Int) := dT
              have q484 : x6_2 < (t466.length : Int) := dT
              try (obtain ⟨AoZ484, coZ484, eoZ484⟩ := Kd.R_slice HO_5.out; subst eoZ484)
              obtain ⟨ad484, e484, hx484_0⟩ := Kd.at_int (Kd.R_reads' HO_5.out).2.2 x6_2 p484 q484
              obtain rfl : ad481 = ad484 := (by injection e484)
              replace p484 := eq_true p484
              replace q484 := eq_true q484
              refine start_ (n := 35) (S := fun w' => w'.cell? (ad481.add (x6_2).toNat) = some (.int .i64 (rd t466 x6_2)) ∧ w'.cell? (ad473.add (x6_2).toNat) = some (.int .i64 (rd t463 x6_2)) ∧ w'.cell? (ad481.add (x6_2).toNat) = some (.int .i64 (rd t466 x6_2))) (ds := []) #[false,false,false,false,false,false,false,false,false,false,false,false,false,false,false,false,false,false,false,false,false,false,false,false,false,false,false,false,false,false,false,false,false,false,false] (by kernel_rfl) rfl rfl ⟨hx481_0, hx482_0, hx484_0⟩ (fun hHeld => ?_); refine with_tabW laws_FnJoins.tab13 laws_FnJoins.bits13 (fun HT_ HW_ => ?_)
              generalize w29.drew = w35 at HO_3 HO_4 HO_5 HO476 HO480 HB hx481_0 hx482_0 hx484_0 hHeld ⊢
              refine pU 0 49 (v := ?_) (a' := ?_) #[Y,Z,Z,Z,Z,Z,Z,Z,Z,Z,Z,Z,Z,Z,Z,Z,Z,Z,Z,Z,Z,Z,Z,Z,Z,Z,Z,Z,Z,Z,Z,Z,Z,Z,Z] HT_ rfl rfl (by kernel_rfl) ?_ ?_ ?_;rotate_left;(intro w';go_simp;with_reducible rfl);rotate_left;(simp only [Act.put, sA, s0, sN, i64_w, i32_w];rfl)
              refine pU 1 50 (v := ?_) (a' := ?_) #[Y,Y,Z,Z,Z,Z,Z,Z,Z,Z,Z,Z,Z,Z,Z,Z,Z,Z,Z,Z,Z,Z,Z,Z,Z,Z,Z,Z,Z,Z,Z,Z,Z,Z,Z] HT_ rfl rfl (by kernel_rfl) ?_ ?_ ?_;rotate_left;(intro w';go_simp;with_reducible rfl);rotate_left;(simp only [Act.put, sA, s0, sN, i64_w, i32_w];rfl)
              refine pU 2 51 (v := ?_) (a' := ?_) #[Y,Y,Y,Z,Z,Z,Z,Z,Z,Z,Z,Z,Z,Z,Z,Z,Z,Z,Z,Z,Z,Z,Z,Z,Z,Z,Z,Z,Z,Z,Z,Z,Z,Z,Z] HT_ rfl rfl (by kernel_rfl) ?_ ?_ ?_;rotate_left;(intro w';go_simp;with_reducible rfl);rotate_left;(simp only [Act.put, sA, s0, sN, i64_w, i32_w];rfl)
              refine pU 4 53 (v := ?_) (a' := ?_) #[Y,Y,Y,Z,Y,Z,Z,Z,Z,Z,Z,Z,Z,Z,Z,Z,Z,Z,Z,Z,Z,Z,Z,Z,Z,Z,Z,Z,Z,Z,Z,Z,Z,Z,Z] HT_ rfl rfl (by kernel_rfl) ?_ ?_ ?_;rotate_left;(intro w';go_simp;with_reducible rfl);rotate_left;(simp only [Act.put, sA, s0, sN, i64_w, i32_w];rfl)
              refine pU 5 54 (v := ?_) (a' := ?_) #[Y,Y,Y,Z,Y,Y,Z,Z,Z,Z,Z,Z,Z,Z,Z,Z,Z,Z,Z,Z,Z,Z,Z,Z,Z,Z,Z,Z,Z,Z,Z,Z,Z,Z,Z] HT_ rfl rfl (by kernel_rfl) ?_ ?_ ?_;rotate_left;(intro w';go_simp;with_reducible rfl);rotate_left;(simp only [Act.put, sA, s0, sN, i64_w, i32_w];rfl)
              refine pU 6 55 (v := ?_) (a' := ?_) #[Y,Y,Y,Z,Y,Y,Y,Z,Z,Z,Z,Z,Z,Z,Z,Z,Z,Z,Z,Z,Z,Z,Z,Z,Z,Z,Z,Z,Z,Z,Z,Z,Z,Z,Z] HT_ rfl rfl (by kernel_rfl) ?_ ?_ ?_;rotate_left;(intro w';go_simp;with_reducible rfl);rotate_left;(simp only [Act.put, sA, s0, sN, i64_w, i32_w];rfl)
              refine pU 7 56 (v := ?_) (a' := ?_) #[Y,Y,Y,Z,Y,Y,Y,Y,Z,Z,Z,Z,Z,Z,Z,Z,Z,Z,Z,Z,Z,Z,Z,Z,Z,Z,Z,Z,Z,Z,Z,Z,Z,Z,Z] HT_ rfl rfl (by kernel_rfl) ?_ ?_ ?_;rotate_left;(intro w';go_simp;with_reducible rfl);rotate_left;(simp only [Act.put, sA, s0, sN, i64_w, i32_w];rfl)
              refine take_ (i := 3) (N := some 52) (v := ?_) (a' := ?_) #[Y,Y,Y,Y,Y,Y,Y,Y,Z,Z,Z,Z,Z,Z,Z,Z,Z,Z,Z,Z,Z,Z,Z,Z,Z,Z,Z,Z,Z,Z,Z,Z,Z,Z,Z] rfl rfl (take_ofW HT_.out HW_.out (by kernel_rfl)) (fun _ _ _ h => h) (Or.inl ⟨by rfl, ?_⟩) hHeld ?_ ?_
              rotate_left
              ·rintro w' ⟨s0, s1, s2⟩
               go_simp
               with_reducible rfl
              rotate_left
              ·simp only [Act.put, sA, s0, sN, i64_w, i32_w]
               rfl
              refine take_ (i := 8) (N := some 57) (v := ?_) (a' := ?_) #[Y,Y,Y,Y,Y,Y,Y,Y,Y,Z,Z,Z,Z,Z,Z,Z,Z,Z,Z,Z,Z,Z,Z,Z,Z,Z,Z,Z,Z,Z,Z,Z,Z,Z,Z] rfl rfl (take_ofW HT_.out HW_.out (by kernel_rfl)) (fun _ _ _ h => h) (Or.inl ⟨by rfl, ?_⟩) hHeld ?_ ?_
              rotate_left
              ·rintro w' ⟨s0, s1, s2⟩
               go_simp
               with_reducible rfl
              rotate_left
              ·simp only [Act.put, sA, s0, sN, i64_w, i32_w]
               rfl
              refine one_ (i := 9) (N := some 58) #[Y,Y,Y,Y,Y,Y,Y,Y,Y,Y,Z,Z,Z,Z,Z,Z,Z,Z,Z,Z,Z,Z,Z,Z,Z,Z,Z,Z,Z,Z,Z,Z,Z,Z,Z] rfl rfl (one_of HT_.out (by kernel_rfl)) (by decide) (fun K hK => ?_)
              refine goes_ Try.func21 (by kernel_rfl) rfl #[.slice Ao9 t460.length co9, .int .i64 (rd t463 x6_2)] (by rfl) rfl rfl bz ?_
              with_reducible refine (impl_JoinOf.calls k2 _ _ t460 (rd t463 x6_2) t483 _ ?side1 ?side2 A31.out).mono ?_
              (case side1 => exact cS (Kd.R_reads' HO_3.out).2.2)
              (case side2 => exact (Kd.R_reads' HO_3.out).2.1)
              rintro e w37 ⟨rfl, hb⟩
              have HS0_ := (hb.cell (World.block_lt_of_cell? _ _ (hHeld.1))).trans (hHeld.1)
              have HS1_ := (hb.cell (World.block_lt_of_cell? _ _ (hHeld.2.1))).trans (hHeld.2.1)
              have HS2_ := (hb.cell (World.block_lt_of_cell? _ _ (hHeld.2.2))).trans (hHeld.2.2)
              refine ⟨_, rfl, ?_⟩
              replace HO_3 := Aside0.mk (Kd.R_below (rS HO_3.out) hb)
              replace HO_4 := Aside0.mk (Kd.R_below (rS HO_4.out) hb)
              replace HO_5 := Aside0.mk (Kd.R_below (rS HO_5.out) hb)
              replace HO476 := Aside0.mk (Kd.R_below (rS HO476.out) hb)
              replace HO480 := Aside0.mk (Kd.R_below (rS HO480.out) hb)
              replace HB := Aside0.mk (below_step bw hb)
              (try clear hb)
              (try clear hb2)
              (try clear hk)
              (try clear hi)
              obtain ⟨Ao38, co38, eo38⟩ := Kd.R_slice HO480.out
              (first | subst eo38 | (injection eo38 with f1_ f2_ f3_; have f4_ := f1_.symm; have f5_ := f3_.symm; clear f1_ f2_ f3_; subst f4_; subst f5_))
              refine hK.out _ _ ⟨HS0_, HS1_, HS2_⟩ (fun hHeld => ?_)
              clear hK K
              refine norm_ (a' := ?_) ?_ ?_
              rotate_left
              ·show Act.put _ (some 58) _ = _
               simp only [Act.put, sA, s0, sN, i64_w, i32_w]
               rfl
              refine pU 10 59 (v := ?_) (a' := ?_) #[Y,Y,Y,Y,Y,Y,Y,Y,Y,Y,Y,Z,Z,Z,Z,Z,Z,Z,Z,Z,Z,Z,Z,Z,Z,Z,Z,Z,Z,Z,Z,Z,Z,Z,Z] HT_ rfl rfl (by kernel_rfl) ?_ ?_ ?_;rotate_left;(intro w';go_simp;with_reducible rfl);rotate_left;(simp only [Act.put, sA, s0, sN, i64_w, i32_w];rfl)
              refine pU 11 60 (v := ?_) (a' := ?_) #[Y,Y,Y,Y,Y,Y,Y,Y,Y,Y,Y,Y,Z,Z,Z,Z,Z,Z,Z,Z,Z,Z,Z,Z,Z,Z,Z,Z,Z,Z,Z,Z,Z,Z,Z] HT_ rfl rfl (by kernel_rfl) ?_ ?_ ?_;rotate_left;(intro w';go_simp;with_reducible rfl);rotate_left;(simp only [Act.put, sA, s0, sN, i64_w, i32_w];rfl)
              refine pU 12 61 (v := ?_) (a' := ?_) #[Y,Y,Y,Y,Y,Y,Y,Y,Y,Y,Y,Y,Y,Z,Z,Z,Z,Z,Z,Z,Z,Z,Z,Z,Z,Z,Z,Z,Z,Z,Z,Z,Z,Z,Z] HT_ rfl rfl (by kernel_rfl) ?_ ?_ ?_;rotate_left;(intro w';go_simp;with_reducible rfl);rotate_left;(simp only [Act.put, sA, s0, sN, i64_w, i32_w];rfl)
              refine pU 13 62 (v := ?_) (a' := ?_) #[Y,Y,Y,Y,Y,Y,Y,Y,Y,Y,Y,Y,Y,Y,Z,Z,Z,Z,Z,Z,Z,Z,Z,Z,Z,Z,Z,Z,Z,Z,Z,Z,Z,Z,Z] HT_ rfl rfl (by kernel_rfl) ?_ ?_ ?_;rotate_left;(intro w';go_simp;with_reducible rfl);rotate_left;(simp only [Act.put, sA, s0, sN, i64_w, i32_w];rfl)
              refine pU 14 63 (v := ?_) (a' := ?_) #[Y,Y,Y,Y,Y,Y,Y,Y,Y,Y,Y,Y,Y,Y,Y,Z,Z,Z,Z,Z,Z,Z,Z,Z,Z,Z,Z,Z,Z,Z,Z,Z,Z,Z,Z] HT_ rfl rfl (by kernel_rfl) ?_ ?_ ?_;rotate_left;(intro w';go_simp;with_reducible rfl);rotate_left;(simp only [Act.put, sA, s0, sN, i64_w, i32_w];rfl)
              refine pU 15 64 (v := ?_) (a' := ?_) #[Y,Y,Y,Y,Y,Y,Y,Y,Y,Y,Y,Y,Y,Y,Y,Y,Z,Z,Z,Z,Z,Z,Z,Z,Z,Z,Z,Z,Z,Z,Z,Z,Z,Z,Z] HT_ rfl rfl (by kernel_rfl) ?_ ?_ ?_;rotate_left;(intro w';go_simp;with_reducible rfl);rotate_left;(simp only [Act.put, sA, s0, sN, i64_w, i32_w];rfl)
              refine take_ (i := 16) (N := some 65) (v := ?_) (a' := ?_) #[Y,Y,Y,Y,Y,Y,Y,Y,Y,Y,Y,Y,Y,Y,Y,Y,Y,Z,Z,Z,Z,Z,Z,Z,Z,Z,Z,Z,Z,Z,Z,Z,Z,Z,Z] rfl rfl (take_ofW HT_.out HW_.out (by kernel_rfl)) (fun _ _ _ h => h) (Or.inl ⟨by rfl, ?_⟩) hHeld ?_ ?_
              rotate_left
              ·rintro w' ⟨s0, s1, s2⟩
               go_simp
               with_reducible rfl
              rotate_left
              ·simp only [Act.put, sA, s0, sN, i64_w, i32_w]
               rfl
              refine one_ (i := 17) (N := some 66) #[Y,Y,Y,Y,Y,Y,Y,Y,Y,Y,Y,Y,Y,Y,Y,Y,Y,Y,Z,Z,Z,Z,Z,Z,Z,Z,Z,Z,Z,Z,Z,Z,Z,Z,Z] rfl rfl (one_of HT_.out (by kernel_rfl)) (by decide) (fun K hK => ?_)
              refine goes_ Try.func22 (by kernel_rfl) rfl #[.slice Ao38 t478.length co38, .int .i64 (rd t466 x6_2)] (by rfl) rfl rfl bz ?_
              with_reducible refine (laws_has.calls k2 _ _ t478 (rd t466 x6_2) true _ ?side1 ?side2 A33.out).mono ?_
              (case side1 => exact cS (Kd.R_reads' HO480.out).2.2)
              (case side2 => exact (Kd.R_reads' HO480.out).2.1)
              rintro e w' ⟨rfl, ⟨nd, rfl⟩⟩
              refine ⟨_, rfl, ?_⟩
              refine hK.out _ _ ⟨hHeld.1, hHeld.2.1, hHeld.2.2⟩ (fun hHeld => ?_)
              clear hK K
              refine norm_ (a' := ?_) ?_ ?_
              rotate_left
              ·show Act.put _ (some 66) _ = _
               simp only [Act.put, sA, s0, sN, i64_w, i32_w]
               rfl
              refine pU 18 67 (v := ?_) (a' := ?_) #[Y,Y,Y,Y,Y,Y,Y,Y,Y,Y,Y,Y,Y,Y,Y,Y,Y,Y,Y,Z,Z,Z,Z,Z,Z,Z,Z,Z,Z,Z,Z,Z,Z,Z,Z] HT_ rfl rfl (by kernel_rfl) ?_ ?_ ?_;rotate_left;(intro w';go_simp;with_reducible rfl);rotate_left;(simp only [Act.put, sA, s0, sN, i64_w, i32_w];rfl)
              refine pU 19 68 (v := ?_) (a' := ?_) #[Y,Y,Y,Y,Y,Y,Y,Y,Y,Y,Y,Y,Y,Y,Y,Y,Y,Y,Y,Y,Z,Z,Z,Z,Z,Z,Z,Z,Z,Z,Z,Z,Z,Z,Z] HT_ rfl rfl (by kernel_rfl) ?_ ?_ ?_;rotate_left;(intro w';go_simp;with_reducible rfl);rotate_left;(simp only [Act.put, sA, s0, sN, i64_w, i32_w];rfl)
              refine pure_ (i := 20) (N := some 69) (v := undef) (a' := ?_) #[Y,Y,Y,Y,Y,Y,Y,Y,Y,Y,Y,Y,Y,Y,Y,Y,Y,Y,Y,Y,Y,Z,Z,Z,Z,Z,Z,Z,Z,Z,Z,Z,Z,Z,Z] rfl rfl (any_of HT_.out (by kernel_rfl)) (fun _ _ _ h => h) (Or.inr ⟨by rfl, rfl⟩) ?_ ?_
              rotate_left
              ·simp only [Act.put, sA, s0, sN, i64_w, i32_w]
               rfl
              refine pure_ (i := 21) (N := some 70) (v := undef) (a' := ?_) #[Y,Y,Y,Y,Y,Y,Y,Y,Y,Y,Y,Y,Y,Y,Y,Y,Y,Y,Y,Y,Y,Y,Z,Z,Z,Z,Z,Z,Z,Z,Z,Z,Z,Z,Z] rfl rfl (any_of HT_.out (by kernel_rfl)) (fun _ _ _ h => h) (Or.inr ⟨by rfl, rfl⟩) ?_ ?_
              rotate_left
              ·simp only [Act.put, sA, s0, sN, i64_w, i32_w]
               rfl
              refine pure_ (i := 22) (N := some 71) (v := undef) (a' := ?_) #[Y,Y,Y,Y,Y,Y,Y,Y,Y,Y,Y,Y,Y,Y,Y,Y,Y,Y,Y,Y,Y,Y,Y,Z,Z,Z,Z,Z,Z,Z,Z,Z,Z,Z,Z] rfl rfl (any_of HT_.out (by kernel_rfl)) (fun _ _ _ h => h) (Or.inr ⟨by rfl, rfl⟩) ?_ ?_
              rotate_left
              ·simp only [Act.put, sA, s0, sN, i64_w, i32_w]
               rfl
              refine pure_ (i := 23) (N := some 72) (v := undef) (a' := ?_) #[Y,Y,Y,Y,Y,Y,Y,Y,Y,Y,Y,Y,Y,Y,Y,Y,Y,Y,Y,Y,Y,Y,Y,Y,Z,Z,Z,Z,Z,Z,Z,Z,Z,Z,Z] rfl rfl (any_of HT_.out (by kernel_rfl)) (fun _ _ _ h => h) (Or.inr ⟨by rfl, rfl⟩) ?_ ?_
              rotate_left
              ·simp only [Act.put, sA, s0, sN, i64_w, i32_w]
               rfl
              refine pure_ (i := 24) (N := some 73) (v := undef) (a' := ?_) #[Y,Y,Y,Y,Y,Y,Y,Y,Y,Y,Y,Y,Y,Y,Y,Y,Y,Y,Y,Y,Y,Y,Y,Y,Y,Z,Z,Z,Z,Z,Z,Z,Z,Z,Z] rfl rfl (any_of HT_.out (by kernel_rfl)) (fun _ _ _ h => h) (Or.inr ⟨by rfl, rfl⟩) ?_ ?_
              rotate_left
              ·simp only [Act.put, sA, s0, sN, i64_w, i32_w]
               rfl
              refine pU 25 74 (v := ?_) (a' := ?_) #[Y,Y,Y,Y,Y,Y,Y,Y,Y,Y,Y,Y,Y,Y,Y,Y,Y,Y,Y,Y,Y,Y,Y,Y,Y,Y,Z,Z,Z,Z,Z,Z,Z,Z,Z] HT_ rfl rfl (by kernel_rfl) ?_ ?_ ?_;rotate_left;(intro w';go_simp;with_reducible rfl);rotate_left;(simp only [Act.put, sA, s0, sN, i64_w, i32_w];rfl)
              refine pU 26 75 (v := ?_) (a' := ?_) #[Y,Y,Y,Y,Y,Y,Y,Y,Y,Y,Y,Y,Y,Y,Y,Y,Y,Y,Y,Y,Y,Y,Y,Y,Y,Y,Y,Z,Z,Z,Z,Z,Z,Z,Z] HT_ rfl rfl (by kernel_rfl) ?_ ?_ ?_;rotate_left;(intro w';go_simp;with_reducible rfl);rotate_left;(simp only [Act.put, sA, s0, sN, i64_w, i32_w];rfl)
              refine pure_ (i := 27) (N := some 76) (v := undef) (a' := ?_) #[Y,Y,Y,Y,Y,Y,Y,Y,Y,Y,Y,Y,Y,Y,Y,Y,Y,Y,Y,Y,Y,Y,Y,Y,Y,Y,Y,Y,Z,Z,Z,Z,Z,Z,Z] rfl rfl (any_of HT_.out (by kernel_rfl)) (fun _ _ _ h => h) (Or.inr ⟨by rfl, rfl⟩) ?_ ?_
              rotate_left
              ·simp only [Act.put, sA, s0, sN, i64_w, i32_w]
               rfl
              refine pure_ (i := 28) (N := some 77) (v := undef) (a' := ?_) #[Y,Y,Y,Y,Y,Y,Y,Y,Y,Y,Y,Y,Y,Y,Y,Y,Y,Y,Y,Y,Y,Y,Y,Y,Y,Y,Y,Y,Y,Z,Z,Z,Z,Z,Z] rfl rfl (any_of HT_.out (by kernel_rfl)) (fun _ _ _ h => h) (Or.inr ⟨by rfl, rfl⟩) ?_ ?_
              rotate_left
              ·simp only [Act.put, sA, s0, sN, i64_w, i32_w]
               rfl
              refine pure_ (i := 29) (N := some 78) (v := undef) (a' := ?_) #[Y,Y,Y,Y,Y,Y,Y,Y,Y,Y,Y,Y,Y,Y,Y,Y,Y,Y,Y,Y,Y,Y,Y,Y,Y,Y,Y,Y,Y,Y,Z,Z,Z,Z,Z] rfl rfl (any_of HT_.out (by kernel_rfl)) (fun _ _ _ h => h) (Or.inr ⟨by rfl, rfl⟩) ?_ ?_
              rotate_left
              ·simp only [Act.put, sA, s0, sN, i64_w, i32_w]
               rfl
              refine pure_ (i := 30) (N := some 79) (v := undef) (a' := ?_) #[Y,Y,Y,Y,Y,Y,Y,Y,Y,Y,Y,Y,Y,Y,Y,Y,Y,Y,Y,Y,Y,Y,Y,Y,Y,Y,Y,Y,Y,Y,Y,Z,Z,Z,Z] rfl rfl (any_of HT_.out (by kernel_rfl)) (fun _ _ _ h => h) (Or.inr ⟨by rfl, rfl⟩) ?_ ?_
              rotate_left
              ·simp only [Act.put, sA, s0, sN, i64_w, i32_w]
               rfl
              refine pure_ (i := 31) (N := some 80) (v := undef) (a' := ?_) #[Y,Y,Y,Y,Y,Y,Y,Y,Y,Y,Y,Y,Y,Y,Y,Y,Y,Y,Y,Y,Y,Y,Y,Y,Y,Y,Y,Y,Y,Y,Y,Y,Z,Z,Z] rfl rfl (any_of HT_.out (by kernel_rfl)) (fun _ _ _ h => h) (Or.inr ⟨by rfl, rfl⟩) ?_ ?_
              rotate_left
              ·simp only [Act.put, sA, s0, sN, i64_w, i32_w]
               rfl
              refine pure_ (i := 32) (N := some 81) (v := undef) (a' := ?_) #[Y,Y,Y,Y,Y,Y,Y,Y,Y,Y,Y,Y,Y,Y,Y,Y,Y,Y,Y,Y,Y,Y,Y,Y,Y,Y,Y,Y,Y,Y,Y,Y,Y,Z,Z] rfl rfl (any_of HT_.out (by kernel_rfl)) (fun _ _ _ h => h) (Or.inr ⟨by rfl, rfl⟩) ?_ ?_
              rotate_left
              ·simp only [Act.put, sA, s0, sN, i64_w, i32_w]
               rfl
              refine pure_ (i := 33) (N := some 82) (v := undef) (a' := ?_) #[Y,Y,Y,Y,Y,Y,Y,Y,Y,Y,Y,Y,Y,Y,Y,Y,Y,Y,Y,Y,Y,Y,Y,Y,Y,Y,Y,Y,Y,Y,Y,Y,Y,Y,Z] rfl rfl (any_of HT_.out (by kernel_rfl)) (fun _ _ _ h => h) (Or.inr ⟨by rfl, rfl⟩) ?_ ?_
              rotate_left
              ·simp only [Act.put, sA, s0, sN, i64_w, i32_w]
               rfl
              refine pU 34 83 (v := ?_) (a' := ?_) #[Y,Y,Y,Y,Y,Y,Y,Y,Y,Y,Y,Y,Y,Y,Y,Y,Y,Y,Y,Y,Y,Y,Y,Y,Y,Y,Y,Y,Y,Y,Y,Y,Y,Y,Y] HT_ rfl rfl (by kernel_rfl) ?_ ?_ ?_;rotate_left;(intro w';go_simp;with_reducible rfl);rotate_left;(simp only [Act.put, sA, s0, sN, i64_w, i32_w];rfl)
              refine done_ (done_of HT_.out (by kernel_rfl)) ?_
              try go_wp2
              go_meet
              case rel => exact ⟨_, (true), tR, H', ⟨by have := HJ6.out; have := HK2.out; first | omega | exact Nat.le_refl _⟩, ⟨rS HO_3.out⟩, ⟨by (with_reducible repeat (first | apply Kd.R_alloc | apply Kd.R_drewN | apply Kd.R_drew)); exact Kd.R_mono HO_4.out (fun _ hk => ⟨hk.1.1, ⟨hk.1.2, hk.2⟩⟩)⟩, ⟨by (with_reducible repeat (first | apply Kd.R_alloc | apply Kd.R_drewN | apply Kd.R_drew)); exact Kd.R_mono HO_5.out (fun _ hk => ⟨hk.1.1, ⟨hk.1.2, hk.2⟩⟩)⟩, ⟨by (with_reducible repeat (first | apply Kd.R_alloc | apply Kd.R_drewN | apply Kd.R_drew)); exact Kd.R_mono HO476.out (fun _ hk => ⟨hk.1.1.2, ⟨hk.1.2, hk.2⟩⟩)⟩, ⟨by (with_reducible repeat (first | apply Kd.R_alloc | apply Kd.R_drewN | apply Kd.R_drew)); exact Kd.R_mono HO480.out (fun _ hk => ⟨hk.1.1.2, ⟨hk.1.2, hk.2⟩⟩)⟩, ⟨bw⟩⟩
            ·replace c34 := Bool.eq_false_iff.mpr c34
             subst c34
             have H1 : (if (rd t466 x6_2) < 0 then (laws_FnJoins.j2 k2 t460 t463 t466 x6_2 t474 t478 true) else (laws_FnJoins.j2 k2 t460 t463 t466 x6_2 t474 t478 (decide ((rd t466 x6_2) > (t460.length : Int))))) = some r := by rw [if_neg (show ¬ (false = true) by decide)] at H; exact H
             clear H
             have H := H1
             clear H1
             by_cases c39 : (rd t466 x6_2) < 0
             ·rw [if_pos c39] at H
              have c39b0 : decide ((rd t466 x6_2) < 0) = true := decide_eq_true c39
              clear c39
              as_aux_lemma =>
               have H' := Aside0.mk H
               clear H
               try go_wp2
               replace HO_3 := Aside0.mk (Kd.R_drew HO_3.out)
               replace HO_4 := Aside0.mk (Kd.R_drew HO_4.out)
               replace HO_5 := Aside0.mk (Kd.R_drew HO_5.out)
               replace HO476 := Aside0.mk (Kd.R_drew HO476.out)
               replace HO480 := Aside0.mk (Kd.R_drew HO480.out)
               replace HB := Aside0.mk (below_drew1 HB.out)
               obtain ⟨Ao41, co41, eo41⟩ := Kd.R_slice HO_5.out
               (first | subst eo41 | (injection eo41 with f1_ f2_ f3_; have f4_ := f1_.symm; have f5_ := f3_.symm; clear f1_ f2_ f3_; subst f4_; subst f5_))
               have p481 : 0 ≤ (x6_2 : Int) := dT
               have q481 : x6_2 < (t466.length : Int) := dT
               try (obtain ⟨AoZ481, coZ481, eoZ481⟩ := Kd.R_slice HO_5.out; subst eoZ481)
               obtain ⟨ad481, e481, hx481_0⟩ := Kd.at_int (Kd.R_reads' HO_5.out).2.2 x6_2 p481 q481
               cases e481
               replace p481 := eq_true p481
               replace q481 := eq_true q481
               have p482 : 0 ≤ (x6_2 : Int) := dT
               have q482 : x6_2 < (t463.length : Int) := dT
               try (obtain ⟨AoZ482, coZ482, eoZ482⟩ := Kd.R_slice HO_4.out; subst eoZ482)
               obtain ⟨ad482, e482, hx482_0⟩ := Kd.at_int (Kd.R_reads' HO_4.out).2.2 x6_2 p482 q482
               obtain rfl : ad473 = ad482 := (by injection e482)
               replace p482 := eq_true p482
               replace q482 := eq_true q482
               have p484 : 0 ≤ (x6_2 : Int) := dT
               have q484 : x6_2 < (t466.length : Int) := dT
               try (obtain ⟨AoZ484, coZ484, eoZ484⟩ := Kd.R_slice HO_5.out; subst eoZ484)
               obtain ⟨ad484, e484, hx484_0⟩ := Kd.at_int (Kd.R_reads' HO_5.out).2.2 x6_2 p484 q484
               obtain rfl : ad481 = ad484 := (by injection e484)
               replace p484 := eq_true p484
               replace q484 := eq_true q484
               have p486 : 0 ≤ (x6_2 : Int) := dT
               have q486 : x6_2 < (t466.length : Int) := dT
               try (obtain ⟨AoZ486, coZ486, eoZ486⟩ := Kd.R_slice HO_5.out; subst eoZ486)
               obtain ⟨ad486, e486, hx486_0⟩ := Kd.at_int (Kd.R_reads' HO_5.out).2.2 x6_2 p486 q486
               obtain rfl : ad481 = ad486 := (by injection e486)
               replace p486 := eq_true p486
               replace q486 := eq_true q486
               refine start_ (n := 35) (S := fun w' => w'.cell? (ad481.add (x6_2).toNat) = some (.int .i64 (rd t466 x6_2)) ∧ w'.cell? (ad473.add (x6_2).toNat) = some (.int .i64 (rd t463 x6_2)) ∧ w'.cell? (ad481.add (x6_2).toNat) = some (.int .i64 (rd t466 x6_2)) ∧ w'.cell? (ad481.add (x6_2).toNat) = some (.int .i64 (rd t466 x6_2))) (ds := []) #[false,false,false,false,false,false,false,false,false,false,false,false,false,false,false,false,false,false,false,false,false,false,false,false,false,false,false,false,false,false,false,false,false,false,false] (by kernel_rfl) rfl rfl ⟨hx481_0, hx482_0, hx484_0, hx486_0⟩ (fun hHeld => ?_); refine with_tabW laws_FnJoins.tab13 laws_FnJoins.bits13 (fun HT_ HW_ => ?_)
               generalize w29.drew = w40 at HO_3 HO_4 HO_5 HO476 HO480 HB hx481_0 hx482_0 hx484_0 hx486_0 hHeld ⊢
               refine pU 0 49 (v := ?_) (a' := ?_) #[Y,Z,Z,Z,Z,Z,Z,Z,Z,Z,Z,Z,Z,Z,Z,Z,Z,Z,Z,Z,Z,Z,Z,Z,Z,Z,Z,Z,Z,Z,Z,Z,Z,Z,Z] HT_ rfl rfl (by kernel_rfl) ?_ ?_ ?_;rotate_left;(intro w';go_simp;with_reducible rfl);rotate_left;(simp only [Act.put, sA, s0, sN, i64_w, i32_w];rfl)
               refine pU 1 50 (v := ?_) (a' := ?_) #[Y,Y,Z,Z,Z,Z,Z,Z,Z,Z,Z,Z,Z,Z,Z,Z,Z,Z,Z,Z,Z,Z,Z,Z,Z,Z,Z,Z,Z,Z,Z,Z,Z,Z,Z] HT_ rfl rfl (by kernel_rfl) ?_ ?_ ?_;rotate_left;(intro w';go_simp;with_reducible rfl);rotate_left;(simp only [Act.put, sA, s0, sN, i64_w, i32_w];rfl)
               refine pU 2 51 (v := ?_) (a' := ?_) #[Y,Y,Y,Z,Z,Z,Z,Z,Z,Z,Z,Z,Z,Z,Z,Z,Z,Z,Z,Z,Z,Z,Z,Z,Z,Z,Z,Z,Z,Z,Z,Z,Z,Z,Z] HT_ rfl rfl (by kernel_rfl) ?_ ?_ ?_;rotate_left;(intro w';go_simp;with_reducible rfl);rotate_left;(simp only [Act.put, sA, s0, sN, i64_w, i32_w];rfl)
               refine pU 4 53 (v := ?_) (a' := ?_) #[Y,Y,Y,Z,Y,Z,Z,Z,Z,Z,Z,Z,Z,Z,Z,Z,Z,Z,Z,Z,Z,Z,Z,Z,Z,Z,Z,Z,Z,Z,Z,Z,Z,Z,Z] HT_ rfl rfl (by kernel_rfl) ?_ ?_ ?_;rotate_left;(intro w';go_simp;with_reducible rfl);rotate_left;(simp only [Act.put, sA, s0, sN, i64_w, i32_w];rfl)
               refine pU 5 54 (v := ?_) (a' := ?_) #[Y,Y,Y,Z,Y,Y,Z,Z,Z,Z,Z,Z,Z,Z,Z,Z,Z,Z,Z,Z,Z,Z,Z,Z,Z,Z,Z,Z,Z,Z,Z,Z,Z,Z,Z] HT_ rfl rfl (by kernel_rfl) ?_ ?_ ?_;rotate_left;(intro w';go_simp;with_reducible rfl);rotate_left;(simp only [Act.put, sA, s0, sN, i64_w, i32_w];rfl)
               refine pU 6 55 (v := ?_) (a' := ?_) #[Y,Y,Y,Z,Y,Y,Y,Z,Z,Z,Z,Z,Z,Z,Z,Z,Z,Z,Z,Z,Z,Z,Z,Z,Z,Z,Z,Z,Z,Z,Z,Z,Z,Z,Z] HT_ rfl rfl (by kernel_rfl) ?_ ?_ ?_;rotate_left;(intro w';go_simp;with_reducible rfl);rotate_left;(simp only [Act.put, sA, s0, sN, i64_w, i32_w];rfl)
               refine pU 7 56 (v := ?_) (a' := ?_) #[Y,Y,Y,Z,Y,Y,Y,Y,Z,Z,Z,Z,Z,Z,Z,Z,Z,Z,Z,Z,Z,Z,Z,Z,Z,Z,Z,Z,Z,Z,Z,Z,Z,Z,Z] HT_ rfl rfl (by kernel_rfl) ?_ ?_ ?_;rotate_left;(intro w';go_simp;with_reducible rfl);rotate_left;(simp only [Act.put, sA, s0, sN, i64_w, i32_w];rfl)
               refine take_ (i := 3) (N := some 52) (v := ?_) (a' := ?_) #[Y,Y,Y,Y,Y,Y,Y,Y,Z,Z,Z,Z,Z,Z,Z,Z,Z,Z,Z,Z,Z,Z,Z,Z,Z,Z,Z,Z,Z,Z,Z,Z,Z,Z,Z] rfl rfl (take_ofW HT_.out HW_.out (by kernel_rfl)) (fun _ _ _ h => h) (Or.inl ⟨by rfl, ?_⟩) hHeld ?_ ?_
               rotate_left
               ·rintro w' ⟨s0, s1, s2, s3⟩
                go_simp
                with_reducible rfl
               rotate_left
               ·simp only [Act.put, sA, s0, sN, i64_w, i32_w]
                rfl
               refine take_ (i := 8) (N := some 57) (v := ?_) (a' := ?_) #[Y,Y,Y,Y,Y,Y,Y,Y,Y,Z,Z,Z,Z,Z,Z,Z,Z,Z,Z,Z,Z,Z,Z,Z,Z,Z,Z,Z,Z,Z,Z,Z,Z,Z,Z] rfl rfl (take_ofW HT_.out HW_.out (by kernel_rfl)) (fun _ _ _ h => h) (Or.inl ⟨by rfl, ?_⟩) hHeld ?_ ?_
               rotate_left
               ·rintro w' ⟨s0, s1, s2, s3⟩
                go_simp
                with_reducible rfl
               rotate_left
               ·simp only [Act.put, sA, s0, sN, i64_w, i32_w]
                rfl
               refine one_ (i := 9) (N := some 58) #[Y,Y,Y,Y,Y,Y,Y,Y,Y,Y,Z,Z,Z,Z,Z,Z,Z,Z,Z,Z,Z,Z,Z,Z,Z,Z,Z,Z,Z,Z,Z,Z,Z,Z,Z] rfl rfl (one_of HT_.out (by kernel_rfl)) (by decide) (fun K hK => ?_)
               refine goes_ Try.func21 (by kernel_rfl) rfl #[.slice Ao9 t460.length co9, .int .i64 (rd t463 x6_2)] (by rfl) rfl rfl bz ?_
               with_reducible refine (impl_JoinOf.calls k2 _ _ t460 (rd t463 x6_2) t483 _ ?side1 ?side2 A31.out).mono ?_
               (case side1 => exact cS (Kd.R_reads' HO_3.out).2.2)
               (case side2 => exact (Kd.R_reads' HO_3.out).2.1)
               rintro e w42 ⟨rfl, hb⟩
               have HS0_ := (hb.cell (World.block_lt_of_cell? _ _ (hHeld.1))).trans (hHeld.1)
               have HS1_ := (hb.cell (World.block_lt_of_cell? _ _ (hHeld.2.1))).trans (hHeld.2.1)
               have HS2_ := (hb.cell (World.block_lt_of_cell? _ _ (hHeld.2.2.1))).trans (hHeld.2.2.1)
               have HS3_ := (hb.cell (World.block_lt_of_cell? _ _ (hHeld.2.2.2))).trans (hHeld.2.2.2)
               refine ⟨_, rfl, ?_⟩
               replace HO_3 := Aside0.mk (Kd.R_below (rS HO_3.out) hb)
               replace HO_4 := Aside0.mk (Kd.R_below (rS HO_4.out) hb)
               replace HO_5 := Aside0.mk (Kd.R_below (rS HO_5.out) hb)
               replace HO476 := Aside0.mk (Kd.R_below (rS HO476.out) hb)
               replace HO480 := Aside0.mk (Kd.R_below (rS HO480.out) hb)
               replace HB := Aside0.mk (below_step bw hb)
               (try clear hb)
               (try clear hb2)
               (try clear hk)
               (try clear hi)
               obtain ⟨Ao43, co43, eo43⟩ := Kd.R_slice HO480.out
               (first | subst eo43 | (injection eo43 with f1_ f2_ f3_; have f4_ := f1_.symm; have f5_ := f3_.symm; clear f1_ f2_ f3_; subst f4_; subst f5_))
               refine hK.out _ _ ⟨HS0_, HS1_, HS2_, HS3_⟩ (fun hHeld => ?_)
               clear hK K
               refine norm_ (a' := ?_) ?_ ?_
               rotate_left
               ·show Act.put _ (some 58) _ = _
                simp only [Act.put, sA, s0, sN, i64_w, i32_w]
                rfl
               refine pU 10 59 (v := ?_) (a' := ?_) #[Y,Y,Y,Y,Y,Y,Y,Y,Y,Y,Y,Z,Z,Z,Z,Z,Z,Z,Z,Z,Z,Z,Z,Z,Z,Z,Z,Z,Z,Z,Z,Z,Z,Z,Z] HT_ rfl rfl (by kernel_rfl) ?_ ?_ ?_;rotate_left;(intro w';go_simp;with_reducible rfl);rotate_left;(simp only [Act.put, sA, s0, sN, i64_w, i32_w];rfl)
               refine pU 11 60 (v := ?_) (a' := ?_) #[Y,Y,Y,Y,Y,Y,Y,Y,Y,Y,Y,Y,Z,Z,Z,Z,Z,Z,Z,Z,Z,Z,Z,Z,Z,Z,Z,Z,Z,Z,Z,Z,Z,Z,Z] HT_ rfl rfl (by kernel_rfl) ?_ ?_ ?_;rotate_left;(intro w';go_simp;with_reducible rfl);rotate_left;(simp only [Act.put, sA, s0, sN, i64_w, i32_w];rfl)
               refine pU 12 61 (v := ?_) (a' := ?_) #[Y,Y,Y,Y,Y,Y,Y,Y,Y,Y,Y,Y,Y,Z,Z,Z,Z,Z,Z,Z,Z,Z,Z,Z,Z,Z,Z,Z,Z,Z,Z,Z,Z,Z,Z] HT_ rfl rfl (by kernel_rfl) ?_ ?_ ?_;rotate_left;(intro w';go_simp;with_reducible rfl);rotate_left;(simp only [Act.put, sA, s0, sN, i64_w, i32_w];rfl)
               refine pU 13 62 (v := ?_) (a' := ?_) #[Y,Y,Y,Y,Y,Y,Y,Y,Y,Y,Y,Y,Y,Y,Z,Z,Z,Z,Z,Z,Z,Z,Z,Z,Z,Z,Z,Z,Z,Z,Z,Z,Z,Z,Z] HT_ rfl rfl (by kernel_rfl) ?_ ?_ ?_;rotate_left;(intro w';go_simp;with_reducible rfl);rotate_left;(simp only [Act.put, sA, s0, sN, i64_w, i32_w];rfl)
               refine pU 14 63 (v := ?_) (a' := ?_) #[Y,Y,Y,Y,Y,Y,Y,Y,Y,Y,Y,Y,Y,Y,Y,Z,Z,Z,Z,Z,Z,Z,Z,Z,Z,Z,Z,Z,Z,Z,Z,Z,Z,Z,Z] HT_ rfl rfl (by kernel_rfl) ?_ ?_ ?_;rotate_left;(intro w';go_simp;with_reducible rfl);rotate_left;(simp only [Act.put, sA, s0, sN, i64_w, i32_w];rfl)
               refine pU 15 64 (v := ?_) (a' := ?_) #[Y,Y,Y,Y,Y,Y,Y,Y,Y,Y,Y,Y,Y,Y,Y,Y,Z,Z,Z,Z,Z,Z,Z,Z,Z,Z,Z,Z,Z,Z,Z,Z,Z,Z,Z] HT_ rfl rfl (by kernel_rfl) ?_ ?_ ?_;rotate_left;(intro w';go_simp;with_reducible rfl);rotate_left;(simp only [Act.put, sA, s0, sN, i64_w, i32_w];rfl)
               refine take_ (i := 16) (N := some 65) (v := ?_) (a' := ?_) #[Y,Y,Y,Y,Y,Y,Y,Y,Y,Y,Y,Y,Y,Y,Y,Y,Y,Z,Z,Z,Z,Z,Z,Z,Z,Z,Z,Z,Z,Z,Z,Z,Z,Z,Z] rfl rfl (take_ofW HT_.out HW_.out (by kernel_rfl)) (fun _ _ _ h => h) (Or.inl ⟨by rfl, ?_⟩) hHeld ?_ ?_
               rotate_left
               ·rintro w' ⟨s0, s1, s2, s3⟩
                go_simp
                with_reducible rfl
               rotate_left
               ·simp only [Act.put, sA, s0, sN, i64_w, i32_w]
                rfl
               refine one_ (i := 17) (N := some 66) #[Y,Y,Y,Y,Y,Y,Y,Y,Y,Y,Y,Y,Y,Y,Y,Y,Y,Y,Z,Z,Z,Z,Z,Z,Z,Z,Z,Z,Z,Z,Z,Z,Z,Z,Z] rfl rfl (one_of HT_.out (by kernel_rfl)) (by decide) (fun K hK => ?_)
               refine goes_ Try.func22 (by kernel_rfl) rfl #[.slice Ao43 t478.length co43, .int .i64 (rd t466 x6_2)] (by rfl) rfl rfl bz ?_
               with_reducible refine (laws_has.calls k2 _ _ t478 (rd t466 x6_2) false _ ?side1 ?side2 A33.out).mono ?_
               (case side1 => exact cS (Kd.R_reads' HO480.out).2.2)
               (case side2 => exact (Kd.R_reads' HO480.out).2.1)
               rintro e w' ⟨rfl, ⟨nd, rfl⟩⟩
               refine ⟨_, rfl, ?_⟩
               refine hK.out _ _ ⟨hHeld.1, hHeld.2.1, hHeld.2.2.1, hHeld.2.2.2⟩ (fun hHeld => ?_)
               clear hK K
               refine norm_ (a' := ?_) ?_ ?_
               rotate_left
               ·show Act.put _ (some 66) _ = _
                simp only [Act.put, sA, s0, sN, i64_w, i32_w]
                rfl
               refine pU 18 67 (v := ?_) (a' := ?_) #[Y,Y,Y,Y,Y,Y,Y,Y,Y,Y,Y,Y,Y,Y,Y,Y,Y,Y,Y,Z,Z,Z,Z,Z,Z,Z,Z,Z,Z,Z,Z,Z,Z,Z,Z] HT_ rfl rfl (by kernel_rfl) ?_ ?_ ?_;rotate_left;(intro w';go_simp;with_reducible rfl);rotate_left;(simp only [Act.put, sA, s0, sN, i64_w, i32_w];rfl)
               refine pU 19 68 (v := ?_) (a' := ?_) #[Y,Y,Y,Y,Y,Y,Y,Y,Y,Y,Y,Y,Y,Y,Y,Y,Y,Y,Y,Y,Z,Z,Z,Z,Z,Z,Z,Z,Z,Z,Z,Z,Z,Z,Z] HT_ rfl rfl (by kernel_rfl) ?_ ?_ ?_;rotate_left;(intro w';go_simp;with_reducible rfl);rotate_left;(simp only [Act.put, sA, s0, sN, i64_w, i32_w];rfl)
               refine pU 20 69 (v := ?_) (a' := ?_) #[Y,Y,Y,Y,Y,Y,Y,Y,Y,Y,Y,Y,Y,Y,Y,Y,Y,Y,Y,Y,Y,Z,Z,Z,Z,Z,Z,Z,Z,Z,Z,Z,Z,Z,Z] HT_ rfl rfl (by kernel_rfl) ?_ ?_ ?_;rotate_left;(intro w';go_simp;with_reducible rfl);rotate_left;(simp only [Act.put, sA, s0, sN, i64_w, i32_w];rfl)
               refine pU 21 70 (v := ?_) (a' := ?_) #[Y,Y,Y,Y,Y,Y,Y,Y,Y,Y,Y,Y,Y,Y,Y,Y,Y,Y,Y,Y,Y,Y,Z,Z,Z,Z,Z,Z,Z,Z,Z,Z,Z,Z,Z] HT_ rfl rfl (by kernel_rfl) ?_ ?_ ?_;rotate_left;(intro w';go_simp;with_reducible rfl);rotate_left;(simp only [Act.put, sA, s0, sN, i64_w, i32_w];rfl)
               refine pU 22 71 (v := ?_) (a' := ?_) #[Y,Y,Y,Y,Y,Y,Y,Y,Y,Y,Y,Y,Y,Y,Y,Y,Y,Y,Y,Y,Y,Y,Y,Z,Z,Z,Z,Z,Z,Z,Z,Z,Z,Z,Z] HT_ rfl rfl (by kernel_rfl) ?_ ?_ ?_;rotate_left;(intro w';go_simp;with_reducible rfl);rotate_left;(simp only [Act.put, sA, s0, sN, i64_w, i32_w];rfl)
               refine take_ (i := 23) (N := some 72) (v := ?_) (a' := ?_) #[Y,Y,Y,Y,Y,Y,Y,Y,Y,Y,Y,Y,Y,Y,Y,Y,Y,Y,Y,Y,Y,Y,Y,Y,Z,Z,Z,Z,Z,Z,Z,Z,Z,Z,Z] rfl rfl (take_ofW HT_.out HW_.out (by kernel_rfl)) (fun _ _ _ h => h) (Or.inl ⟨by rfl, ?_⟩) hHeld ?_ ?_
               rotate_left
               ·rintro w' ⟨s0, s1, s2, s3⟩
                go_simp
                with_reducible rfl
               rotate_left
               ·simp only [Act.put, sA, s0, sN, i64_w, i32_w]
                rfl
               refine pU 24 73 (v := ?_) (a' := ?_) #[Y,Y,Y,Y,Y,Y,Y,Y,Y,Y,Y,Y,Y,Y,Y,Y,Y,Y,Y,Y,Y,Y,Y,Y,Y,Z,Z,Z,Z,Z,Z,Z,Z,Z,Z] HT_ rfl rfl (by kernel_rfl) ?_ ?_ ?_;rotate_left;(intro w';go_simp;with_reducible rfl);rotate_left;(simp only [Act.put, sA, s0, sN, i64_w, i32_w];rfl)
               refine pU 25 74 (v := ?_) (a' := ?_) #[Y,Y,Y,Y,Y,Y,Y,Y,Y,Y,Y,Y,Y,Y,Y,Y,Y,Y,Y,Y,Y,Y,Y,Y,Y,Y,Z,Z,Z,Z,Z,Z,Z,Z,Z] HT_ rfl rfl (by kernel_rfl) ?_ ?_ ?_;rotate_left;(intro w';go_simp;with_reducible rfl);rotate_left;(simp only [Act.put, sA, s0, sN, i64_w, i32_w];rfl)
               refine pU 26 75 (v := ?_) (a' := ?_) #[Y,Y,Y,Y,Y,Y,Y,Y,Y,Y,Y,Y,Y,Y,Y,Y,Y,Y,Y,Y,Y,Y,Y,Y,Y,Y,Y,Z,Z,Z,Z,Z,Z,Z,Z] HT_ rfl rfl (by kernel_rfl) ?_ ?_ ?_;rotate_left;(intro w';go_simp;with_reducible rfl);rotate_left;(simp only [Act.put, sA, s0, sN, i64_w, i32_w];rfl)
               refine pure_ (i := 27) (N := some 76) (v := undef) (a' := ?_) #[Y,Y,Y,Y,Y,Y,Y,Y,Y,Y,Y,Y,Y,Y,Y,Y,Y,Y,Y,Y,Y,Y,Y,Y,Y,Y,Y,Y,Z,Z,Z,Z,Z,Z,Z] rfl rfl (any_of HT_.out (by kernel_rfl)) (fun _ _ _ h => h) (Or.inr ⟨by rfl, rfl⟩) ?_ ?_
               rotate_left
               ·simp only [Act.put, sA, s0, sN, i64_w, i32_w]
                rfl
               refine pure_ (i := 28) (N := some 77) (v := undef) (a' := ?_) #[Y,Y,Y,Y,Y,Y,Y,Y,Y,Y,Y,Y,Y,Y,Y,Y,Y,Y,Y,Y,Y,Y,Y,Y,Y,Y,Y,Y,Y,Z,Z,Z,Z,Z,Z] rfl rfl (any_of HT_.out (by kernel_rfl)) (fun _ _ _ h => h) (Or.inr ⟨by rfl, rfl⟩) ?_ ?_
               rotate_left
               ·simp only [Act.put, sA, s0, sN, i64_w, i32_w]
                rfl
               refine pure_ (i := 29) (N := some 78) (v := undef) (a' := ?_) #[Y,Y,Y,Y,Y,Y,Y,Y,Y,Y,Y,Y,Y,Y,Y,Y,Y,Y,Y,Y,Y,Y,Y,Y,Y,Y,Y,Y,Y,Y,Z,Z,Z,Z,Z] rfl rfl (any_of HT_.out (by kernel_rfl)) (fun _ _ _ h => h) (Or.inr ⟨by rfl, rfl⟩) ?_ ?_
               rotate_left
               ·simp only [Act.put, sA, s0, sN, i64_w, i32_w]
                rfl
               refine pure_ (i := 30) (N := some 79) (v := undef) (a' := ?_) #[Y,Y,Y,Y,Y,Y,Y,Y,Y,Y,Y,Y,Y,Y,Y,Y,Y,Y,Y,Y,Y,Y,Y,Y,Y,Y,Y,Y,Y,Y,Y,Z,Z,Z,Z] rfl rfl (any_of HT_.out (by kernel_rfl)) (fun _ _ _ h => h) (Or.inr ⟨by rfl, rfl⟩) ?_ ?_
               rotate_left
               ·simp only [Act.put, sA, s0, sN, i64_w, i32_w]
                rfl
               refine pure_ (i := 31) (N := some 80) (v := undef) (a' := ?_) #[Y,Y,Y,Y,Y,Y,Y,Y,Y,Y,Y,Y,Y,Y,Y,Y,Y,Y,Y,Y,Y,Y,Y,Y,Y,Y,Y,Y,Y,Y,Y,Y,Z,Z,Z] rfl rfl (any_of HT_.out (by kernel_rfl)) (fun _ _ _ h => h) (Or.inr ⟨by rfl, rfl⟩) ?_ ?_
               rotate_left
               ·simp only [Act.put, sA, s0, sN, i64_w, i32_w]
                rfl
               refine pure_ (i := 32) (N := some 81) (v := undef) (a' := ?_) #[Y,Y,Y,Y,Y,Y,Y,Y,Y,Y,Y,Y,Y,Y,Y,Y,Y,Y,Y,Y,Y,Y,Y,Y,Y,Y,Y,Y,Y,Y,Y,Y,Y,Z,Z] rfl rfl (any_of HT_.out (by kernel_rfl)) (fun _ _ _ h => h) (Or.inr ⟨by rfl, rfl⟩) ?_ ?_
               rotate_left
               ·simp only [Act.put, sA, s0, sN, i64_w, i32_w]
                rfl
               refine pure_ (i := 33) (N := some 82) (v := undef) (a' := ?_) #[Y,Y,Y,Y,Y,Y,Y,Y,Y,Y,Y,Y,Y,Y,Y,Y,Y,Y,Y,Y,Y,Y,Y,Y,Y,Y,Y,Y,Y,Y,Y,Y,Y,Y,Z] rfl rfl (any_of HT_.out (by kernel_rfl)) (fun _ _ _ h => h) (Or.inr ⟨by rfl, rfl⟩) ?_ ?_
               rotate_left
               ·simp only [Act.put, sA, s0, sN, i64_w, i32_w]
                rfl
               refine pU 34 83 (v := ?_) (a' := ?_) #[Y,Y,Y,Y,Y,Y,Y,Y,Y,Y,Y,Y,Y,Y,Y,Y,Y,Y,Y,Y,Y,Y,Y,Y,Y,Y,Y,Y,Y,Y,Y,Y,Y,Y,Y] HT_ rfl rfl (by kernel_rfl) ?_ ?_ ?_;rotate_left;(intro w';go_simp;with_reducible rfl);rotate_left;(simp only [Act.put, sA, s0, sN, i64_w, i32_w];rfl)
               refine done_ (done_of HT_.out (by kernel_rfl)) ?_
               try go_wp2
               go_meet
               case rel => exact ⟨_, (true), tR, H', ⟨by have := HJ6.out; have := HK2.out; first | omega | exact Nat.le_refl _⟩, ⟨rS HO_3.out⟩, ⟨by (with_reducible repeat (first | apply Kd.R_alloc | apply Kd.R_drewN | apply Kd.R_drew)); exact Kd.R_mono HO_4.out (fun _ hk => ⟨hk.1.1, ⟨hk.1.2, hk.2⟩⟩)⟩, ⟨by (with_reducible repeat (first | apply Kd.R_alloc | apply Kd.R_drewN | apply Kd.R_drew)); exact Kd.R_mono HO_5.out (fun _ hk => ⟨hk.1.1, ⟨hk.1.2, hk.2⟩⟩)⟩, ⟨by (with_reducible repeat (first | apply Kd.R_alloc | apply Kd.R_drewN | apply Kd.R_drew)); exact Kd.R_mono HO476.out (fun _ hk => ⟨hk.1.1.2, ⟨hk.1.2, hk.2⟩⟩)⟩, ⟨by (with_reducible repeat (first | apply Kd.R_alloc | apply Kd.R_drewN | apply Kd.R_drew)); exact Kd.R_mono HO480.out (fun _ hk => ⟨hk.1.1.2, ⟨hk.1.2, hk.2⟩⟩)⟩, ⟨bw⟩⟩
             ·rw [if_neg c39] at H
              have c39b0 : decide ((rd t466 x6_2) < 0) = false := decide_eq_false c39
              clear c39
              as_aux_lemma =>
               have H' := Aside0.mk H
               clear H
               try go_wp2
               replace HO_3 := Aside0.mk (Kd.R_drew HO_3.out)
               replace HO_4 := Aside0.mk (Kd.R_drew HO_4.out)
               replace HO_5 := Aside0.mk (Kd.R_drew HO_5.out)
               replace HO476 := Aside0.mk (Kd.R_drew HO476.out)
               replace HO480 := Aside0.mk (Kd.R_drew HO480.out)
               replace HB := Aside0.mk (below_drew1 HB.out)
               obtain ⟨Ao45, co45, eo45⟩ := Kd.R_slice HO_5.out
               (first | subst eo45 | (injection eo45 with f1_ f2_ f3_; have f4_ := f1_.symm; have f5_ := f3_.symm; clear f1_ f2_ f3_; subst f4_; subst f5_))
               have p481 : 0 ≤ (x6_2 : Int) := dT
               have q481 : x6_2 < (t466.length : Int) := dT
               try (obtain ⟨AoZ481, coZ481, eoZ481⟩ := Kd.R_slice HO_5.out; subst eoZ481)
               obtain ⟨ad481, e481, hx481_0⟩ := Kd.at_int (Kd.R_reads' HO_5.out).2.2 x6_2 p481 q481
               cases e481
               replace p481 := eq_true p481
               replace q481 := eq_true q481
               have p482 : 0 ≤ (x6_2 : Int) := dT
               have q482 : x6_2 < (t463.length : Int) := dT
               try (obtain ⟨AoZ482, coZ482, eoZ482⟩ := Kd.R_slice HO_4.out; subst eoZ482)
               obtain ⟨ad482, e482, hx482_0⟩ := Kd.at_int (Kd.R_reads' HO_4.out).2.2 x6_2 p482 q482
               obtain rfl : ad473 = ad482 := (by injection e482)
               replace p482 := eq_true p482
               replace q482 := eq_true q482
               have p484 : 0 ≤ (x6_2 : Int) := dT
               have q484 : x6_2 < (t466.length : Int) := dT
               try (obtain ⟨AoZ484, coZ484, eoZ484⟩ := Kd.R_slice HO_5.out; subst eoZ484)
               obtain ⟨ad484, e484, hx484_0⟩ := Kd.at_int (Kd.R_reads' HO_5.out).2.2 x6_2 p484 q484
               obtain rfl : ad481 = ad484 := (by injection e484)
               replace p484 := eq_true p484
               replace q484 := eq_true q484
               have p486 : 0 ≤ (x6_2 : Int) := dT
               have q486 : x6_2 < (t466.length : Int) := dT
               try (obtain ⟨AoZ486, coZ486, eoZ486⟩ := Kd.R_slice HO_5.out; subst eoZ486)
               obtain ⟨ad486, e486, hx486_0⟩ := Kd.at_int (Kd.R_reads' HO_5.out).2.2 x6_2 p486 q486
               obtain rfl : ad481 = ad486 := (by injection e486)
               replace p486 := eq_true p486
               replace q486 := eq_true q486
               have p487 : 0 ≤ (x6_2 : Int) := dT
               have q487 : x6_2 < (t466.length : Int) := dT
               try (obtain ⟨AoZ487, coZ487, eoZ487⟩ := Kd.R_slice HO_5.out; subst eoZ487)
               obtain ⟨ad487, e487, hx487_0⟩ := Kd.at_int (Kd.R_reads' HO_5.out).2.2 x6_2 p487 q487
               obtain rfl : ad481 = ad487 := (by injection e487)
               replace p487 := eq_true p487
               replace q487 := eq_true q487
               refine start_ (n := 35) (S := fun w' => w'.cell? (ad481.add (x6_2).toNat) = some (.int .i64 (rd t466 x6_2)) ∧ w'.cell? (ad473.add (x6_2).toNat) = some (.int .i64 (rd t463 x6_2)) ∧ w'.cell? (ad481.add (x6_2).toNat) = some (.int .i64 (rd t466 x6_2)) ∧ w'.cell? (ad481.add (x6_2).toNat) = some (.int .i64 (rd t466 x6_2)) ∧ w'.cell? (ad481.add (x6_2).toNat) = some (.int .i64 (rd t466 x6_2))) (ds := []) #[false,false,false,false,false,false,false,false,false,false,false,false,false,false,false,false,false,false,false,false,false,false,false,false,false,false,false,false,false,false,false,false,false,false,false] (by kernel_rfl) rfl rfl ⟨hx481_0, hx482_0, hx484_0, hx486_0, hx487_0⟩ (fun hHeld => ?_); refine with_tabW laws_FnJoins.tab13 laws_FnJoins.bits13 (fun HT_ HW_ => ?_)
               generalize w29.drew = w44 at HO_3 HO_4 HO_5 HO476 HO480 HB hx481_0 hx482_0 hx484_0 hx486_0 hx487_0 hHeld ⊢
               refine pU 0 49 (v := ?_) (a' := ?_) #[Y,Z,Z,Z,Z,Z,Z,Z,Z,Z,Z,Z,Z,Z,Z,Z,Z,Z,Z,Z,Z,Z,Z,Z,Z,Z,Z,Z,Z,Z,Z,Z,Z,Z,Z] HT_ rfl rfl (by kernel_rfl) ?_ ?_ ?_;rotate_left;(intro w';go_simp;with_reducible rfl);rotate_left;(simp only [Act.put, sA, s0, sN, i64_w, i32_w];rfl)
               refine pU 1 50 (v := ?_) (a' := ?_) #[Y,Y,Z,Z,Z,Z,Z,Z,Z,Z,Z,Z,Z,Z,Z,Z,Z,Z,Z,Z,Z,Z,Z,Z,Z,Z,Z,Z,Z,Z,Z,Z,Z,Z,Z] HT_ rfl rfl (by kernel_rfl) ?_ ?_ ?_;rotate_left;(intro w';go_simp;with_reducible rfl);rotate_left;(simp only [Act.put, sA, s0, sN, i64_w, i32_w];rfl)
               refine pU 2 51 (v := ?_) (a' := ?_) #[Y,Y,Y,Z,Z,Z,Z,Z,Z,Z,Z,Z,Z,Z,Z,Z,Z,Z,Z,Z,Z,Z,Z,Z,Z,Z,Z,Z,Z,Z,Z,Z,Z,Z,Z] HT_ rfl rfl (by kernel_rfl) ?_ ?_ ?_;rotate_left;(intro w';go_simp;with_reducible rfl);rotate_left;(simp only [Act.put, sA, s0, sN, i64_w, i32_w];rfl)
               refine pU 4 53 (v := ?_) (a' := ?_) #[Y,Y,Y,Z,Y,Z,Z,Z,Z,Z,Z,Z,Z,Z,Z,Z,Z,Z,Z,Z,Z,Z,Z,Z,Z,Z,Z,Z,Z,Z,Z,Z,Z,Z,Z] HT_ rfl rfl (by kernel_rfl) ?_ ?_ ?_;rotate_left;(intro w';go_simp;with_reducible rfl);rotate_left;(simp only [Act.put, sA, s0, sN, i64_w, i32_w];rfl)
               refine pU 5 54 (v := ?_) (a' := ?_) #[Y,Y,Y,Z,Y,Y,Z,Z,Z,Z,Z,Z,Z,Z,Z,Z,Z,Z,Z,Z,Z,Z,Z,Z,Z,Z,Z,Z,Z,Z,Z,Z,Z,Z,Z] HT_ rfl rfl (by kernel_rfl) ?_ ?_ ?_;rotate_left;(intro w';go_simp;with_reducible rfl);rotate_left;(simp only [Act.put, sA, s0, sN, i64_w, i32_w];rfl)
               refine pU 6 55 (v := ?_) (a' := ?_) #[Y,Y,Y,Z,Y,Y,Y,Z,Z,Z,Z,Z,Z,Z,Z,Z,Z,Z,Z,Z,Z,Z,Z,Z,Z,Z,Z,Z,Z,Z,Z,Z,Z,Z,Z] HT_ rfl rfl (by kernel_rfl) ?_ ?_ ?_;rotate_left;(intro w';go_simp;with_reducible rfl);rotate_left;(simp only [Act.put, sA, s0, sN, i64_w, i32_w];rfl)
               refine pU 7 56 (v := ?_) (a' := ?_) #[Y,Y,Y,Z,Y,Y,Y,Y,Z,Z,Z,Z,Z,Z,Z,Z,Z,Z,Z,Z,Z,Z,Z,Z,Z,Z,Z,Z,Z,Z,Z,Z,Z,Z,Z] HT_ rfl rfl (by kernel_rfl) ?_ ?_ ?_;rotate_left;(intro w';go_simp;with_reducible rfl);rotate_left;(simp only [Act.put, sA, s0, sN, i64_w, i32_w];rfl)
               refine take_ (i := 3) (N := some 52) (v := ?_) (a' := ?_) #[Y,Y,Y,Y,Y,Y,Y,Y,Z,Z,Z,Z,Z,Z,Z,Z,Z,Z,Z,Z,Z,Z,Z,Z,Z,Z,Z,Z,Z,Z,Z,Z,Z,Z,Z] rfl rfl (take_ofW HT_.out HW_.out (by kernel_rfl)) (fun _ _ _ h => h) (Or.inl ⟨by rfl, ?_⟩) hHeld ?_ ?_
               rotate_left
               ·rintro w' ⟨s0, s1, s2, s3, s4⟩
                go_simp
                with_reducible rfl
               rotate_left
               ·simp only [Act.put, sA, s0, sN, i64_w, i32_w]
                rfl
               refine take_ (i := 8) (N := some 57) (v := ?_) (a' := ?_) #[Y,Y,Y,Y,Y,Y,Y,Y,Y,Z,Z,Z,Z,Z,Z,Z,Z,Z,Z,Z,Z,Z,Z,Z,Z,Z,Z,Z,Z,Z,Z,Z,Z,Z,Z] rfl rfl (take_ofW HT_.out HW_.out (by kernel_rfl)) (fun _ _ _ h => h) (Or.inl ⟨by rfl, ?_⟩) hHeld ?_ ?_
               rotate_left
               ·rintro w' ⟨s0, s1, s2, s3, s4⟩
                go_simp
                with_reducible rfl
               rotate_left
               ·simp only [Act.put, sA, s0, sN, i64_w, i32_w]
                rfl
               refine one_ (i := 9) (N := some 58) #[Y,Y,Y,Y,Y,Y,Y,Y,Y,Y,Z,Z,Z,Z,Z,Z,Z,Z,Z,Z,Z,Z,Z,Z,Z,Z,Z,Z,Z,Z,Z,Z,Z,Z,Z] rfl rfl (one_of HT_.out (by kernel_rfl)) (by decide) (fun K hK => ?_)
               refine goes_ Try.func21 (by kernel_rfl) rfl #[.slice Ao9 t460.length co9, .int .i64 (rd t463 x6_2)] (by rfl) rfl rfl bz ?_
               with_reducible refine (impl_JoinOf.calls k2 _ _ t460 (rd t463 x6_2) t483 _ ?side1 ?side2 A31.out).mono ?_
               (case side1 => exact cS (Kd.R_reads' HO_3.out).2.2)
               (case side2 => exact (Kd.R_reads' HO_3.out).2.1)
               rintro e w46 ⟨rfl, hb⟩
               have HS0_ := (hb.cell (World.block_lt_of_cell? _ _ (hHeld.1))).trans (hHeld.1)
               have HS1_ := (hb.cell (World.block_lt_of_cell? _ _ (hHeld.2.1))).trans (hHeld.2.1)
               have HS2_ := (hb.cell (World.block_lt_of_cell? _ _ (hHeld.2.2.1))).trans (hHeld.2.2.1)
               have HS3_ := (hb.cell (World.block_lt_of_cell? _ _ (hHeld.2.2.2.1))).trans (hHeld.2.2.2.1)
               have HS4_ := (hb.cell (World.block_lt_of_cell? _ _ (hHeld.2.2.2.2))).trans (hHeld.2.2.2.2)
               refine ⟨_, rfl, ?_⟩
               replace HO_3 := Aside0.mk (Kd.R_below (rS HO_3.out) hb)
               replace HO_4 := Aside0.mk (Kd.R_below (rS HO_4.out) hb)
               replace HO_5 := Aside0.mk (Kd.R_below (rS HO_5.out) hb)
               replace HO476 := Aside0.mk (Kd.R_below (rS HO476.out) hb)
               replace HO480 := Aside0.mk (Kd.R_below (rS HO480.out) hb)
               replace HB := Aside0.mk (below_step bw hb)
               (try clear hb)
               (try clear hb2)
               (try clear hk)
               (try clear hi)
               obtain ⟨Ao47, co47, eo47⟩ := Kd.R_slice HO480.out
               (first | subst eo47 | (injection eo47 with f1_ f2_ f3_; have f4_ := f1_.symm; have f5_ := f3_.symm; clear f1_ f2_ f3_; subst f4_; subst f5_))
               refine hK.out _ _ ⟨HS0_, HS1_, HS2_, HS3_, HS4_⟩ (fun hHeld => ?_)
               clear hK K
               refine norm_ (a' := ?_) ?_ ?_
               rotate_left
               ·show Act.put _ (some 58) _ = _
                simp only [Act.put, sA, s0, sN, i64_w, i32_w]
                rfl
               refine pU 10 59 (v := ?_) (a' := ?_) #[Y,Y,Y,Y,Y,Y,Y,Y,Y,Y,Y,Z,Z,Z,Z,Z,Z,Z,Z,Z,Z,Z,Z,Z,Z,Z,Z,Z,Z,Z,Z,Z,Z,Z,Z] HT_ rfl rfl (by kernel_rfl) ?_ ?_ ?_;rotate_left;(intro w';go_simp;with_reducible rfl);rotate_left;(simp only [Act.put, sA, s0, sN, i64_w, i32_w];rfl)
               refine pU 11 60 (v := ?_) (a' := ?_) #[Y,Y,Y,Y,Y,Y,Y,Y,Y,Y,Y,Y,Z,Z,Z,Z,Z,Z,Z,Z,Z,Z,Z,Z,Z,Z,Z,Z,Z,Z,Z,Z,Z,Z,Z] HT_ rfl rfl (by kernel_rfl) ?_ ?_ ?_;rotate_left;(intro w';go_simp;with_reducible rfl);rotate_left;(simp only [Act.put, sA, s0, sN, i64_w, i32_w];rfl)
               refine pU 12 61 (v := ?_) (a' := ?_) #[Y,Y,Y,Y,Y,Y,Y,Y,Y,Y,Y,Y,Y,Z,Z,Z,Z,Z,Z,Z,Z,Z,Z,Z,Z,Z,Z,Z,Z,Z,Z,Z,Z,Z,Z] HT_ rfl rfl (by kernel_rfl) ?_ ?_ ?_;rotate_left;(intro w';go_simp;with_reducible rfl);rotate_left;(simp only [Act.put, sA, s0, sN, i64_w, i32_w];rfl)
               refine pU 13 62 (v := ?_) (a' := ?_) #[Y,Y,Y,Y,Y,Y,Y,Y,Y,Y,Y,Y,Y,Y,Z,Z,Z,Z,Z,Z,Z,Z,Z,Z,Z,Z,Z,Z,Z,Z,Z,Z,Z,Z,Z] HT_ rfl rfl (by kernel_rfl) ?_ ?_ ?_;rotate_left;(intro w';go_simp;with_reducible rfl);rotate_left;(simp only [Act.put, sA, s0, sN, i64_w, i32_w];rfl)
               refine pU 14 63 (v := ?_) (a' := ?_) #[Y,Y,Y,Y,Y,Y,Y,Y,Y,Y,Y,Y,Y,Y,Y,Z,Z,Z,Z,Z,Z,Z,Z,Z,Z,Z,Z,Z,Z,Z,Z,Z,Z,Z,Z] HT_ rfl rfl (by kernel_rfl) ?_ ?_ ?_;rotate_left;(intro w';go_simp;with_reducible rfl);rotate_left;(simp only [Act.put, sA, s0, sN, i64_w, i32_w];rfl)
               refine pU 15 64 (v := ?_) (a' := ?_) #[Y,Y,Y,Y,Y,Y,Y,Y,Y,Y,Y,Y,Y,Y,Y,Y,Z,Z,Z,Z,Z,Z,Z,Z,Z,Z,Z,Z,Z,Z,Z,Z,Z,Z,Z] HT_ rfl rfl (by kernel_rfl) ?_ ?_ ?_;rotate_left;(intro w';go_simp;with_reducible rfl);rotate_left;(simp only [Act.put, sA, s0, sN, i64_w, i32_w];rfl)
               refine take_ (i := 16) (N := some 65) (v := ?_) (a' := ?_) #[Y,Y,Y,Y,Y,Y,Y,Y,Y,Y,Y,Y,Y,Y,Y,Y,Y,Z,Z,Z,Z,Z,Z,Z,Z,Z,Z,Z,Z,Z,Z,Z,Z,Z,Z] rfl rfl (take_ofW HT_.out HW_.out (by kernel_rfl)) (fun _ _ _ h => h) (Or.inl ⟨by rfl, ?_⟩) hHeld ?_ ?_
               rotate_left
               ·rintro w' ⟨s0, s1, s2, s3, s4⟩
                go_simp
                with_reducible rfl
               rotate_left
               ·simp only [Act.put, sA, s0, sN, i64_w, i32_w]
                rfl
               refine one_ (i := 17) (N := some 66) #[Y,Y,Y,Y,Y,Y,Y,Y,Y,Y,Y,Y,Y,Y,Y,Y,Y,Y,Z,Z,Z,Z,Z,Z,Z,Z,Z,Z,Z,Z,Z,Z,Z,Z,Z] rfl rfl (one_of HT_.out (by kernel_rfl)) (by decide) (fun K hK => ?_)
               refine goes_ Try.func22 (by kernel_rfl) rfl #[.slice Ao47 t478.length co47, .int .i64 (rd t466 x6_2)] (by rfl) rfl rfl bz ?_
               with_reducible refine (laws_has.calls k2 _ _ t478 (rd t466 x6_2) false _ ?side1 ?side2 A33.out).mono ?_
               (case side1 => exact cS (Kd.R_reads' HO480.out).2.2)
               (case side2 => exact (Kd.R_reads' HO480.out).2.1)
               rintro e w' ⟨rfl, ⟨nd, rfl⟩⟩
               refine ⟨_, rfl, ?_⟩
               refine hK.out _ _ ⟨hHeld.1, hHeld.2.1, hHeld.2.2.1, hHeld.2.2.2.1, hHeld.2.2.2.2⟩ (fun hHeld => ?_)
               clear hK K
               refine norm_ (a' := ?_) ?_ ?_
               rotate_left
               ·show Act.put _ (some 66) _ = _
                simp only [Act.put, sA, s0, sN, i64_w, i32_w]
                rfl
               refine pU 18 67 (v := ?_) (a' := ?_) #[Y,Y,Y,Y,Y,Y,Y,Y,Y,Y,Y,Y,Y,Y,Y,Y,Y,Y,Y,Z,Z,Z,Z,Z,Z,Z,Z,Z,Z,Z,Z,Z,Z,Z,Z] HT_ rfl rfl (by kernel_rfl) ?_ ?_ ?_;rotate_left;(intro w';go_simp;with_reducible rfl);rotate_left;(simp only [Act.put, sA, s0, sN, i64_w, i32_w];rfl)
               refine pU 19 68 (v := ?_) (a' := ?_) #[Y,Y,Y,Y,Y,Y,Y,Y,Y,Y,Y,Y,Y,Y,Y,Y,Y,Y,Y,Y,Z,Z,Z,Z,Z,Z,Z,Z,Z,Z,Z,Z,Z,Z,Z] HT_ rfl rfl (by kernel_rfl) ?_ ?_ ?_;rotate_left;(intro w';go_simp;with_reducible rfl);rotate_left;(simp only [Act.put, sA, s0, sN, i64_w, i32_w];rfl)
               refine pU 20 69 (v := ?_) (a' := ?_) #[Y,Y,Y,Y,Y,Y,Y,Y,Y,Y,Y,Y,Y,Y,Y,Y,Y,Y,Y,Y,Y,Z,Z,Z,Z,Z,Z,Z,Z,Z,Z,Z,Z,Z,Z] HT_ rfl rfl (by kernel_rfl) ?_ ?_ ?_;rotate_left;(intro w';go_simp;with_reducible rfl);rotate_left;(simp only [Act.put, sA, s0, sN, i64_w, i32_w];rfl)
               refine pU 21 70 (v := ?_) (a' := ?_) #[Y,Y,Y,Y,Y,Y,Y,Y,Y,Y,Y,Y,Y,Y,Y,Y,Y,Y,Y,Y,Y,Y,Z,Z,Z,Z,Z,Z,Z,Z,Z,Z,Z,Z,Z] HT_ rfl rfl (by kernel_rfl) ?_ ?_ ?_;rotate_left;(intro w';go_simp;with_reducible rfl);rotate_left;(simp only [Act.put, sA, s0, sN, i64_w, i32_w];rfl)
               refine pU 22 71 (v := ?_) (a' := ?_) #[Y,Y,Y,Y,Y,Y,Y,Y,Y,Y,Y,Y,Y,Y,Y,Y,Y,Y,Y,Y,Y,Y,Y,Z,Z,Z,Z,Z,Z,Z,Z,Z,Z,Z,Z] HT_ rfl rfl (by kernel_rfl) ?_ ?_ ?_;rotate_left;(intro w';go_simp;with_reducible rfl);rotate_left;(simp only [Act.put, sA, s0, sN, i64_w, i32_w];rfl)
               refine take_ (i := 23) (N := some 72) (v := ?_) (a' := ?_) #[Y,Y,Y,Y,Y,Y,Y,Y,Y,Y,Y,Y,Y,Y,Y,Y,Y,Y,Y,Y,Y,Y,Y,Y,Z,Z,Z,Z,Z,Z,Z,Z,Z,Z,Z] rfl rfl (take_ofW HT_.out HW_.out (by kernel_rfl)) (fun _ _ _ h => h) (Or.inl ⟨by rfl, ?_⟩) hHeld ?_ ?_
               rotate_left
               ·rintro w' ⟨s0, s1, s2, s3, s4⟩
                go_simp
                with_reducible rfl
               rotate_left
               ·simp only [Act.put, sA, s0, sN, i64_w, i32_w]
                rfl
               refine pU 24 73 (v := ?_) (a' := ?_) #[Y,Y,Y,Y,Y,Y,Y,Y,Y,Y,Y,Y,Y,Y,Y,Y,Y,Y,Y,Y,Y,Y,Y,Y,Y,Z,Z,Z,Z,Z,Z,Z,Z,Z,Z] HT_ rfl rfl (by kernel_rfl) ?_ ?_ ?_;rotate_left;(intro w';go_simp;with_reducible rfl);rotate_left;(simp only [Act.put, sA, s0, sN, i64_w, i32_w];rfl)
               refine pU 25 74 (v := ?_) (a' := ?_) #[Y,Y,Y,Y,Y,Y,Y,Y,Y,Y,Y,Y,Y,Y,Y,Y,Y,Y,Y,Y,Y,Y,Y,Y,Y,Y,Z,Z,Z,Z,Z,Z,Z,Z,Z] HT_ rfl rfl (by kernel_rfl) ?_ ?_ ?_;rotate_left;(intro w';go_simp;with_reducible rfl);rotate_left;(simp only [Act.put, sA, s0, sN, i64_w, i32_w];rfl)
               refine pU 26 75 (v := ?_) (a' := ?_) #[Y,Y,Y,Y,Y,Y,Y,Y,Y,Y,Y,Y,Y,Y,Y,Y,Y,Y,Y,Y,Y,Y,Y,Y,Y,Y,Y,Z,Z,Z,Z,Z,Z,Z,Z] HT_ rfl rfl (by kernel_rfl) ?_ ?_ ?_;rotate_left;(intro w';go_simp;with_reducible rfl);rotate_left;(simp only [Act.put, sA, s0, sN, i64_w, i32_w];rfl)
               refine pU 27 76 (v := ?_) (a' := ?_) #[Y,Y,Y,Y,Y,Y,Y,Y,Y,Y,Y,Y,Y,Y,Y,Y,Y,Y,Y,Y,Y,Y,Y,Y,Y,Y,Y,Y,Z,Z,Z,Z,Z,Z,Z] HT_ rfl rfl (by kernel_rfl) ?_ ?_ ?_;rotate_left;(intro w';go_simp;with_reducible rfl);rotate_left;(simp only [Act.put, sA, s0, sN, i64_w, i32_w];rfl)
               refine pU 28 77 (v := ?_) (a' := ?_) #[Y,Y,Y,Y,Y,Y,Y,Y,Y,Y,Y,Y,Y,Y,Y,Y,Y,Y,Y,Y,Y,Y,Y,Y,Y,Y,Y,Y,Y,Z,Z,Z,Z,Z,Z] HT_ rfl rfl (by kernel_rfl) ?_ ?_ ?_;rotate_left;(intro w';go_simp;with_reducible rfl);rotate_left;(simp only [Act.put, sA, s0, sN, i64_w, i32_w];rfl)
               refine pU 29 78 (v := ?_) (a' := ?_) #[Y,Y,Y,Y,Y,Y,Y,Y,Y,Y,Y,Y,Y,Y,Y,Y,Y,Y,Y,Y,Y,Y,Y,Y,Y,Y,Y,Y,Y,Y,Z,Z,Z,Z,Z] HT_ rfl rfl (by kernel_rfl) ?_ ?_ ?_;rotate_left;(intro w';go_simp;with_reducible rfl);rotate_left;(simp only [Act.put, sA, s0, sN, i64_w, i32_w];rfl)
               refine pU 31 80 (v := ?_) (a' := ?_) #[Y,Y,Y,Y,Y,Y,Y,Y,Y,Y,Y,Y,Y,Y,Y,Y,Y,Y,Y,Y,Y,Y,Y,Y,Y,Y,Y,Y,Y,Y,Z,Y,Z,Z,Z] HT_ rfl rfl (by kernel_rfl) ?_ ?_ ?_;rotate_left;(intro w';go_simp;with_reducible rfl);rotate_left;(simp only [Act.put, sA, s0, sN, i64_w, i32_w];rfl)
               refine pU 32 81 (v := ?_) (a' := ?_) #[Y,Y,Y,Y,Y,Y,Y,Y,Y,Y,Y,Y,Y,Y,Y,Y,Y,Y,Y,Y,Y,Y,Y,Y,Y,Y,Y,Y,Y,Y,Z,Y,Y,Z,Z] HT_ rfl rfl (by kernel_rfl) ?_ ?_ ?_;rotate_left;(intro w';go_simp;with_reducible rfl);rotate_left;(simp only [Act.put, sA, s0, sN, i64_w, i32_w];rfl)
               refine take_ (i := 30) (N := some 79) (v := ?_) (a' := ?_) #[Y,Y,Y,Y,Y,Y,Y,Y,Y,Y,Y,Y,Y,Y,Y,Y,Y,Y,Y,Y,Y,Y,Y,Y,Y,Y,Y,Y,Y,Y,Y,Y,Y,Z,Z] rfl rfl (take_ofW HT_.out HW_.out (by kernel_rfl)) (fun _ _ _ h => h) (Or.inl ⟨by rfl, ?_⟩) hHeld ?_ ?_
               rotate_left
               ·rintro w' ⟨s0, s1, s2, s3, s4⟩
                go_simp
                with_reducible rfl
               rotate_left
               ·simp only [Act.put, sA, s0, sN, i64_w, i32_w]
                rfl
               refine pU 33 82 (v := ?_) (a' := ?_) #[Y,Y,Y,Y,Y,Y,Y,Y,Y,Y,Y,Y,Y,Y,Y,Y,Y,Y,Y,Y,Y,Y,Y,Y,Y,Y,Y,Y,Y,Y,Y,Y,Y,Y,Z] HT_ rfl rfl (by kernel_rfl) ?_ ?_ ?_;rotate_left;(intro w';go_simp;with_reducible rfl);rotate_left;(simp only [Act.put, sA, s0, sN, i64_w, i32_w];rfl)
               refine pU 34 83 (v := ?_) (a' := ?_) #[Y,Y,Y,Y,Y,Y,Y,Y,Y,Y,Y,Y,Y,Y,Y,Y,Y,Y,Y,Y,Y,Y,Y,Y,Y,Y,Y,Y,Y,Y,Y,Y,Y,Y,Y] HT_ rfl rfl (by kernel_rfl) ?_ ?_ ?_;rotate_left;(intro w';go_simp;with_reducible rfl);rotate_left;(simp only [Act.put, sA, s0, sN, i64_w, i32_w];rfl)
               refine done_ (done_of HT_.out (by kernel_rfl)) ?_
               try go_wp2
               go_meet
               case rel => exact ⟨_, (decide ((rd t466 x6_2) > (t460.length : Int))), tR, H', ⟨by have := HJ6.out; have := HK2.out; first | omega | exact Nat.le_refl _⟩, ⟨rS HO_3.out⟩, ⟨by (with_reducible repeat (first | apply Kd.R_alloc | apply Kd.R_drewN | apply Kd.R_drew)); exact Kd.R_mono HO_4.out (fun _ hk => ⟨hk.1.1, ⟨hk.1.2, hk.2⟩⟩)⟩, ⟨by (with_reducible repeat (first | apply Kd.R_alloc | apply Kd.R_drewN | apply Kd.R_drew)); exact Kd.R_mono HO_5.out (fun _ hk => ⟨hk.1.1, ⟨hk.1.2, hk.2⟩⟩)⟩, ⟨by (with_reducible repeat (first | apply Kd.R_alloc | apply Kd.R_drewN | apply Kd.R_drew)); exact Kd.R_mono HO476.out (fun _ hk => ⟨hk.1.1.2, ⟨hk.1.2, hk.2⟩⟩)⟩, ⟨by (with_reducible repeat (first | apply Kd.R_alloc | apply Kd.R_drewN | apply Kd.R_drew)); exact Kd.R_mono HO480.out (fun _ hk => ⟨hk.1.1.2, ⟨hk.1.2, hk.2⟩⟩)⟩, ⟨bw⟩⟩
           ·rw [if_neg c32] at H
            have c32b0 : ((rd t466 x6_2) == t483) = false := beq_eq_false_iff_ne.mpr c32
            have c32b1 : ((rd t466 x6_2) != t483) = true := bne_iff_ne.mpr c32
            as_aux_lemma =>
             have H' := Aside0.mk H
             clear H
             try go_wp2
             replace HO_3 := Aside0.mk (Kd.R_drew HO_3.out)
             replace HO_4 := Aside0.mk (Kd.R_drew HO_4.out)
             replace HO_5 := Aside0.mk (Kd.R_drew HO_5.out)
             replace HO476 := Aside0.mk (Kd.R_drew HO476.out)
             replace HO480 := Aside0.mk (Kd.R_drew HO480.out)
             replace HB := Aside0.mk (below_drew1 HB.out)
             obtain ⟨Ao49, co49, eo49⟩ := Kd.R_slice HO_5.out
             (first | subst eo49 | (injection eo49 with f1_ f2_ f3_; have f4_ := f1_.symm; have f5_ := f3_.symm; clear f1_ f2_ f3_; subst f4_; subst f5_))
             have p481 : 0 ≤ (x6_2 : Int) := dT
             have q481 : x6_2 < (t466.length : Int) := dT
             try (obtain ⟨AoZ481, coZ481, eoZ481⟩ := Kd.R_slice HO_5.out; subst eoZ481)
             obtain ⟨ad481, e481, hx481_0⟩ := Kd.at_int (Kd.R_reads' HO_5.out).2.2 x6_2 p481 q481
             cases e481
             replace p481 := eq_true p481
             replace q481 := eq_true q481
             have p482 : 0 ≤ (x6_2 : Int) := dT
             have q482 : x6_2 < (t463.length : Int) := dT
             try (obtain ⟨AoZ482, coZ482, eoZ482⟩ := Kd.R_slice HO_4.out; subst eoZ482)
             obtain ⟨ad482, e482, hx482_0⟩ := Kd.at_int (Kd.R_reads' HO_4.out).2.2 x6_2 p482 q482
             obtain rfl : ad473 = ad482 := (by injection e482)
             replace p482 := eq_true p482
             replace q482 := eq_true q482
             refine start_ (n := 35) (S := fun w' => w'.cell? (ad481.add (x6_2).toNat) = some (.int .i64 (rd t466 x6_2)) ∧ w'.cell? (ad473.add (x6_2).toNat) = some (.int .i64 (rd t463 x6_2))) (ds := []) #[false,false,false,false,false,false,false,false,false,false,false,false,false,false,false,false,false,false,false,false,false,false,false,false,false,false,false,false,false,false,false,false,false,false,false] (by kernel_rfl) rfl rfl ⟨hx481_0, hx482_0⟩ (fun hHeld => ?_); refine with_tabW laws_FnJoins.tab13 laws_FnJoins.bits13 (fun HT_ HW_ => ?_)
             generalize w29.drew = w48 at HO_3 HO_4 HO_5 HO476 HO480 HB hx481_0 hx482_0 hHeld ⊢
             refine pU 0 49 (v := ?_) (a' := ?_) #[Y,Z,Z,Z,Z,Z,Z,Z,Z,Z,Z,Z,Z,Z,Z,Z,Z,Z,Z,Z,Z,Z,Z,Z,Z,Z,Z,Z,Z,Z,Z,Z,Z,Z,Z] HT_ rfl rfl (by kernel_rfl) ?_ ?_ ?_;rotate_left;(intro w';go_simp;with_reducible rfl);rotate_left;(simp only [Act.put, sA, s0, sN, i64_w, i32_w];rfl)
             refine pU 1 50 (v := ?_) (a' := ?_) #[Y,Y,Z,Z,Z,Z,Z,Z,Z,Z,Z,Z,Z,Z,Z,Z,Z,Z,Z,Z,Z,Z,Z,Z,Z,Z,Z,Z,Z,Z,Z,Z,Z,Z,Z] HT_ rfl rfl (by kernel_rfl) ?_ ?_ ?_;rotate_left;(intro w';go_simp;with_reducible rfl);rotate_left;(simp only [Act.put, sA, s0, sN, i64_w, i32_w];rfl)
             refine pU 2 51 (v := ?_) (a' := ?_) #[Y,Y,Y,Z,Z,Z,Z,Z,Z,Z,Z,Z,Z,Z,Z,Z,Z,Z,Z,Z,Z,Z,Z,Z,Z,Z,Z,Z,Z,Z,Z,Z,Z,Z,Z] HT_ rfl rfl (by kernel_rfl) ?_ ?_ ?_;rotate_left;(intro w';go_simp;with_reducible rfl);rotate_left;(simp only [Act.put, sA, s0, sN, i64_w, i32_w];rfl)
             refine pU 4 53 (v := ?_) (a' := ?_) #[Y,Y,Y,Z,Y,Z,Z,Z,Z,Z,Z,Z,Z,Z,Z,Z,Z,Z,Z,Z,Z,Z,Z,Z,Z,Z,Z,Z,Z,Z,Z,Z,Z,Z,Z] HT_ rfl rfl (by kernel_rfl) ?_ ?_ ?_;rotate_left;(intro w';go_simp;with_reducible rfl);rotate_left;(simp only [Act.put, sA, s0, sN, i64_w, i32_w];rfl)
             refine pU 5 54 (v := ?_) (a' := ?_) #[Y,Y,Y,Z,Y,Y,Z,Z,Z,Z,Z,Z,Z,Z,Z,Z,Z,Z,Z,Z,Z,Z,Z,Z,Z,Z,Z,Z,Z,Z,Z,Z,Z,Z,Z] HT_ rfl rfl (by kernel_rfl) ?_ ?_ ?_;rotate_left;(intro w';go_simp;with_reducible rfl);rotate_left;(simp only [Act.put, sA, s0, sN, i64_w, i32_w];rfl)
             refine pU 6 55 (v := ?_) (a' := ?_) #[Y,Y,Y,Z,Y,Y,Y,Z,Z,Z,Z,Z,Z,Z,Z,Z,Z,Z,Z,Z,Z,Z,Z,Z,Z,Z,Z,Z,Z,Z,Z,Z,Z,Z,Z] HT_ rfl rfl (by kernel_rfl) ?_ ?_ ?_;rotate_left;(intro w';go_simp;with_reducible rfl);rotate_left;(simp only [Act.put, sA, s0, sN, i64_w, i32_w];rfl)
             refine pU 7 56 (v := ?_) (a' := ?_) #[Y,Y,Y,Z,Y,Y,Y,Y,Z,Z,Z,Z,Z,Z,Z,Z,Z,Z,Z,Z,Z,Z,Z,Z,Z,Z,Z,Z,Z,Z,Z,Z,Z,Z,Z] HT_ rfl rfl (by kernel_rfl) ?_ ?_ ?_;rotate_left;(intro w';go_simp;with_reducible rfl);rotate_left;(simp only [Act.put, sA, s0, sN, i64_w, i32_w];rfl)
             refine take_ (i := 3) (N := some 52) (v := ?_) (a' := ?_) #[Y,Y,Y,Y,Y,Y,Y,Y,Z,Z,Z,Z,Z,Z,Z,Z,Z,Z,Z,Z,Z,Z,Z,Z,Z,Z,Z,Z,Z,Z,Z,Z,Z,Z,Z] rfl rfl (take_ofW HT_.out HW_.out (by kernel_rfl)) (fun _ _ _ h => h) (Or.inl ⟨by rfl, ?_⟩) hHeld ?_ ?_
             rotate_left
             ·rintro w' ⟨s0, s1⟩
              go_simp
              with_reducible rfl
             rotate_left
             ·simp only [Act.put, sA, s0, sN, i64_w, i32_w]
              rfl
             refine take_ (i := 8) (N := some 57) (v := ?_) (a' := ?_) #[Y,Y,Y,Y,Y,Y,Y,Y,Y,Z,Z,Z,Z,Z,Z,Z,Z,Z,Z,Z,Z,Z,Z,Z,Z,Z,Z,Z,Z,Z,Z,Z,Z,Z,Z] rfl rfl (take_ofW HT_.out HW_.out (by kernel_rfl)) (fun _ _ _ h => h) (Or.inl ⟨by rfl, ?_⟩) hHeld ?_ ?_
             rotate_left
             ·rintro w' ⟨s0, s1⟩
              go_simp
              with_reducible rfl
             rotate_left
             ·simp only [Act.put, sA, s0, sN, i64_w, i32_w]
              rfl
             refine one_ (i := 9) (N := some 58) #[Y,Y,Y,Y,Y,Y,Y,Y,Y,Y,Z,Z,Z,Z,Z,Z,Z,Z,Z,Z,Z,Z,Z,Z,Z,Z,Z,Z,Z,Z,Z,Z,Z,Z,Z] rfl rfl (one_of HT_.out (by kernel_rfl)) (by decide) (fun K hK => ?_)
             refine goes_ Try.func21 (by kernel_rfl) rfl #[.slice Ao9 t460.length co9, .int .i64 (rd t463 x6_2)] (by rfl) rfl rfl bz ?_
             with_reducible refine (impl_JoinOf.calls k2 _ _ t460 (rd t463 x6_2) t483 _ ?side1 ?side2 A31.out).mono ?_
             (case side1 => exact cS (Kd.R_reads' HO_3.out).2.2)
             (case side2 => exact (Kd.R_reads' HO_3.out).2.1)
             rintro e w50 ⟨rfl, hb⟩
             have HS0_ := (hb.cell (World.block_lt_of_cell? _ _ (hHeld.1))).trans (hHeld.1)
             have HS1_ := (hb.cell (World.block_lt_of_cell? _ _ (hHeld.2))).trans (hHeld.2)
             refine ⟨_, rfl, ?_⟩
             replace HO_3 := Aside0.mk (Kd.R_below (rS HO_3.out) hb)
             replace HO_4 := Aside0.mk (Kd.R_below (rS HO_4.out) hb)
             replace HO_5 := Aside0.mk (Kd.R_below (rS HO_5.out) hb)
             replace HO476 := Aside0.mk (Kd.R_below (rS HO476.out) hb)
             replace HO480 := Aside0.mk (Kd.R_below (rS HO480.out) hb)
             replace HB := Aside0.mk (below_step bw hb)
             (try clear hb)
             (try clear hb2)
             (try clear hk)
             (try clear hi)
             refine hK.out _ _ ⟨HS0_, HS1_⟩ (fun hHeld => ?_)
             clear hK K
             refine norm_ (a' := ?_) ?_ ?_
             rotate_left
             ·show Act.put _ (some 58) _ = _
              simp only [Act.put, sA, s0, sN, i64_w, i32_w]
              rfl
             refine pU 10 59 (v := ?_) (a' := ?_) #[Y,Y,Y,Y,Y,Y,Y,Y,Y,Y,Y,Z,Z,Z,Z,Z,Z,Z,Z,Z,Z,Z,Z,Z,Z,Z,Z,Z,Z,Z,Z,Z,Z,Z,Z] HT_ rfl rfl (by kernel_rfl) ?_ ?_ ?_;rotate_left;(intro w';go_simp;with_reducible rfl);rotate_left;(simp only [Act.put, sA, s0, sN, i64_w, i32_w];rfl)
             refine pU 11 60 (v := ?_) (a' := ?_) #[Y,Y,Y,Y,Y,Y,Y,Y,Y,Y,Y,Y,Z,Z,Z,Z,Z,Z,Z,Z,Z,Z,Z,Z,Z,Z,Z,Z,Z,Z,Z,Z,Z,Z,Z] HT_ rfl rfl (by kernel_rfl) ?_ ?_ ?_;rotate_left;(intro w';go_simp;with_reducible rfl);rotate_left;(simp only [Act.put, sA, s0, sN, i64_w, i32_w];rfl)
             refine pure_ (i := 12) (N := some 61) (v := undef) (a' := ?_) #[Y,Y,Y,Y,Y,Y,Y,Y,Y,Y,Y,Y,Y,Z,Z,Z,Z,Z,Z,Z,Z,Z,Z,Z,Z,Z,Z,Z,Z,Z,Z,Z,Z,Z,Z] rfl rfl (any_of HT_.out (by kernel_rfl)) (fun _ _ _ h => h) (Or.inr ⟨by rfl, rfl⟩) ?_ ?_
             rotate_left
             ·simp only [Act.put, sA, s0, sN, i64_w, i32_w]
              rfl
             refine pure_ (i := 13) (N := some 62) (v := undef) (a' := ?_) #[Y,Y,Y,Y,Y,Y,Y,Y,Y,Y,Y,Y,Y,Y,Z,Z,Z,Z,Z,Z,Z,Z,Z,Z,Z,Z,Z,Z,Z,Z,Z,Z,Z,Z,Z] rfl rfl (any_of HT_.out (by kernel_rfl)) (fun _ _ _ h => h) (Or.inr ⟨by rfl, rfl⟩) ?_ ?_
             rotate_left
             ·simp only [Act.put, sA, s0, sN, i64_w, i32_w]
              rfl
             refine pure_ (i := 14) (N := some 63) (v := undef) (a' := ?_) #[Y,Y,Y,Y,Y,Y,Y,Y,Y,Y,Y,Y,Y,Y,Y,Z,Z,Z,Z,Z,Z,Z,Z,Z,Z,Z,Z,Z,Z,Z,Z,Z,Z,Z,Z] rfl rfl (any_of HT_.out (by kernel_rfl)) (fun _ _ _ h => h) (Or.inr ⟨by rfl, rfl⟩) ?_ ?_
             rotate_left
             ·simp only [Act.put, sA, s0, sN, i64_w, i32_w]
              rfl
             refine pure_ (i := 15) (N := some 64) (v := undef) (a' := ?_) #[Y,Y,Y,Y,Y,Y,Y,Y,Y,Y,Y,Y,Y,Y,Y,Y,Z,Z,Z,Z,Z,Z,Z,Z,Z,Z,Z,Z,Z,Z,Z,Z,Z,Z,Z] rfl rfl (any_of HT_.out (by kernel_rfl)) (fun _ _ _ h => h) (Or.inr ⟨by rfl, rfl⟩) ?_ ?_
             rotate_left
             ·simp only [Act.put, sA, s0, sN, i64_w, i32_w]
              rfl
             refine pure_ (i := 16) (N := some 65) (v := undef) (a' := ?_) #[Y,Y,Y,Y,Y,Y,Y,Y,Y,Y,Y,Y,Y,Y,Y,Y,Y,Z,Z,Z,Z,Z,Z,Z,Z,Z,Z,Z,Z,Z,Z,Z,Z,Z,Z] rfl rfl (any_of HT_.out (by kernel_rfl)) (fun _ _ _ h => h) (Or.inr ⟨by rfl, rfl⟩) ?_ ?_
             rotate_left
             ·simp only [Act.put, sA, s0, sN, i64_w, i32_w]
              rfl
             refine pure_ (i := 17) (N := some 66) (v := undef) (a' := ?_) #[Y,Y,Y,Y,Y,Y,Y,Y,Y,Y,Y,Y,Y,Y,Y,Y,Y,Y,Z,Z,Z,Z,Z,Z,Z,Z,Z,Z,Z,Z,Z,Z,Z,Z,Z] rfl rfl (any_of HT_.out (by kernel_rfl)) (fun _ _ _ h => h) (Or.inr ⟨by rfl, rfl⟩) ?_ ?_
             rotate_left
             ·simp only [Act.put, sA, s0, sN, i64_w, i32_w]
              rfl
             refine pU 18 67 (v := ?_) (a' := ?_) #[Y,Y,Y,Y,Y,Y,Y,Y,Y,Y,Y,Y,Y,Y,Y,Y,Y,Y,Y,Z,Z,Z,Z,Z,Z,Z,Z,Z,Z,Z,Z,Z,Z,Z,Z] HT_ rfl rfl (by kernel_rfl) ?_ ?_ ?_;rotate_left;(intro w';go_simp;with_reducible rfl);rotate_left;(simp only [Act.put, sA, s0, sN, i64_w, i32_w];rfl)
             refine pU 19 68 (v := ?_) (a' := ?_) #[Y,Y,Y,Y,Y,Y,Y,Y,Y,Y,Y,Y,Y,Y,Y,Y,Y,Y,Y,Y,Z,Z,Z,Z,Z,Z,Z,Z,Z,Z,Z,Z,Z,Z,Z] HT_ rfl rfl (by kernel_rfl) ?_ ?_ ?_;rotate_left;(intro w';go_simp;with_reducible rfl);rotate_left;(simp only [Act.put, sA, s0, sN, i64_w, i32_w];rfl)
             refine pure_ (i := 20) (N := some 69) (v := undef) (a' := ?_) #[Y,Y,Y,Y,Y,Y,Y,Y,Y,Y,Y,Y,Y,Y,Y,Y,Y,Y,Y,Y,Y,Z,Z,Z,Z,Z,Z,Z,Z,Z,Z,Z,Z,Z,Z] rfl rfl (any_of HT_.out (by kernel_rfl)) (fun _ _ _ h => h) (Or.inr ⟨by rfl, rfl⟩) ?_ ?_
             rotate_left
             ·simp only [Act.put, sA, s0, sN, i64_w, i32_w]
              rfl
             refine pure_ (i := 21) (N := some 70) (v := undef) (a' := ?_) #[Y,Y,Y,Y,Y,Y,Y,Y,Y,Y,Y,Y,Y,Y,Y,Y,Y,Y,Y,Y,Y,Y,Z,Z,Z,Z,Z,Z,Z,Z,Z,Z,Z,Z,Z] rfl rfl (any_of HT_.out (by kernel_rfl)) (fun _ _ _ h => h) (Or.inr ⟨by rfl, rfl⟩) ?_ ?_
             rotate_left
             ·simp only [Act.put, sA, s0, sN, i64_w, i32_w]
              rfl
             refine pure_ (i := 22) (N := some 71) (v := undef) (a' := ?_) #[Y,Y,Y,Y,Y,Y,Y,Y,Y,Y,Y,Y,Y,Y,Y,Y,Y,Y,Y,Y,Y,Y,Y,Z,Z,Z,Z,Z,Z,Z,Z,Z,Z,Z,Z] rfl rfl (any_of HT_.out (by kernel_rfl)) (fun _ _ _ h => h) (Or.inr ⟨by rfl, rfl⟩) ?_ ?_
             rotate_left
             ·simp only [Act.put, sA, s0, sN, i64_w, i32_w]
              rfl
             refine pure_ (i := 23) (N := some 72) (v := undef) (a' := ?_) #[Y,Y,Y,Y,Y,Y,Y,Y,Y,Y,Y,Y,Y,Y,Y,Y,Y,Y,Y,Y,Y,Y,Y,Y,Z,Z,Z,Z,Z,Z,Z,Z,Z,Z,Z] rfl rfl (any_of HT_.out (by kernel_rfl)) (fun _ _ _ h => h) (Or.inr ⟨by rfl, rfl⟩) ?_ ?_
             rotate_left
             ·simp only [Act.put, sA, s0, sN, i64_w, i32_w]
              rfl
             refine pure_ (i := 24) (N := some 73) (v := undef) (a' := ?_) #[Y,Y,Y,Y,Y,Y,Y,Y,Y,Y,Y,Y,Y,Y,Y,Y,Y,Y,Y,Y,Y,Y,Y,Y,Y,Z,Z,Z,Z,Z,Z,Z,Z,Z,Z] rfl rfl (any_of HT_.out (by kernel_rfl)) (fun _ _ _ h => h) (Or.inr ⟨by rfl, rfl⟩) ?_ ?_
             rotate_left
             ·simp only [Act.put, sA, s0, sN, i64_w, i32_w]
              rfl
             refine pU 25 74 (v := ?_) (a' := ?_) #[Y,Y,Y,Y,Y,Y,Y,Y,Y,Y,Y,Y,Y,Y,Y,Y,Y,Y,Y,Y,Y,Y,Y,Y,Y,Y,Z,Z,Z,Z,Z,Z,Z,Z,Z] HT_ rfl rfl (by kernel_rfl) ?_ ?_ ?_;rotate_left;(intro w';go_simp;with_reducible rfl);rotate_left;(simp only [Act.put, sA, s0, sN, i64_w, i32_w];rfl)
             refine pU 26 75 (v := ?_) (a' := ?_) #[Y,Y,Y,Y,Y,Y,Y,Y,Y,Y,Y,Y,Y,Y,Y,Y,Y,Y,Y,Y,Y,Y,Y,Y,Y,Y,Y,Z,Z,Z,Z,Z,Z,Z,Z] HT_ rfl rfl (by kernel_rfl) ?_ ?_ ?_;rotate_left;(intro w';go_simp;with_reducible rfl);rotate_left;(simp only [Act.put, sA, s0, sN, i64_w, i32_w];rfl)
             refine pure_ (i := 27) (N := some 76) (v := undef) (a' := ?_) #[Y,Y,Y,Y,Y,Y,Y,Y,Y,Y,Y,Y,Y,Y,Y,Y,Y,Y,Y,Y,Y,Y,Y,Y,Y,Y,Y,Y,Z,Z,Z,Z,Z,Z,Z] rfl rfl (any_of HT_.out (by kernel_rfl)) (fun _ _ _ h => h) (Or.inr ⟨by rfl, rfl⟩) ?_ ?_
             rotate_left
             ·simp only [Act.put, sA, s0, sN, i64_w, i32_w]
              rfl
             refine pure_ (i := 28) (N := some 77) (v := undef) (a' := ?_) #[Y,Y,Y,Y,Y,Y,Y,Y,Y,Y,Y,Y,Y,Y,Y,Y,Y,Y,Y,Y,Y,Y,Y,Y,Y,Y,Y,Y,Y,Z,Z,Z,Z,Z,Z] rfl rfl (any_of HT_.out (by kernel_rfl)) (fun _ _ _ h => h) (Or.inr ⟨by rfl, rfl⟩) ?_ ?_
             rotate_left
             ·simp only [Act.put, sA, s0, sN, i64_w, i32_w]
              rfl
             refine pure_ (i := 29) (N := some 78) (v := undef) (a' := ?_) #[Y,Y,Y,Y,Y,Y,Y,Y,Y,Y,Y,Y,Y,Y,Y,Y,Y,Y,Y,Y,Y,Y,Y,Y,Y,Y,Y,Y,Y,Y,Z,Z,Z,Z,Z] rfl rfl (any_of HT_.out (by kernel_rfl)) (fun _ _ _ h => h) (Or.inr ⟨by rfl, rfl⟩) ?_ ?_
             rotate_left
             ·simp only [Act.put, sA, s0, sN, i64_w, i32_w]
              rfl
             refine pure_ (i := 30) (N := some 79) (v := undef) (a' := ?_) #[Y,Y,Y,Y,Y,Y,Y,Y,Y,Y,Y,Y,Y,Y,Y,Y,Y,Y,Y,Y,Y,Y,Y,Y,Y,Y,Y,Y,Y,Y,Y,Z,Z,Z,Z] rfl rfl (any_of HT_.out (by kernel_rfl)) (fun _ _ _ h => h) (Or.inr ⟨by rfl, rfl⟩) ?_ ?_
             rotate_left
             ·simp only [Act.put, sA, s0, sN, i64_w, i32_w]
              rfl
             refine pure_ (i := 31) (N := some 80) (v := undef) (a' := ?_) #[Y,Y,Y,Y,Y,Y,Y,Y,Y,Y,Y,Y,Y,Y,Y,Y,Y,Y,Y,Y,Y,Y,Y,Y,Y,Y,Y,Y,Y,Y,Y,Y,Z,Z,Z] rfl rfl (any_of HT_.out (by kernel_rfl)) (fun _ _ _ h => h) (Or.inr ⟨by rfl, rfl⟩) ?_ ?_
             rotate_left
             ·simp only [Act.put, sA, s0, sN, i64_w, i32_w]
              rfl
             refine pure_ (i := 32) (N := some 81) (v := undef) (a' := ?_) #[Y,Y,Y,Y,Y,Y,Y,Y,Y,Y,Y,Y,Y,Y,Y,Y,Y,Y,Y,Y,Y,Y,Y,Y,Y,Y,Y,Y,Y,Y,Y,Y,Y,Z,Z] rfl rfl (any_of HT_.out (by kernel_rfl)) (fun _ _ _ h => h) (Or.inr ⟨by rfl, rfl⟩) ?_ ?_
             rotate_left
             ·simp only [Act.put, sA, s0, sN, i64_w, i32_w]
              rfl
             refine pure_ (i := 33) (N := some 82) (v := undef) (a' := ?_) #[Y,Y,Y,Y,Y,Y,Y,Y,Y,Y,Y,Y,Y,Y,Y,Y,Y,Y,Y,Y,Y,Y,Y,Y,Y,Y,Y,Y,Y,Y,Y,Y,Y,Y,Z] rfl rfl (any_of HT_.out (by kernel_rfl)) (fun _ _ _ h => h) (Or.inr ⟨by rfl, rfl⟩) ?_ ?_
             rotate_left
             ·simp only [Act.put, sA, s0, sN, i64_w, i32_w]
              rfl
             refine pU 34 83 (v := ?_) (a' := ?_) #[Y,Y,Y,Y,Y,Y,Y,Y,Y,Y,Y,Y,Y,Y,Y,Y,Y,Y,Y,Y,Y,Y,Y,Y,Y,Y,Y,Y,Y,Y,Y,Y,Y,Y,Y] HT_ rfl rfl (by kernel_rfl) ?_ ?_ ?_;rotate_left;(intro w';go_simp;with_reducible rfl);rotate_left;(simp only [Act.put, sA, s0, sN, i64_w, i32_w];rfl)
             refine done_ (done_of HT_.out (by kernel_rfl)) ?_
             try go_wp2
             go_meet
             case rel => exact ⟨_, (true), tR, H', ⟨by have := HJ6.out; have := HK2.out; first | omega | exact Nat.le_refl _⟩, ⟨rS HO_3.out⟩, ⟨by (with_reducible repeat (first | apply Kd.R_alloc | apply Kd.R_drewN | apply Kd.R_drew)); exact Kd.R_mono HO_4.out (fun _ hk => ⟨hk.1.1, ⟨hk.1.2, hk.2⟩⟩)⟩, ⟨by (with_reducible repeat (first | apply Kd.R_alloc | apply Kd.R_drewN | apply Kd.R_drew)); exact Kd.R_mono HO_5.out (fun _ hk => ⟨hk.1.1, ⟨hk.1.2, hk.2⟩⟩)⟩, ⟨by (with_reducible repeat (first | apply Kd.R_alloc | apply Kd.R_drewN | apply Kd.R_drew)); exact Kd.R_mono HO476.out (fun _ hk => ⟨hk.1.1.2, ⟨hk.1.2, hk.2⟩⟩)⟩, ⟨by (with_reducible repeat (first | apply Kd.R_alloc | apply Kd.R_drewN | apply Kd.R_drew)); exact Kd.R_mono HO480.out (fun _ hk => ⟨hk.1.1.2, ⟨hk.1.2, hk.2⟩⟩)⟩, ⟨bw⟩⟩
          ·rw [if_neg c30] at H
           exact absurd H (by simp)
         case rest =>
          clear HC26
          try clear c2;try clear p2;try clear c3;try clear p4;try clear q4;try clear hx4;try clear c21;try clear c22;try clear c30;try clear c32;try clear c32b0;try clear c32b1;try clear p48;try clear q48;try clear hx48;try clear hx481_0;try clear hx482_0;try clear p481;try clear p482;try clear q481;try clear q482
          obtain ⟨kq, x83_25, rfl, HA, HJ25, HO_3, HO_4, HO_5, HO_7, HO_8, HB⟩ := hcut
          cases kq with
          | zero => exact absurd HA.out (by simp [laws_FnJoins.j2])
          | succ kj25 =>
           have H := HA.out
           clear HA
           simp only [laws_FnJoins.j2] at H
           by_cases c51 : x83_25 = true
           ·subst c51
            have H1 : (none) = some r := by rw [if_pos rfl] at H; exact H
            clear H
            have H := H1
            clear H1
            exact absurd H (by simp)
           ·replace c51 := Bool.eq_false_iff.mpr c51
            subst c51
            have H1 : (laws_FnJoins.l1 kj25 t460 t463 t466 x6_2 t474 t478 0) = some r := by rw [if_neg (show ¬ (false = true) by decide)] at H; exact H
            clear H
            have H := H1
            clear H1
            have H' := Aside0.mk H
            clear H
            go_wp2
            go_loopg [9] kj25 (fun kq v9 w' => ∃ (x9_4 : Int), v9 = .int .i64 x9_4 ∧ Aside0 (laws_FnJoins.l1 kq t460 t463 t466 x6_2 t474 t478 x9_4 = some r) ∧ Aside0 (kq ≤ kj25) ∧ Aside0 (Kd.R k53 53 w' w.heap.size (fun _ => True) (.slice Ao9 t460.length co9) t460) ∧ Aside0 (Kd.R (Kd.int .i64) 3 w' w.heap.size (fun k_ => some k_ ≠ (v467 : Value).ownBlock ∧ some k_ ≠ (v475 : Value).ownBlock ∧ some k_ ≠ (v479 : Value).ownBlock) (.slice (some ad473) t463.length co27) t463) ∧ Aside0 (Kd.R (Kd.int .i64) 3 w' w.heap.size (fun k_ => some k_ ≠ ((.slice (some ad473) t463.length co27) : Value).ownBlock ∧ some k_ ≠ (v475 : Value).ownBlock ∧ some k_ ≠ (v479 : Value).ownBlock) v467 t466) ∧ Aside0 (Kd.R (Kd.int .i64) 3 w' w.heap.size (fun k_ => some k_ ≠ ((.slice (some ad473) t463.length co27) : Value).ownBlock ∧ some k_ ≠ (v467 : Value).ownBlock ∧ some k_ ≠ (v479 : Value).ownBlock) v475 t474) ∧ Aside0 (Kd.R (Kd.int .i64) 3 w' w.heap.size (fun k_ => some k_ ≠ ((.slice (some ad473) t463.length co27) : Value).ownBlock ∧ some k_ ≠ (v467 : Value).ownBlock ∧ some k_ ≠ (v475 : Value).ownBlock) v479 t478) ∧ Aside0 (Below w.heap.size w w'))
            case atStart => exact ⟨(0), tR, H', ⟨Nat.le_refl _⟩, ⟨rS HO_3.out⟩, ⟨rS HO_4.out⟩, ⟨rS HO_5.out⟩, ⟨rS HO_7.out⟩, ⟨rS HO_8.out⟩, ⟨bw⟩⟩
            case round =>
             clear H'
             try clear c2;try clear p2;try clear c3;try clear p4;try clear q4;try clear hx4;try clear c5;try clear c21;try clear c22;try clear c30;try clear c32;try clear c32b0;try clear c32b1;try clear p48;try clear q48;try clear hx48;try clear c51;try clear hx481_0;try clear hx482_0;try clear p2;try clear p4;try clear p48;try clear p481;try clear p482;try clear q4;try clear q48;try clear q481;try clear q482
             obtain ⟨x9_4, rfl, HA, HK4, HO_3, HO_4, HO_5, HO_7, HO_8, HB⟩ := hrel
             cases gk with
             | zero => exact absurd HA.out (by simp [laws_FnJoins.l1])
             | succ k4 =>
              have H := HA.out
              clear HA
              simp only [laws_FnJoins.l1] at H
              by_cases c52 : x9_4 < (t474.length : Int)
              ·rw [if_pos c52] at H
               have c52b0 : decide (x9_4 < (t474.length : Int)) = true := decide_eq_true c52
               clear c52
               by_cases c53 : 0 ≤ x9_4
               ·rw [if_pos c53] at H
                have c53b0 : decide (0 ≤ x9_4) = true := decide_eq_true c53
                clear c53
                by_cases c54 : 0 ≤ x6_2
                ·rw [if_pos c54] at H
                 have c54b0 : decide (0 ≤ x6_2) = true := decide_eq_true c54
                 clear c54
                 by_cases c55 : x6_2 < (t466.length : Int)
                 ·rw [if_pos c55] at H
                  have c55b0 : decide (x6_2 < (t466.length : Int)) = true := decide_eq_true c55
                  clear c55
                  by_cases c56 : (rd t474 x9_4) = (rd t466 x6_2)
                  ·rw [if_pos c56] at H
                   have c56b0 : ((rd t474 x9_4) == (rd t466 x6_2)) = true := beq_iff_eq.mpr c56
                   have c56b1 : ((rd t474 x9_4) != (rd t466 x6_2)) = false := bne_eq_false_iff_eq.mpr c56
                   clear c56
                   replace H := Option.bind_eq_some_iff.mp H
                   obtain ⟨t491, A570, H⟩ := H
                   replace H : (if t491 = true then ((impl_IsAfter.f k4 t460 (rd t474 x9_4) (rd t466 x6_2)).bind fun t494 => (if t494 = true then (laws_FnJoins.l1 k4 t460 t463 t466 x6_2 t474 t478 (wrap64 (x9_4 + 1))) else (none))) else (laws_FnJoins.l1 k4 t460 t463 t466 x6_2 t474 t478 (wrap64 (x9_4 + 1)))) = some r := H
                   have A57 := Aside0.mk A570
                   clear A570
                   by_cases c58 : t491 = true
                   ·subst c58
                    have H1 : ((impl_IsAfter.f k4 t460 (rd t474 x9_4) (rd t466 x6_2)).bind fun t494 => (if t494 = true then (laws_FnJoins.l1 k4 t460 t463 t466 x6_2 t474 t478 (wrap64 (x9_4 + 1))) else (none))) = some r := by rw [if_pos rfl] at H; exact H
                    clear H
                    have H := H1
                    clear H1
                    replace H := Option.bind_eq_some_iff.mp H
                    obtain ⟨t494, A590, H⟩ := H
                    replace H : (if t494 = true then (laws_FnJoins.l1 k4 t460 t463 t466 x6_2 t474 t478 (wrap64 (x9_4 + 1))) else (none)) = some r := H
                    have A59 := Aside0.mk A590
                    clear A590
                    by_cases c60 : t494 = true
                    ·subst c60
                     have H1 : (laws_FnJoins.l1 k4 t460 t463 t466 x6_2 t474 t478 (wrap64 (x9_4 + 1))) = some r := by rw [if_pos rfl] at H; exact H
                     clear H
                     have H := H1
                     clear H1
                     as_aux_lemma =>
                      have H' := Aside0.mk H
                      clear H
                      obtain ⟨Ao61, co61, eo61⟩ := Kd.R_slice HO_7.out
                      subst eo61
                      try go_wp2
                      replace HO_3 := Aside0.mk (Kd.R_drew HO_3.out)
                      replace HO_4 := Aside0.mk (Kd.R_drew HO_4.out)
                      replace HO_5 := Aside0.mk (Kd.R_drew HO_5.out)
                      replace HO_7 := Aside0.mk (Kd.R_drew HO_7.out)
                      replace HO_8 := Aside0.mk (Kd.R_drew HO_8.out)
                      replace HB := Aside0.mk (below_drew1 HB.out)
                      have p488 : 0 ≤ (x9_4 : Int) := dT
                      have q488 : x9_4 < (t474.length : Int) := dT
                      try (obtain ⟨AoZ488, coZ488, eoZ488⟩ := Kd.R_slice HO_7.out; subst eoZ488)
                      obtain ⟨ad488, e488, hx488_0⟩ := Kd.at_int (Kd.R_reads' HO_7.out).2.2 x9_4 p488 q488
                      cases e488
                      replace p488 := eq_true p488
                      replace q488 := eq_true q488
                      obtain ⟨Ao63, co63, eo63⟩ := Kd.R_slice HO_5.out
                      (first | subst eo63 | (injection eo63 with f1_ f2_ f3_; have f4_ := f1_.symm; have f5_ := f3_.symm; clear f1_ f2_ f3_; subst f4_; subst f5_))
                      have p489 : 0 ≤ (x6_2 : Int) := dT
                      have q489 : x6_2 < (t466.length : Int) := dT
                      try (obtain ⟨AoZ489, coZ489, eoZ489⟩ := Kd.R_slice HO_5.out; subst eoZ489)
                      obtain ⟨ad489, e489, hx489_0⟩ := Kd.at_int (Kd.R_reads' HO_5.out).2.2 x6_2 p489 q489
                      cases e489
                      replace p489 := eq_true p489
                      replace q489 := eq_true q489
                      have p490 : 0 ≤ (x9_4 : Int) := dT
                      have q490 : x9_4 < (t474.length : Int) := dT
                      try (obtain ⟨AoZ490, coZ490, eoZ490⟩ := Kd.R_slice HO_7.out; subst eoZ490)
                      obtain ⟨ad490, e490, hx490_0⟩ := Kd.at_int (Kd.R_reads' HO_7.out).2.2 x9_4 p490 q490
                      obtain rfl : ad488 = ad490 := (by injection e490)
                      replace p490 := eq_true p490
                      replace q490 := eq_true q490
                      have p492 : 0 ≤ (x9_4 : Int) := dT
                      have q492 : x9_4 < (t474.length : Int) := dT
                      try (obtain ⟨AoZ492, coZ492, eoZ492⟩ := Kd.R_slice HO_7.out; subst eoZ492)
                      obtain ⟨ad492, e492, hx492_0⟩ := Kd.at_int (Kd.R_reads' HO_7.out).2.2 x9_4 p492 q492
                      obtain rfl : ad488 = ad492 := (by injection e492)
                      replace p492 := eq_true p492
                      replace q492 := eq_true q492
                      have p493 : 0 ≤ (x6_2 : Int) := dT
                      have q493 : x6_2 < (t466.length : Int) := dT
                      try (obtain ⟨AoZ493, coZ493, eoZ493⟩ := Kd.R_slice HO_5.out; subst eoZ493)
                      obtain ⟨ad493, e493, hx493_0⟩ := Kd.at_int (Kd.R_reads' HO_5.out).2.2 x6_2 p493 q493
                      obtain rfl : ad489 = ad493 := (by injection e493)
                      replace p493 := eq_true p493
                      replace q493 := eq_true q493
                      refine start_ (n := 43) (S := fun w' => w'.cell? (ad488.add (x9_4).toNat) = some (.int .i64 (rd t474 x9_4)) ∧ w'.cell? (ad489.add (x6_2).toNat) = some (.int .i64 (rd t466 x6_2)) ∧ w'.cell? (ad488.add (x9_4).toNat) = some (.int .i64 (rd t474 x9_4)) ∧ w'.cell? (ad488.add (x9_4).toNat) = some (.int .i64 (rd t474 x9_4)) ∧ w'.cell? (ad489.add (x6_2).toNat) = some (.int .i64 (rd t466 x6_2))) (ds := []) #[false,false,false,false,false,false,false,false,false,false,false,false,false,false,false,false,false,false,false,false,false,false,false,false,false,false,false,false,false,false,false,false,false,false,false,false,false,false,false,false,false,false,false] (by kernel_rfl) rfl rfl ⟨hx488_0, hx489_0, hx490_0, hx492_0, hx493_0⟩ (fun hHeld => ?_); refine with_tabW laws_FnJoins.tab18 laws_FnJoins.bits18 (fun HT_ HW_ => ?_)
                      generalize wr.drew = w62 at HO_3 HO_4 HO_5 HO_7 HO_8 HB hx488_0 hx489_0 hx490_0 hx492_0 hx493_0 hHeld ⊢
                      refine pU 0 90 (v := ?_) (a' := ?_) #[Y,Z,Z,Z,Z,Z,Z,Z,Z,Z,Z,Z,Z,Z,Z,Z,Z,Z,Z,Z,Z,Z,Z,Z,Z,Z,Z,Z,Z,Z,Z,Z,Z,Z,Z,Z,Z,Z,Z,Z,Z,Z,Z] HT_ rfl rfl (by kernel_rfl) ?_ ?_ ?_;rotate_left;(intro w';go_simp;with_reducible rfl);rotate_left;(simp only [Act.put, sA, s0, sN, i64_w, i32_w];rfl)
                      refine pU 1 91 (v := ?_) (a' := ?_) #[Y,Y,Z,Z,Z,Z,Z,Z,Z,Z,Z,Z,Z,Z,Z,Z,Z,Z,Z,Z,Z,Z,Z,Z,Z,Z,Z,Z,Z,Z,Z,Z,Z,Z,Z,Z,Z,Z,Z,Z,Z,Z,Z] HT_ rfl rfl (by kernel_rfl) ?_ ?_ ?_;rotate_left;(intro w';go_simp;with_reducible rfl);rotate_left;(simp only [Act.put, sA, s0, sN, i64_w, i32_w];rfl)
                      refine pU 2 92 (v := ?_) (a' := ?_) #[Y,Y,Y,Z,Z,Z,Z,Z,Z,Z,Z,Z,Z,Z,Z,Z,Z,Z,Z,Z,Z,Z,Z,Z,Z,Z,Z,Z,Z,Z,Z,Z,Z,Z,Z,Z,Z,Z,Z,Z,Z,Z,Z] HT_ rfl rfl (by kernel_rfl) ?_ ?_ ?_;rotate_left;(intro w';go_simp;with_reducible rfl);rotate_left;(simp only [Act.put, sA, s0, sN, i64_w, i32_w];rfl)
                      refine pU 4 94 (v := ?_) (a' := ?_) #[Y,Y,Y,Z,Y,Z,Z,Z,Z,Z,Z,Z,Z,Z,Z,Z,Z,Z,Z,Z,Z,Z,Z,Z,Z,Z,Z,Z,Z,Z,Z,Z,Z,Z,Z,Z,Z,Z,Z,Z,Z,Z,Z] HT_ rfl rfl (by kernel_rfl) ?_ ?_ ?_;rotate_left;(intro w';go_simp;with_reducible rfl);rotate_left;(simp only [Act.put, sA, s0, sN, i64_w, i32_w];rfl)
                      refine pU 5 95 (v := ?_) (a' := ?_) #[Y,Y,Y,Z,Y,Y,Z,Z,Z,Z,Z,Z,Z,Z,Z,Z,Z,Z,Z,Z,Z,Z,Z,Z,Z,Z,Z,Z,Z,Z,Z,Z,Z,Z,Z,Z,Z,Z,Z,Z,Z,Z,Z] HT_ rfl rfl (by kernel_rfl) ?_ ?_ ?_;rotate_left;(intro w';go_simp;with_reducible rfl);rotate_left;(simp only [Act.put, sA, s0, sN, i64_w, i32_w];rfl)
                      refine pU 6 96 (v := ?_) (a' := ?_) #[Y,Y,Y,Z,Y,Y,Y,Z,Z,Z,Z,Z,Z,Z,Z,Z,Z,Z,Z,Z,Z,Z,Z,Z,Z,Z,Z,Z,Z,Z,Z,Z,Z,Z,Z,Z,Z,Z,Z,Z,Z,Z,Z] HT_ rfl rfl (by kernel_rfl) ?_ ?_ ?_;rotate_left;(intro w';go_simp;with_reducible rfl);rotate_left;(simp only [Act.put, sA, s0, sN, i64_w, i32_w];rfl)
                      refine take_ (i := 3) (N := some 93) (v := ?_) (a' := ?_) #[Y,Y,Y,Y,Y,Y,Y,Z,Z,Z,Z,Z,Z,Z,Z,Z,Z,Z,Z,Z,Z,Z,Z,Z,Z,Z,Z,Z,Z,Z,Z,Z,Z,Z,Z,Z,Z,Z,Z,Z,Z,Z,Z] rfl rfl (take_ofW HT_.out HW_.out (by kernel_rfl)) (fun _ _ _ h => h) (Or.inl ⟨by rfl, ?_⟩) hHeld ?_ ?_
                      rotate_left
                      ·rintro w' ⟨s0, s1, s2, s3, s4⟩
                       go_simp
                       with_reducible rfl
                      rotate_left
                      ·simp only [Act.put, sA, s0, sN, i64_w, i32_w]
                       rfl
                      refine take_ (i := 7) (N := some 97) (v := ?_) (a' := ?_) #[Y,Y,Y,Y,Y,Y,Y,Y,Z,Z,Z,Z,Z,Z,Z,Z,Z,Z,Z,Z,Z,Z,Z,Z,Z,Z,Z,Z,Z,Z,Z,Z,Z,Z,Z,Z,Z,Z,Z,Z,Z,Z,Z] rfl rfl (take_ofW HT_.out HW_.out (by kernel_rfl)) (fun _ _ _ h => h) (Or.inl ⟨by rfl, ?_⟩) hHeld ?_ ?_
                      rotate_left
                      ·rintro w' ⟨s0, s1, s2, s3, s4⟩
                       go_simp
                       with_reducible rfl
                      rotate_left
                      ·simp only [Act.put, sA, s0, sN, i64_w, i32_w]
                       rfl
                      refine pU 8 98 (v := ?_) (a' := ?_) #[Y,Y,Y,Y,Y,Y,Y,Y,Y,Z,Z,Z,Z,Z,Z,Z,Z,Z,Z,Z,Z,Z,Z,Z,Z,Z,Z,Z,Z,Z,Z,Z,Z,Z,Z,Z,Z,Z,Z,Z,Z,Z,Z] HT_ rfl rfl (by kernel_rfl) ?_ ?_ ?_;rotate_left;(intro w';go_simp;with_reducible rfl);rotate_left;(simp only [Act.put, sA, s0, sN, i64_w, i32_w];rfl)
                      refine pU 9 99 (v := ?_) (a' := ?_) #[Y,Y,Y,Y,Y,Y,Y,Y,Y,Y,Z,Z,Z,Z,Z,Z,Z,Z,Z,Z,Z,Z,Z,Z,Z,Z,Z,Z,Z,Z,Z,Z,Z,Z,Z,Z,Z,Z,Z,Z,Z,Z,Z] HT_ rfl rfl (by kernel_rfl) ?_ ?_ ?_;rotate_left;(intro w';go_simp;with_reducible rfl);rotate_left;(simp only [Act.put, sA, s0, sN, i64_w, i32_w];rfl)
                      refine pure_ (i := 10) (N := some 100) (v := undef) (a' := ?_) #[Y,Y,Y,Y,Y,Y,Y,Y,Y,Y,Y,Z,Z,Z,Z,Z,Z,Z,Z,Z,Z,Z,Z,Z,Z,Z,Z,Z,Z,Z,Z,Z,Z,Z,Z,Z,Z,Z,Z,Z,Z,Z,Z] rfl rfl (any_of HT_.out (by kernel_rfl)) (fun _ _ _ h => h) (Or.inr ⟨by rfl, rfl⟩) ?_ ?_
                      rotate_left
                      ·simp only [Act.put, sA, s0, sN, i64_w, i32_w]
                       rfl
                      refine pure_ (i := 11) (N := some 101) (v := undef) (a' := ?_) #[Y,Y,Y,Y,Y,Y,Y,Y,Y,Y,Y,Y,Z,Z,Z,Z,Z,Z,Z,Z,Z,Z,Z,Z,Z,Z,Z,Z,Z,Z,Z,Z,Z,Z,Z,Z,Z,Z,Z,Z,Z,Z,Z] rfl rfl (any_of HT_.out (by kernel_rfl)) (fun _ _ _ h => h) (Or.inr ⟨by rfl, rfl⟩) ?_ ?_
                      rotate_left
                      ·simp only [Act.put, sA, s0, sN, i64_w, i32_w]
                       rfl
                      refine pure_ (i := 12) (N := some 102) (v := undef) (a' := ?_) #[Y,Y,Y,Y,Y,Y,Y,Y,Y,Y,Y,Y,Y,Z,Z,Z,Z,Z,Z,Z,Z,Z,Z,Z,Z,Z,Z,Z,Z,Z,Z,Z,Z,Z,Z,Z,Z,Z,Z,Z,Z,Z,Z] rfl rfl (any_of HT_.out (by kernel_rfl)) (fun _ _ _ h => h) (Or.inr ⟨by rfl, rfl⟩) ?_ ?_
                      rotate_left
                      ·simp only [Act.put, sA, s0, sN, i64_w, i32_w]
                       rfl
                      refine pure_ (i := 13) (N := some 103) (v := undef) (a' := ?_) #[Y,Y,Y,Y,Y,Y,Y,Y,Y,Y,Y,Y,Y,Y,Z,Z,Z,Z,Z,Z,Z,Z,Z,Z,Z,Z,Z,Z,Z,Z,Z,Z,Z,Z,Z,Z,Z,Z,Z,Z,Z,Z,Z] rfl rfl (any_of HT_.out (by kernel_rfl)) (fun _ _ _ h => h) (Or.inr ⟨by rfl, rfl⟩) ?_ ?_
                      rotate_left
                      ·simp only [Act.put, sA, s0, sN, i64_w, i32_w]
                       rfl
                      refine pure_ (i := 14) (N := some 104) (v := undef) (a' := ?_) #[Y,Y,Y,Y,Y,Y,Y,Y,Y,Y,Y,Y,Y,Y,Y,Z,Z,Z,Z,Z,Z,Z,Z,Z,Z,Z,Z,Z,Z,Z,Z,Z,Z,Z,Z,Z,Z,Z,Z,Z,Z,Z,Z] rfl rfl (any_of HT_.out (by kernel_rfl)) (fun _ _ _ h => h) (Or.inr ⟨by rfl, rfl⟩) ?_ ?_
                      rotate_left
                      ·simp only [Act.put, sA, s0, sN, i64_w, i32_w]
                       rfl
                      refine pure_ (i := 15) (N := some 105) (v := undef) (a' := ?_) #[Y,Y,Y,Y,Y,Y,Y,Y,Y,Y,Y,Y,Y,Y,Y,Y,Z,Z,Z,Z,Z,Z,Z,Z,Z,Z,Z,Z,Z,Z,Z,Z,Z,Z,Z,Z,Z,Z,Z,Z,Z,Z,Z] rfl rfl (any_of HT_.out (by kernel_rfl)) (fun _ _ _ h => h) (Or.inr ⟨by rfl, rfl⟩) ?_ ?_
                      rotate_left
                      ·simp only [Act.put, sA, s0, sN, i64_w, i32_w]
                       rfl
                      refine pure_ (i := 16) (N := some 106) (v := undef) (a' := ?_) #[Y,Y,Y,Y,Y,Y,Y,Y,Y,Y,Y,Y,Y,Y,Y,Y,Y,Z,Z,Z,Z,Z,Z,Z,Z,Z,Z,Z,Z,Z,Z,Z,Z,Z,Z,Z,Z,Z,Z,Z,Z,Z,Z] rfl rfl (any_of HT_.out (by kernel_rfl)) (fun _ _ _ h => h) (Or.inr ⟨by rfl, rfl⟩) ?_ ?_
                      rotate_left
                      ·simp only [Act.put, sA, s0, sN, i64_w, i32_w]
                       rfl
                      refine pure_ (i := 17) (N := some 107) (v := undef) (a' := ?_) #[Y,Y,Y,Y,Y,Y,Y,Y,Y,Y,Y,Y,Y,Y,Y,Y,Y,Y,Z,Z,Z,Z,Z,Z,Z,Z,Z,Z,Z,Z,Z,Z,Z,Z,Z,Z,Z,Z,Z,Z,Z,Z,Z] rfl rfl (any_of HT_.out (by kernel_rfl)) (fun _ _ _ h => h) (Or.inr ⟨by rfl, rfl⟩) ?_ ?_
                      rotate_left
                      ·simp only [Act.put, sA, s0, sN, i64_w, i32_w]
                       rfl
                      refine pure_ (i := 18) (N := some 108) (v := undef) (a' := ?_) #[Y,Y,Y,Y,Y,Y,Y,Y,Y,Y,Y,Y,Y,Y,Y,Y,Y,Y,Y,Z,Z,Z,Z,Z,Z,Z,Z,Z,Z,Z,Z,Z,Z,Z,Z,Z,Z,Z,Z,Z,Z,Z,Z] rfl rfl (any_of HT_.out (by kernel_rfl)) (fun _ _ _ h => h) (Or.inr ⟨by rfl, rfl⟩) ?_ ?_
                      rotate_left
                      ·simp only [Act.put, sA, s0, sN, i64_w, i32_w]
                       rfl
                      refine pure_ (i := 19) (N := some 109) (v := undef) (a' := ?_) #[Y,Y,Y,Y,Y,Y,Y,Y,Y,Y,Y,Y,Y,Y,Y,Y,Y,Y,Y,Y,Z,Z,Z,Z,Z,Z,Z,Z,Z,Z,Z,Z,Z,Z,Z,Z,Z,Z,Z,Z,Z,Z,Z] rfl rfl (any_of HT_.out (by kernel_rfl)) (fun _ _ _ h => h) (Or.inr ⟨by rfl, rfl⟩) ?_ ?_
                      rotate_left
                      ·simp only [Act.put, sA, s0, sN, i64_w, i32_w]
                       rfl
                      refine pure_ (i := 20) (N := some 110) (v := undef) (a' := ?_) #[Y,Y,Y,Y,Y,Y,Y,Y,Y,Y,Y,Y,Y,Y,Y,Y,Y,Y,Y,Y,Y,Z,Z,Z,Z,Z,Z,Z,Z,Z,Z,Z,Z,Z,Z,Z,Z,Z,Z,Z,Z,Z,Z] rfl rfl (any_of HT_.out (by kernel_rfl)) (fun _ _ _ h => h) (Or.inr ⟨by rfl, rfl⟩) ?_ ?_
                      rotate_left
                      ·simp only [Act.put, sA, s0, sN, i64_w, i32_w]
                       rfl
                      refine pU 21 111 (v := ?_) (a' := ?_) #[Y,Y,Y,Y,Y,Y,Y,Y,Y,Y,Y,Y,Y,Y,Y,Y,Y,Y,Y,Y,Y,Y,Z,Z,Z,Z,Z,Z,Z,Z,Z,Z,Z,Z,Z,Z,Z,Z,Z,Z,Z,Z,Z] HT_ rfl rfl (by kernel_rfl) ?_ ?_ ?_;rotate_left;(intro w';go_simp;with_reducible rfl);rotate_left;(simp only [Act.put, sA, s0, sN, i64_w, i32_w];rfl)
                      refine pU 22 112 (v := ?_) (a' := ?_) #[Y,Y,Y,Y,Y,Y,Y,Y,Y,Y,Y,Y,Y,Y,Y,Y,Y,Y,Y,Y,Y,Y,Y,Z,Z,Z,Z,Z,Z,Z,Z,Z,Z,Z,Z,Z,Z,Z,Z,Z,Z,Z,Z] HT_ rfl rfl (by kernel_rfl) ?_ ?_ ?_;rotate_left;(intro w';go_simp;with_reducible rfl);rotate_left;(simp only [Act.put, sA, s0, sN, i64_w, i32_w];rfl)
                      refine pU 23 113 (v := ?_) (a' := ?_) #[Y,Y,Y,Y,Y,Y,Y,Y,Y,Y,Y,Y,Y,Y,Y,Y,Y,Y,Y,Y,Y,Y,Y,Y,Z,Z,Z,Z,Z,Z,Z,Z,Z,Z,Z,Z,Z,Z,Z,Z,Z,Z,Z] HT_ rfl rfl (by kernel_rfl) ?_ ?_ ?_;rotate_left;(intro w';go_simp;with_reducible rfl);rotate_left;(simp only [Act.put, sA, s0, sN, i64_w, i32_w];rfl)
                      refine pU 24 114 (v := ?_) (a' := ?_) #[Y,Y,Y,Y,Y,Y,Y,Y,Y,Y,Y,Y,Y,Y,Y,Y,Y,Y,Y,Y,Y,Y,Y,Y,Y,Z,Z,Z,Z,Z,Z,Z,Z,Z,Z,Z,Z,Z,Z,Z,Z,Z,Z] HT_ rfl rfl (by kernel_rfl) ?_ ?_ ?_;rotate_left;(intro w';go_simp;with_reducible rfl);rotate_left;(simp only [Act.put, sA, s0, sN, i64_w, i32_w];rfl)
                      refine pU 25 115 (v := ?_) (a' := ?_) #[Y,Y,Y,Y,Y,Y,Y,Y,Y,Y,Y,Y,Y,Y,Y,Y,Y,Y,Y,Y,Y,Y,Y,Y,Y,Y,Z,Z,Z,Z,Z,Z,Z,Z,Z,Z,Z,Z,Z,Z,Z,Z,Z] HT_ rfl rfl (by kernel_rfl) ?_ ?_ ?_;rotate_left;(intro w';go_simp;with_reducible rfl);rotate_left;(simp only [Act.put, sA, s0, sN, i64_w, i32_w];rfl)
                      refine pU 26 116 (v := ?_) (a' := ?_) #[Y,Y,Y,Y,Y,Y,Y,Y,Y,Y,Y,Y,Y,Y,Y,Y,Y,Y,Y,Y,Y,Y,Y,Y,Y,Y,Y,Z,Z,Z,Z,Z,Z,Z,Z,Z,Z,Z,Z,Z,Z,Z,Z] HT_ rfl rfl (by kernel_rfl) ?_ ?_ ?_;rotate_left;(intro w';go_simp;with_reducible rfl);rotate_left;(simp only [Act.put, sA, s0, sN, i64_w, i32_w];rfl)
                      refine take_ (i := 27) (N := some 117) (v := ?_) (a' := ?_) #[Y,Y,Y,Y,Y,Y,Y,Y,Y,Y,Y,Y,Y,Y,Y,Y,Y,Y,Y,Y,Y,Y,Y,Y,Y,Y,Y,Y,Z,Z,Z,Z,Z,Z,Z,Z,Z,Z,Z,Z,Z,Z,Z] rfl rfl (take_ofW HT_.out HW_.out (by kernel_rfl)) (fun _ _ _ h => h) (Or.inl ⟨by rfl, ?_⟩) hHeld ?_ ?_
                      rotate_left
                      ·rintro w' ⟨s0, s1, s2, s3, s4⟩
                       go_simp
                       with_reducible rfl
                      rotate_left
                      ·simp only [Act.put, sA, s0, sN, i64_w, i32_w]
                       rfl
                      refine one_ (i := 28) (N := some 118) #[Y,Y,Y,Y,Y,Y,Y,Y,Y,Y,Y,Y,Y,Y,Y,Y,Y,Y,Y,Y,Y,Y,Y,Y,Y,Y,Y,Y,Y,Z,Z,Z,Z,Z,Z,Z,Z,Z,Z,Z,Z,Z,Z] rfl rfl (one_of HT_.out (by kernel_rfl)) (by decide) (fun K hK => ?_)
                      refine goes_ Try.func24 (by kernel_rfl) rfl #[.slice Ao9 t460.length co9, .int .i64 (rd t474 x9_4)] (by rfl) rfl rfl bz ?_
                      with_reducible refine (impl_ReachesExit.calls k4 _ _ t460 (rd t474 x9_4) true _ ?side1 ?side2 A57.out).mono ?_
                      (case side1 => exact cS (Kd.R_reads' HO_3.out).2.2)
                      (case side2 => exact (Kd.R_reads' HO_3.out).2.1)
                      rintro e w64 ⟨rfl, hb⟩
                      have HS0_ := (hb.cell (World.block_lt_of_cell? _ _ (hHeld.1))).trans (hHeld.1)
                      have HS1_ := (hb.cell (World.block_lt_of_cell? _ _ (hHeld.2.1))).trans (hHeld.2.1)
                      have HS2_ := (hb.cell (World.block_lt_of_cell? _ _ (hHeld.2.2.1))).trans (hHeld.2.2.1)
                      have HS3_ := (hb.cell (World.block_lt_of_cell? _ _ (hHeld.2.2.2.1))).trans (hHeld.2.2.2.1)
                      have HS4_ := (hb.cell (World.block_lt_of_cell? _ _ (hHeld.2.2.2.2))).trans (hHeld.2.2.2.2)
                      refine ⟨_, rfl, ?_⟩
                      replace HO_3 := Aside0.mk (Kd.R_below (rS HO_3.out) hb)
                      replace HO_4 := Aside0.mk (Kd.R_below (rS HO_4.out) hb)
                      replace HO_5 := Aside0.mk (Kd.R_below (rS HO_5.out) hb)
                      replace HO_7 := Aside0.mk (Kd.R_below (rS HO_7.out) hb)
                      replace HO_8 := Aside0.mk (Kd.R_below (rS HO_8.out) hb)
                      replace HB := Aside0.mk (below_step bw hb)
                      (try clear hb)
                      (try clear hb2)
                      (try clear hk)
                      (try clear hi)
                      refine hK.out _ _ ⟨HS0_, HS1_, HS2_, HS3_, HS4_⟩ (fun hHeld => ?_)
                      clear hK K
                      refine norm_ (a' := ?_) ?_ ?_
                      rotate_left
                      ·show Act.put _ (some 118) _ = _
                       simp only [Act.put, sA, s0, sN, i64_w, i32_w]
                       rfl
                      refine pU 29 119 (v := ?_) (a' := ?_) #[Y,Y,Y,Y,Y,Y,Y,Y,Y,Y,Y,Y,Y,Y,Y,Y,Y,Y,Y,Y,Y,Y,Y,Y,Y,Y,Y,Y,Y,Y,Z,Z,Z,Z,Z,Z,Z,Z,Z,Z,Z,Z,Z] HT_ rfl rfl (by kernel_rfl) ?_ ?_ ?_;rotate_left;(intro w';go_simp;with_reducible rfl);rotate_left;(simp only [Act.put, sA, s0, sN, i64_w, i32_w];rfl)
                      refine pU 30 120 (v := ?_) (a' := ?_) #[Y,Y,Y,Y,Y,Y,Y,Y,Y,Y,Y,Y,Y,Y,Y,Y,Y,Y,Y,Y,Y,Y,Y,Y,Y,Y,Y,Y,Y,Y,Y,Z,Z,Z,Z,Z,Z,Z,Z,Z,Z,Z,Z] HT_ rfl rfl (by kernel_rfl) ?_ ?_ ?_;rotate_left;(intro w';go_simp;with_reducible rfl);rotate_left;(simp only [Act.put, sA, s0, sN, i64_w, i32_w];rfl)
                      refine pU 31 121 (v := ?_) (a' := ?_) #[Y,Y,Y,Y,Y,Y,Y,Y,Y,Y,Y,Y,Y,Y,Y,Y,Y,Y,Y,Y,Y,Y,Y,Y,Y,Y,Y,Y,Y,Y,Y,Y,Z,Z,Z,Z,Z,Z,Z,Z,Z,Z,Z] HT_ rfl rfl (by kernel_rfl) ?_ ?_ ?_;rotate_left;(intro w';go_simp;with_reducible rfl);rotate_left;(simp only [Act.put, sA, s0, sN, i64_w, i32_w];rfl)
                      refine pU 32 122 (v := ?_) (a' := ?_) #[Y,Y,Y,Y,Y,Y,Y,Y,Y,Y,Y,Y,Y,Y,Y,Y,Y,Y,Y,Y,Y,Y,Y,Y,Y,Y,Y,Y,Y,Y,Y,Y,Y,Z,Z,Z,Z,Z,Z,Z,Z,Z,Z] HT_ rfl rfl (by kernel_rfl) ?_ ?_ ?_;rotate_left;(intro w';go_simp;with_reducible rfl);rotate_left;(simp only [Act.put, sA, s0, sN, i64_w, i32_w];rfl)
                      refine pU 33 123 (v := ?_) (a' := ?_) #[Y,Y,Y,Y,Y,Y,Y,Y,Y,Y,Y,Y,Y,Y,Y,Y,Y,Y,Y,Y,Y,Y,Y,Y,Y,Y,Y,Y,Y,Y,Y,Y,Y,Y,Z,Z,Z,Z,Z,Z,Z,Z,Z] HT_ rfl rfl (by kernel_rfl) ?_ ?_ ?_;rotate_left;(intro w';go_simp;with_reducible rfl);rotate_left;(simp only [Act.put, sA, s0, sN, i64_w, i32_w];rfl)
                      refine pU 35 125 (v := ?_) (a' := ?_) #[Y,Y,Y,Y,Y,Y,Y,Y,Y,Y,Y,Y,Y,Y,Y,Y,Y,Y,Y,Y,Y,Y,Y,Y,Y,Y,Y,Y,Y,Y,Y,Y,Y,Y,Z,Y,Z,Z,Z,Z,Z,Z,Z] HT_ rfl rfl (by kernel_rfl) ?_ ?_ ?_;rotate_left;(intro w';go_simp;with_reducible rfl);rotate_left;(simp only [Act.put, sA, s0, sN, i64_w, i32_w];rfl)
                      refine pU 36 126 (v := ?_) (a' := ?_) #[Y,Y,Y,Y,Y,Y,Y,Y,Y,Y,Y,Y,Y,Y,Y,Y,Y,Y,Y,Y,Y,Y,Y,Y,Y,Y,Y,Y,Y,Y,Y,Y,Y,Y,Z,Y,Y,Z,Z,Z,Z,Z,Z] HT_ rfl rfl (by kernel_rfl) ?_ ?_ ?_;rotate_left;(intro w';go_simp;with_reducible rfl);rotate_left;(simp only [Act.put, sA, s0, sN, i64_w, i32_w];rfl)
                      refine pU 37 127 (v := ?_) (a' := ?_) #[Y,Y,Y,Y,Y,Y,Y,Y,Y,Y,Y,Y,Y,Y,Y,Y,Y,Y,Y,Y,Y,Y,Y,Y,Y,Y,Y,Y,Y,Y,Y,Y,Y,Y,Z,Y,Y,Y,Z,Z,Z,Z,Z] HT_ rfl rfl (by kernel_rfl) ?_ ?_ ?_;rotate_left;(intro w';go_simp;with_reducible rfl);rotate_left;(simp only [Act.put, sA, s0, sN, i64_w, i32_w];rfl)
                      refine take_ (i := 34) (N := some 124) (v := ?_) (a' := ?_) #[Y,Y,Y,Y,Y,Y,Y,Y,Y,Y,Y,Y,Y,Y,Y,Y,Y,Y,Y,Y,Y,Y,Y,Y,Y,Y,Y,Y,Y,Y,Y,Y,Y,Y,Y,Y,Y,Y,Z,Z,Z,Z,Z] rfl rfl (take_ofW HT_.out HW_.out (by kernel_rfl)) (fun _ _ _ h => h) (Or.inl ⟨by rfl, ?_⟩) hHeld ?_ ?_
                      rotate_left
                      ·rintro w' ⟨s0, s1, s2, s3, s4⟩
                       go_simp
                       with_reducible rfl
                      rotate_left
                      ·simp only [Act.put, sA, s0, sN, i64_w, i32_w]
                       rfl
                      refine take_ (i := 38) (N := some 128) (v := ?_) (a' := ?_) #[Y,Y,Y,Y,Y,Y,Y,Y,Y,Y,Y,Y,Y,Y,Y,Y,Y,Y,Y,Y,Y,Y,Y,Y,Y,Y,Y,Y,Y,Y,Y,Y,Y,Y,Y,Y,Y,Y,Y,Z,Z,Z,Z] rfl rfl (take_ofW HT_.out HW_.out (by kernel_rfl)) (fun _ _ _ h => h) (Or.inl ⟨by rfl, ?_⟩) hHeld ?_ ?_
                      rotate_left
                      ·rintro w' ⟨s0, s1, s2, s3, s4⟩
                       go_simp
                       with_reducible rfl
                      rotate_left
                      ·simp only [Act.put, sA, s0, sN, i64_w, i32_w]
                       rfl
                      refine one_ (i := 39) (N := some 129) #[Y,Y,Y,Y,Y,Y,Y,Y,Y,Y,Y,Y,Y,Y,Y,Y,Y,Y,Y,Y,Y,Y,Y,Y,Y,Y,Y,Y,Y,Y,Y,Y,Y,Y,Y,Y,Y,Y,Y,Y,Z,Z,Z] rfl rfl (one_of HT_.out (by kernel_rfl)) (by decide) (fun K hK => ?_)
                      refine goes_ Try.func25 (by kernel_rfl) rfl #[.slice Ao9 t460.length co9, .int .i64 (rd t474 x9_4), .int .i64 (rd t466 x6_2)] (by rfl) rfl rfl bz ?_
                      with_reducible refine (impl_IsAfter.calls k4 _ _ t460 (rd t474 x9_4) (rd t466 x6_2) true _ ?side1 ?side2 A59.out).mono ?_
                      (case side1 => exact cS (Kd.R_reads' HO_3.out).2.2)
                      (case side2 => exact (Kd.R_reads' HO_3.out).2.1)
                      rintro e w65 ⟨rfl, hb⟩
                      have HS0_ := (hb.cell (World.block_lt_of_cell? _ _ (hHeld.1))).trans (hHeld.1)
                      have HS1_ := (hb.cell (World.block_lt_of_cell? _ _ (hHeld.2.1))).trans (hHeld.2.1)
                      have HS2_ := (hb.cell (World.block_lt_of_cell? _ _ (hHeld.2.2.1))).trans (hHeld.2.2.1)
                      have HS3_ := (hb.cell (World.block_lt_of_cell? _ _ (hHeld.2.2.2.1))).trans (hHeld.2.2.2.1)
                      have HS4_ := (hb.cell (World.block_lt_of_cell? _ _ (hHeld.2.2.2.2))).trans (hHeld.2.2.2.2)
                      refine ⟨_, rfl, ?_⟩
                      replace HO_3 := Aside0.mk (Kd.R_below (rS HO_3.out) hb)
                      replace HO_4 := Aside0.mk (Kd.R_below (rS HO_4.out) hb)
                      replace HO_5 := Aside0.mk (Kd.R_below (rS HO_5.out) hb)
                      replace HO_7 := Aside0.mk (Kd.R_below (rS HO_7.out) hb)
                      replace HO_8 := Aside0.mk (Kd.R_below (rS HO_8.out) hb)
                      replace HB := Aside0.mk (below_step bw hb)
                      (try clear hb)
                      (try clear hb2)
                      (try clear hk)
                      (try clear hi)
                      refine hK.out _ _ ⟨HS0_, HS1_, HS2_, HS3_, HS4_⟩ (fun hHeld => ?_)
                      clear hK K
                      refine norm_ (a' := ?_) ?_ ?_
                      rotate_left
                      ·show Act.put _ (some 129) _ = _
                       simp only [Act.put, sA, s0, sN, i64_w, i32_w]
                       rfl
                      refine pU 40 130 (v := ?_) (a' := ?_) #[Y,Y,Y,Y,Y,Y,Y,Y,Y,Y,Y,Y,Y,Y,Y,Y,Y,Y,Y,Y,Y,Y,Y,Y,Y,Y,Y,Y,Y,Y,Y,Y,Y,Y,Y,Y,Y,Y,Y,Y,Y,Z,Z] HT_ rfl rfl (by kernel_rfl) ?_ ?_ ?_;rotate_left;(intro w';go_simp;with_reducible rfl);rotate_left;(simp only [Act.put, sA, s0, sN, i64_w, i32_w];rfl)
                      refine pU 41 131 (v := ?_) (a' := ?_) #[Y,Y,Y,Y,Y,Y,Y,Y,Y,Y,Y,Y,Y,Y,Y,Y,Y,Y,Y,Y,Y,Y,Y,Y,Y,Y,Y,Y,Y,Y,Y,Y,Y,Y,Y,Y,Y,Y,Y,Y,Y,Y,Z] HT_ rfl rfl (by kernel_rfl) ?_ ?_ ?_;rotate_left;(intro w';go_simp;with_reducible rfl);rotate_left;(simp only [Act.put, sA, s0, sN, i64_w, i32_w];rfl)
                      refine pU 42 132 (v := ?_) (a' := ?_) #[Y,Y,Y,Y,Y,Y,Y,Y,Y,Y,Y,Y,Y,Y,Y,Y,Y,Y,Y,Y,Y,Y,Y,Y,Y,Y,Y,Y,Y,Y,Y,Y,Y,Y,Y,Y,Y,Y,Y,Y,Y,Y,Y] HT_ rfl rfl (by kernel_rfl) ?_ ?_ ?_;rotate_left;(intro w';go_simp;with_reducible rfl);rotate_left;(simp only [Act.put, sA, s0, sN, i64_w, i32_w];rfl)
                      refine done_ (done_of HT_.out (by kernel_rfl)) ?_
                      try go_wp2
                      go_roundg k4
                      case measure => have := HJ6.out; have := HK2.out; have := HJ25.out; have := HK4.out; omega
                      case rel => exact ⟨(wrap64 (x9_4 + 1)), tR, H', ⟨by have := HJ6.out; have := HK2.out; have := HJ25.out; have := HK4.out; omega⟩, ⟨rS HO_3.out⟩, ⟨rS HO_4.out⟩, ⟨rS HO_5.out⟩, ⟨rS HO_7.out⟩, ⟨rS HO_8.out⟩, ⟨bw⟩⟩
                    ·replace c60 := Bool.eq_false_iff.mpr c60
                     subst c60
                     have H1 : (none) = some r := by rw [if_neg (show ¬ (false = true) by decide)] at H; exact H
                     clear H
                     have H := H1
                     clear H1
                     exact absurd H (by simp)
                   ·replace c58 := Bool.eq_false_iff.mpr c58
                    subst c58
                    have H1 : (laws_FnJoins.l1 k4 t460 t463 t466 x6_2 t474 t478 (wrap64 (x9_4 + 1))) = some r := by rw [if_neg (show ¬ (false = true) by decide)] at H; exact H
                    clear H
                    have H := H1
                    clear H1
                    as_aux_lemma =>
                     have H' := Aside0.mk H
                     clear H
                     obtain ⟨Ao66, co66, eo66⟩ := Kd.R_slice HO_7.out
                     subst eo66
                     try go_wp2
                     replace HO_3 := Aside0.mk (Kd.R_drew HO_3.out)
                     replace HO_4 := Aside0.mk (Kd.R_drew HO_4.out)
                     replace HO_5 := Aside0.mk (Kd.R_drew HO_5.out)
                     replace HO_7 := Aside0.mk (Kd.R_drew HO_7.out)
                     replace HO_8 := Aside0.mk (Kd.R_drew HO_8.out)
                     replace HB := Aside0.mk (below_drew1 HB.out)
                     have p488 : 0 ≤ (x9_4 : Int) := dT
                     have q488 : x9_4 < (t474.length : Int) := dT
                     try (obtain ⟨AoZ488, coZ488, eoZ488⟩ := Kd.R_slice HO_7.out; subst eoZ488)
                     obtain ⟨ad488, e488, hx488_0⟩ := Kd.at_int (Kd.R_reads' HO_7.out).2.2 x9_4 p488 q488
                     cases e488
                     replace p488 := eq_true p488
                     replace q488 := eq_true q488
                     obtain ⟨Ao68, co68, eo68⟩ := Kd.R_slice HO_5.out
                     (first | subst eo68 | (injection eo68 with f1_ f2_ f3_; have f4_ := f1_.symm; have f5_ := f3_.symm; clear f1_ f2_ f3_; subst f4_; subst f5_))
                     have p489 : 0 ≤ (x6_2 : Int) := dT
                     have q489 : x6_2 < (t466.length : Int) := dT
                     try (obtain ⟨AoZ489, coZ489, eoZ489⟩ := Kd.R_slice HO_5.out; subst eoZ489)
                     obtain ⟨ad489, e489, hx489_0⟩ := Kd.at_int (Kd.R_reads' HO_5.out).2.2 x6_2 p489 q489
                     cases e489
                     replace p489 := eq_true p489
                     replace q489 := eq_true q489
                     have p490 : 0 ≤ (x9_4 : Int) := dT
                     have q490 : x9_4 < (t474.length : Int) := dT
                     try (obtain ⟨AoZ490, coZ490, eoZ490⟩ := Kd.R_slice HO_7.out; subst eoZ490)
                     obtain ⟨ad490, e490, hx490_0⟩ := Kd.at_int (Kd.R_reads' HO_7.out).2.2 x9_4 p490 q490
                     obtain rfl : ad488 = ad490 := (by injection e490)
                     replace p490 := eq_true p490
                     replace q490 := eq_true q490
                     refine start_ (n := 43) (S := fun w' => w'.cell? (ad488.add (x9_4).toNat) = some (.int .i64 (rd t474 x9_4)) ∧ w'.cell? (ad489.add (x6_2).toNat) = some (.int .i64 (rd t466 x6_2)) ∧ w'.cell? (ad488.add (x9_4).toNat) = some (.int .i64 (rd t474 x9_4))) (ds := []) #[false,false,false,false,false,false,false,false,false,false,false,false,false,false,false,false,false,false,false,false,false,false,false,false,false,false,false,false,false,false,false,false,false,false,false,false,false,false,false,false,false,false,false] (by kernel_rfl) rfl rfl ⟨hx488_0, hx489_0, hx490_0⟩ (fun hHeld => ?_); refine with_tabW laws_FnJoins.tab18 laws_FnJoins.bits18 (fun HT_ HW_ => ?_)
                     generalize wr.drew = w67 at HO_3 HO_4 HO_5 HO_7 HO_8 HB hx488_0 hx489_0 hx490_0 hHeld ⊢
                     refine pU 0 90 (v := ?_) (a' := ?_) #[Y,Z,Z,Z,Z,Z,Z,Z,Z,Z,Z,Z,Z,Z,Z,Z,Z,Z,Z,Z,Z,Z,Z,Z,Z,Z,Z,Z,Z,Z,Z,Z,Z,Z,Z,Z,Z,Z,Z,Z,Z,Z,Z] HT_ rfl rfl (by kernel_rfl) ?_ ?_ ?_;rotate_left;(intro w';go_simp;with_reducible rfl);rotate_left;(simp only [Act.put, sA, s0, sN, i64_w, i32_w];rfl)
                     refine pU 1 91 (v := ?_) (a' := ?_) #[Y,Y,Z,Z,Z,Z,Z,Z,Z,Z,Z,Z,Z,Z,Z,Z,Z,Z,Z,Z,Z,Z,Z,Z,Z,Z,Z,Z,Z,Z,Z,Z,Z,Z,Z,Z,Z,Z,Z,Z,Z,Z,Z] HT_ rfl rfl (by kernel_rfl) ?_ ?_ ?_;rotate_left;(intro w';go_simp;with_reducible rfl);rotate_left;(simp only [Act.put, sA, s0, sN, i64_w, i32_w];rfl)
                     refine pU 2 92 (v := ?_) (a' := ?_) #[Y,Y,Y,Z,Z,Z,Z,Z,Z,Z,Z,Z,Z,Z,Z,Z,Z,Z,Z,Z,Z,Z,Z,Z,Z,Z,Z,Z,Z,Z,Z,Z,Z,Z,Z,Z,Z,Z,Z,Z,Z,Z,Z] HT_ rfl rfl (by kernel_rfl) ?_ ?_ ?_;rotate_left;(intro w';go_simp;with_reducible rfl);rotate_left;(simp only [Act.put, sA, s0, sN, i64_w, i32_w];rfl)
                     refine pU 4 94 (v := ?_) (a' := ?_) #[Y,Y,Y,Z,Y,Z,Z,Z,Z,Z,Z,Z,Z,Z,Z,Z,Z,Z,Z,Z,Z,Z,Z,Z,Z,Z,Z,Z,Z,Z,Z,Z,Z,Z,Z,Z,Z,Z,Z,Z,Z,Z,Z] HT_ rfl rfl (by kernel_rfl) ?_ ?_ ?_;rotate_left;(intro w';go_simp;with_reducible rfl);rotate_left;(simp only [Act.put, sA, s0, sN, i64_w, i32_w];rfl)
                     refine pU 5 95 (v := ?_) (a' := ?_) #[Y,Y,Y,Z,Y,Y,Z,Z,Z,Z,Z,Z,Z,Z,Z,Z,Z,Z,Z,Z,Z,Z,Z,Z,Z,Z,Z,Z,Z,Z,Z,Z,Z,Z,Z,Z,Z,Z,Z,Z,Z,Z,Z] HT_ rfl rfl (by kernel_rfl) ?_ ?_ ?_;rotate_left;(intro w';go_simp;with_reducible rfl);rotate_left;(simp only [Act.put, sA, s0, sN, i64_w, i32_w];rfl)
                     refine pU 6 96 (v := ?_) (a' := ?_) #[Y,Y,Y,Z,Y,Y,Y,Z,Z,Z,Z,Z,Z,Z,Z,Z,Z,Z,Z,Z,Z,Z,Z,Z,Z,Z,Z,Z,Z,Z,Z,Z,Z,Z,Z,Z,Z,Z,Z,Z,Z,Z,Z] HT_ rfl rfl (by kernel_rfl) ?_ ?_ ?_;rotate_left;(intro w';go_simp;with_reducible rfl);rotate_left;(simp only [Act.put, sA, s0, sN, i64_w, i32_w];rfl)
                     refine take_ (i := 3) (N := some 93) (v := ?_) (a' := ?_) #[Y,Y,Y,Y,Y,Y,Y,Z,Z,Z,Z,Z,Z,Z,Z,Z,Z,Z,Z,Z,Z,Z,Z,Z,Z,Z,Z,Z,Z,Z,Z,Z,Z,Z,Z,Z,Z,Z,Z,Z,Z,Z,Z] rfl rfl (take_ofW HT_.out HW_.out (by kernel_rfl)) (fun _ _ _ h => h) (Or.inl ⟨by rfl, ?_⟩) hHeld ?_ ?_
                     rotate_left
                     ·rintro w' ⟨s0, s1, s2⟩
                      go_simp
                      with_reducible rfl
                     rotate_left
                     ·simp only [Act.put, sA, s0, sN, i64_w, i32_w]
                      rfl
                     refine take_ (i := 7) (N := some 97) (v := ?_) (a' := ?_) #[Y,Y,Y,Y,Y,Y,Y,Y,Z,Z,Z,Z,Z,Z,Z,Z,Z,Z,Z,Z,Z,Z,Z,Z,Z,Z,Z,Z,Z,Z,Z,Z,Z,Z,Z,Z,Z,Z,Z,Z,Z,Z,Z] rfl rfl (take_ofW HT_.out HW_.out (by kernel_rfl)) (fun _ _ _ h => h) (Or.inl ⟨by rfl, ?_⟩) hHeld ?_ ?_
                     rotate_left
                     ·rintro w' ⟨s0, s1, s2⟩
                      go_simp
                      with_reducible rfl
                     rotate_left
                     ·simp only [Act.put, sA, s0, sN, i64_w, i32_w]
                      rfl
                     refine pU 8 98 (v := ?_) (a' := ?_) #[Y,Y,Y,Y,Y,Y,Y,Y,Y,Z,Z,Z,Z,Z,Z,Z,Z,Z,Z,Z,Z,Z,Z,Z,Z,Z,Z,Z,Z,Z,Z,Z,Z,Z,Z,Z,Z,Z,Z,Z,Z,Z,Z] HT_ rfl rfl (by kernel_rfl) ?_ ?_ ?_;rotate_left;(intro w';go_simp;with_reducible rfl);rotate_left;(simp only [Act.put, sA, s0, sN, i64_w, i32_w];rfl)
                     refine pU 9 99 (v := ?_) (a' := ?_) #[Y,Y,Y,Y,Y,Y,Y,Y,Y,Y,Z,Z,Z,Z,Z,Z,Z,Z,Z,Z,Z,Z,Z,Z,Z,Z,Z,Z,Z,Z,Z,Z,Z,Z,Z,Z,Z,Z,Z,Z,Z,Z,Z] HT_ rfl rfl (by kernel_rfl) ?_ ?_ ?_;rotate_left;(intro w';go_simp;with_reducible rfl);rotate_left;(simp only [Act.put, sA, s0, sN, i64_w, i32_w];rfl)
                     refine pure_ (i := 10) (N := some 100) (v := undef) (a' := ?_) #[Y,Y,Y,Y,Y,Y,Y,Y,Y,Y,Y,Z,Z,Z,Z,Z,Z,Z,Z,Z,Z,Z,Z,Z,Z,Z,Z,Z,Z,Z,Z,Z,Z,Z,Z,Z,Z,Z,Z,Z,Z,Z,Z] rfl rfl (any_of HT_.out (by kernel_rfl)) (fun _ _ _ h => h) (Or.inr ⟨by rfl, rfl⟩) ?_ ?_
                     rotate_left
                     ·simp only [Act.put, sA, s0, sN, i64_w, i32_w]
                      rfl
                     refine pure_ (i := 11) (N := some 101) (v := undef) (a' := ?_) #[Y,Y,Y,Y,Y,Y,Y,Y,Y,Y,Y,Y,Z,Z,Z,Z,Z,Z,Z,Z,Z,Z,Z,Z,Z,Z,Z,Z,Z,Z,Z,Z,Z,Z,Z,Z,Z,Z,Z,Z,Z,Z,Z] rfl rfl (any_of HT_.out (by kernel_rfl)) (fun _ _ _ h => h) (Or.inr ⟨by rfl, rfl⟩) ?_ ?_
                     rotate_left
                     ·simp only [Act.put, sA, s0, sN, i64_w, i32_w]
                      rfl
                     refine pure_ (i := 12) (N := some 102) (v := undef) (a' := ?_) #[Y,Y,Y,Y,Y,Y,Y,Y,Y,Y,Y,Y,Y,Z,Z,Z,Z,Z,Z,Z,Z,Z,Z,Z,Z,Z,Z,Z,Z,Z,Z,Z,Z,Z,Z,Z,Z,Z,Z,Z,Z,Z,Z] rfl rfl (any_of HT_.out (by kernel_rfl)) (fun _ _ _ h => h) (Or.inr ⟨by rfl, rfl⟩) ?_ ?_
                     rotate_left
                     ·simp only [Act.put, sA, s0, sN, i64_w, i32_w]
                      rfl
                     refine pure_ (i := 13) (N := some 103) (v := undef) (a' := ?_) #[Y,Y,Y,Y,Y,Y,Y,Y,Y,Y,Y,Y,Y,Y,Z,Z,Z,Z,Z,Z,Z,Z,Z,Z,Z,Z,Z,Z,Z,Z,Z,Z,Z,Z,Z,Z,Z,Z,Z,Z,Z,Z,Z] rfl rfl (any_of HT_.out (by kernel_rfl)) (fun _ _ _ h => h) (Or.inr ⟨by rfl, rfl⟩) ?_ ?_
                     rotate_left
                     ·simp only [Act.put, sA, s0, sN, i64_w, i32_w]
                      rfl
                     refine pure_ (i := 14) (N := some 104) (v := undef) (a' := ?_) #[Y,Y,Y,Y,Y,Y,Y,Y,Y,Y,Y,Y,Y,Y,Y,Z,Z,Z,Z,Z,Z,Z,Z,Z,Z,Z,Z,Z,Z,Z,Z,Z,Z,Z,Z,Z,Z,Z,Z,Z,Z,Z,Z] rfl rfl (any_of HT_.out (by kernel_rfl)) (fun _ _ _ h => h) (Or.inr ⟨by rfl, rfl⟩) ?_ ?_
                     rotate_left
                     ·simp only [Act.put, sA, s0, sN, i64_w, i32_w]
                      rfl
                     refine pure_ (i := 15) (N := some 105) (v := undef) (a' := ?_) #[Y,Y,Y,Y,Y,Y,Y,Y,Y,Y,Y,Y,Y,Y,Y,Y,Z,Z,Z,Z,Z,Z,Z,Z,Z,Z,Z,Z,Z,Z,Z,Z,Z,Z,Z,Z,Z,Z,Z,Z,Z,Z,Z] rfl rfl (any_of HT_.out (by kernel_rfl)) (fun _ _ _ h => h) (Or.inr ⟨by rfl, rfl⟩) ?_ ?_
                     rotate_left
                     ·simp only [Act.put, sA, s0, sN, i64_w, i32_w]
                      rfl
                     refine pure_ (i := 16) (N := some 106) (v := undef) (a' := ?_) #[Y,Y,Y,Y,Y,Y,Y,Y,Y,Y,Y,Y,Y,Y,Y,Y,Y,Z,Z,Z,Z,Z,Z,Z,Z,Z,Z,Z,Z,Z,Z,Z,Z,Z,Z,Z,Z,Z,Z,Z,Z,Z,Z] rfl rfl (any_of HT_.out (by kernel_rfl)) (fun _ _ _ h => h) (Or.inr ⟨by rfl, rfl⟩) ?_ ?_
                     rotate_left
                     ·simp only [Act.put, sA, s0, sN, i64_w, i32_w]
                      rfl
                     refine pure_ (i := 17) (N := some 107) (v := undef) (a' := ?_) #[Y,Y,Y,Y,Y,Y,Y,Y,Y,Y,Y,Y,Y,Y,Y,Y,Y,Y,Z,Z,Z,Z,Z,Z,Z,Z,Z,Z,Z,Z,Z,Z,Z,Z,Z,Z,Z,Z,Z,Z,Z,Z,Z] rfl rfl (any_of HT_.out (by kernel_rfl)) (fun _ _ _ h => h) (Or.inr ⟨by rfl, rfl⟩) ?_ ?_
                     rotate_left
                     ·simp only [Act.put, sA, s0, sN, i64_w, i32_w]
                      rfl
                     refine pure_ (i := 18) (N := some 108) (v := undef) (a' := ?_) #[Y,Y,Y,Y,Y,Y,Y,Y,Y,Y,Y,Y,Y,Y,Y,Y,Y,Y,Y,Z,Z,Z,Z,Z,Z,Z,Z,Z,Z,Z,Z,Z,Z,Z,Z,Z,Z,Z,Z,Z,Z,Z,Z] rfl rfl (any_of HT_.out (by kernel_rfl)) (fun _ _ _ h => h) (Or.inr ⟨by rfl, rfl⟩) ?_ ?_
                     rotate_left
                     ·simp only [Act.put, sA, s0, sN, i64_w, i32_w]
                      rfl
                     refine pure_ (i := 19) (N := some 109) (v := undef) (a' := ?_) #[Y,Y,Y,Y,Y,Y,Y,Y,Y,Y,Y,Y,Y,Y,Y,Y,Y,Y,Y,Y,Z,Z,Z,Z,Z,Z,Z,Z,Z,Z,Z,Z,Z,Z,Z,Z,Z,Z,Z,Z,Z,Z,Z] rfl rfl (any_of HT_.out (by kernel_rfl)) (fun _ _ _ h => h) (Or.inr ⟨by rfl, rfl⟩) ?_ ?_
                     rotate_left
                     ·simp only [Act.put, sA, s0, sN, i64_w, i32_w]
                      rfl
                     refine pure_ (i := 20) (N := some 110) (v := undef) (a' := ?_) #[Y,Y,Y,Y,Y,Y,Y,Y,Y,Y,Y,Y,Y,Y,Y,Y,Y,Y,Y,Y,Y,Z,Z,Z,Z,Z,Z,Z,Z,Z,Z,Z,Z,Z,Z,Z,Z,Z,Z,Z,Z,Z,Z] rfl rfl (any_of HT_.out (by kernel_rfl)) (fun _ _ _ h => h) (Or.inr ⟨by rfl, rfl⟩) ?_ ?_
                     rotate_left
                     ·simp only [Act.put, sA, s0, sN, i64_w, i32_w]
                      rfl
                     refine pU 21 111 (v := ?_) (a' := ?_) #[Y,Y,Y,Y,Y,Y,Y,Y,Y,Y,Y,Y,Y,Y,Y,Y,Y,Y,Y,Y,Y,Y,Z,Z,Z,Z,Z,Z,Z,Z,Z,Z,Z,Z,Z,Z,Z,Z,Z,Z,Z,Z,Z] HT_ rfl rfl (by kernel_rfl) ?_ ?_ ?_;rotate_left;(intro w';go_simp;with_reducible rfl);rotate_left;(simp only [Act.put, sA, s0, sN, i64_w, i32_w];rfl)
                     refine pU 22 112 (v := ?_) (a' := ?_) #[Y,Y,Y,Y,Y,Y,Y,Y,Y,Y,Y,Y,Y,Y,Y,Y,Y,Y,Y,Y,Y,Y,Y,Z,Z,Z,Z,Z,Z,Z,Z,Z,Z,Z,Z,Z,Z,Z,Z,Z,Z,Z,Z] HT_ rfl rfl (by kernel_rfl) ?_ ?_ ?_;rotate_left;(intro w';go_simp;with_reducible rfl);rotate_left;(simp only [Act.put, sA, s0, sN, i64_w, i32_w];rfl)
                     refine pU 23 113 (v := ?_) (a' := ?_) #[Y,Y,Y,Y,Y,Y,Y,Y,Y,Y,Y,Y,Y,Y,Y,Y,Y,Y,Y,Y,Y,Y,Y,Y,Z,Z,Z,Z,Z,Z,Z,Z,Z,Z,Z,Z,Z,Z,Z,Z,Z,Z,Z] HT_ rfl rfl (by kernel_rfl) ?_ ?_ ?_;rotate_left;(intro w';go_simp;with_reducible rfl);rotate_left;(simp only [Act.put, sA, s0, sN, i64_w, i32_w];rfl)
                     refine pU 24 114 (v := ?_) (a' := ?_) #[Y,Y,Y,Y,Y,Y,Y,Y,Y,Y,Y,Y,Y,Y,Y,Y,Y,Y,Y,Y,Y,Y,Y,Y,Y,Z,Z,Z,Z,Z,Z,Z,Z,Z,Z,Z,Z,Z,Z,Z,Z,Z,Z] HT_ rfl rfl (by kernel_rfl) ?_ ?_ ?_;rotate_left;(intro w';go_simp;with_reducible rfl);rotate_left;(simp only [Act.put, sA, s0, sN, i64_w, i32_w];rfl)
                     refine pU 25 115 (v := ?_) (a' := ?_) #[Y,Y,Y,Y,Y,Y,Y,Y,Y,Y,Y,Y,Y,Y,Y,Y,Y,Y,Y,Y,Y,Y,Y,Y,Y,Y,Z,Z,Z,Z,Z,Z,Z,Z,Z,Z,Z,Z,Z,Z,Z,Z,Z] HT_ rfl rfl (by kernel_rfl) ?_ ?_ ?_;rotate_left;(intro w';go_simp;with_reducible rfl);rotate_left;(simp only [Act.put, sA, s0, sN, i64_w, i32_w];rfl)
                     refine pU 26 116 (v := ?_) (a' := ?_) #[Y,Y,Y,Y,Y,Y,Y,Y,Y,Y,Y,Y,Y,Y,Y,Y,Y,Y,Y,Y,Y,Y,Y,Y,Y,Y,Y,Z,Z,Z,Z,Z,Z,Z,Z,Z,Z,Z,Z,Z,Z,Z,Z] HT_ rfl rfl (by kernel_rfl) ?_ ?_ ?_;rotate_left;(intro w';go_simp;with_reducible rfl);rotate_left;(simp only [Act.put, sA, s0, sN, i64_w, i32_w];rfl)
                     refine take_ (i := 27) (N := some 117) (v := ?_) (a' := ?_) #[Y,Y,Y,Y,Y,Y,Y,Y,Y,Y,Y,Y,Y,Y,Y,Y,Y,Y,Y,Y,Y,Y,Y,Y,Y,Y,Y,Y,Z,Z,Z,Z,Z,Z,Z,Z,Z,Z,Z,Z,Z,Z,Z] rfl rfl (take_ofW HT_.out HW_.out (by kernel_rfl)) (fun _ _ _ h => h) (Or.inl ⟨by rfl, ?_⟩) hHeld ?_ ?_
                     rotate_left
                     ·rintro w' ⟨s0, s1, s2⟩
                      go_simp
                      with_reducible rfl
                     rotate_left
                     ·simp only [Act.put, sA, s0, sN, i64_w, i32_w]
                      rfl
                     refine one_ (i := 28) (N := some 118) #[Y,Y,Y,Y,Y,Y,Y,Y,Y,Y,Y,Y,Y,Y,Y,Y,Y,Y,Y,Y,Y,Y,Y,Y,Y,Y,Y,Y,Y,Z,Z,Z,Z,Z,Z,Z,Z,Z,Z,Z,Z,Z,Z] rfl rfl (one_of HT_.out (by kernel_rfl)) (by decide) (fun K hK => ?_)
                     refine goes_ Try.func24 (by kernel_rfl) rfl #[.slice Ao9 t460.length co9, .int .i64 (rd t474 x9_4)] (by rfl) rfl rfl bz ?_
                     with_reducible refine (impl_ReachesExit.calls k4 _ _ t460 (rd t474 x9_4) false _ ?side1 ?side2 A57.out).mono ?_
                     (case side1 => exact cS (Kd.R_reads' HO_3.out).2.2)
                     (case side2 => exact (Kd.R_reads' HO_3.out).2.1)
                     rintro e w69 ⟨rfl, hb⟩
                     have HS0_ := (hb.cell (World.block_lt_of_cell? _ _ (hHeld.1))).trans (hHeld.1)
                     have HS1_ := (hb.cell (World.block_lt_of_cell? _ _ (hHeld.2.1))).trans (hHeld.2.1)
                     have HS2_ := (hb.cell (World.block_lt_of_cell? _ _ (hHeld.2.2))).trans (hHeld.2.2)
                     refine ⟨_, rfl, ?_⟩
                     replace HO_3 := Aside0.mk (Kd.R_below (rS HO_3.out) hb)
                     replace HO_4 := Aside0.mk (Kd.R_below (rS HO_4.out) hb)
                     replace HO_5 := Aside0.mk (Kd.R_below (rS HO_5.out) hb)
                     replace HO_7 := Aside0.mk (Kd.R_below (rS HO_7.out) hb)
                     replace HO_8 := Aside0.mk (Kd.R_below (rS HO_8.out) hb)
                     replace HB := Aside0.mk (below_step bw hb)
                     (try clear hb)
                     (try clear hb2)
                     (try clear hk)
                     (try clear hi)
                     refine hK.out _ _ ⟨HS0_, HS1_, HS2_⟩ (fun hHeld => ?_)
                     clear hK K
                     refine norm_ (a' := ?_) ?_ ?_
                     rotate_left
                     ·show Act.put _ (some 118) _ = _
                      simp only [Act.put, sA, s0, sN, i64_w, i32_w]
                      rfl
                     refine pU 29 119 (v := ?_) (a' := ?_) #[Y,Y,Y,Y,Y,Y,Y,Y,Y,Y,Y,Y,Y,Y,Y,Y,Y,Y,Y,Y,Y,Y,Y,Y,Y,Y,Y,Y,Y,Y,Z,Z,Z,Z,Z,Z,Z,Z,Z,Z,Z,Z,Z] HT_ rfl rfl (by kernel_rfl) ?_ ?_ ?_;rotate_left;(intro w';go_simp;with_reducible rfl);rotate_left;(simp only [Act.put, sA, s0, sN, i64_w, i32_w];rfl)
                     refine pure_ (i := 30) (N := some 120) (v := undef) (a' := ?_) #[Y,Y,Y,Y,Y,Y,Y,Y,Y,Y,Y,Y,Y,Y,Y,Y,Y,Y,Y,Y,Y,Y,Y,Y,Y,Y,Y,Y,Y,Y,Y,Z,Z,Z,Z,Z,Z,Z,Z,Z,Z,Z,Z] rfl rfl (any_of HT_.out (by kernel_rfl)) (fun _ _ _ h => h) (Or.inr ⟨by rfl, rfl⟩) ?_ ?_
                     rotate_left
                     ·simp only [Act.put, sA, s0, sN, i64_w, i32_w]
                      rfl
                     refine pure_ (i := 31) (N := some 121) (v := undef) (a' := ?_) #[Y,Y,Y,Y,Y,Y,Y,Y,Y,Y,Y,Y,Y,Y,Y,Y,Y,Y,Y,Y,Y,Y,Y,Y,Y,Y,Y,Y,Y,Y,Y,Y,Z,Z,Z,Z,Z,Z,Z,Z,Z,Z,Z] rfl rfl (any_of HT_.out (by kernel_rfl)) (fun _ _ _ h => h) (Or.inr ⟨by rfl, rfl⟩) ?_ ?_
                     rotate_left
                     ·simp only [Act.put, sA, s0, sN, i64_w, i32_w]
                      rfl
                     refine pure_ (i := 32) (N := some 122) (v := undef) (a' := ?_) #[Y,Y,Y,Y,Y,Y,Y,Y,Y,Y,Y,Y,Y,Y,Y,Y,Y,Y,Y,Y,Y,Y,Y,Y,Y,Y,Y,Y,Y,Y,Y,Y,Y,Z,Z,Z,Z,Z,Z,Z,Z,Z,Z] rfl rfl (any_of HT_.out (by kernel_rfl)) (fun _ _ _ h => h) (Or.inr ⟨by rfl, rfl⟩) ?_ ?_
                     rotate_left
                     ·simp only [Act.put, sA, s0, sN, i64_w, i32_w]
                      rfl
                     refine pure_ (i := 33) (N := some 123) (v := undef) (a' := ?_) #[Y,Y,Y,Y,Y,Y,Y,Y,Y,Y,Y,Y,Y,Y,Y,Y,Y,Y,Y,Y,Y,Y,Y,Y,Y,Y,Y,Y,Y,Y,Y,Y,Y,Y,Z,Z,Z,Z,Z,Z,Z,Z,Z] rfl rfl (any_of HT_.out (by kernel_rfl)) (fun _ _ _ h => h) (Or.inr ⟨by rfl, rfl⟩) ?_ ?_
                     rotate_left
                     ·simp only [Act.put, sA, s0, sN, i64_w, i32_w]
                      rfl
                     refine pure_ (i := 34) (N := some 124) (v := undef) (a' := ?_) #[Y,Y,Y,Y,Y,Y,Y,Y,Y,Y,Y,Y,Y,Y,Y,Y,Y,Y,Y,Y,Y,Y,Y,Y,Y,Y,Y,Y,Y,Y,Y,Y,Y,Y,Y,Z,Z,Z,Z,Z,Z,Z,Z] rfl rfl (any_of HT_.out (by kernel_rfl)) (fun _ _ _ h => h) (Or.inr ⟨by rfl, rfl⟩) ?_ ?_
                     rotate_left
                     ·simp only [Act.put, sA, s0, sN, i64_w, i32_w]
                      rfl
                     refine pure_ (i := 35) (N := some 125) (v := undef) (a' := ?_) #[Y,Y,Y,Y,Y,Y,Y,Y,Y,Y,Y,Y,Y,Y,Y,Y,Y,Y,Y,Y,Y,Y,Y,Y,Y,Y,Y,Y,Y,Y,Y,Y,Y,Y,Y,Y,Z,Z,Z,Z,Z,Z,Z] rfl rfl (any_of HT_.out (by kernel_rfl)) (fun _ _ _ h => h) (Or.inr ⟨by rfl, rfl⟩) ?_ ?_
                     rotate_left
                     ·simp only [Act.put, sA, s0, sN, i64_w, i32_w]
                      rfl
                     refine pure_ (i := 36) (N := some 126) (v := undef) (a' := ?_) #[Y,Y,Y,Y,Y,Y,Y,Y,Y,Y,Y,Y,Y,Y,Y,Y,Y,Y,Y,Y,Y,Y,Y,Y,Y,Y,Y,Y,Y,Y,Y,Y,Y,Y,Y,Y,Y,Z,Z,Z,Z,Z,Z] rfl rfl (any_of HT_.out (by kernel_rfl)) (fun _ _ _ h => h) (Or.inr ⟨by rfl, rfl⟩) ?_ ?_
                     rotate_left
                     ·simp only [Act.put, sA, s0, sN, i64_w, i32_w]
                      rfl
                     refine pure_ (i := 37) (N := some 127) (v := undef) (a' := ?_) #[Y,Y,Y,Y,Y,Y,Y,Y,Y,Y,Y,Y,Y,Y,Y,Y,Y,Y,Y,Y,Y,Y,Y,Y,Y,Y,Y,Y,Y,Y,Y,Y,Y,Y,Y,Y,Y,Y,Z,Z,Z,Z,Z] rfl rfl (any_of HT_.out (by kernel_rfl)) (fun _ _ _ h => h) (Or.inr ⟨by rfl, rfl⟩) ?_ ?_
                     rotate_left
                     ·simp only [Act.put, sA, s0, sN, i64_w, i32_w]
                      rfl
                     refine pure_ (i := 38) (N := some 128) (v := undef) (a' := ?_) #[Y,Y,Y,Y,Y,Y,Y,Y,Y,Y,Y,Y,Y,Y,Y,Y,Y,Y,Y,Y,Y,Y,Y,Y,Y,Y,Y,Y,Y,Y,Y,Y,Y,Y,Y,Y,Y,Y,Y,Z,Z,Z,Z] rfl rfl (any_of HT_.out (by kernel_rfl)) (fun _ _ _ h => h) (Or.inr ⟨by rfl, rfl⟩) ?_ ?_
                     rotate_left
                     ·simp only [Act.put, sA, s0, sN, i64_w, i32_w]
                      rfl
                     refine pure_ (i := 39) (N := some 129) (v := undef) (a' := ?_) #[Y,Y,Y,Y,Y,Y,Y,Y,Y,Y,Y,Y,Y,Y,Y,Y,Y,Y,Y,Y,Y,Y,Y,Y,Y,Y,Y,Y,Y,Y,Y,Y,Y,Y,Y,Y,Y,Y,Y,Y,Z,Z,Z] rfl rfl (any_of HT_.out (by kernel_rfl)) (fun _ _ _ h => h) (Or.inr ⟨by rfl, rfl⟩) ?_ ?_
                     rotate_left
                     ·simp only [Act.put, sA, s0, sN, i64_w, i32_w]
                      rfl
                     refine pure_ (i := 40) (N := some 130) (v := undef) (a' := ?_) #[Y,Y,Y,Y,Y,Y,Y,Y,Y,Y,Y,Y,Y,Y,Y,Y,Y,Y,Y,Y,Y,Y,Y,Y,Y,Y,Y,Y,Y,Y,Y,Y,Y,Y,Y,Y,Y,Y,Y,Y,Y,Z,Z] rfl rfl (any_of HT_.out (by kernel_rfl)) (fun _ _ _ h => h) (Or.inr ⟨by rfl, rfl⟩) ?_ ?_
                     rotate_left
                     ·simp only [Act.put, sA, s0, sN, i64_w, i32_w]
                      rfl
                     refine pU 41 131 (v := ?_) (a' := ?_) #[Y,Y,Y,Y,Y,Y,Y,Y,Y,Y,Y,Y,Y,Y,Y,Y,Y,Y,Y,Y,Y,Y,Y,Y,Y,Y,Y,Y,Y,Y,Y,Y,Y,Y,Y,Y,Y,Y,Y,Y,Y,Y,Z] HT_ rfl rfl (by kernel_rfl) ?_ ?_ ?_;rotate_left;(intro w';go_simp;with_reducible rfl);rotate_left;(simp only [Act.put, sA, s0, sN, i64_w, i32_w];rfl)
                     refine pU 42 132 (v := ?_) (a' := ?_) #[Y,Y,Y,Y,Y,Y,Y,Y,Y,Y,Y,Y,Y,Y,Y,Y,Y,Y,Y,Y,Y,Y,Y,Y,Y,Y,Y,Y,Y,Y,Y,Y,Y,Y,Y,Y,Y,Y,Y,Y,Y,Y,Y] HT_ rfl rfl (by kernel_rfl) ?_ ?_ ?_;rotate_left;(intro w';go_simp;with_reducible rfl);rotate_left;(simp only [Act.put, sA, s0, sN, i64_w, i32_w];rfl)
                     refine done_ (done_of HT_.out (by kernel_rfl)) ?_
                     try go_wp2
                     go_roundg k4
                     case measure => have := HJ6.out; have := HK2.out; have := HJ25.out; have := HK4.out; omega
                     case rel => exact ⟨(wrap64 (x9_4 + 1)), tR, H', ⟨by have := HJ6.out; have := HK2.out; have := HJ25.out; have := HK4.out; omega⟩, ⟨rS HO_3.out⟩, ⟨rS HO_4.out⟩, ⟨rS HO_5.out⟩, ⟨rS HO_7.out⟩, ⟨rS HO_8.out⟩, ⟨bw⟩⟩
                  ·rw [if_neg c56] at H
                   have c56b0 : ((rd t474 x9_4) == (rd t466 x6_2)) = false := beq_eq_false_iff_ne.mpr c56
                   have c56b1 : ((rd t474 x9_4) != (rd t466 x6_2)) = true := bne_iff_ne.mpr c56
                   by_cases c70 : x6_2 < (t463.length : Int)
                   ·rw [if_pos c70] at H
                    have c70b0 : decide (x6_2 < (t463.length : Int)) = true := decide_eq_true c70
                    clear c70
                    replace H := Option.bind_eq_some_iff.mp H
                    obtain ⟨t497, A710, H⟩ := H
                    replace H : (if t497 = true then ((impl_ReachesExit.f k4 t460 (rd t474 x9_4)).bind fun t499 => (if t499 = true then ((impl_IsAfter.f k4 t460 (rd t474 x9_4) (rd t466 x6_2)).bind fun t502 => (if t502 = true then (laws_FnJoins.l1 k4 t460 t463 t466 x6_2 t474 t478 (wrap64 (x9_4 + 1))) else (none))) else (laws_FnJoins.l1 k4 t460 t463 t466 x6_2 t474 t478 (wrap64 (x9_4 + 1))))) else (none)) = some r := H
                    have A71 := Aside0.mk A710
                    clear A710
                    by_cases c72 : t497 = true
                    ·subst c72
                     have H1 : ((impl_ReachesExit.f k4 t460 (rd t474 x9_4)).bind fun t499 => (if t499 = true then ((impl_IsAfter.f k4 t460 (rd t474 x9_4) (rd t466 x6_2)).bind fun t502 => (if t502 = true then (laws_FnJoins.l1 k4 t460 t463 t466 x6_2 t474 t478 (wrap64 (x9_4 + 1))) else (none))) else (laws_FnJoins.l1 k4 t460 t463 t466 x6_2 t474 t478 (wrap64 (x9_4 + 1))))) = some r := by rw [if_pos rfl] at H; exact H
                     clear H
                     have H := H1
                     clear H1
                     replace H := Option.bind_eq_some_iff.mp H
                     obtain ⟨t499, A730, H⟩ := H
                     replace H : (if t499 = true then ((impl_IsAfter.f k4 t460 (rd t474 x9_4) (rd t466 x6_2)).bind fun t502 => (if t502 = true then (laws_FnJoins.l1 k4 t460 t463 t466 x6_2 t474 t478 (wrap64 (x9_4 + 1))) else (none))) else (laws_FnJoins.l1 k4 t460 t463 t466 x6_2 t474 t478 (wrap64 (x9_4 + 1)))) = some r := H
                     have A73 := Aside0.mk A730
                     clear A730
                     by_cases c74 : t499 = true
                     ·subst c74
                      have H1 : ((impl_IsAfter.f k4 t460 (rd t474 x9_4) (rd t466 x6_2)).bind fun t502 => (if t502 = true then (laws_FnJoins.l1 k4 t460 t463 t466 x6_2 t474 t478 (wrap64 (x9_4 + 1))) else (none))) = some r := by rw [if_pos rfl] at H; exact H
                      clear H
                      have H := H1
                      clear H1
                      replace H := Option.bind_eq_some_iff.mp H
                      obtain ⟨t502, A750, H⟩ := H
                      replace H : (if t502 = true then (laws_FnJoins.l1 k4 t460 t463 t466 x6_2 t474 t478 (wrap64 (x9_4 + 1))) else (none)) = some r := H
                      have A75 := Aside0.mk A750
                      clear A750
                      by_cases c76 : t502 = true
                      ·subst c76
                       have H1 : (laws_FnJoins.l1 k4 t460 t463 t466 x6_2 t474 t478 (wrap64 (x9_4 + 1))) = some r := by rw [if_pos rfl] at H; exact H
                       clear H
                       have H := H1
                       clear H1
                       as_aux_lemma =>
                        have H' := Aside0.mk H
                        clear H
                        obtain ⟨Ao77, co77, eo77⟩ := Kd.R_slice HO_7.out
                        subst eo77
                        try go_wp2
                        replace HO_3 := Aside0.mk (Kd.R_drew HO_3.out)
                        replace HO_4 := Aside0.mk (Kd.R_drew HO_4.out)
                        replace HO_5 := Aside0.mk (Kd.R_drew HO_5.out)
                        replace HO_7 := Aside0.mk (Kd.R_drew HO_7.out)
                        replace HO_8 := Aside0.mk (Kd.R_drew HO_8.out)
                        replace HB := Aside0.mk (below_drew1 HB.out)
                        have p488 : 0 ≤ (x9_4 : Int) := dT
                        have q488 : x9_4 < (t474.length : Int) := dT
                        try (obtain ⟨AoZ488, coZ488, eoZ488⟩ := Kd.R_slice HO_7.out; subst eoZ488)
                        obtain ⟨ad488, e488, hx488_0⟩ := Kd.at_int (Kd.R_reads' HO_7.out).2.2 x9_4 p488 q488
                        cases e488
                        replace p488 := eq_true p488
                        replace q488 := eq_true q488
                        obtain ⟨Ao79, co79, eo79⟩ := Kd.R_slice HO_5.out
                        (first | subst eo79 | (injection eo79 with f1_ f2_ f3_; have f4_ := f1_.symm; have f5_ := f3_.symm; clear f1_ f2_ f3_; subst f4_; subst f5_))
                        have p489 : 0 ≤ (x6_2 : Int) := dT
                        have q489 : x6_2 < (t466.length : Int) := dT
                        try (obtain ⟨AoZ489, coZ489, eoZ489⟩ := Kd.R_slice HO_5.out; subst eoZ489)
                        obtain ⟨ad489, e489, hx489_0⟩ := Kd.at_int (Kd.R_reads' HO_5.out).2.2 x6_2 p489 q489
                        cases e489
                        replace p489 := eq_true p489
                        replace q489 := eq_true q489
                        have p495 : 0 ≤ (x6_2 : Int) := dT
                        have q495 : x6_2 < (t463.length : Int) := dT
                        try (obtain ⟨AoZ495, coZ495, eoZ495⟩ := Kd.R_slice HO_4.out; subst eoZ495)
                        obtain ⟨ad495, e495, hx495_0⟩ := Kd.at_int (Kd.R_reads' HO_4.out).2.2 x6_2 p495 q495
                        obtain rfl : ad473 = ad495 := (by injection e495)
                        replace p495 := eq_true p495
                        replace q495 := eq_true q495
                        have p496 : 0 ≤ (x9_4 : Int) := dT
                        have q496 : x9_4 < (t474.length : Int) := dT
                        try (obtain ⟨AoZ496, coZ496, eoZ496⟩ := Kd.R_slice HO_7.out; subst eoZ496)
                        obtain ⟨ad496, e496, hx496_0⟩ := Kd.at_int (Kd.R_reads' HO_7.out).2.2 x9_4 p496 q496
                        obtain rfl : ad488 = ad496 := (by injection e496)
                        replace p496 := eq_true p496
                        replace q496 := eq_true q496
                        have p498 : 0 ≤ (x9_4 : Int) := dT
                        have q498 : x9_4 < (t474.length : Int) := dT
                        try (obtain ⟨AoZ498, coZ498, eoZ498⟩ := Kd.R_slice HO_7.out; subst eoZ498)
                        obtain ⟨ad498, e498, hx498_0⟩ := Kd.at_int (Kd.R_reads' HO_7.out).2.2 x9_4 p498 q498
                        obtain rfl : ad488 = ad498 := (by injection e498)
                        replace p498 := eq_true p498
                        replace q498 := eq_true q498
                        have p500 : 0 ≤ (x9_4 : Int) := dT
                        have q500 : x9_4 < (t474.length : Int) := dT
                        try (obtain ⟨AoZ500, coZ500, eoZ500⟩ := Kd.R_slice HO_7.out; subst eoZ500)
                        obtain ⟨ad500, e500, hx500_0⟩ := Kd.at_int (Kd.R_reads' HO_7.out).2.2 x9_4 p500 q500
                        obtain rfl : ad488 = ad500 := (by injection e500)
                        replace p500 := eq_true p500
                        replace q500 := eq_true q500
                        have p501 : 0 ≤ (x6_2 : Int) := dT
                        have q501 : x6_2 < (t466.length : Int) := dT
                        try (obtain ⟨AoZ501, coZ501, eoZ501⟩ := Kd.R_slice HO_5.out; subst eoZ501)
                        obtain ⟨ad501, e501, hx501_0⟩ := Kd.at_int (Kd.R_reads' HO_5.out).2.2 x6_2 p501 q501
                        obtain rfl : ad489 = ad501 := (by injection e501)
                        replace p501 := eq_true p501
                        replace q501 := eq_true q501
                        refine start_ (n := 43) (S := fun w' => w'.cell? (ad488.add (x9_4).toNat) = some (.int .i64 (rd t474 x9_4)) ∧ w'.cell? (ad489.add (x6_2).toNat) = some (.int .i64 (rd t466 x6_2)) ∧ w'.cell? (ad473.add (x6_2).toNat) = some (.int .i64 (rd t463 x6_2)) ∧ w'.cell? (ad488.add (x9_4).toNat) = some (.int .i64 (rd t474 x9_4)) ∧ w'.cell? (ad488.add (x9_4).toNat) = some (.int .i64 (rd t474 x9_4)) ∧ w'.cell? (ad488.add (x9_4).toNat) = some (.int .i64 (rd t474 x9_4)) ∧ w'.cell? (ad489.add (x6_2).toNat) = some (.int .i64 (rd t466 x6_2))) (ds := []) #[false,false,false,false,false,false,false,false,false,false,false,false,false,false,false,false,false,false,false,false,false,false,false,false,false,false,false,false,false,false,false,false,false,false,false,false,false,false,false,false,false,false,false] (by kernel_rfl) rfl rfl ⟨hx488_0, hx489_0, hx495_0, hx496_0, hx498_0, hx500_0, hx501_0⟩ (fun hHeld => ?_); refine with_tabW laws_FnJoins.tab18 laws_FnJoins.bits18 (fun HT_ HW_ => ?_)
                        generalize wr.drew = w78 at HO_3 HO_4 HO_5 HO_7 HO_8 HB hx488_0 hx489_0 hx495_0 hx496_0 hx498_0 hx500_0 hx501_0 hHeld ⊢
                        refine pU 0 90 (v := ?_) (a' := ?_) #[Y,Z,Z,Z,Z,Z,Z,Z,Z,Z,Z,Z,Z,Z,Z,Z,Z,Z,Z,Z,Z,Z,Z,Z,Z,Z,Z,Z,Z,Z,Z,Z,Z,Z,Z,Z,Z,Z,Z,Z,Z,Z,Z] HT_ rfl rfl (by kernel_rfl) ?_ ?_ ?_;rotate_left;(intro w';go_simp;with_reducible rfl);rotate_left;(simp only [Act.put, sA, s0, sN, i64_w, i32_w];rfl)
                        refine pU 1 91 (v := ?_) (a' := ?_) #[Y,Y,Z,Z,Z,Z,Z,Z,Z,Z,Z,Z,Z,Z,Z,Z,Z,Z,Z,Z,Z,Z,Z,Z,Z,Z,Z,Z,Z,Z,Z,Z,Z,Z,Z,Z,Z,Z,Z,Z,Z,Z,Z] HT_ rfl rfl (by kernel_rfl) ?_ ?_ ?_;rotate_left;(intro w';go_simp;with_reducible rfl);rotate_left;(simp only [Act.put, sA, s0, sN, i64_w, i32_w];rfl)
                        refine pU 2 92 (v := ?_) (a' := ?_) #[Y,Y,Y,Z,Z,Z,Z,Z,Z,Z,Z,Z,Z,Z,Z,Z,Z,Z,Z,Z,Z,Z,Z,Z,Z,Z,Z,Z,Z,Z,Z,Z,Z,Z,Z,Z,Z,Z,Z,Z,Z,Z,Z] HT_ rfl rfl (by kernel_rfl) ?_ ?_ ?_;rotate_left;(intro w';go_simp;with_reducible rfl);rotate_left;(simp only [Act.put, sA, s0, sN, i64_w, i32_w];rfl)
                        refine pU 4 94 (v := ?_) (a' := ?_) #[Y,Y,Y,Z,Y,Z,Z,Z,Z,Z,Z,Z,Z,Z,Z,Z,Z,Z,Z,Z,Z,Z,Z,Z,Z,Z,Z,Z,Z,Z,Z,Z,Z,Z,Z,Z,Z,Z,Z,Z,Z,Z,Z] HT_ rfl rfl (by kernel_rfl) ?_ ?_ ?_;rotate_left;(intro w';go_simp;with_reducible rfl);rotate_left;(simp only [Act.put, sA, s0, sN, i64_w, i32_w];rfl)
                        refine pU 5 95 (v := ?_) (a' := ?_) #[Y,Y,Y,Z,Y,Y,Z,Z,Z,Z,Z,Z,Z,Z,Z,Z,Z,Z,Z,Z,Z,Z,Z,Z,Z,Z,Z,Z,Z,Z,Z,Z,Z,Z,Z,Z,Z,Z,Z,Z,Z,Z,Z] HT_ rfl rfl (by kernel_rfl) ?_ ?_ ?_;rotate_left;(intro w';go_simp;with_reducible rfl);rotate_left;(simp only [Act.put, sA, s0, sN, i64_w, i32_w];rfl)
                        refine pU 6 96 (v := ?_) (a' := ?_) #[Y,Y,Y,Z,Y,Y,Y,Z,Z,Z,Z,Z,Z,Z,Z,Z,Z,Z,Z,Z,Z,Z,Z,Z,Z,Z,Z,Z,Z,Z,Z,Z,Z,Z,Z,Z,Z,Z,Z,Z,Z,Z,Z] HT_ rfl rfl (by kernel_rfl) ?_ ?_ ?_;rotate_left;(intro w';go_simp;with_reducible rfl);rotate_left;(simp only [Act.put, sA, s0, sN, i64_w, i32_w];rfl)
                        refine take_ (i := 3) (N := some 93) (v := ?_) (a' := ?_) #[Y,Y,Y,Y,Y,Y,Y,Z,Z,Z,Z,Z,Z,Z,Z,Z,Z,Z,Z,Z,Z,Z,Z,Z,Z,Z,Z,Z,Z,Z,Z,Z,Z,Z,Z,Z,Z,Z,Z,Z,Z,Z,Z] rfl rfl (take_ofW HT_.out HW_.out (by kernel_rfl)) (fun _ _ _ h => h) (Or.inl ⟨by rfl, ?_⟩) hHeld ?_ ?_
                        rotate_left
                        ·rintro w' ⟨s0, s1, s2, s3, s4, s5, s6⟩
                         go_simp
                         with_reducible rfl
                        rotate_left
                        ·simp only [Act.put, sA, s0, sN, i64_w, i32_w]
                         rfl
                        refine take_ (i := 7) (N := some 97) (v := ?_) (a' := ?_) #[Y,Y,Y,Y,Y,Y,Y,Y,Z,Z,Z,Z,Z,Z,Z,Z,Z,Z,Z,Z,Z,Z,Z,Z,Z,Z,Z,Z,Z,Z,Z,Z,Z,Z,Z,Z,Z,Z,Z,Z,Z,Z,Z] rfl rfl (take_ofW HT_.out HW_.out (by kernel_rfl)) (fun _ _ _ h => h) (Or.inl ⟨by rfl, ?_⟩) hHeld ?_ ?_
                        rotate_left
                        ·rintro w' ⟨s0, s1, s2, s3, s4, s5, s6⟩
                         go_simp
                         with_reducible rfl
                        rotate_left
                        ·simp only [Act.put, sA, s0, sN, i64_w, i32_w]
                         rfl
                        refine pU 8 98 (v := ?_) (a' := ?_) #[Y,Y,Y,Y,Y,Y,Y,Y,Y,Z,Z,Z,Z,Z,Z,Z,Z,Z,Z,Z,Z,Z,Z,Z,Z,Z,Z,Z,Z,Z,Z,Z,Z,Z,Z,Z,Z,Z,Z,Z,Z,Z,Z] HT_ rfl rfl (by kernel_rfl) ?_ ?_ ?_;rotate_left;(intro w';go_simp;with_reducible rfl);rotate_left;(simp only [Act.put, sA, s0, sN, i64_w, i32_w];rfl)
                        refine pU 9 99 (v := ?_) (a' := ?_) #[Y,Y,Y,Y,Y,Y,Y,Y,Y,Y,Z,Z,Z,Z,Z,Z,Z,Z,Z,Z,Z,Z,Z,Z,Z,Z,Z,Z,Z,Z,Z,Z,Z,Z,Z,Z,Z,Z,Z,Z,Z,Z,Z] HT_ rfl rfl (by kernel_rfl) ?_ ?_ ?_;rotate_left;(intro w';go_simp;with_reducible rfl);rotate_left;(simp only [Act.put, sA, s0, sN, i64_w, i32_w];rfl)
                        refine pU 10 100 (v := ?_) (a' := ?_) #[Y,Y,Y,Y,Y,Y,Y,Y,Y,Y,Y,Z,Z,Z,Z,Z,Z,Z,Z,Z,Z,Z,Z,Z,Z,Z,Z,Z,Z,Z,Z,Z,Z,Z,Z,Z,Z,Z,Z,Z,Z,Z,Z] HT_ rfl rfl (by kernel_rfl) ?_ ?_ ?_;rotate_left;(intro w';go_simp;with_reducible rfl);rotate_left;(simp only [Act.put, sA, s0, sN, i64_w, i32_w];rfl)
                        refine pU 11 101 (v := ?_) (a' := ?_) #[Y,Y,Y,Y,Y,Y,Y,Y,Y,Y,Y,Y,Z,Z,Z,Z,Z,Z,Z,Z,Z,Z,Z,Z,Z,Z,Z,Z,Z,Z,Z,Z,Z,Z,Z,Z,Z,Z,Z,Z,Z,Z,Z] HT_ rfl rfl (by kernel_rfl) ?_ ?_ ?_;rotate_left;(intro w';go_simp;with_reducible rfl);rotate_left;(simp only [Act.put, sA, s0, sN, i64_w, i32_w];rfl)
                        refine pU 12 102 (v := ?_) (a' := ?_) #[Y,Y,Y,Y,Y,Y,Y,Y,Y,Y,Y,Y,Y,Z,Z,Z,Z,Z,Z,Z,Z,Z,Z,Z,Z,Z,Z,Z,Z,Z,Z,Z,Z,Z,Z,Z,Z,Z,Z,Z,Z,Z,Z] HT_ rfl rfl (by kernel_rfl) ?_ ?_ ?_;rotate_left;(intro w';go_simp;with_reducible rfl);rotate_left;(simp only [Act.put, sA, s0, sN, i64_w, i32_w];rfl)
                        refine pU 13 103 (v := ?_) (a' := ?_) #[Y,Y,Y,Y,Y,Y,Y,Y,Y,Y,Y,Y,Y,Y,Z,Z,Z,Z,Z,Z,Z,Z,Z,Z,Z,Z,Z,Z,Z,Z,Z,Z,Z,Z,Z,Z,Z,Z,Z,Z,Z,Z,Z] HT_ rfl rfl (by kernel_rfl) ?_ ?_ ?_;rotate_left;(intro w';go_simp;with_reducible rfl);rotate_left;(simp only [Act.put, sA, s0, sN, i64_w, i32_w];rfl)
                        refine pU 15 105 (v := ?_) (a' := ?_) #[Y,Y,Y,Y,Y,Y,Y,Y,Y,Y,Y,Y,Y,Y,Z,Y,Z,Z,Z,Z,Z,Z,Z,Z,Z,Z,Z,Z,Z,Z,Z,Z,Z,Z,Z,Z,Z,Z,Z,Z,Z,Z,Z] HT_ rfl rfl (by kernel_rfl) ?_ ?_ ?_;rotate_left;(intro w';go_simp;with_reducible rfl);rotate_left;(simp only [Act.put, sA, s0, sN, i64_w, i32_w];rfl)
                        refine pU 16 106 (v := ?_) (a' := ?_) #[Y,Y,Y,Y,Y,Y,Y,Y,Y,Y,Y,Y,Y,Y,Z,Y,Y,Z,Z,Z,Z,Z,Z,Z,Z,Z,Z,Z,Z,Z,Z,Z,Z,Z,Z,Z,Z,Z,Z,Z,Z,Z,Z] HT_ rfl rfl (by kernel_rfl) ?_ ?_ ?_;rotate_left;(intro w';go_simp;with_reducible rfl);rotate_left;(simp only [Act.put, sA, s0, sN, i64_w, i32_w];rfl)
                        refine pU 17 107 (v := ?_) (a' := ?_) #[Y,Y,Y,Y,Y,Y,Y,Y,Y,Y,Y,Y,Y,Y,Z,Y,Y,Y,Z,Z,Z,Z,Z,Z,Z,Z,Z,Z,Z,Z,Z,Z,Z,Z,Z,Z,Z,Z,Z,Z,Z,Z,Z] HT_ rfl rfl (by kernel_rfl) ?_ ?_ ?_;rotate_left;(intro w';go_simp;with_reducible rfl);rotate_left;(simp only [Act.put, sA, s0, sN, i64_w, i32_w];rfl)
                        refine take_ (i := 14) (N := some 104) (v := ?_) (a' := ?_) #[Y,Y,Y,Y,Y,Y,Y,Y,Y,Y,Y,Y,Y,Y,Y,Y,Y,Y,Z,Z,Z,Z,Z,Z,Z,Z,Z,Z,Z,Z,Z,Z,Z,Z,Z,Z,Z,Z,Z,Z,Z,Z,Z] rfl rfl (take_ofW HT_.out HW_.out (by kernel_rfl)) (fun _ _ _ h => h) (Or.inl ⟨by rfl, ?_⟩) hHeld ?_ ?_
                        rotate_left
                        ·rintro w' ⟨s0, s1, s2, s3, s4, s5, s6⟩
                         go_simp
                         with_reducible rfl
                        rotate_left
                        ·simp only [Act.put, sA, s0, sN, i64_w, i32_w]
                         rfl
                        refine take_ (i := 18) (N := some 108) (v := ?_) (a' := ?_) #[Y,Y,Y,Y,Y,Y,Y,Y,Y,Y,Y,Y,Y,Y,Y,Y,Y,Y,Y,Z,Z,Z,Z,Z,Z,Z,Z,Z,Z,Z,Z,Z,Z,Z,Z,Z,Z,Z,Z,Z,Z,Z,Z] rfl rfl (take_ofW HT_.out HW_.out (by kernel_rfl)) (fun _ _ _ h => h) (Or.inl ⟨by rfl, ?_⟩) hHeld ?_ ?_
                        rotate_left
                        ·rintro w' ⟨s0, s1, s2, s3, s4, s5, s6⟩
                         go_simp
                         with_reducible rfl
                        rotate_left
                        ·simp only [Act.put, sA, s0, sN, i64_w, i32_w]
                         rfl
                        refine one_ (i := 19) (N := some 109) #[Y,Y,Y,Y,Y,Y,Y,Y,Y,Y,Y,Y,Y,Y,Y,Y,Y,Y,Y,Y,Z,Z,Z,Z,Z,Z,Z,Z,Z,Z,Z,Z,Z,Z,Z,Z,Z,Z,Z,Z,Z,Z,Z] rfl rfl (one_of HT_.out (by kernel_rfl)) (by decide) (fun K hK => ?_)
                        refine goes_ Try.func23 (by kernel_rfl) rfl #[.slice Ao9 t460.length co9, .int .i64 (rd t463 x6_2), .int .i64 (rd t474 x9_4)] (by rfl) rfl rfl bz ?_
                        with_reducible refine (impl_IsInside.calls k4 _ _ t460 (rd t463 x6_2) (rd t474 x9_4) true _ ?side1 ?side2 A71.out).mono ?_
                        (case side1 => exact cS (Kd.R_reads' HO_3.out).2.2)
                        (case side2 => exact (Kd.R_reads' HO_3.out).2.1)
                        rintro e w80 ⟨rfl, hb⟩
                        have HS0_ := (hb.cell (World.block_lt_of_cell? _ _ (hHeld.1))).trans (hHeld.1)
                        have HS1_ := (hb.cell (World.block_lt_of_cell? _ _ (hHeld.2.1))).trans (hHeld.2.1)
                        have HS2_ := (hb.cell (World.block_lt_of_cell? _ _ (hHeld.2.2.1))).trans (hHeld.2.2.1)
                        have HS3_ := (hb.cell (World.block_lt_of_cell? _ _ (hHeld.2.2.2.1))).trans (hHeld.2.2.2.1)
                        have HS4_ := (hb.cell (World.block_lt_of_cell? _ _ (hHeld.2.2.2.2.1))).trans (hHeld.2.2.2.2.1)
                        have HS5_ := (hb.cell (World.block_lt_of_cell? _ _ (hHeld.2.2.2.2.2.1))).trans (hHeld.2.2.2.2.2.1)
                        have HS6_ := (hb.cell (World.block_lt_of_cell? _ _ (hHeld.2.2.2.2.2.2))).trans (hHeld.2.2.2.2.2.2)
                        refine ⟨_, rfl, ?_⟩
                        replace HO_3 := Aside0.mk (Kd.R_below (rS HO_3.out) hb)
                        replace HO_4 := Aside0.mk (Kd.R_below (rS HO_4.out) hb)
                        replace HO_5 := Aside0.mk (Kd.R_below (rS HO_5.out) hb)
                        replace HO_7 := Aside0.mk (Kd.R_below (rS HO_7.out) hb)
                        replace HO_8 := Aside0.mk (Kd.R_below (rS HO_8.out) hb)
                        replace HB := Aside0.mk (below_step bw hb)
                        (try clear hb)
                        (try clear hb2)
                        (try clear hk)
                        (try clear hi)
                        refine hK.out _ _ ⟨HS0_, HS1_, HS2_, HS3_, HS4_, HS5_, HS6_⟩ (fun hHeld => ?_)
                        clear hK K
                        refine norm_ (a' := ?_) ?_ ?_
                        rotate_left
                        ·show Act.put _ (some 109) _ = _
                         simp only [Act.put, sA, s0, sN, i64_w, i32_w]
                         rfl
                        refine pU 20 110 (v := ?_) (a' := ?_) #[Y,Y,Y,Y,Y,Y,Y,Y,Y,Y,Y,Y,Y,Y,Y,Y,Y,Y,Y,Y,Y,Z,Z,Z,Z,Z,Z,Z,Z,Z,Z,Z,Z,Z,Z,Z,Z,Z,Z,Z,Z,Z,Z] HT_ rfl rfl (by kernel_rfl) ?_ ?_ ?_;rotate_left;(intro w';go_simp;with_reducible rfl);rotate_left;(simp only [Act.put, sA, s0, sN, i64_w, i32_w];rfl)
                        refine pU 21 111 (v := ?_) (a' := ?_) #[Y,Y,Y,Y,Y,Y,Y,Y,Y,Y,Y,Y,Y,Y,Y,Y,Y,Y,Y,Y,Y,Y,Z,Z,Z,Z,Z,Z,Z,Z,Z,Z,Z,Z,Z,Z,Z,Z,Z,Z,Z,Z,Z] HT_ rfl rfl (by kernel_rfl) ?_ ?_ ?_;rotate_left;(intro w';go_simp;with_reducible rfl);rotate_left;(simp only [Act.put, sA, s0, sN, i64_w, i32_w];rfl)
                        refine pU 22 112 (v := ?_) (a' := ?_) #[Y,Y,Y,Y,Y,Y,Y,Y,Y,Y,Y,Y,Y,Y,Y,Y,Y,Y,Y,Y,Y,Y,Y,Z,Z,Z,Z,Z,Z,Z,Z,Z,Z,Z,Z,Z,Z,Z,Z,Z,Z,Z,Z] HT_ rfl rfl (by kernel_rfl) ?_ ?_ ?_;rotate_left;(intro w';go_simp;with_reducible rfl);rotate_left;(simp only [Act.put, sA, s0, sN, i64_w, i32_w];rfl)
                        refine pU 23 113 (v := ?_) (a' := ?_) #[Y,Y,Y,Y,Y,Y,Y,Y,Y,Y,Y,Y,Y,Y,Y,Y,Y,Y,Y,Y,Y,Y,Y,Y,Z,Z,Z,Z,Z,Z,Z,Z,Z,Z,Z,Z,Z,Z,Z,Z,Z,Z,Z] HT_ rfl rfl (by kernel_rfl) ?_ ?_ ?_;rotate_left;(intro w';go_simp;with_reducible rfl);rotate_left;(simp only [Act.put, sA, s0, sN, i64_w, i32_w];rfl)
                        refine pU 24 114 (v := ?_) (a' := ?_) #[Y,Y,Y,Y,Y,Y,Y,Y,Y,Y,Y,Y,Y,Y,Y,Y,Y,Y,Y,Y,Y,Y,Y,Y,Y,Z,Z,Z,Z,Z,Z,Z,Z,Z,Z,Z,Z,Z,Z,Z,Z,Z,Z] HT_ rfl rfl (by kernel_rfl) ?_ ?_ ?_;rotate_left;(intro w';go_simp;with_reducible rfl);rotate_left;(simp only [Act.put, sA, s0, sN, i64_w, i32_w];rfl)
                        refine pU 25 115 (v := ?_) (a' := ?_) #[Y,Y,Y,Y,Y,Y,Y,Y,Y,Y,Y,Y,Y,Y,Y,Y,Y,Y,Y,Y,Y,Y,Y,Y,Y,Y,Z,Z,Z,Z,Z,Z,Z,Z,Z,Z,Z,Z,Z,Z,Z,Z,Z] HT_ rfl rfl (by kernel_rfl) ?_ ?_ ?_;rotate_left;(intro w';go_simp;with_reducible rfl);rotate_left;(simp only [Act.put, sA, s0, sN, i64_w, i32_w];rfl)
                        refine pU 26 116 (v := ?_) (a' := ?_) #[Y,Y,Y,Y,Y,Y,Y,Y,Y,Y,Y,Y,Y,Y,Y,Y,Y,Y,Y,Y,Y,Y,Y,Y,Y,Y,Y,Z,Z,Z,Z,Z,Z,Z,Z,Z,Z,Z,Z,Z,Z,Z,Z] HT_ rfl rfl (by kernel_rfl) ?_ ?_ ?_;rotate_left;(intro w';go_simp;with_reducible rfl);rotate_left;(simp only [Act.put, sA, s0, sN, i64_w, i32_w];rfl)
                        refine take_ (i := 27) (N := some 117) (v := ?_) (a' := ?_) #[Y,Y,Y,Y,Y,Y,Y,Y,Y,Y,Y,Y,Y,Y,Y,Y,Y,Y,Y,Y,Y,Y,Y,Y,Y,Y,Y,Y,Z,Z,Z,Z,Z,Z,Z,Z,Z,Z,Z,Z,Z,Z,Z] rfl rfl (take_ofW HT_.out HW_.out (by kernel_rfl)) (fun _ _ _ h => h) (Or.inl ⟨by rfl, ?_⟩) hHeld ?_ ?_
                        rotate_left
                        ·rintro w' ⟨s0, s1, s2, s3, s4, s5, s6⟩
                         go_simp
                         with_reducible rfl
                        rotate_left
                        ·simp only [Act.put, sA, s0, sN, i64_w, i32_w]
                         rfl
                        refine one_ (i := 28) (N := some 118) #[Y,Y,Y,Y,Y,Y,Y,Y,Y,Y,Y,Y,Y,Y,Y,Y,Y,Y,Y,Y,Y,Y,Y,Y,Y,Y,Y,Y,Y,Z,Z,Z,Z,Z,Z,Z,Z,Z,Z,Z,Z,Z,Z] rfl rfl (one_of HT_.out (by kernel_rfl)) (by decide) (fun K hK => ?_)
                        refine goes_ Try.func24 (by kernel_rfl) rfl #[.slice Ao9 t460.length co9, .int .i64 (rd t474 x9_4)] (by rfl) rfl rfl bz ?_
                        with_reducible refine (impl_ReachesExit.calls k4 _ _ t460 (rd t474 x9_4) true _ ?side1 ?side2 A73.out).mono ?_
                        (case side1 => exact cS (Kd.R_reads' HO_3.out).2.2)
                        (case side2 => exact (Kd.R_reads' HO_3.out).2.1)
                        rintro e w81 ⟨rfl, hb⟩
                        have HS0_ := (hb.cell (World.block_lt_of_cell? _ _ (hHeld.1))).trans (hHeld.1)
                        have HS1_ := (hb.cell (World.block_lt_of_cell? _ _ (hHeld.2.1))).trans (hHeld.2.1)
                        have HS2_ := (hb.cell (World.block_lt_of_cell? _ _ (hHeld.2.2.1))).trans (hHeld.2.2.1)
                        have HS3_ := (hb.cell (World.block_lt_of_cell? _ _ (hHeld.2.2.2.1))).trans (hHeld.2.2.2.1)
                        have HS4_ := (hb.cell (World.block_lt_of_cell? _ _ (hHeld.2.2.2.2.1))).trans (hHeld.2.2.2.2.1)
                        have HS5_ := (hb.cell (World.block_lt_of_cell? _ _ (hHeld.2.2.2.2.2.1))).trans (hHeld.2.2.2.2.2.1)
                        have HS6_ := (hb.cell (World.block_lt_of_cell? _ _ (hHeld.2.2.2.2.2.2))).trans (hHeld.2.2.2.2.2.2)
                        refine ⟨_, rfl, ?_⟩
                        replace HO_3 := Aside0.mk (Kd.R_below (rS HO_3.out) hb)
                        replace HO_4 := Aside0.mk (Kd.R_below (rS HO_4.out) hb)
                        replace HO_5 := Aside0.mk (Kd.R_below (rS HO_5.out) hb)
                        replace HO_7 := Aside0.mk (Kd.R_below (rS HO_7.out) hb)
                        replace HO_8 := Aside0.mk (Kd.R_below (rS HO_8.out) hb)
                        replace HB := Aside0.mk (below_step bw hb)
                        (try clear hb)
                        (try clear hb2)
                        (try clear hk)
                        (try clear hi)
                        refine hK.out _ _ ⟨HS0_, HS1_, HS2_, HS3_, HS4_, HS5_, HS6_⟩ (fun hHeld => ?_)
                        clear hK K
                        refine norm_ (a' := ?_) ?_ ?_
                        rotate_left
                        ·show Act.put _ (some 118) _ = _
                         simp only [Act.put, sA, s0, sN, i64_w, i32_w]
                         rfl
                        refine pU 29 119 (v := ?_) (a' := ?_) #[Y,Y,Y,Y,Y,Y,Y,Y,Y,Y,Y,Y,Y,Y,Y,Y,Y,Y,Y,Y,Y,Y,Y,Y,Y,Y,Y,Y,Y,Y,Z,Z,Z,Z,Z,Z,Z,Z,Z,Z,Z,Z,Z] HT_ rfl rfl (by kernel_rfl) ?_ ?_ ?_;rotate_left;(intro w';go_simp;with_reducible rfl);rotate_left;(simp only [Act.put, sA, s0, sN, i64_w, i32_w];rfl)
                        refine pU 30 120 (v := ?_) (a' := ?_) #[Y,Y,Y,Y,Y,Y,Y,Y,Y,Y,Y,Y,Y,Y,Y,Y,Y,Y,Y,Y,Y,Y,Y,Y,Y,Y,Y,Y,Y,Y,Y,Z,Z,Z,Z,Z,Z,Z,Z,Z,Z,Z,Z] HT_ rfl rfl (by kernel_rfl) ?_ ?_ ?_;rotate_left;(intro w';go_simp;with_reducible rfl);rotate_left;(simp only [Act.put, sA, s0, sN, i64_w, i32_w];rfl)
                        refine pU 31 121 (v := ?_) (a' := ?_) #[Y,Y,Y,Y,Y,Y,Y,Y,Y,Y,Y,Y,Y,Y,Y,Y,Y,Y,Y,Y,Y,Y,Y,Y,Y,Y,Y,Y,Y,Y,Y,Y,Z,Z,Z,Z,Z,Z,Z,Z,Z,Z,Z] HT_ rfl rfl (by kernel_rfl) ?_ ?_ ?_;rotate_left;(intro w';go_simp;with_reducible rfl);rotate_left;(simp only [Act.put, sA, s0, sN, i64_w, i32_w];rfl)
                        refine pU 32 122 (v := ?_) (a' := ?_) #[Y,Y,Y,Y,Y,Y,Y,Y,Y,Y,Y,Y,Y,Y,Y,Y,Y,Y,Y,Y,Y,Y,Y,Y,Y,Y,Y,Y,Y,Y,Y,Y,Y,Z,Z,Z,Z,Z,Z,Z,Z,Z,Z] HT_ rfl rfl (by kernel_rfl) ?_ ?_ ?_;rotate_left;(intro w';go_simp;with_reducible rfl);rotate_left;(simp only [Act.put, sA, s0, sN, i64_w, i32_w];rfl)
                        refine pU 33 123 (v := ?_) (a' := ?_) #[Y,Y,Y,Y,Y,Y,Y,Y,Y,Y,Y,Y,Y,Y,Y,Y,Y,Y,Y,Y,Y,Y,Y,Y,Y,Y,Y,Y,Y,Y,Y,Y,Y,Y,Z,Z,Z,Z,Z,Z,Z,Z,Z] HT_ rfl rfl (by kernel_rfl) ?_ ?_ ?_;rotate_left;(intro w';go_simp;with_reducible rfl);rotate_left;(simp only [Act.put, sA, s0, sN, i64_w, i32_w];rfl)
                        refine pU 35 125 (v := ?_) (a' := ?_) #[Y,Y,Y,Y,Y,Y,Y,Y,Y,Y,Y,Y,Y,Y,Y,Y,Y,Y,Y,Y,Y,Y,Y,Y,Y,Y,Y,Y,Y,Y,Y,Y,Y,Y,Z,Y,Z,Z,Z,Z,Z,Z,Z] HT_ rfl rfl (by kernel_rfl) ?_ ?_ ?_;rotate_left;(intro w';go_simp;with_reducible rfl);rotate_left;(simp only [Act.put, sA, s0, sN, i64_w, i32_w];rfl)
                        refine pU 36 126 (v := ?_) (a' := ?_) #[Y,Y,Y,Y,Y,Y,Y,Y,Y,Y,Y,Y,Y,Y,Y,Y,Y,Y,Y,Y,Y,Y,Y,Y,Y,Y,Y,Y,Y,Y,Y,Y,Y,Y,Z,Y,Y,Z,Z,Z,Z,Z,Z] HT_ rfl rfl (by kernel_rfl) ?_ ?_ ?_;rotate_left;(intro w';go_simp;with_reducible rfl);rotate_left;(simp only [Act.put, sA, s0, sN, i64_w, i32_w];rfl)
                        refine pU 37 127 (v := ?_) (a' := ?_) #[Y,Y,Y,Y,Y,Y,Y,Y,Y,Y,Y,Y,Y,Y,Y,Y,Y,Y,Y,Y,Y,Y,Y,Y,Y,Y,Y,Y,Y,Y,Y,Y,Y,Y,Z,Y,Y,Y,Z,Z,Z,Z,Z] HT_ rfl rfl (by kernel_rfl) ?_ ?_ ?_;rotate_left;(intro w';go_simp;with_reducible rfl);rotate_left;(simp only [Act.put, sA, s0, sN, i64_w, i32_w];rfl)
                        refine take_ (i := 34) (N := some 124) (v := ?_) (a' := ?_) #[Y,Y,Y,Y,Y,Y,Y,Y,Y,Y,Y,Y,Y,Y,Y,Y,Y,Y,Y,Y,Y,Y,Y,Y,Y,Y,Y,Y,Y,Y,Y,Y,Y,Y,Y,Y,Y,Y,Z,Z,Z,Z,Z] rfl rfl (take_ofW HT_.out HW_.out (by kernel_rfl)) (fun _ _ _ h => h) (Or.inl ⟨by rfl, ?_⟩) hHeld ?_ ?_
                        rotate_left
                        ·rintro w' ⟨s0, s1, s2, s3, s4, s5, s6⟩
                         go_simp
                         with_reducible rfl
                        rotate_left
                        ·simp only [Act.put, sA, s0, sN, i64_w, i32_w]
                         rfl
                        refine take_ (i := 38) (N := some 128) (v := ?_) (a' := ?_) #[Y,Y,Y,Y,Y,Y,Y,Y,Y,Y,Y,Y,Y,Y,Y,Y,Y,Y,Y,Y,Y,Y,Y,Y,Y,Y,Y,Y,Y,Y,Y,Y,Y,Y,Y,Y,Y,Y,Y,Z,Z,Z,Z] rfl rfl (take_ofW HT_.out HW_.out (by kernel_rfl)) (fun _ _ _ h => h) (Or.inl ⟨by rfl, ?_⟩) hHeld ?_ ?_
                        rotate_left
                        ·rintro w' ⟨s0, s1, s2, s3, s4, s5, s6⟩
                         go_simp
                         with_reducible rfl
                        rotate_left
                        ·simp only [Act.put, sA, s0, sN, i64_w, i32_w]
                         rfl
                        refine one_ (i := 39) (N := some 129) #[Y,Y,Y,Y,Y,Y,Y,Y,Y,Y,Y,Y,Y,Y,Y,Y,Y,Y,Y,Y,Y,Y,Y,Y,Y,Y,Y,Y,Y,Y,Y,Y,Y,Y,Y,Y,Y,Y,Y,Y,Z,Z,Z] rfl rfl (one_of HT_.out (by kernel_rfl)) (by decide) (fun K hK => ?_)
                        refine goes_ Try.func25 (by kernel_rfl) rfl #[.slice Ao9 t460.length co9, .int .i64 (rd t474 x9_4), .int .i64 (rd t466 x6_2)] (by rfl) rfl rfl bz ?_
                        with_reducible refine (impl_IsAfter.calls k4 _ _ t460 (rd t474 x9_4) (rd t466 x6_2) true _ ?side1 ?side2 A75.out).mono ?_
                        (case side1 => exact cS (Kd.R_reads' HO_3.out).2.2)
                        (case side2 => exact (Kd.R_reads' HO_3.out).2.1)
                        rintro e w82 ⟨rfl, hb⟩
                        have HS0_ := (hb.cell (World.block_lt_of_cell? _ _ (hHeld.1))).trans (hHeld.1)
                        have HS1_ := (hb.cell (World.block_lt_of_cell? _ _ (hHeld.2.1))).trans (hHeld.2.1)
                        have HS2_ := (hb.cell (World.block_lt_of_cell? _ _ (hHeld.2.2.1))).trans (hHeld.2.2.1)
                        have HS3_ := (hb.cell (World.block_lt_of_cell? _ _ (hHeld.2.2.2.1))).trans (hHeld.2.2.2.1)
                        have HS4_ := (hb.cell (World.block_lt_of_cell? _ _ (hHeld.2.2.2.2.1))).trans (hHeld.2.2.2.2.1)
                        have HS5_ := (hb.cell (World.block_lt_of_cell? _ _ (hHeld.2.2.2.2.2.1))).trans (hHeld.2.2.2.2.2.1)
                        have HS6_ := (hb.cell (World.block_lt_of_cell? _ _ (hHeld.2.2.2.2.2.2))).trans (hHeld.2.2.2.2.2.2)
                        refine ⟨_, rfl, ?_⟩
                        replace HO_3 := Aside0.mk (Kd.R_below (rS HO_3.out) hb)
                        replace HO_4 := Aside0.mk (Kd.R_below (rS HO_4.out) hb)
                        replace HO_5 := Aside0.mk (Kd.R_below (rS HO_5.out) hb)
                        replace HO_7 := Aside0.mk (Kd.R_below (rS HO_7.out) hb)
                        replace HO_8 := Aside0.mk (Kd.R_below (rS HO_8.out) hb)
                        replace HB := Aside0.mk (below_step bw hb)
                        (try clear hb)
                        (try clear hb2)
                        (try clear hk)
                        (try clear hi)
                        refine hK.out _ _ ⟨HS0_, HS1_, HS2_, HS3_, HS4_, HS5_, HS6_⟩ (fun hHeld => ?_)
                        clear hK K
                        refine norm_ (a' := ?_) ?_ ?_
                        rotate_left
                        ·show Act.put _ (some 129) _ = _
                         simp only [Act.put, sA, s0, sN, i64_w, i32_w]
                         rfl
                        refine pU 40 130 (v := ?_) (a' := ?_) #[Y,Y,Y,Y,Y,Y,Y,Y,Y,Y,Y,Y,Y,Y,Y,Y,Y,Y,Y,Y,Y,Y,Y,Y,Y,Y,Y,Y,Y,Y,Y,Y,Y,Y,Y,Y,Y,Y,Y,Y,Y,Z,Z] HT_ rfl rfl (by kernel_rfl) ?_ ?_ ?_;rotate_left;(intro w';go_simp;with_reducible rfl);rotate_left;(simp only [Act.put, sA, s0, sN, i64_w, i32_w];rfl)
                        refine pU 41 131 (v := ?_) (a' := ?_) #[Y,Y,Y,Y,Y,Y,Y,Y,Y,Y,Y,Y,Y,Y,Y,Y,Y,Y,Y,Y,Y,Y,Y,Y,Y,Y,Y,Y,Y,Y,Y,Y,Y,Y,Y,Y,Y,Y,Y,Y,Y,Y,Z] HT_ rfl rfl (by kernel_rfl) ?_ ?_ ?_;rotate_left;(intro w';go_simp;with_reducible rfl);rotate_left;(simp only [Act.put, sA, s0, sN, i64_w, i32_w];rfl)
                        refine pU 42 132 (v := ?_) (a' := ?_) #[Y,Y,Y,Y,Y,Y,Y,Y,Y,Y,Y,Y,Y,Y,Y,Y,Y,Y,Y,Y,Y,Y,Y,Y,Y,Y,Y,Y,Y,Y,Y,Y,Y,Y,Y,Y,Y,Y,Y,Y,Y,Y,Y] HT_ rfl rfl (by kernel_rfl) ?_ ?_ ?_;rotate_left;(intro w';go_simp;with_reducible rfl);rotate_left;(simp only [Act.put, sA, s0, sN, i64_w, i32_w];rfl)
                        refine done_ (done_of HT_.out (by kernel_rfl)) ?_
                        try go_wp2
                        go_roundg k4
                        case measure => have := HJ6.out; have := HK2.out; have := HJ25.out; have := HK4.out; omega
                        case rel => exact ⟨(wrap64 (x9_4 + 1)), tR, H', ⟨by have := HJ6.out; have := HK2.out; have := HJ25.out; have := HK4.out; omega⟩, ⟨rS HO_3.out⟩, ⟨rS HO_4.out⟩, ⟨rS HO_5.out⟩, ⟨rS HO_7.out⟩, ⟨rS HO_8.out⟩, ⟨bw⟩⟩
                      ·replace c76 := Bool.eq_false_iff.mpr c76
                       subst c76
                       have H1 : (none) = some r := by rw [if_neg (show ¬ (false = true) by decide)] at H; exact H
                       clear H
                       have H := H1
                       clear H1
                       exact absurd H (by simp)
                     ·replace c74 := Bool.eq_false_iff.mpr c74
                      subst c74
                      have H1 : (laws_FnJoins.l1 k4 t460 t463 t466 x6_2 t474 t478 (wrap64 (x9_4 + 1))) = some r := by rw [if_neg (show ¬ (false = true) by decide)] at H; exact H
                      clear H
                      have H := H1
                      clear H1
                      as_aux_lemma =>
                       have H' := Aside0.mk H
                       clear H
                       obtain ⟨Ao83, co83, eo83⟩ := Kd.R_slice HO_7.out
                       subst eo83
                       try go_wp2
                       replace HO_3 := Aside0.mk (Kd.R_drew HO_3.out)
                       replace HO_4 := Aside0.mk (Kd.R_drew HO_4.out)
                       replace HO_5 := Aside0.mk (Kd.R_drew HO_5.out)
                       replace HO_7 := Aside0.mk (Kd.R_drew HO_7.out)
                       replace HO_8 := Aside0.mk (Kd.R_drew HO_8.out)
                       replace HB := Aside0.mk (below_drew1 HB.out)
                       have p488 : 0 ≤ (x9_4 : Int) := dT
                       have q488 : x9_4 < (t474.length : Int) := dT
                       try (obtain ⟨AoZ488, coZ488, eoZ488⟩ := Kd.R_slice HO_7.out; subst eoZ488)
                       obtain ⟨ad488, e488, hx488_0⟩ := Kd.at_int (Kd.R_reads' HO_7.out).2.2 x9_4 p488 q488
                       cases e488
                       replace p488 := eq_true p488
                       replace q488 := eq_true q488
                       obtain ⟨Ao85, co85, eo85⟩ := Kd.R_slice HO_5.out
                       (first | subst eo85 | (injection eo85 with f1_ f2_ f3_; have f4_ := f1_.symm; have f5_ := f3_.symm; clear f1_ f2_ f3_; subst f4_; subst f5_))
                       have p489 : 0 ≤ (x6_2 : Int) := dT
                       have q489 : x6_2 < (t466.length : Int) := dT
                       try (obtain ⟨AoZ489, coZ489, eoZ489⟩ := Kd.R_slice HO_5.out; subst eoZ489)
                       obtain ⟨ad489, e489, hx489_0⟩ := Kd.at_int (Kd.R_reads' HO_5.out).2.2 x6_2 p489 q489
                       cases e489
                       replace p489 := eq_true p489
                       replace q489 := eq_true q489
                       have p495 : 0 ≤ (x6_2 : Int) := dT
                       have q495 : x6_2 < (t463.length : Int) := dT
                       try (obtain ⟨AoZ495, coZ495, eoZ495⟩ := Kd.R_slice HO_4.out; subst eoZ495)
                       obtain ⟨ad495, e495, hx495_0⟩ := Kd.at_int (Kd.R_reads' HO_4.out).2.2 x6_2 p495 q495
                       obtain rfl : ad473 = ad495 := (by injection e495)
                       replace p495 := eq_true p495
                       replace q495 := eq_true q495
                       have p496 : 0 ≤ (x9_4 : Int) := dT
                       have q496 : x9_4 < (t474.length : Int) := dT
                       try (obtain ⟨AoZ496, coZ496, eoZ496⟩ := Kd.R_slice HO_7.out; subst eoZ496)
                       obtain ⟨ad496, e496, hx496_0⟩ := Kd.at_int (Kd.R_reads' HO_7.out).2.2 x9_4 p496 q496
                       obtain rfl : ad488 = ad496 := (by injection e496)
                       replace p496 := eq_true p496
                       replace q496 := eq_true q496
                       have p498 : 0 ≤ (x9_4 : Int) := dT
                       have q498 : x9_4 < (t474.length : Int) := dT
                       try (obtain ⟨AoZ498, coZ498, eoZ498⟩ := Kd.R_slice HO_7.out; subst eoZ498)
                       obtain ⟨ad498, e498, hx498_0⟩ := Kd.at_int (Kd.R_reads' HO_7.out).2.2 x9_4 p498 q498
                       obtain rfl : ad488 = ad498 := (by injection e498)
                       replace p498 := eq_true p498
                       replace q498 := eq_true q498
                       refine start_ (n := 43) (S := fun w' => w'.cell? (ad488.add (x9_4).toNat) = some (.int .i64 (rd t474 x9_4)) ∧ w'.cell? (ad489.add (x6_2).toNat) = some (.int .i64 (rd t466 x6_2)) ∧ w'.cell? (ad473.add (x6_2).toNat) = some (.int .i64 (rd t463 x6_2)) ∧ w'.cell? (ad488.add (x9_4).toNat) = some (.int .i64 (rd t474 x9_4)) ∧ w'.cell? (ad488.add (x9_4).toNat) = some (.int .i64 (rd t474 x9_4))) (ds := []) #[false,false,false,false,false,false,false,false,false,false,false,false,false,false,false,false,false,false,false,false,false,false,false,false,false,false,false,false,false,false,false,false,false,false,false,false,false,false,false,false,false,false,false] (by kernel_rfl) rfl rfl ⟨hx488_0, hx489_0, hx495_0, hx496_0, hx498_0⟩ (fun hHeld => ?_); refine with_tabW laws_FnJoins.tab18 laws_FnJoins.bits18 (fun HT_ HW_ => ?_)
                       generalize wr.drew = w84 at HO_3 HO_4 HO_5 HO_7 HO_8 HB hx488_0 hx489_0 hx495_0 hx496_0 hx498_0 hHeld ⊢
                       refine pU 0 90 (v := ?_) (a' := ?_) #[Y,Z,Z,Z,Z,Z,Z,Z,Z,Z,Z,Z,Z,Z,Z,Z,Z,Z,Z,Z,Z,Z,Z,Z,Z,Z,Z,Z,Z,Z,Z,Z,Z,Z,Z,Z,Z,Z,Z,Z,Z,Z,Z] HT_ rfl rfl (by kernel_rfl) ?_ ?_ ?_;rotate_left;(intro w';go_simp;with_reducible rfl);rotate_left;(simp only [Act.put, sA, s0, sN, i64_w, i32_w];rfl)
                       refine pU 1 91 (v := ?_) (a' := ?_) #[Y,Y,Z,Z,Z,Z,Z,Z,Z,Z,Z,Z,Z,Z,Z,Z,Z,Z,Z,Z,Z,Z,Z,Z,Z,Z,Z,Z,Z,Z,Z,Z,Z,Z,Z,Z,Z,Z,Z,Z,Z,Z,Z] HT_ rfl rfl (by kernel_rfl) ?_ ?_ ?_;rotate_left;(intro w';go_simp;with_reducible rfl);rotate_left;(simp only [Act.put, sA, s0, sN, i64_w, i32_w];rfl)
                       refine pU 2 92 (v := ?_) (a' := ?_) #[Y,Y,Y,Z,Z,Z,Z,Z,Z,Z,Z,Z,Z,Z,Z,Z,Z,Z,Z,Z,Z,Z,Z,Z,Z,Z,Z,Z,Z,Z,Z,Z,Z,Z,Z,Z,Z,Z,Z,Z,Z,Z,Z] HT_ rfl rfl (by kernel_rfl) ?_ ?_ ?_;rotate_left;(intro w';go_simp;with_reducible rfl);rotate_left;(simp only [Act.put, sA, s0, sN, i64_w, i32_w];rfl)
                       refine pU 4 94 (v := ?_) (a' := ?_) #[Y,Y,Y,Z,Y,Z,Z,Z,Z,Z,Z,Z,Z,Z,Z,Z,Z,Z,Z,Z,Z,Z,Z,Z,Z,Z,Z,Z,Z,Z,Z,Z,Z,Z,Z,Z,Z,Z,Z,Z,Z,Z,Z] HT_ rfl rfl (by kernel_rfl) ?_ ?_ ?_;rotate_left;(intro w';go_simp;with_reducible rfl);rotate_left;(simp only [Act.put, sA, s0, sN, i64_w, i32_w];rfl)
                       refine pU 5 95 (v := ?_) (a' := ?_) #[Y,Y,Y,Z,Y,Y,Z,Z,Z,Z,Z,Z,Z,Z,Z,Z,Z,Z,Z,Z,Z,Z,Z,Z,Z,Z,Z,Z,Z,Z,Z,Z,Z,Z,Z,Z,Z,Z,Z,Z,Z,Z,Z] HT_ rfl rfl (by kernel_rfl) ?_ ?_ ?_;rotate_left;(intro w';go_simp;with_reducible rfl);rotate_left;(simp only [Act.put, sA, s0, sN, i64_w, i32_w];rfl)
                       refine pU 6 96 (v := ?_) (a' := ?_) #[Y,Y,Y,Z,Y,Y,Y,Z,Z,Z,Z,Z,Z,Z,Z,Z,Z,Z,Z,Z,Z,Z,Z,Z,Z,Z,Z,Z,Z,Z,Z,Z,Z,Z,Z,Z,Z,Z,Z,Z,Z,Z,Z] HT_ rfl rfl (by kernel_rfl) ?_ ?_ ?_;rotate_left;(intro w';go_simp;with_reducible rfl);rotate_left;(simp only [Act.put, sA, s0, sN, i64_w, i32_w];rfl)
                       refine take_ (i := 3) (N := some 93) (v := ?_) (a' := ?_) #[Y,Y,Y,Y,Y,Y,Y,Z,Z,Z,Z,Z,Z,Z,Z,Z,Z,Z,Z,Z,Z,Z,Z,Z,Z,Z,Z,Z,Z,Z,Z,Z,Z,Z,Z,Z,Z,Z,Z,Z,Z,Z,Z] rfl rfl (take_ofW HT_.out HW_.out (by kernel_rfl)) (fun _ _ _ h => h) (Or.inl ⟨by rfl, ?_⟩) hHeld ?_ ?_
                       rotate_left
                       ·rintro w' ⟨s0, s1, s2, s3, s4⟩
                        go_simp
                        with_reducible rfl
                       rotate_left
                       ·simp only [Act.put, sA, s0, sN, i64_w, i32_w]
                        rfl
                       refine take_ (i := 7) (N := some 97) (v := ?_) (a' := ?_) #[Y,Y,Y,Y,Y,Y,Y,Y,Z,Z,Z,Z,Z,Z,Z,Z,Z,Z,Z,Z,Z,Z,Z,Z,Z,Z,Z,Z,Z,Z,Z,Z,Z,Z,Z,Z,Z,Z,Z,Z,Z,Z,Z] rfl rfl (take_ofW HT_.out HW_.out (by kernel_rfl)) (fun _ _ _ h => h) (Or.inl ⟨by rfl, ?_⟩) hHeld ?_ ?_
                       rotate_left
                       ·rintro w' ⟨s0, s1, s2, s3, s4⟩
                        go_simp
                        with_reducible rfl
                       rotate_left
                       ·simp only [Act.put, sA, s0, sN, i64_w, i32_w]
                        rfl
                       refine pU 8 98 (v := ?_) (a' := ?_) #[Y,Y,Y,Y,Y,Y,Y,Y,Y,Z,Z,Z,Z,Z,Z,Z,Z,Z,Z,Z,Z,Z,Z,Z,Z,Z,Z,Z,Z,Z,Z,Z,Z,Z,Z,Z,Z,Z,Z,Z,Z,Z,Z] HT_ rfl rfl (by kernel_rfl) ?_ ?_ ?_;rotate_left;(intro w';go_simp;with_reducible rfl);rotate_left;(simp only [Act.put, sA, s0, sN, i64_w, i32_w];rfl)
                       refine pU 9 99 (v := ?_) (a' := ?_) #[Y,Y,Y,Y,Y,Y,Y,Y,Y,Y,Z,Z,Z,Z,Z,Z,Z,Z,Z,Z,Z,Z,Z,Z,Z,Z,Z,Z,Z,Z,Z,Z,Z,Z,Z,Z,Z,Z,Z,Z,Z,Z,Z] HT_ rfl rfl (by kernel_rfl) ?_ ?_ ?_;rotate_left;(intro w';go_simp;with_reducible rfl);rotate_left;(simp only [Act.put, sA, s0, sN, i64_w, i32_w];rfl)
                       refine pU 10 100 (v := ?_) (a' := ?_) #[Y,Y,Y,Y,Y,Y,Y,Y,Y,Y,Y,Z,Z,Z,Z,Z,Z,Z,Z,Z,Z,Z,Z,Z,Z,Z,Z,Z,Z,Z,Z,Z,Z,Z,Z,Z,Z,Z,Z,Z,Z,Z,Z] HT_ rfl rfl (by kernel_rfl) ?_ ?_ ?_;rotate_left;(intro w';go_simp;with_reducible rfl);rotate_left;(simp only [Act.put, sA, s0, sN, i64_w, i32_w];rfl)
                       refine pU 11 101 (v := ?_) (a' := ?_) #[Y,Y,Y,Y,Y,Y,Y,Y,Y,Y,Y,Y,Z,Z,Z,Z,Z,Z,Z,Z,Z,Z,Z,Z,Z,Z,Z,Z,Z,Z,Z,Z,Z,Z,Z,Z,Z,Z,Z,Z,Z,Z,Z] HT_ rfl rfl (by kernel_rfl) ?_ ?_ ?_;rotate_left;(intro w';go_simp;with_reducible rfl);rotate_left;(simp only [Act.put, sA, s0, sN, i64_w, i32_w];rfl)
                       refine pU 12 102 (v := ?_) (a' := ?_) #[Y,Y,Y,Y,Y,Y,Y,Y,Y,Y,Y,Y,Y,Z,Z,Z,Z,Z,Z,Z,Z,Z,Z,Z,Z,Z,Z,Z,Z,Z,Z,Z,Z,Z,Z,Z,Z,Z,Z,Z,Z,Z,Z] HT_ rfl rfl (by kernel_rfl) ?_ ?_ ?_;rotate_left;(intro w';go_simp;with_reducible rfl);rotate_left;(simp only [Act.put, sA, s0, sN, i64_w, i32_w];rfl)
                       refine pU 13 103 (v := ?_) (a' := ?_) #[Y,Y,Y,Y,Y,Y,Y,Y,Y,Y,Y,Y,Y,Y,Z,Z,Z,Z,Z,Z,Z,Z,Z,Z,Z,Z,Z,Z,Z,Z,Z,Z,Z,Z,Z,Z,Z,Z,Z,Z,Z,Z,Z] HT_ rfl rfl (by kernel_rfl) ?_ ?_ ?_;rotate_left;(intro w';go_simp;with_reducible rfl);rotate_left;(simp only [Act.put, sA, s0, sN, i64_w, i32_w];rfl)
                       refine pU 15 105 (v := ?_) (a' := ?_) #[Y,Y,Y,Y,Y,Y,Y,Y,Y,Y,Y,Y,Y,Y,Z,Y,Z,Z,Z,Z,Z,Z,Z,Z,Z,Z,Z,Z,Z,Z,Z,Z,Z,Z,Z,Z,Z,Z,Z,Z,Z,Z,Z] HT_ rfl rfl (by kernel_rfl) ?_ ?_ ?_;rotate_left;(intro w';go_simp;with_reducible rfl);rotate_left;(simp only [Act.put, sA, s0, sN, i64_w, i32_w];rfl)
                       refine pU 16 106 (v := ?_) (a' := ?_) #[Y,Y,Y,Y,Y,Y,Y,Y,Y,Y,Y,Y,Y,Y,Z,Y,Y,Z,Z,Z,Z,Z,Z,Z,Z,Z,Z,Z,Z,Z,Z,Z,Z,Z,Z,Z,Z,Z,Z,Z,Z,Z,Z] HT_ rfl rfl (by kernel_rfl) ?_ ?_ ?_;rotate_left;(intro w';go_simp;with_reducible rfl);rotate_left;(simp only [Act.put, sA, s0, sN, i64_w, i32_w];rfl)
                       refine pU 17 107 (v := ?_) (a' := ?_) #[Y,Y,Y,Y,Y,Y,Y,Y,Y,Y,Y,Y,Y,Y,Z,Y,Y,Y,Z,Z,Z,Z,Z,Z,Z,Z,Z,Z,Z,Z,Z,Z,Z,Z,Z,Z,Z,Z,Z,Z,Z,Z,Z] HT_ rfl rfl (by kernel_rfl) ?_ ?_ ?_;rotate_left;(intro w';go_simp;with_reducible rfl);rotate_left;(simp only [Act.put, sA, s0, sN, i64_w, i32_w];rfl)
                       refine take_ (i := 14) (N := some 104) (v := ?_) (a' := ?_) #[Y,Y,Y,Y,Y,Y,Y,Y,Y,Y,Y,Y,Y,Y,Y,Y,Y,Y,Z,Z,Z,Z,Z,Z,Z,Z,Z,Z,Z,Z,Z,Z,Z,Z,Z,Z,Z,Z,Z,Z,Z,Z,Z] rfl rfl (take_ofW HT_.out HW_.out (by kernel_rfl)) (fun _ _ _ h => h) (Or.inl ⟨by rfl, ?_⟩) hHeld ?_ ?_
                       rotate_left
                       ·rintro w' ⟨s0, s1, s2, s3, s4⟩
                        go_simp
                        with_reducible rfl
                       rotate_left
                       ·simp only [Act.put, sA, s0, sN, i64_w, i32_w]
                        rfl
                       refine take_ (i := 18) (N := some 108) (v := ?_) (a' := ?_) #[Y,Y,Y,Y,Y,Y,Y,Y,Y,Y,Y,Y,Y,Y,Y,Y,Y,Y,Y,Z,Z,Z,Z,Z,Z,Z,Z,Z,Z,Z,Z,Z,Z,Z,Z,Z,Z,Z,Z,Z,Z,Z,Z] rfl rfl (take_ofW HT_.out HW_.out (by kernel_rfl)) (fun _ _ _ h => h) (Or.inl ⟨by rfl, ?_⟩) hHeld ?_ ?_
                       rotate_left
                       ·rintro w' ⟨s0, s1, s2, s3, s4⟩
                        go_simp
                        with_reducible rfl
                       rotate_left
                       ·simp only [Act.put, sA, s0, sN, i64_w, i32_w]
                        rfl
                       refine one_ (i := 19) (N := some 109) #[Y,Y,Y,Y,Y,Y,Y,Y,Y,Y,Y,Y,Y,Y,Y,Y,Y,Y,Y,Y,Z,Z,Z,Z,Z,Z,Z,Z,Z,Z,Z,Z,Z,Z,Z,Z,Z,Z,Z,Z,Z,Z,Z] rfl rfl (one_of HT_.out (by kernel_rfl)) (by decide) (fun K hK => ?_)
                       refine goes_ Try.func23 (by kernel_rfl) rfl #[.slice Ao9 t460.length co9, .int .i64 (rd t463 x6_2), .int .i64 (rd t474 x9_4)] (by rfl) rfl rfl bz ?_
                       with_reducible refine (impl_IsInside.calls k4 _ _ t460 (rd t463 x6_2) (rd t474 x9_4) true _ ?side1 ?side2 A71.out).mono ?_
                       (case side1 => exact cS (Kd.R_reads' HO_3.out).2.2)
                       (case side2 => exact (Kd.R_reads' HO_3.out).2.1)
                       rintro e w86 ⟨rfl, hb⟩
                       have HS0_ := (hb.cell (World.block_lt_of_cell? _ _ (hHeld.1))).trans (hHeld.1)
                       have HS1_ := (hb.cell (World.block_lt_of_cell? _ _ (hHeld.2.1))).trans (hHeld.2.1)
                       have HS2_ := (hb.cell (World.block_lt_of_cell? _ _ (hHeld.2.2.1))).trans (hHeld.2.2.1)
                       have HS3_ := (hb.cell (World.block_lt_of_cell? _ _ (hHeld.2.2.2.1))).trans (hHeld.2.2.2.1)
                       have HS4_ := (hb.cell (World.block_lt_of_cell? _ _ (hHeld.2.2.2.2))).trans (hHeld.2.2.2.2)
                       refine ⟨_, rfl, ?_⟩
                       replace HO_3 := Aside0.mk (Kd.R_below (rS HO_3.out) hb)
                       replace HO_4 := Aside0.mk (Kd.R_below (rS HO_4.out) hb)
                       replace HO_5 := Aside0.mk (Kd.R_below (rS HO_5.out) hb)
                       replace HO_7 := Aside0.mk (Kd.R_below (rS HO_7.out) hb)
                       replace HO_8 := Aside0.mk (Kd.R_below (rS HO_8.out) hb)
                       replace HB := Aside0.mk (below_step bw hb)
                       (try clear hb)
                       (try clear hb2)
                       (try clear hk)
                       (try clear hi)
                       refine hK.out _ _ ⟨HS0_, HS1_, HS2_, HS3_, HS4_⟩ (fun hHeld => ?_)
                       clear hK K
                       refine norm_ (a' := ?_) ?_ ?_
                       rotate_left
                       ·show Act.put _ (some 109) _ = _
                        simp only [Act.put, sA, s0, sN, i64_w, i32_w]
                        rfl
                       refine pU 20 110 (v := ?_) (a' := ?_) #[Y,Y,Y,Y,Y,Y,Y,Y,Y,Y,Y,Y,Y,Y,Y,Y,Y,Y,Y,Y,Y,Z,Z,Z,Z,Z,Z,Z,Z,Z,Z,Z,Z,Z,Z,Z,Z,Z,Z,Z,Z,Z,Z] HT_ rfl rfl (by kernel_rfl) ?_ ?_ ?_;rotate_left;(intro w';go_simp;with_reducible rfl);rotate_left;(simp only [Act.put, sA, s0, sN, i64_w, i32_w];rfl)
                       refine pU 21 111 (v := ?_) (a' := ?_) #[Y,Y,Y,Y,Y,Y,Y,Y,Y,Y,Y,Y,Y,Y,Y,Y,Y,Y,Y,Y,Y,Y,Z,Z,Z,Z,Z,Z,Z,Z,Z,Z,Z,Z,Z,Z,Z,Z,Z,Z,Z,Z,Z] HT_ rfl rfl (by kernel_rfl) ?_ ?_ ?_;rotate_left;(intro w';go_simp;with_reducible rfl);rotate_left;(simp only [Act.put, sA, s0, sN, i64_w, i32_w];rfl)
                       refine pU 22 112 (v := ?_) (a' := ?_) #[Y,Y,Y,Y,Y,Y,Y,Y,Y,Y,Y,Y,Y,Y,Y,Y,Y,Y,Y,Y,Y,Y,Y,Z,Z,Z,Z,Z,Z,Z,Z,Z,Z,Z,Z,Z,Z,Z,Z,Z,Z,Z,Z] HT_ rfl rfl (by kernel_rfl) ?_ ?_ ?_;rotate_left;(intro w';go_simp;with_reducible rfl);rotate_left;(simp only [Act.put, sA, s0, sN, i64_w, i32_w];rfl)
                       refine pU 23 113 (v := ?_) (a' := ?_) #[Y,Y,Y,Y,Y,Y,Y,Y,Y,Y,Y,Y,Y,Y,Y,Y,Y,Y,Y,Y,Y,Y,Y,Y,Z,Z,Z,Z,Z,Z,Z,Z,Z,Z,Z,Z,Z,Z,Z,Z,Z,Z,Z] HT_ rfl rfl (by kernel_rfl) ?_ ?_ ?_;rotate_left;(intro w';go_simp;with_reducible rfl);rotate_left;(simp only [Act.put, sA, s0, sN, i64_w, i32_w];rfl)
                       refine pU 24 114 (v := ?_) (a' := ?_) #[Y,Y,Y,Y,Y,Y,Y,Y,Y,Y,Y,Y,Y,Y,Y,Y,Y,Y,Y,Y,Y,Y,Y,Y,Y,Z,Z,Z,Z,Z,Z,Z,Z,Z,Z,Z,Z,Z,Z,Z,Z,Z,Z] HT_ rfl rfl (by kernel_rfl) ?_ ?_ ?_;rotate_left;(intro w';go_simp;with_reducible rfl);rotate_left;(simp only [Act.put, sA, s0, sN, i64_w, i32_w];rfl)
                       refine pU 25 115 (v := ?_) (a' := ?_) #[Y,Y,Y,Y,Y,Y,Y,Y,Y,Y,Y,Y,Y,Y,Y,Y,Y,Y,Y,Y,Y,Y,Y,Y,Y,Y,Z,Z,Z,Z,Z,Z,Z,Z,Z,Z,Z,Z,Z,Z,Z,Z,Z] HT_ rfl rfl (by kernel_rfl) ?_ ?_ ?_;rotate_left;(intro w';go_simp;with_reducible rfl);rotate_left;(simp only [Act.put, sA, s0, sN, i64_w, i32_w];rfl)
                       refine pU 26 116 (v := ?_) (a' := ?_) #[Y,Y,Y,Y,Y,Y,Y,Y,Y,Y,Y,Y,Y,Y,Y,Y,Y,Y,Y,Y,Y,Y,Y,Y,Y,Y,Y,Z,Z,Z,Z,Z,Z,Z,Z,Z,Z,Z,Z,Z,Z,Z,Z] HT_ rfl rfl (by kernel_rfl) ?_ ?_ ?_;rotate_left;(intro w';go_simp;with_reducible rfl);rotate_left;(simp only [Act.put, sA, s0, sN, i64_w, i32_w];rfl)
                       refine take_ (i := 27) (N := some 117) (v := ?_) (a' := ?_) #[Y,Y,Y,Y,Y,Y,Y,Y,Y,Y,Y,Y,Y,Y,Y,Y,Y,Y,Y,Y,Y,Y,Y,Y,Y,Y,Y,Y,Z,Z,Z,Z,Z,Z,Z,Z,Z,Z,Z,Z,Z,Z,Z] rfl rfl (take_ofW HT_.out HW_.out (by kernel_rfl)) (fun _ _ _ h => h) (Or.inl ⟨by rfl, ?_⟩) hHeld ?_ ?_
                       rotate_left
                       ·rintro w' ⟨s0, s1, s2, s3, s4⟩
                        go_simp
                        with_reducible rfl
                       rotate_left
                       ·simp only [Act.put, sA, s0, sN, i64_w, i32_w]
                        rfl
                       refine one_ (i := 28) (N := some 118) #[Y,Y,Y,Y,Y,Y,Y,Y,Y,Y,Y,Y,Y,Y,Y,Y,Y,Y,Y,Y,Y,Y,Y,Y,Y,Y,Y,Y,Y,Z,Z,Z,Z,Z,Z,Z,Z,Z,Z,Z,Z,Z,Z] rfl rfl (one_of HT_.out (by kernel_rfl)) (by decide) (fun K hK => ?_)
                       refine goes_ Try.func24 (by kernel_rfl) rfl #[.slice Ao9 t460.length co9, .int .i64 (rd t474 x9_4)] (by rfl) rfl rfl bz ?_
                       with_reducible refine (impl_ReachesExit.calls k4 _ _ t460 (rd t474 x9_4) false _ ?side1 ?side2 A73.out).mono ?_
                       (case side1 => exact cS (Kd.R_reads' HO_3.out).2.2)
                       (case side2 => exact (Kd.R_reads' HO_3.out).2.1)
                       rintro e w87 ⟨rfl, hb⟩
                       have HS0_ := (hb.cell (World.block_lt_of_cell? _ _ (hHeld.1))).trans (hHeld.1)
                       have HS1_ := (hb.cell (World.block_lt_of_cell? _ _ (hHeld.2.1))).trans (hHeld.2.1)
                       have HS2_ := (hb.cell (World.block_lt_of_cell? _ _ (hHeld.2.2.1))).trans (hHeld.2.2.1)
                       have HS3_ := (hb.cell (World.block_lt_of_cell? _ _ (hHeld.2.2.2.1))).trans (hHeld.2.2.2.1)
                       have HS4_ := (hb.cell (World.block_lt_of_cell? _ _ (hHeld.2.2.2.2))).trans (hHeld.2.2.2.2)
                       refine ⟨_, rfl, ?_⟩
                       replace HO_3 := Aside0.mk (Kd.R_below (rS HO_3.out) hb)
                       replace HO_4 := Aside0.mk (Kd.R_below (rS HO_4.out) hb)
                       replace HO_5 := Aside0.mk (Kd.R_below (rS HO_5.out) hb)
                       replace HO_7 := Aside0.mk (Kd.R_below (rS HO_7.out) hb)
                       replace HO_8 := Aside0.mk (Kd.R_below (rS HO_8.out) hb)
                       replace HB := Aside0.mk (below_step bw hb)
                       (try clear hb)
                       (try clear hb2)
                       (try clear hk)
                       (try clear hi)
                       refine hK.out _ _ ⟨HS0_, HS1_, HS2_, HS3_, HS4_⟩ (fun hHeld => ?_)
                       clear hK K
                       refine norm_ (a' := ?_) ?_ ?_
                       rotate_left
                       ·show Act.put _ (some 118) _ = _
                        simp only [Act.put, sA, s0, sN, i64_w, i32_w]
                        rfl
                       refine pU 29 119 (v := ?_) (a' := ?_) #[Y,Y,Y,Y,Y,Y,Y,Y,Y,Y,Y,Y,Y,Y,Y,Y,Y,Y,Y,Y,Y,Y,Y,Y,Y,Y,Y,Y,Y,Y,Z,Z,Z,Z,Z,Z,Z,Z,Z,Z,Z,Z,Z] HT_ rfl rfl (by kernel_rfl) ?_ ?_ ?_;rotate_left;(intro w';go_simp;with_reducible rfl);rotate_left;(simp only [Act.put, sA, s0, sN, i64_w, i32_w];rfl)
                       refine pure_ (i := 30) (N := some 120) (v := undef) (a' := ?_) #[Y,Y,Y,Y,Y,Y,Y,Y,Y,Y,Y,Y,Y,Y,Y,Y,Y,Y,Y,Y,Y,Y,Y,Y,Y,Y,Y,Y,Y,Y,Y,Z,Z,Z,Z,Z,Z,Z,Z,Z,Z,Z,Z] rfl rfl (any_of HT_.out (by kernel_rfl)) (fun _ _ _ h => h) (Or.inr ⟨by rfl, rfl⟩) ?_ ?_
                       rotate_left
                       ·simp only [Act.put, sA, s0, sN, i64_w, i32_w]
                        rfl
                       refine pure_ (i := 31) (N := some 121) (v := undef) (a' := ?_) #[Y,Y,Y,Y,Y,Y,Y,Y,Y,Y,Y,Y,Y,Y,Y,Y,Y,Y,Y,Y,Y,Y,Y,Y,Y,Y,Y,Y,Y,Y,Y,Y,Z,Z,Z,Z,Z,Z,Z,Z,Z,Z,Z] rfl rfl (any_of HT_.out (by kernel_rfl)) (fun _ _ _ h => h) (Or.inr ⟨by rfl, rfl⟩) ?_ ?_
                       rotate_left
                       ·simp only [Act.put, sA, s0, sN, i64_w, i32_w]
                        rfl
                       refine pure_ (i := 32) (N := some 122) (v := undef) (a' := ?_) #[Y,Y,Y,Y,Y,Y,Y,Y,Y,Y,Y,Y,Y,Y,Y,Y,Y,Y,Y,Y,Y,Y,Y,Y,Y,Y,Y,Y,Y,Y,Y,Y,Y,Z,Z,Z,Z,Z,Z,Z,Z,Z,Z] rfl rfl (any_of HT_.out (by kernel_rfl)) (fun _ _ _ h => h) (Or.inr ⟨by rfl, rfl⟩) ?_ ?_
                       rotate_left
                       ·simp only [Act.put, sA, s0, sN, i64_w, i32_w]
                        rfl
                       refine pure_ (i := 33) (N := some 123) (v := undef) (a' := ?_) #[Y,Y,Y,Y,Y,Y,Y,Y,Y,Y,Y,Y,Y,Y,Y,Y,Y,Y,Y,Y,Y,Y,Y,Y,Y,Y,Y,Y,Y,Y,Y,Y,Y,Y,Z,Z,Z,Z,Z,Z,Z,Z,Z] rfl rfl (any_of HT_.out (by kernel_rfl)) (fun _ _ _ h => h) (Or.inr ⟨by rfl, rfl⟩) ?_ ?_
                       rotate_left
                       ·simp only [Act.put, sA, s0, sN, i64_w, i32_w]
                        rfl
                       refine pure_ (i := 34) (N := some 124) (v := undef) (a' := ?_) #[Y,Y,Y,Y,Y,Y,Y,Y,Y,Y,Y,Y,Y,Y,Y,Y,Y,Y,Y,Y,Y,Y,Y,Y,Y,Y,Y,Y,Y,Y,Y,Y,Y,Y,Y,Z,Z,Z,Z,Z,Z,Z,Z] rfl rfl (any_of HT_.out (by kernel_rfl)) (fun _ _ _ h => h) (Or.inr ⟨by rfl, rfl⟩) ?_ ?_
                       rotate_left
                       ·simp only [Act.put, sA, s0, sN, i64_w, i32_w]
                        rfl
                       refine pure_ (i := 35) (N := some 125) (v := undef) (a' := ?_) #[Y,Y,Y,Y,Y,Y,Y,Y,Y,Y,Y,Y,Y,Y,Y,Y,Y,Y,Y,Y,Y,Y,Y,Y,Y,Y,Y,Y,Y,Y,Y,Y,Y,Y,Y,Y,Z,Z,Z,Z,Z,Z,Z] rfl rfl (any_of HT_.out (by kernel_rfl)) (fun _ _ _ h => h) (Or.inr ⟨by rfl, rfl⟩) ?_ ?_
                       rotate_left
                       ·simp only [Act.put, sA, s0, sN, i64_w, i32_w]
                        rfl
                       refine pure_ (i := 36) (N := some 126) (v := undef) (a' := ?_) #[Y,Y,Y,Y,Y,Y,Y,Y,Y,Y,Y,Y,Y,Y,Y,Y,Y,Y,Y,Y,Y,Y,Y,Y,Y,Y,Y,Y,Y,Y,Y,Y,Y,Y,Y,Y,Y,Z,Z,Z,Z,Z,Z] rfl rfl (any_of HT_.out (by kernel_rfl)) (fun _ _ _ h => h) (Or.inr ⟨by rfl, rfl⟩) ?_ ?_
                       rotate_left
                       ·simp only [Act.put, sA, s0, sN, i64_w, i32_w]
                        rfl
                       refine pure_ (i := 37) (N := some 127) (v := undef) (a' := ?_) #[Y,Y,Y,Y,Y,Y,Y,Y,Y,Y,Y,Y,Y,Y,Y,Y,Y,Y,Y,Y,Y,Y,Y,Y,Y,Y,Y,Y,Y,Y,Y,Y,Y,Y,Y,Y,Y,Y,Z,Z,Z,Z,Z] rfl rfl (any_of HT_.out (by kernel_rfl)) (fun _ _ _ h => h) (Or.inr ⟨by rfl, rfl⟩) ?_ ?_
                       rotate_left
                       ·simp only [Act.put, sA, s0, sN, i64_w, i32_w]
                        rfl
                       refine pure_ (i := 38) (N := some 128) (v := undef) (a' := ?_) #[Y,Y,Y,Y,Y,Y,Y,Y,Y,Y,Y,Y,Y,Y,Y,Y,Y,Y,Y,Y,Y,Y,Y,Y,Y,Y,Y,Y,Y,Y,Y,Y,Y,Y,Y,Y,Y,Y,Y,Z,Z,Z,Z] rfl rfl (any_of HT_.out (by kernel_rfl)) (fun _ _ _ h => h) (Or.inr ⟨by rfl, rfl⟩) ?_ ?_
                       rotate_left
                       ·simp only [Act.put, sA, s0, sN, i64_w, i32_w]
                        rfl
                       refine pure_ (i := 39) (N := some 129) (v := undef) (a' := ?_) #[Y,Y,Y,Y,Y,Y,Y,Y,Y,Y,Y,Y,Y,Y,Y,Y,Y,Y,Y,Y,Y,Y,Y,Y,Y,Y,Y,Y,Y,Y,Y,Y,Y,Y,Y,Y,Y,Y,Y,Y,Z,Z,Z] rfl rfl (any_of HT_.out (by kernel_rfl)) (fun _ _ _ h => h) (Or.inr ⟨by rfl, rfl⟩) ?_ ?_
                       rotate_left
                       ·simp only [Act.put, sA, s0, sN, i64_w, i32_w]
                        rfl
                       refine pure_ (i := 40) (N := some 130) (v := undef) (a' := ?_) #[Y,Y,Y,Y,Y,Y,Y,Y,Y,Y,Y,Y,Y,Y,Y,Y,Y,Y,Y,Y,Y,Y,Y,Y,Y,Y,Y,Y,Y,Y,Y,Y,Y,Y,Y,Y,Y,Y,Y,Y,Y,Z,Z] rfl rfl (any_of HT_.out (by kernel_rfl)) (fun _ _ _ h => h) (Or.inr ⟨by rfl, rfl⟩) ?_ ?_
                       rotate_left
                       ·simp only [Act.put, sA, s0, sN, i64_w, i32_w]
                        rfl
                       refine pU 41 131 (v := ?_) (a' := ?_) #[Y,Y,Y,Y,Y,Y,Y,Y,Y,Y,Y,Y,Y,Y,Y,Y,Y,Y,Y,Y,Y,Y,Y,Y,Y,Y,Y,Y,Y,Y,Y,Y,Y,Y,Y,Y,Y,Y,Y,Y,Y,Y,Z] HT_ rfl rfl (by kernel_rfl) ?_ ?_ ?_;rotate_left;(intro w';go_simp;with_reducible rfl);rotate_left;(simp only [Act.put, sA, s0, sN, i64_w, i32_w];rfl)
                       refine pU 42 132 (v := ?_) (a' := ?_) #[Y,Y,Y,Y,Y,Y,Y,Y,Y,Y,Y,Y,Y,Y,Y,Y,Y,Y,Y,Y,Y,Y,Y,Y,Y,Y,Y,Y,Y,Y,Y,Y,Y,Y,Y,Y,Y,Y,Y,Y,Y,Y,Y] HT_ rfl rfl (by kernel_rfl) ?_ ?_ ?_;rotate_left;(intro w';go_simp;with_reducible rfl);rotate_left;(simp only [Act.put, sA, s0, sN, i64_w, i32_w];rfl)
                       refine done_ (done_of HT_.out (by kernel_rfl)) ?_
                       try go_wp2
                       go_roundg k4
                       case measure => have := HJ6.out; have := HK2.out; have := HJ25.out; have := HK4.out; omega
                       case rel => exact ⟨(wrap64 (x9_4 + 1)), tR, H', ⟨by have := HJ6.out; have := HK2.out; have := HJ25.out; have := HK4.out; omega⟩, ⟨rS HO_3.out⟩, ⟨rS HO_4.out⟩, ⟨rS HO_5.out⟩, ⟨rS HO_7.out⟩, ⟨rS HO_8.out⟩, ⟨bw⟩⟩
                    ·replace c72 := Bool.eq_false_iff.mpr c72
                     subst c72
                     have H1 : (none) = some r := by rw [if_neg (show ¬ (false = true) by decide)] at H; exact H
                     clear H
                     have H := H1
                     clear H1
                     exact absurd H (by simp)
                   ·rw [if_neg c70] at H
                    exact absurd H (by simp)
                 ·rw [if_neg c55] at H
                  exact absurd H (by simp)
                ·rw [if_neg c54] at H
                 exact absurd H (by simp)
               ·rw [if_neg c53] at H
                exact absurd H (by simp)
              ·rw [if_neg c52] at H
               have c52b0 : decide (x9_4 < (t474.length : Int)) = false := decide_eq_false c52
               clear c52
               have H' := Aside0.mk H
               clear H
               obtain ⟨Ao88, co88, eo88⟩ := Kd.R_slice HO_7.out
               subst eo88
               go_wp2
               go_loopg [10] k4 (fun kq v10 w' => ∃ (x10_5 : Int), v10 = .int .i64 x10_5 ∧ Aside0 (laws_FnJoins.l2 kq t460 t463 t466 x6_2 t478 x10_5 = some r) ∧ Aside0 (kq ≤ k4) ∧ Aside0 (Kd.R k53 53 w' w.heap.size (fun _ => True) (.slice Ao9 t460.length co9) t460) ∧ Aside0 (Kd.R (Kd.int .i64) 3 w' w.heap.size (fun k_ => some k_ ≠ (v467 : Value).ownBlock ∧ some k_ ≠ (v479 : Value).ownBlock) (.slice (some ad473) t463.length co27) t463) ∧ Aside0 (Kd.R (Kd.int .i64) 3 w' w.heap.size (fun k_ => some k_ ≠ ((.slice (some ad473) t463.length co27) : Value).ownBlock ∧ some k_ ≠ (v479 : Value).ownBlock) v467 t466) ∧ Aside0 (Kd.R (Kd.int .i64) 3 w' w.heap.size (fun k_ => some k_ ≠ ((.slice (some ad473) t463.length co27) : Value).ownBlock ∧ some k_ ≠ (v467 : Value).ownBlock) v479 t478) ∧ Aside0 (Below w.heap.size w w'))
               case atStart => exact ⟨(0), tR, H', ⟨Nat.le_refl _⟩, ⟨rS HO_3.out⟩, ⟨by (with_reducible repeat (first | apply Kd.R_alloc | apply Kd.R_drewN | apply Kd.R_drew)); exact Kd.R_mono HO_4.out (fun _ hk => ⟨hk.1, hk.2.2⟩)⟩, ⟨by (with_reducible repeat (first | apply Kd.R_alloc | apply Kd.R_drewN | apply Kd.R_drew)); exact Kd.R_mono HO_5.out (fun _ hk => ⟨hk.1, hk.2.2⟩)⟩, ⟨by (with_reducible repeat (first | apply Kd.R_alloc | apply Kd.R_drewN | apply Kd.R_drew)); exact Kd.R_mono HO_8.out (fun _ hk => ⟨hk.1, hk.2.1⟩)⟩, ⟨bw⟩⟩
               case round =>
                clear H'
                try clear c2;try clear p2;try clear p4;try clear q4;try clear hx4;try clear c5;try clear p6;try clear c7;try clear c23;try clear c24;try clear c25;try clear p48;try clear q48;try clear hx48;try clear p49;try clear q49;try clear hx49;try clear c52;try clear c52b0;try clear c53;try clear c54;try clear c55;try clear p64;try clear c70;try clear c72;try clear c74;try clear c76;try clear hx488_0;try clear hx489_0;try clear hx495_0;try clear hx496_0;try clear hx498_0;try clear p488;try clear p489;try clear p495;try clear p496;try clear p498;try clear q488;try clear q489;try clear q495;try clear q496;try clear q498
                obtain ⟨x10_5, rfl, HA, HK5, HO_3, HO_4, HO_5, HO_8, HB⟩ := hrel
                cases gk with
                | zero => exact absurd HA.out (by simp [laws_FnJoins.l2])
                | succ k5 =>
                 have H := HA.out
                 clear HA
                 simp only [laws_FnJoins.l2] at H
                 by_cases c89 : x10_5 < (t478.length : Int)
                 ·rw [if_pos c89] at H
                  have c89b0 : decide (x10_5 < (t478.length : Int)) = true := decide_eq_true c89
                  clear c89
                  by_cases c90 : 0 ≤ x6_2
                  ·rw [if_pos c90] at H
                   have c90b0 : decide (0 ≤ x6_2) = true := decide_eq_true c90
                   clear c90
                   by_cases c91 : x6_2 < (t463.length : Int)
                   ·rw [if_pos c91] at H
                    have c91b0 : decide (x6_2 < (t463.length : Int)) = true := decide_eq_true c91
                    clear c91
                    replace H := Option.bind_eq_some_iff.mp H
                    obtain ⟨t504, A920, H⟩ := H
                    replace H : (if t504 = true then (if 0 ≤ x10_5 then (if (rd t478 x10_5) ≤ (rd t463 x6_2) then (none) else (if x6_2 < (t466.length : Int) then (if (rd t478 x10_5) ≥ (rd t466 x6_2) then (none) else (laws_FnJoins.l2 k5 t460 t463 t466 x6_2 t478 (wrap64 (x10_5 + 1)))) else (none))) else (none)) else (laws_FnJoins.l2 k5 t460 t463 t466 x6_2 t478 (wrap64 (x10_5 + 1)))) = some r := H
                    have A92 := Aside0.mk A920
                    clear A920
                    by_cases c93 : t504 = true
                    ·subst c93
                     have H1 : (if 0 ≤ x10_5 then (if (rd t478 x10_5) ≤ (rd t463 x6_2) then (none) else (if x6_2 < (t466.length : Int) then (if (rd t478 x10_5) ≥ (rd t466 x6_2) then (none) else (laws_FnJoins.l2 k5 t460 t463 t466 x6_2 t478 (wrap64 (x10_5 + 1)))) else (none))) else (none)) = some r := by rw [if_pos rfl] at H; exact H
                     clear H
                     have H := H1
                     clear H1
                     by_cases c94 : 0 ≤ x10_5
                     ·rw [if_pos c94] at H
                      have c94b0 : decide (0 ≤ x10_5) = true := decide_eq_true c94
                      clear c94
                      by_cases c95 : (rd t478 x10_5) ≤ (rd t463 x6_2)
                      ·rw [if_pos c95] at H
                       have c95b0 : decide ((rd t478 x10_5) ≤ (rd t463 x6_2)) = true := decide_eq_true c95
                       clear c95
                       exact absurd H (by simp)
                      ·rw [if_neg c95] at H
                       have c95b0 : decide ((rd t478 x10_5) ≤ (rd t463 x6_2)) = false := decide_eq_false c95
                       clear c95
                       by_cases c96 : x6_2 < (t466.length : Int)
                       ·rw [if_pos c96] at H
                        have c96b0 : decide (x6_2 < (t466.length : Int)) = true := decide_eq_true c96
                        clear c96
                        by_cases c97 : (rd t478 x10_5) ≥ (rd t466 x6_2)
                        ·rw [if_pos c97] at H
                         exact absurd H (by simp)
                        ·rw [if_neg c97] at H
                         have c97b0 : decide ((rd t466 x6_2) ≤ (rd t478 x10_5)) = false := decide_eq_false c97
                         clear c97
                         as_aux_lemma =>
                          have H' := Aside0.mk H
                          clear H
                          obtain ⟨Ao98, co98, eo98⟩ := Kd.R_slice HO_8.out
                          subst eo98
                          try go_wp2
                          replace HO_3 := Aside0.mk (Kd.R_drew HO_3.out)
                          replace HO_4 := Aside0.mk (Kd.R_drew HO_4.out)
                          replace HO_5 := Aside0.mk (Kd.R_drew HO_5.out)
                          replace HO_8 := Aside0.mk (Kd.R_drew HO_8.out)
                          replace HB := Aside0.mk (below_drew1 HB.out)
                          have p503 : 0 ≤ (x6_2 : Int) := dT
                          have q503 : x6_2 < (t463.length : Int) := dT
                          try (obtain ⟨AoZ503, coZ503, eoZ503⟩ := Kd.R_slice HO_4.out; subst eoZ503)
                          obtain ⟨ad503, e503, hx503_0⟩ := Kd.at_int (Kd.R_reads' HO_4.out).2.2 x6_2 p503 q503
                          obtain rfl : ad473 = ad503 := (by injection e503)
                          replace p503 := eq_true p503
                          replace q503 := eq_true q503
                          have p505 : 0 ≤ (x10_5 : Int) := dT
                          have q505 : x10_5 < (t478.length : Int) := dT
                          try (obtain ⟨AoZ505, coZ505, eoZ505⟩ := Kd.R_slice HO_8.out; subst eoZ505)
                          obtain ⟨ad505, e505, hx505_0⟩ := Kd.at_int (Kd.R_reads' HO_8.out).2.2 x10_5 p505 q505
                          cases e505
                          replace p505 := eq_true p505
                          replace q505 := eq_true q505
                          have p506 : 0 ≤ (x6_2 : Int) := dT
                          have q506 : x6_2 < (t463.length : Int) := dT
                          try (obtain ⟨AoZ506, coZ506, eoZ506⟩ := Kd.R_slice HO_4.out; subst eoZ506)
                          obtain ⟨ad506, e506, hx506_0⟩ := Kd.at_int (Kd.R_reads' HO_4.out).2.2 x6_2 p506 q506
                          obtain rfl : ad473 = ad506 := (by injection e506)
                          replace p506 := eq_true p506
                          replace q506 := eq_true q506
                          have p507 : 0 ≤ (x10_5 : Int) := dT
                          have q507 : x10_5 < (t478.length : Int) := dT
                          try (obtain ⟨AoZ507, coZ507, eoZ507⟩ := Kd.R_slice HO_8.out; subst eoZ507)
                          obtain ⟨ad507, e507, hx507_0⟩ := Kd.at_int (Kd.R_reads' HO_8.out).2.2 x10_5 p507 q507
                          obtain rfl : ad505 = ad507 := (by injection e507)
                          replace p507 := eq_true p507
                          replace q507 := eq_true q507
                          have p508 : 0 ≤ (x6_2 : Int) := dT
                          have q508 : x6_2 < (t466.length : Int) := dT
                          try (obtain ⟨AoZ508, coZ508, eoZ508⟩ := Kd.R_slice HO_5.out; subst eoZ508)
                          obtain ⟨ad508, e508, hx508_0⟩ := Kd.at_int (Kd.R_reads' HO_5.out).2.2 x6_2 p508 q508
                          cases e508
                          replace p508 := eq_true p508
                          replace q508 := eq_true q508
                          refine start_ (n := 28) (S := fun w' => w'.cell? (ad473.add (x6_2).toNat) = some (.int .i64 (rd t463 x6_2)) ∧ w'.cell? (ad505.add (x10_5).toNat) = some (.int .i64 (rd t478 x10_5)) ∧ w'.cell? (ad473.add (x6_2).toNat) = some (.int .i64 (rd t463 x6_2)) ∧ w'.cell? (ad505.add (x10_5).toNat) = some (.int .i64 (rd t478 x10_5)) ∧ w'.cell? (ad508.add (x6_2).toNat) = some (.int .i64 (rd t466 x6_2))) (ds := []) #[false,false,false,false,false,false,false,false,false,false,false,false,false,false,false,false,false,false,false,false,false,false,false,false,false,false,false,false] (by kernel_rfl) rfl rfl ⟨hx503_0, hx505_0, hx506_0, hx507_0, hx508_0⟩ (fun hHeld => ?_); refine with_tabW laws_FnJoins.tab23 laws_FnJoins.bits23 (fun HT_ HW_ => ?_)
                          generalize wr.drew = w99 at HO_3 HO_4 HO_5 HO_8 HB hx503_0 hx505_0 hx506_0 hx507_0 hx508_0 hHeld ⊢
                          refine pU 0 139 (v := ?_) (a' := ?_) #[Y,Z,Z,Z,Z,Z,Z,Z,Z,Z,Z,Z,Z,Z,Z,Z,Z,Z,Z,Z,Z,Z,Z,Z,Z,Z,Z,Z] HT_ rfl rfl (by kernel_rfl) ?_ ?_ ?_;rotate_left;(intro w';go_simp;with_reducible rfl);rotate_left;(simp only [Act.put, sA, s0, sN, i64_w, i32_w];rfl)
                          refine pU 1 140 (v := ?_) (a' := ?_) #[Y,Y,Z,Z,Z,Z,Z,Z,Z,Z,Z,Z,Z,Z,Z,Z,Z,Z,Z,Z,Z,Z,Z,Z,Z,Z,Z,Z] HT_ rfl rfl (by kernel_rfl) ?_ ?_ ?_;rotate_left;(intro w';go_simp;with_reducible rfl);rotate_left;(simp only [Act.put, sA, s0, sN, i64_w, i32_w];rfl)
                          refine pU 2 141 (v := ?_) (a' := ?_) #[Y,Y,Y,Z,Z,Z,Z,Z,Z,Z,Z,Z,Z,Z,Z,Z,Z,Z,Z,Z,Z,Z,Z,Z,Z,Z,Z,Z] HT_ rfl rfl (by kernel_rfl) ?_ ?_ ?_;rotate_left;(intro w';go_simp;with_reducible rfl);rotate_left;(simp only [Act.put, sA, s0, sN, i64_w, i32_w];rfl)
                          refine pU 3 142 (v := ?_) (a' := ?_) #[Y,Y,Y,Y,Z,Z,Z,Z,Z,Z,Z,Z,Z,Z,Z,Z,Z,Z,Z,Z,Z,Z,Z,Z,Z,Z,Z,Z] HT_ rfl rfl (by kernel_rfl) ?_ ?_ ?_;rotate_left;(intro w';go_simp;with_reducible rfl);rotate_left;(simp only [Act.put, sA, s0, sN, i64_w, i32_w];rfl)
                          refine take_ (i := 4) (N := some 143) (v := ?_) (a' := ?_) #[Y,Y,Y,Y,Y,Z,Z,Z,Z,Z,Z,Z,Z,Z,Z,Z,Z,Z,Z,Z,Z,Z,Z,Z,Z,Z,Z,Z] rfl rfl (take_ofW HT_.out HW_.out (by kernel_rfl)) (fun _ _ _ h => h) (Or.inl ⟨by rfl, ?_⟩) hHeld ?_ ?_
                          rotate_left
                          ·rintro w' ⟨s0, s1, s2, s3, s4⟩
                           go_simp
                           with_reducible rfl
                          rotate_left
                          ·simp only [Act.put, sA, s0, sN, i64_w, i32_w]
                           rfl
                          refine one_ (i := 5) (N := some 144) #[Y,Y,Y,Y,Y,Y,Z,Z,Z,Z,Z,Z,Z,Z,Z,Z,Z,Z,Z,Z,Z,Z,Z,Z,Z,Z,Z,Z] rfl rfl (one_of HT_.out (by kernel_rfl)) (by decide) (fun K hK => ?_)
                          refine goes_ Try.func26 (by kernel_rfl) rfl #[.slice Ao9 t460.length co9, .int .i64 (rd t463 x6_2)] (by rfl) rfl rfl bz ?_
                          with_reducible refine (impl_IsForward.calls k5 _ _ t460 (rd t463 x6_2) true _ ?side1 ?side2 A92.out).mono ?_
                          (case side1 => exact cS (Kd.R_reads' HO_3.out).2.2)
                          (case side2 => exact (Kd.R_reads' HO_3.out).2.1)
                          rintro e w100 ⟨rfl, hb⟩
                          have HS0_ := (hb.cell (World.block_lt_of_cell? _ _ (hHeld.1))).trans (hHeld.1)
                          have HS1_ := (hb.cell (World.block_lt_of_cell? _ _ (hHeld.2.1))).trans (hHeld.2.1)
                          have HS2_ := (hb.cell (World.block_lt_of_cell? _ _ (hHeld.2.2.1))).trans (hHeld.2.2.1)
                          have HS3_ := (hb.cell (World.block_lt_of_cell? _ _ (hHeld.2.2.2.1))).trans (hHeld.2.2.2.1)
                          have HS4_ := (hb.cell (World.block_lt_of_cell? _ _ (hHeld.2.2.2.2))).trans (hHeld.2.2.2.2)
                          refine ⟨_, rfl, ?_⟩
                          replace HO_3 := Aside0.mk (Kd.R_below (rS HO_3.out) hb)
                          replace HO_4 := Aside0.mk (Kd.R_below (rS HO_4.out) hb)
                          replace HO_5 := Aside0.mk (Kd.R_below (rS HO_5.out) hb)
                          replace HO_8 := Aside0.mk (Kd.R_below (rS HO_8.out) hb)
                          replace HB := Aside0.mk (below_step bw hb)
                          (try clear hb)
                          (try clear hb2)
                          (try clear hk)
                          (try clear hi)
                          obtain ⟨Ao101, co101, eo101⟩ := Kd.R_slice HO_5.out
                          (first | subst eo101 | (injection eo101 with f1_ f2_ f3_; have f4_ := f1_.symm; have f5_ := f3_.symm; clear f1_ f2_ f3_; subst f4_; subst f5_))
                          refine hK.out _ _ ⟨HS0_, HS1_, HS2_, HS3_, HS4_⟩ (fun hHeld => ?_)
                          clear hK K
                          refine norm_ (a' := ?_) ?_ ?_
                          rotate_left
                          ·show Act.put _ (some 144) _ = _
                           simp only [Act.put, sA, s0, sN, i64_w, i32_w]
                           rfl
                          refine pU 6 145 (v := ?_) (a' := ?_) #[Y,Y,Y,Y,Y,Y,Y,Z,Z,Z,Z,Z,Z,Z,Z,Z,Z,Z,Z,Z,Z,Z,Z,Z,Z,Z,Z,Z] HT_ rfl rfl (by kernel_rfl) ?_ ?_ ?_;rotate_left;(intro w';go_simp;with_reducible rfl);rotate_left;(simp only [Act.put, sA, s0, sN, i64_w, i32_w];rfl)
                          refine pU 7 146 (v := ?_) (a' := ?_) #[Y,Y,Y,Y,Y,Y,Y,Y,Z,Z,Z,Z,Z,Z,Z,Z,Z,Z,Z,Z,Z,Z,Z,Z,Z,Z,Z,Z] HT_ rfl rfl (by kernel_rfl) ?_ ?_ ?_;rotate_left;(intro w';go_simp;with_reducible rfl);rotate_left;(simp only [Act.put, sA, s0, sN, i64_w, i32_w];rfl)
                          refine pU 8 147 (v := ?_) (a' := ?_) #[Y,Y,Y,Y,Y,Y,Y,Y,Y,Z,Z,Z,Z,Z,Z,Z,Z,Z,Z,Z,Z,Z,Z,Z,Z,Z,Z,Z] HT_ rfl rfl (by kernel_rfl) ?_ ?_ ?_;rotate_left;(intro w';go_simp;with_reducible rfl);rotate_left;(simp only [Act.put, sA, s0, sN, i64_w, i32_w];rfl)
                          refine pU 9 148 (v := ?_) (a' := ?_) #[Y,Y,Y,Y,Y,Y,Y,Y,Y,Y,Z,Z,Z,Z,Z,Z,Z,Z,Z,Z,Z,Z,Z,Z,Z,Z,Z,Z] HT_ rfl rfl (by kernel_rfl) ?_ ?_ ?_;rotate_left;(intro w';go_simp;with_reducible rfl);rotate_left;(simp only [Act.put, sA, s0, sN, i64_w, i32_w];rfl)
                          refine pU 11 150 (v := ?_) (a' := ?_) #[Y,Y,Y,Y,Y,Y,Y,Y,Y,Y,Z,Y,Z,Z,Z,Z,Z,Z,Z,Z,Z,Z,Z,Z,Z,Z,Z,Z] HT_ rfl rfl (by kernel_rfl) ?_ ?_ ?_;rotate_left;(intro w';go_simp;with_reducible rfl);rotate_left;(simp only [Act.put, sA, s0, sN, i64_w, i32_w];rfl)
                          refine pU 12 151 (v := ?_) (a' := ?_) #[Y,Y,Y,Y,Y,Y,Y,Y,Y,Y,Z,Y,Y,Z,Z,Z,Z,Z,Z,Z,Z,Z,Z,Z,Z,Z,Z,Z] HT_ rfl rfl (by kernel_rfl) ?_ ?_ ?_;rotate_left;(intro w';go_simp;with_reducible rfl);rotate_left;(simp only [Act.put, sA, s0, sN, i64_w, i32_w];rfl)
                          refine pU 13 152 (v := ?_) (a' := ?_) #[Y,Y,Y,Y,Y,Y,Y,Y,Y,Y,Z,Y,Y,Y,Z,Z,Z,Z,Z,Z,Z,Z,Z,Z,Z,Z,Z,Z] HT_ rfl rfl (by kernel_rfl) ?_ ?_ ?_;rotate_left;(intro w';go_simp;with_reducible rfl);rotate_left;(simp only [Act.put, sA, s0, sN, i64_w, i32_w];rfl)
                          refine take_ (i := 10) (N := some 149) (v := ?_) (a' := ?_) #[Y,Y,Y,Y,Y,Y,Y,Y,Y,Y,Y,Y,Y,Y,Z,Z,Z,Z,Z,Z,Z,Z,Z,Z,Z,Z,Z,Z] rfl rfl (take_ofW HT_.out HW_.out (by kernel_rfl)) (fun _ _ _ h => h) (Or.inl ⟨by rfl, ?_⟩) hHeld ?_ ?_
                          rotate_left
                          ·rintro w' ⟨s0, s1, s2, s3, s4⟩
                           go_simp
                           with_reducible rfl
                          rotate_left
                          ·simp only [Act.put, sA, s0, sN, i64_w, i32_w]
                           rfl
                          refine take_ (i := 14) (N := some 153) (v := ?_) (a' := ?_) #[Y,Y,Y,Y,Y,Y,Y,Y,Y,Y,Y,Y,Y,Y,Y,Z,Z,Z,Z,Z,Z,Z,Z,Z,Z,Z,Z,Z] rfl rfl (take_ofW HT_.out HW_.out (by kernel_rfl)) (fun _ _ _ h => h) (Or.inl ⟨by rfl, ?_⟩) hHeld ?_ ?_
                          rotate_left
                          ·rintro w' ⟨s0, s1, s2, s3, s4⟩
                           go_simp
                           with_reducible rfl
                          rotate_left
                          ·simp only [Act.put, sA, s0, sN, i64_w, i32_w]
                           rfl
                          refine pU 15 154 (v := ?_) (a' := ?_) #[Y,Y,Y,Y,Y,Y,Y,Y,Y,Y,Y,Y,Y,Y,Y,Y,Z,Z,Z,Z,Z,Z,Z,Z,Z,Z,Z,Z] HT_ rfl rfl (by kernel_rfl) ?_ ?_ ?_;rotate_left;(intro w';go_simp;with_reducible rfl);rotate_left;(simp only [Act.put, sA, s0, sN, i64_w, i32_w];rfl)
                          refine pU 16 155 (v := ?_) (a' := ?_) #[Y,Y,Y,Y,Y,Y,Y,Y,Y,Y,Y,Y,Y,Y,Y,Y,Y,Z,Z,Z,Z,Z,Z,Z,Z,Z,Z,Z] HT_ rfl rfl (by kernel_rfl) ?_ ?_ ?_;rotate_left;(intro w';go_simp;with_reducible rfl);rotate_left;(simp only [Act.put, sA, s0, sN, i64_w, i32_w];rfl)
                          refine pU 17 156 (v := ?_) (a' := ?_) #[Y,Y,Y,Y,Y,Y,Y,Y,Y,Y,Y,Y,Y,Y,Y,Y,Y,Y,Z,Z,Z,Z,Z,Z,Z,Z,Z,Z] HT_ rfl rfl (by kernel_rfl) ?_ ?_ ?_;rotate_left;(intro w';go_simp;with_reducible rfl);rotate_left;(simp only [Act.put, sA, s0, sN, i64_w, i32_w];rfl)
                          refine pU 18 157 (v := ?_) (a' := ?_) #[Y,Y,Y,Y,Y,Y,Y,Y,Y,Y,Y,Y,Y,Y,Y,Y,Y,Y,Y,Z,Z,Z,Z,Z,Z,Z,Z,Z] HT_ rfl rfl (by kernel_rfl) ?_ ?_ ?_;rotate_left;(intro w';go_simp;with_reducible rfl);rotate_left;(simp only [Act.put, sA, s0, sN, i64_w, i32_w];rfl)
                          refine pU 19 158 (v := ?_) (a' := ?_) #[Y,Y,Y,Y,Y,Y,Y,Y,Y,Y,Y,Y,Y,Y,Y,Y,Y,Y,Y,Y,Z,Z,Z,Z,Z,Z,Z,Z] HT_ rfl rfl (by kernel_rfl) ?_ ?_ ?_;rotate_left;(intro w';go_simp;with_reducible rfl);rotate_left;(simp only [Act.put, sA, s0, sN, i64_w, i32_w];rfl)
                          refine pU 21 160 (v := ?_) (a' := ?_) #[Y,Y,Y,Y,Y,Y,Y,Y,Y,Y,Y,Y,Y,Y,Y,Y,Y,Y,Y,Y,Z,Y,Z,Z,Z,Z,Z,Z] HT_ rfl rfl (by kernel_rfl) ?_ ?_ ?_;rotate_left;(intro w';go_simp;with_reducible rfl);rotate_left;(simp only [Act.put, sA, s0, sN, i64_w, i32_w];rfl)
                          refine pU 22 161 (v := ?_) (a' := ?_) #[Y,Y,Y,Y,Y,Y,Y,Y,Y,Y,Y,Y,Y,Y,Y,Y,Y,Y,Y,Y,Z,Y,Y,Z,Z,Z,Z,Z] HT_ rfl rfl (by kernel_rfl) ?_ ?_ ?_;rotate_left;(intro w';go_simp;with_reducible rfl);rotate_left;(simp only [Act.put, sA, s0, sN, i64_w, i32_w];rfl)
                          refine pU 23 162 (v := ?_) (a' := ?_) #[Y,Y,Y,Y,Y,Y,Y,Y,Y,Y,Y,Y,Y,Y,Y,Y,Y,Y,Y,Y,Z,Y,Y,Y,Z,Z,Z,Z] HT_ rfl rfl (by kernel_rfl) ?_ ?_ ?_;rotate_left;(intro w';go_simp;with_reducible rfl);rotate_left;(simp only [Act.put, sA, s0, sN, i64_w, i32_w];rfl)
                          refine take_ (i := 20) (N := some 159) (v := ?_) (a' := ?_) #[Y,Y,Y,Y,Y,Y,Y,Y,Y,Y,Y,Y,Y,Y,Y,Y,Y,Y,Y,Y,Y,Y,Y,Y,Z,Z,Z,Z] rfl rfl (take_ofW HT_.out HW_.out (by kernel_rfl)) (fun _ _ _ h => h) (Or.inl ⟨by rfl, ?_⟩) hHeld ?_ ?_
                          rotate_left
                          ·rintro w' ⟨s0, s1, s2, s3, s4⟩
                           go_simp
                           with_reducible rfl
                          rotate_left
                          ·simp only [Act.put, sA, s0, sN, i64_w, i32_w]
                           rfl
                          refine take_ (i := 24) (N := some 163) (v := ?_) (a' := ?_) #[Y,Y,Y,Y,Y,Y,Y,Y,Y,Y,Y,Y,Y,Y,Y,Y,Y,Y,Y,Y,Y,Y,Y,Y,Y,Z,Z,Z] rfl rfl (take_ofW HT_.out HW_.out (by kernel_rfl)) (fun _ _ _ h => h) (Or.inl ⟨by rfl, ?_⟩) hHeld ?_ ?_
                          rotate_left
                          ·rintro w' ⟨s0, s1, s2, s3, s4⟩
                           go_simp
                           with_reducible rfl
                          rotate_left
                          ·simp only [Act.put, sA, s0, sN, i64_w, i32_w]
                           rfl
                          refine pU 25 164 (v := ?_) (a' := ?_) #[Y,Y,Y,Y,Y,Y,Y,Y,Y,Y,Y,Y,Y,Y,Y,Y,Y,Y,Y,Y,Y,Y,Y,Y,Y,Y,Z,Z] HT_ rfl rfl (by kernel_rfl) ?_ ?_ ?_;rotate_left;(intro w';go_simp;with_reducible rfl);rotate_left;(simp only [Act.put, sA, s0, sN, i64_w, i32_w];rfl)
                          refine pU 26 165 (v := ?_) (a' := ?_) #[Y,Y,Y,Y,Y,Y,Y,Y,Y,Y,Y,Y,Y,Y,Y,Y,Y,Y,Y,Y,Y,Y,Y,Y,Y,Y,Y,Z] HT_ rfl rfl (by kernel_rfl) ?_ ?_ ?_;rotate_left;(intro w';go_simp;with_reducible rfl);rotate_left;(simp only [Act.put, sA, s0, sN, i64_w, i32_w];rfl)
                          refine pU 27 166 (v := ?_) (a' := ?_) #[Y,Y,Y,Y,Y,Y,Y,Y,Y,Y,Y,Y,Y,Y,Y,Y,Y,Y,Y,Y,Y,Y,Y,Y,Y,Y,Y,Y] HT_ rfl rfl (by kernel_rfl) ?_ ?_ ?_;rotate_left;(intro w';go_simp;with_reducible rfl);rotate_left;(simp only [Act.put, sA, s0, sN, i64_w, i32_w];rfl)
                          refine done_ (done_of HT_.out (by kernel_rfl)) ?_
                          try go_wp2
                          go_roundg k5
                          case measure => have := HJ6.out; have := HK2.out; have := HJ25.out; have := HK4.out; have := HK5.out; omega
                          case rel => exact ⟨(wrap64 (x10_5 + 1)), tR, H', ⟨by have := HJ6.out; have := HK2.out; have := HJ25.out; have := HK4.out; have := HK5.out; omega⟩, ⟨rS HO_3.out⟩, ⟨rS HO_4.out⟩, ⟨rS HO_5.out⟩, ⟨rS HO_8.out⟩, ⟨bw⟩⟩
                       ·rw [if_neg c96] at H
                        exact absurd H (by simp)
                     ·rw [if_neg c94] at H
                      exact absurd H (by simp)
                    ·replace c93 := Bool.eq_false_iff.mpr c93
                     subst c93
                     have H1 : (laws_FnJoins.l2 k5 t460 t463 t466 x6_2 t478 (wrap64 (x10_5 + 1))) = some r := by rw [if_neg (show ¬ (false = true) by decide)] at H; exact H
                     clear H
                     have H := H1
                     clear H1
                     as_aux_lemma =>
                      have H' := Aside0.mk H
                      clear H
                      obtain ⟨Ao102, co102, eo102⟩ := Kd.R_slice HO_8.out
                      subst eo102
                      try go_wp2
                      replace HO_3 := Aside0.mk (Kd.R_drew HO_3.out)
                      replace HO_4 := Aside0.mk (Kd.R_drew HO_4.out)
                      replace HO_5 := Aside0.mk (Kd.R_drew HO_5.out)
                      replace HO_8 := Aside0.mk (Kd.R_drew HO_8.out)
                      replace HB := Aside0.mk (below_drew1 HB.out)
                      have p503 : 0 ≤ (x6_2 : Int) := dT
                      have q503 : x6_2 < (t463.length : Int) := dT
                      try (obtain ⟨AoZ503, coZ503, eoZ503⟩ := Kd.R_slice HO_4.out; subst eoZ503)
                      obtain ⟨ad503, e503, hx503_0⟩ := Kd.at_int (Kd.R_reads' HO_4.out).2.2 x6_2 p503 q503
                      obtain rfl : ad473 = ad503 := (by injection e503)
                      replace p503 := eq_true p503
                      replace q503 := eq_true q503
                      refine start_ (n := 28) (S := fun w' => w'.cell? (ad473.add (x6_2).toNat) = some (.int .i64 (rd t463 x6_2))) (ds := []) #[false,false,false,false,false,false,false,false,false,false,false,false,false,false,false,false,false,false,false,false,false,false,false,false,false,false,false,false] (by kernel_rfl) rfl rfl (hx503_0) (fun hHeld => ?_); refine with_tabW laws_FnJoins.tab23 laws_FnJoins.bits23 (fun HT_ HW_ => ?_)
                      generalize wr.drew = w103 at HO_3 HO_4 HO_5 HO_8 HB hx503_0 hHeld ⊢
                      refine pU 0 139 (v := ?_) (a' := ?_) #[Y,Z,Z,Z,Z,Z,Z,Z,Z,Z,Z,Z,Z,Z,Z,Z,Z,Z,Z,Z,Z,Z,Z,Z,Z,Z,Z,Z] HT_ rfl rfl (by kernel_rfl) ?_ ?_ ?_;rotate_left;(intro w';go_simp;with_reducible rfl);rotate_left;(simp only [Act.put, sA, s0, sN, i64_w, i32_w];rfl)
                      refine pU 1 140 (v := ?_) (a' := ?_) #[Y,Y,Z,Z,Z,Z,Z,Z,Z,Z,Z,Z,Z,Z,Z,Z,Z,Z,Z,Z,Z,Z,Z,Z,Z,Z,Z,Z] HT_ rfl rfl (by kernel_rfl) ?_ ?_ ?_;rotate_left;(intro w';go_simp;with_reducible rfl);rotate_left;(simp only [Act.put, sA, s0, sN, i64_w, i32_w];rfl)
                      refine pU 2 141 (v := ?_) (a' := ?_) #[Y,Y,Y,Z,Z,Z,Z,Z,Z,Z,Z,Z,Z,Z,Z,Z,Z,Z,Z,Z,Z,Z,Z,Z,Z,Z,Z,Z] HT_ rfl rfl (by kernel_rfl) ?_ ?_ ?_;rotate_left;(intro w';go_simp;with_reducible rfl);rotate_left;(simp only [Act.put, sA, s0, sN, i64_w, i32_w];rfl)
                      refine pU 3 142 (v := ?_) (a' := ?_) #[Y,Y,Y,Y,Z,Z,Z,Z,Z,Z,Z,Z,Z,Z,Z,Z,Z,Z,Z,Z,Z,Z,Z,Z,Z,Z,Z,Z] HT_ rfl rfl (by kernel_rfl) ?_ ?_ ?_;rotate_left;(intro w';go_simp;with_reducible rfl);rotate_left;(simp only [Act.put, sA, s0, sN, i64_w, i32_w];rfl)
                      refine take_ (i := 4) (N := some 143) (v := ?_) (a' := ?_) #[Y,Y,Y,Y,Y,Z,Z,Z,Z,Z,Z,Z,Z,Z,Z,Z,Z,Z,Z,Z,Z,Z,Z,Z,Z,Z,Z,Z] rfl rfl (take_ofW HT_.out HW_.out (by kernel_rfl)) (fun _ _ _ h => h) (Or.inl ⟨by rfl, ?_⟩) hHeld ?_ ?_
                      rotate_left
                      ·intro w' s0
                       go_simp
                       with_reducible rfl
                      rotate_left
                      ·simp only [Act.put, sA, s0, sN, i64_w, i32_w]
                       rfl
                      refine one_ (i := 5) (N := some 144) #[Y,Y,Y,Y,Y,Y,Z,Z,Z,Z,Z,Z,Z,Z,Z,Z,Z,Z,Z,Z,Z,Z,Z,Z,Z,Z,Z,Z] rfl rfl (one_of HT_.out (by kernel_rfl)) (by decide) (fun K hK => ?_)
                      refine goes_ Try.func26 (by kernel_rfl) rfl #[.slice Ao9 t460.length co9, .int .i64 (rd t463 x6_2)] (by rfl) rfl rfl bz ?_
                      with_reducible refine (impl_IsForward.calls k5 _ _ t460 (rd t463 x6_2) false _ ?side1 ?side2 A92.out).mono ?_
                      (case side1 => exact cS (Kd.R_reads' HO_3.out).2.2)
                      (case side2 => exact (Kd.R_reads' HO_3.out).2.1)
                      rintro e w104 ⟨rfl, hb⟩
                      have HS0_ := (hb.cell (World.block_lt_of_cell? _ _ (hHeld))).trans (hHeld)
                      refine ⟨_, rfl, ?_⟩
                      replace HO_3 := Aside0.mk (Kd.R_below (rS HO_3.out) hb)
                      replace HO_4 := Aside0.mk (Kd.R_below (rS HO_4.out) hb)
                      replace HO_5 := Aside0.mk (Kd.R_below (rS HO_5.out) hb)
                      replace HO_8 := Aside0.mk (Kd.R_below (rS HO_8.out) hb)
                      replace HB := Aside0.mk (below_step bw hb)
                      (try clear hb)
                      (try clear hb2)
                      (try clear hk)
                      (try clear hi)
                      refine hK.out _ _ (HS0_) (fun hHeld => ?_)
                      clear hK K
                      refine norm_ (a' := ?_) ?_ ?_
                      rotate_left
                      ·show Act.put _ (some 144) _ = _
                       simp only [Act.put, sA, s0, sN, i64_w, i32_w]
                       rfl
                      refine pU 6 145 (v := ?_) (a' := ?_) #[Y,Y,Y,Y,Y,Y,Y,Z,Z,Z,Z,Z,Z,Z,Z,Z,Z,Z,Z,Z,Z,Z,Z,Z,Z,Z,Z,Z] HT_ rfl rfl (by kernel_rfl) ?_ ?_ ?_;rotate_left;(intro w';go_simp;with_reducible rfl);rotate_left;(simp only [Act.put, sA, s0, sN, i64_w, i32_w];rfl)
                      refine pure_ (i := 7) (N := some 146) (v := undef) (a' := ?_) #[Y,Y,Y,Y,Y,Y,Y,Y,Z,Z,Z,Z,Z,Z,Z,Z,Z,Z,Z,Z,Z,Z,Z,Z,Z,Z,Z,Z] rfl rfl (any_of HT_.out (by kernel_rfl)) (fun _ _ _ h => h) (Or.inr ⟨by rfl, rfl⟩) ?_ ?_
                      rotate_left
                      ·simp only [Act.put, sA, s0, sN, i64_w, i32_w]
                       rfl
                      refine pure_ (i := 8) (N := some 147) (v := undef) (a' := ?_) #[Y,Y,Y,Y,Y,Y,Y,Y,Y,Z,Z,Z,Z,Z,Z,Z,Z,Z,Z,Z,Z,Z,Z,Z,Z,Z,Z,Z] rfl rfl (any_of HT_.out (by kernel_rfl)) (fun _ _ _ h => h) (Or.inr ⟨by rfl, rfl⟩) ?_ ?_
                      rotate_left
                      ·simp only [Act.put, sA, s0, sN, i64_w, i32_w]
                       rfl
                      refine pure_ (i := 9) (N := some 148) (v := undef) (a' := ?_) #[Y,Y,Y,Y,Y,Y,Y,Y,Y,Y,Z,Z,Z,Z,Z,Z,Z,Z,Z,Z,Z,Z,Z,Z,Z,Z,Z,Z] rfl rfl (any_of HT_.out (by kernel_rfl)) (fun _ _ _ h => h) (Or.inr ⟨by rfl, rfl⟩) ?_ ?_
                      rotate_left
                      ·simp only [Act.put, sA, s0, sN, i64_w, i32_w]
                       rfl
                      refine pure_ (i := 10) (N := some 149) (v := undef) (a' := ?_) #[Y,Y,Y,Y,Y,Y,Y,Y,Y,Y,Y,Z,Z,Z,Z,Z,Z,Z,Z,Z,Z,Z,Z,Z,Z,Z,Z,Z] rfl rfl (any_of HT_.out (by kernel_rfl)) (fun _ _ _ h => h) (Or.inr ⟨by rfl, rfl⟩) ?_ ?_
                      rotate_left
                      ·simp only [Act.put, sA, s0, sN, i64_w, i32_w]
                       rfl
                      refine pure_ (i := 11) (N := some 150) (v := undef) (a' := ?_) #[Y,Y,Y,Y,Y,Y,Y,Y,Y,Y,Y,Y,Z,Z,Z,Z,Z,Z,Z,Z,Z,Z,Z,Z,Z,Z,Z,Z] rfl rfl (any_of HT_.out (by kernel_rfl)) (fun _ _ _ h => h) (Or.inr ⟨by rfl, rfl⟩) ?_ ?_
                      rotate_left
                      ·simp only [Act.put, sA, s0, sN, i64_w, i32_w]
                       rfl
                      refine pure_ (i := 12) (N := some 151) (v := undef) (a' := ?_) #[Y,Y,Y,Y,Y,Y,Y,Y,Y,Y,Y,Y,Y,Z,Z,Z,Z,Z,Z,Z,Z,Z,Z,Z,Z,Z,Z,Z] rfl rfl (any_of HT_.out (by kernel_rfl)) (fun _ _ _ h => h) (Or.inr ⟨by rfl, rfl⟩) ?_ ?_
                      rotate_left
                      ·simp only [Act.put, sA, s0, sN, i64_w, i32_w]
                       rfl
                      refine pure_ (i := 13) (N := some 152) (v := undef) (a' := ?_) #[Y,Y,Y,Y,Y,Y,Y,Y,Y,Y,Y,Y,Y,Y,Z,Z,Z,Z,Z,Z,Z,Z,Z,Z,Z,Z,Z,Z] rfl rfl (any_of HT_.out (by kernel_rfl)) (fun _ _ _ h => h) (Or.inr ⟨by rfl, rfl⟩) ?_ ?_
                      rotate_left
                      ·simp only [Act.put, sA, s0, sN, i64_w, i32_w]
                       rfl
                      refine pure_ (i := 14) (N := some 153) (v := undef) (a' := ?_) #[Y,Y,Y,Y,Y,Y,Y,Y,Y,Y,Y,Y,Y,Y,Y,Z,Z,Z,Z,Z,Z,Z,Z,Z,Z,Z,Z,Z] rfl rfl (any_of HT_.out (by kernel_rfl)) (fun _ _ _ h => h) (Or.inr ⟨by rfl, rfl⟩) ?_ ?_
                      rotate_left
                      ·simp only [Act.put, sA, s0, sN, i64_w, i32_w]
                       rfl
                      refine pure_ (i := 15) (N := some 154) (v := undef) (a' := ?_) #[Y,Y,Y,Y,Y,Y,Y,Y,Y,Y,Y,Y,Y,Y,Y,Y,Z,Z,Z,Z,Z,Z,Z,Z,Z,Z,Z,Z] rfl rfl (any_of HT_.out (by kernel_rfl)) (fun _ _ _ h => h) (Or.inr ⟨by rfl, rfl⟩) ?_ ?_
                      rotate_left
                      ·simp only [Act.put, sA, s0, sN, i64_w, i32_w]
                       rfl
                      refine pure_ (i := 16) (N := some 155) (v := undef) (a' := ?_) #[Y,Y,Y,Y,Y,Y,Y,Y,Y,Y,Y,Y,Y,Y,Y,Y,Y,Z,Z,Z,Z,Z,Z,Z,Z,Z,Z,Z] rfl rfl (any_of HT_.out (by kernel_rfl)) (fun _ _ _ h => h) (Or.inr ⟨by rfl, rfl⟩) ?_ ?_
                      rotate_left
                      ·simp only [Act.put, sA, s0, sN, i64_w, i32_w]
                       rfl
                      refine pure_ (i := 17) (N := some 156) (v := undef) (a' := ?_) #[Y,Y,Y,Y,Y,Y,Y,Y,Y,Y,Y,Y,Y,Y,Y,Y,Y,Y,Z,Z,Z,Z,Z,Z,Z,Z,Z,Z] rfl rfl (any_of HT_.out (by kernel_rfl)) (fun _ _ _ h => h) (Or.inr ⟨by rfl, rfl⟩) ?_ ?_
                      rotate_left
                      ·simp only [Act.put, sA, s0, sN, i64_w, i32_w]
                       rfl
                      refine pure_ (i := 18) (N := some 157) (v := undef) (a' := ?_) #[Y,Y,Y,Y,Y,Y,Y,Y,Y,Y,Y,Y,Y,Y,Y,Y,Y,Y,Y,Z,Z,Z,Z,Z,Z,Z,Z,Z] rfl rfl (any_of HT_.out (by kernel_rfl)) (fun _ _ _ h => h) (Or.inr ⟨by rfl, rfl⟩) ?_ ?_
                      rotate_left
                      ·simp only [Act.put, sA, s0, sN, i64_w, i32_w]
                       rfl
                      refine pure_ (i := 19) (N := some 158) (v := undef) (a' := ?_) #[Y,Y,Y,Y,Y,Y,Y,Y,Y,Y,Y,Y,Y,Y,Y,Y,Y,Y,Y,Y,Z,Z,Z,Z,Z,Z,Z,Z] rfl rfl (any_of HT_.out (by kernel_rfl)) (fun _ _ _ h => h) (Or.inr ⟨by rfl, rfl⟩) ?_ ?_
                      rotate_left
                      ·simp only [Act.put, sA, s0, sN, i64_w, i32_w]
                       rfl
                      refine pure_ (i := 20) (N := some 159) (v := undef) (a' := ?_) #[Y,Y,Y,Y,Y,Y,Y,Y,Y,Y,Y,Y,Y,Y,Y,Y,Y,Y,Y,Y,Y,Z,Z,Z,Z,Z,Z,Z] rfl rfl (any_of HT_.out (by kernel_rfl)) (fun _ _ _ h => h) (Or.inr ⟨by rfl, rfl⟩) ?_ ?_
                      rotate_left
                      ·simp only [Act.put, sA, s0, sN, i64_w, i32_w]
                       rfl
                      refine pure_ (i := 21) (N := some 160) (v := undef) (a' := ?_) #[Y,Y,Y,Y,Y,Y,Y,Y,Y,Y,Y,Y,Y,Y,Y,Y,Y,Y,Y,Y,Y,Y,Z,Z,Z,Z,Z,Z] rfl rfl (any_of HT_.out (by kernel_rfl)) (fun _ _ _ h => h) (Or.inr ⟨by rfl, rfl⟩) ?_ ?_
                      rotate_left
                      ·simp only [Act.put, sA, s0, sN, i64_w, i32_w]
                       rfl
                      refine pure_ (i := 22) (N := some 161) (v := undef) (a' := ?_) #[Y,Y,Y,Y,Y,Y,Y,Y,Y,Y,Y,Y,Y,Y,Y,Y,Y,Y,Y,Y,Y,Y,Y,Z,Z,Z,Z,Z] rfl rfl (any_of HT_.out (by kernel_rfl)) (fun _ _ _ h => h) (Or.inr ⟨by rfl, rfl⟩) ?_ ?_
                      rotate_left
                      ·simp only [Act.put, sA, s0, sN, i64_w, i32_w]
                       rfl
                      refine pure_ (i := 23) (N := some 162) (v := undef) (a' := ?_) #[Y,Y,Y,Y,Y,Y,Y,Y,Y,Y,Y,Y,Y,Y,Y,Y,Y,Y,Y,Y,Y,Y,Y,Y,Z,Z,Z,Z] rfl rfl (any_of HT_.out (by kernel_rfl)) (fun _ _ _ h => h) (Or.inr ⟨by rfl, rfl⟩) ?_ ?_
                      rotate_left
                      ·simp only [Act.put, sA, s0, sN, i64_w, i32_w]
                       rfl
                      refine pure_ (i := 24) (N := some 163) (v := undef) (a' := ?_) #[Y,Y,Y,Y,Y,Y,Y,Y,Y,Y,Y,Y,Y,Y,Y,Y,Y,Y,Y,Y,Y,Y,Y,Y,Y,Z,Z,Z] rfl rfl (any_of HT_.out (by kernel_rfl)) (fun _ _ _ h => h) (Or.inr ⟨by rfl, rfl⟩) ?_ ?_
                      rotate_left
                      ·simp only [Act.put, sA, s0, sN, i64_w, i32_w]
                       rfl
                      refine pure_ (i := 25) (N := some 164) (v := undef) (a' := ?_) #[Y,Y,Y,Y,Y,Y,Y,Y,Y,Y,Y,Y,Y,Y,Y,Y,Y,Y,Y,Y,Y,Y,Y,Y,Y,Y,Z,Z] rfl rfl (any_of HT_.out (by kernel_rfl)) (fun _ _ _ h => h) (Or.inr ⟨by rfl, rfl⟩) ?_ ?_
                      rotate_left
                      ·simp only [Act.put, sA, s0, sN, i64_w, i32_w]
                       rfl
                      refine pure_ (i := 26) (N := some 165) (v := undef) (a' := ?_) #[Y,Y,Y,Y,Y,Y,Y,Y,Y,Y,Y,Y,Y,Y,Y,Y,Y,Y,Y,Y,Y,Y,Y,Y,Y,Y,Y,Z] rfl rfl (any_of HT_.out (by kernel_rfl)) (fun _ _ _ h => h) (Or.inr ⟨by rfl, rfl⟩) ?_ ?_
                      rotate_left
                      ·simp only [Act.put, sA, s0, sN, i64_w, i32_w]
                       rfl
                      refine pU 27 166 (v := ?_) (a' := ?_) #[Y,Y,Y,Y,Y,Y,Y,Y,Y,Y,Y,Y,Y,Y,Y,Y,Y,Y,Y,Y,Y,Y,Y,Y,Y,Y,Y,Y] HT_ rfl rfl (by kernel_rfl) ?_ ?_ ?_;rotate_left;(intro w';go_simp;with_reducible rfl);rotate_left;(simp only [Act.put, sA, s0, sN, i64_w, i32_w];rfl)
                      refine done_ (done_of HT_.out (by kernel_rfl)) ?_
                      try go_wp2
                      go_roundg k5
                      case measure => have := HJ6.out; have := HK2.out; have := HJ25.out; have := HK4.out; have := HK5.out; omega
                      case rel => exact ⟨(wrap64 (x10_5 + 1)), tR, H', ⟨by have := HJ6.out; have := HK2.out; have := HJ25.out; have := HK4.out; have := HK5.out; omega⟩, ⟨rS HO_3.out⟩, ⟨rS HO_4.out⟩, ⟨rS HO_5.out⟩, ⟨rS HO_8.out⟩, ⟨bw⟩⟩
                   ·rw [if_neg c91] at H
                    exact absurd H (by simp)
                  ·rw [if_neg c90] at H
                   exact absurd H (by simp)
                 ·rw [if_neg c89] at H
                  have c89b0 : decide (x10_5 < (t478.length : Int)) = false := decide_eq_false c89
                  clear c89
                  as_aux_lemma =>
                   have H' := Aside0.mk H
                   clear H
                   obtain ⟨Ao105, co105, eo105⟩ := Kd.R_slice HO_8.out
                   subst eo105
                   go_wp2
                   go_roundg k5
                   case measure => have := HJ6.out; have := HK2.out; have := HJ25.out; have := HK4.out; have := HK5.out; omega
                   case rel => exact ⟨(wrap64 (x6_2 + 1)), tR, H', ⟨by have := HJ6.out; have := HK2.out; have := HJ25.out; have := HK4.out; have := HK5.out; omega⟩, ⟨rS HO_3.out⟩, ⟨by (with_reducible repeat (first | apply Kd.R_alloc | apply Kd.R_drewN | apply Kd.R_drew)); exact Kd.R_mono HO_4.out (fun _ hk => hk.1)⟩, ⟨by (with_reducible repeat (first | apply Kd.R_alloc | apply Kd.R_drewN | apply Kd.R_drew)); exact Kd.R_mono HO_5.out (fun _ hk => hk.1)⟩, ⟨bw⟩⟩
        ·rw [if_neg c23] at H
         exact absurd H (by simp)
       ·rw [if_neg c22] at H
        have c22b0 : decide (x6_2 < (t463.length : Int)) = false := decide_eq_false c22
        clear c22
        as_aux_lemma =>
         obtain rfl := Option.some.inj H
         obtain ⟨Ao106, co106, eo106⟩ := Kd.R_slice HO_4.out
         subst eo106
         go_wp2
         go_ret
         exact ⟨eR, bw⟩

/-- THE ONE PURE STATEMENT of laws_FnJoins. -/
def laws_FnJoins.Pure : Prop := ∀ (l0 : List Int), l0.length ≤ maxLen → ∃ k, laws_FnJoins.f k l0 = some true

end Go.Proofs.Ytbgpnendblmdaaa.PFnJoins
