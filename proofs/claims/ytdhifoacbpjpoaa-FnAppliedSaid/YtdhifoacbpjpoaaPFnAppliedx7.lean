-- Written by myprint.py (a program of this session, over the kit's print): not trusted, Lean checks it.
import Derived.Test.YtdhifoacbpjpoaaPFnAppliedx0
import Derived.Test.YtdhifoacbpjpoaaPFnAppliedx1
import Derived.Test.YtdhifoacbpjpoaaPFnAppliedx4
import Derived.Test.YtdhifoacbpjpoaaPFnAppliedx5
import Derived.Test.YtdhifoacbpjpoaaPFnAppliedx6
namespace Go.Proofs.Ytdhifoacbpjpoaa.PFnApplied
open Go.RowKit Go.Proofs.YtdhifoacbpjpoaaW.PrintWords Go.Proofs.YtdhifoacbpjpoaaW.PrintLast Go.Proofs.YtdhifoacbpjpoaaW.PrintMore
attribute [local go_sem] max2_int min2_int max_two min_two max_three min_three max_four min_four   -- for this text's walks alone
set_option linter.unusedVariables false
set_option linter.unusedSimpArgs false

theorem aQ {Q P : Prop} (q : Q) (h : Q → P := by intro hk; repeat' (first | with_reducible exact hk | with_reducible exact hk.1 | with_reducible exact hk.2 | with_reducible exact hk.1.1 | with_reducible exact hk.1.2 | with_reducible exact hk.2.1 | with_reducible exact hk.2.2 | with_reducible exact hk.1.1.1 | with_reducible exact hk.1.1.2 | with_reducible exact hk.1.2.1 | with_reducible exact hk.1.2.2 | with_reducible exact hk.2.1.1 | with_reducible exact hk.2.1.2 | with_reducible exact hk.2.2.1 | with_reducible exact hk.2.2.2 | with_reducible exact hk.1.1.1.1 | with_reducible exact hk.1.1.1.2 | with_reducible exact hk.1.1.2.1 | with_reducible exact hk.1.1.2.2 | with_reducible exact hk.1.2.1.1 | with_reducible exact hk.1.2.1.2 | with_reducible exact hk.1.2.2.1 | with_reducible exact hk.1.2.2.2 | with_reducible exact hk.2.1.1.1 | with_reducible exact hk.2.1.1.2 | with_reducible exact hk.2.1.2.1 | with_reducible exact hk.2.1.2.2 | with_reducible exact hk.2.2.1.1 | with_reducible exact hk.2.2.1.2 | with_reducible exact hk.2.2.2.1 | with_reducible exact hk.2.2.2.2 | with_reducible exact hk.1.1.1.1.1 | with_reducible exact hk.1.1.1.1.2 | with_reducible exact hk.1.1.1.2.1 | with_reducible exact hk.1.1.1.2.2 | with_reducible exact hk.1.1.2.1.1 | with_reducible exact hk.1.1.2.1.2 | with_reducible exact hk.1.1.2.2.1 | with_reducible exact hk.1.1.2.2.2 | with_reducible exact hk.1.2.1.1.1 | with_reducible exact hk.1.2.1.1.2 | with_reducible exact hk.1.2.1.2.1 | with_reducible exact hk.1.2.1.2.2 | with_reducible exact hk.1.2.2.1.1 | with_reducible exact hk.1.2.2.1.2 | with_reducible exact hk.1.2.2.2.1 | with_reducible exact hk.1.2.2.2.2 | with_reducible exact hk.2.1.1.1.1 | with_reducible exact hk.2.1.1.1.2 | with_reducible exact hk.2.1.1.2.1 | with_reducible exact hk.2.1.1.2.2 | with_reducible exact hk.2.1.2.1.1 | with_reducible exact hk.2.1.2.1.2 | with_reducible exact hk.2.1.2.2.1 | with_reducible exact hk.2.1.2.2.2 | with_reducible exact hk.2.2.1.1.1 | with_reducible exact hk.2.2.1.1.2 | with_reducible exact hk.2.2.1.2.1 | with_reducible exact hk.2.2.1.2.2 | with_reducible exact hk.2.2.2.1.1 | with_reducible exact hk.2.2.2.1.2 | with_reducible exact hk.2.2.2.2.1 | with_reducible exact hk.2.2.2.2.2 | with_reducible exact hk.1.1.1.1.1.2 | with_reducible exact hk.1.1.1.1.1.1 | with_reducible apply And.intro)) : P := h q
/-! ### laws_FnApplied: function 10 -/
mutual
def laws_FnApplied.l0 : Nat → List (S43) → List Int → Int → Int → Int → List Int → Option (Bool)
 | 0, _, _, _, _, _, _ => none
 | k + 1, x3, x5, x6, x320000, x320001, x320002 => if x6 < (x3.length : Int) then (if 0 ≤ x6 then ((impl_ApplyIns.f k ((rd_T43 x3 x6).f0) ((rd_T43 x3 x6).f1) ((rd_T43 x3 x6).f2) ((rd_T43 x3 x6).f3) x320000 x320002).bind fun t324 => ((impl_WritesReg.f ((rd_T43 x3 x6).f0) ((rd_T43 x3 x6).f1) ((rd_T43 x3 x6).f2) ((rd_T43 x3 x6).f3)).bind fun t328 => ((impl_ReadsRegs.f k ((rd_T43 x3 x6).f0) ((rd_T43 x3 x6).f1) ((rd_T43 x3 x6).f2) ((rd_T43 x3 x6).f3)).bind fun t330 => ((some (([] : List Int) : List Int)).bind fun y333 => (if y333.length + x320002.length < 17592186044416 then (laws_FnApplied.l1 k x3 x5 x6 t324 t328 t330 (y333 ++ x320002) 0 x320000 x320001 x320002) else (none)))))) else (none)) else (some true)
def laws_FnApplied.l1 : Nat → List (S43) → List Int → Int → List Int → Int → List Int → List Int → Int → Int → Int → List Int → Option (Bool)
 | 0, _, _, _, _, _, _, _, _, _, _, _ => none
 | k + 1, x3, x5, x6, x7, x8, x9, x10, x11, x320000, x320001, x320002 => if x11 < (x10.length : Int) then ((laws_has.f k x9 x11).bind fun t339 => (if t339 = true then (laws_FnApplied.l1 k x3 x5 x6 x7 x8 x9 x10 (wrap64 (x11 + 1)) x320000 x320001 x320002) else (if 0 ≤ x11 then (if x11 < (x5.length : Int) then (laws_FnApplied.l1 k x3 x5 x6 x7 x8 x9 (x10.set (x11 : Int).toNat (rd x5 x11)) (wrap64 (x11 + 1)) x320000 x320001 x320002) else (none)) else (none)))) else (if 0 ≤ x6 then (if x6 < (x3.length : Int) then ((impl_ApplyIns.f k ((rd_T43 x3 x6).f0) ((rd_T43 x3 x6).f1) ((rd_T43 x3 x6).f2) ((rd_T43 x3 x6).f3) x320000 x10).bind fun t343 => (if (x7.length : Int) = 4 then (if (t343.length : Int) = 4 then ((impl_AreWords.f x7).bind fun t346 => (laws_FnApplied.j2 k x3 x5 x6 x7 x8 x10 t343 (!t346) x320000 x320001 x320002)) else (laws_FnApplied.j2 k x3 x5 x6 x7 x8 x10 t343 true x320000 x320001 x320002)) else (laws_FnApplied.j2 k x3 x5 x6 x7 x8 x10 t343 true x320000 x320001 x320002))) else (none)) else (none))
def laws_FnApplied.j2 : Nat → List (S43) → List Int → Int → List Int → Int → List Int → List Int → Bool → Int → Int → List Int → Option (Bool)
 | 0, _, _, _, _, _, _, _, _, _, _, _ => none
 | k + 1, x3, x5, x6, x7, x8, x10, x12, x89, x320000, x320001, x320002 => if x89 = true then (none) else (laws_FnApplied.l2 k x3 x5 x6 x7 x8 x10 x12 0 x320000 x320001 x320002)
def laws_FnApplied.l2 : Nat → List (S43) → List Int → Int → List Int → Int → List Int → List Int → Int → Int → Int → List Int → Option (Bool)
 | 0, _, _, _, _, _, _, _, _, _, _, _ => none
 | k + 1, x3, x5, x6, x7, x8, x10, x12, x13, x320000, x320001, x320002 => if x13 < 4 then (if x13 = x8 then (if 0 ≤ x13 then (if x13 < (x7.length : Int) then (if x13 < (x12.length : Int) then (if (rd x7 x13) = (rd x12 x13) then (laws_FnApplied.l2 k x3 x5 x6 x7 x8 x10 x12 (wrap64 (x13 + 1)) x320000 x320001 x320002) else (none)) else (none)) else (none)) else (none)) else (if 0 ≤ x13 then (if x13 < (x7.length : Int) then (if x13 < (x320002.length : Int) then (if (rd x7 x13) = (rd x320002 x13) then (if x13 < (x12.length : Int) then (if x13 < (x10.length : Int) then (if (rd x12 x13) = (rd x10 x13) then (laws_FnApplied.l2 k x3 x5 x6 x7 x8 x10 x12 (wrap64 (x13 + 1)) x320000 x320001 x320002) else (none)) else (none)) else (none)) else (none)) else (none)) else (none)) else (none))) else (laws_FnApplied.l0 k x3 x5 (wrap64 (x6 + 1)) x320000 x320001 x320002)
end
def laws_FnApplied.f (k : Nat) (l0 : List Int) : Option (Bool) := (laws_big.f l0).bind fun t310 => (if t310 = true then (some true) else ((spec_DrawLane.f k l0).bind fun bt311 => ((spec_DrawPlaces.f k l0).bind fun t320 => (laws_FnApplied.l0 k bt311.1 t320 0 bt311.2.1 bt311.2.2.1 bt311.2.2.2))))
theorem laws_FnApplied.mono_l : ∀ k, (∀ y0 y1 y2 y3 y4 y5, LeO (laws_FnApplied.l0 k y0 y1 y2 y3 y4 y5) (laws_FnApplied.l0 (k + 1) y0 y1 y2 y3 y4 y5)) ∧ (∀ y0 y1 y2 y3 y4 y5 y6 y7 y8 y9 y10, LeO (laws_FnApplied.l1 k y0 y1 y2 y3 y4 y5 y6 y7 y8 y9 y10) (laws_FnApplied.l1 (k + 1) y0 y1 y2 y3 y4 y5 y6 y7 y8 y9 y10)) ∧ (∀ y0 y1 y2 y3 y4 y5 y6 y7 y8 y9 y10, LeO (laws_FnApplied.j2 k y0 y1 y2 y3 y4 y5 y6 y7 y8 y9 y10) (laws_FnApplied.j2 (k + 1) y0 y1 y2 y3 y4 y5 y6 y7 y8 y9 y10)) ∧ (∀ y0 y1 y2 y3 y4 y5 y6 y7 y8 y9 y10, LeO (laws_FnApplied.l2 k y0 y1 y2 y3 y4 y5 y6 y7 y8 y9 y10) (laws_FnApplied.l2 (k + 1) y0 y1 y2 y3 y4 y5 y6 y7 y8 y9 y10))
 | 0 => ⟨fun _ _ _ _ _ _ r h => by simp [laws_FnApplied.l0] at h, fun _ _ _ _ _ _ _ _ _ _ _ r h => by simp [laws_FnApplied.l1] at h, fun _ _ _ _ _ _ _ _ _ _ _ r h => by simp [laws_FnApplied.j2] at h, fun _ _ _ _ _ _ _ _ _ _ _ r h => by simp [laws_FnApplied.l2] at h⟩
 | k + 1 => by
  obtain ⟨ih0, ih1, ih2, ih3⟩ := laws_FnApplied.mono_l k
  refine ⟨?_, ?_, ?_, ?_⟩
  intro y0 y1 y2 y3 y4 y5;unfold laws_FnApplied.l0;rotate_left
  intro y0 y1 y2 y3 y4 y5 y6 y7 y8 y9 y10;unfold laws_FnApplied.l1;rotate_left
  intro y0 y1 y2 y3 y4 y5 y6 y7 y8 y9 y10;unfold laws_FnApplied.j2;rotate_left
  intro y0 y1 y2 y3 y4 y5 y6 y7 y8 y9 y10;unfold laws_FnApplied.l2;rotate_left
  all_goals repeat' first
  | (with_reducible exact ih0 _ _ _ _ _ _)
  | (with_reducible exact ih1 _ _ _ _ _ _ _ _ _ _ _)
  | (with_reducible exact ih2 _ _ _ _ _ _ _ _ _ _ _)
  | (with_reducible exact ih3 _ _ _ _ _ _ _ _ _ _ _)
  | (with_reducible exact impl_ApplyIns.mono _ _ _ _ _ _ _)
  | (with_reducible exact impl_ReadsRegs.mono _ _ _ _ _)
  | (with_reducible exact laws_has.mono _ _ _)
  | (with_reducible exact spec_DrawLane.mono _ _)
  | (with_reducible exact spec_DrawPlaces.mono _ _)
  | (with_reducible exact LeO.refl _)
  | (with_reducible exact LeO.none _)
  | (with_reducible refine LeO.ite ?_ ?_)
  | (with_reducible refine LeO.bind ?_ (fun _ => ?_))
  | exact ih0 _ _ _ _ _ _
  | exact ih1 _ _ _ _ _ _ _ _ _ _ _
  | exact ih2 _ _ _ _ _ _ _ _ _ _ _
  | exact ih3 _ _ _ _ _ _ _ _ _ _ _
  | exact impl_ApplyIns.mono _ _ _ _ _ _ _
  | exact impl_ReadsRegs.mono _ _ _ _ _
  | exact laws_has.mono _ _ _
  | exact spec_DrawLane.mono _ _
  | exact spec_DrawPlaces.mono _ _
  | exact LeO.none _
  | refine LeO.ite ?_ ?_
  | refine LeO.bind ?_ (fun _ => ?_)
theorem laws_FnApplied.mono : ∀ a0 k, LeO (laws_FnApplied.f k a0) (laws_FnApplied.f (k + 1) a0) := by
 intro a0 k
 obtain ⟨ih0, ih1, ih2, ih3⟩ := laws_FnApplied.mono_l k
 unfold laws_FnApplied.f
 repeat' first
   | (with_reducible exact ih0 _ _ _ _ _ _)
   | (with_reducible exact ih1 _ _ _ _ _ _ _ _ _ _ _)
   | (with_reducible exact ih2 _ _ _ _ _ _ _ _ _ _ _)
   | (with_reducible exact ih3 _ _ _ _ _ _ _ _ _ _ _)
   | (with_reducible exact impl_ApplyIns.mono _ _ _ _ _ _ _)
   | (with_reducible exact impl_ReadsRegs.mono _ _ _ _ _)
   | (with_reducible exact laws_has.mono _ _ _)
   | (with_reducible exact spec_DrawLane.mono _ _)
   | (with_reducible exact spec_DrawPlaces.mono _ _)
   | (with_reducible exact LeO.refl _)
   | (with_reducible exact LeO.none _)
   | (with_reducible refine LeO.ite ?_ ?_)
   | (with_reducible refine LeO.bind ?_ (fun _ => ?_))
   | exact ih0 _ _ _ _ _ _
   | exact ih1 _ _ _ _ _ _ _ _ _ _ _
   | exact ih2 _ _ _ _ _ _ _ _ _ _ _
   | exact ih3 _ _ _ _ _ _ _ _ _ _ _
   | exact impl_ApplyIns.mono _ _ _ _ _ _ _
   | exact impl_ReadsRegs.mono _ _ _ _ _
   | exact laws_has.mono _ _ _
   | exact spec_DrawLane.mono _ _
   | exact spec_DrawPlaces.mono _ _
   | exact LeO.none _
   | refine LeO.ite ?_ ?_
   | refine LeO.bind ?_ (fun _ => ?_)
def laws_FnApplied.T8 : Bool × List (List Nat × List Nat) := (true, [([], []), ([], []), ([0, 1], [0, 1]), ([2], [2]), ([], []), ([4], [4]), ([], []), ([6], [6]), ([3, 5, 7], [3, 5, 7]), ([8, 8, 0, 1, 2, 3, 4, 5, 6, 7, 8], [8])])
def laws_FnApplied.B8 : List Nat := [0, 0, 3, 7, 0, 16, 0, 64, 255, 511]
theorem laws_FnApplied.tab8 : rtab .any (opsOf Try.f10 8) = laws_FnApplied.T8 := by kernel_rfl
theorem laws_FnApplied.bits8 : waitsOk laws_FnApplied.T8.2 laws_FnApplied.B8 = true := by kernel_rfl
def laws_FnApplied.T17 : Bool × List (List Nat × List Nat) := (true, [([], []), ([], []), ([0, 1], [0, 1]), ([2], [2]), ([], []), ([4], [4]), ([], []), ([3, 5, 6], [3, 5, 6]), ([7, 7, 0, 1, 2, 3, 4, 5, 6, 7], [7])])
def laws_FnApplied.B17 : List Nat := [0, 0, 3, 7, 0, 16, 0, 127, 255]
theorem laws_FnApplied.tab17 : rtab .any (opsOf Try.f10 17) = laws_FnApplied.T17 := by kernel_rfl
theorem laws_FnApplied.bits17 : waitsOk laws_FnApplied.T17.2 laws_FnApplied.B17 = true := by kernel_rfl
def laws_FnApplied.T23 : Bool × List (List Nat × List Nat) := (true, [([], []), ([], []), ([0, 1], [0, 1]), ([2], [2]), ([3], [3]), ([3], [3]), ([4, 5, 3], [3, 4, 5]), ([6, 3], [3, 6]), ([3], [3]), ([8, 3], [3, 8]), ([3], [3]), ([9, 10, 3], [3, 9, 10]), ([11, 3], [3, 11]), ([7, 12, 3], [3, 7, 12]), ([13, 3, 3], [3, 13]), ([14], [14]), ([14], [14]), ([15, 16, 14], [14, 15, 16]), ([17, 14], [14, 17]), ([14], [14]), ([14], [14]), ([19, 20, 14], [14, 19, 20]), ([21, 14], [14, 21]), ([18, 22, 14], [14, 18, 22]), ([14, 23, 3], [3, 14, 23]), ([3, 24], [3, 24]), ([25, 14], [25]), ([26], [26]), ([26], [26]), ([27, 28, 26], [26, 27, 28]), ([29, 26, 26], [26, 29]), ([30], [30]), ([30], [30]), ([31, 32, 30], [30, 31, 32]), ([33, 30], [30, 33]), ([30], [30]), ([30], [30]), ([35, 36, 30], [30, 35, 36]), ([37, 30], [30, 37]), ([34, 38, 30], [30, 34, 38]), ([30, 39, 26], [26, 30, 39]), ([26, 40], [26, 40])])
def laws_FnApplied.B23 : List Nat := [0, 0, 3, 7, 15, 15, 63, 127, 15, 271, 15, 1807, 3855, 8191, 16383, 32767, 32767, 131071, 262143, 32767, 32767, 1605631, 3702783, 8388607, 16777215, 33554431, 67108863, 134217727, 134217727, 536870911, 1073741823, 2147483647, 2147483647, 8589934591, 17179869183, 2147483647, 2147483647, 105226698751, 242665652223, 549755813887, 1099511627775, 2199023255551]
theorem laws_FnApplied.tab23 : rtab .any (opsOf Try.f10 23) = laws_FnApplied.T23 := by kernel_rfl
theorem laws_FnApplied.bits23 : waitsOk laws_FnApplied.T23.2 laws_FnApplied.B23 = true := by kernel_rfl
set_option maxHeartbeats 8000000 in
set_option maxRecDepth 100000 in
theorem laws_FnApplied.calls (k : Nat) (A0 : Option Addr) (c0 : Nat) (l0 : List Int) (r : Bool) (w : World) (hr0 : Kd.C (Kd.int .u8) w A0 l0.length l0) (hc0 : l0.length ≤ c0) (h : laws_FnApplied.f k l0 = some r) :
  Calls Try.prog 10 #[.slice A0 l0.length c0] w fun e w' => e = .returned (.bool r) ∧ Below w.heap.size w w' := by
 have hu36 := Try.underlying36
 have hu43 := Try.underlying43
 have HR0 := Aside0.mk hr0
 have HC0 := Aside0.mk hc0
 clear hr0 hc0
 have HB := Aside0.mk (Below.refl w.heap.size w)
 have H : ((laws_big.f l0).bind fun t310 => (if t310 = true then (some true) else ((spec_DrawLane.f k l0).bind fun bt311 => ((spec_DrawPlaces.f k l0).bind fun t320 => (laws_FnApplied.l0 k bt311.1 t320 0 bt311.2.1 bt311.2.2.1 bt311.2.2.2))))) = some r := h
 clear h
 replace H := Option.bind_eq_some_iff.mp H
 obtain ⟨t310, A20, H⟩ := H
 replace H : (if t310 = true then (some true) else ((spec_DrawLane.f k l0).bind fun bt311 => ((spec_DrawPlaces.f k l0).bind fun t320 => (laws_FnApplied.l0 k bt311.1 t320 0 bt311.2.1 bt311.2.2.1 bt311.2.2.2)))) = some r := H
 have A2 := Aside0.mk A20
 clear A20
 by_cases c3 : t310 = true
 ·subst c3
  have H1 : (some true) = some r := by rw [if_pos rfl] at H; exact H
  clear H
  have H := H1
  clear H1
  obtain rfl := Option.some.inj H
  go_enter Try.func10, Try.ntmps10
  go_wp2_with (first | ((with_reducible refine gate_callee (f := 11) rfl ?_); refine gL (some 15) Try.func11 #[.slice A0 l0.length c0] ?_; (with_reducible refine (laws_big.calls _ _ l0 true _ ?side1 ?side2 A2.out).mono ?_); (case side1 => exact cS HR0.out); (case side2 => exact HC0.out); rintro e w' ⟨rfl, ⟨nd, rfl⟩⟩; refine ⟨_, rfl, ?_⟩))
  go_ret
  exact ⟨eR, bw⟩
 ·replace c3 := Bool.eq_false_iff.mpr c3
  subst c3
  have H1 : ((spec_DrawLane.f k l0).bind fun bt311 => ((spec_DrawPlaces.f k l0).bind fun t320 => (laws_FnApplied.l0 k bt311.1 t320 0 bt311.2.1 bt311.2.2.1 bt311.2.2.2))) = some r := by rw [if_neg (show ¬ (false = true) by decide)] at H; exact H
  clear H
  have H := H1
  clear H1
  replace H := Option.bind_eq_some_iff.mp H
  obtain ⟨⟨t311, t314, t315, t316⟩, A40, H⟩ := H
  replace H : ((spec_DrawPlaces.f k l0).bind fun t320 => (laws_FnApplied.l0 k t311 t320 0 t314 t315 t316)) = some r := H
  have A4 := Aside0.mk A40
  clear A40
  replace H := Option.bind_eq_some_iff.mp H
  obtain ⟨t320, A50, H⟩ := H
  replace H : (laws_FnApplied.l0 k t311 t320 0 t314 t315 t316) = some r := H
  have A5 := Aside0.mk A50
  clear A50
  have H' := Aside0.mk H
  clear H
  go_enter Try.func10, Try.ntmps10
  go_wp2_with (first | ((with_reducible refine gate_callee (f := 11) rfl ?_); refine gL (some 15) Try.func11 #[.slice A0 l0.length c0] ?_; (with_reducible refine (laws_big.calls _ _ l0 false _ ?side1 ?side2 A2.out).mono ?_); (case side1 => exact cS HR0.out); (case side2 => exact HC0.out); rintro e w' ⟨rfl, ⟨nd, rfl⟩⟩; refine ⟨_, rfl, ?_⟩) | ((with_reducible refine gate_callee (f := 45) rfl ?_); refine gL (some 18) Try.func45 #[.slice A0 l0.length c0] ?_; (with_reducible refine (spec_DrawLane.calls k _ _ l0 t311 t314 t315 t316 _ ?side1 ?side2 A4.out).mono ?_); (case side1 => exact cS HR0.out); (case side2 => exact HC0.out); rintro e w6 ⟨v312, v317, rfl, ho0, ho1, hb⟩; refine ⟨_, rfl, ?_⟩; have HO313 := Aside0.mk (Kd.R_lower ho0 (below_size bw)); have HO318 := Aside0.mk (Kd.R_lower ho1 (below_size bw)); replace HB := Aside0.mk (below_step bw hb); (try clear hb); (try clear ho0); (try clear ho1)) | ((with_reducible refine gate_dst (N := 4) rfl ?_); (try (refine gate_guard (by rfl) ?_; dsimp only)); refine box_event ?hg (N := 4) ?hd (cs := #[.int .i64 0, .int .i64 0, .slice none 0 0]) (t := 36) ?hr ?_; (case hd => rfl); (case hg => rfl); (case hr => first | (go_simp; done) | (go_simp; rfl)); intro gb319 hg w7 hbox hb; replace HO313 := Aside0.mk (Kd.R_below (rS HO313.out) hb); replace HO318 := Aside0.mk (Kd.R_below (rS HO318.out) hb); have BK319 := Aside0.mk (hbox); have GW319 := Aside0.mk ((by rw [hg]; exact (below_size bw) : w.heap.size ≤ gb319)); have GE319 := Aside0.mk ((by rw [hg]; exact (below_size bw) : w.heap.size ≤ gb319)); replace HB := Aside0.mk (below_step bw hb); clear hb hbox hg; have hcz8_0 : w7.cell? ⟨gb319, 0, none⟩ = some (.int .i64 0) := (blk_cell BK319.out 0).trans rfl; have hcz8_1 : w7.cell? ⟨gb319, 1, none⟩ = some (.int .i64 0) := (blk_cell BK319.out 1).trans rfl; have hcz8_2 : w7.cell? ⟨gb319, 2, none⟩ = some (.slice none 0 0) := (blk_cell BK319.out 2).trans rfl; have hfz8_0 := blk_frozen BK319.out 0; have hfz8_1 := blk_frozen BK319.out 1; have hfz8_2 := blk_frozen BK319.out 2; obtain ⟨Ao9, co9, eo9⟩ := Kd.R_slice HO318.out; subst eo9) | ((with_reducible refine gate_callee (f := 13) rfl ?_); refine gL (some 22) Try.func13 #[.slice A0 l0.length c0] ?_; (with_reducible refine (spec_DrawPlaces.calls k _ _ l0 t320 _ ?side1 ?side2 A5.out).mono ?_); (case side1 => exact Kd.C_below HR0.out bx); (case side2 => exact HC0.out); rintro e w10 ⟨v321, rfl, ho0, hb⟩; refine ⟨_, rfl, ?_⟩; replace HO313 := Aside0.mk (Kd.R_below (by (with_reducible repeat (first | apply Kd.R_alloc | apply Kd.R_drewN | apply Kd.R_drew)); exact (Kd.R_mono (Kd.R_far (p := ⟨gb319, 2, none⟩) (Kd.R_far (p := ⟨gb319, 1, none⟩) (Kd.R_far (p := ⟨gb319, 0, none⟩) (Kd.R_types HO313.out BK319.out (by decide)) (fun _ hk => hk.2) (.int .i64 t314)) (fun _ hk => hk.2) (.int .i64 t315)) (fun _ hk => hk.2) (.slice Ao9 t316.length co9)) (fun _ h_ => h_.1))) hb); have HO322 := Aside0.mk (Kd.R_lower (Kd.R_new' ho0 (Kd.R_lt (by (with_reducible repeat (first | apply Kd.R_alloc | apply Kd.R_drewN | apply Kd.R_drew)); exact (Kd.R_mono (Kd.R_far (p := ⟨gb319, 2, none⟩) (Kd.R_far (p := ⟨gb319, 1, none⟩) (Kd.R_far (p := ⟨gb319, 0, none⟩) (Kd.R_types HO318.out BK319.out (by decide)) (fun _ hk => hk.2) (.int .i64 t314)) (fun _ hk => hk.2) (.int .i64 t315)) (fun _ hk => hk.2) (.slice Ao9 t316.length co9)) (fun _ h_ => h_.1))))) (below_size bx)); replace HO318 := Aside0.mk (Kd.R_elder' (by (with_reducible repeat (first | apply Kd.R_alloc | apply Kd.R_drewN | apply Kd.R_drew)); exact (Kd.R_mono (Kd.R_far (p := ⟨gb319, 2, none⟩) (Kd.R_far (p := ⟨gb319, 1, none⟩) (Kd.R_far (p := ⟨gb319, 0, none⟩) (Kd.R_types HO318.out BK319.out (by decide)) (fun _ hk => hk.2) (.int .i64 t314)) (fun _ hk => hk.2) (.int .i64 t315)) (fun _ hk => hk.2) (.slice Ao9 t316.length co9)) (fun _ h_ => h_.1))) (Kd.R_base ho0) hb); replace BK319 := Aside0.mk (blk_below (g := gb319) (o := .cells #[.int .i64 t314, .int .i64 t315, .slice Ao9 t316.length co9] 36 (0, 0)) (by (with_reducible repeat (first | refine blk_drewN ?_ _ | refine blk_drew ?_ | refine blk_alloc ?_ _)); refine blk_put (cs := #[.int .i64 t314, .int .i64 t315, .slice none 0 0]) ?_ 2 _ rfl; (with_reducible repeat (first | refine blk_drewN ?_ _ | refine blk_drew ?_ | refine blk_alloc ?_ _)); refine blk_put (cs := #[.int .i64 t314, .int .i64 0, .slice none 0 0]) ?_ 1 _ rfl; (with_reducible repeat (first | refine blk_drewN ?_ _ | refine blk_drew ?_ | refine blk_alloc ?_ _)); refine blk_put (cs := #[.int .i64 0, .int .i64 0, .slice none 0 0]) ?_ 0 _ rfl; (with_reducible repeat (first | refine blk_drewN ?_ _ | refine blk_drew ?_ | refine blk_alloc ?_ _)); exact BK319.out) hb); replace HB := Aside0.mk (below_step bx hb); (try clear hb); (try clear hk); (try clear ho0)))
  go_loopg [6] k (fun kq v6 w' => ∃ (x5_1 : List Int) (x6_1 : Int) (x320002_1 : List Int) (u320002 : Value), v6 = .int .i64 x6_1 ∧ Aside0 (laws_FnApplied.l0 kq t311 x5_1 x6_1 t314 t315 x320002_1 = some r) ∧ Aside0 (kq ≤ k) ∧ Aside0 (Kd.R k43 43 w' w.heap.size (fun _ => True) v312 t311) ∧ Aside0 (Kd.R (Kd.int .i64) 3 w' w.heap.size (fun k_ => some k_ ≠ (u320002 : Value).ownBlock) v321 x5_1) ∧ Aside0 (Kd.R (Kd.int .i64) 3 w' w.heap.size (fun k_ => some k_ ≠ (v321 : Value).ownBlock) u320002 x320002_1) ∧ Aside0 (w'.heap[gb319]? = some (.cells #[.int .i64 t314, .int .i64 t315, u320002] 36 (0, 0))) ∧ Aside0 (Below w.heap.size w w'))
  case atStart => exact ⟨(t320), (0), (t316), (.slice Ao9 t316.length co9), tR, H', ⟨Nat.le_refl _⟩, ⟨rS HO313.out⟩, ⟨by (with_reducible repeat (first | apply Kd.R_alloc | apply Kd.R_drewN | apply Kd.R_drew)); exact Kd.R_mono HO322.out (fun _ hk => hk.2)⟩, ⟨by (with_reducible repeat (first | apply Kd.R_alloc | apply Kd.R_drewN | apply Kd.R_drew)); exact Kd.R_mono HO318.out (fun _ hk => hk.2)⟩, ⟨bS BK319.out⟩, ⟨bx⟩⟩
  case round =>
   clear H'
   try clear c1;try clear p2;try clear c3;try clear c4;try clear c10;try clear hcz8_0;try clear hcz8_1;try clear hcz8_2;try clear hfz8_0;try clear hfz8_1;try clear hfz8_2
   obtain ⟨x5_1, x6_1, x320002_1, u320002, rfl, HA, HK1, HO_3, HO_5, HO_320002, BK319, HB⟩ := hrel
   cases gk with
   | zero => exact absurd HA.out (by simp [laws_FnApplied.l0])
   | succ k1 =>
    have H := HA.out
    clear HA
    simp only [laws_FnApplied.l0] at H
    by_cases c11 : x6_1 < (t311.length : Int)
    ·rw [if_pos c11] at H
     have c11b0 : decide (x6_1 < (t311.length : Int)) = true := decide_eq_true c11
     clear c11
     by_cases c12 : 0 ≤ x6_1
     ·rw [if_pos c12] at H
      have c12b0 : decide (0 ≤ x6_1) = true := decide_eq_true c12
      clear c12
      replace H := Option.bind_eq_some_iff.mp H
      obtain ⟨t324, A130, H⟩ := H
      replace H : ((impl_WritesReg.f ((rd_T43 t311 x6_1).f0) ((rd_T43 t311 x6_1).f1) ((rd_T43 t311 x6_1).f2) ((rd_T43 t311 x6_1).f3)).bind fun t328 => ((impl_ReadsRegs.f k1 ((rd_T43 t311 x6_1).f0) ((rd_T43 t311 x6_1).f1) ((rd_T43 t311 x6_1).f2) ((rd_T43 t311 x6_1).f3)).bind fun t330 => ((some (([] : List Int) : List Int)).bind fun y333 => (if y333.length + x320002_1.length < 17592186044416 then (laws_FnApplied.l1 k1 t311 x5_1 x6_1 t324 t328 t330 (y333 ++ x320002_1) 0 t314 t315 x320002_1) else (none))))) = some r := H
      have A13 := Aside0.mk A130
      clear A130
      replace H := Option.bind_eq_some_iff.mp H
      obtain ⟨t328, A140, H⟩ := H
      replace H : ((impl_ReadsRegs.f k1 ((rd_T43 t311 x6_1).f0) ((rd_T43 t311 x6_1).f1) ((rd_T43 t311 x6_1).f2) ((rd_T43 t311 x6_1).f3)).bind fun t330 => ((some (([] : List Int) : List Int)).bind fun y333 => (if y333.length + x320002_1.length < 17592186044416 then (laws_FnApplied.l1 k1 t311 x5_1 x6_1 t324 t328 t330 (y333 ++ x320002_1) 0 t314 t315 x320002_1) else (none)))) = some r := H
      have A14 := Aside0.mk A140
      clear A140
      replace H := Option.bind_eq_some_iff.mp H
      obtain ⟨t330, A150, H⟩ := H
      replace H : ((some (([] : List Int) : List Int)).bind fun y333 => (if y333.length + x320002_1.length < 17592186044416 then (laws_FnApplied.l1 k1 t311 x5_1 x6_1 t324 t328 t330 (y333 ++ x320002_1) 0 t314 t315 x320002_1) else (none))) = some r := H
      have A15 := Aside0.mk A150
      clear A150
      obtain ⟨y333, hy333⟩ : ∃ y_ : List Int, y_ = (([] : List Int)) := ⟨_, rfl⟩
      replace H : (if y333.length + x320002_1.length < 17592186044416 then (laws_FnApplied.l1 k1 t311 x5_1 x6_1 t324 t328 t330 (y333 ++ x320002_1) 0 t314 t315 x320002_1) else (none)) = some r := rP hy333 H
      have Ny333 := Aside0.mk hy333
      clear hy333
      by_cases c16 : y333.length + x320002_1.length < 17592186044416
      ·rw [if_pos c16] at H
       have LMc16 := Aside0.mk c16
       clear c16
       obtain ⟨y336, hy336⟩ : ∃ y_ : List Int, y_ = (y333 ++ x320002_1) := ⟨_, rfl⟩
       replace H : (laws_FnApplied.l1 k1 t311 x5_1 x6_1 t324 t328 t330 y336 0 t314 t315 x320002_1) = some r := rP hy336 H
       have Ny336 := Aside0.mk hy336
       clear hy336
       have H' := Aside0.mk H
       clear H
       obtain ⟨Ao17, co17, eo17⟩ := Kd.R_slice HO_3.out
       subst eo17
       try go_wp2
       replace HO_3 := Aside0.mk (Kd.R_drew HO_3.out)
       replace HO_5 := Aside0.mk (Kd.R_drew HO_5.out)
       replace HO_320002 := Aside0.mk (Kd.R_drew HO_320002.out)
       replace BK319 := Aside0.mk (blk_drew BK319.out)
       replace HB := Aside0.mk (below_drew1 HB.out)
       have p323 : 0 ≤ (x6_1 : Int) := dT
       have q323 : x6_1 < (t311.length : Int) := dT
       obtain ⟨ad323, e323, hx323_0, hx323_1, hx323_2, hx323_3⟩ := at_T43 (Kd.R_reads' HO_3.out).2.2 x6_1 p323 q323
       cases e323
       replace p323 := eq_true p323
       replace q323 := eq_true q323
       obtain ⟨Ao19, co19, eo19⟩ := Kd.R_slice HO_320002.out
       (first | subst eo19 | (injection eo19 with f1_ f2_ f3_; have f4_ := f1_.symm; have f5_ := f3_.symm; clear f1_ f2_ f3_; subst f4_; subst f5_))
       refine start_ (n := 10) (S := fun w' => w'.cell? ⟨gb319, 0, none⟩ = some (.int .i64 t314) ∧ w'.cell? ⟨gb319, 1, none⟩ = some (.int .i64 t315) ∧ w'.cell? ⟨gb319, 2, none⟩ = some (.slice Ao19 x320002_1.length co19) ∧ w'.cell? (ad323.add ((x6_1).toNat * 4)) = some (.int .i64 ((rd_T43 t311 x6_1).f0)) ∧ w'.cell? ⟨(ad323.add ((x6_1).toNat * 4)).block, (ad323.add ((x6_1).toNat * 4)).off + 1, none⟩ = some (.int .i64 ((rd_T43 t311 x6_1).f1)) ∧ w'.cell? ⟨(ad323.add ((x6_1).toNat * 4)).block, (ad323.add ((x6_1).toNat * 4)).off + 2, none⟩ = some (.int .i64 ((rd_T43 t311 x6_1).f2)) ∧ w'.cell? ⟨(ad323.add ((x6_1).toNat * 4)).block, (ad323.add ((x6_1).toNat * 4)).off + 3, none⟩ = some (.int .i64 ((rd_T43 t311 x6_1).f3))) (ds := []) #[false,false,false,false,false,false,false,false,false,false] (by kernel_rfl) rfl rfl ⟨(blk_cell BK319.out 0).trans rfl, (blk_cell BK319.out 1).trans rfl, (blk_cell BK319.out 2).trans rfl, hx323_0, hx323_1, hx323_2, hx323_3⟩ (fun hHeld => ?_); refine with_tabW laws_FnApplied.tab8 laws_FnApplied.bits8 (fun HT_ HW_ => ?_)
       generalize wr.drew = w18 at HO_3 HO_5 HO_320002 BK319 HB hx323_0 hx323_1 hx323_2 hx323_3 hHeld ⊢
       refine pU 0 29 (v := ?_) (a' := ?_) #[Y,Z,Z,Z,Z,Z,Z,Z,Z,Z] HT_ rfl rfl (by kernel_rfl) ?_ ?_ ?_;rotate_left;(intro w';go_simp;with_reducible rfl);rotate_left;(simp only [Act.put, sA, s0, sN, i64_w, i32_w];rfl)
       refine pU 1 30 (v := ?_) (a' := ?_) #[Y,Y,Z,Z,Z,Z,Z,Z,Z,Z] HT_ rfl rfl (by kernel_rfl) ?_ ?_ ?_;rotate_left;(intro w';go_simp;with_reducible rfl);rotate_left;(simp only [Act.put, sA, s0, sN, i64_w, i32_w];rfl)
       refine pU 2 31 (v := ?_) (a' := ?_) #[Y,Y,Y,Z,Z,Z,Z,Z,Z,Z] HT_ rfl rfl (by kernel_rfl) ?_ ?_ ?_;rotate_left;(intro w';go_simp;with_reducible rfl);rotate_left;(simp only [Act.put, sA, s0, sN, i64_w, i32_w];rfl)
       refine pU 4 33 (v := ?_) (a' := ?_) #[Y,Y,Y,Z,Y,Z,Z,Z,Z,Z] HT_ rfl rfl (by kernel_rfl) ?_ ?_ ?_;rotate_left;(intro w';go_simp;with_reducible rfl);rotate_left;(simp only [Act.put, sA, s0, sN, i64_w, i32_w];rfl)
       refine pU 6 35 (v := ?_) (a' := ?_) #[Y,Y,Y,Z,Y,Z,Y,Z,Z,Z] HT_ rfl rfl (by kernel_rfl) ?_ ?_ ?_;rotate_left;(intro w';go_simp;with_reducible rfl);rotate_left;(simp only [Act.put, sA, s0, sN, i64_w, i32_w];rfl)
       refine take_ (i := 3) (N := some 32) (v := ?_) (a' := ?_) #[Y,Y,Y,Y,Y,Z,Y,Z,Z,Z] rfl rfl (take_ofW HT_.out HW_.out (by kernel_rfl)) (fun _ _ _ h => h) (Or.inl ⟨by rfl, ?_⟩) hHeld ?_ ?_
       rotate_left
       ·rintro w' ⟨s0, s1, s2, s3, s4, s5, s6⟩
        go_simp
        with_reducible rfl
       rotate_left
       ·simp only [Act.put, sA, s0, sN, i64_w, i32_w]
        rfl
       refine take_ (i := 5) (N := some 34) (v := ?_) (a' := ?_) #[Y,Y,Y,Y,Y,Y,Y,Z,Z,Z] rfl rfl (take_ofW HT_.out HW_.out (by kernel_rfl)) (fun _ _ _ h => h) (Or.inl ⟨by rfl, ?_⟩) hHeld ?_ ?_
       rotate_left
       ·rintro w' ⟨s0, s1, s2, s3, s4, s5, s6⟩
        go_simp
        with_reducible rfl
       rotate_left
       ·simp only [Act.put, sA, s0, sN, i64_w, i32_w]
        rfl
       refine take_ (i := 7) (N := some 36) (v := ?_) (a' := ?_) #[Y,Y,Y,Y,Y,Y,Y,Y,Z,Z] rfl rfl (take_ofW HT_.out HW_.out (by kernel_rfl)) (fun _ _ _ h => h) (Or.inl ⟨by rfl, ?_⟩) hHeld ?_ ?_
       rotate_left
       ·rintro w' ⟨s0, s1, s2, s3, s4, s5, s6⟩
        go_simp
        with_reducible rfl
       rotate_left
       ·simp only [Act.put, sA, s0, sN, i64_w, i32_w]
        rfl
       refine one_ (i := 8) (N := some 37) #[Y,Y,Y,Y,Y,Y,Y,Y,Y,Z] rfl rfl (one_of HT_.out (by kernel_rfl)) (by decide) (fun K hK => ?_)
       refine goes_ Try.func24 (by kernel_rfl) rfl #[.agg #[.int .i64 ((rd_T43 t311 x6_1).f0), .int .i64 ((rd_T43 t311 x6_1).f1), .int .i64 ((rd_T43 t311 x6_1).f2), .int .i64 ((rd_T43 t311 x6_1).f3)], .int .i64 t314, .slice Ao19 x320002_1.length co19] (by rfl) rfl rfl bz ?_
       with_reducible refine (impl_ApplyIns.calls k1 ((rd_T43 t311 x6_1).f0) ((rd_T43 t311 x6_1).f1) ((rd_T43 t311 x6_1).f2) ((rd_T43 t311 x6_1).f3) t314 _ _ x320002_1 t324 _ ?side1 ?side2 A13.out).mono ?_
       (case side1 => exact cS (Kd.R_reads' HO_320002.out).2.2)
       (case side2 => exact (Kd.R_reads' HO_320002.out).2.1)
       rintro e w20 ⟨v325, rfl, ho0, hb⟩
       have HS3_ := (hb.cell (World.block_lt_of_cell? _ _ (hHeld.2.2.2.1))).trans (hHeld.2.2.2.1)
       have HS4_ := (hb.cell (World.block_lt_of_cell? _ _ (hHeld.2.2.2.2.1))).trans (hHeld.2.2.2.2.1)
       have HS5_ := (hb.cell (World.block_lt_of_cell? _ _ (hHeld.2.2.2.2.2.1))).trans (hHeld.2.2.2.2.2.1)
       have HS6_ := (hb.cell (World.block_lt_of_cell? _ _ (hHeld.2.2.2.2.2.2))).trans (hHeld.2.2.2.2.2.2)
       refine ⟨_, rfl, ?_⟩
       replace HO_3 := Aside0.mk (Kd.R_below (rS HO_3.out) hb)
       have HO326 := Aside0.mk (Kd.R_lower (Kd.R_new' (Kd.R_new' ho0 (Kd.R_lt (rS HO_5.out))) (Kd.R_lt (rS HO_320002.out))) (below_size bx))
       replace HO_5 := Aside0.mk (Kd.R_elder' (rS HO_5.out) (Kd.R_base ho0) hb)
       replace HO_320002 := Aside0.mk (Kd.R_elder' (rS HO_320002.out) (Kd.R_base ho0) hb)
       replace BK319 := Aside0.mk (blk_below (g := gb319) (o := .cells #[.int .i64 t314, .int .i64 t315, .slice Ao19 x320002_1.length co19] 36 (0, 0)) (bS BK319.out) hb)
       replace HB := Aside0.mk (below_step bx hb)
       (try clear hb)
       (try clear hb2)
       (try clear hk)
       (try clear hi)
       (try clear ho0)
       refine hK.out _ _ ⟨(blk_cell BK319.out 0).trans rfl, (blk_cell BK319.out 1).trans rfl, (blk_cell BK319.out 2).trans rfl, HS3_, HS4_, HS5_, HS6_⟩ (fun hHeld => ?_)
       clear hK K
       refine norm_ (a' := ?_) ?_ ?_
       rotate_left
       ·show Act.put _ (some 37) _ = _
        simp only [Act.put, sA, s0, sN, i64_w, i32_w]
        rfl
       refine pU 9 7 (v := ?_) (a' := ?_) #[Y,Y,Y,Y,Y,Y,Y,Y,Y,Y] HT_ rfl rfl (by kernel_rfl) ?_ ?_ ?_;rotate_left;(intro w';go_simp;with_reducible rfl);rotate_left;(simp only [Act.put, sA, s0, sN, i64_w, i32_w];rfl)
       refine done_ (done_of HT_.out (by kernel_rfl)) ?_
       have p327 : 0 ≤ (x6_1 : Int) := dT
       have q327 : x6_1 < (t311.length : Int) := dT
       obtain ⟨ad327, e327, hx327_0, hx327_1, hx327_2, hx327_3⟩ := at_T43 (Kd.R_reads' HO_3.out).2.2 x6_1 p327 q327
       obtain rfl : ad323 = ad327 := (by injection e327)
       replace p327 := eq_true p327
       replace q327 := eq_true q327
       try go_wp2_with (first | ((with_reducible refine gate_callee (f := 46) rfl ?_); refine gL (some 42) Try.func46 #[.agg #[.int .i64 ((rd_T43 t311 x6_1).f0), .int .i64 ((rd_T43 t311 x6_1).f1), .int .i64 ((rd_T43 t311 x6_1).f2), .int .i64 ((rd_T43 t311 x6_1).f3)]] ?_; (with_reducible refine (impl_WritesReg.calls ((rd_T43 t311 x6_1).f0) ((rd_T43 t311 x6_1).f1) ((rd_T43 t311 x6_1).f2) ((rd_T43 t311 x6_1).f3) t328 _ A14.out).mono ?_); rintro e w21 ⟨rfl, hb⟩; refine ⟨_, rfl, ?_⟩; replace HO_3 := Aside0.mk (Kd.R_below (rS HO_3.out) hb); replace HO_5 := Aside0.mk (Kd.R_below (rS HO_5.out) hb); replace HO_320002 := Aside0.mk (Kd.R_below (rS HO_320002.out) hb); replace HO326 := Aside0.mk (Kd.R_below (rS HO326.out) hb); replace BK319 := Aside0.mk (blk_below (g := gb319) (o := .cells #[.int .i64 t314, .int .i64 t315, .slice Ao19 x320002_1.length co19] 36 (0, 0)) (bS BK319.out) hb); replace HB := Aside0.mk (below_step bx hb); (try clear hb); have p329 : 0 ≤ (x6_1 : Int) := dT; have q329 : x6_1 < (t311.length : Int) := dT; obtain ⟨ad329, e329, hx329_0, hx329_1, hx329_2, hx329_3⟩ := at_T43 (Kd.R_reads' HO_3.out).2.2 x6_1 p329 q329; obtain rfl : ad323 = ad329 := (by injection e329); replace p329 := eq_true p329; replace q329 := eq_true q329) | ((with_reducible refine gate_callee (f := 47) rfl ?_); refine gL (some 47) Try.func47 #[.agg #[.int .i64 ((rd_T43 t311 x6_1).f0), .int .i64 ((rd_T43 t311 x6_1).f1), .int .i64 ((rd_T43 t311 x6_1).f2), .int .i64 ((rd_T43 t311 x6_1).f3)]] ?_; (with_reducible refine (impl_ReadsRegs.calls k1 ((rd_T43 t311 x6_1).f0) ((rd_T43 t311 x6_1).f1) ((rd_T43 t311 x6_1).f2) ((rd_T43 t311 x6_1).f3) t330 _ A15.out).mono ?_); rintro e w22 ⟨v331, rfl, ho0, hb⟩; refine ⟨_, rfl, ?_⟩; replace HO_3 := Aside0.mk (Kd.R_below (rS HO_3.out) hb); have HO332 := Aside0.mk (Kd.R_lower (Kd.R_new' (Kd.R_new' (Kd.R_new' ho0 (Kd.R_lt (rS HO_5.out))) (Kd.R_lt (rS HO_320002.out))) (Kd.R_lt (rS HO326.out))) (below_size bx)); replace HO_5 := Aside0.mk (Kd.R_elder' (rS HO_5.out) (Kd.R_base ho0) hb); replace HO_320002 := Aside0.mk (Kd.R_elder' (rS HO_320002.out) (Kd.R_base ho0) hb); replace HO326 := Aside0.mk (Kd.R_elder' (rS HO326.out) (Kd.R_base ho0) hb); replace BK319 := Aside0.mk (blk_below (g := gb319) (o := .cells #[.int .i64 t314, .int .i64 t315, .slice Ao19 x320002_1.length co19] 36 (0, 0)) (bS BK319.out) hb); replace HB := Aside0.mk (below_step bx hb); (try clear hb); (try clear ho0)) | ((with_reducible refine gate_dst (N := 48) rfl ?_); (try (refine gate_guard (by rfl) ?_; dsimp only)); refine Kd.R_lit (Kd.int .i64) _ 3 ?hg (N := 48) ?hd (xs := ([] : List Int)) (inner := []) (ok := fun _ => True) (okp := fun _ => True) ?hr ?hp (fun _ hk => hk) trivial (Below.refl _ _) (Nat.le_refl _) (by simp) ?_; (case hd => rfl); (case hg => rfl); (case hr => first | (go_simp; done) | (go_simp; rfl)); (case hp => exact (Reps.none _ _)); intro v334 w23 ho24 hb hg_ hnew_; clear hg_ hnew_; (first | rw [← Ny333.out] at ho24 | (simp only [Int.reduceToNat] at ho24; rw [← Ny333.out] at ho24)); replace HO_3 := Aside0.mk (Kd.R_below (rS HO_3.out) hb); have HO335 := Aside0.mk (Kd.R_lower (Kd.R_new' (Kd.R_new' (Kd.R_new' (Kd.R_new' ho24 (Kd.R_lt (rS HO_5.out))) (Kd.R_lt (rS HO_320002.out))) (Kd.R_lt (rS HO326.out))) (Kd.R_lt (rS HO332.out))) (below_size bx)); replace HO_5 := Aside0.mk (Kd.R_elder' (rS HO_5.out) (Kd.R_base ho24) hb); replace HO_320002 := Aside0.mk (Kd.R_elder' (rS HO_320002.out) (Kd.R_base ho24) hb); replace HO326 := Aside0.mk (Kd.R_elder' (rS HO326.out) (Kd.R_base ho24) hb); replace HO332 := Aside0.mk (Kd.R_elder' (rS HO332.out) (Kd.R_base ho24) hb); replace BK319 := Aside0.mk (blk_below (g := gb319) (o := .cells #[.int .i64 t314, .int .i64 t315, .slice Ao19 x320002_1.length co19] 36 (0, 0)) (bS BK319.out) hb); replace HB := Aside0.mk (below_step bx hb); clear hb ho24; have hcz25_0 : w23.cell? ⟨gb319, 0, none⟩ = some (.int .i64 t314) := (blk_cell BK319.out 0).trans rfl; have hcz25_1 : w23.cell? ⟨gb319, 1, none⟩ = some (.int .i64 t315) := (blk_cell BK319.out 1).trans rfl; have hcz25_2 : w23.cell? ⟨gb319, 2, none⟩ = some (.slice Ao19 x320002_1.length co19) := (blk_cell BK319.out 2).trans rfl; have hfz25_0 := blk_frozen BK319.out 0; have hfz25_1 := blk_frozen BK319.out 1; have hfz25_2 := blk_frozen BK319.out 2) | ((with_reducible refine gate_builtin (b := .append) (xs := #[.tmp 48, .tmp 50]) rfl ?_); (try (refine gate_guard (by rfl) ?_; dsimp only)); at_builtin; refine Kd.R_append_rows (Kd.int .i64) (w0 := w) w.heap.size rfl (.tmp 48) (.tmp 50) 26 3 (.int .i64 0) 8 rfl Try.underlying26 info3 rfl (by decide) (by omega) v334 y333 x320002_1 _ _ _ (fun k_ => some k_ ≠ (v321 : Value).ownBlock ∧ some k_ ≠ (.slice Ao19 x320002_1.length co19 : Value).ownBlock ∧ some k_ ≠ (v325 : Value).ownBlock ∧ some k_ ≠ (v331 : Value).ownBlock) (fun _ => False) rfl rfl ?aO ?aR (fun _ _ h => h) (fun _ h => h.elim) ?aF ?aB ?aS ?aL ?_; (case aR => repeat (first | exact (Kd.R_reads' HO_320002.out).2.2 | (with_reducible refine Kd.C_alloc ?_ _) | (with_reducible refine Kd.C_drewN ?_ _) | (with_reducible refine Kd.C_drew ?_))); (case aB => exact bx); (case aF => exact (fun k_ hk => ⟨Kd.fresh' (Kd.R_lt (rS HO_5.out)) k_ hk, Kd.fresh' (Kd.R_lt (rS HO_320002.out)) k_ hk, Kd.fresh' (Kd.R_lt (rS HO326.out)) k_ hk, Kd.fresh' (Kd.R_lt (rS HO332.out)) k_ hk⟩)); (case aO => exact (by (with_reducible repeat (first | apply Kd.R_alloc | apply Kd.R_drewN | apply Kd.R_drew)); exact Kd.R_mono HO335.out (fun _ hk => aQ hk))); (case aS => exact (below_size bx)); (case aL => have := LMc16.out; omega); intro v337 w26 ho hb hg hat; rw [← Ny336.out] at ho; replace HO_3 := Aside0.mk (Kd.R_over' (rS HO_3.out) (Kd.R_typed (rS HO335.out)) (by decide) hg); replace HO_5 := Aside0.mk (Kd.R_after (ok := (fun k_ => some k_ ≠ (.slice Ao19 x320002_1.length co19 : Value).ownBlock ∧ some k_ ≠ (v325 : Value).ownBlock ∧ some k_ ≠ (v331 : Value).ownBlock)) (by (with_reducible repeat (first | apply Kd.R_alloc | apply Kd.R_drewN | apply Kd.R_drew)); exact Kd.R_mono HO_5.out (fun _ hk => aQ hk)) hg hat); replace HO_320002 := Aside0.mk (Kd.R_after (ok := (fun k_ => some k_ ≠ (v321 : Value).ownBlock ∧ some k_ ≠ (v325 : Value).ownBlock ∧ some k_ ≠ (v331 : Value).ownBlock)) (by (with_reducible repeat (first | apply Kd.R_alloc | apply Kd.R_drewN | apply Kd.R_drew)); exact Kd.R_mono HO_320002.out (fun _ hk => aQ hk)) hg hat); replace BK319 := Aside0.mk (blk_grown (g := gb319) (o := .cells #[.int .i64 t314, .int .i64 t315, .slice Ao19 x320002_1.length co19] 36 (0, 0)) (bS BK319.out) hg (Kd.R_ne HO335.out BK319.out (by decide))); replace HO326 := Aside0.mk (Kd.R_after (ok := (fun k_ => some k_ ≠ (v321 : Value).ownBlock ∧ some k_ ≠ (.slice Ao19 x320002_1.length co19 : Value).ownBlock ∧ some k_ ≠ (v331 : Value).ownBlock)) (by (with_reducible repeat (first | apply Kd.R_alloc | apply Kd.R_drewN | apply Kd.R_drew)); exact Kd.R_mono HO326.out (fun _ hk => aQ hk)) hg hat); replace HO332 := Aside0.mk (Kd.R_after (ok := (fun k_ => some k_ ≠ (v321 : Value).ownBlock ∧ some k_ ≠ (.slice Ao19 x320002_1.length co19 : Value).ownBlock ∧ some k_ ≠ (v325 : Value).ownBlock)) (by (with_reducible repeat (first | apply Kd.R_alloc | apply Kd.R_drewN | apply Kd.R_drew)); exact Kd.R_mono HO332.out (fun _ hk => aQ hk)) hg hat); replace HB := Aside0.mk (hb); have HO338 := Aside0.mk (ho); clear HO335; clear ho hb hg hat))
       go_loopg [11] k1 (fun kq v11 w' => ∃ (x10_2 : List Int) (x11_2 : Int), v11 = .int .i64 x11_2 ∧ Aside0 (laws_FnApplied.l1 kq t311 x5_1 x6_1 t324 t328 t330 x10_2 x11_2 t314 t315 x320002_1 = some r) ∧ Aside0 (kq ≤ k1) ∧ Aside0 (Kd.R k43 43 w' w.heap.size (fun _ => True) (.slice (some ad323) t311.length co17) t311) ∧ Aside0 (Kd.R (Kd.int .i64) 3 w' w.heap.size (fun k_ => some k_ ≠ (v325 : Value).ownBlock ∧ some k_ ≠ (v331 : Value).ownBlock ∧ some k_ ≠ (v337 : Value).ownBlock ∧ some k_ ≠ ((.slice Ao19 x320002_1.length co19) : Value).ownBlock) v321 x5_1) ∧ Aside0 (Kd.R (Kd.int .i64) 3 w' w.heap.size (fun k_ => some k_ ≠ (v321 : Value).ownBlock ∧ some k_ ≠ (v331 : Value).ownBlock ∧ some k_ ≠ (v337 : Value).ownBlock ∧ some k_ ≠ ((.slice Ao19 x320002_1.length co19) : Value).ownBlock) v325 t324) ∧ Aside0 (Kd.R (Kd.int .i64) 3 w' w.heap.size (fun k_ => some k_ ≠ (v321 : Value).ownBlock ∧ some k_ ≠ (v325 : Value).ownBlock ∧ some k_ ≠ (v337 : Value).ownBlock ∧ some k_ ≠ ((.slice Ao19 x320002_1.length co19) : Value).ownBlock) v331 t330) ∧ Aside0 (Kd.R (Kd.int .i64) 3 w' w.heap.size (fun k_ => some k_ ≠ (v321 : Value).ownBlock ∧ some k_ ≠ (v325 : Value).ownBlock ∧ some k_ ≠ (v331 : Value).ownBlock ∧ some k_ ≠ ((.slice Ao19 x320002_1.length co19) : Value).ownBlock) v337 x10_2) ∧ Aside0 (Kd.R (Kd.int .i64) 3 w' w.heap.size (fun k_ => some k_ ≠ (v321 : Value).ownBlock ∧ some k_ ≠ (v325 : Value).ownBlock ∧ some k_ ≠ (v331 : Value).ownBlock ∧ some k_ ≠ (v337 : Value).ownBlock) (.slice Ao19 x320002_1.length co19) x320002_1) ∧ Aside0 (w'.heap[gb319]? = some (.cells #[.int .i64 t314, .int .i64 t315, (.slice Ao19 x320002_1.length co19)] 36 (0, 0))) ∧ Aside0 (Below w.heap.size w w'))
       case atStart => exact ⟨(y336), (0), tR, H', ⟨Nat.le_refl _⟩, ⟨rS HO_3.out⟩, ⟨by (with_reducible repeat (first | apply Kd.R_alloc | apply Kd.R_drewN | apply Kd.R_drew)); exact Kd.R_mono HO_5.out (fun _ hk => aQ hk)⟩, ⟨by (with_reducible repeat (first | apply Kd.R_alloc | apply Kd.R_drewN | apply Kd.R_drew)); exact Kd.R_mono HO326.out (fun _ hk => aQ hk)⟩, ⟨by (with_reducible repeat (first | apply Kd.R_alloc | apply Kd.R_drewN | apply Kd.R_drew)); exact Kd.R_mono HO332.out (fun _ hk => aQ hk)⟩, ⟨by (with_reducible repeat (first | apply Kd.R_alloc | apply Kd.R_drewN | apply Kd.R_drew)); exact Kd.R_mono HO338.out (fun _ hk => aQ hk)⟩, ⟨by (with_reducible repeat (first | apply Kd.R_alloc | apply Kd.R_drewN | apply Kd.R_drew)); exact Kd.R_mono HO_320002.out (fun _ hk => aQ hk)⟩, ⟨bS BK319.out⟩, ⟨bx⟩⟩
       case round =>
        clear H'
        try clear c1;try clear c2;try clear p2;try clear c3;try clear p3;try clear q3;try clear hx3;try clear c4;try clear c10;try clear c11;try clear c11b0;try clear c12;try clear c12b0;try clear c13;try clear c16;try clear c24;try clear hcz25_0;try clear hcz25_1;try clear hcz25_2;try clear hcz8_0;try clear hcz8_1;try clear hcz8_2;try clear hfz25_0;try clear hfz25_1;try clear hfz25_2;try clear hfz8_0;try clear hfz8_1;try clear hfz8_2;try clear hx323_0;try clear hx323_1;try clear hx323_2;try clear hx323_3;try clear hx327_0;try clear hx327_1;try clear hx327_2;try clear hx327_3;try clear hx329_0;try clear hx329_1;try clear hx329_2;try clear hx329_3;try clear p2;try clear p323;try clear p327;try clear p329;try clear q323;try clear q327;try clear q329
        obtain ⟨x10_2, x11_2, rfl, HA, HK2, HO_3, HO_5, HO_7, HO_9, HO_10, HO_320002, BK319, HB⟩ := hrel
        cases gk with
        | zero => exact absurd HA.out (by simp [laws_FnApplied.l1])
        | succ k2 =>
         have H := HA.out
         clear HA
         simp only [laws_FnApplied.l1] at H
         by_cases c27 : x11_2 < (x10_2.length : Int)
         ·rw [if_pos c27] at H
          have c27b0 : decide (x11_2 < (x10_2.length : Int)) = true := decide_eq_true c27
          clear c27
          replace H := Option.bind_eq_some_iff.mp H
          obtain ⟨t339, A280, H⟩ := H
          replace H : (if t339 = true then (laws_FnApplied.l1 k2 t311 x5_1 x6_1 t324 t328 t330 x10_2 (wrap64 (x11_2 + 1)) t314 t315 x320002_1) else (if 0 ≤ x11_2 then (if x11_2 < (x5_1.length : Int) then (laws_FnApplied.l1 k2 t311 x5_1 x6_1 t324 t328 t330 (x10_2.set (x11_2 : Int).toNat (rd x5_1 x11_2)) (wrap64 (x11_2 + 1)) t314 t315 x320002_1) else (none)) else (none))) = some r := H
          have A28 := Aside0.mk A280
          clear A280
          by_cases c29 : t339 = true
          ·subst c29
           have H1 : (laws_FnApplied.l1 k2 t311 x5_1 x6_1 t324 t328 t330 x10_2 (wrap64 (x11_2 + 1)) t314 t315 x320002_1) = some r := by rw [if_pos rfl] at H; exact H
           clear H
           have H := H1
           clear H1
           have H' := Aside0.mk H
           clear H
           obtain ⟨Ao30, co30, eo30⟩ := Kd.R_slice HO_10.out
           subst eo30
           obtain ⟨Ao31, co31, eo31⟩ := Kd.R_slice HO_9.out
           subst eo31
           go_wp2_with (first | ((with_reducible refine gate_callee (f := 48) rfl ?_); refine gL (some 60) Try.func48 #[.slice Ao31 t330.length co31, .int .i64 x11_2] ?_; (with_reducible refine (laws_has.calls k2 _ _ t330 x11_2 true _ ?side1 ?side2 A28.out).mono ?_); (case side1 => exact cS (Kd.R_reads' HO_9.out).2.2); (case side2 => exact (Kd.R_reads' HO_9.out).2.1); rintro e w' ⟨rfl, ⟨nd, rfl⟩⟩; refine ⟨_, rfl, ?_⟩))
           go_roundg k2
           case measure => have := HK1.out; have := HK2.out; omega
           case rel => exact ⟨(x10_2), (wrap64 (x11_2 + 1)), tR, H', ⟨by have := HK1.out; have := HK2.out; omega⟩, ⟨rS HO_3.out⟩, ⟨rS HO_5.out⟩, ⟨rS HO_7.out⟩, ⟨rS HO_9.out⟩, ⟨rS HO_10.out⟩, ⟨rS HO_320002.out⟩, ⟨bS BK319.out⟩, ⟨bx⟩⟩
          ·replace c29 := Bool.eq_false_iff.mpr c29
           subst c29
           have H1 : (if 0 ≤ x11_2 then (if x11_2 < (x5_1.length : Int) then (laws_FnApplied.l1 k2 t311 x5_1 x6_1 t324 t328 t330 (x10_2.set (x11_2 : Int).toNat (rd x5_1 x11_2)) (wrap64 (x11_2 + 1)) t314 t315 x320002_1) else (none)) else (none)) = some r := by rw [if_neg (show ¬ (false = true) by decide)] at H; exact H
           clear H
           have H := H1
           clear H1
           by_cases c32 : 0 ≤ x11_2
           ·rw [if_pos c32] at H
            have c32b0 : decide (0 ≤ x11_2) = true := decide_eq_true c32
            clear c32
            by_cases c33 : x11_2 < (x5_1.length : Int)
            ·rw [if_pos c33] at H
             have c33b0 : decide (x11_2 < (x5_1.length : Int)) = true := decide_eq_true c33
             clear c33
             obtain ⟨y341, hy341⟩ : ∃ y_ : List Int, y_ = (x10_2.set (x11_2 : Int).toNat (rd x5_1 x11_2)) := ⟨_, rfl⟩
             replace H : (laws_FnApplied.l1 k2 t311 x5_1 x6_1 t324 t328 t330 y341 (wrap64 (x11_2 + 1)) t314 t315 x320002_1) = some r := rP hy341 H
             have Ny341 := Aside0.mk hy341
             clear hy341
             have H' := Aside0.mk H
             clear H
             obtain ⟨Ao35, co35, eo35⟩ := Kd.R_slice HO_10.out
             subst eo35
             obtain ⟨Ao36, co36, eo36⟩ := Kd.R_slice HO_9.out
             subst eo36
             go_wp2_with (first | ((with_reducible refine gate_callee (f := 48) rfl ?_); refine gL (some 60) Try.func48 #[.slice Ao36 t330.length co36, .int .i64 x11_2] ?_; (with_reducible refine (laws_has.calls k2 _ _ t330 x11_2 false _ ?side1 ?side2 A28.out).mono ?_); (case side1 => exact cS (Kd.R_reads' HO_9.out).2.2); (case side2 => exact (Kd.R_reads' HO_9.out).2.1); rintro e w' ⟨rfl, ⟨nd, rfl⟩⟩; refine ⟨_, rfl, ?_⟩; (try (rw [drewN_self wr]; generalize hq_ : World.drewN wr _ = wr; have n0_ : Aside0 (Kd.R (Kd.int .i64) 3 wr w.heap.size (fun k_ => some k_ ≠ (.slice Ao19 x320002_1.length co19 : Value).ownBlock ∧ some k_ ≠ (v321 : Value).ownBlock ∧ some k_ ≠ (v325 : Value).ownBlock ∧ some k_ ≠ (.slice Ao36 t330.length co36 : Value).ownBlock) (.slice Ao35 x10_2.length co35) x10_2) := ⟨by rw [← hq_]; exact (by (with_reducible repeat (first | apply Kd.R_alloc | apply Kd.R_drewN | apply Kd.R_drew)); exact Kd.R_mono HO_10.out (fun _ hk => aQ hk))⟩; have n1_ : Aside0 (Kd.R k43 43 wr w.heap.size (fun _ => True) (.slice (some ad323) t311.length co17) t311) := ⟨by rw [← hq_]; exact (rS HO_3.out)⟩; have n2_ : Aside0 (Kd.R (Kd.int .i64) 3 wr w.heap.size (fun k_ => some k_ ≠ (.slice Ao35 x10_2.length co35 : Value).ownBlock ∧ some k_ ≠ (v321 : Value).ownBlock ∧ some k_ ≠ (v325 : Value).ownBlock ∧ some k_ ≠ (.slice Ao36 t330.length co36 : Value).ownBlock) (.slice Ao19 x320002_1.length co19) x320002_1) := ⟨by rw [← hq_]; exact (by (with_reducible repeat (first | apply Kd.R_alloc | apply Kd.R_drewN | apply Kd.R_drew)); exact Kd.R_mono HO_320002.out (fun _ hk => aQ hk))⟩; have n3_ : Aside0 (Kd.R (Kd.int .i64) 3 wr w.heap.size (fun k_ => some k_ ≠ (.slice Ao35 x10_2.length co35 : Value).ownBlock ∧ some k_ ≠ (.slice Ao19 x320002_1.length co19 : Value).ownBlock ∧ some k_ ≠ (v325 : Value).ownBlock ∧ some k_ ≠ (.slice Ao36 t330.length co36 : Value).ownBlock) v321 x5_1) := ⟨by rw [← hq_]; exact (by (with_reducible repeat (first | apply Kd.R_alloc | apply Kd.R_drewN | apply Kd.R_drew)); exact Kd.R_mono HO_5.out (fun _ hk => aQ hk))⟩; have n4_ : Aside0 (Kd.R (Kd.int .i64) 3 wr w.heap.size (fun k_ => some k_ ≠ (.slice Ao35 x10_2.length co35 : Value).ownBlock ∧ some k_ ≠ (.slice Ao19 x320002_1.length co19 : Value).ownBlock ∧ some k_ ≠ (v321 : Value).ownBlock ∧ some k_ ≠ (.slice Ao36 t330.length co36 : Value).ownBlock) v325 t324) := ⟨by rw [← hq_]; exact (by (with_reducible repeat (first | apply Kd.R_alloc | apply Kd.R_drewN | apply Kd.R_drew)); exact Kd.R_mono HO_7.out (fun _ hk => aQ hk))⟩; have n5_ : Aside0 (Kd.R (Kd.int .i64) 3 wr w.heap.size (fun k_ => some k_ ≠ (.slice Ao35 x10_2.length co35 : Value).ownBlock ∧ some k_ ≠ (.slice Ao19 x320002_1.length co19 : Value).ownBlock ∧ some k_ ≠ (v321 : Value).ownBlock ∧ some k_ ≠ (v325 : Value).ownBlock) (.slice Ao36 t330.length co36) t330) := ⟨by rw [← hq_]; exact (by (with_reducible repeat (first | apply Kd.R_alloc | apply Kd.R_drewN | apply Kd.R_drew)); exact Kd.R_mono HO_9.out (fun _ hk => aQ hk))⟩; have n6_ : Aside0 (wr.heap[gb319]? = some (.cells #[.int .i64 t314, .int .i64 t315, .slice Ao19 x320002_1.length co19] 36 (0, 0))) := ⟨by rw [← hq_]; exact (bS BK319.out)⟩; have n7_ : Aside0 (Below w.heap.size w wr) := ⟨by rw [← hq_]; exact bx⟩; clear HO_10 HO_3 HO_320002 HO_5 HO_7 HO_9 BK319 HB hq_; have HO_10 := n0_; have HO_3 := n1_; have HO_320002 := n2_; have HO_5 := n3_; have HO_7 := n4_; have HO_9 := n5_; have BK319 := n6_; have HB := n7_; clear n0_ n1_ n2_ n3_ n4_ n5_ n6_ n7_)); obtain ⟨Ao37, co37, eo37⟩ := Kd.R_slice HO_5.out; subst eo37; have p340 : 0 ≤ (x11_2 : Int) := dT; have q340 : x11_2 < (x5_1.length : Int) := dT; obtain ⟨ad340, e340, hx340_0⟩ := Kd.at_int (Kd.R_reads' HO_5.out).2.2 x11_2 p340 q340; cases e340; replace p340 := eq_true p340; replace q340 := eq_true q340; have p34 : 0 ≤ (x11_2 : Int) := dT; have q34 : (x11_2 : Int) < ((x10_2.length : Int) : Int) := dT; obtain ⟨go34, co34, eo34, gb34, gl34, cl34, HG34⟩ := Kd.R_form HO_10.out (by omega); (first | cases eo34 | (injection eo34 with ea_ en_ ec_; (first | subst ea_ | (injection ea_ with ea_; subst ea_)); subst ec_; clear en_)); have GB34 := Aside0.mk gb34; have GG34 := Aside0.mk HG34; clear gb34 gl34 HG34; obtain ⟨hx34_0, hf34_0⟩ := Kd.R_celln 0 HO_10.out (x11_2 : Int) p34 q34; replace p34 := eq_true p34; replace q34 := eq_true q34; obtain ⟨hy38_, hz38_⟩ := Kd.R_celln 0 HO_10.out (x11_2 : Int) (dT) (dT); have HP38 := Kd.R_putg HO_10.out (x11_2 : Int) (rd x5_1 x11_2)) | ((with_reducible refine gate_store (t := 3) (p := 68) rfl ?_); refine store_event (t := 3) (p := 68) (v := ?vo_w39) (w1 := (wr.setCell ⟨go34, (x11_2 : Int).toNat, none⟩ (.int .i64 (rd x5_1 x11_2)))) ?hg ?ho ?hn ?hr ?_; (case ho => rfl); (case hg => rfl); (case hn => rfl); (case hr => first | (go_simp; done) | (go_simp; rfl)); intro w39 hw; have hg : wr.grownBy w39 (some go34) := (by rw [hw]; exact HP38.2); have hp_ : Kd.R (Kd.int .i64) 3 w39 w.heap.size (fun k_ => some k_ ≠ (.slice (some ad340) x5_1.length co37 : Value).ownBlock ∧ some k_ ≠ (v325 : Value).ownBlock ∧ some k_ ≠ (.slice Ao36 t330.length co36 : Value).ownBlock ∧ some k_ ≠ (.slice Ao19 x320002_1.length co19 : Value).ownBlock) (.slice (some ⟨go34, 0, none⟩) x10_2.length co35) y341 := (by rw [hw, Ny341.out]; exact Kd.R_mono HP38.1 (fun _ hk => aQ hk)); clear HP38; replace HO_3 := Aside0.mk (Kd.R_over' (v := (.slice (some ⟨go34, 0, none⟩) x10_2.length co35)) (rS HO_3.out) (Kd.R_typed HO_10.out) (by decide) hg); replace HO_5 := Aside0.mk (Kd.R_after (v := (.slice (some ⟨go34, 0, none⟩) x10_2.length co35)) (v1 := (.slice (some ⟨go34, 0, none⟩) x10_2.length co35)) (ok := (fun k_ => some k_ ≠ (v325 : Value).ownBlock ∧ some k_ ≠ (.slice Ao36 t330.length co36 : Value).ownBlock ∧ some k_ ≠ (.slice Ao19 x320002_1.length co19 : Value).ownBlock)) (by (with_reducible repeat (first | apply Kd.R_alloc | apply Kd.R_drewN | apply Kd.R_drew)); exact Kd.R_mono HO_5.out (fun _ hk => aQ hk)) hg (.inl rfl)); replace HO_7 := Aside0.mk (Kd.R_after (v := (.slice (some ⟨go34, 0, none⟩) x10_2.length co35)) (v1 := (.slice (some ⟨go34, 0, none⟩) x10_2.length co35)) (ok := (fun k_ => some k_ ≠ (.slice (some ad340) x5_1.length co37 : Value).ownBlock ∧ some k_ ≠ (.slice Ao36 t330.length co36 : Value).ownBlock ∧ some k_ ≠ (.slice Ao19 x320002_1.length co19 : Value).ownBlock)) (by (with_reducible repeat (first | apply Kd.R_alloc | apply Kd.R_drewN | apply Kd.R_drew)); exact Kd.R_mono HO_7.out (fun _ hk => aQ hk)) hg (.inl rfl)); replace HO_9 := Aside0.mk (Kd.R_after (v := (.slice (some ⟨go34, 0, none⟩) x10_2.length co35)) (v1 := (.slice (some ⟨go34, 0, none⟩) x10_2.length co35)) (ok := (fun k_ => some k_ ≠ (.slice (some ad340) x5_1.length co37 : Value).ownBlock ∧ some k_ ≠ (v325 : Value).ownBlock ∧ some k_ ≠ (.slice Ao19 x320002_1.length co19 : Value).ownBlock)) (by (with_reducible repeat (first | apply Kd.R_alloc | apply Kd.R_drewN | apply Kd.R_drew)); exact Kd.R_mono HO_9.out (fun _ hk => aQ hk)) hg (.inl rfl)); replace HO_320002 := Aside0.mk (Kd.R_after (v := (.slice (some ⟨go34, 0, none⟩) x10_2.length co35)) (v1 := (.slice (some ⟨go34, 0, none⟩) x10_2.length co35)) (ok := (fun k_ => some k_ ≠ (.slice (some ad340) x5_1.length co37 : Value).ownBlock ∧ some k_ ≠ (v325 : Value).ownBlock ∧ some k_ ≠ (.slice Ao36 t330.length co36 : Value).ownBlock)) (by (with_reducible repeat (first | apply Kd.R_alloc | apply Kd.R_drewN | apply Kd.R_drew)); exact Kd.R_mono HO_320002.out (fun _ hk => aQ hk)) hg (.inl rfl)); replace BK319 := Aside0.mk (blk_grown (g := gb319) (o := .cells #[.int .i64 t314, .int .i64 t315, .slice Ao19 x320002_1.length co19] 36 (0, 0)) (bS BK319.out) hg (Kd.R_ne HO_10.out BK319.out (by decide))); replace HO_10 := Aside0.mk (hp_); replace HB := Aside0.mk ((by rw [hw]; exact below_set (HB.out) GB34.out : Below w.heap.size w w39)); clear hg hw hp_))
             go_roundg k2
             case measure => have := HK1.out; have := HK2.out; omega
             case rel => exact ⟨(y341), (wrap64 (x11_2 + 1)), tR, H', ⟨by have := HK1.out; have := HK2.out; omega⟩, ⟨rS HO_3.out⟩, ⟨by (with_reducible repeat (first | apply Kd.R_alloc | apply Kd.R_drewN | apply Kd.R_drew)); exact Kd.R_mono HO_5.out (fun _ hk => aQ hk)⟩, ⟨by (with_reducible repeat (first | apply Kd.R_alloc | apply Kd.R_drewN | apply Kd.R_drew)); exact Kd.R_mono HO_7.out (fun _ hk => aQ hk)⟩, ⟨by (with_reducible repeat (first | apply Kd.R_alloc | apply Kd.R_drewN | apply Kd.R_drew)); exact Kd.R_mono HO_9.out (fun _ hk => aQ hk)⟩, ⟨rS HO_10.out⟩, ⟨by (with_reducible repeat (first | apply Kd.R_alloc | apply Kd.R_drewN | apply Kd.R_drew)); exact Kd.R_mono HO_320002.out (fun _ hk => aQ hk)⟩, ⟨bS BK319.out⟩, ⟨bx⟩⟩
            ·rw [if_neg c33] at H
             exact absurd H (by simp)
           ·rw [if_neg c32] at H
            exact absurd H (by simp)
         ·rw [if_neg c27] at H
          have c27b0 : decide (x11_2 < (x10_2.length : Int)) = false := decide_eq_false c27
          clear c27
          by_cases c40 : 0 ≤ x6_1
          ·rw [if_pos c40] at H
           have c40b0 : decide (0 ≤ x6_1) = true := decide_eq_true c40
           clear c40
           by_cases c41 : x6_1 < (t311.length : Int)
           ·rw [if_pos c41] at H
            have c41b0 : decide (x6_1 < (t311.length : Int)) = true := decide_eq_true c41
            clear c41
            replace H := Option.bind_eq_some_iff.mp H
            obtain ⟨t343, A420, H⟩ := H
            replace H : (if (t324.length : Int) = 4 then (if (t343.length : Int) = 4 then ((impl_AreWords.f t324).bind fun t346 => (laws_FnApplied.j2 k2 t311 x5_1 x6_1 t324 t328 x10_2 t343 (!t346) t314 t315 x320002_1)) else (laws_FnApplied.j2 k2 t311 x5_1 x6_1 t324 t328 x10_2 t343 true t314 t315 x320002_1)) else (laws_FnApplied.j2 k2 t311 x5_1 x6_1 t324 t328 x10_2 t343 true t314 t315 x320002_1)) = some r := H
            have A42 := Aside0.mk A420
            clear A420
            have HC43 := Aside0.mk H
            clear H
            obtain ⟨Ao44, co44, eo44⟩ := Kd.R_slice HO_10.out
            subst eo44
            try go_wp2
            replace HO_3 := Aside0.mk (Kd.R_drew HO_3.out)
            replace HO_5 := Aside0.mk (Kd.R_drew HO_5.out)
            replace HO_7 := Aside0.mk (Kd.R_drew HO_7.out)
            replace HO_9 := Aside0.mk (Kd.R_drew HO_9.out)
            replace HO_10 := Aside0.mk (Kd.R_drew HO_10.out)
            replace HO_320002 := Aside0.mk (Kd.R_drew HO_320002.out)
            replace BK319 := Aside0.mk (blk_drew BK319.out)
            replace HB := Aside0.mk (below_drew1 HB.out)
            have p342 : 0 ≤ (x6_1 : Int) := dT
            have q342 : x6_1 < (t311.length : Int) := dT
            obtain ⟨ad342, e342, hx342_0, hx342_1, hx342_2, hx342_3⟩ := at_T43 (Kd.R_reads' HO_3.out).2.2 x6_1 p342 q342
            obtain rfl : ad323 = ad342 := (by injection e342)
            replace p342 := eq_true p342
            replace q342 := eq_true q342
            refine start_ (n := 9) (S := fun w' => w'.cell? ⟨gb319, 0, none⟩ = some (.int .i64 t314) ∧ w'.cell? ⟨gb319, 1, none⟩ = some (.int .i64 t315) ∧ w'.cell? ⟨gb319, 2, none⟩ = some (.slice Ao19 x320002_1.length co19) ∧ w'.cell? (ad323.add ((x6_1).toNat * 4)) = some (.int .i64 ((rd_T43 t311 x6_1).f0)) ∧ w'.cell? ⟨(ad323.add ((x6_1).toNat * 4)).block, (ad323.add ((x6_1).toNat * 4)).off + 1, none⟩ = some (.int .i64 ((rd_T43 t311 x6_1).f1)) ∧ w'.cell? ⟨(ad323.add ((x6_1).toNat * 4)).block, (ad323.add ((x6_1).toNat * 4)).off + 2, none⟩ = some (.int .i64 ((rd_T43 t311 x6_1).f2)) ∧ w'.cell? ⟨(ad323.add ((x6_1).toNat * 4)).block, (ad323.add ((x6_1).toNat * 4)).off + 3, none⟩ = some (.int .i64 ((rd_T43 t311 x6_1).f3))) (ds := []) #[false,false,false,false,false,false,false,false,false] (by kernel_rfl) rfl rfl ⟨(blk_cell BK319.out 0).trans rfl, (blk_cell BK319.out 1).trans rfl, (blk_cell BK319.out 2).trans rfl, hx342_0, hx342_1, hx342_2, hx342_3⟩ (fun hHeld => ?_); refine with_tabW laws_FnApplied.tab17 laws_FnApplied.bits17 (fun HT_ HW_ => ?_)
            generalize wr.drew = w45 at HO_3 HO_5 HO_7 HO_9 HO_10 HO_320002 BK319 HB hx342_0 hx342_1 hx342_2 hx342_3 hHeld ⊢
            refine pU 0 69 (v := ?_) (a' := ?_) #[Y,Z,Z,Z,Z,Z,Z,Z,Z] HT_ rfl rfl (by kernel_rfl) ?_ ?_ ?_;rotate_left;(intro w';go_simp;with_reducible rfl);rotate_left;(simp only [Act.put, sA, s0, sN, i64_w, i32_w];rfl)
            refine pU 1 70 (v := ?_) (a' := ?_) #[Y,Y,Z,Z,Z,Z,Z,Z,Z] HT_ rfl rfl (by kernel_rfl) ?_ ?_ ?_;rotate_left;(intro w';go_simp;with_reducible rfl);rotate_left;(simp only [Act.put, sA, s0, sN, i64_w, i32_w];rfl)
            refine pU 2 71 (v := ?_) (a' := ?_) #[Y,Y,Y,Z,Z,Z,Z,Z,Z] HT_ rfl rfl (by kernel_rfl) ?_ ?_ ?_;rotate_left;(intro w';go_simp;with_reducible rfl);rotate_left;(simp only [Act.put, sA, s0, sN, i64_w, i32_w];rfl)
            refine pU 4 73 (v := ?_) (a' := ?_) #[Y,Y,Y,Z,Y,Z,Z,Z,Z] HT_ rfl rfl (by kernel_rfl) ?_ ?_ ?_;rotate_left;(intro w';go_simp;with_reducible rfl);rotate_left;(simp only [Act.put, sA, s0, sN, i64_w, i32_w];rfl)
            refine pU 6 75 (v := ?_) (a' := ?_) #[Y,Y,Y,Z,Y,Z,Y,Z,Z] HT_ rfl rfl (by kernel_rfl) ?_ ?_ ?_;rotate_left;(intro w';go_simp;with_reducible rfl);rotate_left;(simp only [Act.put, sA, s0, sN, i64_w, i32_w];rfl)
            refine take_ (i := 3) (N := some 72) (v := ?_) (a' := ?_) #[Y,Y,Y,Y,Y,Z,Y,Z,Z] rfl rfl (take_ofW HT_.out HW_.out (by kernel_rfl)) (fun _ _ _ h => h) (Or.inl ⟨by rfl, ?_⟩) hHeld ?_ ?_
            rotate_left
            ·rintro w' ⟨s0, s1, s2, s3, s4, s5, s6⟩
             go_simp
             with_reducible rfl
            rotate_left
            ·simp only [Act.put, sA, s0, sN, i64_w, i32_w]
             rfl
            refine take_ (i := 5) (N := some 74) (v := ?_) (a' := ?_) #[Y,Y,Y,Y,Y,Y,Y,Z,Z] rfl rfl (take_ofW HT_.out HW_.out (by kernel_rfl)) (fun _ _ _ h => h) (Or.inl ⟨by rfl, ?_⟩) hHeld ?_ ?_
            rotate_left
            ·rintro w' ⟨s0, s1, s2, s3, s4, s5, s6⟩
             go_simp
             with_reducible rfl
            rotate_left
            ·simp only [Act.put, sA, s0, sN, i64_w, i32_w]
             rfl
            refine one_ (i := 7) (N := some 76) #[Y,Y,Y,Y,Y,Y,Y,Y,Z] rfl rfl (one_of HT_.out (by kernel_rfl)) (by decide) (fun K hK => ?_)
            refine goes_ Try.func24 (by kernel_rfl) rfl #[.agg #[.int .i64 ((rd_T43 t311 x6_1).f0), .int .i64 ((rd_T43 t311 x6_1).f1), .int .i64 ((rd_T43 t311 x6_1).f2), .int .i64 ((rd_T43 t311 x6_1).f3)], .int .i64 t314, .slice Ao44 x10_2.length co44] (by rfl) rfl rfl bz ?_
            with_reducible refine (impl_ApplyIns.calls k2 ((rd_T43 t311 x6_1).f0) ((rd_T43 t311 x6_1).f1) ((rd_T43 t311 x6_1).f2) ((rd_T43 t311 x6_1).f3) t314 _ _ x10_2 t343 _ ?side1 ?side2 A42.out).mono ?_
            (case side1 => exact cS (Kd.R_reads' HO_10.out).2.2)
            (case side2 => exact (Kd.R_reads' HO_10.out).2.1)
            rintro e w46 ⟨v344, rfl, ho0, hb⟩
            have HS3_ := (hb.cell (World.block_lt_of_cell? _ _ (hHeld.2.2.2.1))).trans (hHeld.2.2.2.1)
            have HS4_ := (hb.cell (World.block_lt_of_cell? _ _ (hHeld.2.2.2.2.1))).trans (hHeld.2.2.2.2.1)
            have HS5_ := (hb.cell (World.block_lt_of_cell? _ _ (hHeld.2.2.2.2.2.1))).trans (hHeld.2.2.2.2.2.1)
            have HS6_ := (hb.cell (World.block_lt_of_cell? _ _ (hHeld.2.2.2.2.2.2))).trans (hHeld.2.2.2.2.2.2)
            refine ⟨_, rfl, ?_⟩
            replace HO_3 := Aside0.mk (Kd.R_below (rS HO_3.out) hb)
            have HO345 := Aside0.mk (Kd.R_lower (Kd.R_new' (Kd.R_new' (Kd.R_new' (Kd.R_new' (Kd.R_new' ho0 (Kd.R_lt (rS HO_5.out))) (Kd.R_lt (rS HO_7.out))) (Kd.R_lt (rS HO_9.out))) (Kd.R_lt (rS HO_10.out))) (Kd.R_lt (rS HO_320002.out))) (below_size bx))
            replace HO_5 := Aside0.mk (Kd.R_elder' (rS HO_5.out) (Kd.R_base ho0) hb)
            replace HO_7 := Aside0.mk (Kd.R_elder' (rS HO_7.out) (Kd.R_base ho0) hb)
            replace HO_9 := Aside0.mk (Kd.R_elder' (rS HO_9.out) (Kd.R_base ho0) hb)
            replace HO_10 := Aside0.mk (Kd.R_elder' (rS HO_10.out) (Kd.R_base ho0) hb)
            replace HO_320002 := Aside0.mk (Kd.R_elder' (rS HO_320002.out) (Kd.R_base ho0) hb)
            replace BK319 := Aside0.mk (blk_below (g := gb319) (o := .cells #[.int .i64 t314, .int .i64 t315, .slice Ao19 x320002_1.length co19] 36 (0, 0)) (bS BK319.out) hb)
            replace HB := Aside0.mk (below_step bx hb)
            (try clear hb)
            (try clear hb2)
            (try clear hk)
            (try clear hi)
            (try clear ho0)
            refine hK.out _ _ ⟨(blk_cell BK319.out 0).trans rfl, (blk_cell BK319.out 1).trans rfl, (blk_cell BK319.out 2).trans rfl, HS3_, HS4_, HS5_, HS6_⟩ (fun hHeld => ?_)
            clear hK K
            refine norm_ (a' := ?_) ?_ ?_
            rotate_left
            ·show Act.put _ (some 76) _ = _
             simp only [Act.put, sA, s0, sN, i64_w, i32_w]
             rfl
            refine pU 8 12 (v := ?_) (a' := ?_) #[Y,Y,Y,Y,Y,Y,Y,Y,Y] HT_ rfl rfl (by kernel_rfl) ?_ ?_ ?_;rotate_left;(intro w';go_simp;with_reducible rfl);rotate_left;(simp only [Act.put, sA, s0, sN, i64_w, i32_w];rfl)
            refine done_ (done_of HT_.out (by kernel_rfl)) ?_
            go_upto_region 18 with (fail)
            go_cut [89] (fun v89 wc => ∃ (kq : Nat) (x89_42 : Bool), v89 = .bool x89_42 ∧ Aside0 (laws_FnApplied.j2 kq t311 x5_1 x6_1 t324 t328 x10_2 t343 x89_42 t314 t315 x320002_1 = some r) ∧ Aside0 (kq ≤ k2) ∧ Aside0 (Kd.R k43 43 wc w.heap.size (fun _ => True) (.slice (some ad323) t311.length co17) t311) ∧ Aside0 (Kd.R (Kd.int .i64) 3 wc w.heap.size (fun k_ => some k_ ≠ (v325 : Value).ownBlock ∧ some k_ ≠ ((.slice Ao44 x10_2.length co44) : Value).ownBlock ∧ some k_ ≠ (v344 : Value).ownBlock ∧ some k_ ≠ ((.slice Ao19 x320002_1.length co19) : Value).ownBlock) v321 x5_1) ∧ Aside0 (Kd.R (Kd.int .i64) 3 wc w.heap.size (fun k_ => some k_ ≠ (v321 : Value).ownBlock ∧ some k_ ≠ ((.slice Ao44 x10_2.length co44) : Value).ownBlock ∧ some k_ ≠ (v344 : Value).ownBlock ∧ some k_ ≠ ((.slice Ao19 x320002_1.length co19) : Value).ownBlock) v325 t324) ∧ Aside0 (Kd.R (Kd.int .i64) 3 wc w.heap.size (fun k_ => some k_ ≠ (v321 : Value).ownBlock ∧ some k_ ≠ (v325 : Value).ownBlock ∧ some k_ ≠ (v344 : Value).ownBlock ∧ some k_ ≠ ((.slice Ao19 x320002_1.length co19) : Value).ownBlock) (.slice Ao44 x10_2.length co44) x10_2) ∧ Aside0 (Kd.R (Kd.int .i64) 3 wc w.heap.size (fun k_ => some k_ ≠ (v321 : Value).ownBlock ∧ some k_ ≠ (v325 : Value).ownBlock ∧ some k_ ≠ ((.slice Ao44 x10_2.length co44) : Value).ownBlock ∧ some k_ ≠ ((.slice Ao19 x320002_1.length co19) : Value).ownBlock) v344 t343) ∧ Aside0 (Kd.R (Kd.int .i64) 3 wc w.heap.size (fun k_ => some k_ ≠ (v321 : Value).ownBlock ∧ some k_ ≠ (v325 : Value).ownBlock ∧ some k_ ≠ ((.slice Ao44 x10_2.length co44) : Value).ownBlock ∧ some k_ ≠ (v344 : Value).ownBlock) (.slice Ao19 x320002_1.length co19) x320002_1) ∧ Aside0 (wc.heap[gb319]? = some (.cells #[.int .i64 t314, .int .i64 t315, (.slice Ao19 x320002_1.length co19)] 36 (0, 0))) ∧ Aside0 (Below w.heap.size w wc))
            case first =>
             have H := HC43.out
             clear HC43
             by_cases c47 : (t324.length : Int) = 4
             ·rw [if_pos c47] at H
              have c47b0 : ((t324.length : Int) == 4) = true := beq_iff_eq.mpr c47
              have c47b1 : ((t324.length : Int) != 4) = false := bne_eq_false_iff_eq.mpr c47
              clear c47
              (first | rw [c47b0] | (simp only [i64_w, i32_w]; rw [c47b0]) | skip)
              by_cases c48 : (t343.length : Int) = 4
              ·rw [if_pos c48] at H
               have c48b0 : ((t343.length : Int) == 4) = true := beq_iff_eq.mpr c48
               have c48b1 : ((t343.length : Int) != 4) = false := bne_eq_false_iff_eq.mpr c48
               clear c48
               replace H := Option.bind_eq_some_iff.mp H
               obtain ⟨t346, A490, H⟩ := H
               replace H : (laws_FnApplied.j2 k2 t311 x5_1 x6_1 t324 t328 x10_2 t343 (!t346) t314 t315 x320002_1) = some r := H
               have A49 := Aside0.mk A490
               clear A490
               have H' := Aside0.mk H
               clear H
               obtain ⟨Ao50, co50, eo50⟩ := Kd.R_slice HO_7.out
               subst eo50
               obtain ⟨Ao51, co51, eo51⟩ := Kd.R_slice HO345.out
               subst eo51
               go_wp2_with (first | (go_at_call 49; (with_reducible refine (impl_AreWords.calls _ _ t324 t346 _ ?side1 ?side2 A49.out).mono ?_); (case side1 => exact cS (Kd.R_reads' HO_7.out).2.2); (case side2 => exact (Kd.R_reads' HO_7.out).2.1); rintro e w' ⟨rfl, ⟨nd, rfl⟩⟩))
               go_meet
               case rel => exact ⟨_, (!t346), tR, H', ⟨by have := HK1.out; have := HK2.out; first | omega | exact Nat.le_refl _⟩, ⟨rS HO_3.out⟩, ⟨by (with_reducible repeat (first | apply Kd.R_alloc | apply Kd.R_drewN | apply Kd.R_drew)); exact Kd.R_mono HO_5.out (fun _ hk => aQ hk)⟩, ⟨by (with_reducible repeat (first | apply Kd.R_alloc | apply Kd.R_drewN | apply Kd.R_drew)); exact Kd.R_mono HO_7.out (fun _ hk => aQ hk)⟩, ⟨by (with_reducible repeat (first | apply Kd.R_alloc | apply Kd.R_drewN | apply Kd.R_drew)); exact Kd.R_mono HO_10.out (fun _ hk => aQ hk)⟩, ⟨by (with_reducible repeat (first | apply Kd.R_alloc | apply Kd.R_drewN | apply Kd.R_drew)); exact Kd.R_mono HO345.out (fun _ hk => aQ hk)⟩, ⟨by (with_reducible repeat (first | apply Kd.R_alloc | apply Kd.R_drewN | apply Kd.R_drew)); exact Kd.R_mono HO_320002.out (fun _ hk => aQ hk)⟩, ⟨bS BK319.out⟩, ⟨bx⟩⟩
              ·rw [if_neg c48] at H
               have c48b0 : ((t343.length : Int) == 4) = false := beq_eq_false_iff_ne.mpr c48
               have c48b1 : ((t343.length : Int) != 4) = true := bne_iff_ne.mpr c48
               have H' := Aside0.mk H
               clear H
               obtain ⟨Ao52, co52, eo52⟩ := Kd.R_slice HO_7.out
               subst eo52
               obtain ⟨Ao53, co53, eo53⟩ := Kd.R_slice HO345.out
               subst eo53
               go_wp2
               go_meet
               case rel => exact ⟨_, (true), tR, H', ⟨by have := HK1.out; have := HK2.out; first | omega | exact Nat.le_refl _⟩, ⟨rS HO_3.out⟩, ⟨by (with_reducible repeat (first | apply Kd.R_alloc | apply Kd.R_drewN | apply Kd.R_drew)); exact Kd.R_mono HO_5.out (fun _ hk => aQ hk)⟩, ⟨by (with_reducible repeat (first | apply Kd.R_alloc | apply Kd.R_drewN | apply Kd.R_drew)); exact Kd.R_mono HO_7.out (fun _ hk => aQ hk)⟩, ⟨by (with_reducible repeat (first | apply Kd.R_alloc | apply Kd.R_drewN | apply Kd.R_drew)); exact Kd.R_mono HO_10.out (fun _ hk => aQ hk)⟩, ⟨by (with_reducible repeat (first | apply Kd.R_alloc | apply Kd.R_drewN | apply Kd.R_drew)); exact Kd.R_mono HO345.out (fun _ hk => aQ hk)⟩, ⟨by (with_reducible repeat (first | apply Kd.R_alloc | apply Kd.R_drewN | apply Kd.R_drew)); exact Kd.R_mono HO_320002.out (fun _ hk => aQ hk)⟩, ⟨bS BK319.out⟩, ⟨bx⟩⟩
             ·rw [if_neg c47] at H
              have c47b0 : ((t324.length : Int) == 4) = false := beq_eq_false_iff_ne.mpr c47
              have c47b1 : ((t324.length : Int) != 4) = true := bne_iff_ne.mpr c47
              (first | rw [c47b0] | (simp only [i64_w, i32_w]; rw [c47b0]) | skip)
              have H' := Aside0.mk H
              clear H
              obtain ⟨Ao54, co54, eo54⟩ := Kd.R_slice HO_7.out
              subst eo54
              go_wp2
              go_meet
              case rel => exact ⟨_, (true), tR, H', ⟨by have := HK1.out; have := HK2.out; first | omega | exact Nat.le_refl _⟩, ⟨rS HO_3.out⟩, ⟨by (with_reducible repeat (first | apply Kd.R_alloc | apply Kd.R_drewN | apply Kd.R_drew)); exact Kd.R_mono HO_5.out (fun _ hk => aQ hk)⟩, ⟨by (with_reducible repeat (first | apply Kd.R_alloc | apply Kd.R_drewN | apply Kd.R_drew)); exact Kd.R_mono HO_7.out (fun _ hk => aQ hk)⟩, ⟨by (with_reducible repeat (first | apply Kd.R_alloc | apply Kd.R_drewN | apply Kd.R_drew)); exact Kd.R_mono HO_10.out (fun _ hk => aQ hk)⟩, ⟨by (with_reducible repeat (first | apply Kd.R_alloc | apply Kd.R_drewN | apply Kd.R_drew)); exact Kd.R_mono HO345.out (fun _ hk => aQ hk)⟩, ⟨by (with_reducible repeat (first | apply Kd.R_alloc | apply Kd.R_drewN | apply Kd.R_drew)); exact Kd.R_mono HO_320002.out (fun _ hk => aQ hk)⟩, ⟨bS BK319.out⟩, ⟨bx⟩⟩
            case rest =>
             clear HC43
             try clear c1;try clear c2;try clear p2;try clear c3;try clear p3;try clear q3;try clear hx3;try clear hf3;try clear c4;try clear p6;try clear c10;try clear c11;try clear c11b0;try clear c12;try clear c12b0;try clear c13;try clear c16;try clear c24;try clear c27;try clear c27b0;try clear c29;try clear c32;try clear c32b0;try clear p32;try clear q32;try clear hx32;try clear c33;try clear c33b0;try clear p34;try clear q34;try clear hx34;try clear hf34;try clear c40;try clear c40b0;try clear c41;try clear c41b0;try clear c45;try clear c46;try clear c47;try clear c47b0;try clear c47b1;try clear c48;try clear c48b0;try clear c48b1;try clear hcz25_0;try clear hcz25_1;try clear hcz25_2;try clear hcz8_0;try clear hcz8_1;try clear hcz8_2;try clear hfz25_0;try clear hfz25_1;try clear hfz25_2;try clear hfz8_0;try clear hfz8_1;try clear hfz8_2;try clear hx323_0;try clear hx323_1;try clear hx323_2;try clear hx323_3;try clear hx327_0;try clear hx327_1;try clear hx327_2;try clear hx327_3;try clear hx329_0;try clear hx329_1;try clear hx329_2;try clear hx329_3;try clear hx340_0;try clear hx342_0;try clear hx342_1;try clear hx342_2;try clear hx342_3;try clear hx34_0;try clear p2;try clear p3;try clear p323;try clear p327;try clear p329;try clear p34;try clear p340;try clear p342;try clear q3;try clear q323;try clear q327;try clear q329;try clear q34;try clear q340;try clear q342
             obtain ⟨kq, x89_42, rfl, HA, HJ42, HO_3, HO_5, HO_7, HO_10, HO_12, HO_320002, BK319, HB⟩ := hcut
             cases kq with
             | zero => exact absurd HA.out (by simp [laws_FnApplied.j2])
             | succ kj42 =>
              have H := HA.out
              clear HA
              simp only [laws_FnApplied.j2] at H
              by_cases c55 : x89_42 = true
              ·subst c55
               have H1 : (none) = some r := by rw [if_pos rfl] at H; exact H
               clear H
               have H := H1
               clear H1
               exact absurd H (by simp)
              ·replace c55 := Bool.eq_false_iff.mpr c55
               subst c55
               have H1 : (laws_FnApplied.l2 kj42 t311 x5_1 x6_1 t324 t328 x10_2 t343 0 t314 t315 x320002_1) = some r := by rw [if_neg (show ¬ (false = true) by decide)] at H; exact H
               clear H
               have H := H1
               clear H1
               have H' := Aside0.mk H
               clear H
               go_wp2
               go_loopg [13] kj42 (fun kq v13 w' => ∃ (x13_4 : Int), v13 = .int .i64 x13_4 ∧ Aside0 (laws_FnApplied.l2 kq t311 x5_1 x6_1 t324 t328 x10_2 t343 x13_4 t314 t315 x320002_1 = some r) ∧ Aside0 (kq ≤ kj42) ∧ Aside0 (Kd.R k43 43 w' w.heap.size (fun _ => True) (.slice (some ad323) t311.length co17) t311) ∧ Aside0 (Kd.R (Kd.int .i64) 3 w' w.heap.size (fun k_ => some k_ ≠ (v325 : Value).ownBlock ∧ some k_ ≠ ((.slice Ao44 x10_2.length co44) : Value).ownBlock ∧ some k_ ≠ (v344 : Value).ownBlock ∧ some k_ ≠ ((.slice Ao19 x320002_1.length co19) : Value).ownBlock) v321 x5_1) ∧ Aside0 (Kd.R (Kd.int .i64) 3 w' w.heap.size (fun k_ => some k_ ≠ (v321 : Value).ownBlock ∧ some k_ ≠ ((.slice Ao44 x10_2.length co44) : Value).ownBlock ∧ some k_ ≠ (v344 : Value).ownBlock ∧ some k_ ≠ ((.slice Ao19 x320002_1.length co19) : Value).ownBlock) v325 t324) ∧ Aside0 (Kd.R (Kd.int .i64) 3 w' w.heap.size (fun k_ => some k_ ≠ (v321 : Value).ownBlock ∧ some k_ ≠ (v325 : Value).ownBlock ∧ some k_ ≠ (v344 : Value).ownBlock ∧ some k_ ≠ ((.slice Ao19 x320002_1.length co19) : Value).ownBlock) (.slice Ao44 x10_2.length co44) x10_2) ∧ Aside0 (Kd.R (Kd.int .i64) 3 w' w.heap.size (fun k_ => some k_ ≠ (v321 : Value).ownBlock ∧ some k_ ≠ (v325 : Value).ownBlock ∧ some k_ ≠ ((.slice Ao44 x10_2.length co44) : Value).ownBlock ∧ some k_ ≠ ((.slice Ao19 x320002_1.length co19) : Value).ownBlock) v344 t343) ∧ Aside0 (Kd.R (Kd.int .i64) 3 w' w.heap.size (fun k_ => some k_ ≠ (v321 : Value).ownBlock ∧ some k_ ≠ (v325 : Value).ownBlock ∧ some k_ ≠ ((.slice Ao44 x10_2.length co44) : Value).ownBlock ∧ some k_ ≠ (v344 : Value).ownBlock) (.slice Ao19 x320002_1.length co19) x320002_1) ∧ Aside0 (w'.heap[gb319]? = some (.cells #[.int .i64 t314, .int .i64 t315, (.slice Ao19 x320002_1.length co19)] 36 (0, 0))) ∧ Aside0 (Below w.heap.size w w'))
               case atStart => exact ⟨(0), tR, H', ⟨Nat.le_refl _⟩, ⟨rS HO_3.out⟩, ⟨rS HO_5.out⟩, ⟨rS HO_7.out⟩, ⟨rS HO_10.out⟩, ⟨rS HO_12.out⟩, ⟨rS HO_320002.out⟩, ⟨bS BK319.out⟩, ⟨bx⟩⟩
               case round =>
                clear H'
                try clear c1;try clear c2;try clear p2;try clear c3;try clear p3;try clear q3;try clear hx3;try clear hf3;try clear c4;try clear c5;try clear p6;try clear c10;try clear c11;try clear c11b0;try clear c12;try clear c12b0;try clear c13;try clear c16;try clear c24;try clear c27;try clear c27b0;try clear c29;try clear c32;try clear c32b0;try clear p32;try clear q32;try clear hx32;try clear c33;try clear c33b0;try clear p34;try clear q34;try clear hx34;try clear hf34;try clear c40;try clear c40b0;try clear c41;try clear c41b0;try clear c45;try clear c46;try clear c47;try clear c47b0;try clear c47b1;try clear c48;try clear c48b0;try clear c48b1;try clear c55;try clear hcz25_0;try clear hcz25_1;try clear hcz25_2;try clear hcz8_0;try clear hcz8_1;try clear hcz8_2;try clear hfz25_0;try clear hfz25_1;try clear hfz25_2;try clear hfz8_0;try clear hfz8_1;try clear hfz8_2;try clear hx323_0;try clear hx323_1;try clear hx323_2;try clear hx323_3;try clear hx327_0;try clear hx327_1;try clear hx327_2;try clear hx327_3;try clear hx329_0;try clear hx329_1;try clear hx329_2;try clear hx329_3;try clear hx340_0;try clear hx342_0;try clear hx342_1;try clear hx342_2;try clear hx342_3;try clear hx34_0;try clear p2;try clear p3;try clear p32;try clear p323;try clear p327;try clear p329;try clear p34;try clear p340;try clear p342;try clear p6;try clear q3;try clear q32;try clear q323;try clear q327;try clear q329;try clear q34;try clear q340;try clear q342
                obtain ⟨x13_4, rfl, HA, HK4, HO_3, HO_5, HO_7, HO_10, HO_12, HO_320002, BK319, HB⟩ := hrel
                cases gk with
                | zero => exact absurd HA.out (by simp [laws_FnApplied.l2])
                | succ k4 =>
                 have H := HA.out
                 clear HA
                 simp only [laws_FnApplied.l2] at H
                 by_cases c56 : x13_4 < 4
                 ·rw [if_pos c56] at H
                  have c56b0 : decide (x13_4 < 4) = true := decide_eq_true c56
                  clear c56
                  by_cases c57 : x13_4 = t328
                  ·rw [if_pos c57] at H
                   have c57b0 : (x13_4 == t328) = true := beq_iff_eq.mpr c57
                   have c57b1 : (x13_4 != t328) = false := bne_eq_false_iff_eq.mpr c57
                   clear c57
                   by_cases c58 : 0 ≤ x13_4
                   ·rw [if_pos c58] at H
                    have c58b0 : decide (0 ≤ x13_4) = true := decide_eq_true c58
                    clear c58
                    by_cases c59 : x13_4 < (t324.length : Int)
                    ·rw [if_pos c59] at H
                     have c59b0 : decide (x13_4 < (t324.length : Int)) = true := decide_eq_true c59
                     clear c59
                     by_cases c60 : x13_4 < (t343.length : Int)
                     ·rw [if_pos c60] at H
                      have c60b0 : decide (x13_4 < (t343.length : Int)) = true := decide_eq_true c60
                      clear c60
                      by_cases c61 : (rd t324 x13_4) = (rd t343 x13_4)
                      ·rw [if_pos c61] at H
                       have c61b0 : ((rd t324 x13_4) == (rd t343 x13_4)) = true := beq_iff_eq.mpr c61
                       have c61b1 : ((rd t324 x13_4) != (rd t343 x13_4)) = false := bne_eq_false_iff_eq.mpr c61
                       clear c61
                       have H' := Aside0.mk H
                       clear H
                       try go_wp2
                       replace HO_3 := Aside0.mk (Kd.R_drew HO_3.out)
                       replace HO_5 := Aside0.mk (Kd.R_drew HO_5.out)
                       replace HO_7 := Aside0.mk (Kd.R_drew HO_7.out)
                       replace HO_10 := Aside0.mk (Kd.R_drew HO_10.out)
                       replace HO_12 := Aside0.mk (Kd.R_drew HO_12.out)
                       replace HO_320002 := Aside0.mk (Kd.R_drew HO_320002.out)
                       replace BK319 := Aside0.mk (blk_drew BK319.out)
                       replace HB := Aside0.mk (below_drew1 HB.out)
                       obtain ⟨Ao63, co63, eo63⟩ := Kd.R_slice HO_7.out
                       (first | subst eo63 | (injection eo63 with f1_ f2_ f3_; have f4_ := f1_.symm; have f5_ := f3_.symm; clear f1_ f2_ f3_; subst f4_; subst f5_))
                       have p347 : 0 ≤ (x13_4 : Int) := dT
                       have q347 : x13_4 < (t324.length : Int) := dT
                       obtain ⟨ad347, e347, hx347_0⟩ := Kd.at_int (Kd.R_reads' HO_7.out).2.2 x13_4 p347 q347
                       cases e347
                       replace p347 := eq_true p347
                       replace q347 := eq_true q347
                       obtain ⟨Ao64, co64, eo64⟩ := Kd.R_slice HO_12.out
                       (first | subst eo64 | (injection eo64 with f1_ f2_ f3_; have f4_ := f1_.symm; have f5_ := f3_.symm; clear f1_ f2_ f3_; subst f4_; subst f5_))
                       have p348 : 0 ≤ (x13_4 : Int) := dT
                       have q348 : x13_4 < (t343.length : Int) := dT
                       obtain ⟨ad348, e348, hx348_0⟩ := Kd.at_int (Kd.R_reads' HO_12.out).2.2 x13_4 p348 q348
                       cases e348
                       replace p348 := eq_true p348
                       replace q348 := eq_true q348
                       refine start_ (n := 42) (S := fun w' => w'.cell? (ad347.add (x13_4).toNat) = some (.int .i64 (rd t324 x13_4)) ∧ w'.cell? (ad348.add (x13_4).toNat) = some (.int .i64 (rd t343 x13_4))) (ds := []) #[false,false,false,false,false,false,false,false,false,false,false,false,false,false,false,false,false,false,false,false,false,false,false,false,false,false,false,false,false,false,false,false,false,false,false,false,false,false,false,false,false,false] (by kernel_rfl) rfl rfl ⟨hx347_0, hx348_0⟩ (fun hHeld => ?_); refine with_tabW laws_FnApplied.tab23 laws_FnApplied.bits23 (fun HT_ HW_ => ?_)
                       generalize wr.drew = w62 at HO_3 HO_5 HO_7 HO_10 HO_12 HO_320002 BK319 HB hx347_0 hx348_0 hHeld ⊢
                       refine pU 0 94 (v := ?_) (a' := ?_) #[Y,Z,Z,Z,Z,Z,Z,Z,Z,Z,Z,Z,Z,Z,Z,Z,Z,Z,Z,Z,Z,Z,Z,Z,Z,Z,Z,Z,Z,Z,Z,Z,Z,Z,Z,Z,Z,Z,Z,Z,Z,Z] HT_ rfl rfl (by kernel_rfl) ?_ ?_ ?_;rotate_left;(intro w';go_simp;with_reducible rfl);rotate_left;(simp only [Act.put, sA, s0, sN, i64_w, i32_w];rfl)
                       refine pU 1 95 (v := ?_) (a' := ?_) #[Y,Y,Z,Z,Z,Z,Z,Z,Z,Z,Z,Z,Z,Z,Z,Z,Z,Z,Z,Z,Z,Z,Z,Z,Z,Z,Z,Z,Z,Z,Z,Z,Z,Z,Z,Z,Z,Z,Z,Z,Z,Z] HT_ rfl rfl (by kernel_rfl) ?_ ?_ ?_;rotate_left;(intro w';go_simp;with_reducible rfl);rotate_left;(simp only [Act.put, sA, s0, sN, i64_w, i32_w];rfl)
                       refine pU 2 96 (v := ?_) (a' := ?_) #[Y,Y,Y,Z,Z,Z,Z,Z,Z,Z,Z,Z,Z,Z,Z,Z,Z,Z,Z,Z,Z,Z,Z,Z,Z,Z,Z,Z,Z,Z,Z,Z,Z,Z,Z,Z,Z,Z,Z,Z,Z,Z] HT_ rfl rfl (by kernel_rfl) ?_ ?_ ?_;rotate_left;(intro w';go_simp;with_reducible rfl);rotate_left;(simp only [Act.put, sA, s0, sN, i64_w, i32_w];rfl)
                       refine pU 3 97 (v := ?_) (a' := ?_) #[Y,Y,Y,Y,Z,Z,Z,Z,Z,Z,Z,Z,Z,Z,Z,Z,Z,Z,Z,Z,Z,Z,Z,Z,Z,Z,Z,Z,Z,Z,Z,Z,Z,Z,Z,Z,Z,Z,Z,Z,Z,Z] HT_ rfl rfl (by kernel_rfl) ?_ ?_ ?_;rotate_left;(intro w';go_simp;with_reducible rfl);rotate_left;(simp only [Act.put, sA, s0, sN, i64_w, i32_w];rfl)
                       refine pure_ (i := 4) (N := some 98) (v := undef) (a' := ?_) #[Y,Y,Y,Y,Y,Z,Z,Z,Z,Z,Z,Z,Z,Z,Z,Z,Z,Z,Z,Z,Z,Z,Z,Z,Z,Z,Z,Z,Z,Z,Z,Z,Z,Z,Z,Z,Z,Z,Z,Z,Z,Z] rfl rfl (any_of HT_.out (by kernel_rfl)) (fun _ _ _ h => h) (Or.inr ⟨by rfl, rfl⟩) ?_ ?_
                       rotate_left
                       ·simp only [Act.put, sA, s0, sN, i64_w, i32_w]
                        rfl
                       refine pure_ (i := 5) (N := some 99) (v := undef) (a' := ?_) #[Y,Y,Y,Y,Y,Y,Z,Z,Z,Z,Z,Z,Z,Z,Z,Z,Z,Z,Z,Z,Z,Z,Z,Z,Z,Z,Z,Z,Z,Z,Z,Z,Z,Z,Z,Z,Z,Z,Z,Z,Z,Z] rfl rfl (any_of HT_.out (by kernel_rfl)) (fun _ _ _ h => h) (Or.inr ⟨by rfl, rfl⟩) ?_ ?_
                       rotate_left
                       ·simp only [Act.put, sA, s0, sN, i64_w, i32_w]
                        rfl
                       refine pure_ (i := 6) (N := some 100) (v := undef) (a' := ?_) #[Y,Y,Y,Y,Y,Y,Y,Z,Z,Z,Z,Z,Z,Z,Z,Z,Z,Z,Z,Z,Z,Z,Z,Z,Z,Z,Z,Z,Z,Z,Z,Z,Z,Z,Z,Z,Z,Z,Z,Z,Z,Z] rfl rfl (any_of HT_.out (by kernel_rfl)) (fun _ _ _ h => h) (Or.inr ⟨by rfl, rfl⟩) ?_ ?_
                       rotate_left
                       ·simp only [Act.put, sA, s0, sN, i64_w, i32_w]
                        rfl
                       refine pure_ (i := 7) (N := some 101) (v := undef) (a' := ?_) #[Y,Y,Y,Y,Y,Y,Y,Y,Z,Z,Z,Z,Z,Z,Z,Z,Z,Z,Z,Z,Z,Z,Z,Z,Z,Z,Z,Z,Z,Z,Z,Z,Z,Z,Z,Z,Z,Z,Z,Z,Z,Z] rfl rfl (any_of HT_.out (by kernel_rfl)) (fun _ _ _ h => h) (Or.inr ⟨by rfl, rfl⟩) ?_ ?_
                       rotate_left
                       ·simp only [Act.put, sA, s0, sN, i64_w, i32_w]
                        rfl
                       refine pure_ (i := 8) (N := some 102) (v := undef) (a' := ?_) #[Y,Y,Y,Y,Y,Y,Y,Y,Y,Z,Z,Z,Z,Z,Z,Z,Z,Z,Z,Z,Z,Z,Z,Z,Z,Z,Z,Z,Z,Z,Z,Z,Z,Z,Z,Z,Z,Z,Z,Z,Z,Z] rfl rfl (any_of HT_.out (by kernel_rfl)) (fun _ _ _ h => h) (Or.inr ⟨by rfl, rfl⟩) ?_ ?_
                       rotate_left
                       ·simp only [Act.put, sA, s0, sN, i64_w, i32_w]
                        rfl
                       refine pure_ (i := 9) (N := some 103) (v := undef) (a' := ?_) #[Y,Y,Y,Y,Y,Y,Y,Y,Y,Y,Z,Z,Z,Z,Z,Z,Z,Z,Z,Z,Z,Z,Z,Z,Z,Z,Z,Z,Z,Z,Z,Z,Z,Z,Z,Z,Z,Z,Z,Z,Z,Z] rfl rfl (any_of HT_.out (by kernel_rfl)) (fun _ _ _ h => h) (Or.inr ⟨by rfl, rfl⟩) ?_ ?_
                       rotate_left
                       ·simp only [Act.put, sA, s0, sN, i64_w, i32_w]
                        rfl
                       refine pure_ (i := 10) (N := some 104) (v := undef) (a' := ?_) #[Y,Y,Y,Y,Y,Y,Y,Y,Y,Y,Y,Z,Z,Z,Z,Z,Z,Z,Z,Z,Z,Z,Z,Z,Z,Z,Z,Z,Z,Z,Z,Z,Z,Z,Z,Z,Z,Z,Z,Z,Z,Z] rfl rfl (any_of HT_.out (by kernel_rfl)) (fun _ _ _ h => h) (Or.inr ⟨by rfl, rfl⟩) ?_ ?_
                       rotate_left
                       ·simp only [Act.put, sA, s0, sN, i64_w, i32_w]
                        rfl
                       refine pure_ (i := 11) (N := some 105) (v := undef) (a' := ?_) #[Y,Y,Y,Y,Y,Y,Y,Y,Y,Y,Y,Y,Z,Z,Z,Z,Z,Z,Z,Z,Z,Z,Z,Z,Z,Z,Z,Z,Z,Z,Z,Z,Z,Z,Z,Z,Z,Z,Z,Z,Z,Z] rfl rfl (any_of HT_.out (by kernel_rfl)) (fun _ _ _ h => h) (Or.inr ⟨by rfl, rfl⟩) ?_ ?_
                       rotate_left
                       ·simp only [Act.put, sA, s0, sN, i64_w, i32_w]
                        rfl
                       refine pure_ (i := 12) (N := some 106) (v := undef) (a' := ?_) #[Y,Y,Y,Y,Y,Y,Y,Y,Y,Y,Y,Y,Y,Z,Z,Z,Z,Z,Z,Z,Z,Z,Z,Z,Z,Z,Z,Z,Z,Z,Z,Z,Z,Z,Z,Z,Z,Z,Z,Z,Z,Z] rfl rfl (any_of HT_.out (by kernel_rfl)) (fun _ _ _ h => h) (Or.inr ⟨by rfl, rfl⟩) ?_ ?_
                       rotate_left
                       ·simp only [Act.put, sA, s0, sN, i64_w, i32_w]
                        rfl
                       refine pure_ (i := 13) (N := some 107) (v := undef) (a' := ?_) #[Y,Y,Y,Y,Y,Y,Y,Y,Y,Y,Y,Y,Y,Y,Z,Z,Z,Z,Z,Z,Z,Z,Z,Z,Z,Z,Z,Z,Z,Z,Z,Z,Z,Z,Z,Z,Z,Z,Z,Z,Z,Z] rfl rfl (any_of HT_.out (by kernel_rfl)) (fun _ _ _ h => h) (Or.inr ⟨by rfl, rfl⟩) ?_ ?_
                       rotate_left
                       ·simp only [Act.put, sA, s0, sN, i64_w, i32_w]
                        rfl
                       refine pure_ (i := 14) (N := some 108) (v := undef) (a' := ?_) #[Y,Y,Y,Y,Y,Y,Y,Y,Y,Y,Y,Y,Y,Y,Y,Z,Z,Z,Z,Z,Z,Z,Z,Z,Z,Z,Z,Z,Z,Z,Z,Z,Z,Z,Z,Z,Z,Z,Z,Z,Z,Z] rfl rfl (any_of HT_.out (by kernel_rfl)) (fun _ _ _ h => h) (Or.inr ⟨by rfl, rfl⟩) ?_ ?_
                       rotate_left
                       ·simp only [Act.put, sA, s0, sN, i64_w, i32_w]
                        rfl
                       refine pure_ (i := 15) (N := some 109) (v := undef) (a' := ?_) #[Y,Y,Y,Y,Y,Y,Y,Y,Y,Y,Y,Y,Y,Y,Y,Y,Z,Z,Z,Z,Z,Z,Z,Z,Z,Z,Z,Z,Z,Z,Z,Z,Z,Z,Z,Z,Z,Z,Z,Z,Z,Z] rfl rfl (any_of HT_.out (by kernel_rfl)) (fun _ _ _ h => h) (Or.inr ⟨by rfl, rfl⟩) ?_ ?_
                       rotate_left
                       ·simp only [Act.put, sA, s0, sN, i64_w, i32_w]
                        rfl
                       refine pure_ (i := 16) (N := some 110) (v := undef) (a' := ?_) #[Y,Y,Y,Y,Y,Y,Y,Y,Y,Y,Y,Y,Y,Y,Y,Y,Y,Z,Z,Z,Z,Z,Z,Z,Z,Z,Z,Z,Z,Z,Z,Z,Z,Z,Z,Z,Z,Z,Z,Z,Z,Z] rfl rfl (any_of HT_.out (by kernel_rfl)) (fun _ _ _ h => h) (Or.inr ⟨by rfl, rfl⟩) ?_ ?_
                       rotate_left
                       ·simp only [Act.put, sA, s0, sN, i64_w, i32_w]
                        rfl
                       refine pure_ (i := 17) (N := some 111) (v := undef) (a' := ?_) #[Y,Y,Y,Y,Y,Y,Y,Y,Y,Y,Y,Y,Y,Y,Y,Y,Y,Y,Z,Z,Z,Z,Z,Z,Z,Z,Z,Z,Z,Z,Z,Z,Z,Z,Z,Z,Z,Z,Z,Z,Z,Z] rfl rfl (any_of HT_.out (by kernel_rfl)) (fun _ _ _ h => h) (Or.inr ⟨by rfl, rfl⟩) ?_ ?_
                       rotate_left
                       ·simp only [Act.put, sA, s0, sN, i64_w, i32_w]
                        rfl
                       refine pure_ (i := 18) (N := some 112) (v := undef) (a' := ?_) #[Y,Y,Y,Y,Y,Y,Y,Y,Y,Y,Y,Y,Y,Y,Y,Y,Y,Y,Y,Z,Z,Z,Z,Z,Z,Z,Z,Z,Z,Z,Z,Z,Z,Z,Z,Z,Z,Z,Z,Z,Z,Z] rfl rfl (any_of HT_.out (by kernel_rfl)) (fun _ _ _ h => h) (Or.inr ⟨by rfl, rfl⟩) ?_ ?_
                       rotate_left
                       ·simp only [Act.put, sA, s0, sN, i64_w, i32_w]
                        rfl
                       refine pure_ (i := 19) (N := some 113) (v := undef) (a' := ?_) #[Y,Y,Y,Y,Y,Y,Y,Y,Y,Y,Y,Y,Y,Y,Y,Y,Y,Y,Y,Y,Z,Z,Z,Z,Z,Z,Z,Z,Z,Z,Z,Z,Z,Z,Z,Z,Z,Z,Z,Z,Z,Z] rfl rfl (any_of HT_.out (by kernel_rfl)) (fun _ _ _ h => h) (Or.inr ⟨by rfl, rfl⟩) ?_ ?_
                       rotate_left
                       ·simp only [Act.put, sA, s0, sN, i64_w, i32_w]
                        rfl
                       refine pure_ (i := 20) (N := some 114) (v := undef) (a' := ?_) #[Y,Y,Y,Y,Y,Y,Y,Y,Y,Y,Y,Y,Y,Y,Y,Y,Y,Y,Y,Y,Y,Z,Z,Z,Z,Z,Z,Z,Z,Z,Z,Z,Z,Z,Z,Z,Z,Z,Z,Z,Z,Z] rfl rfl (any_of HT_.out (by kernel_rfl)) (fun _ _ _ h => h) (Or.inr ⟨by rfl, rfl⟩) ?_ ?_
                       rotate_left
                       ·simp only [Act.put, sA, s0, sN, i64_w, i32_w]
                        rfl
                       refine pure_ (i := 21) (N := some 115) (v := undef) (a' := ?_) #[Y,Y,Y,Y,Y,Y,Y,Y,Y,Y,Y,Y,Y,Y,Y,Y,Y,Y,Y,Y,Y,Y,Z,Z,Z,Z,Z,Z,Z,Z,Z,Z,Z,Z,Z,Z,Z,Z,Z,Z,Z,Z] rfl rfl (any_of HT_.out (by kernel_rfl)) (fun _ _ _ h => h) (Or.inr ⟨by rfl, rfl⟩) ?_ ?_
                       rotate_left
                       ·simp only [Act.put, sA, s0, sN, i64_w, i32_w]
                        rfl
                       refine pure_ (i := 22) (N := some 116) (v := undef) (a' := ?_) #[Y,Y,Y,Y,Y,Y,Y,Y,Y,Y,Y,Y,Y,Y,Y,Y,Y,Y,Y,Y,Y,Y,Y,Z,Z,Z,Z,Z,Z,Z,Z,Z,Z,Z,Z,Z,Z,Z,Z,Z,Z,Z] rfl rfl (any_of HT_.out (by kernel_rfl)) (fun _ _ _ h => h) (Or.inr ⟨by rfl, rfl⟩) ?_ ?_
                       rotate_left
                       ·simp only [Act.put, sA, s0, sN, i64_w, i32_w]
                        rfl
                       refine pure_ (i := 23) (N := some 117) (v := undef) (a' := ?_) #[Y,Y,Y,Y,Y,Y,Y,Y,Y,Y,Y,Y,Y,Y,Y,Y,Y,Y,Y,Y,Y,Y,Y,Y,Z,Z,Z,Z,Z,Z,Z,Z,Z,Z,Z,Z,Z,Z,Z,Z,Z,Z] rfl rfl (any_of HT_.out (by kernel_rfl)) (fun _ _ _ h => h) (Or.inr ⟨by rfl, rfl⟩) ?_ ?_
                       rotate_left
                       ·simp only [Act.put, sA, s0, sN, i64_w, i32_w]
                        rfl
                       refine pure_ (i := 24) (N := some 118) (v := undef) (a' := ?_) #[Y,Y,Y,Y,Y,Y,Y,Y,Y,Y,Y,Y,Y,Y,Y,Y,Y,Y,Y,Y,Y,Y,Y,Y,Y,Z,Z,Z,Z,Z,Z,Z,Z,Z,Z,Z,Z,Z,Z,Z,Z,Z] rfl rfl (any_of HT_.out (by kernel_rfl)) (fun _ _ _ h => h) (Or.inr ⟨by rfl, rfl⟩) ?_ ?_
                       rotate_left
                       ·simp only [Act.put, sA, s0, sN, i64_w, i32_w]
                        rfl
                       refine pU 25 119 (v := ?_) (a' := ?_) #[Y,Y,Y,Y,Y,Y,Y,Y,Y,Y,Y,Y,Y,Y,Y,Y,Y,Y,Y,Y,Y,Y,Y,Y,Y,Y,Z,Z,Z,Z,Z,Z,Z,Z,Z,Z,Z,Z,Z,Z,Z,Z] HT_ rfl rfl (by kernel_rfl) ?_ ?_ ?_;rotate_left;(intro w';go_simp;with_reducible rfl);rotate_left;(simp only [Act.put, sA, s0, sN, i64_w, i32_w];rfl)
                       refine pU 26 120 (v := ?_) (a' := ?_) #[Y,Y,Y,Y,Y,Y,Y,Y,Y,Y,Y,Y,Y,Y,Y,Y,Y,Y,Y,Y,Y,Y,Y,Y,Y,Y,Y,Z,Z,Z,Z,Z,Z,Z,Z,Z,Z,Z,Z,Z,Z,Z] HT_ rfl rfl (by kernel_rfl) ?_ ?_ ?_;rotate_left;(intro w';go_simp;with_reducible rfl);rotate_left;(simp only [Act.put, sA, s0, sN, i64_w, i32_w];rfl)
                       refine pU 27 121 (v := ?_) (a' := ?_) #[Y,Y,Y,Y,Y,Y,Y,Y,Y,Y,Y,Y,Y,Y,Y,Y,Y,Y,Y,Y,Y,Y,Y,Y,Y,Y,Y,Y,Z,Z,Z,Z,Z,Z,Z,Z,Z,Z,Z,Z,Z,Z] HT_ rfl rfl (by kernel_rfl) ?_ ?_ ?_;rotate_left;(intro w';go_simp;with_reducible rfl);rotate_left;(simp only [Act.put, sA, s0, sN, i64_w, i32_w];rfl)
                       refine pU 28 122 (v := ?_) (a' := ?_) #[Y,Y,Y,Y,Y,Y,Y,Y,Y,Y,Y,Y,Y,Y,Y,Y,Y,Y,Y,Y,Y,Y,Y,Y,Y,Y,Y,Y,Y,Z,Z,Z,Z,Z,Z,Z,Z,Z,Z,Z,Z,Z] HT_ rfl rfl (by kernel_rfl) ?_ ?_ ?_;rotate_left;(intro w';go_simp;with_reducible rfl);rotate_left;(simp only [Act.put, sA, s0, sN, i64_w, i32_w];rfl)
                       refine pU 29 123 (v := ?_) (a' := ?_) #[Y,Y,Y,Y,Y,Y,Y,Y,Y,Y,Y,Y,Y,Y,Y,Y,Y,Y,Y,Y,Y,Y,Y,Y,Y,Y,Y,Y,Y,Y,Z,Z,Z,Z,Z,Z,Z,Z,Z,Z,Z,Z] HT_ rfl rfl (by kernel_rfl) ?_ ?_ ?_;rotate_left;(intro w';go_simp;with_reducible rfl);rotate_left;(simp only [Act.put, sA, s0, sN, i64_w, i32_w];rfl)
                       refine pU 30 124 (v := ?_) (a' := ?_) #[Y,Y,Y,Y,Y,Y,Y,Y,Y,Y,Y,Y,Y,Y,Y,Y,Y,Y,Y,Y,Y,Y,Y,Y,Y,Y,Y,Y,Y,Y,Y,Z,Z,Z,Z,Z,Z,Z,Z,Z,Z,Z] HT_ rfl rfl (by kernel_rfl) ?_ ?_ ?_;rotate_left;(intro w';go_simp;with_reducible rfl);rotate_left;(simp only [Act.put, sA, s0, sN, i64_w, i32_w];rfl)
                       refine pU 31 125 (v := ?_) (a' := ?_) #[Y,Y,Y,Y,Y,Y,Y,Y,Y,Y,Y,Y,Y,Y,Y,Y,Y,Y,Y,Y,Y,Y,Y,Y,Y,Y,Y,Y,Y,Y,Y,Y,Z,Z,Z,Z,Z,Z,Z,Z,Z,Z] HT_ rfl rfl (by kernel_rfl) ?_ ?_ ?_;rotate_left;(intro w';go_simp;with_reducible rfl);rotate_left;(simp only [Act.put, sA, s0, sN, i64_w, i32_w];rfl)
                       refine pU 32 126 (v := ?_) (a' := ?_) #[Y,Y,Y,Y,Y,Y,Y,Y,Y,Y,Y,Y,Y,Y,Y,Y,Y,Y,Y,Y,Y,Y,Y,Y,Y,Y,Y,Y,Y,Y,Y,Y,Y,Z,Z,Z,Z,Z,Z,Z,Z,Z] HT_ rfl rfl (by kernel_rfl) ?_ ?_ ?_;rotate_left;(intro w';go_simp;with_reducible rfl);rotate_left;(simp only [Act.put, sA, s0, sN, i64_w, i32_w];rfl)
                       refine pU 33 127 (v := ?_) (a' := ?_) #[Y,Y,Y,Y,Y,Y,Y,Y,Y,Y,Y,Y,Y,Y,Y,Y,Y,Y,Y,Y,Y,Y,Y,Y,Y,Y,Y,Y,Y,Y,Y,Y,Y,Y,Z,Z,Z,Z,Z,Z,Z,Z] HT_ rfl rfl (by kernel_rfl) ?_ ?_ ?_;rotate_left;(intro w';go_simp;with_reducible rfl);rotate_left;(simp only [Act.put, sA, s0, sN, i64_w, i32_w];rfl)
                       refine pU 35 129 (v := ?_) (a' := ?_) #[Y,Y,Y,Y,Y,Y,Y,Y,Y,Y,Y,Y,Y,Y,Y,Y,Y,Y,Y,Y,Y,Y,Y,Y,Y,Y,Y,Y,Y,Y,Y,Y,Y,Y,Z,Y,Z,Z,Z,Z,Z,Z] HT_ rfl rfl (by kernel_rfl) ?_ ?_ ?_;rotate_left;(intro w';go_simp;with_reducible rfl);rotate_left;(simp only [Act.put, sA, s0, sN, i64_w, i32_w];rfl)
                       refine pU 36 130 (v := ?_) (a' := ?_) #[Y,Y,Y,Y,Y,Y,Y,Y,Y,Y,Y,Y,Y,Y,Y,Y,Y,Y,Y,Y,Y,Y,Y,Y,Y,Y,Y,Y,Y,Y,Y,Y,Y,Y,Z,Y,Y,Z,Z,Z,Z,Z] HT_ rfl rfl (by kernel_rfl) ?_ ?_ ?_;rotate_left;(intro w';go_simp;with_reducible rfl);rotate_left;(simp only [Act.put, sA, s0, sN, i64_w, i32_w];rfl)
                       refine pU 37 131 (v := ?_) (a' := ?_) #[Y,Y,Y,Y,Y,Y,Y,Y,Y,Y,Y,Y,Y,Y,Y,Y,Y,Y,Y,Y,Y,Y,Y,Y,Y,Y,Y,Y,Y,Y,Y,Y,Y,Y,Z,Y,Y,Y,Z,Z,Z,Z] HT_ rfl rfl (by kernel_rfl) ?_ ?_ ?_;rotate_left;(intro w';go_simp;with_reducible rfl);rotate_left;(simp only [Act.put, sA, s0, sN, i64_w, i32_w];rfl)
                       refine take_ (i := 34) (N := some 128) (v := ?_) (a' := ?_) #[Y,Y,Y,Y,Y,Y,Y,Y,Y,Y,Y,Y,Y,Y,Y,Y,Y,Y,Y,Y,Y,Y,Y,Y,Y,Y,Y,Y,Y,Y,Y,Y,Y,Y,Y,Y,Y,Y,Z,Z,Z,Z] rfl rfl (take_ofW HT_.out HW_.out (by kernel_rfl)) (fun _ _ _ h => h) (Or.inl ⟨by rfl, ?_⟩) hHeld ?_ ?_
                       rotate_left
                       ·rintro w' ⟨s0, s1⟩
                        go_simp
                        with_reducible rfl
                       rotate_left
                       ·simp only [Act.put, sA, s0, sN, i64_w, i32_w]
                        rfl
                       refine take_ (i := 38) (N := some 132) (v := ?_) (a' := ?_) #[Y,Y,Y,Y,Y,Y,Y,Y,Y,Y,Y,Y,Y,Y,Y,Y,Y,Y,Y,Y,Y,Y,Y,Y,Y,Y,Y,Y,Y,Y,Y,Y,Y,Y,Y,Y,Y,Y,Y,Z,Z,Z] rfl rfl (take_ofW HT_.out HW_.out (by kernel_rfl)) (fun _ _ _ h => h) (Or.inl ⟨by rfl, ?_⟩) hHeld ?_ ?_
                       rotate_left
                       ·rintro w' ⟨s0, s1⟩
                        go_simp
                        with_reducible rfl
                       rotate_left
                       ·simp only [Act.put, sA, s0, sN, i64_w, i32_w]
                        rfl
                       refine pU 39 133 (v := ?_) (a' := ?_) #[Y,Y,Y,Y,Y,Y,Y,Y,Y,Y,Y,Y,Y,Y,Y,Y,Y,Y,Y,Y,Y,Y,Y,Y,Y,Y,Y,Y,Y,Y,Y,Y,Y,Y,Y,Y,Y,Y,Y,Y,Z,Z] HT_ rfl rfl (by kernel_rfl) ?_ ?_ ?_;rotate_left;(intro w';go_simp;with_reducible rfl);rotate_left;(simp only [Act.put, sA, s0, sN, i64_w, i32_w];rfl)
                       refine pU 40 134 (v := ?_) (a' := ?_) #[Y,Y,Y,Y,Y,Y,Y,Y,Y,Y,Y,Y,Y,Y,Y,Y,Y,Y,Y,Y,Y,Y,Y,Y,Y,Y,Y,Y,Y,Y,Y,Y,Y,Y,Y,Y,Y,Y,Y,Y,Y,Z] HT_ rfl rfl (by kernel_rfl) ?_ ?_ ?_;rotate_left;(intro w';go_simp;with_reducible rfl);rotate_left;(simp only [Act.put, sA, s0, sN, i64_w, i32_w];rfl)
                       refine pU 41 135 (v := ?_) (a' := ?_) #[Y,Y,Y,Y,Y,Y,Y,Y,Y,Y,Y,Y,Y,Y,Y,Y,Y,Y,Y,Y,Y,Y,Y,Y,Y,Y,Y,Y,Y,Y,Y,Y,Y,Y,Y,Y,Y,Y,Y,Y,Y,Y] HT_ rfl rfl (by kernel_rfl) ?_ ?_ ?_;rotate_left;(intro w';go_simp;with_reducible rfl);rotate_left;(simp only [Act.put, sA, s0, sN, i64_w, i32_w];rfl)
                       refine done_ (done_of HT_.out (by kernel_rfl)) ?_
                       try go_wp2
                       go_roundg k4
                       case measure => have := HK1.out; have := HK2.out; have := HJ42.out; have := HK4.out; omega
                       case rel => exact ⟨(wrap64 (x13_4 + 1)), tR, H', ⟨by have := HK1.out; have := HK2.out; have := HJ42.out; have := HK4.out; omega⟩, ⟨rS HO_3.out⟩, ⟨rS HO_5.out⟩, ⟨rS HO_7.out⟩, ⟨rS HO_10.out⟩, ⟨rS HO_12.out⟩, ⟨rS HO_320002.out⟩, ⟨bS BK319.out⟩, ⟨bx⟩⟩
                      ·rw [if_neg c61] at H
                       exact absurd H (by simp)
                     ·rw [if_neg c60] at H
                      exact absurd H (by simp)
                    ·rw [if_neg c59] at H
                     exact absurd H (by simp)
                   ·rw [if_neg c58] at H
                    exact absurd H (by simp)
                  ·rw [if_neg c57] at H
                   have c57b0 : (x13_4 == t328) = false := beq_eq_false_iff_ne.mpr c57
                   have c57b1 : (x13_4 != t328) = true := bne_iff_ne.mpr c57
                   by_cases c65 : 0 ≤ x13_4
                   ·rw [if_pos c65] at H
                    have c65b0 : decide (0 ≤ x13_4) = true := decide_eq_true c65
                    clear c65
                    by_cases c66 : x13_4 < (t324.length : Int)
                    ·rw [if_pos c66] at H
                     have c66b0 : decide (x13_4 < (t324.length : Int)) = true := decide_eq_true c66
                     clear c66
                     by_cases c67 : x13_4 < (x320002_1.length : Int)
                     ·rw [if_pos c67] at H
                      have c67b0 : decide (x13_4 < (x320002_1.length : Int)) = true := decide_eq_true c67
                      clear c67
                      by_cases c68 : (rd t324 x13_4) = (rd x320002_1 x13_4)
                      ·rw [if_pos c68] at H
                       have c68b0 : ((rd t324 x13_4) == (rd x320002_1 x13_4)) = true := beq_iff_eq.mpr c68
                       have c68b1 : ((rd t324 x13_4) != (rd x320002_1 x13_4)) = false := bne_eq_false_iff_eq.mpr c68
                       clear c68
                       by_cases c69 : x13_4 < (t343.length : Int)
                       ·rw [if_pos c69] at H
                        have c69b0 : decide (x13_4 < (t343.length : Int)) = true := decide_eq_true c69
                        clear c69
                        by_cases c70 : x13_4 < (x10_2.length : Int)
                        ·rw [if_pos c70] at H
                         have c70b0 : decide (x13_4 < (x10_2.length : Int)) = true := decide_eq_true c70
                         clear c70
                         by_cases c71 : (rd t343 x13_4) = (rd x10_2 x13_4)
                         ·rw [if_pos c71] at H
                          have c71b0 : ((rd t343 x13_4) == (rd x10_2 x13_4)) = true := beq_iff_eq.mpr c71
                          have c71b1 : ((rd t343 x13_4) != (rd x10_2 x13_4)) = false := bne_eq_false_iff_eq.mpr c71
                          clear c71
                          have H' := Aside0.mk H
                          clear H
                          try go_wp2
                          replace HO_3 := Aside0.mk (Kd.R_drew HO_3.out)
                          replace HO_5 := Aside0.mk (Kd.R_drew HO_5.out)
                          replace HO_7 := Aside0.mk (Kd.R_drew HO_7.out)
                          replace HO_10 := Aside0.mk (Kd.R_drew HO_10.out)
                          replace HO_12 := Aside0.mk (Kd.R_drew HO_12.out)
                          replace HO_320002 := Aside0.mk (Kd.R_drew HO_320002.out)
                          replace BK319 := Aside0.mk (blk_drew BK319.out)
                          replace HB := Aside0.mk (below_drew1 HB.out)
                          obtain ⟨Ao73, co73, eo73⟩ := Kd.R_slice HO_7.out
                          (first | subst eo73 | (injection eo73 with f1_ f2_ f3_; have f4_ := f1_.symm; have f5_ := f3_.symm; clear f1_ f2_ f3_; subst f4_; subst f5_))
                          have p349 : 0 ≤ (x13_4 : Int) := dT
                          have q349 : x13_4 < (t324.length : Int) := dT
                          obtain ⟨ad349, e349, hx349_0⟩ := Kd.at_int (Kd.R_reads' HO_7.out).2.2 x13_4 p349 q349
                          cases e349
                          replace p349 := eq_true p349
                          replace q349 := eq_true q349
                          have p350 : 0 ≤ (x13_4 : Int) := dT
                          have q350 : x13_4 < (x320002_1.length : Int) := dT
                          obtain ⟨ad350, e350, hx350_0⟩ := Kd.at_int (Kd.R_reads' HO_320002.out).2.2 x13_4 p350 q350
                          cases e350
                          replace p350 := eq_true p350
                          replace q350 := eq_true q350
                          obtain ⟨Ao74, co74, eo74⟩ := Kd.R_slice HO_12.out
                          (first | subst eo74 | (injection eo74 with f1_ f2_ f3_; have f4_ := f1_.symm; have f5_ := f3_.symm; clear f1_ f2_ f3_; subst f4_; subst f5_))
                          have p351 : 0 ≤ (x13_4 : Int) := dT
                          have q351 : x13_4 < (t343.length : Int) := dT
                          obtain ⟨ad351, e351, hx351_0⟩ := Kd.at_int (Kd.R_reads' HO_12.out).2.2 x13_4 p351 q351
                          cases e351
                          replace p351 := eq_true p351
                          replace q351 := eq_true q351
                          have p352 : 0 ≤ (x13_4 : Int) := dT
                          have q352 : x13_4 < (x10_2.length : Int) := dT
                          obtain ⟨ad352, e352, hx352_0⟩ := Kd.at_int (Kd.R_reads' HO_10.out).2.2 x13_4 p352 q352
                          cases e352
                          replace p352 := eq_true p352
                          replace q352 := eq_true q352
                          refine start_ (n := 42) (S := fun w' => w'.cell? ⟨gb319, 0, none⟩ = some (.int .i64 t314) ∧ w'.cell? ⟨gb319, 1, none⟩ = some (.int .i64 t315) ∧ w'.cell? ⟨gb319, 2, none⟩ = some (.slice (some ad350) x320002_1.length co19) ∧ w'.cell? (ad349.add (x13_4).toNat) = some (.int .i64 (rd t324 x13_4)) ∧ w'.cell? (ad350.add (x13_4).toNat) = some (.int .i64 (rd x320002_1 x13_4)) ∧ w'.cell? (ad351.add (x13_4).toNat) = some (.int .i64 (rd t343 x13_4)) ∧ w'.cell? (ad352.add (x13_4).toNat) = some (.int .i64 (rd x10_2 x13_4))) (ds := []) #[false,false,false,false,false,false,false,false,false,false,false,false,false,false,false,false,false,false,false,false,false,false,false,false,false,false,false,false,false,false,false,false,false,false,false,false,false,false,false,false,false,false] (by kernel_rfl) rfl rfl ⟨(blk_cell BK319.out 0).trans rfl, (blk_cell BK319.out 1).trans rfl, (blk_cell BK319.out 2).trans rfl, hx349_0, hx350_0, hx351_0, hx352_0⟩ (fun hHeld => ?_); refine with_tabW laws_FnApplied.tab23 laws_FnApplied.bits23 (fun HT_ HW_ => ?_)
                          generalize wr.drew = w72 at HO_3 HO_5 HO_7 HO_10 HO_12 HO_320002 BK319 HB hx349_0 hx350_0 hx351_0 hx352_0 hHeld ⊢
                          refine pU 0 94 (v := ?_) (a' := ?_) #[Y,Z,Z,Z,Z,Z,Z,Z,Z,Z,Z,Z,Z,Z,Z,Z,Z,Z,Z,Z,Z,Z,Z,Z,Z,Z,Z,Z,Z,Z,Z,Z,Z,Z,Z,Z,Z,Z,Z,Z,Z,Z] HT_ rfl rfl (by kernel_rfl) ?_ ?_ ?_;rotate_left;(intro w';go_simp;with_reducible rfl);rotate_left;(simp only [Act.put, sA, s0, sN, i64_w, i32_w];rfl)
                          refine pU 1 95 (v := ?_) (a' := ?_) #[Y,Y,Z,Z,Z,Z,Z,Z,Z,Z,Z,Z,Z,Z,Z,Z,Z,Z,Z,Z,Z,Z,Z,Z,Z,Z,Z,Z,Z,Z,Z,Z,Z,Z,Z,Z,Z,Z,Z,Z,Z,Z] HT_ rfl rfl (by kernel_rfl) ?_ ?_ ?_;rotate_left;(intro w';go_simp;with_reducible rfl);rotate_left;(simp only [Act.put, sA, s0, sN, i64_w, i32_w];rfl)
                          refine pU 2 96 (v := ?_) (a' := ?_) #[Y,Y,Y,Z,Z,Z,Z,Z,Z,Z,Z,Z,Z,Z,Z,Z,Z,Z,Z,Z,Z,Z,Z,Z,Z,Z,Z,Z,Z,Z,Z,Z,Z,Z,Z,Z,Z,Z,Z,Z,Z,Z] HT_ rfl rfl (by kernel_rfl) ?_ ?_ ?_;rotate_left;(intro w';go_simp;with_reducible rfl);rotate_left;(simp only [Act.put, sA, s0, sN, i64_w, i32_w];rfl)
                          refine pU 3 97 (v := ?_) (a' := ?_) #[Y,Y,Y,Y,Z,Z,Z,Z,Z,Z,Z,Z,Z,Z,Z,Z,Z,Z,Z,Z,Z,Z,Z,Z,Z,Z,Z,Z,Z,Z,Z,Z,Z,Z,Z,Z,Z,Z,Z,Z,Z,Z] HT_ rfl rfl (by kernel_rfl) ?_ ?_ ?_;rotate_left;(intro w';go_simp;with_reducible rfl);rotate_left;(simp only [Act.put, sA, s0, sN, i64_w, i32_w];rfl)
                          refine pU 4 98 (v := ?_) (a' := ?_) #[Y,Y,Y,Y,Y,Z,Z,Z,Z,Z,Z,Z,Z,Z,Z,Z,Z,Z,Z,Z,Z,Z,Z,Z,Z,Z,Z,Z,Z,Z,Z,Z,Z,Z,Z,Z,Z,Z,Z,Z,Z,Z] HT_ rfl rfl (by kernel_rfl) ?_ ?_ ?_;rotate_left;(intro w';go_simp;with_reducible rfl);rotate_left;(simp only [Act.put, sA, s0, sN, i64_w, i32_w];rfl)
                          refine pU 5 99 (v := ?_) (a' := ?_) #[Y,Y,Y,Y,Y,Y,Z,Z,Z,Z,Z,Z,Z,Z,Z,Z,Z,Z,Z,Z,Z,Z,Z,Z,Z,Z,Z,Z,Z,Z,Z,Z,Z,Z,Z,Z,Z,Z,Z,Z,Z,Z] HT_ rfl rfl (by kernel_rfl) ?_ ?_ ?_;rotate_left;(intro w';go_simp;with_reducible rfl);rotate_left;(simp only [Act.put, sA, s0, sN, i64_w, i32_w];rfl)
                          refine pU 6 100 (v := ?_) (a' := ?_) #[Y,Y,Y,Y,Y,Y,Y,Z,Z,Z,Z,Z,Z,Z,Z,Z,Z,Z,Z,Z,Z,Z,Z,Z,Z,Z,Z,Z,Z,Z,Z,Z,Z,Z,Z,Z,Z,Z,Z,Z,Z,Z] HT_ rfl rfl (by kernel_rfl) ?_ ?_ ?_;rotate_left;(intro w';go_simp;with_reducible rfl);rotate_left;(simp only [Act.put, sA, s0, sN, i64_w, i32_w];rfl)
                          refine pU 8 102 (v := ?_) (a' := ?_) #[Y,Y,Y,Y,Y,Y,Y,Z,Y,Z,Z,Z,Z,Z,Z,Z,Z,Z,Z,Z,Z,Z,Z,Z,Z,Z,Z,Z,Z,Z,Z,Z,Z,Z,Z,Z,Z,Z,Z,Z,Z,Z] HT_ rfl rfl (by kernel_rfl) ?_ ?_ ?_;rotate_left;(intro w';go_simp;with_reducible rfl);rotate_left;(simp only [Act.put, sA, s0, sN, i64_w, i32_w];rfl)
                          refine pU 10 104 (v := ?_) (a' := ?_) #[Y,Y,Y,Y,Y,Y,Y,Z,Y,Z,Y,Z,Z,Z,Z,Z,Z,Z,Z,Z,Z,Z,Z,Z,Z,Z,Z,Z,Z,Z,Z,Z,Z,Z,Z,Z,Z,Z,Z,Z,Z,Z] HT_ rfl rfl (by kernel_rfl) ?_ ?_ ?_;rotate_left;(intro w';go_simp;with_reducible rfl);rotate_left;(simp only [Act.put, sA, s0, sN, i64_w, i32_w];rfl)
                          refine take_ (i := 7) (N := some 101) (v := ?_) (a' := ?_) #[Y,Y,Y,Y,Y,Y,Y,Y,Y,Z,Y,Z,Z,Z,Z,Z,Z,Z,Z,Z,Z,Z,Z,Z,Z,Z,Z,Z,Z,Z,Z,Z,Z,Z,Z,Z,Z,Z,Z,Z,Z,Z] rfl rfl (take_ofW HT_.out HW_.out (by kernel_rfl)) (fun _ _ _ h => h) (Or.inl ⟨by rfl, ?_⟩) hHeld ?_ ?_
                          rotate_left
                          ·rintro w' ⟨s0, s1, s2, s3, s4, s5, s6⟩
                           go_simp
                           with_reducible rfl
                          rotate_left
                          ·simp only [Act.put, sA, s0, sN, i64_w, i32_w]
                           rfl
                          refine take_ (i := 9) (N := some 103) (v := ?_) (a' := ?_) #[Y,Y,Y,Y,Y,Y,Y,Y,Y,Y,Y,Z,Z,Z,Z,Z,Z,Z,Z,Z,Z,Z,Z,Z,Z,Z,Z,Z,Z,Z,Z,Z,Z,Z,Z,Z,Z,Z,Z,Z,Z,Z] rfl rfl (take_ofW HT_.out HW_.out (by kernel_rfl)) (fun _ _ _ h => h) (Or.inl ⟨by rfl, ?_⟩) hHeld ?_ ?_
                          rotate_left
                          ·rintro w' ⟨s0, s1, s2, s3, s4, s5, s6⟩
                           go_simp
                           with_reducible rfl
                          rotate_left
                          ·simp only [Act.put, sA, s0, sN, i64_w, i32_w]
                           rfl
                          refine pU 11 105 (v := ?_) (a' := ?_) #[Y,Y,Y,Y,Y,Y,Y,Y,Y,Y,Y,Y,Z,Z,Z,Z,Z,Z,Z,Z,Z,Z,Z,Z,Z,Z,Z,Z,Z,Z,Z,Z,Z,Z,Z,Z,Z,Z,Z,Z,Z,Z] HT_ rfl rfl (by kernel_rfl) ?_ ?_ ?_;rotate_left;(intro w';go_simp;with_reducible rfl);rotate_left;(simp only [Act.put, sA, s0, sN, i64_w, i32_w];rfl)
                          refine take_ (i := 12) (N := some 106) (v := ?_) (a' := ?_) #[Y,Y,Y,Y,Y,Y,Y,Y,Y,Y,Y,Y,Y,Z,Z,Z,Z,Z,Z,Z,Z,Z,Z,Z,Z,Z,Z,Z,Z,Z,Z,Z,Z,Z,Z,Z,Z,Z,Z,Z,Z,Z] rfl rfl (take_ofW HT_.out HW_.out (by kernel_rfl)) (fun _ _ _ h => h) (Or.inl ⟨by rfl, ?_⟩) hHeld ?_ ?_
                          rotate_left
                          ·rintro w' ⟨s0, s1, s2, s3, s4, s5, s6⟩
                           go_simp
                           with_reducible rfl
                          rotate_left
                          ·simp only [Act.put, sA, s0, sN, i64_w, i32_w]
                           rfl
                          refine pU 13 107 (v := ?_) (a' := ?_) #[Y,Y,Y,Y,Y,Y,Y,Y,Y,Y,Y,Y,Y,Y,Z,Z,Z,Z,Z,Z,Z,Z,Z,Z,Z,Z,Z,Z,Z,Z,Z,Z,Z,Z,Z,Z,Z,Z,Z,Z,Z,Z] HT_ rfl rfl (by kernel_rfl) ?_ ?_ ?_;rotate_left;(intro w';go_simp;with_reducible rfl);rotate_left;(simp only [Act.put, sA, s0, sN, i64_w, i32_w];rfl)
                          refine pU 14 108 (v := ?_) (a' := ?_) #[Y,Y,Y,Y,Y,Y,Y,Y,Y,Y,Y,Y,Y,Y,Y,Z,Z,Z,Z,Z,Z,Z,Z,Z,Z,Z,Z,Z,Z,Z,Z,Z,Z,Z,Z,Z,Z,Z,Z,Z,Z,Z] HT_ rfl rfl (by kernel_rfl) ?_ ?_ ?_;rotate_left;(intro w';go_simp;with_reducible rfl);rotate_left;(simp only [Act.put, sA, s0, sN, i64_w, i32_w];rfl)
                          refine pU 15 109 (v := ?_) (a' := ?_) #[Y,Y,Y,Y,Y,Y,Y,Y,Y,Y,Y,Y,Y,Y,Y,Y,Z,Z,Z,Z,Z,Z,Z,Z,Z,Z,Z,Z,Z,Z,Z,Z,Z,Z,Z,Z,Z,Z,Z,Z,Z,Z] HT_ rfl rfl (by kernel_rfl) ?_ ?_ ?_;rotate_left;(intro w';go_simp;with_reducible rfl);rotate_left;(simp only [Act.put, sA, s0, sN, i64_w, i32_w];rfl)
                          refine pU 16 110 (v := ?_) (a' := ?_) #[Y,Y,Y,Y,Y,Y,Y,Y,Y,Y,Y,Y,Y,Y,Y,Y,Y,Z,Z,Z,Z,Z,Z,Z,Z,Z,Z,Z,Z,Z,Z,Z,Z,Z,Z,Z,Z,Z,Z,Z,Z,Z] HT_ rfl rfl (by kernel_rfl) ?_ ?_ ?_;rotate_left;(intro w';go_simp;with_reducible rfl);rotate_left;(simp only [Act.put, sA, s0, sN, i64_w, i32_w];rfl)
                          refine pU 17 111 (v := ?_) (a' := ?_) #[Y,Y,Y,Y,Y,Y,Y,Y,Y,Y,Y,Y,Y,Y,Y,Y,Y,Y,Z,Z,Z,Z,Z,Z,Z,Z,Z,Z,Z,Z,Z,Z,Z,Z,Z,Z,Z,Z,Z,Z,Z,Z] HT_ rfl rfl (by kernel_rfl) ?_ ?_ ?_;rotate_left;(intro w';go_simp;with_reducible rfl);rotate_left;(simp only [Act.put, sA, s0, sN, i64_w, i32_w];rfl)
                          refine pU 19 113 (v := ?_) (a' := ?_) #[Y,Y,Y,Y,Y,Y,Y,Y,Y,Y,Y,Y,Y,Y,Y,Y,Y,Y,Z,Y,Z,Z,Z,Z,Z,Z,Z,Z,Z,Z,Z,Z,Z,Z,Z,Z,Z,Z,Z,Z,Z,Z] HT_ rfl rfl (by kernel_rfl) ?_ ?_ ?_;rotate_left;(intro w';go_simp;with_reducible rfl);rotate_left;(simp only [Act.put, sA, s0, sN, i64_w, i32_w];rfl)
                          refine pU 20 114 (v := ?_) (a' := ?_) #[Y,Y,Y,Y,Y,Y,Y,Y,Y,Y,Y,Y,Y,Y,Y,Y,Y,Y,Z,Y,Y,Z,Z,Z,Z,Z,Z,Z,Z,Z,Z,Z,Z,Z,Z,Z,Z,Z,Z,Z,Z,Z] HT_ rfl rfl (by kernel_rfl) ?_ ?_ ?_;rotate_left;(intro w';go_simp;with_reducible rfl);rotate_left;(simp only [Act.put, sA, s0, sN, i64_w, i32_w];rfl)
                          refine pU 21 115 (v := ?_) (a' := ?_) #[Y,Y,Y,Y,Y,Y,Y,Y,Y,Y,Y,Y,Y,Y,Y,Y,Y,Y,Z,Y,Y,Y,Z,Z,Z,Z,Z,Z,Z,Z,Z,Z,Z,Z,Z,Z,Z,Z,Z,Z,Z,Z] HT_ rfl rfl (by kernel_rfl) ?_ ?_ ?_;rotate_left;(intro w';go_simp;with_reducible rfl);rotate_left;(simp only [Act.put, sA, s0, sN, i64_w, i32_w];rfl)
                          refine take_ (i := 18) (N := some 112) (v := ?_) (a' := ?_) #[Y,Y,Y,Y,Y,Y,Y,Y,Y,Y,Y,Y,Y,Y,Y,Y,Y,Y,Y,Y,Y,Y,Z,Z,Z,Z,Z,Z,Z,Z,Z,Z,Z,Z,Z,Z,Z,Z,Z,Z,Z,Z] rfl rfl (take_ofW HT_.out HW_.out (by kernel_rfl)) (fun _ _ _ h => h) (Or.inl ⟨by rfl, ?_⟩) hHeld ?_ ?_
                          rotate_left
                          ·rintro w' ⟨s0, s1, s2, s3, s4, s5, s6⟩
                           go_simp
                           with_reducible rfl
                          rotate_left
                          ·simp only [Act.put, sA, s0, sN, i64_w, i32_w]
                           rfl
                          refine take_ (i := 22) (N := some 116) (v := ?_) (a' := ?_) #[Y,Y,Y,Y,Y,Y,Y,Y,Y,Y,Y,Y,Y,Y,Y,Y,Y,Y,Y,Y,Y,Y,Y,Z,Z,Z,Z,Z,Z,Z,Z,Z,Z,Z,Z,Z,Z,Z,Z,Z,Z,Z] rfl rfl (take_ofW HT_.out HW_.out (by kernel_rfl)) (fun _ _ _ h => h) (Or.inl ⟨by rfl, ?_⟩) hHeld ?_ ?_
                          rotate_left
                          ·rintro w' ⟨s0, s1, s2, s3, s4, s5, s6⟩
                           go_simp
                           with_reducible rfl
                          rotate_left
                          ·simp only [Act.put, sA, s0, sN, i64_w, i32_w]
                           rfl
                          refine pU 23 117 (v := ?_) (a' := ?_) #[Y,Y,Y,Y,Y,Y,Y,Y,Y,Y,Y,Y,Y,Y,Y,Y,Y,Y,Y,Y,Y,Y,Y,Y,Z,Z,Z,Z,Z,Z,Z,Z,Z,Z,Z,Z,Z,Z,Z,Z,Z,Z] HT_ rfl rfl (by kernel_rfl) ?_ ?_ ?_;rotate_left;(intro w';go_simp;with_reducible rfl);rotate_left;(simp only [Act.put, sA, s0, sN, i64_w, i32_w];rfl)
                          refine pU 24 118 (v := ?_) (a' := ?_) #[Y,Y,Y,Y,Y,Y,Y,Y,Y,Y,Y,Y,Y,Y,Y,Y,Y,Y,Y,Y,Y,Y,Y,Y,Y,Z,Z,Z,Z,Z,Z,Z,Z,Z,Z,Z,Z,Z,Z,Z,Z,Z] HT_ rfl rfl (by kernel_rfl) ?_ ?_ ?_;rotate_left;(intro w';go_simp;with_reducible rfl);rotate_left;(simp only [Act.put, sA, s0, sN, i64_w, i32_w];rfl)
                          refine pU 25 119 (v := ?_) (a' := ?_) #[Y,Y,Y,Y,Y,Y,Y,Y,Y,Y,Y,Y,Y,Y,Y,Y,Y,Y,Y,Y,Y,Y,Y,Y,Y,Y,Z,Z,Z,Z,Z,Z,Z,Z,Z,Z,Z,Z,Z,Z,Z,Z] HT_ rfl rfl (by kernel_rfl) ?_ ?_ ?_;rotate_left;(intro w';go_simp;with_reducible rfl);rotate_left;(simp only [Act.put, sA, s0, sN, i64_w, i32_w];rfl)
                          refine pU 26 120 (v := ?_) (a' := ?_) #[Y,Y,Y,Y,Y,Y,Y,Y,Y,Y,Y,Y,Y,Y,Y,Y,Y,Y,Y,Y,Y,Y,Y,Y,Y,Y,Y,Z,Z,Z,Z,Z,Z,Z,Z,Z,Z,Z,Z,Z,Z,Z] HT_ rfl rfl (by kernel_rfl) ?_ ?_ ?_;rotate_left;(intro w';go_simp;with_reducible rfl);rotate_left;(simp only [Act.put, sA, s0, sN, i64_w, i32_w];rfl)
                          refine pU 27 121 (v := ?_) (a' := ?_) #[Y,Y,Y,Y,Y,Y,Y,Y,Y,Y,Y,Y,Y,Y,Y,Y,Y,Y,Y,Y,Y,Y,Y,Y,Y,Y,Y,Y,Z,Z,Z,Z,Z,Z,Z,Z,Z,Z,Z,Z,Z,Z] HT_ rfl rfl (by kernel_rfl) ?_ ?_ ?_;rotate_left;(intro w';go_simp;with_reducible rfl);rotate_left;(simp only [Act.put, sA, s0, sN, i64_w, i32_w];rfl)
                          refine pU 28 122 (v := ?_) (a' := ?_) #[Y,Y,Y,Y,Y,Y,Y,Y,Y,Y,Y,Y,Y,Y,Y,Y,Y,Y,Y,Y,Y,Y,Y,Y,Y,Y,Y,Y,Y,Z,Z,Z,Z,Z,Z,Z,Z,Z,Z,Z,Z,Z] HT_ rfl rfl (by kernel_rfl) ?_ ?_ ?_;rotate_left;(intro w';go_simp;with_reducible rfl);rotate_left;(simp only [Act.put, sA, s0, sN, i64_w, i32_w];rfl)
                          refine pU 29 123 (v := ?_) (a' := ?_) #[Y,Y,Y,Y,Y,Y,Y,Y,Y,Y,Y,Y,Y,Y,Y,Y,Y,Y,Y,Y,Y,Y,Y,Y,Y,Y,Y,Y,Y,Y,Z,Z,Z,Z,Z,Z,Z,Z,Z,Z,Z,Z] HT_ rfl rfl (by kernel_rfl) ?_ ?_ ?_;rotate_left;(intro w';go_simp;with_reducible rfl);rotate_left;(simp only [Act.put, sA, s0, sN, i64_w, i32_w];rfl)
                          refine pU 30 124 (v := ?_) (a' := ?_) #[Y,Y,Y,Y,Y,Y,Y,Y,Y,Y,Y,Y,Y,Y,Y,Y,Y,Y,Y,Y,Y,Y,Y,Y,Y,Y,Y,Y,Y,Y,Y,Z,Z,Z,Z,Z,Z,Z,Z,Z,Z,Z] HT_ rfl rfl (by kernel_rfl) ?_ ?_ ?_;rotate_left;(intro w';go_simp;with_reducible rfl);rotate_left;(simp only [Act.put, sA, s0, sN, i64_w, i32_w];rfl)
                          refine pure_ (i := 31) (N := some 125) (v := undef) (a' := ?_) #[Y,Y,Y,Y,Y,Y,Y,Y,Y,Y,Y,Y,Y,Y,Y,Y,Y,Y,Y,Y,Y,Y,Y,Y,Y,Y,Y,Y,Y,Y,Y,Y,Z,Z,Z,Z,Z,Z,Z,Z,Z,Z] rfl rfl (any_of HT_.out (by kernel_rfl)) (fun _ _ _ h => h) (Or.inr ⟨by rfl, rfl⟩) ?_ ?_
                          rotate_left
                          ·simp only [Act.put, sA, s0, sN, i64_w, i32_w]
                           rfl
                          refine pure_ (i := 32) (N := some 126) (v := undef) (a' := ?_) #[Y,Y,Y,Y,Y,Y,Y,Y,Y,Y,Y,Y,Y,Y,Y,Y,Y,Y,Y,Y,Y,Y,Y,Y,Y,Y,Y,Y,Y,Y,Y,Y,Y,Z,Z,Z,Z,Z,Z,Z,Z,Z] rfl rfl (any_of HT_.out (by kernel_rfl)) (fun _ _ _ h => h) (Or.inr ⟨by rfl, rfl⟩) ?_ ?_
                          rotate_left
                          ·simp only [Act.put, sA, s0, sN, i64_w, i32_w]
                           rfl
                          refine pure_ (i := 33) (N := some 127) (v := undef) (a' := ?_) #[Y,Y,Y,Y,Y,Y,Y,Y,Y,Y,Y,Y,Y,Y,Y,Y,Y,Y,Y,Y,Y,Y,Y,Y,Y,Y,Y,Y,Y,Y,Y,Y,Y,Y,Z,Z,Z,Z,Z,Z,Z,Z] rfl rfl (any_of HT_.out (by kernel_rfl)) (fun _ _ _ h => h) (Or.inr ⟨by rfl, rfl⟩) ?_ ?_
                          rotate_left
                          ·simp only [Act.put, sA, s0, sN, i64_w, i32_w]
                           rfl
                          refine pure_ (i := 34) (N := some 128) (v := undef) (a' := ?_) #[Y,Y,Y,Y,Y,Y,Y,Y,Y,Y,Y,Y,Y,Y,Y,Y,Y,Y,Y,Y,Y,Y,Y,Y,Y,Y,Y,Y,Y,Y,Y,Y,Y,Y,Y,Z,Z,Z,Z,Z,Z,Z] rfl rfl (any_of HT_.out (by kernel_rfl)) (fun _ _ _ h => h) (Or.inr ⟨by rfl, rfl⟩) ?_ ?_
                          rotate_left
                          ·simp only [Act.put, sA, s0, sN, i64_w, i32_w]
                           rfl
                          refine pure_ (i := 35) (N := some 129) (v := undef) (a' := ?_) #[Y,Y,Y,Y,Y,Y,Y,Y,Y,Y,Y,Y,Y,Y,Y,Y,Y,Y,Y,Y,Y,Y,Y,Y,Y,Y,Y,Y,Y,Y,Y,Y,Y,Y,Y,Y,Z,Z,Z,Z,Z,Z] rfl rfl (any_of HT_.out (by kernel_rfl)) (fun _ _ _ h => h) (Or.inr ⟨by rfl, rfl⟩) ?_ ?_
                          rotate_left
                          ·simp only [Act.put, sA, s0, sN, i64_w, i32_w]
                           rfl
                          refine pure_ (i := 36) (N := some 130) (v := undef) (a' := ?_) #[Y,Y,Y,Y,Y,Y,Y,Y,Y,Y,Y,Y,Y,Y,Y,Y,Y,Y,Y,Y,Y,Y,Y,Y,Y,Y,Y,Y,Y,Y,Y,Y,Y,Y,Y,Y,Y,Z,Z,Z,Z,Z] rfl rfl (any_of HT_.out (by kernel_rfl)) (fun _ _ _ h => h) (Or.inr ⟨by rfl, rfl⟩) ?_ ?_
                          rotate_left
                          ·simp only [Act.put, sA, s0, sN, i64_w, i32_w]
                           rfl
                          refine pure_ (i := 37) (N := some 131) (v := undef) (a' := ?_) #[Y,Y,Y,Y,Y,Y,Y,Y,Y,Y,Y,Y,Y,Y,Y,Y,Y,Y,Y,Y,Y,Y,Y,Y,Y,Y,Y,Y,Y,Y,Y,Y,Y,Y,Y,Y,Y,Y,Z,Z,Z,Z] rfl rfl (any_of HT_.out (by kernel_rfl)) (fun _ _ _ h => h) (Or.inr ⟨by rfl, rfl⟩) ?_ ?_
                          rotate_left
                          ·simp only [Act.put, sA, s0, sN, i64_w, i32_w]
                           rfl
                          refine pure_ (i := 38) (N := some 132) (v := undef) (a' := ?_) #[Y,Y,Y,Y,Y,Y,Y,Y,Y,Y,Y,Y,Y,Y,Y,Y,Y,Y,Y,Y,Y,Y,Y,Y,Y,Y,Y,Y,Y,Y,Y,Y,Y,Y,Y,Y,Y,Y,Y,Z,Z,Z] rfl rfl (any_of HT_.out (by kernel_rfl)) (fun _ _ _ h => h) (Or.inr ⟨by rfl, rfl⟩) ?_ ?_
                          rotate_left
                          ·simp only [Act.put, sA, s0, sN, i64_w, i32_w]
                           rfl
                          refine pure_ (i := 39) (N := some 133) (v := undef) (a' := ?_) #[Y,Y,Y,Y,Y,Y,Y,Y,Y,Y,Y,Y,Y,Y,Y,Y,Y,Y,Y,Y,Y,Y,Y,Y,Y,Y,Y,Y,Y,Y,Y,Y,Y,Y,Y,Y,Y,Y,Y,Y,Z,Z] rfl rfl (any_of HT_.out (by kernel_rfl)) (fun _ _ _ h => h) (Or.inr ⟨by rfl, rfl⟩) ?_ ?_
                          rotate_left
                          ·simp only [Act.put, sA, s0, sN, i64_w, i32_w]
                           rfl
                          refine pU 40 134 (v := ?_) (a' := ?_) #[Y,Y,Y,Y,Y,Y,Y,Y,Y,Y,Y,Y,Y,Y,Y,Y,Y,Y,Y,Y,Y,Y,Y,Y,Y,Y,Y,Y,Y,Y,Y,Y,Y,Y,Y,Y,Y,Y,Y,Y,Y,Z] HT_ rfl rfl (by kernel_rfl) ?_ ?_ ?_;rotate_left;(intro w';go_simp;with_reducible rfl);rotate_left;(simp only [Act.put, sA, s0, sN, i64_w, i32_w];rfl)
                          refine pU 41 135 (v := ?_) (a' := ?_) #[Y,Y,Y,Y,Y,Y,Y,Y,Y,Y,Y,Y,Y,Y,Y,Y,Y,Y,Y,Y,Y,Y,Y,Y,Y,Y,Y,Y,Y,Y,Y,Y,Y,Y,Y,Y,Y,Y,Y,Y,Y,Y] HT_ rfl rfl (by kernel_rfl) ?_ ?_ ?_;rotate_left;(intro w';go_simp;with_reducible rfl);rotate_left;(simp only [Act.put, sA, s0, sN, i64_w, i32_w];rfl)
                          refine done_ (done_of HT_.out (by kernel_rfl)) ?_
                          try go_wp2
                          go_roundg k4
                          case measure => have := HK1.out; have := HK2.out; have := HJ42.out; have := HK4.out; omega
                          case rel => exact ⟨(wrap64 (x13_4 + 1)), tR, H', ⟨by have := HK1.out; have := HK2.out; have := HJ42.out; have := HK4.out; omega⟩, ⟨rS HO_3.out⟩, ⟨rS HO_5.out⟩, ⟨rS HO_7.out⟩, ⟨rS HO_10.out⟩, ⟨rS HO_12.out⟩, ⟨rS HO_320002.out⟩, ⟨bS BK319.out⟩, ⟨bx⟩⟩
                         ·rw [if_neg c71] at H
                          have c71b0 : ((rd t343 x13_4) == (rd x10_2 x13_4)) = false := beq_eq_false_iff_ne.mpr c71
                          have c71b1 : ((rd t343 x13_4) != (rd x10_2 x13_4)) = true := bne_iff_ne.mpr c71
                          exact absurd H (by simp)
                        ·rw [if_neg c70] at H
                         exact absurd H (by simp)
                       ·rw [if_neg c69] at H
                        exact absurd H (by simp)
                      ·rw [if_neg c68] at H
                       have c68b0 : ((rd t324 x13_4) == (rd x320002_1 x13_4)) = false := beq_eq_false_iff_ne.mpr c68
                       have c68b1 : ((rd t324 x13_4) != (rd x320002_1 x13_4)) = true := bne_iff_ne.mpr c68
                       exact absurd H (by simp)
                     ·rw [if_neg c67] at H
                      exact absurd H (by simp)
                    ·rw [if_neg c66] at H
                     exact absurd H (by simp)
                   ·rw [if_neg c65] at H
                    exact absurd H (by simp)
                 ·rw [if_neg c56] at H
                  have c56b0 : decide (x13_4 < 4) = false := decide_eq_false c56
                  clear c56
                  have H' := Aside0.mk H
                  clear H
                  go_wp2
                  go_roundg k4
                  case measure => have := HK1.out; have := HK2.out; have := HJ42.out; have := HK4.out; omega
                  case rel => exact ⟨(x5_1), (wrap64 (x6_1 + 1)), (x320002_1), (.slice Ao19 x320002_1.length co19), tR, H', ⟨by have := HK1.out; have := HK2.out; have := HJ42.out; have := HK4.out; omega⟩, ⟨rS HO_3.out⟩, ⟨by (with_reducible repeat (first | apply Kd.R_alloc | apply Kd.R_drewN | apply Kd.R_drew)); exact Kd.R_mono HO_5.out (fun _ hk => hk.2.2.2)⟩, ⟨by (with_reducible repeat (first | apply Kd.R_alloc | apply Kd.R_drewN | apply Kd.R_drew)); exact Kd.R_mono HO_320002.out (fun _ hk => hk.1)⟩, ⟨bS BK319.out⟩, ⟨bx⟩⟩
           ·rw [if_neg c41] at H
            exact absurd H (by simp)
          ·rw [if_neg c40] at H
           exact absurd H (by simp)
      ·rw [if_neg c16] at H
       exact absurd H (by simp)
     ·rw [if_neg c12] at H
      exact absurd H (by simp)
    ·rw [if_neg c11] at H
     have c11b0 : decide (x6_1 < (t311.length : Int)) = false := decide_eq_false c11
     clear c11
     obtain rfl := Option.some.inj H
     obtain ⟨Ao75, co75, eo75⟩ := Kd.R_slice HO_3.out
     subst eo75
     go_wp2
     go_ret
     exact ⟨eR, bx⟩

/-- THE ONE PURE STATEMENT of laws_FnApplied. -/
def laws_FnApplied.Pure : Prop := ∀ (l0 : List Int), l0.length ≤ maxLen → ∃ k, laws_FnApplied.f k l0 = some true

end Go.Proofs.Ytdhifoacbpjpoaa.PFnApplied
