-- Written by myprint.py (a program of this session, over the kit's print): not trusted, Lean checks it.
import Derived.Test.YtbgpnendblmdaaaPFnJoinsx0
import Derived.Test.YtbgpnendblmdaaaPFnJoinsx3
import Derived.Test.YtbgpnendblmdaaaPFnJoinsx4
import Derived.Test.YtbgpnendblmdaaaPFnJoinsx5
import Derived.Test.YtbgpnendblmdaaaPFnJoinsx7
import Derived.Test.YtbgpnendblmdaaaPFnJoinsx8
namespace Go.Proofs.Ytbgpnendblmdaaa.PFnJoins
open Go.RowKit Go.Proofs.YtbgpnendblmdaaaW.PrintWords Go.Proofs.YtbgpnendblmdaaaW.PrintLast Go.Proofs.YtbgpnendblmdaaaW.PrintMore
attribute [local go_sem] max2_int min2_int max_two min_two max_three min_three max_four min_four   -- for this text's walks alone
set_option linter.unusedVariables false
set_option linter.unusedSimpArgs false

/-! ### spec_FirstAfter: function 39 -/
def spec_FirstAfter.f (k : Nat) (l0 : List (S53)) (a1 : Int) : Option (Int) := (spec_AftersOf.f k l0 a1).bind fun t408 => ((spec_l08Others.f k t408 a1).bind fun t411 => ((spec_l08First.f k l0 t411).bind fun t414 => (some t414)))
theorem spec_FirstAfter.mono : ∀ a0 a1 k, LeO (spec_FirstAfter.f k a0 a1) (spec_FirstAfter.f (k + 1) a0 a1) := by
 intro a0 a1 k
 unfold spec_FirstAfter.f
 repeat' first
   | (with_reducible exact spec_AftersOf.mono _ _ _)
   | (with_reducible exact spec_l08First.mono _ _ _)
   | (with_reducible exact spec_l08Others.mono _ _ _)
   | (with_reducible exact LeO.refl _)
   | (with_reducible exact LeO.none _)
   | (with_reducible refine LeO.ite ?_ ?_)
   | (with_reducible refine LeO.bind ?_ (fun _ => ?_))
   | exact spec_AftersOf.mono _ _ _
   | exact spec_l08First.mono _ _ _
   | exact spec_l08Others.mono _ _ _
   | exact LeO.none _
   | refine LeO.ite ?_ ?_
   | refine LeO.bind ?_ (fun _ => ?_)
set_option maxHeartbeats 8000000 in
set_option maxRecDepth 100000 in
theorem spec_FirstAfter.calls (k : Nat) (A0 : Option Addr) (c0 : Nat) (l0 : List (S53)) (a1 : Int) (r : Int) (w : World) (hr0 : Kd.C k53 w A0 l0.length l0) (hc0 : l0.length ≤ c0) (h : spec_FirstAfter.f k l0 a1 = some r) :
  Calls Try.prog 39 #[.slice A0 l0.length c0, .int .i64 a1] w fun e w' => e = .returned (.int .i64 r) ∧ Below w.heap.size w w' := by
 have HR0 := Aside0.mk hr0
 have HC0 := Aside0.mk hc0
 clear hr0 hc0
 have HB := Aside0.mk (Below.refl w.heap.size w)
 have H : ((spec_AftersOf.f k l0 a1).bind fun t408 => ((spec_l08Others.f k t408 a1).bind fun t411 => ((spec_l08First.f k l0 t411).bind fun t414 => (some t414)))) = some r := h
 clear h
 replace H := Option.bind_eq_some_iff.mp H
 obtain ⟨t408, A30, H⟩ := H
 replace H : ((spec_l08Others.f k t408 a1).bind fun t411 => ((spec_l08First.f k l0 t411).bind fun t414 => (some t414))) = some r := H
 have A3 := Aside0.mk A30
 clear A30
 replace H := Option.bind_eq_some_iff.mp H
 obtain ⟨t411, A40, H⟩ := H
 replace H : ((spec_l08First.f k l0 t411).bind fun t414 => (some t414)) = some r := H
 have A4 := Aside0.mk A40
 clear A40
 replace H := Option.bind_eq_some_iff.mp H
 obtain ⟨t414, A50, H⟩ := H
 replace H : (some t414) = some r := H
 have A5 := Aside0.mk A50
 clear A50
 obtain rfl := Option.some.inj H
 go_enter Try.func39, Try.ntmps39
 go_wp2_with (first | ((with_reducible refine gate_callee (f := 31) rfl ?_); refine gL (some 8) Try.func31 #[.slice A0 l0.length c0, .int .i64 a1] ?_; (with_reducible refine (spec_AftersOf.calls k _ _ l0 a1 t408 _ ?side1 ?side2 A3.out).mono ?_); (case side1 => exact cS HR0.out); (case side2 => exact HC0.out); rintro e w6 ⟨v409, rfl, ho0, hb⟩; refine ⟨_, rfl, ?_⟩; have HO410 := Aside0.mk (Kd.R_lower ho0 (below_size bw)); replace HB := Aside0.mk (below_step bw hb); (try clear hb); (try clear ho0); obtain ⟨Ao7, co7, eo7⟩ := Kd.R_slice HO410.out; subst eo7) | ((with_reducible refine gate_callee (f := 69) rfl ?_); refine gL (some 10) Try.func69 #[.slice Ao7 t408.length co7, .int .i64 a1] ?_; (with_reducible refine (spec_l08Others.calls k _ _ t408 a1 t411 _ ?side1 ?side2 A4.out).mono ?_); (case side1 => exact cS (Kd.R_reads' HO410.out).2.2); (case side2 => exact (Kd.R_reads' HO410.out).2.1); rintro e w8 ⟨v412, rfl, ho0, hb⟩; refine ⟨_, rfl, ?_⟩; have HO413 := Aside0.mk (Kd.R_lower (Kd.R_new' ho0 (Kd.R_lt (rS HO410.out))) (below_size bw)); replace HO410 := Aside0.mk (Kd.R_elder' (rS HO410.out) (Kd.R_base ho0) hb); replace HB := Aside0.mk (below_step bw hb); (try clear hb); (try clear ho0); obtain ⟨Ao9, co9, eo9⟩ := Kd.R_slice HO413.out; subst eo9) | ((with_reducible refine gate_callee (f := 68) rfl ?_); refine gL (some 11) Try.func68 #[.slice A0 l0.length c0, .slice Ao9 t411.length co9] ?_; (with_reducible refine (spec_l08First.calls k _ _ l0 _ _ t411 t414 _ ?side1 ?side2 ?side3 ?side4 A5.out).mono ?_); (case side1 => repeat (first | exact (Kd.C_below HR0.out HB.out) | (with_reducible refine Kd.C_alloc ?_ _) | (with_reducible refine Kd.C_drewN ?_ _) | (with_reducible refine Kd.C_drew ?_))); (case side2 => exact HC0.out); (case side3 => exact cS (Kd.R_reads' HO413.out).2.2); (case side4 => exact (Kd.R_reads' HO413.out).2.1); rintro e w10 ⟨rfl, hb⟩; refine ⟨_, rfl, ?_⟩; replace HO410 := Aside0.mk (Kd.R_below (rS HO410.out) hb); replace HO413 := Aside0.mk (Kd.R_below (rS HO413.out) hb); replace HB := Aside0.mk (below_step bw hb); (try clear hb)))
 go_ret
 exact ⟨eR, bw⟩

/-! ### spec_l09Join: function 49 -/
def spec_l09Join.f (k : Nat) (l0 : List (S53)) (a1 : Int) : Option (Int) := (spec_ReachesExit.f k l0 (wrap64 (a1 + 1))).bind fun t415 => (if t415 = true then (if 0 ≤ a1 then (if a1 < (l0.length : Int) then ((spec_ReachesExit.f k l0 ((rd_T53 l0 a1).f2)).bind fun t417 => (if t417 = true then ((spec_FirstAfter.f k l0 a1).bind fun t418 => (some t418)) else (some (l0.length : Int)))) else (none)) else (none)) else (some (l0.length : Int)))
theorem spec_l09Join.mono : ∀ a0 a1 k, LeO (spec_l09Join.f k a0 a1) (spec_l09Join.f (k + 1) a0 a1) := by
 intro a0 a1 k
 unfold spec_l09Join.f
 repeat' first
   | (with_reducible exact spec_FirstAfter.mono _ _ _)
   | (with_reducible exact spec_ReachesExit.mono _ _ _)
   | (with_reducible exact LeO.refl _)
   | (with_reducible exact LeO.none _)
   | (with_reducible refine LeO.ite ?_ ?_)
   | (with_reducible refine LeO.bind ?_ (fun _ => ?_))
   | exact spec_FirstAfter.mono _ _ _
   | exact spec_ReachesExit.mono _ _ _
   | exact LeO.none _
   | refine LeO.ite ?_ ?_
   | refine LeO.bind ?_ (fun _ => ?_)
set_option maxHeartbeats 8000000 in
set_option maxRecDepth 100000 in
theorem spec_l09Join.calls (k : Nat) (A0 : Option Addr) (c0 : Nat) (l0 : List (S53)) (a1 : Int) (r : Int) (w : World) (hr0 : Kd.C k53 w A0 l0.length l0) (hc0 : l0.length ≤ c0) (h : spec_l09Join.f k l0 a1 = some r) :
  Calls Try.prog 49 #[.slice A0 l0.length c0, .int .i64 a1] w fun e w' => e = .returned (.int .i64 r) ∧ Below w.heap.size w w' := by
 have HR0 := Aside0.mk hr0
 have HC0 := Aside0.mk hc0
 clear hr0 hc0
 have HB := Aside0.mk (Below.refl w.heap.size w)
 have H : ((spec_ReachesExit.f k l0 (wrap64 (a1 + 1))).bind fun t415 => (if t415 = true then (if 0 ≤ a1 then (if a1 < (l0.length : Int) then ((spec_ReachesExit.f k l0 ((rd_T53 l0 a1).f2)).bind fun t417 => (if t417 = true then ((spec_FirstAfter.f k l0 a1).bind fun t418 => (some t418)) else (some (l0.length : Int)))) else (none)) else (none)) else (some (l0.length : Int)))) = some r := h
 clear h
 replace H := Option.bind_eq_some_iff.mp H
 obtain ⟨t415, A30, H⟩ := H
 replace H : (if t415 = true then (if 0 ≤ a1 then (if a1 < (l0.length : Int) then ((spec_ReachesExit.f k l0 ((rd_T53 l0 a1).f2)).bind fun t417 => (if t417 = true then ((spec_FirstAfter.f k l0 a1).bind fun t418 => (some t418)) else (some (l0.length : Int)))) else (none)) else (none)) else (some (l0.length : Int))) = some r := H
 have A3 := Aside0.mk A30
 clear A30
 by_cases c4 : t415 = true
 ·subst c4
  have H1 : (if 0 ≤ a1 then (if a1 < (l0.length : Int) then ((spec_ReachesExit.f k l0 ((rd_T53 l0 a1).f2)).bind fun t417 => (if t417 = true then ((spec_FirstAfter.f k l0 a1).bind fun t418 => (some t418)) else (some (l0.length : Int)))) else (none)) else (none)) = some r := by rw [if_pos rfl] at H; exact H
  clear H
  have H := H1
  clear H1
  by_cases c5 : 0 ≤ a1
  ·rw [if_pos c5] at H
   have c5b0 : decide (0 ≤ a1) = true := decide_eq_true c5
   clear c5
   by_cases c6 : a1 < (l0.length : Int)
   ·rw [if_pos c6] at H
    have c6b0 : decide (a1 < (l0.length : Int)) = true := decide_eq_true c6
    clear c6
    replace H := Option.bind_eq_some_iff.mp H
    obtain ⟨t417, A70, H⟩ := H
    replace H : (if t417 = true then ((spec_FirstAfter.f k l0 a1).bind fun t418 => (some t418)) else (some (l0.length : Int))) = some r := H
    have A7 := Aside0.mk A70
    clear A70
    by_cases c8 : t417 = true
    ·subst c8
     have H1 : ((spec_FirstAfter.f k l0 a1).bind fun t418 => (some t418)) = some r := by rw [if_pos rfl] at H; exact H
     clear H
     have H := H1
     clear H1
     replace H := Option.bind_eq_some_iff.mp H
     obtain ⟨t418, A90, H⟩ := H
     replace H : (some t418) = some r := H
     have A9 := Aside0.mk A90
     clear A90
     obtain rfl := Option.some.inj H
     go_enter Try.func49, Try.ntmps49
     go_wp2_with (first | ((with_reducible refine gate_callee (f := 64) rfl ?_); refine gL (some 8) Try.func64 #[.slice A0 l0.length c0, .int .i64 (wrap64 (a1 + 1))] ?_; (with_reducible refine (spec_ReachesExit.calls k _ _ l0 (wrap64 (a1 + 1)) true _ ?side1 ?side2 A3.out).mono ?_); (case side1 => exact cS HR0.out); (case side2 => exact HC0.out); rintro e w10 ⟨rfl, hb⟩; refine ⟨_, rfl, ?_⟩; replace HB := Aside0.mk (below_step bw hb); (try clear hb); have p416 : 0 ≤ (a1 : Int) := dT; have q416 : a1 < (l0.length : Int) := dT; obtain ⟨ad416, e416, hx416_0, hx416_1, hx416_2, hx416_3⟩ := at_T53 HR0.out a1 p416 q416; cases e416; replace hx416_0 := (HB.out.cell (World.block_lt_of_cell? w _ hx416_0)).trans hx416_0; replace hx416_1 := (HB.out.cell (World.block_lt_of_cell? w _ hx416_1)).trans hx416_1; replace hx416_2 := (HB.out.cell (World.block_lt_of_cell? w _ hx416_2)).trans hx416_2; replace hx416_3 := (HB.out.cell (World.block_lt_of_cell? w _ hx416_3)).trans hx416_3; replace p416 := eq_true p416; replace q416 := eq_true q416) | (go_at_call 64; (with_reducible refine (spec_ReachesExit.calls k _ _ l0 ((rd_T53 l0 a1).f2) true _ ?side1 ?side2 A7.out).mono ?_); (case side1 => repeat (first | exact (Kd.C_below HR0.out HB.out) | (with_reducible refine Kd.C_alloc ?_ _) | (with_reducible refine Kd.C_drewN ?_ _) | (with_reducible refine Kd.C_drew ?_))); (case side2 => exact HC0.out); rintro e w11 ⟨rfl, hb⟩; replace HB := Aside0.mk (below_step bw hb); (try clear hb)) | ((with_reducible refine gate_callee (f := 39) rfl ?_); refine gL (some 24) Try.func39 #[.slice (some ad416) l0.length c0, .int .i64 a1] ?_; (with_reducible refine (spec_FirstAfter.calls k _ _ l0 a1 t418 _ ?side1 ?side2 A9.out).mono ?_); (case side1 => repeat (first | exact (Kd.C_below HR0.out HB.out) | (with_reducible refine Kd.C_alloc ?_ _) | (with_reducible refine Kd.C_drewN ?_ _) | (with_reducible refine Kd.C_drew ?_))); (case side2 => exact HC0.out); rintro e w12 ⟨rfl, hb⟩; refine ⟨_, rfl, ?_⟩; replace HB := Aside0.mk (below_step bw hb); (try clear hb)))
     go_ret
     exact ⟨eR, bw⟩
    ·replace c8 := Bool.eq_false_iff.mpr c8
     subst c8
     have H1 : (some (l0.length : Int)) = some r := by rw [if_neg (show ¬ (false = true) by decide)] at H; exact H
     clear H
     have H := H1
     clear H1
     obtain rfl := Option.some.inj H
     go_enter Try.func49, Try.ntmps49
     go_wp2_with (first | ((with_reducible refine gate_callee (f := 64) rfl ?_); refine gL (some 8) Try.func64 #[.slice A0 l0.length c0, .int .i64 (wrap64 (a1 + 1))] ?_; (with_reducible refine (spec_ReachesExit.calls k _ _ l0 (wrap64 (a1 + 1)) true _ ?side1 ?side2 A3.out).mono ?_); (case side1 => exact cS HR0.out); (case side2 => exact HC0.out); rintro e w13 ⟨rfl, hb⟩; refine ⟨_, rfl, ?_⟩; replace HB := Aside0.mk (below_step bw hb); (try clear hb); have p416 : 0 ≤ (a1 : Int) := dT; have q416 : a1 < (l0.length : Int) := dT; obtain ⟨ad416, e416, hx416_0, hx416_1, hx416_2, hx416_3⟩ := at_T53 HR0.out a1 p416 q416; cases e416; replace hx416_0 := (HB.out.cell (World.block_lt_of_cell? w _ hx416_0)).trans hx416_0; replace hx416_1 := (HB.out.cell (World.block_lt_of_cell? w _ hx416_1)).trans hx416_1; replace hx416_2 := (HB.out.cell (World.block_lt_of_cell? w _ hx416_2)).trans hx416_2; replace hx416_3 := (HB.out.cell (World.block_lt_of_cell? w _ hx416_3)).trans hx416_3; replace p416 := eq_true p416; replace q416 := eq_true q416) | (go_at_call 64; (with_reducible refine (spec_ReachesExit.calls k _ _ l0 ((rd_T53 l0 a1).f2) false _ ?side1 ?side2 A7.out).mono ?_); (case side1 => repeat (first | exact (Kd.C_below HR0.out HB.out) | (with_reducible refine Kd.C_alloc ?_ _) | (with_reducible refine Kd.C_drewN ?_ _) | (with_reducible refine Kd.C_drew ?_))); (case side2 => exact HC0.out); rintro e w14 ⟨rfl, hb⟩; replace HB := Aside0.mk (below_step bw hb); (try clear hb)))
     go_ret
     exact ⟨eR, bw⟩
   ·rw [if_neg c6] at H
    exact absurd H (by simp)
  ·rw [if_neg c5] at H
   exact absurd H (by simp)
 ·replace c4 := Bool.eq_false_iff.mpr c4
  subst c4
  have H1 : (some (l0.length : Int)) = some r := by rw [if_neg (show ¬ (false = true) by decide)] at H; exact H
  clear H
  have H := H1
  clear H1
  obtain rfl := Option.some.inj H
  go_enter Try.func49, Try.ntmps49
  go_wp2_with (first | ((with_reducible refine gate_callee (f := 64) rfl ?_); refine gL (some 8) Try.func64 #[.slice A0 l0.length c0, .int .i64 (wrap64 (a1 + 1))] ?_; (with_reducible refine (spec_ReachesExit.calls k _ _ l0 (wrap64 (a1 + 1)) false _ ?side1 ?side2 A3.out).mono ?_); (case side1 => exact cS HR0.out); (case side2 => exact HC0.out); rintro e w15 ⟨rfl, hb⟩; refine ⟨_, rfl, ?_⟩; replace HB := Aside0.mk (below_step bw hb); (try clear hb)))
  go_ret
  exact ⟨eR, bw⟩

/-! ### spec_JoinsOf: function 18 -/
def spec_JoinsOf.l0 : Nat → List (S53) → List Int → List Int → Int → Option (List Int)
 | 0, _, _, _, _ => none
 | k + 1, x0, x3, x4, x5 => if x5 < (x4.length : Int) then (if 0 ≤ x5 then ((spec_l09Join.f k x0 (rd x4 x5)).bind fun t426 => (if x3.length < 17592186044416 then (spec_JoinsOf.l0 k x0 (x3 ++ [t426]) x4 (wrap64 (x5 + 1))) else (none))) else (none)) else (some x3)
def spec_JoinsOf.f (k : Nat) (l0 : List (S53)) : Option (List Int) := (spec_BranchesOf.f k l0).bind fun t422 => (spec_JoinsOf.l0 k l0 (([] : List Int)) t422 0)
theorem spec_JoinsOf.mono_l : ∀ k, (∀ y0 y1 y2 y3, LeO (spec_JoinsOf.l0 k y0 y1 y2 y3) (spec_JoinsOf.l0 (k + 1) y0 y1 y2 y3))
 | 0 => fun _ _ _ _ r h => by simp [spec_JoinsOf.l0] at h
 | k + 1 => by
  have ih0 := spec_JoinsOf.mono_l k
  ·intro y0 y1 y2 y3
   unfold spec_JoinsOf.l0
   repeat' first
   | (with_reducible exact ih0 _ _ _ _)
   | (with_reducible exact spec_BranchesOf.mono _ _)
   | (with_reducible exact spec_l09Join.mono _ _ _)
   | (with_reducible exact LeO.refl _)
   | (with_reducible exact LeO.none _)
   | (with_reducible refine LeO.ite ?_ ?_)
   | (with_reducible refine LeO.bind ?_ (fun _ => ?_))
   | exact ih0 _ _ _ _
   | exact spec_BranchesOf.mono _ _
   | exact spec_l09Join.mono _ _ _
   | exact LeO.none _
   | refine LeO.ite ?_ ?_
   | refine LeO.bind ?_ (fun _ => ?_)
theorem spec_JoinsOf.mono : ∀ a0 k, LeO (spec_JoinsOf.f k a0) (spec_JoinsOf.f (k + 1) a0) := by
 intro a0 k
 have ih0 := spec_JoinsOf.mono_l k
 unfold spec_JoinsOf.f
 repeat' first
   | (with_reducible exact ih0 _ _ _ _)
   | (with_reducible exact spec_BranchesOf.mono _ _)
   | (with_reducible exact spec_l09Join.mono _ _ _)
   | (with_reducible exact LeO.refl _)
   | (with_reducible exact LeO.none _)
   | (with_reducible refine LeO.ite ?_ ?_)
   | (with_reducible refine LeO.bind ?_ (fun _ => ?_))
   | exact ih0 _ _ _ _
   | exact spec_BranchesOf.mono _ _
   | exact spec_l09Join.mono _ _ _
   | exact LeO.none _
   | refine LeO.ite ?_ ?_
   | refine LeO.bind ?_ (fun _ => ?_)
set_option maxHeartbeats 8000000 in
set_option maxRecDepth 100000 in
theorem spec_JoinsOf.calls (k : Nat) (A0 : Option Addr) (c0 : Nat) (l0 : List (S53)) (r : List Int) (w : World) (hr0 : Kd.C k53 w A0 l0.length l0) (hc0 : l0.length ≤ c0) (h : spec_JoinsOf.f k l0 = some r) :
  Calls Try.prog 18 #[.slice A0 l0.length c0] w fun e w' => ∃ v0_ : Value, e = .returned (v0_) ∧ Kd.R (Kd.int .i64) 3 w' w.heap.size (fun _ => True) v0_ r ∧ Below w.heap.size w w' := by
 have HR0 := Aside0.mk hr0
 have HC0 := Aside0.mk hc0
 clear hr0 hc0
 have HB := Aside0.mk (Below.refl w.heap.size w)
 have H : ((spec_BranchesOf.f k l0).bind fun t422 => (spec_JoinsOf.l0 k l0 (([] : List Int)) t422 0)) = some r := h
 clear h
 obtain ⟨y419, hy419⟩ : ∃ y_ : List Int, y_ = (([] : List Int)) := ⟨_, rfl⟩
 replace H : ((spec_BranchesOf.f k l0).bind fun t422 => (spec_JoinsOf.l0 k l0 y419 t422 0)) = some r := rP hy419 H
 have Ny419 := Aside0.mk hy419
 clear hy419
 replace H := Option.bind_eq_some_iff.mp H
 obtain ⟨t422, A20, H⟩ := H
 replace H : (spec_JoinsOf.l0 k l0 y419 t422 0) = some r := H
 have A2 := Aside0.mk A20
 clear A20
 have H' := Aside0.mk H
 clear H
 go_enter Try.func18, Try.ntmps18
 go_wp2_with (first | ((with_reducible refine gate_dst (N := 6) rfl ?_); refine Kd.R_lit (Kd.int .i64) _ 3 ?hg (N := 6) ?hd (xs := ([] : List Int)) (inner := []) (ok := fun _ => True) (okp := fun _ => True) ?hr ?hp (fun _ hk => hk) trivial (Below.refl _ _) (Nat.le_refl _) (by simp) ?_; (case hd => rfl); (case hg => rfl); (case hr => first | (go_simp; done) | (go_simp; rfl)); (case hp => exact (Reps.none _ _)); intro v420 w3 ho4 hb hg_ hnew_; clear hg_ hnew_; (first | rw [← Ny419.out] at ho4 | (simp only [Int.reduceToNat] at ho4; rw [← Ny419.out] at ho4)); have HO421 := Aside0.mk (Kd.R_lower ho4 (below_size bw)); replace HB := Aside0.mk (below_step bw hb); clear hb ho4) | ((with_reducible refine gate_callee (f := 27) rfl ?_); refine gL (some 8) Try.func27 #[.slice A0 l0.length c0] ?_; (with_reducible refine (spec_BranchesOf.calls k _ _ l0 t422 _ ?side1 ?side2 A2.out).mono ?_); (case side1 => repeat (first | exact (Kd.C_below HR0.out HB.out) | (with_reducible refine Kd.C_alloc ?_ _) | (with_reducible refine Kd.C_drewN ?_ _) | (with_reducible refine Kd.C_drew ?_))); (case side2 => exact HC0.out); rintro e w5 ⟨v423, rfl, ho0, hb⟩; refine ⟨_, rfl, ?_⟩; have HO424 := Aside0.mk (Kd.R_lower (Kd.R_new' ho0 (Kd.R_lt (rS HO421.out))) (below_size bw)); replace HO421 := Aside0.mk (Kd.R_elder' (rS HO421.out) (Kd.R_base ho0) hb); replace HB := Aside0.mk (below_step bw hb); (try clear hb); (try clear ho0)))
 go_loopg [3, 5] k (fun kq v3 v5 w' => ∃ (x3_1 : List Int) (x5_1 : Int), v5 = .int .i64 x5_1 ∧ Aside0 (spec_JoinsOf.l0 kq l0 x3_1 t422 x5_1 = some r) ∧ Aside0 (kq ≤ k) ∧ Aside0 (Kd.R (Kd.int .i64) 3 w' w.heap.size (fun k_ => some k_ ≠ (v423 : Value).ownBlock) v3 x3_1) ∧ Aside0 (Kd.R (Kd.int .i64) 3 w' w.heap.size (fun k_ => some k_ ≠ (v3 : Value).ownBlock) v423 t422) ∧ Aside0 (Below w.heap.size w w'))
 case atStart => exact ⟨(y419), (0), tR, H', ⟨Nat.le_refl _⟩, ⟨by (with_reducible repeat (first | apply Kd.R_alloc | apply Kd.R_drewN | apply Kd.R_drew)); exact Kd.R_mono HO421.out (fun _ hk => hk.2)⟩, ⟨by (with_reducible repeat (first | apply Kd.R_alloc | apply Kd.R_drewN | apply Kd.R_drew)); exact Kd.R_mono HO424.out (fun _ hk => hk.2)⟩, ⟨bw⟩⟩
 case round =>
  clear H'
  try clear c1;try clear c2;try clear p2
  obtain ⟨x3_1, x5_1, rfl, HA, HK1, HO_3, HO_4, HB⟩ := hrel
  cases gk with
  | zero => exact absurd HA.out (by simp [spec_JoinsOf.l0])
  | succ k1 =>
   have H := HA.out
   clear HA
   simp only [spec_JoinsOf.l0] at H
   by_cases c6 : x5_1 < (t422.length : Int)
   ·rw [if_pos c6] at H
    have c6b0 : decide (x5_1 < (t422.length : Int)) = true := decide_eq_true c6
    clear c6
    by_cases c7 : 0 ≤ x5_1
    ·rw [if_pos c7] at H
     have c7b0 : decide (0 ≤ x5_1) = true := decide_eq_true c7
     clear c7
     replace H := Option.bind_eq_some_iff.mp H
     obtain ⟨t426, A80, H⟩ := H
     replace H : (if x3_1.length < 17592186044416 then (spec_JoinsOf.l0 k1 l0 (x3_1 ++ [t426]) t422 (wrap64 (x5_1 + 1))) else (none)) = some r := H
     have A8 := Aside0.mk A80
     clear A80
     by_cases c9 : x3_1.length < 17592186044416
     ·rw [if_pos c9] at H
      have LMc9 := Aside0.mk c9
      clear c9
      obtain ⟨y427, hy427⟩ : ∃ y_ : List Int, y_ = (x3_1 ++ [t426]) := ⟨_, rfl⟩
      replace H : (spec_JoinsOf.l0 k1 l0 y427 t422 (wrap64 (x5_1 + 1))) = some r := rP hy427 H
      have Ny427 := Aside0.mk hy427
      clear hy427
      have H' := Aside0.mk H
      clear H
      obtain ⟨Ao10, co10, eo10⟩ := Kd.R_slice HO_4.out
      subst eo10
      have p425 : 0 ≤ (x5_1 : Int) := dT
      have q425 : x5_1 < (t422.length : Int) := dT
      obtain ⟨ad425, e425, hx425_0⟩ := Kd.at_int (Kd.R_reads' HO_4.out).2.2 x5_1 p425 q425
      cases e425
      replace p425 := eq_true p425
      replace q425 := eq_true q425
      go_wp2_with (first | ((with_reducible refine gate_callee (f := 49) rfl ?_); refine gL (some 21) Try.func49 #[.slice A0 l0.length c0, .int .i64 (rd t422 x5_1)] ?_; (with_reducible refine (spec_l09Join.calls k1 _ _ l0 (rd t422 x5_1) t426 _ ?side1 ?side2 A8.out).mono ?_); (case side1 => repeat (first | exact (Kd.C_below HR0.out HB.out) | (with_reducible refine Kd.C_alloc ?_ _) | (with_reducible refine Kd.C_drewN ?_ _) | (with_reducible refine Kd.C_drew ?_))); (case side2 => exact HC0.out); rintro e w11 ⟨rfl, hb⟩; refine ⟨_, rfl, ?_⟩; replace HO_3 := Aside0.mk (Kd.R_below (rS HO_3.out) hb); replace HO_4 := Aside0.mk (Kd.R_below (rS HO_4.out) hb); replace HB := Aside0.mk (below_step bw hb); (try clear hb)) | ((with_reducible refine gate_builtin (b := .append) (xs := #[.tmp 15, .tmp 22]) rfl ?_); at_builtin; refine Kd.R_append (Kd.int .i64) (w0 := w) w.heap.size rfl (.tmp 15) (.tmp 22) 26 3 (.int .i64 0) 8 rfl Try.underlying26 info3 rfl (by decide) (by omega) u3 x3_1 t426 [.int .i64 t426] (fun k_ => some k_ ≠ (.slice (some ad425) t422.length co10 : Value).ownBlock) (fun _ => False) rfl rfl ?aP (fun _ hk => hk.elim) ?aF ?aO ?aB ?aS ?aL ?_; (case aP => exact rfl); (case aB => exact bw); (case aF => exact (fun k_ hk => Kd.fresh' (Kd.R_lt (rS HO_4.out)) k_ hk)); (case aO => exact (rS HO_3.out)); (case aS => exact (below_size bw)); (case aL => have := LMc9.out; omega); intro v428 w12 ho hb hg hat; rw [← Ny427.out] at ho; replace HO_4 := Aside0.mk (Kd.R_after (ok := (fun _ => True)) (by (with_reducible repeat (first | apply Kd.R_alloc | apply Kd.R_drewN | apply Kd.R_drew)); exact Kd.R_mono HO_4.out (fun _ hk => ⟨trivial, hk⟩)) hg hat); replace HB := Aside0.mk (hb); have HO429 := Aside0.mk (ho); clear HO_3; clear ho hb hg hat))
      go_roundg k1
      case measure => have := HK1.out; omega
      case rel => exact ⟨(y427), (wrap64 (x5_1 + 1)), tR, H', ⟨by have := HK1.out; omega⟩, ⟨rS HO429.out⟩, ⟨by (with_reducible repeat (first | apply Kd.R_alloc | apply Kd.R_drewN | apply Kd.R_drew)); exact Kd.R_mono HO_4.out (fun _ hk => hk.2)⟩, ⟨bw⟩⟩
     ·rw [if_neg c9] at H
      exact absurd H (by simp)
    ·rw [if_neg c7] at H
     exact absurd H (by simp)
   ·rw [if_neg c6] at H
    have c6b0 : decide (x5_1 < (t422.length : Int)) = false := decide_eq_false c6
    clear c6
    obtain rfl := Option.some.inj H
    obtain ⟨Ao13, co13, eo13⟩ := Kd.R_slice HO_4.out
    subst eo13
    go_wp2
    go_ret
    exact ⟨_, eR, by (with_reducible repeat (first | apply Kd.R_alloc | apply Kd.R_drewN | apply Kd.R_drew)); exact Kd.R_mono HO_3.out (fun _ hk => trivial), bw⟩

/-! ### impl_NextOf: function 19 -/
def impl_NextOf.f (k : Nat) (l0 : List (S53)) (a1 : Int) : Option (List Int) := (impl_isNode.f l0 a1).bind fun t430 => (if t430 = true then ((impl_next.f k l0 a1).bind fun t431 => (some t431)) else (some ([] : List Int)))
theorem impl_NextOf.mono : ∀ a0 a1 k, LeO (impl_NextOf.f k a0 a1) (impl_NextOf.f (k + 1) a0 a1) := by
 intro a0 a1 k
 unfold impl_NextOf.f
 repeat' first
   | (with_reducible exact impl_next.mono _ _ _)
   | (with_reducible exact LeO.refl _)
   | (with_reducible exact LeO.none _)
   | (with_reducible refine LeO.ite ?_ ?_)
   | (with_reducible refine LeO.bind ?_ (fun _ => ?_))
   | exact impl_next.mono _ _ _
   | exact LeO.none _
   | refine LeO.ite ?_ ?_
   | refine LeO.bind ?_ (fun _ => ?_)
set_option maxHeartbeats 8000000 in
set_option maxRecDepth 100000 in
theorem impl_NextOf.calls (k : Nat) (A0 : Option Addr) (c0 : Nat) (l0 : List (S53)) (a1 : Int) (r : List Int) (w : World) (hr0 : Kd.C k53 w A0 l0.length l0) (hc0 : l0.length ≤ c0) (h : impl_NextOf.f k l0 a1 = some r) :
  Calls Try.prog 19 #[.slice A0 l0.length c0, .int .i64 a1] w fun e w' => ∃ v0_ : Value, e = .returned (v0_) ∧ Kd.R (Kd.int .i64) 3 w' w.heap.size (fun _ => True) v0_ r ∧ Below w.heap.size w w' := by
 have HR0 := Aside0.mk hr0
 have HC0 := Aside0.mk hc0
 clear hr0 hc0
 have HB := Aside0.mk (Below.refl w.heap.size w)
 have H : ((impl_isNode.f l0 a1).bind fun t430 => (if t430 = true then ((impl_next.f k l0 a1).bind fun t431 => (some t431)) else (some ([] : List Int)))) = some r := h
 clear h
 replace H := Option.bind_eq_some_iff.mp H
 obtain ⟨t430, A30, H⟩ := H
 replace H : (if t430 = true then ((impl_next.f k l0 a1).bind fun t431 => (some t431)) else (some ([] : List Int))) = some r := H
 have A3 := Aside0.mk A30
 clear A30
 by_cases c4 : t430 = true
 ·subst c4
  have H1 : ((impl_next.f k l0 a1).bind fun t431 => (some t431)) = some r := by rw [if_pos rfl] at H; exact H
  clear H
  have H := H1
  clear H1
  replace H := Option.bind_eq_some_iff.mp H
  obtain ⟨t431, A50, H⟩ := H
  replace H : (some t431) = some r := H
  have A5 := Aside0.mk A50
  clear A50
  obtain rfl := Option.some.inj H
  go_enter Try.func19, Try.ntmps19
  go_wp2_with (first | ((with_reducible refine gate_callee (f := 50) rfl ?_); refine gL (some 7) Try.func50 #[.slice A0 l0.length c0, .int .i64 a1] ?_; (with_reducible refine (impl_isNode.calls _ _ l0 a1 true _ ?side1 ?side2 A3.out).mono ?_); (case side1 => exact cS HR0.out); (case side2 => exact HC0.out); rintro e w6 ⟨rfl, hb⟩; refine ⟨_, rfl, ?_⟩; replace HB := Aside0.mk (below_step bw hb); (try clear hb)) | ((with_reducible refine gate_callee (f := 48) rfl ?_); refine gL (some 11) Try.func48 #[.slice A0 l0.length c0, .int .i64 a1] ?_; (with_reducible refine (impl_next.calls k _ _ l0 a1 t431 _ ?side1 ?side2 A5.out).mono ?_); (case side1 => repeat (first | exact (Kd.C_below HR0.out HB.out) | (with_reducible refine Kd.C_alloc ?_ _) | (with_reducible refine Kd.C_drewN ?_ _) | (with_reducible refine Kd.C_drew ?_))); (case side2 => exact HC0.out); rintro e w7 ⟨v432, rfl, ho0, hb⟩; refine ⟨_, rfl, ?_⟩; have HO433 := Aside0.mk (Kd.R_lower ho0 (below_size bw)); replace HB := Aside0.mk (below_step bw hb); (try clear hb); (try clear ho0)))
  go_ret
  exact ⟨_, eR, rS HO433.out, bw⟩
 ·replace c4 := Bool.eq_false_iff.mpr c4
  subst c4
  have H1 : (some ([] : List Int)) = some r := by rw [if_neg (show ¬ (false = true) by decide)] at H; exact H
  clear H
  have H := H1
  clear H1
  obtain rfl := Option.some.inj H
  go_enter Try.func19, Try.ntmps19
  go_wp2_with (first | ((with_reducible refine gate_callee (f := 50) rfl ?_); refine gL (some 7) Try.func50 #[.slice A0 l0.length c0, .int .i64 a1] ?_; (with_reducible refine (impl_isNode.calls _ _ l0 a1 false _ ?side1 ?side2 A3.out).mono ?_); (case side1 => exact cS HR0.out); (case side2 => exact HC0.out); rintro e w8 ⟨rfl, hb⟩; refine ⟨_, rfl, ?_⟩; replace HB := Aside0.mk (below_step bw hb); (try clear hb)))
  go_ret
  exact ⟨_, eR, by first | exact Kd.R_nil _ _ _ _ _ | exact Kd.N_nil _ _ _ _ _ | exact Kd.V_nil _ _ _ _ _ | exact Kd.Q_nil _ _ _ _ _ | exact Kd.S_nil _ _ _ _ _, bw⟩

/-! ### impl_trues: function 52 -/
def impl_trues.l0 : Nat → List Int → List Bool → Int → Int → Option (List Int)
 | 0, _, _, _, _ => none
 | k + 1, x3, x7, x8, x9 => if x9 < x8 then (if 0 ≤ x9 then (if x9 < (x7.length : Int) then (if rdOf false x7 x9 = true then (if x3.length < 17592186044416 then (impl_trues.l0 k (x3 ++ [x9]) x7 x8 (wrap64 (x9 + 1))) else (none)) else (impl_trues.l0 k x3 x7 x8 (wrap64 (x9 + 1)))) else (none)) else (none)) else (some x3)
def impl_trues.f (k : Nat) (l0 : List Bool) : Option (List Int) := impl_trues.l0 k (([] : List Int)) l0 (l0.length : Int) 0
theorem impl_trues.mono_l : ∀ k, (∀ y0 y1 y2 y3, LeO (impl_trues.l0 k y0 y1 y2 y3) (impl_trues.l0 (k + 1) y0 y1 y2 y3))
 | 0 => fun _ _ _ _ r h => by simp [impl_trues.l0] at h
 | k + 1 => by
  have ih0 := impl_trues.mono_l k
  ·intro y0 y1 y2 y3
   unfold impl_trues.l0
   repeat' first
   | (with_reducible exact ih0 _ _ _ _)
   | (with_reducible exact LeO.refl _)
   | (with_reducible exact LeO.none _)
   | (with_reducible refine LeO.ite ?_ ?_)
   | (with_reducible refine LeO.bind ?_ (fun _ => ?_))
   | exact ih0 _ _ _ _
   | exact LeO.none _
   | refine LeO.ite ?_ ?_
   | refine LeO.bind ?_ (fun _ => ?_)
theorem impl_trues.mono : ∀ a0 k, LeO (impl_trues.f k a0) (impl_trues.f (k + 1) a0) := by
 intro a0 k
 have ih0 := impl_trues.mono_l k
 unfold impl_trues.f
 repeat' first
   | (with_reducible exact ih0 _ _ _ _)
   | (with_reducible exact LeO.refl _)
   | (with_reducible exact LeO.none _)
   | (with_reducible refine LeO.ite ?_ ?_)
   | (with_reducible refine LeO.bind ?_ (fun _ => ?_))
   | exact ih0 _ _ _ _
   | exact LeO.none _
   | refine LeO.ite ?_ ?_
   | refine LeO.bind ?_ (fun _ => ?_)
set_option maxHeartbeats 8000000 in
set_option maxRecDepth 100000 in
theorem impl_trues.calls (k : Nat) (A0 : Option Addr) (c0 : Nat) (l0 : List Bool) (r : List Int) (w : World) (hr0 : Kd.C Kd.bool w A0 l0.length l0) (hc0 : l0.length ≤ c0) (h : impl_trues.f k l0 = some r) :
  Calls Try.prog 52 #[.slice A0 l0.length c0] w fun e w' => ∃ v0_ : Value, e = .returned (v0_) ∧ Kd.R (Kd.int .i64) 3 w' w.heap.size (fun _ => True) v0_ r ∧ Below w.heap.size w w' := by
 have HR0 := Aside0.mk hr0
 have HC0 := Aside0.mk hc0
 clear hr0 hc0
 have HB := Aside0.mk (Below.refl w.heap.size w)
 have H : (impl_trues.l0 k (([] : List Int)) l0 (l0.length : Int) 0) = some r := h
 clear h
 obtain ⟨y434, hy434⟩ : ∃ y_ : List Int, y_ = (([] : List Int)) := ⟨_, rfl⟩
 replace H : (impl_trues.l0 k y434 l0 (l0.length : Int) 0) = some r := rP hy434 H
 have Ny434 := Aside0.mk hy434
 clear hy434
 have H' := Aside0.mk H
 clear H
 go_enter Try.func52, Try.ntmps52
 go_wp2_with (first | ((with_reducible refine gate_dst (N := 6) rfl ?_); refine Kd.R_lit (Kd.int .i64) _ 3 ?hg (N := 6) ?hd (xs := ([] : List Int)) (inner := []) (ok := fun _ => True) (okp := fun _ => True) ?hr ?hp (fun _ hk => hk) trivial (Below.refl _ _) (Nat.le_refl _) (by simp) ?_; (case hd => rfl); (case hg => rfl); (case hr => first | (go_simp; done) | (go_simp; rfl)); (case hp => exact (Reps.none _ _)); intro v435 w2 ho3 hb hg_ hnew_; clear hg_ hnew_; (first | rw [← Ny434.out] at ho3 | (simp only [Int.reduceToNat] at ho3; rw [← Ny434.out] at ho3)); have HO436 := Aside0.mk (Kd.R_lower ho3 (below_size bw)); replace HB := Aside0.mk (below_step bw hb); clear hb ho3))
 go_loopg [3, 9] k (fun kq v3 v9 w' => ∃ (x3_1 : List Int) (x9_1 : Int), v9 = .int .i64 x9_1 ∧ Aside0 (impl_trues.l0 kq x3_1 l0 (l0.length : Int) x9_1 = some r) ∧ Aside0 (kq ≤ k) ∧ Aside0 (Kd.R (Kd.int .i64) 3 w' w.heap.size (fun _ => True) v3 x3_1) ∧ Aside0 (Below w.heap.size w w'))
 case atStart => exact ⟨(y434), (0), tR, H', ⟨Nat.le_refl _⟩, ⟨rS HO436.out⟩, ⟨bw⟩⟩
 case round =>
  clear H'
  try clear p2
  obtain ⟨x3_1, x9_1, rfl, HA, HK1, HO_3, HB⟩ := hrel
  cases gk with
  | zero => exact absurd HA.out (by simp [impl_trues.l0])
  | succ k1 =>
   have H := HA.out
   clear HA
   simp only [impl_trues.l0] at H
   by_cases c4 : x9_1 < (l0.length : Int)
   ·rw [if_pos c4] at H
    have c4b0 : decide (x9_1 < (l0.length : Int)) = true := decide_eq_true c4
    clear c4
    by_cases c5 : 0 ≤ x9_1
    ·rw [if_pos c5] at H
     have c5b0 : decide (0 ≤ x9_1) = true := decide_eq_true c5
     clear c5
     by_cases c6 : x9_1 < (l0.length : Int)
     ·rw [if_pos c6] at H
      have c6b0 : decide (x9_1 < (l0.length : Int)) = true := decide_eq_true c6
      clear c6
      obtain ⟨bq7, hbq7⟩ : ∃ b_ : Bool, b_ = (rdOf false l0 x9_1) := ⟨_, rfl⟩
      replace H : (if bq7 = true then (if x3_1.length < 17592186044416 then (impl_trues.l0 k1 (x3_1 ++ [x9_1]) l0 (l0.length : Int) (wrap64 (x9_1 + 1))) else (none)) else (impl_trues.l0 k1 x3_1 l0 (l0.length : Int) (wrap64 (x9_1 + 1)))) = some r := by rw [← hbq7] at H; exact H
      have Nbq7 := Aside0.mk hbq7
      clear hbq7
      by_cases c8 : bq7 = true
      ·subst c8
       have H1 : (if x3_1.length < 17592186044416 then (impl_trues.l0 k1 (x3_1 ++ [x9_1]) l0 (l0.length : Int) (wrap64 (x9_1 + 1))) else (none)) = some r := by rw [if_pos rfl] at H; exact H
       clear H
       have H := H1
       clear H1
       by_cases c9 : x3_1.length < 17592186044416
       ·rw [if_pos c9] at H
        have LMc9 := Aside0.mk c9
        clear c9
        obtain ⟨y438, hy438⟩ : ∃ y_ : List Int, y_ = (x3_1 ++ [x9_1]) := ⟨_, rfl⟩
        replace H : (impl_trues.l0 k1 y438 l0 (l0.length : Int) (wrap64 (x9_1 + 1))) = some r := rP hy438 H
        have Ny438 := Aside0.mk hy438
        clear hy438
        have H' := Aside0.mk H
        clear H
        have p437 : 0 ≤ (x9_1 : Int) := dT
        have q437 : x9_1 < (l0.length : Int) := dT
        obtain ⟨ad437, e437, hx437_0⟩ := Kd.at_bool HR0.out x9_1 p437 q437
        (try rw [← Nbq7.out] at hx437_0)
        cases e437
        replace hx437_0 := (HB.out.cell (World.block_lt_of_cell? w _ hx437_0)).trans hx437_0
        replace p437 := eq_true p437
        replace q437 := eq_true q437
        go_wp2_with (first | ((with_reducible refine gate_builtin (b := .append) (xs := #[.tmp 15, .tmp 17]) rfl ?_); at_builtin; refine Kd.R_append (Kd.int .i64) (w0 := w) w.heap.size rfl (.tmp 15) (.tmp 17) 26 3 (.int .i64 0) 8 rfl Try.underlying26 info3 rfl (by decide) (by omega) u3 x3_1 x9_1 [.int .i64 x9_1] (fun _ => True) (fun _ => False) rfl rfl ?aP (fun _ hk => hk.elim) ?aF ?aO ?aB ?aS ?aL ?_; (case aP => exact rfl); (case aB => exact bw); (case aF => exact (fun _ _ => trivial)); (case aO => exact (rS HO_3.out)); (case aS => exact (below_size bw)); (case aL => have := LMc9.out; omega); intro v439 w10 ho hb hg hat; rw [← Ny438.out] at ho; replace HB := Aside0.mk (hb); have HO440 := Aside0.mk (ho); clear HO_3; clear ho hb hg hat))
        go_roundg k1
        case measure => have := HK1.out; omega
        case rel => exact ⟨(y438), (wrap64 (x9_1 + 1)), tR, H', ⟨by have := HK1.out; omega⟩, ⟨rS HO440.out⟩, ⟨bw⟩⟩
       ·rw [if_neg c9] at H
        exact absurd H (by simp)
      ·replace c8 := Bool.eq_false_iff.mpr c8
       subst c8
       have H1 : (impl_trues.l0 k1 x3_1 l0 (l0.length : Int) (wrap64 (x9_1 + 1))) = some r := by rw [if_neg (show ¬ (false = true) by decide)] at H; exact H
       clear H
       have H := H1
       clear H1
       have H' := Aside0.mk H
       clear H
       have p437 : 0 ≤ (x9_1 : Int) := dT
       have q437 : x9_1 < (l0.length : Int) := dT
       obtain ⟨ad437, e437, hx437_0⟩ := Kd.at_bool HR0.out x9_1 p437 q437
       (try rw [← Nbq7.out] at hx437_0)
       cases e437
       replace hx437_0 := (HB.out.cell (World.block_lt_of_cell? w _ hx437_0)).trans hx437_0
       replace p437 := eq_true p437
       replace q437 := eq_true q437
       go_wp2
       go_roundg k1
       case measure => have := HK1.out; omega
       case rel => exact ⟨(x3_1), (wrap64 (x9_1 + 1)), tR, H', ⟨by have := HK1.out; omega⟩, ⟨rS HO_3.out⟩, ⟨bw⟩⟩
     ·rw [if_neg c6] at H
      exact absurd H (by simp)
    ·rw [if_neg c5] at H
     exact absurd H (by simp)
   ·rw [if_neg c4] at H
    have c4b0 : decide (x9_1 < (l0.length : Int)) = false := decide_eq_false c4
    clear c4
    obtain rfl := Option.some.inj H
    go_wp2
    go_ret
    exact ⟨_, eR, rS HO_3.out, bw⟩

/-! ### impl_InsideOf: function 20 -/
def impl_InsideOf.f (k : Nat) (l0 : List (S53)) (a1 : Int) : Option (List Int) := (impl_isBranch.f k l0 a1).bind fun t441 => (if t441 = true then ((impl_next.f k l0 a1).bind fun t442 => ((impl_JoinOf.f k l0 a1).bind fun t445 => ((impl_reached.f k l0 t442 t445).bind fun t446 => ((impl_trues.f k t446).bind fun t449 => (some t449))))) else (some ([] : List Int)))
theorem impl_InsideOf.mono : ∀ a0 a1 k, LeO (impl_InsideOf.f k a0 a1) (impl_InsideOf.f (k + 1) a0 a1) := by
 intro a0 a1 k
 unfold impl_InsideOf.f
 repeat' first
   | (with_reducible exact impl_JoinOf.mono _ _ _)
   | (with_reducible exact impl_isBranch.mono _ _ _)
   | (with_reducible exact impl_next.mono _ _ _)
   | (with_reducible exact impl_reached.mono _ _ _ _)
   | (with_reducible exact impl_trues.mono _ _)
   | (with_reducible exact LeO.refl _)
   | (with_reducible exact LeO.none _)
   | (with_reducible refine LeO.ite ?_ ?_)
   | (with_reducible refine LeO.bind ?_ (fun _ => ?_))
   | exact impl_JoinOf.mono _ _ _
   | exact impl_isBranch.mono _ _ _
   | exact impl_next.mono _ _ _
   | exact impl_reached.mono _ _ _ _
   | exact impl_trues.mono _ _
   | exact LeO.none _
   | refine LeO.ite ?_ ?_
   | refine LeO.bind ?_ (fun _ => ?_)
set_option maxHeartbeats 8000000 in
set_option maxRecDepth 100000 in
theorem impl_InsideOf.calls (k : Nat) (A0 : Option Addr) (c0 : Nat) (l0 : List (S53)) (a1 : Int) (r : List Int) (w : World) (hr0 : Kd.C k53 w A0 l0.length l0) (hc0 : l0.length ≤ c0) (h : impl_InsideOf.f k l0 a1 = some r) :
  Calls Try.prog 20 #[.slice A0 l0.length c0, .int .i64 a1] w fun e w' => ∃ v0_ : Value, e = .returned (v0_) ∧ Kd.R (Kd.int .i64) 3 w' w.heap.size (fun _ => True) v0_ r ∧ Below w.heap.size w w' := by
 have HR0 := Aside0.mk hr0
 have HC0 := Aside0.mk hc0
 clear hr0 hc0
 have HB := Aside0.mk (Below.refl w.heap.size w)
 have H : ((impl_isBranch.f k l0 a1).bind fun t441 => (if t441 = true then ((impl_next.f k l0 a1).bind fun t442 => ((impl_JoinOf.f k l0 a1).bind fun t445 => ((impl_reached.f k l0 t442 t445).bind fun t446 => ((impl_trues.f k t446).bind fun t449 => (some t449))))) else (some ([] : List Int)))) = some r := h
 clear h
 replace H := Option.bind_eq_some_iff.mp H
 obtain ⟨t441, A30, H⟩ := H
 replace H : (if t441 = true then ((impl_next.f k l0 a1).bind fun t442 => ((impl_JoinOf.f k l0 a1).bind fun t445 => ((impl_reached.f k l0 t442 t445).bind fun t446 => ((impl_trues.f k t446).bind fun t449 => (some t449))))) else (some ([] : List Int))) = some r := H
 have A3 := Aside0.mk A30
 clear A30
 by_cases c4 : t441 = true
 ·subst c4
  have H1 : ((impl_next.f k l0 a1).bind fun t442 => ((impl_JoinOf.f k l0 a1).bind fun t445 => ((impl_reached.f k l0 t442 t445).bind fun t446 => ((impl_trues.f k t446).bind fun t449 => (some t449))))) = some r := by rw [if_pos rfl] at H; exact H
  clear H
  have H := H1
  clear H1
  replace H := Option.bind_eq_some_iff.mp H
  obtain ⟨t442, A50, H⟩ := H
  replace H : ((impl_JoinOf.f k l0 a1).bind fun t445 => ((impl_reached.f k l0 t442 t445).bind fun t446 => ((impl_trues.f k t446).bind fun t449 => (some t449)))) = some r := H
  have A5 := Aside0.mk A50
  clear A50
  replace H := Option.bind_eq_some_iff.mp H
  obtain ⟨t445, A60, H⟩ := H
  replace H : ((impl_reached.f k l0 t442 t445).bind fun t446 => ((impl_trues.f k t446).bind fun t449 => (some t449))) = some r := H
  have A6 := Aside0.mk A60
  clear A60
  replace H := Option.bind_eq_some_iff.mp H
  obtain ⟨t446, A70, H⟩ := H
  replace H : ((impl_trues.f k t446).bind fun t449 => (some t449)) = some r := H
  have A7 := Aside0.mk A70
  clear A70
  replace H := Option.bind_eq_some_iff.mp H
  obtain ⟨t449, A80, H⟩ := H
  replace H : (some t449) = some r := H
  have A8 := Aside0.mk A80
  clear A80
  obtain rfl := Option.some.inj H
  go_enter Try.func20, Try.ntmps20
  go_wp2_with (first | ((with_reducible refine gate_callee (f := 51) rfl ?_); refine gL (some 7) Try.func51 #[.slice A0 l0.length c0, .int .i64 a1] ?_; (with_reducible refine (impl_isBranch.calls k _ _ l0 a1 true _ ?side1 ?side2 A3.out).mono ?_); (case side1 => exact cS HR0.out); (case side2 => exact HC0.out); rintro e w9 ⟨rfl, hb⟩; refine ⟨_, rfl, ?_⟩; replace HB := Aside0.mk (below_step bw hb); (try clear hb)) | ((with_reducible refine gate_callee (f := 48) rfl ?_); refine gL (some 12) Try.func48 #[.slice A0 l0.length c0, .int .i64 a1] ?_; (with_reducible refine (impl_next.calls k _ _ l0 a1 t442 _ ?side1 ?side2 A5.out).mono ?_); (case side1 => repeat (first | exact (Kd.C_below HR0.out HB.out) | (with_reducible refine Kd.C_alloc ?_ _) | (with_reducible refine Kd.C_drewN ?_ _) | (with_reducible refine Kd.C_drew ?_))); (case side2 => exact HC0.out); rintro e w10 ⟨v443, rfl, ho0, hb⟩; refine ⟨_, rfl, ?_⟩; have HO444 := Aside0.mk (Kd.R_lower ho0 (below_size bw)); replace HB := Aside0.mk (below_step bw hb); (try clear hb); (try clear ho0)) | ((with_reducible refine gate_callee (f := 21) rfl ?_); refine gL (some 15) Try.func21 #[.slice A0 l0.length c0, .int .i64 a1] ?_; (with_reducible refine (impl_JoinOf.calls k _ _ l0 a1 t445 _ ?side1 ?side2 A6.out).mono ?_); (case side1 => repeat (first | exact (Kd.C_below HR0.out HB.out) | (with_reducible refine Kd.C_alloc ?_ _) | (with_reducible refine Kd.C_drewN ?_ _) | (with_reducible refine Kd.C_drew ?_))); (case side2 => exact HC0.out); rintro e w11 ⟨rfl, hb⟩; refine ⟨_, rfl, ?_⟩; replace HO444 := Aside0.mk (Kd.R_below (rS HO444.out) hb); replace HB := Aside0.mk (below_step bw hb); (try clear hb); obtain ⟨Ao12, co12, eo12⟩ := Kd.R_slice HO444.out; subst eo12) | ((with_reducible refine gate_callee (f := 53) rfl ?_); refine gL (some 16) Try.func53 #[.slice A0 l0.length c0, .slice Ao12 t442.length co12, .int .i64 t445] ?_; (with_reducible refine (impl_reached.calls k _ _ l0 _ _ t442 t445 t446 _ ?side1 ?side2 ?side3 ?side4 A7.out).mono ?_); (case side1 => repeat (first | exact (Kd.C_below HR0.out HB.out) | (with_reducible refine Kd.C_alloc ?_ _) | (with_reducible refine Kd.C_drewN ?_ _) | (with_reducible refine Kd.C_drew ?_))); (case side2 => exact HC0.out); (case side3 => exact cS (Kd.R_reads' HO444.out).2.2); (case side4 => exact (Kd.R_reads' HO444.out).2.1); rintro e w13 ⟨v447, rfl, ho0, hb⟩; refine ⟨_, rfl, ?_⟩; replace HO444 := Aside0.mk (Kd.R_below (rS HO444.out) hb); have HO448 := Aside0.mk (Kd.R_lower ho0 (below_size bw)); replace HB := Aside0.mk (below_step bw hb); (try clear hb); (try clear ho0); obtain ⟨Ao14, co14, eo14⟩ := Kd.R_slice HO448.out; subst eo14) | ((with_reducible refine gate_callee (f := 52) rfl ?_); refine gL (some 17) Try.func52 #[.slice Ao14 t446.length co14] ?_; (with_reducible refine (impl_trues.calls k _ _ t446 t449 _ ?side1 ?side2 A8.out).mono ?_); (case side1 => exact cS (Kd.R_reads' HO448.out).2.2); (case side2 => exact (Kd.R_reads' HO448.out).2.1); rintro e w15 ⟨v450, rfl, ho0, hb⟩; refine ⟨_, rfl, ?_⟩; replace HO448 := Aside0.mk (Kd.R_below (rS HO448.out) hb); have HO451 := Aside0.mk (Kd.R_lower (Kd.R_new' ho0 (Kd.R_lt (rS HO444.out))) (below_size bw)); replace HO444 := Aside0.mk (Kd.R_elder' (rS HO444.out) (Kd.R_base ho0) hb); replace HB := Aside0.mk (below_step bw hb); (try clear hb); (try clear ho0)))
  go_ret
  exact ⟨_, eR, by (with_reducible repeat (first | apply Kd.R_alloc | apply Kd.R_drewN | apply Kd.R_drew)); exact Kd.R_mono HO451.out (fun _ hk => trivial), bw⟩
 ·replace c4 := Bool.eq_false_iff.mpr c4
  subst c4
  have H1 : (some ([] : List Int)) = some r := by rw [if_neg (show ¬ (false = true) by decide)] at H; exact H
  clear H
  have H := H1
  clear H1
  obtain rfl := Option.some.inj H
  go_enter Try.func20, Try.ntmps20
  go_wp2_with (first | ((with_reducible refine gate_callee (f := 51) rfl ?_); refine gL (some 7) Try.func51 #[.slice A0 l0.length c0, .int .i64 a1] ?_; (with_reducible refine (impl_isBranch.calls k _ _ l0 a1 false _ ?side1 ?side2 A3.out).mono ?_); (case side1 => exact cS HR0.out); (case side2 => exact HC0.out); rintro e w16 ⟨rfl, hb⟩; refine ⟨_, rfl, ?_⟩; replace HB := Aside0.mk (below_step bw hb); (try clear hb)))
  go_ret
  exact ⟨_, eR, by first | exact Kd.R_nil _ _ _ _ _ | exact Kd.N_nil _ _ _ _ _ | exact Kd.V_nil _ _ _ _ _ | exact Kd.Q_nil _ _ _ _ _ | exact Kd.S_nil _ _ _ _ _, bw⟩

/-! ### laws_has: function 22 -/
def laws_has.l0 : Nat → List Int → Int → Int → Option (Bool)
 | 0, _, _, _ => none
 | k + 1, x0, x1, x5 => if x5 < (x0.length : Int) then (if 0 ≤ x5 then (if (rd x0 x5) = x1 then (some true) else (laws_has.l0 k x0 x1 (wrap64 (x5 + 1)))) else (none)) else (some false)
def laws_has.f (k : Nat) (l0 : List Int) (a1 : Int) : Option (Bool) := laws_has.l0 k l0 a1 0
theorem laws_has.mono_l : ∀ k, (∀ y0 y1 y2, LeO (laws_has.l0 k y0 y1 y2) (laws_has.l0 (k + 1) y0 y1 y2))
 | 0 => fun _ _ _ r h => by simp [laws_has.l0] at h
 | k + 1 => by
  have ih0 := laws_has.mono_l k
  ·intro y0 y1 y2
   unfold laws_has.l0
   repeat' first
   | (with_reducible exact ih0 _ _ _)
   | (with_reducible exact LeO.refl _)
   | (with_reducible exact LeO.none _)
   | (with_reducible refine LeO.ite ?_ ?_)
   | (with_reducible refine LeO.bind ?_ (fun _ => ?_))
   | exact ih0 _ _ _
   | exact LeO.none _
   | refine LeO.ite ?_ ?_
   | refine LeO.bind ?_ (fun _ => ?_)
theorem laws_has.mono : ∀ a0 a1 k, LeO (laws_has.f k a0 a1) (laws_has.f (k + 1) a0 a1) := by
 intro a0 a1 k
 have ih0 := laws_has.mono_l k
 unfold laws_has.f
 repeat' first
   | (with_reducible exact ih0 _ _ _)
   | (with_reducible exact LeO.refl _)
   | (with_reducible exact LeO.none _)
   | (with_reducible refine LeO.ite ?_ ?_)
   | (with_reducible refine LeO.bind ?_ (fun _ => ?_))
   | exact ih0 _ _ _
   | exact LeO.none _
   | refine LeO.ite ?_ ?_
   | refine LeO.bind ?_ (fun _ => ?_)
set_option maxHeartbeats 8000000 in
set_option maxRecDepth 100000 in
theorem laws_has.calls (k : Nat) (A0 : Option Addr) (c0 : Nat) (l0 : List Int) (a1 : Int) (r : Bool) (w : World) (hr0 : Kd.C (Kd.int .i64) w A0 l0.length l0) (hc0 : l0.length ≤ c0) (h : laws_has.f k l0 a1 = some r) :
  Calls Try.prog 22 #[.slice A0 l0.length c0, .int .i64 a1] w fun e w' => e = .returned (.bool r) ∧ Drawn0 w w' := by
 have HR0 := Aside0.mk hr0
 have HC0 := Aside0.mk hc0
 clear hr0 hc0
 have H : (laws_has.l0 k l0 a1 0) = some r := h
 clear h
 have H' := Aside0.mk H
 clear H
 go_enter Try.func22, Try.ntmps22
 go_wp2
 go_loopg [5] k (fun kq v5 w' => ∃ (x5_1 : Int), v5 = .int .i64 x5_1 ∧ Aside0 (laws_has.l0 kq l0 a1 x5_1 = some r) ∧ Aside0 (kq ≤ k) ∧ Drawn0 w w')
 case atStart => exact ⟨(0), tR, H', ⟨Nat.le_refl _⟩, by repeat (first | exact Drawn0.refl _ | apply Drawn0.step)⟩
 case round =>
  clear H'
  try clear c2;try clear p2
  obtain ⟨x5_1, rfl, HA, HK1, ⟨m1, rfl⟩⟩ := hrel
  cases gk with
  | zero => exact absurd HA.out (by simp [laws_has.l0])
  | succ k1 =>
   have H := HA.out
   clear HA
   simp only [laws_has.l0] at H
   by_cases c3 : x5_1 < (l0.length : Int)
   ·rw [if_pos c3] at H
    have c3b0 : decide (x5_1 < (l0.length : Int)) = true := decide_eq_true c3
    clear c3
    by_cases c4 : 0 ≤ x5_1
    ·rw [if_pos c4] at H
     have c4b0 : decide (0 ≤ x5_1) = true := decide_eq_true c4
     clear c4
     by_cases c5 : (rd l0 x5_1) = a1
     ·rw [if_pos c5] at H
      have c5b0 : ((rd l0 x5_1) == a1) = true := beq_iff_eq.mpr c5
      have c5b1 : ((rd l0 x5_1) != a1) = false := bne_eq_false_iff_eq.mpr c5
      clear c5
      obtain rfl := Option.some.inj H
      have p452 : 0 ≤ (x5_1 : Int) := dT
      have q452 : x5_1 < (l0.length : Int) := dT
      obtain ⟨ad452, e452, hx452_0⟩ := Kd.at_int HR0.out x5_1 p452 q452
      cases e452
      replace p452 := eq_true p452
      replace q452 := eq_true q452
      go_wp2
      go_ret
      exact ⟨by first | rfl | (simp; done) | (simp [*]; done), by repeat (first | exact Drawn0.refl _ | apply Drawn0.step)⟩
     ·rw [if_neg c5] at H
      have c5b0 : ((rd l0 x5_1) == a1) = false := beq_eq_false_iff_ne.mpr c5
      have c5b1 : ((rd l0 x5_1) != a1) = true := bne_iff_ne.mpr c5
      have H' := Aside0.mk H
      clear H
      have p452 : 0 ≤ (x5_1 : Int) := dT
      have q452 : x5_1 < (l0.length : Int) := dT
      obtain ⟨ad452, e452, hx452_0⟩ := Kd.at_int HR0.out x5_1 p452 q452
      cases e452
      replace p452 := eq_true p452
      replace q452 := eq_true q452
      go_wp2
      go_roundg k1
      case measure => have := HK1.out; omega
      case rel => exact ⟨(wrap64 (x5_1 + 1)), tR, H', ⟨by have := HK1.out; omega⟩, by repeat (first | exact Drawn0.refl _ | apply Drawn0.step)⟩
    ·rw [if_neg c4] at H
     exact absurd H (by simp)
   ·rw [if_neg c3] at H
    have c3b0 : decide (x5_1 < (l0.length : Int)) = false := decide_eq_false c3
    clear c3
    obtain rfl := Option.some.inj H
    go_wp2
    go_ret
    exact ⟨by first | rfl | (simp; done) | (simp [*]; done), by repeat (first | exact Drawn0.refl _ | apply Drawn0.step)⟩

/-! ### impl_IsInside: function 23 -/
def impl_IsInside.f (k : Nat) (l0 : List (S53)) (a1 : Int) (a2 : Int) : Option (Bool) := (impl_InsideOf.f k l0 a1).bind fun t453 => ((slices_Contains_int_int.f k t453 a2).bind fun t456 => (some t456))
theorem impl_IsInside.mono : ∀ a0 a1 a2 k, LeO (impl_IsInside.f k a0 a1 a2) (impl_IsInside.f (k + 1) a0 a1 a2) := by
 intro a0 a1 a2 k
 unfold impl_IsInside.f
 repeat' first
   | (with_reducible exact impl_InsideOf.mono _ _ _)
   | (with_reducible exact slices_Contains_int_int.mono _ _ _)
   | (with_reducible exact LeO.refl _)
   | (with_reducible exact LeO.none _)
   | (with_reducible refine LeO.ite ?_ ?_)
   | (with_reducible refine LeO.bind ?_ (fun _ => ?_))
   | exact impl_InsideOf.mono _ _ _
   | exact slices_Contains_int_int.mono _ _ _
   | exact LeO.none _
   | refine LeO.ite ?_ ?_
   | refine LeO.bind ?_ (fun _ => ?_)
set_option maxHeartbeats 8000000 in
set_option maxRecDepth 100000 in
theorem impl_IsInside.calls (k : Nat) (A0 : Option Addr) (c0 : Nat) (l0 : List (S53)) (a1 : Int) (a2 : Int) (r : Bool) (w : World) (hr0 : Kd.C k53 w A0 l0.length l0) (hc0 : l0.length ≤ c0) (h : impl_IsInside.f k l0 a1 a2 = some r) :
  Calls Try.prog 23 #[.slice A0 l0.length c0, .int .i64 a1, .int .i64 a2] w fun e w' => e = .returned (.bool r) ∧ Below w.heap.size w w' := by
 have HR0 := Aside0.mk hr0
 have HC0 := Aside0.mk hc0
 clear hr0 hc0
 have HB := Aside0.mk (Below.refl w.heap.size w)
 have H : ((impl_InsideOf.f k l0 a1).bind fun t453 => ((slices_Contains_int_int.f k t453 a2).bind fun t456 => (some t456))) = some r := h
 clear h
 replace H := Option.bind_eq_some_iff.mp H
 obtain ⟨t453, A40, H⟩ := H
 replace H : ((slices_Contains_int_int.f k t453 a2).bind fun t456 => (some t456)) = some r := H
 have A4 := Aside0.mk A40
 clear A40
 replace H := Option.bind_eq_some_iff.mp H
 obtain ⟨t456, A50, H⟩ := H
 replace H : (some t456) = some r := H
 have A5 := Aside0.mk A50
 clear A50
 obtain rfl := Option.some.inj H
 go_enter Try.func23, Try.ntmps23
 go_wp2_with (first | ((with_reducible refine gate_callee (f := 20) rfl ?_); refine gL (some 9) Try.func20 #[.slice A0 l0.length c0, .int .i64 a1] ?_; (with_reducible refine (impl_InsideOf.calls k _ _ l0 a1 t453 _ ?side1 ?side2 A4.out).mono ?_); (case side1 => exact cS HR0.out); (case side2 => exact HC0.out); rintro e w6 ⟨v454, rfl, ho0, hb⟩; refine ⟨_, rfl, ?_⟩; have HO455 := Aside0.mk (Kd.R_lower ho0 (below_size bw)); replace HB := Aside0.mk (below_step bw hb); (try clear hb); (try clear ho0); obtain ⟨Ao7, co7, eo7⟩ := Kd.R_slice HO455.out; subst eo7) | ((with_reducible refine gate_callee (f := 55) rfl ?_); refine gL (some 11) Try.func55 #[.slice Ao7 t453.length co7, .int .i64 a2] ?_; (with_reducible refine (slices_Contains_int_int.calls k _ _ t453 a2 t456 _ ?side1 ?side2 A5.out).mono ?_); (case side1 => exact cS (Kd.R_reads' HO455.out).2.2); (case side2 => exact (Kd.R_reads' HO455.out).2.1); rintro e w' ⟨rfl, ⟨nd, rfl⟩⟩; refine ⟨_, rfl, ?_⟩))
 go_ret
 exact ⟨eR, bw⟩

/-! ### impl_ReachesExit: function 24 -/
def impl_ReachesExit.f (k : Nat) (l0 : List (S53)) (a1 : Int) : Option (Bool) := (impl_isNode.f l0 a1).bind fun t457 => (if t457 = true then ((impl_reachesExit.f k l0 a1).bind fun t458 => (some t458)) else (some false))
theorem impl_ReachesExit.mono : ∀ a0 a1 k, LeO (impl_ReachesExit.f k a0 a1) (impl_ReachesExit.f (k + 1) a0 a1) := by
 intro a0 a1 k
 unfold impl_ReachesExit.f
 repeat' first
   | (with_reducible exact impl_reachesExit.mono _ _ _)
   | (with_reducible exact LeO.refl _)
   | (with_reducible exact LeO.none _)
   | (with_reducible refine LeO.ite ?_ ?_)
   | (with_reducible refine LeO.bind ?_ (fun _ => ?_))
   | exact impl_reachesExit.mono _ _ _
   | exact LeO.none _
   | refine LeO.ite ?_ ?_
   | refine LeO.bind ?_ (fun _ => ?_)
set_option maxHeartbeats 8000000 in
set_option maxRecDepth 100000 in
theorem impl_ReachesExit.calls (k : Nat) (A0 : Option Addr) (c0 : Nat) (l0 : List (S53)) (a1 : Int) (r : Bool) (w : World) (hr0 : Kd.C k53 w A0 l0.length l0) (hc0 : l0.length ≤ c0) (h : impl_ReachesExit.f k l0 a1 = some r) :
  Calls Try.prog 24 #[.slice A0 l0.length c0, .int .i64 a1] w fun e w' => e = .returned (.bool r) ∧ Below w.heap.size w w' := by
 have HR0 := Aside0.mk hr0
 have HC0 := Aside0.mk hc0
 clear hr0 hc0
 have HB := Aside0.mk (Below.refl w.heap.size w)
 have H : ((impl_isNode.f l0 a1).bind fun t457 => (if t457 = true then ((impl_reachesExit.f k l0 a1).bind fun t458 => (some t458)) else (some false))) = some r := h
 clear h
 replace H := Option.bind_eq_some_iff.mp H
 obtain ⟨t457, A30, H⟩ := H
 replace H : (if t457 = true then ((impl_reachesExit.f k l0 a1).bind fun t458 => (some t458)) else (some false)) = some r := H
 have A3 := Aside0.mk A30
 clear A30
 by_cases c4 : t457 = true
 ·subst c4
  have H1 : ((impl_reachesExit.f k l0 a1).bind fun t458 => (some t458)) = some r := by rw [if_pos rfl] at H; exact H
  clear H
  have H := H1
  clear H1
  replace H := Option.bind_eq_some_iff.mp H
  obtain ⟨t458, A50, H⟩ := H
  replace H : (some t458) = some r := H
  have A5 := Aside0.mk A50
  clear A50
  obtain rfl := Option.some.inj H
  go_enter Try.func24, Try.ntmps24
  go_wp2_with (first | ((with_reducible refine gate_callee (f := 50) rfl ?_); refine gL (some 7) Try.func50 #[.slice A0 l0.length c0, .int .i64 a1] ?_; (with_reducible refine (impl_isNode.calls _ _ l0 a1 true _ ?side1 ?side2 A3.out).mono ?_); (case side1 => exact cS HR0.out); (case side2 => exact HC0.out); rintro e w6 ⟨rfl, hb⟩; refine ⟨_, rfl, ?_⟩; replace HB := Aside0.mk (below_step bw hb); (try clear hb)) | (go_at_call 54; (with_reducible refine (impl_reachesExit.calls k _ _ l0 a1 t458 _ ?side1 ?side2 A5.out).mono ?_); (case side1 => repeat (first | exact (Kd.C_below HR0.out HB.out) | (with_reducible refine Kd.C_alloc ?_ _) | (with_reducible refine Kd.C_drewN ?_ _) | (with_reducible refine Kd.C_drew ?_))); (case side2 => exact HC0.out); rintro e w7 ⟨rfl, hb⟩; replace HB := Aside0.mk (below_step bw hb); (try clear hb)))
  go_ret
  exact ⟨eR, bw⟩
 ·replace c4 := Bool.eq_false_iff.mpr c4
  subst c4
  have H1 : (some false) = some r := by rw [if_neg (show ¬ (false = true) by decide)] at H; exact H
  clear H
  have H := H1
  clear H1
  obtain rfl := Option.some.inj H
  go_enter Try.func24, Try.ntmps24
  go_wp2_with (first | ((with_reducible refine gate_callee (f := 50) rfl ?_); refine gL (some 7) Try.func50 #[.slice A0 l0.length c0, .int .i64 a1] ?_; (with_reducible refine (impl_isNode.calls _ _ l0 a1 false _ ?side1 ?side2 A3.out).mono ?_); (case side1 => exact cS HR0.out); (case side2 => exact HC0.out); rintro e w8 ⟨rfl, hb⟩; refine ⟨_, rfl, ?_⟩; replace HB := Aside0.mk (below_step bw hb); (try clear hb)))
  go_ret
  exact ⟨eR, bw⟩

/-! ### impl_IsForward: function 26 -/
def outOf (a j x : Int) : Bool := decide (x ≤ a) || decide (x ≥ j)
def impl_IsForward.f (k : Nat) (l0 : List S53) (a1 : Int) : Option (Bool) := (impl_isBranch.f k l0 a1).bind fun t => if t = true then ((impl_InsideOf.f k l0 a1).bind fun L => (impl_JoinOf.f k l0 a1).bind fun j => some (!(L.any (outOf a1 j)))) else some false
theorem impl_IsForward.mono : ∀ a0 a1 k, LeO (impl_IsForward.f k a0 a1) (impl_IsForward.f (k + 1) a0 a1) := by
  intro a0 a1 k
  unfold impl_IsForward.f
  exact LeO.bind (impl_isBranch.mono _ _ _) fun _ => LeO.ite (LeO.bind (impl_InsideOf.mono _ _ _) fun _ => LeO.bind (impl_JoinOf.mono _ _ _) fun _ => LeO.refl _) (LeO.refl _)
set_option maxHeartbeats 1000000 in
theorem impl_IsForward.fn (k : Nat) (A0 : Option Addr) (c0 : Nat) (l0 : List S53) (g2 g3 : Nat) (a1 j x : Int) (w : World) (hr0 : Kd.C k53 w A0 l0.length l0) (hc0 : l0.length ≤ c0) (h2 : w.heap[g2]? = some (.cells #[.slice A0 l0.length c0] 24 (0, 0))) (h3 : w.heap[g3]? = some (.cells #[.int .i64 a1] 3 (0, 0))) (hj : impl_JoinOf.f k l0 a1 = some j) :
    Calls Try.prog 58 #[.int .i64 x, .pointer (some ⟨g3, 0, none⟩), .pointer (some ⟨g2, 0, none⟩)] w fun e w' => e = .returned (.bool (outOf a1 j x)) ∧ Below w.heap.size w w' := by
  have HI := Aside0.mk hj
  have HR := Aside0.mk hr0
  have HC := Aside0.mk hc0
  have hz2 := one_cellF h2
  have hz3 := one_cellF h3
  clear hj hr0 hc0 h2 h3
  unfold outOf
  by_cases c : x ≤ a1
  · have b0 : decide (x ≤ a1) = true := decide_eq_true c
    rw [b0, Bool.true_or]
    go_enter Try.func58, Try.ntmps58
    go_wp2
    go_ret
    exact ⟨rfl, Below.refl _ _⟩
  · have b0 : decide (x ≤ a1) = false := decide_eq_false c
    rw [b0, Bool.false_or]
    go_enter Try.func58, Try.ntmps58
    go_wp2_with (go_at_call 21; (with_reducible refine (impl_JoinOf.calls k A0 c0 l0 a1 j _ HR.out HC.out HI.out).mono ?_); rintro e w' ⟨rfl, hb2⟩; have HB2 := Aside0.mk hb2; clear hb2)
    go_ret
    exact ⟨rfl, HB2.out⟩
set_option maxHeartbeats 4000000 in
set_option maxRecDepth 100000 in
theorem impl_IsForward.calls (k : Nat) (A0 : Option Addr) (c0 : Nat) (l0 : List S53) (a1 : Int) (r : Bool) (w : World) (hr0 : Kd.C k53 w A0 l0.length l0) (hc0 : l0.length ≤ c0) (h : impl_IsForward.f k l0 a1 = some r) :
    Calls Try.prog 26 #[.slice A0 l0.length c0, .int .i64 a1] w fun e w' => e = .returned (.bool r) ∧ Below w.heap.size w w' := by
  obtain ⟨t, ht, h⟩ := Option.bind_eq_some_iff.mp h
  have HT := Aside0.mk ht
  have HR0 := Aside0.mk hr0
  have HC0 := Aside0.mk hc0
  have HB := Aside0.mk (Below.refl w.heap.size w)
  clear ht hr0 hc0
  cases t with
  | false =>
    rw [if_neg (by decide)] at h
    obtain rfl := Option.some.inj h
    clear h
    go_enter Try.func26, Try.ntmps26
    go_wp2_with (first
      | ((with_reducible refine gate_dst (N := 2) rfl ?_); refine box_event ?hg (N := 2) ?hd (cs := #[.slice A0 l0.length c0]) (t := 24) ?hr ?_; (case hd => rfl); (case hg => rfl); (case hr => first | (go_simp; done) | (go_simp; rfl)); intro g2 hgb w1 hbox hb; have HB1 := Aside0.mk hb; have B2 := Aside0.mk hbox; clear hgb hb hbox)
      | ((with_reducible refine gate_dst (N := 3) rfl ?_); refine box_event ?hg (N := 3) ?hd (cs := #[.int .i64 a1]) (t := 3) ?hr ?_; (case hd => rfl); (case hg => rfl); (case hr => first | (go_simp; done) | (go_simp; rfl)); intro g3 hgb w3 hbox hb; have HB3 := Aside0.mk (below_step HB1.out hb); have z3 := one_cellF hbox; have z2 := one_cellF (blk_below B2.out hb); clear hgb hb hbox)
      | (go_at_call 51; (with_reducible refine (impl_isBranch.calls k A0 c0 l0 a1 _ _ (Kd.C_below HR0.out HB3.out) HC0.out HT.out).mono ?_); rintro e w4 ⟨rfl, hb4⟩; have HB4 := Aside0.mk (below_step HB3.out hb4); clear hb4))
    go_ret
    exact ⟨rfl, HB4.out⟩
  | true =>
    rw [if_pos rfl] at h
    obtain ⟨L, hL, h⟩ := Option.bind_eq_some_iff.mp h
    obtain ⟨j, hj, h⟩ := Option.bind_eq_some_iff.mp h
    obtain rfl := Option.some.inj h
    have HL := Aside0.mk hL
    have HJ := Aside0.mk hj
    clear hL hj h
    have eg := Aside0.mk (enters_of Try.func58 (by kernel_rfl) rfl)
    go_enter Try.func26, Try.ntmps26
    go_wp2_with (first
      | ((with_reducible refine gate_dst (N := 2) rfl ?_); refine box_event ?hg (N := 2) ?hd (cs := #[.slice A0 l0.length c0]) (t := 24) ?hr ?_; (case hd => rfl); (case hg => rfl); (case hr => first | (go_simp; done) | (go_simp; rfl)); intro g2 hgb w1 hbox hb; have HB1 := Aside0.mk hb; have B2 := Aside0.mk hbox; clear hgb hb hbox)
      | ((with_reducible refine gate_dst (N := 3) rfl ?_); refine box_event ?hg (N := 3) ?hd (cs := #[.int .i64 a1]) (t := 3) ?hr ?_; (case hd => rfl); (case hg => rfl); (case hr => first | (go_simp; done) | (go_simp; rfl)); intro g3 hgb w3 hbox hb; have HB3 := Aside0.mk (below_step HB1.out hb); have B3 := Aside0.mk hbox; have z3 := one_cellF hbox; have B23 := Aside0.mk (blk_below B2.out hb); have z2 := one_cellF B23.out; clear hgb hb hbox)
      | (go_at_call 51; (with_reducible refine (impl_isBranch.calls k A0 c0 l0 a1 _ _ (Kd.C_below HR0.out HB3.out) HC0.out HT.out).mono ?_); rintro e w4 ⟨rfl, hb4⟩; have HB4 := Aside0.mk (below_step HB3.out hb4); have B34 := Aside0.mk (blk_below B3.out hb4); have B24 := Aside0.mk (blk_below B23.out hb4); have y3 := one_cellF B34.out; have y2 := one_cellF B24.out; clear hb4)
      | (go_at_call 20; (with_reducible refine (impl_InsideOf.calls k A0 c0 l0 a1 L _ (Kd.C_below HR0.out HB4.out) HC0.out HL.out).mono ?_); rintro e w5 ⟨v5, rfl, ho5, hb5⟩; obtain ⟨A5, c5, e5⟩ := Kd.R_slice ho5; subst e5; have HC5 := Aside0.mk (Kd.R_reads' ho5).2; have HB5 := Aside0.mk (below_step HB4.out hb5); have B35 := Aside0.mk (blk_below B34.out hb5); have B25 := Aside0.mk (blk_below B24.out hb5); clear ho5 hb5)
      | (go_at_call 57; refine (containsFunc_int (Below w5.heap.size w5) 58 #[.pointer (some ⟨g3, 0, none⟩), .pointer (some ⟨g2, 0, none⟩)] eg.out (outOf a1 j) A5 c5 L w5 (Below.refl _ _) (fun W hW => Kd.C_below HC5.out.2 hW) (fun y hy1 W hW => (impl_IsForward.fn k A0 c0 l0 g2 g3 a1 j y W (Kd.C_below HR0.out (below_step HB5.out hW)) HC0.out (blk_below B25.out hW) (blk_below B35.out hW) HJ.out).mono fun e W' ⟨he, h2⟩ => ⟨he, below_step hW h2⟩)).mono ?_; rintro e w6 ⟨rfl, hb6⟩; have HB6 := Aside0.mk (below_step HB5.out hb6); clear hb6))
    go_ret
    exact ⟨rfl, HB6.out⟩

end Go.Proofs.Ytbgpnendblmdaaa.PFnJoins
