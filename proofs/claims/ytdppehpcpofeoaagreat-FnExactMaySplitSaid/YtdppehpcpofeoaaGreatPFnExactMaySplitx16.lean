-- Written by myprint.py (a program of this session, over the kit's print): not trusted, Lean checks it.
import Derived.Test.YtdppehpcpofeoaaGreatPFnExactMaySplitx0
import Derived.Test.YtdppehpcpofeoaaGreatPFnExactMaySplitx1
import Derived.Test.YtdppehpcpofeoaaGreatPFnExactMaySplitx9
import Derived.Test.YtdppehpcpofeoaaGreatPFnExactMaySplitx10
import Derived.Test.YtdppehpcpofeoaaGreatPFnExactMaySplitx11
import Derived.Test.YtdppehpcpofeoaaGreatPFnExactMaySplitx15
namespace Go.Proofs.YtdppehpcpofeoaaGreat.PFnExactMaySplit
open Go.RowKit Go.Proofs.YtdppehpcpofeoaaGreatW.PrintWords Go.Proofs.YtdppehpcpofeoaaGreatW.PrintLast Go.Proofs.YtdppehpcpofeoaaGreatW.PrintMore
attribute [local go_sem] max2_int min2_int max_two min_two max_three min_three max_four min_four   -- for this text's walks alone
set_option linter.unusedVariables false
set_option linter.unusedSimpArgs false

/-! ### impl_MaySplit: function 9 -/
def impl_MaySplit.f (k : Nat) (l0 : List (S38)) (a1 : Int) : Option (Bool) := (impl_IsQuiet.f l0).bind fun t521 => (if t521 = true then ((impl_isBranch.f k l0 a1).bind fun t522 => (if t522 = true then ((impl_UniformAt.f k l0).bind fun t523 => (if 0 ≤ a1 then (if a1 < (t523.length : Int) then (if a1 < (l0.length : Int) then (if 0 ≤ ((rd_T38 l0 a1).f1) then (some ((Go.bits .and .i64 (shr .i64 (rd t523 a1) ((rd_T38 l0 a1).f1)) 1) == 0)) else (none)) else (none)) else (none)) else (none))) else (some false))) else (some false))
theorem impl_MaySplit.mono : ∀ a0 a1 k, LeO (impl_MaySplit.f k a0 a1) (impl_MaySplit.f (k + 1) a0 a1) := by
 intro a0 a1 k
 unfold impl_MaySplit.f
 repeat' first
   | (with_reducible exact impl_UniformAt.mono _ _)
   | (with_reducible exact impl_isBranch.mono _ _ _)
   | (with_reducible exact LeO.refl _)
   | (with_reducible exact LeO.none _)
   | (with_reducible refine LeO.ite ?_ ?_)
   | (with_reducible refine LeO.bind ?_ (fun _ => ?_))
   | exact impl_UniformAt.mono _ _
   | exact impl_isBranch.mono _ _ _
   | exact LeO.none _
   | refine LeO.ite ?_ ?_
   | refine LeO.bind ?_ (fun _ => ?_)
def impl_MaySplit.T1 : Bool × List (List Nat × List Nat) := (true, [([], []), ([0], [0]), ([1, 1], [1]), ([2], [2]), ([2], [2]), ([3, 4, 2, 2], [2, 3, 4]), ([2, 5], [2, 5]), ([6, 5], [6]), ([7], [7]), ([8, 7, 7], [7, 8]), ([7], [7]), ([9, 10, 7], [7, 9, 10]), ([11, 7], [7, 11]), ([7], [7]), ([7], [7]), ([13, 14, 7], [7, 13, 14]), ([15, 7], [7, 15]), ([16, 7], [7, 16]), ([12, 17, 7], [7, 12, 17]), ([18, 7], [7, 18]), ([19, 7], [7, 19]), ([7, 20], [7, 20]), ([21, 9, 0, 1, 2, 3, 4, 5, 6, 7, 8, 9, 10, 11, 12, 13, 14, 15, 16, 17, 18, 19, 20, 21], [21])])
def impl_MaySplit.B1 : List Nat := [0, 1, 3, 7, 7, 31, 63, 127, 255, 511, 255, 2047, 4095, 255, 255, 24831, 57599, 123135, 262143, 524287, 1048575, 2097151, 4194303]
theorem impl_MaySplit.tab1 : rtab .any (opsOf Tryz.f9 1) = impl_MaySplit.T1 := by kernel_rfl
theorem impl_MaySplit.bits1 : waitsOk impl_MaySplit.T1.2 impl_MaySplit.B1 = true := by kernel_rfl
set_option maxHeartbeats 8000000 in
set_option maxRecDepth 100000 in
theorem impl_MaySplit.calls (k : Nat) (A0 : Option Addr) (c0 : Nat) (l0 : List (S38)) (a1 : Int) (r : Bool) (w : World) (hr0 : Kd.C k38 w A0 l0.length l0) (hc0 : l0.length ≤ c0) (h : impl_MaySplit.f k l0 a1 = some r) :
  Calls Tryz.prog 9 #[.slice A0 l0.length c0, .int .i64 a1] w fun e w' => e = .returned (.bool r) ∧ Below w.heap.size w w' := by
 have HR0 := Aside0.mk hr0
 have HC0 := Aside0.mk hc0
 clear hr0 hc0
 have HB := Aside0.mk (Below.refl w.heap.size w)
 have H : ((impl_IsQuiet.f l0).bind fun t521 => (if t521 = true then ((impl_isBranch.f k l0 a1).bind fun t522 => (if t522 = true then ((impl_UniformAt.f k l0).bind fun t523 => (if 0 ≤ a1 then (if a1 < (t523.length : Int) then (if a1 < (l0.length : Int) then (if 0 ≤ ((rd_T38 l0 a1).f1) then (some ((Go.bits .and .i64 (shr .i64 (rd t523 a1) ((rd_T38 l0 a1).f1)) 1) == 0)) else (none)) else (none)) else (none)) else (none))) else (some false))) else (some false))) = some r := h
 clear h
 replace H := Option.bind_eq_some_iff.mp H
 obtain ⟨t521, A30, H⟩ := H
 replace H : (if t521 = true then ((impl_isBranch.f k l0 a1).bind fun t522 => (if t522 = true then ((impl_UniformAt.f k l0).bind fun t523 => (if 0 ≤ a1 then (if a1 < (t523.length : Int) then (if a1 < (l0.length : Int) then (if 0 ≤ ((rd_T38 l0 a1).f1) then (some ((Go.bits .and .i64 (shr .i64 (rd t523 a1) ((rd_T38 l0 a1).f1)) 1) == 0)) else (none)) else (none)) else (none)) else (none))) else (some false))) else (some false)) = some r := H
 have A3 := Aside0.mk A30
 clear A30
 by_cases c4 : t521 = true
 ·subst c4
  have H1 : ((impl_isBranch.f k l0 a1).bind fun t522 => (if t522 = true then ((impl_UniformAt.f k l0).bind fun t523 => (if 0 ≤ a1 then (if a1 < (t523.length : Int) then (if a1 < (l0.length : Int) then (if 0 ≤ ((rd_T38 l0 a1).f1) then (some ((Go.bits .and .i64 (shr .i64 (rd t523 a1) ((rd_T38 l0 a1).f1)) 1) == 0)) else (none)) else (none)) else (none)) else (none))) else (some false))) = some r := by rw [if_pos rfl] at H; exact H
  clear H
  have H := H1
  clear H1
  replace H := Option.bind_eq_some_iff.mp H
  obtain ⟨t522, A50, H⟩ := H
  replace H : (if t522 = true then ((impl_UniformAt.f k l0).bind fun t523 => (if 0 ≤ a1 then (if a1 < (t523.length : Int) then (if a1 < (l0.length : Int) then (if 0 ≤ ((rd_T38 l0 a1).f1) then (some ((Go.bits .and .i64 (shr .i64 (rd t523 a1) ((rd_T38 l0 a1).f1)) 1) == 0)) else (none)) else (none)) else (none)) else (none))) else (some false)) = some r := H
  have A5 := Aside0.mk A50
  clear A50
  by_cases c6 : t522 = true
  ·subst c6
   have H1 : ((impl_UniformAt.f k l0).bind fun t523 => (if 0 ≤ a1 then (if a1 < (t523.length : Int) then (if a1 < (l0.length : Int) then (if 0 ≤ ((rd_T38 l0 a1).f1) then (some ((Go.bits .and .i64 (shr .i64 (rd t523 a1) ((rd_T38 l0 a1).f1)) 1) == 0)) else (none)) else (none)) else (none)) else (none))) = some r := by rw [if_pos rfl] at H; exact H
   clear H
   have H := H1
   clear H1
   replace H := Option.bind_eq_some_iff.mp H
   obtain ⟨t523, A70, H⟩ := H
   replace H : (if 0 ≤ a1 then (if a1 < (t523.length : Int) then (if a1 < (l0.length : Int) then (if 0 ≤ ((rd_T38 l0 a1).f1) then (some ((Go.bits .and .i64 (shr .i64 (rd t523 a1) ((rd_T38 l0 a1).f1)) 1) == 0)) else (none)) else (none)) else (none)) else (none)) = some r := H
   have A7 := Aside0.mk A70
   clear A70
   by_cases c8 : 0 ≤ a1
   ·rw [if_pos c8] at H
    have c8b0 : decide (0 ≤ a1) = true := decide_eq_true c8
    clear c8
    by_cases c9 : a1 < (t523.length : Int)
    ·rw [if_pos c9] at H
     have c9b0 : decide (a1 < (t523.length : Int)) = true := decide_eq_true c9
     clear c9
     by_cases c10 : a1 < (l0.length : Int)
     ·rw [if_pos c10] at H
      have c10b0 : decide (a1 < (l0.length : Int)) = true := decide_eq_true c10
      clear c10
      by_cases c11 : 0 ≤ ((rd_T38 l0 a1).f1)
      ·rw [if_pos c11] at H
       have c11b0 := eq_true c11
       have c11b1 : decide (0 ≤ ((rd_T38 l0 a1).f1)) = true := decide_eq_true c11
       clear c11
       obtain ⟨ji12, hji12⟩ : ∃ j_ : Int, (shr .i64 (rd t523 a1) ((rd_T38 l0 a1).f1)) = j_ := ⟨_, rfl⟩
       replace H : (some ((Go.bits .and .i64 (ji12) 1) == 0)) = some r := by first | (rw [hji12] at H; exact H) | (simp only [hji12] at H ⊢; exact H)
       (try rw [hji12] at A3)
       (try rw [hji12] at A5)
       (try rw [hji12] at A7)
       have hji12_ : ((rd t523 a1) / 2 ^ min ((rd_T38 l0 a1).f1).toNat 64) = ji12 := hji12
       have hji12z : ((rd_T38 l0 a1).f1) ≤ 64 → ((rd t523 a1) / 2 ^ ((rd_T38 l0 a1).f1).toNat) = ji12 := shr_small hji12
       obtain rfl := Option.some.inj H
       go_enter Tryz.func9, Tryz.ntmps9
       try go_wp2
       replace HB := Aside0.mk (below_drew1 HB.out)
       have p527 : 0 ≤ (a1 : Int) := dT
       have q527 : a1 < (l0.length : Int) := dT
       obtain ⟨ad527, e527, hx527_0, hx527_1, hx527_2, hx527_3⟩ := at_T38 HR0.out a1 p527 q527
       have hw527_3 := hx527_3
       have hw527_2 := hx527_2
       have hw527_1 := hx527_1
       have hw527_0 := hx527_0
       cases e527
       replace hx527_0 := (HB.out.cell (World.block_lt_of_cell? w _ hx527_0)).trans hx527_0
       replace hx527_1 := (HB.out.cell (World.block_lt_of_cell? w _ hx527_1)).trans hx527_1
       replace hx527_2 := (HB.out.cell (World.block_lt_of_cell? w _ hx527_2)).trans hx527_2
       replace hx527_3 := (HB.out.cell (World.block_lt_of_cell? w _ hx527_3)).trans hx527_3
       replace p527 := eq_true p527
       replace q527 := eq_true q527
       refine start_ (n := 23) (S := fun w' => w'.cell? (ad527.add ((a1).toNat * 4)) = some (.int .i64 ((rd_T38 l0 a1).f0)) ∧ w'.cell? ⟨(ad527.add ((a1).toNat * 4)).block, (ad527.add ((a1).toNat * 4)).off + 1, none⟩ = some (.int .i64 ((rd_T38 l0 a1).f1)) ∧ w'.cell? ⟨(ad527.add ((a1).toNat * 4)).block, (ad527.add ((a1).toNat * 4)).off + 2, none⟩ = some (.int .i64 ((rd_T38 l0 a1).f2)) ∧ w'.cell? ⟨(ad527.add ((a1).toNat * 4)).block, (ad527.add ((a1).toNat * 4)).off + 3, none⟩ = some (.int .i64 ((rd_T38 l0 a1).f3))) (ds := []) #[false,false,false,false,false,false,false,false,false,false,false,false,false,false,false,false,false,false,false,false,false,false,false] (by kernel_rfl) rfl rfl ⟨((HB.out.cell (World.block_lt_of_cell? w _ hw527_0)).trans hw527_0), ((HB.out.cell (World.block_lt_of_cell? w _ hw527_1)).trans hw527_1), ((HB.out.cell (World.block_lt_of_cell? w _ hw527_2)).trans hw527_2), ((HB.out.cell (World.block_lt_of_cell? w _ hw527_3)).trans hw527_3)⟩ (fun hHeld => ?_); refine with_tabW impl_MaySplit.tab1 impl_MaySplit.bits1 (fun HT_ HW_ => ?_)
       generalize w.drew = w13 at HB hx527_0 hx527_1 hx527_2 hx527_3 hHeld ⊢
       refine pU 0 5 (v := ?_) (a' := ?_) #[Y,Z,Z,Z,Z,Z,Z,Z,Z,Z,Z,Z,Z,Z,Z,Z,Z,Z,Z,Z,Z,Z,Z] HT_ rfl rfl (by kernel_rfl) ?_ ?_ ?_;rotate_left;(intro w';go_simp;with_reducible rfl);rotate_left;(simp only [Act.put, sA, s0, sN, i64_w, i32_w];rfl)
       refine one_ (i := 1) (N := some 6) #[Y,Y,Z,Z,Z,Z,Z,Z,Z,Z,Z,Z,Z,Z,Z,Z,Z,Z,Z,Z,Z,Z,Z] rfl rfl (one_of HT_.out (by kernel_rfl)) (by decide) (fun K hK => ?_)
       refine goes_ Tryz.func23 (by kernel_rfl) rfl #[.slice (some ad527) l0.length c0] (by rfl) rfl rfl bz ?_
       with_reducible refine (impl_IsQuiet.calls _ _ l0 true _ ?side1 ?side2 A3.out).mono ?_
       (case side1 => repeat (first | exact (Kd.C_below HR0.out HB.out) | (with_reducible refine Kd.C_alloc ?_ _) | (with_reducible refine Kd.C_drewN ?_ _) | (with_reducible refine Kd.C_drew ?_)))
       (case side2 => exact HC0.out)
       rintro e w14 ⟨rfl, hb⟩
       refine ⟨_, rfl, ?_⟩
       replace HB := Aside0.mk (below_step bw hb)
       (try clear hb)
       (try clear hb2)
       (try clear hk)
       (try clear hi)
       refine hK.out _ _ ⟨((HB.out.cell (World.block_lt_of_cell? w _ hw527_0)).trans hw527_0), ((HB.out.cell (World.block_lt_of_cell? w _ hw527_1)).trans hw527_1), ((HB.out.cell (World.block_lt_of_cell? w _ hw527_2)).trans hw527_2), ((HB.out.cell (World.block_lt_of_cell? w _ hw527_3)).trans hw527_3)⟩ (fun hHeld => ?_)
       clear hK K
       refine norm_ (a' := ?_) ?_ ?_
       rotate_left
       ·show Act.put _ (some 6) _ = _
        simp only [Act.put, sA, s0, sN, i64_w, i32_w]
        rfl
       refine pU 2 7 (v := ?_) (a' := ?_) #[Y,Y,Y,Z,Z,Z,Z,Z,Z,Z,Z,Z,Z,Z,Z,Z,Z,Z,Z,Z,Z,Z,Z] HT_ rfl rfl (by kernel_rfl) ?_ ?_ ?_;rotate_left;(intro w';go_simp;with_reducible rfl);rotate_left;(simp only [Act.put, sA, s0, sN, i64_w, i32_w];rfl)
       refine pU 3 8 (v := ?_) (a' := ?_) #[Y,Y,Y,Y,Z,Z,Z,Z,Z,Z,Z,Z,Z,Z,Z,Z,Z,Z,Z,Z,Z,Z,Z] HT_ rfl rfl (by kernel_rfl) ?_ ?_ ?_;rotate_left;(intro w';go_simp;with_reducible rfl);rotate_left;(simp only [Act.put, sA, s0, sN, i64_w, i32_w];rfl)
       refine pU 4 9 (v := ?_) (a' := ?_) #[Y,Y,Y,Y,Y,Z,Z,Z,Z,Z,Z,Z,Z,Z,Z,Z,Z,Z,Z,Z,Z,Z,Z] HT_ rfl rfl (by kernel_rfl) ?_ ?_ ?_;rotate_left;(intro w';go_simp;with_reducible rfl);rotate_left;(simp only [Act.put, sA, s0, sN, i64_w, i32_w];rfl)
       refine one_ (i := 5) (N := some 10) #[Y,Y,Y,Y,Y,Y,Z,Z,Z,Z,Z,Z,Z,Z,Z,Z,Z,Z,Z,Z,Z,Z,Z] rfl rfl (one_of HT_.out (by kernel_rfl)) (by decide) (fun K hK => ?_)
       refine goes_ Tryz.func24 (by kernel_rfl) rfl #[.slice (some ad527) l0.length c0, .int .i64 a1] (by rfl) rfl rfl bz ?_
       with_reducible refine (impl_isBranch.calls k _ _ l0 a1 true _ ?side1 ?side2 A5.out).mono ?_
       (case side1 => repeat (first | exact (Kd.C_below HR0.out HB.out) | (with_reducible refine Kd.C_alloc ?_ _) | (with_reducible refine Kd.C_drewN ?_ _) | (with_reducible refine Kd.C_drew ?_)))
       (case side2 => exact HC0.out)
       rintro e w15 ⟨rfl, hb⟩
       refine ⟨_, rfl, ?_⟩
       replace HB := Aside0.mk (below_step bw hb)
       (try clear hb)
       (try clear hb2)
       (try clear hk)
       (try clear hi)
       refine hK.out _ _ ⟨((HB.out.cell (World.block_lt_of_cell? w _ hw527_0)).trans hw527_0), ((HB.out.cell (World.block_lt_of_cell? w _ hw527_1)).trans hw527_1), ((HB.out.cell (World.block_lt_of_cell? w _ hw527_2)).trans hw527_2), ((HB.out.cell (World.block_lt_of_cell? w _ hw527_3)).trans hw527_3)⟩ (fun hHeld => ?_)
       clear hK K
       refine norm_ (a' := ?_) ?_ ?_
       rotate_left
       ·show Act.put _ (some 10) _ = _
        simp only [Act.put, sA, s0, sN, i64_w, i32_w]
        rfl
       refine pU 6 11 (v := ?_) (a' := ?_) #[Y,Y,Y,Y,Y,Y,Y,Z,Z,Z,Z,Z,Z,Z,Z,Z,Z,Z,Z,Z,Z,Z,Z] HT_ rfl rfl (by kernel_rfl) ?_ ?_ ?_;rotate_left;(intro w';go_simp;with_reducible rfl);rotate_left;(simp only [Act.put, sA, s0, sN, i64_w, i32_w];rfl)
       refine pU 7 12 (v := ?_) (a' := ?_) #[Y,Y,Y,Y,Y,Y,Y,Y,Z,Z,Z,Z,Z,Z,Z,Z,Z,Z,Z,Z,Z,Z,Z] HT_ rfl rfl (by kernel_rfl) ?_ ?_ ?_;rotate_left;(intro w';go_simp;with_reducible rfl);rotate_left;(simp only [Act.put, sA, s0, sN, i64_w, i32_w];rfl)
       refine pU 8 13 (v := ?_) (a' := ?_) #[Y,Y,Y,Y,Y,Y,Y,Y,Y,Z,Z,Z,Z,Z,Z,Z,Z,Z,Z,Z,Z,Z,Z] HT_ rfl rfl (by kernel_rfl) ?_ ?_ ?_;rotate_left;(intro w';go_simp;with_reducible rfl);rotate_left;(simp only [Act.put, sA, s0, sN, i64_w, i32_w];rfl)
       refine pU 10 15 (v := ?_) (a' := ?_) #[Y,Y,Y,Y,Y,Y,Y,Y,Y,Z,Y,Z,Z,Z,Z,Z,Z,Z,Z,Z,Z,Z,Z] HT_ rfl rfl (by kernel_rfl) ?_ ?_ ?_;rotate_left;(intro w';go_simp;with_reducible rfl);rotate_left;(simp only [Act.put, sA, s0, sN, i64_w, i32_w];rfl)
       refine pU 13 18 (v := ?_) (a' := ?_) #[Y,Y,Y,Y,Y,Y,Y,Y,Y,Z,Y,Z,Z,Y,Z,Z,Z,Z,Z,Z,Z,Z,Z] HT_ rfl rfl (by kernel_rfl) ?_ ?_ ?_;rotate_left;(intro w';go_simp;with_reducible rfl);rotate_left;(simp only [Act.put, sA, s0, sN, i64_w, i32_w];rfl)
       refine pU 14 19 (v := ?_) (a' := ?_) #[Y,Y,Y,Y,Y,Y,Y,Y,Y,Z,Y,Z,Z,Y,Y,Z,Z,Z,Z,Z,Z,Z,Z] HT_ rfl rfl (by kernel_rfl) ?_ ?_ ?_;rotate_left;(intro w';go_simp;with_reducible rfl);rotate_left;(simp only [Act.put, sA, s0, sN, i64_w, i32_w];rfl)
       refine pU 15 20 (v := ?_) (a' := ?_) #[Y,Y,Y,Y,Y,Y,Y,Y,Y,Z,Y,Z,Z,Y,Y,Y,Z,Z,Z,Z,Z,Z,Z] HT_ rfl rfl (by kernel_rfl) ?_ ?_ ?_;rotate_left;(intro w';go_simp;with_reducible rfl);rotate_left;(simp only [Act.put, sA, s0, sN, i64_w, i32_w];rfl)
       refine pU 16 21 (v := ?_) (a' := ?_) #[Y,Y,Y,Y,Y,Y,Y,Y,Y,Z,Y,Z,Z,Y,Y,Y,Y,Z,Z,Z,Z,Z,Z] HT_ rfl rfl (by kernel_rfl) ?_ ?_ ?_;rotate_left;(intro w';go_simp;with_reducible rfl);rotate_left;(simp only [Act.put, sA, s0, sN, i64_w, i32_w];rfl)
       refine take_ (i := 17) (N := some 22) (v := ?_) (a' := ?_) #[Y,Y,Y,Y,Y,Y,Y,Y,Y,Z,Y,Z,Z,Y,Y,Y,Y,Y,Z,Z,Z,Z,Z] rfl rfl (take_ofW HT_.out HW_.out (by kernel_rfl)) (fun _ _ _ h => h) (Or.inl ⟨by rfl, ?_⟩) hHeld ?_ ?_
       rotate_left
       ·rintro w' ⟨s1, s2, s3, s4⟩
        go_simp
        with_reducible rfl
       rotate_left
       ·simp only [Act.put, sA, s0, sN, i64_w, i32_w]
        rfl
       refine one_ (i := 9) (N := some 14) #[Y,Y,Y,Y,Y,Y,Y,Y,Y,Y,Y,Z,Z,Y,Y,Y,Y,Y,Z,Z,Z,Z,Z] rfl rfl (one_of HT_.out (by kernel_rfl)) (by decide) (fun K hK => ?_)
       refine goes_ Tryz.func14 (by kernel_rfl) rfl #[.slice (some ad527) l0.length c0] (by rfl) rfl rfl bz ?_
       with_reducible refine (impl_UniformAt.calls k _ _ l0 t523 _ ?side1 ?side2 A7.out).mono ?_
       (case side1 => repeat (first | exact (Kd.C_below HR0.out HB.out) | (with_reducible refine Kd.C_alloc ?_ _) | (with_reducible refine Kd.C_drewN ?_ _) | (with_reducible refine Kd.C_drew ?_)))
       (case side2 => exact HC0.out)
       rintro e w16 ⟨v524, rfl, ho0, hb⟩
       refine ⟨_, rfl, ?_⟩
       have HO525 := Aside0.mk (Kd.R_lower ho0 (below_size bw))
       replace HB := Aside0.mk (below_step bw hb)
       (try clear hb)
       (try clear hb2)
       (try clear hk)
       (try clear hi)
       (try clear ho0)
       obtain ⟨Ao17, co17, eo17⟩ := Kd.R_slice HO525.out
       (first | subst eo17 | (injection eo17 with f1_ f2_ f3_; have f4_ := f1_.symm; have f5_ := f3_.symm; clear f1_ f2_ f3_; subst f4_; subst f5_))
       have p526 : 0 ≤ (a1 : Int) := dT
       have q526 : a1 < (t523.length : Int) := dT
       obtain ⟨ad526, e526, hx526_0⟩ := Kd.at_int (Kd.R_reads' HO525.out).2.2 a1 p526 q526
       cases e526
       replace p526 := eq_true p526
       replace q526 := eq_true q526
       refine hK.out _ _ ⟨((HB.out.cell (World.block_lt_of_cell? w _ hw527_0)).trans hw527_0), ((HB.out.cell (World.block_lt_of_cell? w _ hw527_1)).trans hw527_1), ((HB.out.cell (World.block_lt_of_cell? w _ hw527_2)).trans hw527_2), ((HB.out.cell (World.block_lt_of_cell? w _ hw527_3)).trans hw527_3)⟩ (fun hHeld => ?_)
       clear hK K
       refine norm_ (a' := ?_) ?_ ?_
       rotate_left
       ·show Act.put _ (some 14) _ = _
        simp only [Act.put, sA, s0, sN, i64_w, i32_w]
        rfl
       refine pU 11 16 (v := ?_) (a' := ?_) #[Y,Y,Y,Y,Y,Y,Y,Y,Y,Y,Y,Y,Z,Y,Y,Y,Y,Y,Z,Z,Z,Z,Z] HT_ rfl rfl (by kernel_rfl) ?_ ?_ ?_;rotate_left;(intro w';go_simp;with_reducible rfl);rotate_left;(simp only [Act.put, sA, s0, sN, i64_w, i32_w];rfl)
       refine one_ (i := 12) (N := some 17) #[Y,Y,Y,Y,Y,Y,Y,Y,Y,Y,Y,Y,Y,Y,Y,Y,Y,Y,Z,Z,Z,Z,Z] rfl rfl (one_of HT_.out (by kernel_rfl)) (by decide) (fun K hK => ?_)
       refine value_ (v := .int .i64 (rd t523 a1)) (w1 := w16) rfl rfl ?_ ?_
       ·first | (go_simp; done) | (go_simp; with_reducible rfl) | (go_simp; rfl)
       refine hK.out _ _ ⟨((HB.out.cell (World.block_lt_of_cell? w _ hw527_0)).trans hw527_0), ((HB.out.cell (World.block_lt_of_cell? w _ hw527_1)).trans hw527_1), ((HB.out.cell (World.block_lt_of_cell? w _ hw527_2)).trans hw527_2), ((HB.out.cell (World.block_lt_of_cell? w _ hw527_3)).trans hw527_3)⟩ (fun hHeld => ?_)
       clear hK K
       refine norm_ (a' := ?_) ?_ ?_
       rotate_left
       ·show Act.put _ (some 17) _ = _
        simp only [Act.put, sA, s0, sN, i64_w, i32_w]
        rfl
       refine pU 18 23 (v := ?_) (a' := ?_) #[Y,Y,Y,Y,Y,Y,Y,Y,Y,Y,Y,Y,Y,Y,Y,Y,Y,Y,Y,Z,Z,Z,Z] HT_ rfl rfl (by kernel_rfl) ?_ ?_ ?_;rotate_left;(intro w';go_simp;with_reducible rfl);rotate_left;(simp only [Act.put, sA, s0, sN, i64_w, i32_w];rfl)
       refine pU 19 24 (v := ?_) (a' := ?_) #[Y,Y,Y,Y,Y,Y,Y,Y,Y,Y,Y,Y,Y,Y,Y,Y,Y,Y,Y,Y,Z,Z,Z] HT_ rfl rfl (by kernel_rfl) ?_ ?_ ?_;rotate_left;(intro w';go_simp;with_reducible rfl);rotate_left;(simp only [Act.put, sA, s0, sN, i64_w, i32_w];rfl)
       refine pU 20 25 (v := ?_) (a' := ?_) #[Y,Y,Y,Y,Y,Y,Y,Y,Y,Y,Y,Y,Y,Y,Y,Y,Y,Y,Y,Y,Y,Z,Z] HT_ rfl rfl (by kernel_rfl) ?_ ?_ ?_;rotate_left;(intro w';go_simp;with_reducible rfl);rotate_left;(simp only [Act.put, sA, s0, sN, i64_w, i32_w];rfl)
       refine pU 21 26 (v := ?_) (a' := ?_) #[Y,Y,Y,Y,Y,Y,Y,Y,Y,Y,Y,Y,Y,Y,Y,Y,Y,Y,Y,Y,Y,Y,Z] HT_ rfl rfl (by kernel_rfl) ?_ ?_ ?_;rotate_left;(intro w';go_simp;with_reducible rfl);rotate_left;(simp only [Act.put, sA, s0, sN, i64_w, i32_w];rfl)
       refine pU 22 4 (v := ?_) (a' := ?_) #[Y,Y,Y,Y,Y,Y,Y,Y,Y,Y,Y,Y,Y,Y,Y,Y,Y,Y,Y,Y,Y,Y,Y] HT_ rfl rfl (by kernel_rfl) ?_ ?_ ?_;rotate_left;(intro w';go_simp;with_reducible rfl);rotate_left;(simp only [Act.put, sA, s0, sN, i64_w, i32_w];rfl)
       refine done_ (done_of HT_.out (by kernel_rfl)) ?_
       try go_wp2
       go_ret
       exact ⟨by first | rfl | (simp [errW_none, errW_some] <;> rfl) | (simp only [← hji12]; first | rfl | (simp [errW_none, errW_some] <;> rfl)) | (simp [*, errW_none, errW_some] <;> rfl), bw⟩
      ·rw [if_neg c11] at H
       exact absurd H (by simp)
     ·rw [if_neg c10] at H
      exact absurd H (by simp)
    ·rw [if_neg c9] at H
     exact absurd H (by simp)
   ·rw [if_neg c8] at H
    exact absurd H (by simp)
  ·replace c6 := Bool.eq_false_iff.mpr c6
   subst c6
   have H1 : (some false) = some r := by rw [if_neg (show ¬ (false = true) by decide)] at H; exact H
   clear H
   have H := H1
   clear H1
   obtain rfl := Option.some.inj H
   go_enter Tryz.func9, Tryz.ntmps9
   try go_wp2
   replace HB := Aside0.mk (below_drew1 HB.out)
   refine start_ (n := 23) (S := fun w' => True) (ds := []) #[false,false,false,false,false,false,false,false,false,false,false,false,false,false,false,false,false,false,false,false,false,false,false] (by kernel_rfl) rfl rfl trivial (fun hHeld => ?_); refine with_tabW impl_MaySplit.tab1 impl_MaySplit.bits1 (fun HT_ HW_ => ?_)
   generalize w.drew = w18 at HB hHeld ⊢
   refine pU 0 5 (v := ?_) (a' := ?_) #[Y,Z,Z,Z,Z,Z,Z,Z,Z,Z,Z,Z,Z,Z,Z,Z,Z,Z,Z,Z,Z,Z,Z] HT_ rfl rfl (by kernel_rfl) ?_ ?_ ?_;rotate_left;(intro w';go_simp;with_reducible rfl);rotate_left;(simp only [Act.put, sA, s0, sN, i64_w, i32_w];rfl)
   refine one_ (i := 1) (N := some 6) #[Y,Y,Z,Z,Z,Z,Z,Z,Z,Z,Z,Z,Z,Z,Z,Z,Z,Z,Z,Z,Z,Z,Z] rfl rfl (one_of HT_.out (by kernel_rfl)) (by decide) (fun K hK => ?_)
   refine goes_ Tryz.func23 (by kernel_rfl) rfl #[.slice A0 l0.length c0] (by rfl) rfl rfl bz ?_
   with_reducible refine (impl_IsQuiet.calls _ _ l0 true _ ?side1 ?side2 A3.out).mono ?_
   (case side1 => repeat (first | exact (Kd.C_below HR0.out HB.out) | (with_reducible refine Kd.C_alloc ?_ _) | (with_reducible refine Kd.C_drewN ?_ _) | (with_reducible refine Kd.C_drew ?_)))
   (case side2 => exact HC0.out)
   rintro e w19 ⟨rfl, hb⟩
   refine ⟨_, rfl, ?_⟩
   replace HB := Aside0.mk (below_step bw hb)
   (try clear hb)
   (try clear hb2)
   (try clear hk)
   (try clear hi)
   refine hK.out _ _ trivial (fun hHeld => ?_)
   clear hK K
   refine norm_ (a' := ?_) ?_ ?_
   rotate_left
   ·show Act.put _ (some 6) _ = _
    simp only [Act.put, sA, s0, sN, i64_w, i32_w]
    rfl
   refine pU 2 7 (v := ?_) (a' := ?_) #[Y,Y,Y,Z,Z,Z,Z,Z,Z,Z,Z,Z,Z,Z,Z,Z,Z,Z,Z,Z,Z,Z,Z] HT_ rfl rfl (by kernel_rfl) ?_ ?_ ?_;rotate_left;(intro w';go_simp;with_reducible rfl);rotate_left;(simp only [Act.put, sA, s0, sN, i64_w, i32_w];rfl)
   refine pU 3 8 (v := ?_) (a' := ?_) #[Y,Y,Y,Y,Z,Z,Z,Z,Z,Z,Z,Z,Z,Z,Z,Z,Z,Z,Z,Z,Z,Z,Z] HT_ rfl rfl (by kernel_rfl) ?_ ?_ ?_;rotate_left;(intro w';go_simp;with_reducible rfl);rotate_left;(simp only [Act.put, sA, s0, sN, i64_w, i32_w];rfl)
   refine pU 4 9 (v := ?_) (a' := ?_) #[Y,Y,Y,Y,Y,Z,Z,Z,Z,Z,Z,Z,Z,Z,Z,Z,Z,Z,Z,Z,Z,Z,Z] HT_ rfl rfl (by kernel_rfl) ?_ ?_ ?_;rotate_left;(intro w';go_simp;with_reducible rfl);rotate_left;(simp only [Act.put, sA, s0, sN, i64_w, i32_w];rfl)
   refine one_ (i := 5) (N := some 10) #[Y,Y,Y,Y,Y,Y,Z,Z,Z,Z,Z,Z,Z,Z,Z,Z,Z,Z,Z,Z,Z,Z,Z] rfl rfl (one_of HT_.out (by kernel_rfl)) (by decide) (fun K hK => ?_)
   refine goes_ Tryz.func24 (by kernel_rfl) rfl #[.slice A0 l0.length c0, .int .i64 a1] (by rfl) rfl rfl bz ?_
   with_reducible refine (impl_isBranch.calls k _ _ l0 a1 false _ ?side1 ?side2 A5.out).mono ?_
   (case side1 => repeat (first | exact (Kd.C_below HR0.out HB.out) | (with_reducible refine Kd.C_alloc ?_ _) | (with_reducible refine Kd.C_drewN ?_ _) | (with_reducible refine Kd.C_drew ?_)))
   (case side2 => exact HC0.out)
   rintro e w20 ⟨rfl, hb⟩
   refine ⟨_, rfl, ?_⟩
   replace HB := Aside0.mk (below_step bw hb)
   (try clear hb)
   (try clear hb2)
   (try clear hk)
   (try clear hi)
   refine hK.out _ _ trivial (fun hHeld => ?_)
   clear hK K
   refine norm_ (a' := ?_) ?_ ?_
   rotate_left
   ·show Act.put _ (some 10) _ = _
    simp only [Act.put, sA, s0, sN, i64_w, i32_w]
    rfl
   refine pU 6 11 (v := ?_) (a' := ?_) #[Y,Y,Y,Y,Y,Y,Y,Z,Z,Z,Z,Z,Z,Z,Z,Z,Z,Z,Z,Z,Z,Z,Z] HT_ rfl rfl (by kernel_rfl) ?_ ?_ ?_;rotate_left;(intro w';go_simp;with_reducible rfl);rotate_left;(simp only [Act.put, sA, s0, sN, i64_w, i32_w];rfl)
   refine pU 7 12 (v := ?_) (a' := ?_) #[Y,Y,Y,Y,Y,Y,Y,Y,Z,Z,Z,Z,Z,Z,Z,Z,Z,Z,Z,Z,Z,Z,Z] HT_ rfl rfl (by kernel_rfl) ?_ ?_ ?_;rotate_left;(intro w';go_simp;with_reducible rfl);rotate_left;(simp only [Act.put, sA, s0, sN, i64_w, i32_w];rfl)
   refine pure_ (i := 8) (N := some 13) (v := undef) (a' := ?_) #[Y,Y,Y,Y,Y,Y,Y,Y,Y,Z,Z,Z,Z,Z,Z,Z,Z,Z,Z,Z,Z,Z,Z] rfl rfl (any_of HT_.out (by kernel_rfl)) (fun _ _ _ h => h) (Or.inr ⟨by rfl, rfl⟩) ?_ ?_
   rotate_left
   ·simp only [Act.put, sA, s0, sN, i64_w, i32_w]
    rfl
   refine pure_ (i := 9) (N := some 14) (v := undef) (a' := ?_) #[Y,Y,Y,Y,Y,Y,Y,Y,Y,Y,Z,Z,Z,Z,Z,Z,Z,Z,Z,Z,Z,Z,Z] rfl rfl (any_of HT_.out (by kernel_rfl)) (fun _ _ _ h => h) (Or.inr ⟨by rfl, rfl⟩) ?_ ?_
   rotate_left
   ·simp only [Act.put, sA, s0, sN, i64_w, i32_w]
    rfl
   refine pure_ (i := 10) (N := some 15) (v := undef) (a' := ?_) #[Y,Y,Y,Y,Y,Y,Y,Y,Y,Y,Y,Z,Z,Z,Z,Z,Z,Z,Z,Z,Z,Z,Z] rfl rfl (any_of HT_.out (by kernel_rfl)) (fun _ _ _ h => h) (Or.inr ⟨by rfl, rfl⟩) ?_ ?_
   rotate_left
   ·simp only [Act.put, sA, s0, sN, i64_w, i32_w]
    rfl
   refine pure_ (i := 11) (N := some 16) (v := undef) (a' := ?_) #[Y,Y,Y,Y,Y,Y,Y,Y,Y,Y,Y,Y,Z,Z,Z,Z,Z,Z,Z,Z,Z,Z,Z] rfl rfl (any_of HT_.out (by kernel_rfl)) (fun _ _ _ h => h) (Or.inr ⟨by rfl, rfl⟩) ?_ ?_
   rotate_left
   ·simp only [Act.put, sA, s0, sN, i64_w, i32_w]
    rfl
   refine pure_ (i := 12) (N := some 17) (v := undef) (a' := ?_) #[Y,Y,Y,Y,Y,Y,Y,Y,Y,Y,Y,Y,Y,Z,Z,Z,Z,Z,Z,Z,Z,Z,Z] rfl rfl (any_of HT_.out (by kernel_rfl)) (fun _ _ _ h => h) (Or.inr ⟨by rfl, rfl⟩) ?_ ?_
   rotate_left
   ·simp only [Act.put, sA, s0, sN, i64_w, i32_w]
    rfl
   refine pure_ (i := 13) (N := some 18) (v := undef) (a' := ?_) #[Y,Y,Y,Y,Y,Y,Y,Y,Y,Y,Y,Y,Y,Y,Z,Z,Z,Z,Z,Z,Z,Z,Z] rfl rfl (any_of HT_.out (by kernel_rfl)) (fun _ _ _ h => h) (Or.inr ⟨by rfl, rfl⟩) ?_ ?_
   rotate_left
   ·simp only [Act.put, sA, s0, sN, i64_w, i32_w]
    rfl
   refine pure_ (i := 14) (N := some 19) (v := undef) (a' := ?_) #[Y,Y,Y,Y,Y,Y,Y,Y,Y,Y,Y,Y,Y,Y,Y,Z,Z,Z,Z,Z,Z,Z,Z] rfl rfl (any_of HT_.out (by kernel_rfl)) (fun _ _ _ h => h) (Or.inr ⟨by rfl, rfl⟩) ?_ ?_
   rotate_left
   ·simp only [Act.put, sA, s0, sN, i64_w, i32_w]
    rfl
   refine pure_ (i := 15) (N := some 20) (v := undef) (a' := ?_) #[Y,Y,Y,Y,Y,Y,Y,Y,Y,Y,Y,Y,Y,Y,Y,Y,Z,Z,Z,Z,Z,Z,Z] rfl rfl (any_of HT_.out (by kernel_rfl)) (fun _ _ _ h => h) (Or.inr ⟨by rfl, rfl⟩) ?_ ?_
   rotate_left
   ·simp only [Act.put, sA, s0, sN, i64_w, i32_w]
    rfl
   refine pure_ (i := 16) (N := some 21) (v := undef) (a' := ?_) #[Y,Y,Y,Y,Y,Y,Y,Y,Y,Y,Y,Y,Y,Y,Y,Y,Y,Z,Z,Z,Z,Z,Z] rfl rfl (any_of HT_.out (by kernel_rfl)) (fun _ _ _ h => h) (Or.inr ⟨by rfl, rfl⟩) ?_ ?_
   rotate_left
   ·simp only [Act.put, sA, s0, sN, i64_w, i32_w]
    rfl
   refine pure_ (i := 17) (N := some 22) (v := undef) (a' := ?_) #[Y,Y,Y,Y,Y,Y,Y,Y,Y,Y,Y,Y,Y,Y,Y,Y,Y,Y,Z,Z,Z,Z,Z] rfl rfl (any_of HT_.out (by kernel_rfl)) (fun _ _ _ h => h) (Or.inr ⟨by rfl, rfl⟩) ?_ ?_
   rotate_left
   ·simp only [Act.put, sA, s0, sN, i64_w, i32_w]
    rfl
   refine pure_ (i := 18) (N := some 23) (v := undef) (a' := ?_) #[Y,Y,Y,Y,Y,Y,Y,Y,Y,Y,Y,Y,Y,Y,Y,Y,Y,Y,Y,Z,Z,Z,Z] rfl rfl (any_of HT_.out (by kernel_rfl)) (fun _ _ _ h => h) (Or.inr ⟨by rfl, rfl⟩) ?_ ?_
   rotate_left
   ·simp only [Act.put, sA, s0, sN, i64_w, i32_w]
    rfl
   refine pure_ (i := 19) (N := some 24) (v := undef) (a' := ?_) #[Y,Y,Y,Y,Y,Y,Y,Y,Y,Y,Y,Y,Y,Y,Y,Y,Y,Y,Y,Y,Z,Z,Z] rfl rfl (any_of HT_.out (by kernel_rfl)) (fun _ _ _ h => h) (Or.inr ⟨by rfl, rfl⟩) ?_ ?_
   rotate_left
   ·simp only [Act.put, sA, s0, sN, i64_w, i32_w]
    rfl
   refine pure_ (i := 20) (N := some 25) (v := undef) (a' := ?_) #[Y,Y,Y,Y,Y,Y,Y,Y,Y,Y,Y,Y,Y,Y,Y,Y,Y,Y,Y,Y,Y,Z,Z] rfl rfl (any_of HT_.out (by kernel_rfl)) (fun _ _ _ h => h) (Or.inr ⟨by rfl, rfl⟩) ?_ ?_
   rotate_left
   ·simp only [Act.put, sA, s0, sN, i64_w, i32_w]
    rfl
   refine pU 21 26 (v := ?_) (a' := ?_) #[Y,Y,Y,Y,Y,Y,Y,Y,Y,Y,Y,Y,Y,Y,Y,Y,Y,Y,Y,Y,Y,Y,Z] HT_ rfl rfl (by kernel_rfl) ?_ ?_ ?_;rotate_left;(intro w';go_simp;with_reducible rfl);rotate_left;(simp only [Act.put, sA, s0, sN, i64_w, i32_w];rfl)
   refine pU 22 4 (v := ?_) (a' := ?_) #[Y,Y,Y,Y,Y,Y,Y,Y,Y,Y,Y,Y,Y,Y,Y,Y,Y,Y,Y,Y,Y,Y,Y] HT_ rfl rfl (by kernel_rfl) ?_ ?_ ?_;rotate_left;(intro w';go_simp;with_reducible rfl);rotate_left;(simp only [Act.put, sA, s0, sN, i64_w, i32_w];rfl)
   refine done_ (done_of HT_.out (by kernel_rfl)) ?_
   try go_wp2
   go_ret
   exact ⟨eR, bw⟩
 ·replace c4 := Bool.eq_false_iff.mpr c4
  subst c4
  have H1 : (some false) = some r := by rw [if_neg (show ¬ (false = true) by decide)] at H; exact H
  clear H
  have H := H1
  clear H1
  obtain rfl := Option.some.inj H
  go_enter Tryz.func9, Tryz.ntmps9
  try go_wp2
  replace HB := Aside0.mk (below_drew1 HB.out)
  refine start_ (n := 23) (S := fun w' => True) (ds := []) #[false,false,false,false,false,false,false,false,false,false,false,false,false,false,false,false,false,false,false,false,false,false,false] (by kernel_rfl) rfl rfl trivial (fun hHeld => ?_); refine with_tabW impl_MaySplit.tab1 impl_MaySplit.bits1 (fun HT_ HW_ => ?_)
  generalize w.drew = w21 at HB hHeld ⊢
  refine pU 0 5 (v := ?_) (a' := ?_) #[Y,Z,Z,Z,Z,Z,Z,Z,Z,Z,Z,Z,Z,Z,Z,Z,Z,Z,Z,Z,Z,Z,Z] HT_ rfl rfl (by kernel_rfl) ?_ ?_ ?_;rotate_left;(intro w';go_simp;with_reducible rfl);rotate_left;(simp only [Act.put, sA, s0, sN, i64_w, i32_w];rfl)
  refine one_ (i := 1) (N := some 6) #[Y,Y,Z,Z,Z,Z,Z,Z,Z,Z,Z,Z,Z,Z,Z,Z,Z,Z,Z,Z,Z,Z,Z] rfl rfl (one_of HT_.out (by kernel_rfl)) (by decide) (fun K hK => ?_)
  refine goes_ Tryz.func23 (by kernel_rfl) rfl #[.slice A0 l0.length c0] (by rfl) rfl rfl bz ?_
  with_reducible refine (impl_IsQuiet.calls _ _ l0 false _ ?side1 ?side2 A3.out).mono ?_
  (case side1 => repeat (first | exact (Kd.C_below HR0.out HB.out) | (with_reducible refine Kd.C_alloc ?_ _) | (with_reducible refine Kd.C_drewN ?_ _) | (with_reducible refine Kd.C_drew ?_)))
  (case side2 => exact HC0.out)
  rintro e w22 ⟨rfl, hb⟩
  refine ⟨_, rfl, ?_⟩
  replace HB := Aside0.mk (below_step bw hb)
  (try clear hb)
  (try clear hb2)
  (try clear hk)
  (try clear hi)
  refine hK.out _ _ trivial (fun hHeld => ?_)
  clear hK K
  refine norm_ (a' := ?_) ?_ ?_
  rotate_left
  ·show Act.put _ (some 6) _ = _
   simp only [Act.put, sA, s0, sN, i64_w, i32_w]
   rfl
  refine pU 2 7 (v := ?_) (a' := ?_) #[Y,Y,Y,Z,Z,Z,Z,Z,Z,Z,Z,Z,Z,Z,Z,Z,Z,Z,Z,Z,Z,Z,Z] HT_ rfl rfl (by kernel_rfl) ?_ ?_ ?_;rotate_left;(intro w';go_simp;with_reducible rfl);rotate_left;(simp only [Act.put, sA, s0, sN, i64_w, i32_w];rfl)
  refine pure_ (i := 3) (N := some 8) (v := undef) (a' := ?_) #[Y,Y,Y,Y,Z,Z,Z,Z,Z,Z,Z,Z,Z,Z,Z,Z,Z,Z,Z,Z,Z,Z,Z] rfl rfl (any_of HT_.out (by kernel_rfl)) (fun _ _ _ h => h) (Or.inr ⟨by rfl, rfl⟩) ?_ ?_
  rotate_left
  ·simp only [Act.put, sA, s0, sN, i64_w, i32_w]
   rfl
  refine pure_ (i := 4) (N := some 9) (v := undef) (a' := ?_) #[Y,Y,Y,Y,Y,Z,Z,Z,Z,Z,Z,Z,Z,Z,Z,Z,Z,Z,Z,Z,Z,Z,Z] rfl rfl (any_of HT_.out (by kernel_rfl)) (fun _ _ _ h => h) (Or.inr ⟨by rfl, rfl⟩) ?_ ?_
  rotate_left
  ·simp only [Act.put, sA, s0, sN, i64_w, i32_w]
   rfl
  refine pure_ (i := 5) (N := some 10) (v := undef) (a' := ?_) #[Y,Y,Y,Y,Y,Y,Z,Z,Z,Z,Z,Z,Z,Z,Z,Z,Z,Z,Z,Z,Z,Z,Z] rfl rfl (any_of HT_.out (by kernel_rfl)) (fun _ _ _ h => h) (Or.inr ⟨by rfl, rfl⟩) ?_ ?_
  rotate_left
  ·simp only [Act.put, sA, s0, sN, i64_w, i32_w]
   rfl
  refine pU 6 11 (v := ?_) (a' := ?_) #[Y,Y,Y,Y,Y,Y,Y,Z,Z,Z,Z,Z,Z,Z,Z,Z,Z,Z,Z,Z,Z,Z,Z] HT_ rfl rfl (by kernel_rfl) ?_ ?_ ?_;rotate_left;(intro w';go_simp;with_reducible rfl);rotate_left;(simp only [Act.put, sA, s0, sN, i64_w, i32_w];rfl)
  refine pU 7 12 (v := ?_) (a' := ?_) #[Y,Y,Y,Y,Y,Y,Y,Y,Z,Z,Z,Z,Z,Z,Z,Z,Z,Z,Z,Z,Z,Z,Z] HT_ rfl rfl (by kernel_rfl) ?_ ?_ ?_;rotate_left;(intro w';go_simp;with_reducible rfl);rotate_left;(simp only [Act.put, sA, s0, sN, i64_w, i32_w];rfl)
  refine pure_ (i := 8) (N := some 13) (v := undef) (a' := ?_) #[Y,Y,Y,Y,Y,Y,Y,Y,Y,Z,Z,Z,Z,Z,Z,Z,Z,Z,Z,Z,Z,Z,Z] rfl rfl (any_of HT_.out (by kernel_rfl)) (fun _ _ _ h => h) (Or.inr ⟨by rfl, rfl⟩) ?_ ?_
  rotate_left
  ·simp only [Act.put, sA, s0, sN, i64_w, i32_w]
   rfl
  refine pure_ (i := 9) (N := some 14) (v := undef) (a' := ?_) #[Y,Y,Y,Y,Y,Y,Y,Y,Y,Y,Z,Z,Z,Z,Z,Z,Z,Z,Z,Z,Z,Z,Z] rfl rfl (any_of HT_.out (by kernel_rfl)) (fun _ _ _ h => h) (Or.inr ⟨by rfl, rfl⟩) ?_ ?_
  rotate_left
  ·simp only [Act.put, sA, s0, sN, i64_w, i32_w]
   rfl
  refine pure_ (i := 10) (N := some 15) (v := undef) (a' := ?_) #[Y,Y,Y,Y,Y,Y,Y,Y,Y,Y,Y,Z,Z,Z,Z,Z,Z,Z,Z,Z,Z,Z,Z] rfl rfl (any_of HT_.out (by kernel_rfl)) (fun _ _ _ h => h) (Or.inr ⟨by rfl, rfl⟩) ?_ ?_
  rotate_left
  ·simp only [Act.put, sA, s0, sN, i64_w, i32_w]
   rfl
  refine pure_ (i := 11) (N := some 16) (v := undef) (a' := ?_) #[Y,Y,Y,Y,Y,Y,Y,Y,Y,Y,Y,Y,Z,Z,Z,Z,Z,Z,Z,Z,Z,Z,Z] rfl rfl (any_of HT_.out (by kernel_rfl)) (fun _ _ _ h => h) (Or.inr ⟨by rfl, rfl⟩) ?_ ?_
  rotate_left
  ·simp only [Act.put, sA, s0, sN, i64_w, i32_w]
   rfl
  refine pure_ (i := 12) (N := some 17) (v := undef) (a' := ?_) #[Y,Y,Y,Y,Y,Y,Y,Y,Y,Y,Y,Y,Y,Z,Z,Z,Z,Z,Z,Z,Z,Z,Z] rfl rfl (any_of HT_.out (by kernel_rfl)) (fun _ _ _ h => h) (Or.inr ⟨by rfl, rfl⟩) ?_ ?_
  rotate_left
  ·simp only [Act.put, sA, s0, sN, i64_w, i32_w]
   rfl
  refine pure_ (i := 13) (N := some 18) (v := undef) (a' := ?_) #[Y,Y,Y,Y,Y,Y,Y,Y,Y,Y,Y,Y,Y,Y,Z,Z,Z,Z,Z,Z,Z,Z,Z] rfl rfl (any_of HT_.out (by kernel_rfl)) (fun _ _ _ h => h) (Or.inr ⟨by rfl, rfl⟩) ?_ ?_
  rotate_left
  ·simp only [Act.put, sA, s0, sN, i64_w, i32_w]
   rfl
  refine pure_ (i := 14) (N := some 19) (v := undef) (a' := ?_) #[Y,Y,Y,Y,Y,Y,Y,Y,Y,Y,Y,Y,Y,Y,Y,Z,Z,Z,Z,Z,Z,Z,Z] rfl rfl (any_of HT_.out (by kernel_rfl)) (fun _ _ _ h => h) (Or.inr ⟨by rfl, rfl⟩) ?_ ?_
  rotate_left
  ·simp only [Act.put, sA, s0, sN, i64_w, i32_w]
   rfl
  refine pure_ (i := 15) (N := some 20) (v := undef) (a' := ?_) #[Y,Y,Y,Y,Y,Y,Y,Y,Y,Y,Y,Y,Y,Y,Y,Y,Z,Z,Z,Z,Z,Z,Z] rfl rfl (any_of HT_.out (by kernel_rfl)) (fun _ _ _ h => h) (Or.inr ⟨by rfl, rfl⟩) ?_ ?_
  rotate_left
  ·simp only [Act.put, sA, s0, sN, i64_w, i32_w]
   rfl
  refine pure_ (i := 16) (N := some 21) (v := undef) (a' := ?_) #[Y,Y,Y,Y,Y,Y,Y,Y,Y,Y,Y,Y,Y,Y,Y,Y,Y,Z,Z,Z,Z,Z,Z] rfl rfl (any_of HT_.out (by kernel_rfl)) (fun _ _ _ h => h) (Or.inr ⟨by rfl, rfl⟩) ?_ ?_
  rotate_left
  ·simp only [Act.put, sA, s0, sN, i64_w, i32_w]
   rfl
  refine pure_ (i := 17) (N := some 22) (v := undef) (a' := ?_) #[Y,Y,Y,Y,Y,Y,Y,Y,Y,Y,Y,Y,Y,Y,Y,Y,Y,Y,Z,Z,Z,Z,Z] rfl rfl (any_of HT_.out (by kernel_rfl)) (fun _ _ _ h => h) (Or.inr ⟨by rfl, rfl⟩) ?_ ?_
  rotate_left
  ·simp only [Act.put, sA, s0, sN, i64_w, i32_w]
   rfl
  refine pure_ (i := 18) (N := some 23) (v := undef) (a' := ?_) #[Y,Y,Y,Y,Y,Y,Y,Y,Y,Y,Y,Y,Y,Y,Y,Y,Y,Y,Y,Z,Z,Z,Z] rfl rfl (any_of HT_.out (by kernel_rfl)) (fun _ _ _ h => h) (Or.inr ⟨by rfl, rfl⟩) ?_ ?_
  rotate_left
  ·simp only [Act.put, sA, s0, sN, i64_w, i32_w]
   rfl
  refine pure_ (i := 19) (N := some 24) (v := undef) (a' := ?_) #[Y,Y,Y,Y,Y,Y,Y,Y,Y,Y,Y,Y,Y,Y,Y,Y,Y,Y,Y,Y,Z,Z,Z] rfl rfl (any_of HT_.out (by kernel_rfl)) (fun _ _ _ h => h) (Or.inr ⟨by rfl, rfl⟩) ?_ ?_
  rotate_left
  ·simp only [Act.put, sA, s0, sN, i64_w, i32_w]
   rfl
  refine pure_ (i := 20) (N := some 25) (v := undef) (a' := ?_) #[Y,Y,Y,Y,Y,Y,Y,Y,Y,Y,Y,Y,Y,Y,Y,Y,Y,Y,Y,Y,Y,Z,Z] rfl rfl (any_of HT_.out (by kernel_rfl)) (fun _ _ _ h => h) (Or.inr ⟨by rfl, rfl⟩) ?_ ?_
  rotate_left
  ·simp only [Act.put, sA, s0, sN, i64_w, i32_w]
   rfl
  refine pU 21 26 (v := ?_) (a' := ?_) #[Y,Y,Y,Y,Y,Y,Y,Y,Y,Y,Y,Y,Y,Y,Y,Y,Y,Y,Y,Y,Y,Y,Z] HT_ rfl rfl (by kernel_rfl) ?_ ?_ ?_;rotate_left;(intro w';go_simp;with_reducible rfl);rotate_left;(simp only [Act.put, sA, s0, sN, i64_w, i32_w];rfl)
  refine pU 22 4 (v := ?_) (a' := ?_) #[Y,Y,Y,Y,Y,Y,Y,Y,Y,Y,Y,Y,Y,Y,Y,Y,Y,Y,Y,Y,Y,Y,Y] HT_ rfl rfl (by kernel_rfl) ?_ ?_ ?_;rotate_left;(intro w';go_simp;with_reducible rfl);rotate_left;(simp only [Act.put, sA, s0, sN, i64_w, i32_w];rfl)
  refine done_ (done_of HT_.out (by kernel_rfl)) ?_
  try go_wp2
  go_ret
  exact ⟨eR, bw⟩

/-! ### laws_eqIns: function 25 -/
def laws_eqIns.f (a0_0 : Int) (a0_1 : Int) (a0_2 : Int) (a0_3 : Int) (a1_0 : Int) (a1_1 : Int) (a1_2 : Int) (a1_3 : Int) : Option (Bool) := if a0_0 = a1_0 then (if a0_1 = a1_1 then (if a0_2 = a1_2 then (if a0_3 = a1_3 then (some true) else (some false)) else (some false)) else (some false)) else (some false)
set_option maxHeartbeats 8000000 in
set_option maxRecDepth 100000 in
theorem laws_eqIns.calls (a0_0 : Int) (a0_1 : Int) (a0_2 : Int) (a0_3 : Int) (a1_0 : Int) (a1_1 : Int) (a1_2 : Int) (a1_3 : Int) (r : Bool) (w : World) (h : laws_eqIns.f a0_0 a0_1 a0_2 a0_3 a1_0 a1_1 a1_2 a1_3 = some r) :
  Calls Tryz.prog 25 #[.agg #[.int .i64 a0_0, .int .i64 a0_1, .int .i64 a0_2, .int .i64 a0_3], .agg #[.int .i64 a1_0, .int .i64 a1_1, .int .i64 a1_2, .int .i64 a1_3]] w fun e w' => e = .returned (.bool r) ∧ Below w.heap.size w w' := by
 have hu38 := Tryz.underlying38
 have HB := Aside0.mk (Below.refl w.heap.size w)
 have H : (if a0_0 = a1_0 then (if a0_1 = a1_1 then (if a0_2 = a1_2 then (if a0_3 = a1_3 then (some true) else (some false)) else (some false)) else (some false)) else (some false)) = some r := h
 clear h
 by_cases c3 : a0_0 = a1_0
 ·rw [if_pos c3] at H
  have c3b0 : (a0_0 == a1_0) = true := beq_iff_eq.mpr c3
  have c3b1 : (a0_0 != a1_0) = false := bne_eq_false_iff_eq.mpr c3
  clear c3
  by_cases c4 : a0_1 = a1_1
  ·rw [if_pos c4] at H
   have c4b0 : (a0_1 == a1_1) = true := beq_iff_eq.mpr c4
   have c4b1 : (a0_1 != a1_1) = false := bne_eq_false_iff_eq.mpr c4
   clear c4
   by_cases c5 : a0_2 = a1_2
   ·rw [if_pos c5] at H
    have c5b0 : (a0_2 == a1_2) = true := beq_iff_eq.mpr c5
    have c5b1 : (a0_2 != a1_2) = false := bne_eq_false_iff_eq.mpr c5
    clear c5
    by_cases c6 : a0_3 = a1_3
    ·rw [if_pos c6] at H
     have c6b0 : (a0_3 == a1_3) = true := beq_iff_eq.mpr c6
     have c6b1 : (a0_3 != a1_3) = false := bne_eq_false_iff_eq.mpr c6
     clear c6
     obtain rfl := Option.some.inj H
     go_enter Tryz.func25, Tryz.ntmps25
     go_wp2_with (first | ((with_reducible refine gate_dst (N := 2) rfl ?_); refine box_event ?hg (N := 2) ?hd (cs := #[.int .i64 a0_0, .int .i64 a0_1, .int .i64 a0_2, .int .i64 a0_3]) (t := 38) ?hr ?_; (case hd => rfl); (case hg => rfl); (case hr => first | (go_simp; done) | (go_simp; rfl)); intro gb528 hg w7 hbox hb; have BK528 := Aside0.mk (hbox); have GW528 := Aside0.mk ((by rw [hg]; exact (below_size bw) : w.heap.size ≤ gb528)); have GE528 := Aside0.mk ((by rw [hg]; exact (below_size bw) : w.heap.size ≤ gb528)); replace HB := Aside0.mk (below_step bw hb); clear hb hbox hg) | ((with_reducible refine gate_dst (N := 3) rfl ?_); refine box_event ?hg (N := 3) ?hd (cs := #[.int .i64 a1_0, .int .i64 a1_1, .int .i64 a1_2, .int .i64 a1_3]) (t := 38) ?hr ?_; (case hd => rfl); (case hg => rfl); (case hr => first | (go_simp; done) | (go_simp; rfl)); intro gb529 hg w8 hbox hb; have BK529 := Aside0.mk (hbox); have GW529 := Aside0.mk ((by rw [hg]; exact (below_size bx) : w.heap.size ≤ gb529)); have GE529 := Aside0.mk ((by rw [hg]; exact (below_size bx) : w.heap.size ≤ gb529)); replace HB := Aside0.mk (below_step bx hb); have NB528_529 := Aside0.mk ((by rw [hg]; exact Nat.ne_of_lt (blk_lt (g := gb528) (o := .cells #[.int .i64 a0_0, .int .i64 a0_1, .int .i64 a0_2, .int .i64 a0_3] 38 (0, 0)) (bS BK528.out)) : gb528 ≠ gb529)); have NB529_528 := Aside0.mk ((by rw [hg]; exact Nat.ne_of_gt (blk_lt (g := gb528) (o := .cells #[.int .i64 a0_0, .int .i64 a0_1, .int .i64 a0_2, .int .i64 a0_3] 38 (0, 0)) (bS BK528.out)) : gb529 ≠ gb528)); replace BK528 := Aside0.mk (blk_below (g := gb528) (o := .cells #[.int .i64 a0_0, .int .i64 a0_1, .int .i64 a0_2, .int .i64 a0_3] 38 (0, 0)) (bS BK528.out) hb); clear hb hbox hg; have hnb9 := NB528_529.out; have hnc9 := NB529_528.out; have hcz10_0 : w8.cell? ⟨gb528, 0, none⟩ = some (.int .i64 a0_0) := (blk_cell BK528.out 0).trans rfl; have hcz10_1 : w8.cell? ⟨gb528, 1, none⟩ = some (.int .i64 a0_1) := (blk_cell BK528.out 1).trans rfl; have hcz10_2 : w8.cell? ⟨gb528, 2, none⟩ = some (.int .i64 a0_2) := (blk_cell BK528.out 2).trans rfl; have hcz10_3 : w8.cell? ⟨gb528, 3, none⟩ = some (.int .i64 a0_3) := (blk_cell BK528.out 3).trans rfl; have hfz10_0 := blk_frozen BK528.out 0; have hfz10_1 := blk_frozen BK528.out 1; have hfz10_2 := blk_frozen BK528.out 2; have hfz10_3 := blk_frozen BK528.out 3; have hcz11_0 : w8.cell? ⟨gb529, 0, none⟩ = some (.int .i64 a1_0) := (blk_cell BK529.out 0).trans rfl; have hcz11_1 : w8.cell? ⟨gb529, 1, none⟩ = some (.int .i64 a1_1) := (blk_cell BK529.out 1).trans rfl; have hcz11_2 : w8.cell? ⟨gb529, 2, none⟩ = some (.int .i64 a1_2) := (blk_cell BK529.out 2).trans rfl; have hcz11_3 : w8.cell? ⟨gb529, 3, none⟩ = some (.int .i64 a1_3) := (blk_cell BK529.out 3).trans rfl; have hfz11_0 := blk_frozen BK529.out 0; have hfz11_1 := blk_frozen BK529.out 1; have hfz11_2 := blk_frozen BK529.out 2; have hfz11_3 := blk_frozen BK529.out 3))
     go_ret
     exact ⟨eR, bx⟩
    ·rw [if_neg c6] at H
     have c6b0 : (a0_3 == a1_3) = false := beq_eq_false_iff_ne.mpr c6
     have c6b1 : (a0_3 != a1_3) = true := bne_iff_ne.mpr c6
     obtain rfl := Option.some.inj H
     go_enter Tryz.func25, Tryz.ntmps25
     go_wp2_with (first | ((with_reducible refine gate_dst (N := 2) rfl ?_); refine box_event ?hg (N := 2) ?hd (cs := #[.int .i64 a0_0, .int .i64 a0_1, .int .i64 a0_2, .int .i64 a0_3]) (t := 38) ?hr ?_; (case hd => rfl); (case hg => rfl); (case hr => first | (go_simp; done) | (go_simp; rfl)); intro gb528 hg w12 hbox hb; have BK528 := Aside0.mk (hbox); have GW528 := Aside0.mk ((by rw [hg]; exact (below_size bw) : w.heap.size ≤ gb528)); have GE528 := Aside0.mk ((by rw [hg]; exact (below_size bw) : w.heap.size ≤ gb528)); replace HB := Aside0.mk (below_step bw hb); clear hb hbox hg) | ((with_reducible refine gate_dst (N := 3) rfl ?_); refine box_event ?hg (N := 3) ?hd (cs := #[.int .i64 a1_0, .int .i64 a1_1, .int .i64 a1_2, .int .i64 a1_3]) (t := 38) ?hr ?_; (case hd => rfl); (case hg => rfl); (case hr => first | (go_simp; done) | (go_simp; rfl)); intro gb529 hg w13 hbox hb; have BK529 := Aside0.mk (hbox); have GW529 := Aside0.mk ((by rw [hg]; exact (below_size bx) : w.heap.size ≤ gb529)); have GE529 := Aside0.mk ((by rw [hg]; exact (below_size bx) : w.heap.size ≤ gb529)); replace HB := Aside0.mk (below_step bx hb); have NB528_529 := Aside0.mk ((by rw [hg]; exact Nat.ne_of_lt (blk_lt (g := gb528) (o := .cells #[.int .i64 a0_0, .int .i64 a0_1, .int .i64 a0_2, .int .i64 a0_3] 38 (0, 0)) (bS BK528.out)) : gb528 ≠ gb529)); have NB529_528 := Aside0.mk ((by rw [hg]; exact Nat.ne_of_gt (blk_lt (g := gb528) (o := .cells #[.int .i64 a0_0, .int .i64 a0_1, .int .i64 a0_2, .int .i64 a0_3] 38 (0, 0)) (bS BK528.out)) : gb529 ≠ gb528)); replace BK528 := Aside0.mk (blk_below (g := gb528) (o := .cells #[.int .i64 a0_0, .int .i64 a0_1, .int .i64 a0_2, .int .i64 a0_3] 38 (0, 0)) (bS BK528.out) hb); clear hb hbox hg; have hnb14 := NB528_529.out; have hnc14 := NB529_528.out; have hcz15_0 : w13.cell? ⟨gb528, 0, none⟩ = some (.int .i64 a0_0) := (blk_cell BK528.out 0).trans rfl; have hcz15_1 : w13.cell? ⟨gb528, 1, none⟩ = some (.int .i64 a0_1) := (blk_cell BK528.out 1).trans rfl; have hcz15_2 : w13.cell? ⟨gb528, 2, none⟩ = some (.int .i64 a0_2) := (blk_cell BK528.out 2).trans rfl; have hcz15_3 : w13.cell? ⟨gb528, 3, none⟩ = some (.int .i64 a0_3) := (blk_cell BK528.out 3).trans rfl; have hfz15_0 := blk_frozen BK528.out 0; have hfz15_1 := blk_frozen BK528.out 1; have hfz15_2 := blk_frozen BK528.out 2; have hfz15_3 := blk_frozen BK528.out 3; have hcz16_0 : w13.cell? ⟨gb529, 0, none⟩ = some (.int .i64 a1_0) := (blk_cell BK529.out 0).trans rfl; have hcz16_1 : w13.cell? ⟨gb529, 1, none⟩ = some (.int .i64 a1_1) := (blk_cell BK529.out 1).trans rfl; have hcz16_2 : w13.cell? ⟨gb529, 2, none⟩ = some (.int .i64 a1_2) := (blk_cell BK529.out 2).trans rfl; have hcz16_3 : w13.cell? ⟨gb529, 3, none⟩ = some (.int .i64 a1_3) := (blk_cell BK529.out 3).trans rfl; have hfz16_0 := blk_frozen BK529.out 0; have hfz16_1 := blk_frozen BK529.out 1; have hfz16_2 := blk_frozen BK529.out 2; have hfz16_3 := blk_frozen BK529.out 3))
     go_ret
     exact ⟨eR, bx⟩
   ·rw [if_neg c5] at H
    have c5b0 : (a0_2 == a1_2) = false := beq_eq_false_iff_ne.mpr c5
    have c5b1 : (a0_2 != a1_2) = true := bne_iff_ne.mpr c5
    obtain rfl := Option.some.inj H
    go_enter Tryz.func25, Tryz.ntmps25
    go_wp2_with (first | ((with_reducible refine gate_dst (N := 2) rfl ?_); refine box_event ?hg (N := 2) ?hd (cs := #[.int .i64 a0_0, .int .i64 a0_1, .int .i64 a0_2, .int .i64 a0_3]) (t := 38) ?hr ?_; (case hd => rfl); (case hg => rfl); (case hr => first | (go_simp; done) | (go_simp; rfl)); intro gb528 hg w17 hbox hb; have BK528 := Aside0.mk (hbox); have GW528 := Aside0.mk ((by rw [hg]; exact (below_size bw) : w.heap.size ≤ gb528)); have GE528 := Aside0.mk ((by rw [hg]; exact (below_size bw) : w.heap.size ≤ gb528)); replace HB := Aside0.mk (below_step bw hb); clear hb hbox hg) | ((with_reducible refine gate_dst (N := 3) rfl ?_); refine box_event ?hg (N := 3) ?hd (cs := #[.int .i64 a1_0, .int .i64 a1_1, .int .i64 a1_2, .int .i64 a1_3]) (t := 38) ?hr ?_; (case hd => rfl); (case hg => rfl); (case hr => first | (go_simp; done) | (go_simp; rfl)); intro gb529 hg w18 hbox hb; have BK529 := Aside0.mk (hbox); have GW529 := Aside0.mk ((by rw [hg]; exact (below_size bx) : w.heap.size ≤ gb529)); have GE529 := Aside0.mk ((by rw [hg]; exact (below_size bx) : w.heap.size ≤ gb529)); replace HB := Aside0.mk (below_step bx hb); have NB528_529 := Aside0.mk ((by rw [hg]; exact Nat.ne_of_lt (blk_lt (g := gb528) (o := .cells #[.int .i64 a0_0, .int .i64 a0_1, .int .i64 a0_2, .int .i64 a0_3] 38 (0, 0)) (bS BK528.out)) : gb528 ≠ gb529)); have NB529_528 := Aside0.mk ((by rw [hg]; exact Nat.ne_of_gt (blk_lt (g := gb528) (o := .cells #[.int .i64 a0_0, .int .i64 a0_1, .int .i64 a0_2, .int .i64 a0_3] 38 (0, 0)) (bS BK528.out)) : gb529 ≠ gb528)); replace BK528 := Aside0.mk (blk_below (g := gb528) (o := .cells #[.int .i64 a0_0, .int .i64 a0_1, .int .i64 a0_2, .int .i64 a0_3] 38 (0, 0)) (bS BK528.out) hb); clear hb hbox hg; have hnb19 := NB528_529.out; have hnc19 := NB529_528.out; have hcz20_0 : w18.cell? ⟨gb528, 0, none⟩ = some (.int .i64 a0_0) := (blk_cell BK528.out 0).trans rfl; have hcz20_1 : w18.cell? ⟨gb528, 1, none⟩ = some (.int .i64 a0_1) := (blk_cell BK528.out 1).trans rfl; have hcz20_2 : w18.cell? ⟨gb528, 2, none⟩ = some (.int .i64 a0_2) := (blk_cell BK528.out 2).trans rfl; have hcz20_3 : w18.cell? ⟨gb528, 3, none⟩ = some (.int .i64 a0_3) := (blk_cell BK528.out 3).trans rfl; have hfz20_0 := blk_frozen BK528.out 0; have hfz20_1 := blk_frozen BK528.out 1; have hfz20_2 := blk_frozen BK528.out 2; have hfz20_3 := blk_frozen BK528.out 3; have hcz21_0 : w18.cell? ⟨gb529, 0, none⟩ = some (.int .i64 a1_0) := (blk_cell BK529.out 0).trans rfl; have hcz21_1 : w18.cell? ⟨gb529, 1, none⟩ = some (.int .i64 a1_1) := (blk_cell BK529.out 1).trans rfl; have hcz21_2 : w18.cell? ⟨gb529, 2, none⟩ = some (.int .i64 a1_2) := (blk_cell BK529.out 2).trans rfl; have hcz21_3 : w18.cell? ⟨gb529, 3, none⟩ = some (.int .i64 a1_3) := (blk_cell BK529.out 3).trans rfl; have hfz21_0 := blk_frozen BK529.out 0; have hfz21_1 := blk_frozen BK529.out 1; have hfz21_2 := blk_frozen BK529.out 2; have hfz21_3 := blk_frozen BK529.out 3))
    go_ret
    exact ⟨eR, bx⟩
  ·rw [if_neg c4] at H
   have c4b0 : (a0_1 == a1_1) = false := beq_eq_false_iff_ne.mpr c4
   have c4b1 : (a0_1 != a1_1) = true := bne_iff_ne.mpr c4
   obtain rfl := Option.some.inj H
   go_enter Tryz.func25, Tryz.ntmps25
   go_wp2_with (first | ((with_reducible refine gate_dst (N := 2) rfl ?_); refine box_event ?hg (N := 2) ?hd (cs := #[.int .i64 a0_0, .int .i64 a0_1, .int .i64 a0_2, .int .i64 a0_3]) (t := 38) ?hr ?_; (case hd => rfl); (case hg => rfl); (case hr => first | (go_simp; done) | (go_simp; rfl)); intro gb528 hg w22 hbox hb; have BK528 := Aside0.mk (hbox); have GW528 := Aside0.mk ((by rw [hg]; exact (below_size bw) : w.heap.size ≤ gb528)); have GE528 := Aside0.mk ((by rw [hg]; exact (below_size bw) : w.heap.size ≤ gb528)); replace HB := Aside0.mk (below_step bw hb); clear hb hbox hg) | ((with_reducible refine gate_dst (N := 3) rfl ?_); refine box_event ?hg (N := 3) ?hd (cs := #[.int .i64 a1_0, .int .i64 a1_1, .int .i64 a1_2, .int .i64 a1_3]) (t := 38) ?hr ?_; (case hd => rfl); (case hg => rfl); (case hr => first | (go_simp; done) | (go_simp; rfl)); intro gb529 hg w23 hbox hb; have BK529 := Aside0.mk (hbox); have GW529 := Aside0.mk ((by rw [hg]; exact (below_size bx) : w.heap.size ≤ gb529)); have GE529 := Aside0.mk ((by rw [hg]; exact (below_size bx) : w.heap.size ≤ gb529)); replace HB := Aside0.mk (below_step bx hb); have NB528_529 := Aside0.mk ((by rw [hg]; exact Nat.ne_of_lt (blk_lt (g := gb528) (o := .cells #[.int .i64 a0_0, .int .i64 a0_1, .int .i64 a0_2, .int .i64 a0_3] 38 (0, 0)) (bS BK528.out)) : gb528 ≠ gb529)); have NB529_528 := Aside0.mk ((by rw [hg]; exact Nat.ne_of_gt (blk_lt (g := gb528) (o := .cells #[.int .i64 a0_0, .int .i64 a0_1, .int .i64 a0_2, .int .i64 a0_3] 38 (0, 0)) (bS BK528.out)) : gb529 ≠ gb528)); replace BK528 := Aside0.mk (blk_below (g := gb528) (o := .cells #[.int .i64 a0_0, .int .i64 a0_1, .int .i64 a0_2, .int .i64 a0_3] 38 (0, 0)) (bS BK528.out) hb); clear hb hbox hg; have hnb24 := NB528_529.out; have hnc24 := NB529_528.out; have hcz25_0 : w23.cell? ⟨gb528, 0, none⟩ = some (.int .i64 a0_0) := (blk_cell BK528.out 0).trans rfl; have hcz25_1 : w23.cell? ⟨gb528, 1, none⟩ = some (.int .i64 a0_1) := (blk_cell BK528.out 1).trans rfl; have hcz25_2 : w23.cell? ⟨gb528, 2, none⟩ = some (.int .i64 a0_2) := (blk_cell BK528.out 2).trans rfl; have hcz25_3 : w23.cell? ⟨gb528, 3, none⟩ = some (.int .i64 a0_3) := (blk_cell BK528.out 3).trans rfl; have hfz25_0 := blk_frozen BK528.out 0; have hfz25_1 := blk_frozen BK528.out 1; have hfz25_2 := blk_frozen BK528.out 2; have hfz25_3 := blk_frozen BK528.out 3; have hcz26_0 : w23.cell? ⟨gb529, 0, none⟩ = some (.int .i64 a1_0) := (blk_cell BK529.out 0).trans rfl; have hcz26_1 : w23.cell? ⟨gb529, 1, none⟩ = some (.int .i64 a1_1) := (blk_cell BK529.out 1).trans rfl; have hcz26_2 : w23.cell? ⟨gb529, 2, none⟩ = some (.int .i64 a1_2) := (blk_cell BK529.out 2).trans rfl; have hcz26_3 : w23.cell? ⟨gb529, 3, none⟩ = some (.int .i64 a1_3) := (blk_cell BK529.out 3).trans rfl; have hfz26_0 := blk_frozen BK529.out 0; have hfz26_1 := blk_frozen BK529.out 1; have hfz26_2 := blk_frozen BK529.out 2; have hfz26_3 := blk_frozen BK529.out 3))
   go_ret
   exact ⟨eR, bx⟩
 ·rw [if_neg c3] at H
  have c3b0 : (a0_0 == a1_0) = false := beq_eq_false_iff_ne.mpr c3
  have c3b1 : (a0_0 != a1_0) = true := bne_iff_ne.mpr c3
  obtain rfl := Option.some.inj H
  go_enter Tryz.func25, Tryz.ntmps25
  go_wp2_with (first | ((with_reducible refine gate_dst (N := 2) rfl ?_); refine box_event ?hg (N := 2) ?hd (cs := #[.int .i64 a0_0, .int .i64 a0_1, .int .i64 a0_2, .int .i64 a0_3]) (t := 38) ?hr ?_; (case hd => rfl); (case hg => rfl); (case hr => first | (go_simp; done) | (go_simp; rfl)); intro gb528 hg w27 hbox hb; have BK528 := Aside0.mk (hbox); have GW528 := Aside0.mk ((by rw [hg]; exact (below_size bw) : w.heap.size ≤ gb528)); have GE528 := Aside0.mk ((by rw [hg]; exact (below_size bw) : w.heap.size ≤ gb528)); replace HB := Aside0.mk (below_step bw hb); clear hb hbox hg) | ((with_reducible refine gate_dst (N := 3) rfl ?_); refine box_event ?hg (N := 3) ?hd (cs := #[.int .i64 a1_0, .int .i64 a1_1, .int .i64 a1_2, .int .i64 a1_3]) (t := 38) ?hr ?_; (case hd => rfl); (case hg => rfl); (case hr => first | (go_simp; done) | (go_simp; rfl)); intro gb529 hg w28 hbox hb; have BK529 := Aside0.mk (hbox); have GW529 := Aside0.mk ((by rw [hg]; exact (below_size bx) : w.heap.size ≤ gb529)); have GE529 := Aside0.mk ((by rw [hg]; exact (below_size bx) : w.heap.size ≤ gb529)); replace HB := Aside0.mk (below_step bx hb); have NB528_529 := Aside0.mk ((by rw [hg]; exact Nat.ne_of_lt (blk_lt (g := gb528) (o := .cells #[.int .i64 a0_0, .int .i64 a0_1, .int .i64 a0_2, .int .i64 a0_3] 38 (0, 0)) (bS BK528.out)) : gb528 ≠ gb529)); have NB529_528 := Aside0.mk ((by rw [hg]; exact Nat.ne_of_gt (blk_lt (g := gb528) (o := .cells #[.int .i64 a0_0, .int .i64 a0_1, .int .i64 a0_2, .int .i64 a0_3] 38 (0, 0)) (bS BK528.out)) : gb529 ≠ gb528)); replace BK528 := Aside0.mk (blk_below (g := gb528) (o := .cells #[.int .i64 a0_0, .int .i64 a0_1, .int .i64 a0_2, .int .i64 a0_3] 38 (0, 0)) (bS BK528.out) hb); clear hb hbox hg; have hnb29 := NB528_529.out; have hnc29 := NB529_528.out; have hcz30_0 : w28.cell? ⟨gb528, 0, none⟩ = some (.int .i64 a0_0) := (blk_cell BK528.out 0).trans rfl; have hcz30_1 : w28.cell? ⟨gb528, 1, none⟩ = some (.int .i64 a0_1) := (blk_cell BK528.out 1).trans rfl; have hcz30_2 : w28.cell? ⟨gb528, 2, none⟩ = some (.int .i64 a0_2) := (blk_cell BK528.out 2).trans rfl; have hcz30_3 : w28.cell? ⟨gb528, 3, none⟩ = some (.int .i64 a0_3) := (blk_cell BK528.out 3).trans rfl; have hfz30_0 := blk_frozen BK528.out 0; have hfz30_1 := blk_frozen BK528.out 1; have hfz30_2 := blk_frozen BK528.out 2; have hfz30_3 := blk_frozen BK528.out 3; have hcz31_0 : w28.cell? ⟨gb529, 0, none⟩ = some (.int .i64 a1_0) := (blk_cell BK529.out 0).trans rfl; have hcz31_1 : w28.cell? ⟨gb529, 1, none⟩ = some (.int .i64 a1_1) := (blk_cell BK529.out 1).trans rfl; have hcz31_2 : w28.cell? ⟨gb529, 2, none⟩ = some (.int .i64 a1_2) := (blk_cell BK529.out 2).trans rfl; have hcz31_3 : w28.cell? ⟨gb529, 3, none⟩ = some (.int .i64 a1_3) := (blk_cell BK529.out 3).trans rfl; have hfz31_0 := blk_frozen BK529.out 0; have hfz31_1 := blk_frozen BK529.out 1; have hfz31_2 := blk_frozen BK529.out 2; have hfz31_3 := blk_frozen BK529.out 3))
  go_ret
  exact ⟨eR, bx⟩

/-! ### laws_eqInsS: function 10 -/
def laws_eqInsS.l0 : Nat → List (S38) → List (S38) → Int → Option (Bool)
 | 0, _, _, _ => none
 | k + 1, x0, x1, x5 => if x5 < (x0.length : Int) then (if 0 ≤ x5 then (if x5 < (x1.length : Int) then ((laws_eqIns.f ((rd_T38 x0 x5).f0) ((rd_T38 x0 x5).f1) ((rd_T38 x0 x5).f2) ((rd_T38 x0 x5).f3) ((rd_T38 x1 x5).f0) ((rd_T38 x1 x5).f1) ((rd_T38 x1 x5).f2) ((rd_T38 x1 x5).f3)).bind fun t532 => (if t532 = true then (laws_eqInsS.l0 k x0 x1 (wrap64 (x5 + 1))) else (some false))) else (none)) else (none)) else (some true)
def laws_eqInsS.f (k : Nat) (l0 : List (S38)) (l1 : List (S38)) : Option (Bool) := if (l0.length : Int) = (l1.length : Int) then (laws_eqInsS.l0 k l0 l1 0) else (some false)
theorem laws_eqInsS.mono_l : ∀ k, (∀ y0 y1 y2, LeO (laws_eqInsS.l0 k y0 y1 y2) (laws_eqInsS.l0 (k + 1) y0 y1 y2))
 | 0 => fun _ _ _ r h => by simp [laws_eqInsS.l0] at h
 | k + 1 => by
  have ih0 := laws_eqInsS.mono_l k
  ·intro y0 y1 y2
   unfold laws_eqInsS.l0
   repeat' first
   | (with_reducible exact ih0 _ _ _)
   | (with_reducible exact LeO.refl _)
   | (with_reducible exact LeO.none _)
   | (with_reducible refine LeO.ite ?_ ?_)
   | (with_reducible refine LeO.bind ?_ (fun _ => ?_))
   | exact ih0 _ _ _
   | exact LeO.none _
   | refine LeO.ite ?_ ?_
   | refine LeO.bind ?_ (fun _ => ?_)
theorem laws_eqInsS.mono : ∀ a0 a1 k, LeO (laws_eqInsS.f k a0 a1) (laws_eqInsS.f (k + 1) a0 a1) := by
 intro a0 a1 k
 have ih0 := laws_eqInsS.mono_l k
 unfold laws_eqInsS.f
 repeat' first
   | (with_reducible exact ih0 _ _ _)
   | (with_reducible exact LeO.refl _)
   | (with_reducible exact LeO.none _)
   | (with_reducible refine LeO.ite ?_ ?_)
   | (with_reducible refine LeO.bind ?_ (fun _ => ?_))
   | exact ih0 _ _ _
   | exact LeO.none _
   | refine LeO.ite ?_ ?_
   | refine LeO.bind ?_ (fun _ => ?_)
def laws_eqInsS.T6 : Bool × List (List Nat × List Nat) := (true, [([], []), ([], []), ([0, 1], [0, 1]), ([2], [2]), ([], []), ([], []), ([4, 5], [4, 5]), ([6], [6]), ([3, 7], [3, 7]), ([8], [8])])
def laws_eqInsS.B6 : List Nat := [0, 0, 3, 7, 0, 0, 48, 112, 255, 511]
theorem laws_eqInsS.tab6 : rtab .any (opsOf Tryz.f10 6) = laws_eqInsS.T6 := by kernel_rfl
theorem laws_eqInsS.bits6 : waitsOk laws_eqInsS.T6.2 laws_eqInsS.B6 = true := by kernel_rfl
set_option maxHeartbeats 8000000 in
set_option maxRecDepth 100000 in
theorem laws_eqInsS.calls (k : Nat) (A0 : Option Addr) (c0 : Nat) (l0 : List (S38)) (A1 : Option Addr) (c1 : Nat) (l1 : List (S38)) (r : Bool) (w : World) (hr0 : Kd.C k38 w A0 l0.length l0) (hc0 : l0.length ≤ c0) (hr1 : Kd.C k38 w A1 l1.length l1) (hc1 : l1.length ≤ c1) (h : laws_eqInsS.f k l0 l1 = some r) :
  Calls Tryz.prog 10 #[.slice A0 l0.length c0, .slice A1 l1.length c1] w fun e w' => e = .returned (.bool r) ∧ Below w.heap.size w w' := by
 have hu38 := Tryz.underlying38
 have HR0 := Aside0.mk hr0
 have HC0 := Aside0.mk hc0
 clear hr0 hc0
 have HR1 := Aside0.mk hr1
 have HC1 := Aside0.mk hc1
 clear hr1 hc1
 have HB := Aside0.mk (Below.refl w.heap.size w)
 have H : (if (l0.length : Int) = (l1.length : Int) then (laws_eqInsS.l0 k l0 l1 0) else (some false)) = some r := h
 clear h
 by_cases c3 : (l0.length : Int) = (l1.length : Int)
 ·rw [if_pos c3] at H
  have c3b0 : ((l0.length : Int) == (l1.length : Int)) = true := beq_iff_eq.mpr c3
  have c3b1 : ((l0.length : Int) != (l1.length : Int)) = false := bne_eq_false_iff_eq.mpr c3
  have c3b2 : (l0.length == l1.length) = true := by first | simpa using c3 | (simp at c3 ⊢; omega)
  clear c3
  have H' := Aside0.mk H
  clear H
  go_enter Tryz.func10, Tryz.ntmps10
  go_wp2
  go_loopg [5] k (fun kq v5 w' => ∃ (x5_1 : Int), v5 = .int .i64 x5_1 ∧ Aside0 (laws_eqInsS.l0 kq l0 l1 x5_1 = some r) ∧ Aside0 (kq ≤ k) ∧ Aside0 (Below w.heap.size w w'))
  case atStart => exact ⟨(0), tR, H', ⟨Nat.le_refl _⟩, ⟨bw⟩⟩
  case round =>
   clear H'
   try clear c1;try clear p2;try clear c3;try clear c3b0;try clear c3b1;try clear c3b2
   obtain ⟨x5_1, rfl, HA, HK1, HB⟩ := hrel
   cases gk with
   | zero => exact absurd HA.out (by simp [laws_eqInsS.l0])
   | succ k1 =>
    have H := HA.out
    clear HA
    simp only [laws_eqInsS.l0] at H
    by_cases c4 : x5_1 < (l0.length : Int)
    ·rw [if_pos c4] at H
     have c4b0 : decide (x5_1 < (l0.length : Int)) = true := decide_eq_true c4
     clear c4
     by_cases c5 : 0 ≤ x5_1
     ·rw [if_pos c5] at H
      have c5b0 : decide (0 ≤ x5_1) = true := decide_eq_true c5
      clear c5
      by_cases c6 : x5_1 < (l1.length : Int)
      ·rw [if_pos c6] at H
       have c6b0 : decide (x5_1 < (l1.length : Int)) = true := decide_eq_true c6
       clear c6
       replace H := Option.bind_eq_some_iff.mp H
       obtain ⟨t532, A70, H⟩ := H
       replace H : (if t532 = true then (laws_eqInsS.l0 k1 l0 l1 (wrap64 (x5_1 + 1))) else (some false)) = some r := H
       have A7 := Aside0.mk A70
       clear A70
       by_cases c8 : t532 = true
       ·subst c8
        have H1 : (laws_eqInsS.l0 k1 l0 l1 (wrap64 (x5_1 + 1))) = some r := by rw [if_pos rfl] at H; exact H
        clear H
        have H := H1
        clear H1
        have H' := Aside0.mk H
        clear H
        try go_wp2
        replace HB := Aside0.mk (below_drew1 HB.out)
        have p530 : 0 ≤ (x5_1 : Int) := dT
        have q530 : x5_1 < (l0.length : Int) := dT
        obtain ⟨ad530, e530, hx530_0, hx530_1, hx530_2, hx530_3⟩ := at_T38 HR0.out x5_1 p530 q530
        have hw530_3 := hx530_3
        have hw530_2 := hx530_2
        have hw530_1 := hx530_1
        have hw530_0 := hx530_0
        cases e530
        replace hx530_0 := (HB.out.cell (World.block_lt_of_cell? w _ hx530_0)).trans hx530_0
        replace hx530_1 := (HB.out.cell (World.block_lt_of_cell? w _ hx530_1)).trans hx530_1
        replace hx530_2 := (HB.out.cell (World.block_lt_of_cell? w _ hx530_2)).trans hx530_2
        replace hx530_3 := (HB.out.cell (World.block_lt_of_cell? w _ hx530_3)).trans hx530_3
        replace p530 := eq_true p530
        replace q530 := eq_true q530
        have p531 : 0 ≤ (x5_1 : Int) := dT
        have q531 : x5_1 < (l1.length : Int) := dT
        obtain ⟨ad531, e531, hx531_0, hx531_1, hx531_2, hx531_3⟩ := at_T38 HR1.out x5_1 p531 q531
        have hw531_3 := hx531_3
        have hw531_2 := hx531_2
        have hw531_1 := hx531_1
        have hw531_0 := hx531_0
        cases e531
        replace hx531_0 := (HB.out.cell (World.block_lt_of_cell? w _ hx531_0)).trans hx531_0
        replace hx531_1 := (HB.out.cell (World.block_lt_of_cell? w _ hx531_1)).trans hx531_1
        replace hx531_2 := (HB.out.cell (World.block_lt_of_cell? w _ hx531_2)).trans hx531_2
        replace hx531_3 := (HB.out.cell (World.block_lt_of_cell? w _ hx531_3)).trans hx531_3
        replace p531 := eq_true p531
        replace q531 := eq_true q531
        refine start_ (n := 10) (S := fun w' => w'.cell? (ad530.add ((x5_1).toNat * 4)) = some (.int .i64 ((rd_T38 l0 x5_1).f0)) ∧ w'.cell? ⟨(ad530.add ((x5_1).toNat * 4)).block, (ad530.add ((x5_1).toNat * 4)).off + 1, none⟩ = some (.int .i64 ((rd_T38 l0 x5_1).f1)) ∧ w'.cell? ⟨(ad530.add ((x5_1).toNat * 4)).block, (ad530.add ((x5_1).toNat * 4)).off + 2, none⟩ = some (.int .i64 ((rd_T38 l0 x5_1).f2)) ∧ w'.cell? ⟨(ad530.add ((x5_1).toNat * 4)).block, (ad530.add ((x5_1).toNat * 4)).off + 3, none⟩ = some (.int .i64 ((rd_T38 l0 x5_1).f3)) ∧ w'.cell? (ad531.add ((x5_1).toNat * 4)) = some (.int .i64 ((rd_T38 l1 x5_1).f0)) ∧ w'.cell? ⟨(ad531.add ((x5_1).toNat * 4)).block, (ad531.add ((x5_1).toNat * 4)).off + 1, none⟩ = some (.int .i64 ((rd_T38 l1 x5_1).f1)) ∧ w'.cell? ⟨(ad531.add ((x5_1).toNat * 4)).block, (ad531.add ((x5_1).toNat * 4)).off + 2, none⟩ = some (.int .i64 ((rd_T38 l1 x5_1).f2)) ∧ w'.cell? ⟨(ad531.add ((x5_1).toNat * 4)).block, (ad531.add ((x5_1).toNat * 4)).off + 3, none⟩ = some (.int .i64 ((rd_T38 l1 x5_1).f3))) (ds := []) #[false,false,false,false,false,false,false,false,false,false] (by kernel_rfl) rfl rfl ⟨((HB.out.cell (World.block_lt_of_cell? w _ hw530_0)).trans hw530_0), ((HB.out.cell (World.block_lt_of_cell? w _ hw530_1)).trans hw530_1), ((HB.out.cell (World.block_lt_of_cell? w _ hw530_2)).trans hw530_2), ((HB.out.cell (World.block_lt_of_cell? w _ hw530_3)).trans hw530_3), ((HB.out.cell (World.block_lt_of_cell? w _ hw531_0)).trans hw531_0), ((HB.out.cell (World.block_lt_of_cell? w _ hw531_1)).trans hw531_1), ((HB.out.cell (World.block_lt_of_cell? w _ hw531_2)).trans hw531_2), ((HB.out.cell (World.block_lt_of_cell? w _ hw531_3)).trans hw531_3)⟩ (fun hHeld => ?_); refine with_tabW laws_eqInsS.tab6 laws_eqInsS.bits6 (fun HT_ HW_ => ?_)
        generalize wr.drew = w9 at HB hx530_0 hx530_1 hx530_2 hx530_3 hx531_0 hx531_1 hx531_2 hx531_3 hHeld ⊢
        refine pU 0 17 (v := ?_) (a' := ?_) #[Y,Z,Z,Z,Z,Z,Z,Z,Z,Z] HT_ rfl rfl (by kernel_rfl) ?_ ?_ ?_;rotate_left;(intro w';go_simp;with_reducible rfl);rotate_left;(simp only [Act.put, sA, s0, sN, i64_w, i32_w];rfl)
        refine pU 1 18 (v := ?_) (a' := ?_) #[Y,Y,Z,Z,Z,Z,Z,Z,Z,Z] HT_ rfl rfl (by kernel_rfl) ?_ ?_ ?_;rotate_left;(intro w';go_simp;with_reducible rfl);rotate_left;(simp only [Act.put, sA, s0, sN, i64_w, i32_w];rfl)
        refine pU 2 19 (v := ?_) (a' := ?_) #[Y,Y,Y,Z,Z,Z,Z,Z,Z,Z] HT_ rfl rfl (by kernel_rfl) ?_ ?_ ?_;rotate_left;(intro w';go_simp;with_reducible rfl);rotate_left;(simp only [Act.put, sA, s0, sN, i64_w, i32_w];rfl)
        refine pU 4 21 (v := ?_) (a' := ?_) #[Y,Y,Y,Z,Y,Z,Z,Z,Z,Z] HT_ rfl rfl (by kernel_rfl) ?_ ?_ ?_;rotate_left;(intro w';go_simp;with_reducible rfl);rotate_left;(simp only [Act.put, sA, s0, sN, i64_w, i32_w];rfl)
        refine pU 5 22 (v := ?_) (a' := ?_) #[Y,Y,Y,Z,Y,Y,Z,Z,Z,Z] HT_ rfl rfl (by kernel_rfl) ?_ ?_ ?_;rotate_left;(intro w';go_simp;with_reducible rfl);rotate_left;(simp only [Act.put, sA, s0, sN, i64_w, i32_w];rfl)
        refine pU 6 23 (v := ?_) (a' := ?_) #[Y,Y,Y,Z,Y,Y,Y,Z,Z,Z] HT_ rfl rfl (by kernel_rfl) ?_ ?_ ?_;rotate_left;(intro w';go_simp;with_reducible rfl);rotate_left;(simp only [Act.put, sA, s0, sN, i64_w, i32_w];rfl)
        refine take_ (i := 3) (N := some 20) (v := ?_) (a' := ?_) #[Y,Y,Y,Y,Y,Y,Y,Z,Z,Z] rfl rfl (take_ofW HT_.out HW_.out (by kernel_rfl)) (fun _ _ _ h => h) (Or.inl ⟨by rfl, ?_⟩) hHeld ?_ ?_
        rotate_left
        ·rintro w' ⟨s0, s1, s2, s3, s4, s5, s6, s7⟩
         go_simp
         with_reducible rfl
        rotate_left
        ·simp only [Act.put, sA, s0, sN, i64_w, i32_w]
         rfl
        refine take_ (i := 7) (N := some 24) (v := ?_) (a' := ?_) #[Y,Y,Y,Y,Y,Y,Y,Y,Z,Z] rfl rfl (take_ofW HT_.out HW_.out (by kernel_rfl)) (fun _ _ _ h => h) (Or.inl ⟨by rfl, ?_⟩) hHeld ?_ ?_
        rotate_left
        ·rintro w' ⟨s0, s1, s2, s3, s4, s5, s6, s7⟩
         go_simp
         with_reducible rfl
        rotate_left
        ·simp only [Act.put, sA, s0, sN, i64_w, i32_w]
         rfl
        refine one_ (i := 8) (N := some 25) #[Y,Y,Y,Y,Y,Y,Y,Y,Y,Z] rfl rfl (one_of HT_.out (by kernel_rfl)) (by decide) (fun K hK => ?_)
        refine goes_ Tryz.func25 (by kernel_rfl) rfl #[.agg #[.int .i64 ((rd_T38 l0 x5_1).f0), .int .i64 ((rd_T38 l0 x5_1).f1), .int .i64 ((rd_T38 l0 x5_1).f2), .int .i64 ((rd_T38 l0 x5_1).f3)], .agg #[.int .i64 ((rd_T38 l1 x5_1).f0), .int .i64 ((rd_T38 l1 x5_1).f1), .int .i64 ((rd_T38 l1 x5_1).f2), .int .i64 ((rd_T38 l1 x5_1).f3)]] (by rfl) rfl rfl bz ?_
        with_reducible refine (laws_eqIns.calls ((rd_T38 l0 x5_1).f0) ((rd_T38 l0 x5_1).f1) ((rd_T38 l0 x5_1).f2) ((rd_T38 l0 x5_1).f3) ((rd_T38 l1 x5_1).f0) ((rd_T38 l1 x5_1).f1) ((rd_T38 l1 x5_1).f2) ((rd_T38 l1 x5_1).f3) true _ A7.out).mono ?_
        rintro e w10 ⟨rfl, hb⟩
        refine ⟨_, rfl, ?_⟩
        replace HB := Aside0.mk (below_step bw hb)
        (try clear hb)
        (try clear hb2)
        (try clear hk)
        (try clear hi)
        refine hK.out _ _ ⟨((HB.out.cell (World.block_lt_of_cell? w _ hw530_0)).trans hw530_0), ((HB.out.cell (World.block_lt_of_cell? w _ hw530_1)).trans hw530_1), ((HB.out.cell (World.block_lt_of_cell? w _ hw530_2)).trans hw530_2), ((HB.out.cell (World.block_lt_of_cell? w _ hw530_3)).trans hw530_3), ((HB.out.cell (World.block_lt_of_cell? w _ hw531_0)).trans hw531_0), ((HB.out.cell (World.block_lt_of_cell? w _ hw531_1)).trans hw531_1), ((HB.out.cell (World.block_lt_of_cell? w _ hw531_2)).trans hw531_2), ((HB.out.cell (World.block_lt_of_cell? w _ hw531_3)).trans hw531_3)⟩ (fun hHeld => ?_)
        clear hK K
        refine norm_ (a' := ?_) ?_ ?_
        rotate_left
        ·show Act.put _ (some 25) _ = _
         simp only [Act.put, sA, s0, sN, i64_w, i32_w]
         rfl
        refine pU 9 26 (v := ?_) (a' := ?_) #[Y,Y,Y,Y,Y,Y,Y,Y,Y,Y] HT_ rfl rfl (by kernel_rfl) ?_ ?_ ?_;rotate_left;(intro w';go_simp;with_reducible rfl);rotate_left;(simp only [Act.put, sA, s0, sN, i64_w, i32_w];rfl)
        refine done_ (done_of HT_.out (by kernel_rfl)) ?_
        try go_wp2
        go_roundg k1
        case measure => have := HK1.out; omega
        case rel => exact ⟨(wrap64 (x5_1 + 1)), tR, H', ⟨by have := HK1.out; omega⟩, ⟨bw⟩⟩
       ·replace c8 := Bool.eq_false_iff.mpr c8
        subst c8
        have H1 : (some false) = some r := by rw [if_neg (show ¬ (false = true) by decide)] at H; exact H
        clear H
        have H := H1
        clear H1
        obtain rfl := Option.some.inj H
        try go_wp2
        replace HB := Aside0.mk (below_drew1 HB.out)
        have p530 : 0 ≤ (x5_1 : Int) := dT
        have q530 : x5_1 < (l0.length : Int) := dT
        obtain ⟨ad530, e530, hx530_0, hx530_1, hx530_2, hx530_3⟩ := at_T38 HR0.out x5_1 p530 q530
        have hw530_3 := hx530_3
        have hw530_2 := hx530_2
        have hw530_1 := hx530_1
        have hw530_0 := hx530_0
        cases e530
        replace hx530_0 := (HB.out.cell (World.block_lt_of_cell? w _ hx530_0)).trans hx530_0
        replace hx530_1 := (HB.out.cell (World.block_lt_of_cell? w _ hx530_1)).trans hx530_1
        replace hx530_2 := (HB.out.cell (World.block_lt_of_cell? w _ hx530_2)).trans hx530_2
        replace hx530_3 := (HB.out.cell (World.block_lt_of_cell? w _ hx530_3)).trans hx530_3
        replace p530 := eq_true p530
        replace q530 := eq_true q530
        have p531 : 0 ≤ (x5_1 : Int) := dT
        have q531 : x5_1 < (l1.length : Int) := dT
        obtain ⟨ad531, e531, hx531_0, hx531_1, hx531_2, hx531_3⟩ := at_T38 HR1.out x5_1 p531 q531
        have hw531_3 := hx531_3
        have hw531_2 := hx531_2
        have hw531_1 := hx531_1
        have hw531_0 := hx531_0
        cases e531
        replace hx531_0 := (HB.out.cell (World.block_lt_of_cell? w _ hx531_0)).trans hx531_0
        replace hx531_1 := (HB.out.cell (World.block_lt_of_cell? w _ hx531_1)).trans hx531_1
        replace hx531_2 := (HB.out.cell (World.block_lt_of_cell? w _ hx531_2)).trans hx531_2
        replace hx531_3 := (HB.out.cell (World.block_lt_of_cell? w _ hx531_3)).trans hx531_3
        replace p531 := eq_true p531
        replace q531 := eq_true q531
        refine start_ (n := 10) (S := fun w' => w'.cell? (ad530.add ((x5_1).toNat * 4)) = some (.int .i64 ((rd_T38 l0 x5_1).f0)) ∧ w'.cell? ⟨(ad530.add ((x5_1).toNat * 4)).block, (ad530.add ((x5_1).toNat * 4)).off + 1, none⟩ = some (.int .i64 ((rd_T38 l0 x5_1).f1)) ∧ w'.cell? ⟨(ad530.add ((x5_1).toNat * 4)).block, (ad530.add ((x5_1).toNat * 4)).off + 2, none⟩ = some (.int .i64 ((rd_T38 l0 x5_1).f2)) ∧ w'.cell? ⟨(ad530.add ((x5_1).toNat * 4)).block, (ad530.add ((x5_1).toNat * 4)).off + 3, none⟩ = some (.int .i64 ((rd_T38 l0 x5_1).f3)) ∧ w'.cell? (ad531.add ((x5_1).toNat * 4)) = some (.int .i64 ((rd_T38 l1 x5_1).f0)) ∧ w'.cell? ⟨(ad531.add ((x5_1).toNat * 4)).block, (ad531.add ((x5_1).toNat * 4)).off + 1, none⟩ = some (.int .i64 ((rd_T38 l1 x5_1).f1)) ∧ w'.cell? ⟨(ad531.add ((x5_1).toNat * 4)).block, (ad531.add ((x5_1).toNat * 4)).off + 2, none⟩ = some (.int .i64 ((rd_T38 l1 x5_1).f2)) ∧ w'.cell? ⟨(ad531.add ((x5_1).toNat * 4)).block, (ad531.add ((x5_1).toNat * 4)).off + 3, none⟩ = some (.int .i64 ((rd_T38 l1 x5_1).f3))) (ds := []) #[false,false,false,false,false,false,false,false,false,false] (by kernel_rfl) rfl rfl ⟨((HB.out.cell (World.block_lt_of_cell? w _ hw530_0)).trans hw530_0), ((HB.out.cell (World.block_lt_of_cell? w _ hw530_1)).trans hw530_1), ((HB.out.cell (World.block_lt_of_cell? w _ hw530_2)).trans hw530_2), ((HB.out.cell (World.block_lt_of_cell? w _ hw530_3)).trans hw530_3), ((HB.out.cell (World.block_lt_of_cell? w _ hw531_0)).trans hw531_0), ((HB.out.cell (World.block_lt_of_cell? w _ hw531_1)).trans hw531_1), ((HB.out.cell (World.block_lt_of_cell? w _ hw531_2)).trans hw531_2), ((HB.out.cell (World.block_lt_of_cell? w _ hw531_3)).trans hw531_3)⟩ (fun hHeld => ?_); refine with_tabW laws_eqInsS.tab6 laws_eqInsS.bits6 (fun HT_ HW_ => ?_)
        generalize wr.drew = w11 at HB hx530_0 hx530_1 hx530_2 hx530_3 hx531_0 hx531_1 hx531_2 hx531_3 hHeld ⊢
        refine pU 0 17 (v := ?_) (a' := ?_) #[Y,Z,Z,Z,Z,Z,Z,Z,Z,Z] HT_ rfl rfl (by kernel_rfl) ?_ ?_ ?_;rotate_left;(intro w';go_simp;with_reducible rfl);rotate_left;(simp only [Act.put, sA, s0, sN, i64_w, i32_w];rfl)
        refine pU 1 18 (v := ?_) (a' := ?_) #[Y,Y,Z,Z,Z,Z,Z,Z,Z,Z] HT_ rfl rfl (by kernel_rfl) ?_ ?_ ?_;rotate_left;(intro w';go_simp;with_reducible rfl);rotate_left;(simp only [Act.put, sA, s0, sN, i64_w, i32_w];rfl)
        refine pU 2 19 (v := ?_) (a' := ?_) #[Y,Y,Y,Z,Z,Z,Z,Z,Z,Z] HT_ rfl rfl (by kernel_rfl) ?_ ?_ ?_;rotate_left;(intro w';go_simp;with_reducible rfl);rotate_left;(simp only [Act.put, sA, s0, sN, i64_w, i32_w];rfl)
        refine pU 4 21 (v := ?_) (a' := ?_) #[Y,Y,Y,Z,Y,Z,Z,Z,Z,Z] HT_ rfl rfl (by kernel_rfl) ?_ ?_ ?_;rotate_left;(intro w';go_simp;with_reducible rfl);rotate_left;(simp only [Act.put, sA, s0, sN, i64_w, i32_w];rfl)
        refine pU 5 22 (v := ?_) (a' := ?_) #[Y,Y,Y,Z,Y,Y,Z,Z,Z,Z] HT_ rfl rfl (by kernel_rfl) ?_ ?_ ?_;rotate_left;(intro w';go_simp;with_reducible rfl);rotate_left;(simp only [Act.put, sA, s0, sN, i64_w, i32_w];rfl)
        refine pU 6 23 (v := ?_) (a' := ?_) #[Y,Y,Y,Z,Y,Y,Y,Z,Z,Z] HT_ rfl rfl (by kernel_rfl) ?_ ?_ ?_;rotate_left;(intro w';go_simp;with_reducible rfl);rotate_left;(simp only [Act.put, sA, s0, sN, i64_w, i32_w];rfl)
        refine take_ (i := 3) (N := some 20) (v := ?_) (a' := ?_) #[Y,Y,Y,Y,Y,Y,Y,Z,Z,Z] rfl rfl (take_ofW HT_.out HW_.out (by kernel_rfl)) (fun _ _ _ h => h) (Or.inl ⟨by rfl, ?_⟩) hHeld ?_ ?_
        rotate_left
        ·rintro w' ⟨s0, s1, s2, s3, s4, s5, s6, s7⟩
         go_simp
         with_reducible rfl
        rotate_left
        ·simp only [Act.put, sA, s0, sN, i64_w, i32_w]
         rfl
        refine take_ (i := 7) (N := some 24) (v := ?_) (a' := ?_) #[Y,Y,Y,Y,Y,Y,Y,Y,Z,Z] rfl rfl (take_ofW HT_.out HW_.out (by kernel_rfl)) (fun _ _ _ h => h) (Or.inl ⟨by rfl, ?_⟩) hHeld ?_ ?_
        rotate_left
        ·rintro w' ⟨s0, s1, s2, s3, s4, s5, s6, s7⟩
         go_simp
         with_reducible rfl
        rotate_left
        ·simp only [Act.put, sA, s0, sN, i64_w, i32_w]
         rfl
        refine one_ (i := 8) (N := some 25) #[Y,Y,Y,Y,Y,Y,Y,Y,Y,Z] rfl rfl (one_of HT_.out (by kernel_rfl)) (by decide) (fun K hK => ?_)
        refine goes_ Tryz.func25 (by kernel_rfl) rfl #[.agg #[.int .i64 ((rd_T38 l0 x5_1).f0), .int .i64 ((rd_T38 l0 x5_1).f1), .int .i64 ((rd_T38 l0 x5_1).f2), .int .i64 ((rd_T38 l0 x5_1).f3)], .agg #[.int .i64 ((rd_T38 l1 x5_1).f0), .int .i64 ((rd_T38 l1 x5_1).f1), .int .i64 ((rd_T38 l1 x5_1).f2), .int .i64 ((rd_T38 l1 x5_1).f3)]] (by rfl) rfl rfl bz ?_
        with_reducible refine (laws_eqIns.calls ((rd_T38 l0 x5_1).f0) ((rd_T38 l0 x5_1).f1) ((rd_T38 l0 x5_1).f2) ((rd_T38 l0 x5_1).f3) ((rd_T38 l1 x5_1).f0) ((rd_T38 l1 x5_1).f1) ((rd_T38 l1 x5_1).f2) ((rd_T38 l1 x5_1).f3) false _ A7.out).mono ?_
        rintro e w12 ⟨rfl, hb⟩
        refine ⟨_, rfl, ?_⟩
        replace HB := Aside0.mk (below_step bw hb)
        (try clear hb)
        (try clear hb2)
        (try clear hk)
        (try clear hi)
        refine hK.out _ _ ⟨((HB.out.cell (World.block_lt_of_cell? w _ hw530_0)).trans hw530_0), ((HB.out.cell (World.block_lt_of_cell? w _ hw530_1)).trans hw530_1), ((HB.out.cell (World.block_lt_of_cell? w _ hw530_2)).trans hw530_2), ((HB.out.cell (World.block_lt_of_cell? w _ hw530_3)).trans hw530_3), ((HB.out.cell (World.block_lt_of_cell? w _ hw531_0)).trans hw531_0), ((HB.out.cell (World.block_lt_of_cell? w _ hw531_1)).trans hw531_1), ((HB.out.cell (World.block_lt_of_cell? w _ hw531_2)).trans hw531_2), ((HB.out.cell (World.block_lt_of_cell? w _ hw531_3)).trans hw531_3)⟩ (fun hHeld => ?_)
        clear hK K
        refine norm_ (a' := ?_) ?_ ?_
        rotate_left
        ·show Act.put _ (some 25) _ = _
         simp only [Act.put, sA, s0, sN, i64_w, i32_w]
         rfl
        refine pU 9 26 (v := ?_) (a' := ?_) #[Y,Y,Y,Y,Y,Y,Y,Y,Y,Y] HT_ rfl rfl (by kernel_rfl) ?_ ?_ ?_;rotate_left;(intro w';go_simp;with_reducible rfl);rotate_left;(simp only [Act.put, sA, s0, sN, i64_w, i32_w];rfl)
        refine done_ (done_of HT_.out (by kernel_rfl)) ?_
        try go_wp2
        go_ret
        exact ⟨eR, bw⟩
      ·rw [if_neg c6] at H
       exact absurd H (by simp)
     ·rw [if_neg c5] at H
      exact absurd H (by simp)
    ·rw [if_neg c4] at H
     have c4b0 : decide (x5_1 < (l0.length : Int)) = false := decide_eq_false c4
     clear c4
     obtain rfl := Option.some.inj H
     go_wp2
     go_ret
     exact ⟨eR, bw⟩
 ·rw [if_neg c3] at H
  have c3b0 : ((l0.length : Int) == (l1.length : Int)) = false := beq_eq_false_iff_ne.mpr c3
  have c3b1 : ((l0.length : Int) != (l1.length : Int)) = true := bne_iff_ne.mpr c3
  have c3b2 : (l0.length == l1.length) = false := by first | simpa using c3 | (simp at c3 ⊢; omega)
  obtain rfl := Option.some.inj H
  go_enter Tryz.func10, Tryz.ntmps10
  go_wp2
  go_ret
  exact ⟨eR, bw⟩

/-! ### laws_FnExactMaySplit: function 3 -/
def laws_FnExactMaySplit.f (k : Nat) (l0 : List (S40)) (a1 : Int) : Option (Bool) := (laws_szInsS.f l0 1048576).bind fun t533 => (if t533 < 0 then (some true) else ((laws_toInsS.f k l0).bind fun t534 => ((spec_MaySplit.f k t534 a1).bind fun t537 => ((laws_toInsS.f k l0).bind fun t538 => ((impl_MaySplit.f k t538 a1).bind fun t541 => (if (t541 != t537) = true then (none) else ((laws_toInsS.f k l0).bind fun t542 => ((laws_eqInsS.f k t538 t542).bind fun t545 => (if t545 = true then (some true) else (none))))))))))
theorem laws_FnExactMaySplit.mono : ∀ a0 a1 k, LeO (laws_FnExactMaySplit.f k a0 a1) (laws_FnExactMaySplit.f (k + 1) a0 a1) := by
 intro a0 a1 k
 unfold laws_FnExactMaySplit.f
 repeat' first
   | (with_reducible exact impl_MaySplit.mono _ _ _)
   | (with_reducible exact laws_eqInsS.mono _ _ _)
   | (with_reducible exact laws_toInsS.mono _ _)
   | (with_reducible exact spec_MaySplit.mono _ _ _)
   | (with_reducible exact LeO.refl _)
   | (with_reducible exact LeO.none _)
   | (with_reducible refine LeO.ite ?_ ?_)
   | (with_reducible refine LeO.bind ?_ (fun _ => ?_))
   | exact impl_MaySplit.mono _ _ _
   | exact laws_eqInsS.mono _ _ _
   | exact laws_toInsS.mono _ _
   | exact spec_MaySplit.mono _ _ _
   | exact LeO.none _
   | refine LeO.ite ?_ ?_
   | refine LeO.bind ?_ (fun _ => ?_)
set_option maxHeartbeats 8000000 in
set_option maxRecDepth 100000 in
theorem laws_FnExactMaySplit.calls (k : Nat) (A0 : Option Addr) (c0 : Nat) (l0 : List (S40)) (a1 : Int) (r : Bool) (w : World) (hr0 : Kd.C k40 w A0 l0.length l0) (hc0 : l0.length ≤ c0) (h : laws_FnExactMaySplit.f k l0 a1 = some r) :
  Calls Tryz.prog 3 #[.slice A0 l0.length c0, .int .i64 a1] w fun e w' => e = .returned (.bool r) ∧ Below w.heap.size w w' := by
 have HR0 := Aside0.mk hr0
 have HC0 := Aside0.mk hc0
 clear hr0 hc0
 have HB := Aside0.mk (Below.refl w.heap.size w)
 have H : ((laws_szInsS.f l0 1048576).bind fun t533 => (if t533 < 0 then (some true) else ((laws_toInsS.f k l0).bind fun t534 => ((spec_MaySplit.f k t534 a1).bind fun t537 => ((laws_toInsS.f k l0).bind fun t538 => ((impl_MaySplit.f k t538 a1).bind fun t541 => (if (t541 != t537) = true then (none) else ((laws_toInsS.f k l0).bind fun t542 => ((laws_eqInsS.f k t538 t542).bind fun t545 => (if t545 = true then (some true) else (none))))))))))) = some r := h
 clear h
 replace H := Option.bind_eq_some_iff.mp H
 obtain ⟨t533, A30, H⟩ := H
 replace H : (if t533 < 0 then (some true) else ((laws_toInsS.f k l0).bind fun t534 => ((spec_MaySplit.f k t534 a1).bind fun t537 => ((laws_toInsS.f k l0).bind fun t538 => ((impl_MaySplit.f k t538 a1).bind fun t541 => (if (t541 != t537) = true then (none) else ((laws_toInsS.f k l0).bind fun t542 => ((laws_eqInsS.f k t538 t542).bind fun t545 => (if t545 = true then (some true) else (none)))))))))) = some r := H
 have A3 := Aside0.mk A30
 clear A30
 by_cases c4 : t533 < 0
 ·rw [if_pos c4] at H
  have c4b0 : decide (t533 < 0) = true := decide_eq_true c4
  clear c4
  obtain rfl := Option.some.inj H
  go_enter Tryz.func3, Tryz.ntmps3
  go_wp2_with (first | ((with_reducible refine gate_callee (f := 6) rfl ?_); refine gL (some 11) Tryz.func6 #[.slice A0 l0.length c0, .int .i64 1048576] ?_; (with_reducible refine (laws_szInsS.calls _ _ l0 1048576 t533 _ ?side1 ?side2 A3.out).mono ?_); (case side1 => exact cS HR0.out); (case side2 => exact HC0.out); rintro e w' ⟨rfl, ⟨nd, rfl⟩⟩; refine ⟨_, rfl, ?_⟩))
  go_ret
  exact ⟨eR, bw⟩
 ·rw [if_neg c4] at H
  have c4b0 : decide (t533 < 0) = false := decide_eq_false c4
  clear c4
  replace H := Option.bind_eq_some_iff.mp H
  obtain ⟨t534, A50, H⟩ := H
  replace H : ((spec_MaySplit.f k t534 a1).bind fun t537 => ((laws_toInsS.f k l0).bind fun t538 => ((impl_MaySplit.f k t538 a1).bind fun t541 => (if (t541 != t537) = true then (none) else ((laws_toInsS.f k l0).bind fun t542 => ((laws_eqInsS.f k t538 t542).bind fun t545 => (if t545 = true then (some true) else (none)))))))) = some r := H
  have A5 := Aside0.mk A50
  clear A50
  replace H := Option.bind_eq_some_iff.mp H
  obtain ⟨t537, A60, H⟩ := H
  replace H : ((laws_toInsS.f k l0).bind fun t538 => ((impl_MaySplit.f k t538 a1).bind fun t541 => (if (t541 != t537) = true then (none) else ((laws_toInsS.f k l0).bind fun t542 => ((laws_eqInsS.f k t538 t542).bind fun t545 => (if t545 = true then (some true) else (none))))))) = some r := H
  have A6 := Aside0.mk A60
  clear A60
  replace H := Option.bind_eq_some_iff.mp H
  obtain ⟨t538, A70, H⟩ := H
  replace H : ((impl_MaySplit.f k t538 a1).bind fun t541 => (if (t541 != t537) = true then (none) else ((laws_toInsS.f k l0).bind fun t542 => ((laws_eqInsS.f k t538 t542).bind fun t545 => (if t545 = true then (some true) else (none)))))) = some r := H
  have A7 := Aside0.mk A70
  clear A70
  replace H := Option.bind_eq_some_iff.mp H
  obtain ⟨t541, A80, H⟩ := H
  replace H : (if (t541 != t537) = true then (none) else ((laws_toInsS.f k l0).bind fun t542 => ((laws_eqInsS.f k t538 t542).bind fun t545 => (if t545 = true then (some true) else (none))))) = some r := H
  have A8 := Aside0.mk A80
  clear A80
  by_cases c9 : (t541 != t537) = true
  ·rw [if_pos c9] at H
   exact absurd H (by simp)
  ·rw [if_neg c9] at H
   have c9b0 : (t541 != t537) = false := by simpa using c9
   (try (have c9b1 : decide (t541 = t537) = true := by simpa using c9))
   (try (have c9b2 : (t541 == t537) = true := by simpa using c9))
   clear c9
   replace H := Option.bind_eq_some_iff.mp H
   obtain ⟨t542, A100, H⟩ := H
   replace H : ((laws_eqInsS.f k t538 t542).bind fun t545 => (if t545 = true then (some true) else (none))) = some r := H
   have A10 := Aside0.mk A100
   clear A100
   replace H := Option.bind_eq_some_iff.mp H
   obtain ⟨t545, A110, H⟩ := H
   replace H : (if t545 = true then (some true) else (none)) = some r := H
   have A11 := Aside0.mk A110
   clear A110
   by_cases c12 : t545 = true
   ·subst c12
    have H1 : (some true) = some r := by rw [if_pos rfl] at H; exact H
    clear H
    have H := H1
    clear H1
    obtain rfl := Option.some.inj H
    go_enter Tryz.func3, Tryz.ntmps3
    go_wp2_with (first | ((with_reducible refine gate_callee (f := 6) rfl ?_); refine gL (some 11) Tryz.func6 #[.slice A0 l0.length c0, .int .i64 1048576] ?_; (with_reducible refine (laws_szInsS.calls _ _ l0 1048576 t533 _ ?side1 ?side2 A3.out).mono ?_); (case side1 => exact cS HR0.out); (case side2 => exact HC0.out); rintro e w' ⟨rfl, ⟨nd, rfl⟩⟩; refine ⟨_, rfl, ?_⟩) | ((with_reducible refine gate_callee (f := 8) rfl ?_); refine gL (some 15) Tryz.func8 #[.slice A0 l0.length c0] ?_; (with_reducible refine (laws_toInsS.calls k _ _ l0 t534 _ ?side1 ?side2 A5.out).mono ?_); (case side1 => exact cS HR0.out); (case side2 => exact HC0.out); rintro e w13 ⟨v535, rfl, ho0, hb⟩; refine ⟨_, rfl, ?_⟩; have HO536 := Aside0.mk (Kd.R_lower ho0 (below_size bw)); replace HB := Aside0.mk (below_step bw hb); (try clear hb); (try clear ho0); obtain ⟨Ao14, co14, eo14⟩ := Kd.R_slice HO536.out; subst eo14) | ((with_reducible refine gate_callee (f := 7) rfl ?_); refine gL (some 17) Tryz.func7 #[.slice Ao14 t534.length co14, .int .i64 a1] ?_; (with_reducible refine (spec_MaySplit.calls k _ _ t534 a1 t537 _ ?side1 ?side2 A6.out).mono ?_); (case side1 => exact cS (Kd.R_reads' HO536.out).2.2); (case side2 => exact (Kd.R_reads' HO536.out).2.1); rintro e w15 ⟨rfl, hb⟩; refine ⟨_, rfl, ?_⟩; replace HO536 := Aside0.mk (Kd.R_below (rS HO536.out) hb); replace HB := Aside0.mk (below_step bw hb); (try clear hb)) | ((with_reducible refine gate_callee (f := 8) rfl ?_); refine gL (some 19) Tryz.func8 #[.slice A0 l0.length c0] ?_; (with_reducible refine (laws_toInsS.calls k _ _ l0 t538 _ ?side1 ?side2 A7.out).mono ?_); (case side1 => repeat (first | exact (Kd.C_below HR0.out HB.out) | (with_reducible refine Kd.C_alloc ?_ _) | (with_reducible refine Kd.C_drewN ?_ _) | (with_reducible refine Kd.C_drew ?_))); (case side2 => exact HC0.out); rintro e w16 ⟨v539, rfl, ho0, hb⟩; refine ⟨_, rfl, ?_⟩; have HO540 := Aside0.mk (Kd.R_lower (Kd.R_new' ho0 (Kd.R_lt (rS HO536.out))) (below_size bw)); replace HO536 := Aside0.mk (Kd.R_elder' (rS HO536.out) (Kd.R_base ho0) hb); replace HB := Aside0.mk (below_step bw hb); (try clear hb); (try clear ho0); obtain ⟨Ao17, co17, eo17⟩ := Kd.R_slice HO540.out; subst eo17) | ((with_reducible refine gate_callee (f := 9) rfl ?_); refine gL (some 22) Tryz.func9 #[.slice Ao17 t538.length co17, .int .i64 a1] ?_; (with_reducible refine (impl_MaySplit.calls k _ _ t538 a1 t541 _ ?side1 ?side2 A8.out).mono ?_); (case side1 => exact cS (Kd.R_reads' HO540.out).2.2); (case side2 => exact (Kd.R_reads' HO540.out).2.1); rintro e w18 ⟨rfl, hb⟩; refine ⟨_, rfl, ?_⟩; replace HO536 := Aside0.mk (Kd.R_below (rS HO536.out) hb); replace HO540 := Aside0.mk (Kd.R_below (rS HO540.out) hb); replace HB := Aside0.mk (below_step bw hb); (try clear hb)) | ((with_reducible refine gate_callee (f := 8) rfl ?_); refine gL (some 28) Tryz.func8 #[.slice A0 l0.length c0] ?_; (with_reducible refine (laws_toInsS.calls k _ _ l0 t542 _ ?side1 ?side2 A10.out).mono ?_); (case side1 => repeat (first | exact (Kd.C_below HR0.out HB.out) | (with_reducible refine Kd.C_alloc ?_ _) | (with_reducible refine Kd.C_drewN ?_ _) | (with_reducible refine Kd.C_drew ?_))); (case side2 => exact HC0.out); rintro e w19 ⟨v543, rfl, ho0, hb⟩; refine ⟨_, rfl, ?_⟩; have HO544 := Aside0.mk (Kd.R_lower (Kd.R_new' (Kd.R_new' ho0 (Kd.R_lt (rS HO536.out))) (Kd.R_lt (rS HO540.out))) (below_size bw)); replace HO536 := Aside0.mk (Kd.R_elder' (rS HO536.out) (Kd.R_base ho0) hb); replace HO540 := Aside0.mk (Kd.R_elder' (rS HO540.out) (Kd.R_base ho0) hb); replace HB := Aside0.mk (below_step bw hb); (try clear hb); (try clear ho0); obtain ⟨Ao20, co20, eo20⟩ := Kd.R_slice HO544.out; subst eo20) | ((with_reducible refine gate_callee (f := 10) rfl ?_); refine gL (some 29) Tryz.func10 #[.slice Ao17 t538.length co17, .slice Ao20 t542.length co20] ?_; (with_reducible refine (laws_eqInsS.calls k _ _ t538 _ _ t542 true _ ?side1 ?side2 ?side3 ?side4 A11.out).mono ?_); (case side1 => exact cS (Kd.R_reads' HO540.out).2.2); (case side2 => exact (Kd.R_reads' HO540.out).2.1); (case side3 => exact cS (Kd.R_reads' HO544.out).2.2); (case side4 => exact (Kd.R_reads' HO544.out).2.1); rintro e w21 ⟨rfl, hb⟩; refine ⟨_, rfl, ?_⟩; replace HO536 := Aside0.mk (Kd.R_below (rS HO536.out) hb); replace HO540 := Aside0.mk (Kd.R_below (rS HO540.out) hb); replace HO544 := Aside0.mk (Kd.R_below (rS HO544.out) hb); replace HB := Aside0.mk (below_step bw hb); (try clear hb)))
    go_ret
    exact ⟨eR, bw⟩
   ·replace c12 := Bool.eq_false_iff.mpr c12
    subst c12
    have H1 : (none) = some r := by rw [if_neg (show ¬ (false = true) by decide)] at H; exact H
    clear H
    have H := H1
    clear H1
    exact absurd H (by simp)

/-- THE ONE PURE STATEMENT of laws_FnExactMaySplit. -/
def laws_FnExactMaySplit.Pure : Prop := ∀ (l0 : List (S40)) (a1 : Int), l0.length ≤ maxLen → (Lit.int .i64 a1).wf = true → ∃ k, laws_FnExactMaySplit.f k l0 a1 = some true

end Go.Proofs.YtdppehpcpofeoaaGreat.PFnExactMaySplit
