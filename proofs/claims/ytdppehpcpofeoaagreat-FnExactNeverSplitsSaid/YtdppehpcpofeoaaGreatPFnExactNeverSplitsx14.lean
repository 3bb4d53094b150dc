-- Written by myprint.py (a program of this session, over the kit's print): not trusted, Lean checks it.
import Derived.Test.YtdppehpcpofeoaaGreatPFnExactNeverSplitsx0
import Derived.Test.YtdppehpcpofeoaaGreatPFnExactNeverSplitsx11
namespace Go.Proofs.YtdppehpcpofeoaaGreat.PFnExactNeverSplits
open Go.RowKit Go.Proofs.YtdppehpcpofeoaaGreatW.PrintWords Go.Proofs.YtdppehpcpofeoaaGreatW.PrintLast Go.Proofs.YtdppehpcpofeoaaGreatW.PrintMore
attribute [local go_sem] max2_int min2_int max_two min_two max_three min_three max_four min_four   -- for this text's walks alone
set_option linter.unusedVariables false
set_option linter.unusedSimpArgs false

/-! ### impl_writtenIn: function 40 -/
def impl_writtenIn.l0 : Nat → List (S38) → Int → List Int → Int → Int → Option (Int)
 | 0, _, _, _, _, _ => none
 | k + 1, x0, x5, x8, x9, x10 => if x10 < x9 then (if 0 ≤ x10 then (if x10 < (x8.length : Int) then (if (rd x8 x10) < (x0.length : Int) then (if 0 ≤ (rd x8 x10) then ((impl_WritesReg.f ((rd_T38 x0 (rd x8 x10)).f0) ((rd_T38 x0 (rd x8 x10)).f1) ((rd_T38 x0 (rd x8 x10)).f2) ((rd_T38 x0 (rd x8 x10)).f3)).bind fun t486 => (if t486 ≥ 0 then ((impl_WritesReg.f ((rd_T38 x0 (rd x8 x10)).f0) ((rd_T38 x0 (rd x8 x10)).f1) ((rd_T38 x0 (rd x8 x10)).f2) ((rd_T38 x0 (rd x8 x10)).f3)).bind fun t488 => (if 0 ≤ t488 then (impl_writtenIn.l0 k x0 (Go.bits .or .i64 x5 (shl .i64 1 t488)) x8 x9 (wrap64 (x10 + 1))) else (none))) else (impl_writtenIn.l0 k x0 x5 x8 x9 (wrap64 (x10 + 1))))) else (none)) else (impl_writtenIn.l0 k x0 x5 x8 x9 (wrap64 (x10 + 1)))) else (none)) else (none)) else (some x5)
def impl_writtenIn.f (k : Nat) (l0 : List (S38)) (l1 : List Int) : Option (Int) := impl_writtenIn.l0 k l0 0 l1 (l1.length : Int) 0
theorem impl_writtenIn.mono_l : ∀ k, (∀ y0 y1 y2 y3 y4, LeO (impl_writtenIn.l0 k y0 y1 y2 y3 y4) (impl_writtenIn.l0 (k + 1) y0 y1 y2 y3 y4))
 | 0 => fun _ _ _ _ _ r h => by simp [impl_writtenIn.l0] at h
 | k + 1 => by
  have ih0 := impl_writtenIn.mono_l k
  ·intro y0 y1 y2 y3 y4
   unfold impl_writtenIn.l0
   repeat' first
   | (with_reducible exact ih0 _ _ _ _ _)
   | (with_reducible exact LeO.refl _)
   | (with_reducible exact LeO.none _)
   | (with_reducible refine LeO.ite ?_ ?_)
   | (with_reducible refine LeO.bind ?_ (fun _ => ?_))
   | exact ih0 _ _ _ _ _
   | exact LeO.none _
   | refine LeO.ite ?_ ?_
   | refine LeO.bind ?_ (fun _ => ?_)
theorem impl_writtenIn.mono : ∀ a0 a1 k, LeO (impl_writtenIn.f k a0 a1) (impl_writtenIn.f (k + 1) a0 a1) := by
 intro a0 a1 k
 have ih0 := impl_writtenIn.mono_l k
 unfold impl_writtenIn.f
 repeat' first
   | (with_reducible exact ih0 _ _ _ _ _)
   | (with_reducible exact LeO.refl _)
   | (with_reducible exact LeO.none _)
   | (with_reducible refine LeO.ite ?_ ?_)
   | (with_reducible refine LeO.bind ?_ (fun _ => ?_))
   | exact ih0 _ _ _ _ _
   | exact LeO.none _
   | refine LeO.ite ?_ ?_
   | refine LeO.bind ?_ (fun _ => ?_)
set_option maxHeartbeats 8000000 in
set_option maxRecDepth 100000 in
theorem impl_writtenIn.calls (k : Nat) (A0 : Option Addr) (c0 : Nat) (l0 : List (S38)) (A1 : Option Addr) (c1 : Nat) (l1 : List Int) (r : Int) (w : World) (hr0 : Kd.C k38 w A0 l0.length l0) (hc0 : l0.length ≤ c0) (hr1 : Kd.C (Kd.int .i64) w A1 l1.length l1) (hc1 : l1.length ≤ c1) (h : impl_writtenIn.f k l0 l1 = some r) :
  Calls Tryz.prog 40 #[.slice A0 l0.length c0, .slice A1 l1.length c1] w fun e w' => e = .returned (.int .i64 r) ∧ Below w.heap.size w w' := by
 have hu38 := Tryz.underlying38
 have HR0 := Aside0.mk hr0
 have HC0 := Aside0.mk hc0
 clear hr0 hc0
 have HR1 := Aside0.mk hr1
 have HC1 := Aside0.mk hc1
 clear hr1 hc1
 have HB := Aside0.mk (Below.refl w.heap.size w)
 have H : (impl_writtenIn.l0 k l0 0 l1 (l1.length : Int) 0) = some r := h
 clear h
 have H' := Aside0.mk H
 clear H
 go_enter Tryz.func40, Tryz.ntmps40
 go_wp2
 go_loopg [5, 10] k (fun kq v5 v10 w' => ∃ (x5_1 : Int) (x10_1 : Int), v5 = .int .i64 x5_1 ∧ v10 = .int .i64 x10_1 ∧ Aside0 (impl_writtenIn.l0 kq l0 x5_1 l1 (l1.length : Int) x10_1 = some r) ∧ Aside0 (kq ≤ k) ∧ Aside0 (Below w.heap.size w w'))
 case atStart => exact ⟨(0), (0), tR, tR, H', ⟨Nat.le_refl _⟩, ⟨bw⟩⟩
 case round =>
  clear H'
  try clear c1;try clear p2
  obtain ⟨x5_1, x10_1, rfl, rfl, HA, HK1, HB⟩ := hrel
  cases gk with
  | zero => exact absurd HA.out (by simp [impl_writtenIn.l0])
  | succ k1 =>
   have H := HA.out
   clear HA
   simp only [impl_writtenIn.l0] at H
   by_cases c3 : x10_1 < (l1.length : Int)
   ·rw [if_pos c3] at H
    have c3b0 : decide (x10_1 < (l1.length : Int)) = true := decide_eq_true c3
    clear c3
    by_cases c4 : 0 ≤ x10_1
    ·rw [if_pos c4] at H
     have c4b0 : decide (0 ≤ x10_1) = true := decide_eq_true c4
     clear c4
     by_cases c5 : x10_1 < (l1.length : Int)
     ·rw [if_pos c5] at H
      have c5b0 : decide (x10_1 < (l1.length : Int)) = true := decide_eq_true c5
      clear c5
      by_cases c6 : (rd l1 x10_1) < (l0.length : Int)
      ·rw [if_pos c6] at H
       have c6b0 : decide ((rd l1 x10_1) < (l0.length : Int)) = true := decide_eq_true c6
       clear c6
       by_cases c7 : 0 ≤ (rd l1 x10_1)
       ·rw [if_pos c7] at H
        have c7b0 : decide (0 ≤ (rd l1 x10_1)) = true := decide_eq_true c7
        clear c7
        replace H := Option.bind_eq_some_iff.mp H
        obtain ⟨t486, A80, H⟩ := H
        replace H : (if t486 ≥ 0 then ((impl_WritesReg.f ((rd_T38 l0 (rd l1 x10_1)).f0) ((rd_T38 l0 (rd l1 x10_1)).f1) ((rd_T38 l0 (rd l1 x10_1)).f2) ((rd_T38 l0 (rd l1 x10_1)).f3)).bind fun t488 => (if 0 ≤ t488 then (impl_writtenIn.l0 k1 l0 (Go.bits .or .i64 x5_1 (shl .i64 1 t488)) l1 (l1.length : Int) (wrap64 (x10_1 + 1))) else (none))) else (impl_writtenIn.l0 k1 l0 x5_1 l1 (l1.length : Int) (wrap64 (x10_1 + 1)))) = some r := H
        have A8 := Aside0.mk A80
        clear A80
        by_cases c9 : t486 ≥ 0
        ·rw [if_pos c9] at H
         have c9b0 : decide (0 ≤ t486) = true := decide_eq_true c9
         clear c9
         replace H := Option.bind_eq_some_iff.mp H
         obtain ⟨t488, A100, H⟩ := H
         replace H : (if 0 ≤ t488 then (impl_writtenIn.l0 k1 l0 (Go.bits .or .i64 x5_1 (shl .i64 1 t488)) l1 (l1.length : Int) (wrap64 (x10_1 + 1))) else (none)) = some r := H
         have A10 := Aside0.mk A100
         clear A100
         by_cases c11 : 0 ≤ t488
         ·rw [if_pos c11] at H
          have c11b0 := eq_true c11
          have c11b1 : decide (0 ≤ t488) = true := decide_eq_true c11
          clear c11
          obtain ⟨ji12, hji12⟩ : ∃ j_ : Int, (shl .i64 1 t488) = j_ := ⟨_, rfl⟩
          replace H : (impl_writtenIn.l0 k1 l0 (Go.bits .or .i64 x5_1 (ji12)) l1 (l1.length : Int) (wrap64 (x10_1 + 1))) = some r := by first | (rw [hji12] at H; exact H) | (simp only [hji12] at H ⊢; exact H)
          (try rw [hji12] at A8)
          (try rw [hji12] at A10)
          have hji12_ : (IntKind.i64.wrap (1 * 2 ^ min t488.toNat 64)) = ji12 := hji12
          have hji12z : t488 ≤ 64 → (IntKind.i64.wrap (1 * 2 ^ t488.toNat)) = ji12 := shl_small hji12
          have hji12u : (IntKind.i64.wrap (2 ^ min t488.toNat 64)) = ji12 := by have h_ := hji12_; rw [Int.one_mul] at h_; exact h_
          have hji12v : t488 ≤ 64 → (IntKind.i64.wrap (2 ^ t488.toNat)) = ji12 := fun hle_ => by have h_ := hji12z hle_; rw [Int.one_mul] at h_; exact h_
          have hji12y : (wrap64 (1 * 2 ^ min t488.toNat 64)) = ji12 := (i64_w _).symm.trans hji12_
          have hji12x : t488 ≤ 64 → (wrap64 (1 * 2 ^ t488.toNat)) = ji12 := fun h_ => (i64_w _).symm.trans (hji12z h_)
          have H' := Aside0.mk H
          clear H
          have p484 : 0 ≤ (x10_1 : Int) := dT
          have q484 : x10_1 < (l1.length : Int) := dT
          obtain ⟨ad484, e484, hx484_0⟩ := Kd.at_int HR1.out x10_1 p484 q484
          cases e484
          replace hx484_0 := (HB.out.cell (World.block_lt_of_cell? w _ hx484_0)).trans hx484_0
          replace p484 := eq_true p484
          replace q484 := eq_true q484
          have p485 : 0 ≤ ((rd l1 x10_1) : Int) := dT
          have q485 : (rd l1 x10_1) < (l0.length : Int) := dT
          obtain ⟨ad485, e485, hx485_0, hx485_1, hx485_2, hx485_3⟩ := at_T38 HR0.out (rd l1 x10_1) p485 q485
          cases e485
          replace hx485_0 := (HB.out.cell (World.block_lt_of_cell? w _ hx485_0)).trans hx485_0
          replace hx485_1 := (HB.out.cell (World.block_lt_of_cell? w _ hx485_1)).trans hx485_1
          replace hx485_2 := (HB.out.cell (World.block_lt_of_cell? w _ hx485_2)).trans hx485_2
          replace hx485_3 := (HB.out.cell (World.block_lt_of_cell? w _ hx485_3)).trans hx485_3
          replace p485 := eq_true p485
          replace q485 := eq_true q485
          go_wp2_with (first | (go_at_call 61; (with_reducible refine (impl_WritesReg.calls ((rd_T38 l0 (rd l1 x10_1)).f0) ((rd_T38 l0 (rd l1 x10_1)).f1) ((rd_T38 l0 (rd l1 x10_1)).f2) ((rd_T38 l0 (rd l1 x10_1)).f3) t486 _ A8.out).mono ?_); rintro e w13 ⟨rfl, hb⟩; replace HB := Aside0.mk (below_step bw hb); (try clear hb); have p487 : 0 ≤ ((rd l1 x10_1) : Int) := dT; have q487 : (rd l1 x10_1) < (l0.length : Int) := dT; obtain ⟨ad487, e487, hx487_0, hx487_1, hx487_2, hx487_3⟩ := at_T38 HR0.out (rd l1 x10_1) p487 q487; obtain rfl : ad485 = ad487 := (by injection e487); replace hx487_0 := (HB.out.cell (World.block_lt_of_cell? w _ hx487_0)).trans hx487_0; replace hx487_1 := (HB.out.cell (World.block_lt_of_cell? w _ hx487_1)).trans hx487_1; replace hx487_2 := (HB.out.cell (World.block_lt_of_cell? w _ hx487_2)).trans hx487_2; replace hx487_3 := (HB.out.cell (World.block_lt_of_cell? w _ hx487_3)).trans hx487_3; replace p487 := eq_true p487; replace q487 := eq_true q487) | ((with_reducible refine gate_callee (f := 61) rfl ?_); refine gL (some 31) Tryz.func61 #[.agg #[.int .i64 ((rd_T38 l0 (rd l1 x10_1)).f0), .int .i64 ((rd_T38 l0 (rd l1 x10_1)).f1), .int .i64 ((rd_T38 l0 (rd l1 x10_1)).f2), .int .i64 ((rd_T38 l0 (rd l1 x10_1)).f3)]] ?_; (with_reducible refine (impl_WritesReg.calls ((rd_T38 l0 (rd l1 x10_1)).f0) ((rd_T38 l0 (rd l1 x10_1)).f1) ((rd_T38 l0 (rd l1 x10_1)).f2) ((rd_T38 l0 (rd l1 x10_1)).f3) t488 _ A10.out).mono ?_); rintro e w14 ⟨rfl, hb⟩; refine ⟨_, rfl, ?_⟩; replace HB := Aside0.mk (below_step bw hb); (try clear hb)))
          go_roundg k1
          case measure => have := HK1.out; omega
          case rel => exact ⟨(Go.bits .or .i64 x5_1 (ji12)), (wrap64 (x10_1 + 1)), (by first | rfl | (simp; done) | (simp only [← hji12] <;> (first | rfl | simp)) | (simp [*]; done)), tR, H', ⟨by have := HK1.out; omega⟩, ⟨bw⟩⟩
         ·rw [if_neg c11] at H
          exact absurd H (by simp)
        ·rw [if_neg c9] at H
         have c9b0 : decide (0 ≤ t486) = false := decide_eq_false c9
         clear c9
         have H' := Aside0.mk H
         clear H
         have p484 : 0 ≤ (x10_1 : Int) := dT
         have q484 : x10_1 < (l1.length : Int) := dT
         obtain ⟨ad484, e484, hx484_0⟩ := Kd.at_int HR1.out x10_1 p484 q484
         cases e484
         replace hx484_0 := (HB.out.cell (World.block_lt_of_cell? w _ hx484_0)).trans hx484_0
         replace p484 := eq_true p484
         replace q484 := eq_true q484
         have p485 : 0 ≤ ((rd l1 x10_1) : Int) := dT
         have q485 : (rd l1 x10_1) < (l0.length : Int) := dT
         obtain ⟨ad485, e485, hx485_0, hx485_1, hx485_2, hx485_3⟩ := at_T38 HR0.out (rd l1 x10_1) p485 q485
         cases e485
         replace hx485_0 := (HB.out.cell (World.block_lt_of_cell? w _ hx485_0)).trans hx485_0
         replace hx485_1 := (HB.out.cell (World.block_lt_of_cell? w _ hx485_1)).trans hx485_1
         replace hx485_2 := (HB.out.cell (World.block_lt_of_cell? w _ hx485_2)).trans hx485_2
         replace hx485_3 := (HB.out.cell (World.block_lt_of_cell? w _ hx485_3)).trans hx485_3
         replace p485 := eq_true p485
         replace q485 := eq_true q485
         go_wp2_with (first | (go_at_call 61; (with_reducible refine (impl_WritesReg.calls ((rd_T38 l0 (rd l1 x10_1)).f0) ((rd_T38 l0 (rd l1 x10_1)).f1) ((rd_T38 l0 (rd l1 x10_1)).f2) ((rd_T38 l0 (rd l1 x10_1)).f3) t486 _ A8.out).mono ?_); rintro e w15 ⟨rfl, hb⟩; replace HB := Aside0.mk (below_step bw hb); (try clear hb)))
         go_roundg k1
         case measure => have := HK1.out; omega
         case rel => exact ⟨(x5_1), (wrap64 (x10_1 + 1)), tR, tR, H', ⟨by have := HK1.out; omega⟩, ⟨bw⟩⟩
       ·rw [if_neg c7] at H
        exact absurd H (by simp)
      ·rw [if_neg c6] at H
       have c6b0 : decide ((rd l1 x10_1) < (l0.length : Int)) = false := decide_eq_false c6
       clear c6
       have H' := Aside0.mk H
       clear H
       have p484 : 0 ≤ (x10_1 : Int) := dT
       have q484 : x10_1 < (l1.length : Int) := dT
       obtain ⟨ad484, e484, hx484_0⟩ := Kd.at_int HR1.out x10_1 p484 q484
       cases e484
       replace hx484_0 := (HB.out.cell (World.block_lt_of_cell? w _ hx484_0)).trans hx484_0
       replace p484 := eq_true p484
       replace q484 := eq_true q484
       go_wp2
       go_roundg k1
       case measure => have := HK1.out; omega
       case rel => exact ⟨(x5_1), (wrap64 (x10_1 + 1)), tR, tR, H', ⟨by have := HK1.out; omega⟩, ⟨bw⟩⟩
     ·rw [if_neg c5] at H
      exact absurd H (by simp)
    ·rw [if_neg c4] at H
     exact absurd H (by simp)
   ·rw [if_neg c3] at H
    have c3b0 : decide (x10_1 < (l1.length : Int)) = false := decide_eq_false c3
    clear c3
    obtain rfl := Option.some.inj H
    go_wp2
    go_ret
    exact ⟨eR, bw⟩

/-! ### slices_Equal_int_int: function 42 -/
def slices_Equal_int_int.l0 : Nat → List Int → List Int → Int → Int → Option (Bool)
 | 0, _, _, _, _ => none
 | k + 1, x0, x1, x12, x13 => if x13 < x12 then (if 0 ≤ x13 then (if x13 < (x0.length : Int) then (if x13 < (x1.length : Int) then (if (rd x0 x13) = (rd x1 x13) then (slices_Equal_int_int.l0 k x0 x1 x12 (wrap64 (x13 + 1))) else (some false)) else (none)) else (none)) else (none)) else (some true)
def slices_Equal_int_int.f (k : Nat) (l0 : List Int) (l1 : List Int) : Option (Bool) := if (l0.length : Int) = (l1.length : Int) then (slices_Equal_int_int.l0 k l0 l1 (l0.length : Int) 0) else (some false)
theorem slices_Equal_int_int.mono_l : ∀ k, (∀ y0 y1 y2 y3, LeO (slices_Equal_int_int.l0 k y0 y1 y2 y3) (slices_Equal_int_int.l0 (k + 1) y0 y1 y2 y3))
 | 0 => fun _ _ _ _ r h => by simp [slices_Equal_int_int.l0] at h
 | k + 1 => by
  have ih0 := slices_Equal_int_int.mono_l k
  ·intro y0 y1 y2 y3
   unfold slices_Equal_int_int.l0
   repeat' first
   | (with_reducible exact ih0 _ _ _ _)
   | (with_reducible exact LeO.refl _)
   | (with_reducible exact LeO.none _)
   | (with_reducible refine LeO.ite ?_ ?_)
   | (with_reducible refine LeO.bind ?_ (fun _ => ?_))
   | exact ih0 _ _ _ _
   | exact LeO.none _
   | refine LeO.ite ?_ ?_
   | refine LeO.bind ?_ (fun _ => ?_)
theorem slices_Equal_int_int.mono : ∀ a0 a1 k, LeO (slices_Equal_int_int.f k a0 a1) (slices_Equal_int_int.f (k + 1) a0 a1) := by
 intro a0 a1 k
 have ih0 := slices_Equal_int_int.mono_l k
 unfold slices_Equal_int_int.f
 repeat' first
   | (with_reducible exact ih0 _ _ _ _)
   | (with_reducible exact LeO.refl _)
   | (with_reducible exact LeO.none _)
   | (with_reducible refine LeO.ite ?_ ?_)
   | (with_reducible refine LeO.bind ?_ (fun _ => ?_))
   | exact ih0 _ _ _ _
   | exact LeO.none _
   | refine LeO.ite ?_ ?_
   | refine LeO.bind ?_ (fun _ => ?_)
set_option maxHeartbeats 8000000 in
set_option maxRecDepth 100000 in
theorem slices_Equal_int_int.calls (k : Nat) (A0 : Option Addr) (c0 : Nat) (l0 : List Int) (A1 : Option Addr) (c1 : Nat) (l1 : List Int) (r : Bool) (w : World) (hr0 : Kd.C (Kd.int .i64) w A0 l0.length l0) (hc0 : l0.length ≤ c0) (hr1 : Kd.C (Kd.int .i64) w A1 l1.length l1) (hc1 : l1.length ≤ c1) (h : slices_Equal_int_int.f k l0 l1 = some r) :
  Calls Tryz.prog 42 #[.slice A0 l0.length c0, .slice A1 l1.length c1] w fun e w' => e = .returned (.bool r) ∧ Drawn0 w w' := by
 have HR0 := Aside0.mk hr0
 have HC0 := Aside0.mk hc0
 clear hr0 hc0
 have HR1 := Aside0.mk hr1
 have HC1 := Aside0.mk hc1
 clear hr1 hc1
 have H : (if (l0.length : Int) = (l1.length : Int) then (slices_Equal_int_int.l0 k l0 l1 (l0.length : Int) 0) else (some false)) = some r := h
 clear h
 by_cases c3 : (l0.length : Int) = (l1.length : Int)
 ·rw [if_pos c3] at H
  have c3b0 : ((l0.length : Int) == (l1.length : Int)) = true := beq_iff_eq.mpr c3
  have c3b1 : ((l0.length : Int) != (l1.length : Int)) = false := bne_eq_false_iff_eq.mpr c3
  have c3b2 : (l0.length == l1.length) = true := by first | simpa using c3 | (simp at c3 ⊢; omega)
  clear c3
  have H' := Aside0.mk H
  clear H
  go_enter Tryz.func42, Tryz.ntmps42
  go_wp2
  repeat (go_quiet (fail); try go_wp2)
  go_loopg [13] k (fun kq v13 w' => ∃ (x13_1 : Int), v13 = .int .i64 x13_1 ∧ Aside0 (slices_Equal_int_int.l0 kq l0 l1 (l0.length : Int) x13_1 = some r) ∧ Aside0 (kq ≤ k) ∧ Drawn0 w w')
  case atStart => exact ⟨(0), tR, H', ⟨Nat.le_refl _⟩, by repeat (first | exact Drawn0.refl _ | apply Drawn0.step)⟩
  case round =>
   clear H'
   try clear c1;try clear p2;try clear c3;try clear c3b0;try clear c3b1;try clear c3b2
   obtain ⟨x13_1, rfl, HA, HK1, ⟨m1, rfl⟩⟩ := hrel
   cases gk with
   | zero => exact absurd HA.out (by simp [slices_Equal_int_int.l0])
   | succ k1 =>
    have H := HA.out
    clear HA
    simp only [slices_Equal_int_int.l0] at H
    by_cases c4 : x13_1 < (l0.length : Int)
    ·rw [if_pos c4] at H
     have c4b0 : decide (x13_1 < (l0.length : Int)) = true := decide_eq_true c4
     clear c4
     by_cases c5 : 0 ≤ x13_1
     ·rw [if_pos c5] at H
      have c5b0 : decide (0 ≤ x13_1) = true := decide_eq_true c5
      clear c5
      by_cases c6 : x13_1 < (l0.length : Int)
      ·rw [if_pos c6] at H
       have c6b0 : decide (x13_1 < (l0.length : Int)) = true := decide_eq_true c6
       clear c6
       by_cases c7 : x13_1 < (l1.length : Int)
       ·rw [if_pos c7] at H
        have c7b0 : decide (x13_1 < (l1.length : Int)) = true := decide_eq_true c7
        clear c7
        by_cases c8 : (rd l0 x13_1) = (rd l1 x13_1)
        ·rw [if_pos c8] at H
         have c8b0 : ((rd l0 x13_1) == (rd l1 x13_1)) = true := beq_iff_eq.mpr c8
         have c8b1 : ((rd l0 x13_1) != (rd l1 x13_1)) = false := bne_eq_false_iff_eq.mpr c8
         clear c8
         have H' := Aside0.mk H
         clear H
         have p489 : 0 ≤ (x13_1 : Int) := dT
         have q489 : x13_1 < (l0.length : Int) := dT
         obtain ⟨ad489, e489, hx489_0⟩ := Kd.at_int HR0.out x13_1 p489 q489
         cases e489
         replace p489 := eq_true p489
         replace q489 := eq_true q489
         have p490 : 0 ≤ (x13_1 : Int) := dT
         have q490 : x13_1 < (l1.length : Int) := dT
         obtain ⟨ad490, e490, hx490_0⟩ := Kd.at_int HR1.out x13_1 p490 q490
         cases e490
         replace p490 := eq_true p490
         replace q490 := eq_true q490
         go_wp2
         repeat (go_quiet (fail); try go_wp2)
         go_roundg k1
         case measure => have := HK1.out; omega
         case rel => exact ⟨(wrap64 (x13_1 + 1)), tR, H', ⟨by have := HK1.out; omega⟩, by repeat (first | exact Drawn0.refl _ | apply Drawn0.step)⟩
        ·rw [if_neg c8] at H
         have c8b0 : ((rd l0 x13_1) == (rd l1 x13_1)) = false := beq_eq_false_iff_ne.mpr c8
         have c8b1 : ((rd l0 x13_1) != (rd l1 x13_1)) = true := bne_iff_ne.mpr c8
         obtain rfl := Option.some.inj H
         have p489 : 0 ≤ (x13_1 : Int) := dT
         have q489 : x13_1 < (l0.length : Int) := dT
         obtain ⟨ad489, e489, hx489_0⟩ := Kd.at_int HR0.out x13_1 p489 q489
         cases e489
         replace p489 := eq_true p489
         replace q489 := eq_true q489
         have p490 : 0 ≤ (x13_1 : Int) := dT
         have q490 : x13_1 < (l1.length : Int) := dT
         obtain ⟨ad490, e490, hx490_0⟩ := Kd.at_int HR1.out x13_1 p490 q490
         cases e490
         replace p490 := eq_true p490
         replace q490 := eq_true q490
         go_wp2
         repeat (go_quiet (fail); try go_wp2)
         go_ret
         exact ⟨by first | rfl | (simp; done) | (simp [*]; done), by repeat (first | exact Drawn0.refl _ | apply Drawn0.step)⟩
       ·rw [if_neg c7] at H
        exact absurd H (by simp)
      ·rw [if_neg c6] at H
       exact absurd H (by simp)
     ·rw [if_neg c5] at H
      exact absurd H (by simp)
    ·rw [if_neg c4] at H
     have c4b0 : decide (x13_1 < (l0.length : Int)) = false := decide_eq_false c4
     clear c4
     obtain rfl := Option.some.inj H
     go_wp2
     repeat (go_quiet (fail); try go_wp2)
     go_ret
     exact ⟨by first | rfl | (simp; done) | (simp [*]; done), by repeat (first | exact Drawn0.refl _ | apply Drawn0.step)⟩
 ·rw [if_neg c3] at H
  have c3b0 : ((l0.length : Int) == (l1.length : Int)) = false := beq_eq_false_iff_ne.mpr c3
  have c3b1 : ((l0.length : Int) != (l1.length : Int)) = true := bne_iff_ne.mpr c3
  have c3b2 : (l0.length == l1.length) = false := by first | simpa using c3 | (simp at c3 ⊢; omega)
  obtain rfl := Option.some.inj H
  go_enter Tryz.func42, Tryz.ntmps42
  go_wp2
  repeat (go_quiet (fail); try go_wp2)
  go_ret
  exact ⟨by first | rfl | (simp; done) | (simp [*]; done), by repeat (first | exact Drawn0.refl _ | apply Drawn0.step)⟩

end Go.Proofs.YtdppehpcpofeoaaGreat.PFnExactNeverSplits
