-- Written by myprint.py (a program of this session, over the kit's print): not trusted, Lean checks it.
import Derived.Test.YtdppehpcpofeoaaGreatPFnExactMaySplitx0
import Derived.Test.YtdppehpcpofeoaaGreatPFnExactMaySplitx11
namespace Go.Proofs.YtdppehpcpofeoaaGreat.PFnExactMaySplit
open Go.RowKit Go.Proofs.YtdppehpcpofeoaaGreatW.PrintWords Go.Proofs.YtdppehpcpofeoaaGreatW.PrintLast Go.Proofs.YtdppehpcpofeoaaGreatW.PrintMore
attribute [local go_sem] max2_int min2_int max_two min_two max_three min_three max_four min_four   -- for this text's walks alone
set_option linter.unusedVariables false
set_option linter.unusedSimpArgs false

/-! ### impl_writtenIn: function 40 -/
def impl_writtenIn.l0 : Nat → List (S38) → Int → List Int → Int → Int → Option (Int)
 | 0, _, _, _, _, _ => none
 | k + 1, x0, x5, x8, x9, x10 => if x10 < x9 then (if 0 ≤ x10 then (if x10 < (x8.length : Int) then (if (rd x8 x10) < (x0.length : Int) then (if 0 ≤ (rd x8 x10) then ((impl_WritesReg.f ((rd_T38 x0 (rd x8 x10)).f0) ((rd_T38 x0 (rd x8 x10)).f1) ((rd_T38 x0 (rd x8 x10)).f2) ((rd_T38 x0 (rd x8 x10)).f3)).bind fun t475 => (if t475 ≥ 0 then ((impl_WritesReg.f ((rd_T38 x0 (rd x8 x10)).f0) ((rd_T38 x0 (rd x8 x10)).f1) ((rd_T38 x0 (rd x8 x10)).f2) ((rd_T38 x0 (rd x8 x10)).f3)).bind fun t477 => (if 0 ≤ t477 then (impl_writtenIn.l0 k x0 (Go.bits .or .i64 x5 (shl .i64 1 t477)) x8 x9 (wrap64 (x10 + 1))) else (none))) else (impl_writtenIn.l0 k x0 x5 x8 x9 (wrap64 (x10 + 1))))) else (none)) else (impl_writtenIn.l0 k x0 x5 x8 x9 (wrap64 (x10 + 1)))) else (none)) else (none)) else (some x5)
def impl_writtenIn.f (k : Nat) (l0 : List (S38)) (l1 : List Int) : Option (Int) := impl_writtenIn.l0 k l0 0 l1 (l1.length : Int) 0
theorem impl_writtenIn.mono_l : ∀ k, (∀ y0 y1 y2 y3 y4, LeO (impl_writtenIn.l0 k y0 y1 y2 y3 y4) (impl_writtenIn.l0 (k + 1) y0 y1 y2 y3 y4))
 | 0 => fun _ _ _ _ _ r h => by simp [impl_writtenIn.l0] at h
 | k + 1 => by
  have ih0 := impl_writtenIn.mono_l k
  ·intro y0 y1 y2 y3 y4
   unfold impl_writtenIn.l0
   repeat' first
   | (with_reducible exact ih0 _ _ _ _ _)
   | (with_reducible exact LeO.refl _)
   | (with_reducible exact LeO.none _)
   | (with_reducible refine LeO.ite ?_ ?_)
   | (with_reducible refine LeO.bind ?_ (fun _ => ?_))
   | exact ih0 _ _ _ _ _
   | exact LeO.none _
   | refine LeO.ite ?_ ?_
   | refine LeO.bind ?_ (fun _ => ?_)
theorem impl_writtenIn.mono : ∀ a0 a1 k, LeO (impl_writtenIn.f k a0 a1) (impl_writtenIn.f (k + 1) a0 a1) := by
 intro a0 a1 k
 have ih0 := impl_writtenIn.mono_l k
 unfold impl_writtenIn.f
 repeat' first
   | (with_reducible exact ih0 _ _ _ _ _)
   | (with_reducible exact LeO.refl _)
   | (with_reducible exact LeO.none _)
   | (with_reducible refine LeO.ite ?_ ?_)
   | (with_reducible refine LeO.bind ?_ (fun _ => ?_))
   | exact ih0 _ _ _ _ _
   | exact LeO.none _
   | refine LeO.ite ?_ ?_
   | refine LeO.bind ?_ (fun _ => ?_)
set_option maxHeartbeats 8000000 in
set_option maxRecDepth 100000 in
theorem impl_writtenIn.calls (k : Nat) (A0 : Option Addr) (c0 : Nat) (l0 : List (S38)) (A1 : Option Addr) (c1 : Nat) (l1 : List Int) (r : Int) (w : World) (hr0 : Kd.C k38 w A0 l0.length l0) (hc0 : l0.length ≤ c0) (hr1 : Kd.C (Kd.int .i64) w A1 l1.length l1) (hc1 : l1.length ≤ c1) (h : impl_writtenIn.f k l0 l1 = some r) :
  Calls Tryz.prog 40 #[.slice A0 l0.length c0, .slice A1 l1.length c1] w fun e w' => e = .returned (.int .i64 r) ∧ Below w.heap.size w w' := by
 have hu38 := Tryz.underlying38
 have HR0 := Aside0.mk hr0
 have HC0 := Aside0.mk hc0
 clear hr0 hc0
 have HR1 := Aside0.mk hr1
 have HC1 := Aside0.mk hc1
 clear hr1 hc1
 have HB := Aside0.mk (Below.refl w.heap.size w)
 have H : (impl_writtenIn.l0 k l0 0 l1 (l1.length : Int) 0) = some r := h
 clear h
 have H' := Aside0.mk H
 clear H
 go_enter Tryz.func40, Tryz.ntmps40
 go_wp2
 go_loopg [5, 10] k (fun kq v5 v10 w' => ∃ (x5_1 : Int) (x10_1 : Int), v5 = .int .i64 x5_1 ∧ v10 = .int .i64 x10_1 ∧ Aside0 (impl_writtenIn.l0 kq l0 x5_1 l1 (l1.length : Int) x10_1 = some r) ∧ Aside0 (kq ≤ k) ∧ Aside0 (Below w.heap.size w w'))
 case atStart => exact ⟨(0), (0), tR, tR, H', ⟨Nat.le_refl _⟩, ⟨bw⟩⟩
 case round =>
  clear H'
  try clear c1;try clear p2
  obtain ⟨x5_1, x10_1, rfl, rfl, HA, HK1, HB⟩ := hrel
  cases gk with
  | zero => exact absurd HA.out (by simp [impl_writtenIn.l0])
  | succ k1 =>
   have H := HA.out
   clear HA
   simp only [impl_writtenIn.l0] at H
   by_cases c3 : x10_1 < (l1.length : Int)
   ·rw [if_pos c3] at H
    have c3b0 : decide (x10_1 < (l1.length : Int)) = true := decide_eq_true c3
    clear c3
    by_cases c4 : 0 ≤ x10_1
    ·rw [if_pos c4] at H
     have c4b0 : decide (0 ≤ x10_1) = true := decide_eq_true c4
     clear c4
     by_cases c5 : x10_1 < (l1.length : Int)
     ·rw [if_pos c5] at H
      have c5b0 : decide (x10_1 < (l1.length : Int)) = true := decide_eq_true c5
      clear c5
      by_cases c6 : (rd l1 x10_1) < (l0.length : Int)
      ·rw [if_pos c6] at H
       have c6b0 : decide ((rd l1 x10_1) < (l0.length : Int)) = true := decide_eq_true c6
       clear c6
       by_cases c7 : 0 ≤ (rd l1 x10_1)
       ·rw [if_pos c7] at H
        have c7b0 : decide (0 ≤ (rd l1 x10_1)) = true := decide_eq_true c7
        clear c7
        replace H := Option.bind_eq_some_iff.mp H
        obtain ⟨t475, A80, H⟩ := H
        replace H : (if t475 ≥ 0 then ((impl_WritesReg.f ((rd_T38 l0 (rd l1 x10_1)).f0) ((rd_T38 l0 (rd l1 x10_1)).f1) ((rd_T38 l0 (rd l1 x10_1)).f2) ((rd_T38 l0 (rd l1 x10_1)).f3)).bind fun t477 => (if 0 ≤ t477 then (impl_writtenIn.l0 k1 l0 (Go.bits .or .i64 x5_1 (shl .i64 1 t477)) l1 (l1.length : Int) (wrap64 (x10_1 + 1))) else (none))) else (impl_writtenIn.l0 k1 l0 x5_1 l1 (l1.length : Int) (wrap64 (x10_1 + 1)))) = some r := H
        have A8 := Aside0.mk A80
        clear A80
        by_cases c9 : t475 ≥ 0
        ·rw [if_pos c9] at H
         have c9b0 : decide (0 ≤ t475) = true := decide_eq_true c9
         clear c9
         replace H := Option.bind_eq_some_iff.mp H
         obtain ⟨t477, A100, H⟩ := H
         replace H : (if 0 ≤ t477 then (impl_writtenIn.l0 k1 l0 (Go.bits .or .i64 x5_1 (shl .i64 1 t477)) l1 (l1.length : Int) (wrap64 (x10_1 + 1))) else (none)) = some r := H
         have A10 := Aside0.mk A100
         clear A100
         by_cases c11 : 0 ≤ t477
         ·rw [if_pos c11] at H
          have c11b0 := eq_true c11
          have c11b1 : decide (0 ≤ t477) = true := decide_eq_true c11
          clear c11
          obtain ⟨ji12, hji12⟩ : ∃ j_ : Int, (shl .i64 1 t477) = j_ := ⟨_, rfl⟩
          replace H : (impl_writtenIn.l0 k1 l0 (Go.bits .or .i64 x5_1 (ji12)) l1 (l1.length : Int) (wrap64 (x10_1 + 1))) = some r := by first | (rw [hji12] at H; exact H) | (simp only [hji12] at H ⊢; exact H)
          (try rw [hji12] at A8)
          (try rw [hji12] at A10)
          have hji12_ : (IntKind.i64.wrap (1 * 2 ^ min t477.toNat 64)) = ji12 := hji12
          have hji12z : t477 ≤ 64 → (IntKind.i64.wrap (1 * 2 ^ t477.toNat)) = ji12 := shl_small hji12
          have hji12u : (IntKind.i64.wrap (2 ^ min t477.toNat 64)) = ji12 := by have h_ := hji12_; rw [Int.one_mul] at h_; exact h_
          have hji12v : t477 ≤ 64 → (IntKind.i64.wrap (2 ^ t477.toNat)) = ji12 := fun hle_ => by have h_ := hji12z hle_; rw [Int.one_mul] at h_; exact h_
          have hji12y : (wrap64 (1 * 2 ^ min t477.toNat 64)) = ji12 := (i64_w _).symm.trans hji12_
          have hji12x : t477 ≤ 64 → (wrap64 (1 * 2 ^ t477.toNat)) = ji12 := fun h_ => (i64_w _).symm.trans (hji12z h_)
          have H' := Aside0.mk H
          clear H
          have p473 : 0 ≤ (x10_1 : Int) := dT
          have q473 : x10_1 < (l1.length : Int) := dT
          obtain ⟨ad473, e473, hx473_0⟩ := Kd.at_int HR1.out x10_1 p473 q473
          cases e473
          replace hx473_0 := (HB.out.cell (World.block_lt_of_cell? w _ hx473_0)).trans hx473_0
          replace p473 := eq_true p473
          replace q473 := eq_true q473
          have p474 : 0 ≤ ((rd l1 x10_1) : Int) := dT
          have q474 : (rd l1 x10_1) < (l0.length : Int) := dT
          obtain ⟨ad474, e474, hx474_0, hx474_1, hx474_2, hx474_3⟩ := at_T38 HR0.out (rd l1 x10_1) p474 q474
          cases e474
          replace hx474_0 := (HB.out.cell (World.block_lt_of_cell? w _ hx474_0)).trans hx474_0
          replace hx474_1 := (HB.out.cell (World.block_lt_of_cell? w _ hx474_1)).trans hx474_1
          replace hx474_2 := (HB.out.cell (World.block_lt_of_cell? w _ hx474_2)).trans hx474_2
          replace hx474_3 := (HB.out.cell (World.block_lt_of_cell? w _ hx474_3)).trans hx474_3
          replace p474 := eq_true p474
          replace q474 := eq_true q474
          go_wp2_with (first | (go_at_call 61; (with_reducible refine (impl_WritesReg.calls ((rd_T38 l0 (rd l1 x10_1)).f0) ((rd_T38 l0 (rd l1 x10_1)).f1) ((rd_T38 l0 (rd l1 x10_1)).f2) ((rd_T38 l0 (rd l1 x10_1)).f3) t475 _ A8.out).mono ?_); rintro e w13 ⟨rfl, hb⟩; replace HB := Aside0.mk (below_step bw hb); (try clear hb); have p476 : 0 ≤ ((rd l1 x10_1) : Int) := dT; have q476 : (rd l1 x10_1) < (l0.length : Int) := dT; obtain ⟨ad476, e476, hx476_0, hx476_1, hx476_2, hx476_3⟩ := at_T38 HR0.out (rd l1 x10_1) p476 q476; obtain rfl : ad474 = ad476 := (by injection e476); replace hx476_0 := (HB.out.cell (World.block_lt_of_cell? w _ hx476_0)).trans hx476_0; replace hx476_1 := (HB.out.cell (World.block_lt_of_cell? w _ hx476_1)).trans hx476_1; replace hx476_2 := (HB.out.cell (World.block_lt_of_cell? w _ hx476_2)).trans hx476_2; replace hx476_3 := (HB.out.cell (World.block_lt_of_cell? w _ hx476_3)).trans hx476_3; replace p476 := eq_true p476; replace q476 := eq_true q476) | ((with_reducible refine gate_callee (f := 61) rfl ?_); refine gL (some 31) Tryz.func61 #[.agg #[.int .i64 ((rd_T38 l0 (rd l1 x10_1)).f0), .int .i64 ((rd_T38 l0 (rd l1 x10_1)).f1), .int .i64 ((rd_T38 l0 (rd l1 x10_1)).f2), .int .i64 ((rd_T38 l0 (rd l1 x10_1)).f3)]] ?_; (with_reducible refine (impl_WritesReg.calls ((rd_T38 l0 (rd l1 x10_1)).f0) ((rd_T38 l0 (rd l1 x10_1)).f1) ((rd_T38 l0 (rd l1 x10_1)).f2) ((rd_T38 l0 (rd l1 x10_1)).f3) t477 _ A10.out).mono ?_); rintro e w14 ⟨rfl, hb⟩; refine ⟨_, rfl, ?_⟩; replace HB := Aside0.mk (below_step bw hb); (try clear hb)))
          go_roundg k1
          case measure => have := HK1.out; omega
          case rel => exact ⟨(Go.bits .or .i64 x5_1 (ji12)), (wrap64 (x10_1 + 1)), (by first | rfl | (simp; done) | (simp only [← hji12] <;> (first | rfl | simp)) | (simp [*]; done)), tR, H', ⟨by have := HK1.out; omega⟩, ⟨bw⟩⟩
         ·rw [if_neg c11] at H
          exact absurd H (by simp)
        ·rw [if_neg c9] at H
         have c9b0 : decide (0 ≤ t475) = false := decide_eq_false c9
         clear c9
         have H' := Aside0.mk H
         clear H
         have p473 : 0 ≤ (x10_1 : Int) := dT
         have q473 : x10_1 < (l1.length : Int) := dT
         obtain ⟨ad473, e473, hx473_0⟩ := Kd.at_int HR1.out x10_1 p473 q473
         cases e473
         replace hx473_0 := (HB.out.cell (World.block_lt_of_cell? w _ hx473_0)).trans hx473_0
         replace p473 := eq_true p473
         replace q473 := eq_true q473
         have p474 : 0 ≤ ((rd l1 x10_1) : Int) := dT
         have q474 : (rd l1 x10_1) < (l0.length : Int) := dT
         obtain ⟨ad474, e474, hx474_0, hx474_1, hx474_2, hx474_3⟩ := at_T38 HR0.out (rd l1 x10_1) p474 q474
         cases e474
         replace hx474_0 := (HB.out.cell (World.block_lt_of_cell? w _ hx474_0)).trans hx474_0
         replace hx474_1 := (HB.out.cell (World.block_lt_of_cell? w _ hx474_1)).trans hx474_1
         replace hx474_2 := (HB.out.cell (World.block_lt_of_cell? w _ hx474_2)).trans hx474_2
         replace hx474_3 := (HB.out.cell (World.block_lt_of_cell? w _ hx474_3)).trans hx474_3
         replace p474 := eq_true p474
         replace q474 := eq_true q474
         go_wp2_with (first | (go_at_call 61; (with_reducible refine (impl_WritesReg.calls ((rd_T38 l0 (rd l1 x10_1)).f0) ((rd_T38 l0 (rd l1 x10_1)).f1) ((rd_T38 l0 (rd l1 x10_1)).f2) ((rd_T38 l0 (rd l1 x10_1)).f3) t475 _ A8.out).mono ?_); rintro e w15 ⟨rfl, hb⟩; replace HB := Aside0.mk (below_step bw hb); (try clear hb)))
         go_roundg k1
         case measure => have := HK1.out; omega
         case rel => exact ⟨(x5_1), (wrap64 (x10_1 + 1)), tR, tR, H', ⟨by have := HK1.out; omega⟩, ⟨bw⟩⟩
       ·rw [if_neg c7] at H
        exact absurd H (by simp)
      ·rw [if_neg c6] at H
       have c6b0 : decide ((rd l1 x10_1) < (l0.length : Int)) = false := decide_eq_false c6
       clear c6
       have H' := Aside0.mk H
       clear H
       have p473 : 0 ≤ (x10_1 : Int) := dT
       have q473 : x10_1 < (l1.length : Int) := dT
       obtain ⟨ad473, e473, hx473_0⟩ := Kd.at_int HR1.out x10_1 p473 q473
       cases e473
       replace hx473_0 := (HB.out.cell (World.block_lt_of_cell? w _ hx473_0)).trans hx473_0
       replace p473 := eq_true p473
       replace q473 := eq_true q473
       go_wp2
       go_roundg k1
       case measure => have := HK1.out; omega
       case rel => exact ⟨(x5_1), (wrap64 (x10_1 + 1)), tR, tR, H', ⟨by have := HK1.out; omega⟩, ⟨bw⟩⟩
     ·rw [if_neg c5] at H
      exact absurd H (by simp)
    ·rw [if_neg c4] at H
     exact absurd H (by simp)
   ·rw [if_neg c3] at H
    have c3b0 : decide (x10_1 < (l1.length : Int)) = false := decide_eq_false c3
    clear c3
    obtain rfl := Option.some.inj H
    go_wp2
    go_ret
    exact ⟨eR, bw⟩

/-! ### slices_Equal_int_int: function 42 -/
def slices_Equal_int_int.l0 : Nat → List Int → List Int → Int → Int → Option (Bool)
 | 0, _, _, _, _ => none
 | k + 1, x0, x1, x12, x13 => if x13 < x12 then (if 0 ≤ x13 then (if x13 < (x0.length : Int) then (if x13 < (x1.length : Int) then (if (rd x0 x13) = (rd x1 x13) then (slices_Equal_int_int.l0 k x0 x1 x12 (wrap64 (x13 + 1))) else (some false)) else (none)) else (none)) else (none)) else (some true)
def slices_Equal_int_int.f (k : Nat) (l0 : List Int) (l1 : List Int) : Option (Bool) := if (l0.length : Int) = (l1.length : Int) then (slices_Equal_int_int.l0 k l0 l1 (l0.length : Int) 0) else (some false)
theorem slices_Equal_int_int.mono_l : ∀ k, (∀ y0 y1 y2 y3, LeO (slices_Equal_int_int.l0 k y0 y1 y2 y3) (slices_Equal_int_int.l0 (k + 1) y0 y1 y2 y3))
 | 0 => fun _ _ _ _ r h => by simp [slices_Equal_int_int.l0] at h
 | k + 1 => by
  have ih0 := slices_Equal_int_int.mono_l k
  ·intro y0 y1 y2 y3
   unfold slices_Equal_int_int.l0
   repeat' first
   | (with_reducible exact ih0 _ _ _ _)
   | (with_reducible exact LeO.refl _)
   | (with_reducible exact LeO.none _)
   | (with_reducible refine LeO.ite ?_ ?_)
   | (with_reducible refine LeO.bind ?_ (fun _ => ?_))
   | exact ih0 _ _ _ _
   | exact LeO.none _
   | refine LeO.ite ?_ ?_
   | refine LeO.bind ?_ (fun _ => ?_)
theorem slices_Equal_int_int.mono : ∀ a0 a1 k, LeO (slices_Equal_int_int.f k a0 a1) (slices_Equal_int_int.f (k + 1) a0 a1) := by
 intro a0 a1 k
 have ih0 := slices_Equal_int_int.mono_l k
 unfold slices_Equal_int_int.f
 repeat' first
   | (with_reducible exact ih0 _ _ _ _)
   | (with_reducible exact LeO.refl _)
   | (with_reducible exact LeO.none _)
   | (with_reducible refine LeO.ite ?_ ?_)
   | (with_reducible refine LeO.bind ?_ (fun _ => ?_))
   | exact ih0 _ _ _ _
   | exact LeO.none _
   | refine LeO.ite ?_ ?_
   | refine LeO.bind ?_ (fun _ => ?_)
set_option maxHeartbeats 8000000 in
set_option maxRecDepth 100000 in
theorem slices_Equal_int_int.calls (k : Nat) (A0 : Option Addr) (c0 : Nat) (l0 : List Int) (A1 : Option Addr) (c1 : Nat) (l1 : List Int) (r : Bool) (w : World) (hr0 : Kd.C (Kd.int .i64) w A0 l0.length l0) (hc0 : l0.length ≤ c0) (hr1 : Kd.C (Kd.int .i64) w A1 l1.length l1) (hc1 : l1.length ≤ c1) (h : slices_Equal_int_int.f k l0 l1 = some r) :
  Calls Tryz.prog 42 #[.slice A0 l0.length c0, .slice A1 l1.length c1] w fun e w' => e = .returned (.bool r) ∧ Drawn0 w w' := by
 have HR0 := Aside0.mk hr0
 have HC0 := Aside0.mk hc0
 clear hr0 hc0
 have HR1 := Aside0.mk hr1
 have HC1 := Aside0.mk hc1
 clear hr1 hc1
 have H : (if (l0.length : Int) = (l1.length : Int) then (slices_Equal_int_int.l0 k l0 l1 (l0.length : Int) 0) else (some false)) = some r := h
 clear h
 by_cases c3 : (l0.length : Int) = (l1.length : Int)
 ·rw [if_pos c3] at H
  have c3b0 : ((l0.length : Int) == (l1.length : Int)) = true := beq_iff_eq.mpr c3
  have c3b1 : ((l0.length : Int) != (l1.length : Int)) = false := bne_eq_false_iff_eq.mpr c3
  have c3b2 : (l0.length == l1.length) = true := by first | simpa using c3 | (simp at c3 ⊢; omega)
  clear c3
  have H' := Aside0.mk H
  clear H
  go_enter Tryz.func42, Tryz.ntmps42
  go_wp2
  repeat (go_quiet (fail); try go_wp2)
  go_loopg [13] k (fun kq v13 w' => ∃ (x13_1 : Int), v13 = .int .i64 x13_1 ∧ Aside0 (slices_Equal_int_int.l0 kq l0 l1 (l0.length : Int) x13_1 = some r) ∧ Aside0 (kq ≤ k) ∧ Drawn0 w w')
  case atStart => exact ⟨(0), tR, H', ⟨Nat.le_refl _⟩, by repeat (first | exact Drawn0.refl _ | apply Drawn0.step)⟩
  case round =>
   clear H'
   try clear c1;try clear p2;try clear c3;try clear c3b0;try clear c3b1;try clear c3b2
   obtain ⟨x13_1, rfl, HA, HK1, ⟨m1, rfl⟩⟩ := hrel
   cases gk with
   | zero => exact absurd HA.out (by simp [slices_Equal_int_int.l0])
   | succ k1 =>
    have H := HA.out
    clear HA
    simp only [slices_Equal_int_int.l0] at H
    by_cases c4 : x13_1 < (l0.length : Int)
    ·rw [if_pos c4] at H
     have c4b0 : decide (x13_1 < (l0.length : Int)) = true := decide_eq_true c4
     clear c4
     by_cases c5 : 0 ≤ x13_1
     ·rw [if_pos c5] at H
      have c5b0 : decide (0 ≤ x13_1) = true := decide_eq_true c5
      clear c5
      by_cases c6 : x13_1 < (l0.length : Int)
      ·rw [if_pos c6] at H
       have c6b0 : decide (x13_1 < (l0.length : Int)) = true := decide_eq_true c6
       clear c6
       by_cases c7 : x13_1 < (l1.length : Int)
       ·rw [if_pos c7] at H
        have c7b0 : decide (x13_1 < (l1.length : Int)) = true := decide_eq_true c7
        clear c7
        by_cases c8 : (rd l0 x13_1) = (rd l1 x13_1)
        ·rw [if_pos c8] at H
         have c8b0 : ((rd l0 x13_1) == (rd l1 x13_1)) = true := beq_iff_eq.mpr c8
         have c8b1 : ((rd l0 x13_1) != (rd l1 x13_1)) = false := bne_eq_false_iff_eq.mpr c8
         clear c8
         have H' := Aside0.mk H
         clear H
         have p478 : 0 ≤ (x13_1 : Int) := dT
         have q478 : x13_1 < (l0.length : Int) := dT
         obtain ⟨ad478, e478, hx478_0⟩ := Kd.at_int HR0.out x13_1 p478 q478
         cases e478
         replace p478 := eq_true p478
         replace q478 := eq_true q478
         have p479 : 0 ≤ (x13_1 : Int) := dT
         have q479 : x13_1 < (l1.length : Int) := dT
         obtain ⟨ad479, e479, hx479_0⟩ := Kd.at_int HR1.out x13_1 p479 q479
         cases e479
         replace p479 := eq_true p479
         replace q479 := eq_true q479
         go_wp2
         repeat (go_quiet (fail); try go_wp2)
         go_roundg k1
         case measure => have := HK1.out; omega
         case rel => exact ⟨(wrap64 (x13_1 + 1)), tR, H', ⟨by have := HK1.out; omega⟩, by repeat (first | exact Drawn0.refl _ | apply Drawn0.step)⟩
        ·rw [if_neg c8] at H
         have c8b0 : ((rd l0 x13_1) == (rd l1 x13_1)) = false := beq_eq_false_iff_ne.mpr c8
         have c8b1 : ((rd l0 x13_1) != (rd l1 x13_1)) = true := bne_iff_ne.mpr c8
         obtain rfl := Option.some.inj H
         have p478 : 0 ≤ (x13_1 : Int) := dT
         have q478 : x13_1 < (l0.length : Int) := dT
         obtain ⟨ad478, e478, hx478_0⟩ := Kd.at_int HR0.out x13_1 p478 q478
         cases e478
         replace p478 := eq_true p478
         replace q478 := eq_true q478
         have p479 : 0 ≤ (x13_1 : Int) := dT
         have q479 : x13_1 < (l1.length : Int) := dT
         obtain ⟨ad479, e479, hx479_0⟩ := Kd.at_int HR1.out x13_1 p479 q479
         cases e479
         replace p479 := eq_true p479
         replace q479 := eq_true q479
         go_wp2
         repeat (go_quiet (fail); try go_wp2)
         go_ret
         exact ⟨by first | rfl | (simp; done) | (simp [*]; done), by repeat (first | exact Drawn0.refl _ | apply Drawn0.step)⟩
       ·rw [if_neg c7] at H
        exact absurd H (by simp)
      ·rw [if_neg c6] at H
       exact absurd H (by simp)
     ·rw [if_neg c5] at H
      exact absurd H (by simp)
    ·rw [if_neg c4] at H
     have c4b0 : decide (x13_1 < (l0.length : Int)) = false := decide_eq_false c4
     clear c4
     obtain rfl := Option.some.inj H
     go_wp2
     repeat (go_quiet (fail); try go_wp2)
     go_ret
     exact ⟨by first | rfl | (simp; done) | (simp [*]; done), by repeat (first | exact Drawn0.refl _ | apply Drawn0.step)⟩
 ·rw [if_neg c3] at H
  have c3b0 : ((l0.length : Int) == (l1.length : Int)) = false := beq_eq_false_iff_ne.mpr c3
  have c3b1 : ((l0.length : Int) != (l1.length : Int)) = true := bne_iff_ne.mpr c3
  have c3b2 : (l0.length == l1.length) = false := by first | simpa using c3 | (simp at c3 ⊢; omega)
  obtain rfl := Option.some.inj H
  go_enter Tryz.func42, Tryz.ntmps42
  go_wp2
  repeat (go_quiet (fail); try go_wp2)
  go_ret
  exact ⟨by first | rfl | (simp; done) | (simp [*]; done), by repeat (first | exact Drawn0.refl _ | apply Drawn0.step)⟩

end Go.Proofs.YtdppehpcpofeoaaGreat.PFnExactMaySplit
