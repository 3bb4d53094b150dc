-- Written by myprint.py (a program of this session, over the kit's print): not trusted, Lean checks it.
import Derived.Test.YtdppehpcpofeoaaGreatPFnExactUniformAtx0
import Derived.Test.YtdppehpcpofeoaaGreatPFnExactUniformAtx5
import Derived.Test.YtdppehpcpofeoaaGreatPFnExactUniformAtx9
import Derived.Test.YtdppehpcpofeoaaGreatPFnExactUniformAtx10
namespace Go.Proofs.YtdppehpcpofeoaaGreat.PFnExactUniformAt
open Go.RowKit Go.Proofs.YtdppehpcpofeoaaGreatW.PrintWords Go.Proofs.YtdppehpcpofeoaaGreatW.PrintLast Go.Proofs.YtdppehpcpofeoaaGreatW.PrintMore
attribute [local go_sem] max2_int min2_int max_two min_two max_three min_three max_four min_four   -- for this text's walks alone
set_option linter.unusedVariables false
set_option linter.unusedSimpArgs false

/-! ### slices_Index_int_int: function 74 -/
def slices_Index_int_int.l0 : Nat → List Int → Int → Int → Int → Option (Int)
 | 0, _, _, _, _ => none
 | k + 1, x0, x1, x7, x8 => if x8 < x7 then (if 0 ≤ x8 then (if x8 < (x0.length : Int) then (if x1 = (rd x0 x8) then (some x8) else (slices_Index_int_int.l0 k x0 x1 x7 (wrap64 (x8 + 1)))) else (none)) else (none)) else (some (-1))
def slices_Index_int_int.f (k : Nat) (l0 : List Int) (a1 : Int) : Option (Int) := slices_Index_int_int.l0 k l0 a1 (l0.length : Int) 0
theorem slices_Index_int_int.mono_l : ∀ k, (∀ y0 y1 y2 y3, LeO (slices_Index_int_int.l0 k y0 y1 y2 y3) (slices_Index_int_int.l0 (k + 1) y0 y1 y2 y3))
 | 0 => fun _ _ _ _ r h => by simp [slices_Index_int_int.l0] at h
 | k + 1 => by
  have ih0 := slices_Index_int_int.mono_l k
  ·intro y0 y1 y2 y3
   unfold slices_Index_int_int.l0
   repeat' first
   | (with_reducible exact ih0 _ _ _ _)
   | (with_reducible exact LeO.refl _)
   | (with_reducible exact LeO.none _)
   | (with_reducible refine LeO.ite ?_ ?_)
   | (with_reducible refine LeO.bind ?_ (fun _ => ?_))
   | exact ih0 _ _ _ _
   | exact LeO.none _
   | refine LeO.ite ?_ ?_
   | refine LeO.bind ?_ (fun _ => ?_)
theorem slices_Index_int_int.mono : ∀ a0 a1 k, LeO (slices_Index_int_int.f k a0 a1) (slices_Index_int_int.f (k + 1) a0 a1) := by
 intro a0 a1 k
 have ih0 := slices_Index_int_int.mono_l k
 unfold slices_Index_int_int.f
 repeat' first
   | (with_reducible exact ih0 _ _ _ _)
   | (with_reducible exact LeO.refl _)
   | (with_reducible exact LeO.none _)
   | (with_reducible refine LeO.ite ?_ ?_)
   | (with_reducible refine LeO.bind ?_ (fun _ => ?_))
   | exact ih0 _ _ _ _
   | exact LeO.none _
   | refine LeO.ite ?_ ?_
   | refine LeO.bind ?_ (fun _ => ?_)
set_option maxHeartbeats 8000000 in
set_option maxRecDepth 100000 in
theorem slices_Index_int_int.calls (k : Nat) (A0 : Option Addr) (c0 : Nat) (l0 : List Int) (a1 : Int) (r : Int) (w : World) (hr0 : Kd.C (Kd.int .i64) w A0 l0.length l0) (hc0 : l0.length ≤ c0) (h : slices_Index_int_int.f k l0 a1 = some r) :
  Calls Tryz.prog 74 #[.slice A0 l0.length c0, .int .i64 a1] w fun e w' => e = .returned (.int .i64 r) ∧ Drawn0 w w' := by
 have HR0 := Aside0.mk hr0
 have HC0 := Aside0.mk hc0
 clear hr0 hc0
 have H : (slices_Index_int_int.l0 k l0 a1 (l0.length : Int) 0) = some r := h
 clear h
 have H' := Aside0.mk H
 clear H
 go_enter Tryz.func74, Tryz.ntmps74
 go_wp2
 go_loopg [8] k (fun kq v8 w' => ∃ (x8_1 : Int), v8 = .int .i64 x8_1 ∧ Aside0 (slices_Index_int_int.l0 kq l0 a1 (l0.length : Int) x8_1 = some r) ∧ Aside0 (kq ≤ k) ∧ Drawn0 w w')
 case atStart => exact ⟨(0), tR, H', ⟨Nat.le_refl _⟩, by repeat (first | exact Drawn0.refl _ | apply Drawn0.step)⟩
 case round =>
  clear H'
  try clear p2
  obtain ⟨x8_1, rfl, HA, HK1, ⟨m1, rfl⟩⟩ := hrel
  cases gk with
  | zero => exact absurd HA.out (by simp [slices_Index_int_int.l0])
  | succ k1 =>
   have H := HA.out
   clear HA
   simp only [slices_Index_int_int.l0] at H
   by_cases c3 : x8_1 < (l0.length : Int)
   ·rw [if_pos c3] at H
    have c3b0 : decide (x8_1 < (l0.length : Int)) = true := decide_eq_true c3
    clear c3
    by_cases c4 : 0 ≤ x8_1
    ·rw [if_pos c4] at H
     have c4b0 : decide (0 ≤ x8_1) = true := decide_eq_true c4
     clear c4
     by_cases c5 : x8_1 < (l0.length : Int)
     ·rw [if_pos c5] at H
      have c5b0 : decide (x8_1 < (l0.length : Int)) = true := decide_eq_true c5
      clear c5
      by_cases c6 : a1 = (rd l0 x8_1)
      ·rw [if_pos c6] at H
       have c6b0 : (a1 == (rd l0 x8_1)) = true := beq_iff_eq.mpr c6
       have c6b1 : (a1 != (rd l0 x8_1)) = false := bne_eq_false_iff_eq.mpr c6
       clear c6
       obtain rfl := Option.some.inj H
       have p400 : 0 ≤ (x8_1 : Int) := dT
       have q400 : x8_1 < (l0.length : Int) := dT
       obtain ⟨ad400, e400, hx400_0⟩ := Kd.at_int HR0.out x8_1 p400 q400
       cases e400
       replace p400 := eq_true p400
       replace q400 := eq_true q400
       go_wp2
       go_ret
       exact ⟨by first | rfl | (simp; done) | (simp [*]; done), by repeat (first | exact Drawn0.refl _ | apply Drawn0.step)⟩
      ·rw [if_neg c6] at H
       have c6b0 : (a1 == (rd l0 x8_1)) = false := beq_eq_false_iff_ne.mpr c6
       have c6b1 : (a1 != (rd l0 x8_1)) = true := bne_iff_ne.mpr c6
       have H' := Aside0.mk H
       clear H
       have p400 : 0 ≤ (x8_1 : Int) := dT
       have q400 : x8_1 < (l0.length : Int) := dT
       obtain ⟨ad400, e400, hx400_0⟩ := Kd.at_int HR0.out x8_1 p400 q400
       cases e400
       replace p400 := eq_true p400
       replace q400 := eq_true q400
       go_wp2
       go_roundg k1
       case measure => have := HK1.out; omega
       case rel => exact ⟨(wrap64 (x8_1 + 1)), tR, H', ⟨by have := HK1.out; omega⟩, by repeat (first | exact Drawn0.refl _ | apply Drawn0.step)⟩
     ·rw [if_neg c5] at H
      exact absurd H (by simp)
    ·rw [if_neg c4] at H
     exact absurd H (by simp)
   ·rw [if_neg c3] at H
    have c3b0 : decide (x8_1 < (l0.length : Int)) = false := decide_eq_false c3
    clear c3
    obtain rfl := Option.some.inj H
    go_wp2
    go_ret
    exact ⟨by first | rfl | (simp; done) | (simp [*]; done), by repeat (first | exact Drawn0.refl _ | apply Drawn0.step)⟩

/-! ### slices_Contains_int_int: function 50 -/
def slices_Contains_int_int.f (k : Nat) (l0 : List Int) (a1 : Int) : Option (Bool) := (slices_Index_int_int.f k l0 a1).bind fun t401 => (some (decide (t401 ≥ 0)))
theorem slices_Contains_int_int.mono : ∀ a0 a1 k, LeO (slices_Contains_int_int.f k a0 a1) (slices_Contains_int_int.f (k + 1) a0 a1) := by
 intro a0 a1 k
 unfold slices_Contains_int_int.f
 repeat' first
   | (with_reducible exact slices_Index_int_int.mono _ _ _)
   | (with_reducible exact LeO.refl _)
   | (with_reducible exact LeO.none _)
   | (with_reducible refine LeO.ite ?_ ?_)
   | (with_reducible refine LeO.bind ?_ (fun _ => ?_))
   | exact slices_Index_int_int.mono _ _ _
   | exact LeO.none _
   | refine LeO.ite ?_ ?_
   | refine LeO.bind ?_ (fun _ => ?_)
set_option maxHeartbeats 8000000 in
set_option maxRecDepth 100000 in
theorem slices_Contains_int_int.calls (k : Nat) (A0 : Option Addr) (c0 : Nat) (l0 : List Int) (a1 : Int) (r : Bool) (w : World) (hr0 : Kd.C (Kd.int .i64) w A0 l0.length l0) (hc0 : l0.length ≤ c0) (h : slices_Contains_int_int.f k l0 a1 = some r) :
  Calls Tryz.prog 50 #[.slice A0 l0.length c0, .int .i64 a1] w fun e w' => e = .returned (.bool r) ∧ Drawn0 w w' := by
 have HR0 := Aside0.mk hr0
 have HC0 := Aside0.mk hc0
 clear hr0 hc0
 have H : ((slices_Index_int_int.f k l0 a1).bind fun t401 => (some (decide (t401 ≥ 0)))) = some r := h
 clear h
 replace H := Option.bind_eq_some_iff.mp H
 obtain ⟨t401, A30, H⟩ := H
 replace H : (some (decide (t401 ≥ 0))) = some r := H
 have A3 := Aside0.mk A30
 clear A30
 obtain rfl := Option.some.inj H
 go_enter Tryz.func50, Tryz.ntmps50
 go_wp2_with (first | ((with_reducible refine gate_callee (f := 74) rfl ?_); refine gL (some 7) Tryz.func74 #[.slice A0 l0.length c0, .int .i64 a1] ?_; (with_reducible refine (slices_Index_int_int.calls k _ _ l0 a1 t401 _ ?side1 ?side2 A3.out).mono ?_); (case side1 => exact cS HR0.out); (case side2 => exact HC0.out); rintro e w' ⟨rfl, ⟨nd, rfl⟩⟩; refine ⟨_, rfl, ?_⟩))
 go_ret
 exact ⟨by first | rfl | (simp; done) | (simp [*]; done), by repeat (first | exact Drawn0.refl _ | apply Drawn0.step)⟩

/-! ### impl_isBranch: function 24 -/
def impl_isBranch.f (k : Nat) (l0 : List (S38)) (a1 : Int) : Option (Bool) := (impl_BranchesOf.f k l0).bind fun t402 => ((slices_Contains_int_int.f k t402 a1).bind fun t405 => (some t405))
theorem impl_isBranch.mono : ∀ a0 a1 k, LeO (impl_isBranch.f k a0 a1) (impl_isBranch.f (k + 1) a0 a1) := by
 intro a0 a1 k
 unfold impl_isBranch.f
 repeat' first
   | (with_reducible exact impl_BranchesOf.mono _ _)
   | (with_reducible exact slices_Contains_int_int.mono _ _ _)
   | (with_reducible exact LeO.refl _)
   | (with_reducible exact LeO.none _)
   | (with_reducible refine LeO.ite ?_ ?_)
   | (with_reducible refine LeO.bind ?_ (fun _ => ?_))
   | exact impl_BranchesOf.mono _ _
   | exact slices_Contains_int_int.mono _ _ _
   | exact LeO.none _
   | refine LeO.ite ?_ ?_
   | refine LeO.bind ?_ (fun _ => ?_)
set_option maxHeartbeats 8000000 in
set_option maxRecDepth 100000 in
theorem impl_isBranch.calls (k : Nat) (A0 : Option Addr) (c0 : Nat) (l0 : List (S38)) (a1 : Int) (r : Bool) (w : World) (hr0 : Kd.C k38 w A0 l0.length l0) (hc0 : l0.length ≤ c0) (h : impl_isBranch.f k l0 a1 = some r) :
  Calls Tryz.prog 24 #[.slice A0 l0.length c0, .int .i64 a1] w fun e w' => e = .returned (.bool r) ∧ Below w.heap.size w w' := by
 have HR0 := Aside0.mk hr0
 have HC0 := Aside0.mk hc0
 clear hr0 hc0
 have HB := Aside0.mk (Below.refl w.heap.size w)
 have H : ((impl_BranchesOf.f k l0).bind fun t402 => ((slices_Contains_int_int.f k t402 a1).bind fun t405 => (some t405))) = some r := h
 clear h
 replace H := Option.bind_eq_some_iff.mp H
 obtain ⟨t402, A30, H⟩ := H
 replace H : ((slices_Contains_int_int.f k t402 a1).bind fun t405 => (some t405)) = some r := H
 have A3 := Aside0.mk A30
 clear A30
 replace H := Option.bind_eq_some_iff.mp H
 obtain ⟨t405, A40, H⟩ := H
 replace H : (some t405) = some r := H
 have A4 := Aside0.mk A40
 clear A40
 obtain rfl := Option.some.inj H
 go_enter Tryz.func24, Tryz.ntmps24
 go_wp2_with (first | ((with_reducible refine gate_callee (f := 27) rfl ?_); refine gL (some 6) Tryz.func27 #[.slice A0 l0.length c0] ?_; (with_reducible refine (impl_BranchesOf.calls k _ _ l0 t402 _ ?side1 ?side2 A3.out).mono ?_); (case side1 => exact cS HR0.out); (case side2 => exact HC0.out); rintro e w5 ⟨v403, rfl, ho0, hb⟩; refine ⟨_, rfl, ?_⟩; have HO404 := Aside0.mk (Kd.R_lower ho0 (below_size bw)); replace HB := Aside0.mk (below_step bw hb); (try clear hb); (try clear ho0); obtain ⟨Ao6, co6, eo6⟩ := Kd.R_slice HO404.out; subst eo6) | ((with_reducible refine gate_callee (f := 50) rfl ?_); refine gL (some 8) Tryz.func50 #[.slice Ao6 t402.length co6, .int .i64 a1] ?_; (with_reducible refine (slices_Contains_int_int.calls k _ _ t402 a1 t405 _ ?side1 ?side2 A4.out).mono ?_); (case side1 => exact cS (Kd.R_reads' HO404.out).2.2); (case side2 => exact (Kd.R_reads' HO404.out).2.1); rintro e w' ⟨rfl, ⟨nd, rfl⟩⟩; refine ⟨_, rfl, ?_⟩))
 go_ret
 exact ⟨eR, bw⟩

/-! ### bits_Mul32: function 81 -/
def bits_Mul32.f (a0 : Int) (a1 : Int) : Option (Int × Int) := some (((IntKind.u64.wrap ((IntKind.u64.wrap (a0)) * (IntKind.u64.wrap (a1)))) / 4294967296) % 4294967296, (IntKind.u64.wrap ((IntKind.u64.wrap (a0)) * (IntKind.u64.wrap (a1)))) % 4294967296)
set_option maxHeartbeats 8000000 in
set_option maxRecDepth 100000 in
theorem bits_Mul32.calls (a0 : Int) (a1 : Int) (r1 : Int) (r2 : Int) (w : World) (h : bits_Mul32.f a0 a1 = some (r1, r2)) :
    Calls Tryz.prog 81 #[.int .u32 a0, .int .u32 a1] w fun e w' => e = .returned (.tuple #[.int .u32 r1, .int .u32 r2]) ∧ Drawn0 w w' := by
  have H : (some (((IntKind.u64.wrap ((IntKind.u64.wrap (a0)) * (IntKind.u64.wrap (a1)))) / 4294967296) % 4294967296, (IntKind.u64.wrap ((IntKind.u64.wrap (a0)) * (IntKind.u64.wrap (a1)))) % 4294967296)) = some (r1, r2) := h
  clear h
  simp only [Option.some.injEq, Prod.mk.injEq] at H
  obtain ⟨rfl, rfl⟩ := H
  go_enter Tryz.func81, Tryz.ntmps81
  go_wp2
  go_ret2
  exact ⟨by first | rfl | (simp; done) | (simp [*]; done), by repeat (first | exact Drawn0.refl _ | apply Drawn0.step)⟩

/-! ### bits_Mul64: function 82 -/
def bits_Mul64.f (a0 : Int) (a1 : Int) : Option (Int × Int) := some (IntKind.u64.wrap ((IntKind.u64.wrap ((IntKind.u64.wrap ((a0 / 4294967296) * (a1 / 4294967296))) + ((IntKind.u64.wrap ((IntKind.u64.wrap ((a0 / 4294967296) * (Go.bits .and .u64 a1 4294967295))) + ((IntKind.u64.wrap ((Go.bits .and .u64 a0 4294967295) * (Go.bits .and .u64 a1 4294967295))) / 4294967296))) / 4294967296))) + ((IntKind.u64.wrap ((Go.bits .and .u64 (IntKind.u64.wrap ((IntKind.u64.wrap ((a0 / 4294967296) * (Go.bits .and .u64 a1 4294967295))) + ((IntKind.u64.wrap ((Go.bits .and .u64 a0 4294967295) * (Go.bits .and .u64 a1 4294967295))) / 4294967296))) 4294967295) + (IntKind.u64.wrap ((Go.bits .and .u64 a0 4294967295) * (a1 / 4294967296))))) / 4294967296)), IntKind.u64.wrap (a0 * a1))
set_option maxHeartbeats 8000000 in
set_option maxRecDepth 100000 in
theorem bits_Mul64.calls (a0 : Int) (a1 : Int) (r1 : Int) (r2 : Int) (w : World) (h : bits_Mul64.f a0 a1 = some (r1, r2)) :
  Calls Tryz.prog 82 #[.int .u64 a0, .int .u64 a1] w fun e w' => e = .returned (.tuple #[.int .u64 r1, .int .u64 r2]) ∧ Drawn0 w w' := by
 have H : (some (IntKind.u64.wrap ((IntKind.u64.wrap ((IntKind.u64.wrap ((a0 / 4294967296) * (a1 / 4294967296))) + ((IntKind.u64.wrap ((IntKind.u64.wrap ((a0 / 4294967296) * (Go.bits .and .u64 a1 4294967295))) + ((IntKind.u64.wrap ((Go.bits .and .u64 a0 4294967295) * (Go.bits .and .u64 a1 4294967295))) / 4294967296))) / 4294967296))) + ((IntKind.u64.wrap ((Go.bits .and .u64 (IntKind.u64.wrap ((IntKind.u64.wrap ((a0 / 4294967296) * (Go.bits .and .u64 a1 4294967295))) + ((IntKind.u64.wrap ((Go.bits .and .u64 a0 4294967295) * (Go.bits .and .u64 a1 4294967295))) / 4294967296))) 4294967295) + (IntKind.u64.wrap ((Go.bits .and .u64 a0 4294967295) * (a1 / 4294967296))))) / 4294967296)), IntKind.u64.wrap (a0 * a1))) = some (r1, r2) := h
 clear h
 simp only [Option.some.injEq, Prod.mk.injEq] at H
 obtain ⟨rfl, rfl⟩ := H
 go_enter Tryz.func82, Tryz.ntmps82
 go_wp2
 go_ret2
 exact ⟨by first | rfl | (simp; done) | (simp [*]; done), by repeat (first | exact Drawn0.refl _ | apply Drawn0.step)⟩

/-! ### bits_Mul: function 60 -/
def bits_Mul.f (a0 : Int) (a1 : Int) : Option (Int × Int) := (bits_Mul64.f a0 a1).bind fun bt406 => (some (bt406.1, bt406.2))
set_option maxHeartbeats 8000000 in
set_option maxRecDepth 100000 in
theorem bits_Mul.calls (a0 : Int) (a1 : Int) (r1 : Int) (r2 : Int) (w : World) (h : bits_Mul.f a0 a1 = some (r1, r2)) :
    Calls Tryz.prog 60 #[.int .u64 a0, .int .u64 a1] w fun e w' => e = .returned (.tuple #[.int .u64 r1, .int .u64 r2]) ∧ Drawn0 w w' := by
  have H : ((bits_Mul64.f a0 a1).bind fun bt406 => (some (bt406.1, bt406.2))) = some (r1, r2) := h
  clear h
  replace H := Option.bind_eq_some_iff.mp H
  obtain ⟨⟨t406, t407⟩, A30, H⟩ := H
  replace H : (some (t406, t407)) = some (r1, r2) := H
  have A3 := Aside0.mk A30
  clear A30
  simp only [Option.some.injEq, Prod.mk.injEq] at H
  obtain ⟨rfl, rfl⟩ := H
  go_enter Tryz.func60, Tryz.ntmps60
  go_wp2_with (first | ((with_reducible refine gate_callee (f := 82) rfl ?_); refine gL (some 25) Tryz.func82 #[.int .u64 a0, .int .u64 a1] ?_; (with_reducible refine (bits_Mul64.calls a0 a1 t406 t407 _ A3.out).mono ?_); rintro e w' ⟨rfl, ⟨nd, rfl⟩⟩; refine ⟨_, rfl, ?_⟩))
  go_ret2
  exact ⟨by first | rfl | (simp; done) | (simp [*]; done), by repeat (first | exact Drawn0.refl _ | apply Drawn0.step)⟩

/-! ### slices_Repeat_int_int: function 35 -/
def slices_Repeat_int_int.f (l0 : List Int) (a1 : Int) : Option (List Int) := if l0.length = 1 ∧ 1 ≤ a1 ∧ a1 ≤ 40 then some (List.replicate a1.toNat (rd l0 0)) else none
theorem mul_small {n : Int} (h0 : 0 ≤ n) (h1 : n ≤ 40) : bits_Mul.f 1 n = some (0, n) := by
  have H : ∀ i : Fin 41, bits_Mul.f 1 (i.1 : Int) = some (0, (i.1 : Int)) := by decide +kernel
  have := H ⟨n.toNat, by omega⟩
  rwa [show ((n.toNat : Nat) : Int) = n by omega] at this
theorem splice_rep (x y : Value) (n m k : Nat) (T : List Value) (h : k ≤ m) : splice (List.replicate n x ++ (List.replicate m y ++ T)) n (List.replicate k x) = List.replicate (n + k) x ++ (List.replicate (m - k) y ++ T) := by
  unfold splice
  have e1 : (List.replicate n x ++ (List.replicate m y ++ T)).take n = List.replicate n x := by simp
  have e2 : (List.replicate n x ++ (List.replicate m y ++ T)).drop (n + (List.replicate k x).length) = List.replicate (m - k) y ++ T := by
    rw [List.length_replicate, List.drop_append, List.length_replicate, List.drop_of_length_le (by simp), List.nil_append, Nat.add_sub_cancel_left, List.drop_append, List.length_replicate, Nat.sub_eq_zero_of_le h, List.drop_replicate, List.drop_zero]
  rw [e1, e2, ← List.append_assoc, List.replicate_append_replicate]
theorem splice_one {x y : Value} {m : Nat} {T : List Value} (h : 1 ≤ m) : splice (List.replicate m y ++ T) 0 [x] = List.replicate 1 x ++ (List.replicate (m - 1) y ++ T) := by
  cases m with
  | zero => omega
  | succ m => simp [splice, List.replicate_succ]
theorem rep_own {w : World} {base : Nat} {v : Value} {m : Nat} (hm : 1 ≤ m) (h : Kd.R (Kd.int .i64) 3 w base (fun _ => True) v (List.replicate m (0 : Int))) :
    ∃ g cap T, v = .slice (some ⟨g, 0, none⟩) m cap ∧ base ≤ g ∧ w.heap[g]? = some (.cells (List.replicate m (Value.int .i64 0) ++ T).toArray 3 (0, 0)) ∧ m ≤ cap ∧ cap ≤ maxLen ∧ T.length = cap - m := by
  obtain ⟨hlen, ⟨_, hz⟩ | ⟨g, cap, cur, hv, hgb, hh, hnc, hcm, hcs, htk⟩⟩ := Kd.own_of_R (enc := fun x => Value.int .i64 x) h
  · rw [List.length_replicate] at hz; omega
  · rw [List.length_replicate] at hv hnc htk
    refine ⟨g, cap, cur.toList.drop m, hv, hgb, ?_, hnc, hcm, by rw [List.length_drop, Array.length_toList]; omega⟩
    have e : List.replicate m (Value.int .i64 0) = cur.toList.take m := by rw [Nat.mul_one] at htk; rw [htk]; simp [encs]
    rw [e, List.take_append_drop]; exact hh
theorem own_rep {w : World} {base g m cap : Nat} {T : List Value} {x : Int} (hb : base ≤ g) (hh : w.heap[g]? = some (.cells (List.replicate m (Value.int .i64 x) ++ T).toArray 3 (0, 0))) (hc : m ≤ cap) (hcm : cap ≤ maxLen) (hT : T.length = cap - m) :
    Kd.R (Kd.int .i64) 3 w base (fun _ => True) (.slice (some ⟨g, 0, none⟩) m cap) (List.replicate m x) := by
  refine Kd.R_of_own (enc := fun x => Value.int .i64 x) ⟨by simp [encs], .inr ⟨g, cap, _, by rw [List.length_replicate], hb, hh, by rw [List.length_replicate]; exact hc, hcm, by simp; omega, ?_⟩⟩ (fun _ _ => trivial)
  rw [List.length_replicate, Nat.mul_one]
  show (List.replicate m (Value.int .i64 x) ++ T).take m = _
  rw [List.take_append_of_le_length (by simp), List.take_of_length_le (by simp)]; simp [encs]
theorem rep_cell {w : World} {g n : Nat} {x : Int} {T : List Value} (hh : w.heap[g]? = some (.cells (List.replicate n (Value.int .i64 x) ++ T).toArray 3 (0, 0))) (k : Nat) (hk : k ≤ n) (j : Nat) (v : Value) (hv : (List.replicate k (Value.int .i64 x))[j]? = some v) : w.cell? ((⟨g, 0, none⟩ : Addr).add j) = some v := by
  have hj : j < k := by
    rcases Nat.lt_or_ge j k with h | h
    · exact h
    · rw [List.getElem?_eq_none (by simpa using h)] at hv; cases hv
  rw [List.getElem?_replicate, if_pos hj] at hv
  obtain rfl := Option.some.inj hv
  have : ((⟨g, 0, none⟩ : Addr).add j) = ⟨g, j, none⟩ := by simp [Addr.add]; exact fun h => h.symm
  rw [this, blk_cell hh j]
  simp [List.getElem?_append, List.getElem?_replicate, show j < n by omega]
set_option maxHeartbeats 4000000 in
set_option maxRecDepth 100000 in
theorem slices_Repeat_int_int.calls (A0 : Option Addr) (c0 : Nat) (l0 : List Int) (a1 : Int) (r : List Int) (w : World) (hr0 : Kd.C (Kd.int .i64) w A0 l0.length l0) (hc0 : l0.length ≤ c0) (h : slices_Repeat_int_int.f l0 a1 = some r) :
    Calls Tryz.prog 35 #[.slice A0 l0.length c0, .int .i64 a1] w fun e w' => ∃ v0_ : Value, e = .returned (v0_) ∧ Kd.R (Kd.int .i64) 3 w' w.heap.size (fun _ => True) v0_ r ∧ Below w.heap.size w w' := by
  unfold slices_Repeat_int_int.f at h
  by_cases hc : l0.length = 1 ∧ 1 ≤ a1 ∧ a1 ≤ 40
  · rw [if_pos hc] at h
    obtain rfl := Option.some.inj h
    obtain ⟨hl, h1, h2⟩ := hc
    obtain ⟨ad, ea, hx⟩ := Kd.at_int hr0 0 (by omega) (by omega)
    subst ea
    rw [show (0 : Int).toNat = 0 from rfl, Addr.add_zero'] at hx
    generalize rd l0 0 = x at hx ⊢
    obtain ⟨m, rfl⟩ := Int.eq_ofNat_of_zero_le (by omega : 0 ≤ a1)
    have HX := Aside0.mk hx
    have hw1 : IntKind.u64.wrap 1 = 1 := by decide
    have hw2 : IntKind.u64.wrap (m : Int) = m := by show (m : Int) % 18446744073709551616 = m; omega
    have hw3 : IntKind.i64.wrap (m : Int) = m := by rw [i64_w]; unfold wrap64; omega
    have q0 : decide ((m : Int) < 0) = false := decide_eq_false (by omega)
    have q1 : decide ((m : Int) > 9223372036854775807) = false := decide_eq_false (by omega)
    have m1 : 1 ≤ m := by omega
    rw [hl, Int.toNat_natCast]
    clear h hr0 hc0 hx hl
    go_enter Tryz.func35, Tryz.ntmps35
    go_wp2_with (first
      | (go_at_call 60; (with_reducible refine (bits_Mul.calls 1 (m : Int) 0 (m : Int) _ (mul_small (by omega) h2)).mono ?_); rintro e w1 ⟨rfl, hd⟩; have HB1 := Aside0.mk hd.below; clear hd)
      | ((with_reducible refine gate_dst (N := 30) rfl ?_); refine Kd.R_make (Kd.int .i64) _ 3 rfl (N := 30) rfl 31 _ _ rfl (m : Int) rfl rfl Tryz.underlying31 (.int .i64 0) 8 info3 rfl (by decide) (by omega) 0 (ok := fun _ => True) (okp := fun _ => True) rfl (fun _ hk => hk) trivial (by omega) (by omega) (by exact HB1.out) (below_size HB1.out) ?_; intro v1 w2 ho2 hb2 _ _; rw [Int.toNat_natCast] at ho2; obtain ⟨g, cap, T, rfl, hgb, hh, hmc, hcm, hT⟩ := rep_own m1 ho2; have HH := Aside0.mk hh; have HB2 := Aside0.mk hb2; have hx2 := Aside0.mk ((hb2.cell (World.block_lt_of_cell? w ad HX.out)).trans HX.out); clear ho2 hb2 hh)
      | ((with_reducible refine gate_builtin (b := .copy) (xs := #[.tmp 31, .tmp 32]) rfl ?_); refine wpList_copy_splice rfl (.tmp 31) (.tmp 32) 31 31 rfl 3 Tryz.underlying31 (by kernel_rfl) (some ⟨g, 0, none⟩) (some ad) m cap 1 c0 rfl rfl g 0 (List.replicate m (Value.int .i64 0) ++ T) 3 HH.out [Value.int .i64 x] (show 1 = Nat.min 1 m from (Nat.min_eq_left m1).symm) (fun _ => ⟨rfl, ad, rfl, fun j v hv => by cases j with | zero => obtain rfl := Option.some.inj hv; rw [Addr.add_zero']; exact hx2.out | succ j => cases hv⟩) (by simp; omega) (fun v hv => by rw [List.mem_singleton.1 hv]; rfl) w.heap.size w HB2.out hgb ?_; intro w3 hg3 hb3; have HG3 := Aside0.mk hg3.out; have HB3 := Aside0.mk hb3; clear hg3 hb3))
    have HG := Aside0.mk (show w3.heap[g]? = some (.cells (List.replicate 1 (Value.int .i64 x) ++ (List.replicate (m - 1) (Value.int .i64 0) ++ T)).toArray 3 (0, 0)) from HG3.out.trans (by rw [splice_one m1]))
    clear HG3 HB2 HB1 hx2 HX HH
    go_loopg [8] m (fun gg v8 wr => ∃ n : Nat, 1 ≤ n ∧ n ≤ m ∧ m - n ≤ gg ∧ v8 = .int .i64 n ∧ Aside0 (wr.heap[g]? = some (.cells (List.replicate n (Value.int .i64 x) ++ (List.replicate (m - n) (Value.int .i64 0) ++ T)).toArray 3 (0, 0))) ∧ Aside0 (Below w.heap.size w wr))
    case atStart => exact ⟨1, Nat.le_refl _, m1, by omega, rfl, HG, HB3⟩
    case round =>
      obtain ⟨n, n1, nm, hg, rfl, HR, HW⟩ := hrel
      by_cases hlt : n < m
      · have b0 : decide ((n : Int) < (m : Int)) = true := decide_eq_true (by omega)
        obtain ⟨k, hk⟩ : ∃ k, k = Nat.min n (m - n) := ⟨_, rfl⟩
        have hk1 : k ≤ m - n := by rw [hk]; exact Nat.min_le_right _ _
        have hk2 : k ≤ n := by rw [hk]; exact Nat.min_le_left _ _
        have hk3 : 1 ≤ k := by rw [hk]; exact Nat.le_min.2 ⟨n1, by omega⟩
        have HK := Aside0.mk hk
        clear hk
        have hcn : ¬ cap = n := by omega
        have hcn2 : n ≤ cap := by omega
        have hw : IntKind.i64.wrap ((n : Int) + (k : Int)) = ((n + k : Nat) : Int) := by rw [i64_w]; unfold wrap64; omega
        go_wp2
        go_region_law (refine step_copy_splice rfl (.tmp 41) (.tmp 44) 31 31 rfl 3 Tryz.underlying31 (by kernel_rfl) (some ⟨g, n, none⟩) (some ⟨g, 0, none⟩) (m - n) (cap - n) n cap (by simp [Act.eval, Act.put]) (by simp [Act.eval, Act.put]) g n (List.replicate n (Value.int .i64 x) ++ (List.replicate (m - n) (Value.int .i64 0) ++ T)) 3 HR.out (List.replicate k (Value.int .i64 x)) (by rw [List.length_replicate]; exact HK.out) (fun _ => ⟨rfl, _, rfl, fun j v hv => rep_cell HR.out k hk2 j v hv⟩) (by simp; omega) (fun v hv => by rw [List.eq_of_mem_replicate hv]; rfl) w.heap.size w (below_drew1 HW.out) hgb ?_; intro w4 hg4 hb4; rw [List.length_replicate]; have HG4 := Aside0.mk hg4.out; have HB4 := Aside0.mk hb4; clear hg4 hb4)
        have HG5 := Aside0.mk (show w4.heap[g]? = some (.cells (List.replicate (n + k) (Value.int .i64 x) ++ (List.replicate (m - (n + k)) (Value.int .i64 0) ++ T)).toArray 3 (0, 0)) from HG4.out.trans (by rw [splice_rep _ _ _ _ _ _ hk1, Nat.sub_sub]))
        clear HG4 HR HW
        go_wp2
        go_roundg (m - (n + k))
        case measure => omega
        case rel => exact ⟨n + k, by omega, by omega, by omega, by go_num, HG5, HB4⟩
      · obtain rfl : n = m := by omega
        have b0 : decide ((n : Int) < (n : Int)) = false := decide_eq_false (by omega)
        go_wp2
        go_ret
        exact ⟨_, rfl, own_rep hgb (by have := HR.out; rw [Nat.sub_self, List.replicate_zero, List.nil_append] at this; exact this) hmc hcm hT, HW.out⟩
  · rw [if_neg hc] at h; exact absurd h (by simp)

/-! ### slices_Clone_int_int: function 36 -/
def cloneIntF (l0 : List Int) : Option (List Int) := if l0.length < 17592186044416 then some l0 else none
def slices_Clone_int_int.f (l0 : List Int) : Option (List Int) := cloneIntF l0
theorem cloneInt_f (l0 : List Int) : slices_Clone_int_int.f l0 = cloneIntF l0 := rfl
set_option maxHeartbeats 1000000 in
set_option maxRecDepth 100000 in
theorem slices_Clone_int_int.calls (A0 : Option Addr) (c0 : Nat) (l0 : List Int) (r : List Int) (w : World) (hr0 : Kd.C (Kd.int .i64) w A0 l0.length l0) (hc0 : l0.length ≤ c0) (h : slices_Clone_int_int.f l0 = some r) :
    Calls Tryz.prog 36 #[.slice A0 l0.length c0] w fun e w' => ∃ v0_ : Value, e = .returned (v0_) ∧ Kd.R (Kd.int .i64) 3 w' w.heap.size (fun _ => True) v0_ r ∧ Below w.heap.size w w' := by
  unfold slices_Clone_int_int.f cloneIntF at h
  by_cases hl : l0.length < 17592186044416
  · rw [if_pos hl] at h
    obtain rfl := Option.some.inj h
    cases A0 with
    | none =>
      have hz : l0 = [] := by
        rcases Nat.eq_zero_or_pos l0.length with h0 | h0
        · exact List.length_eq_zero_iff.1 h0
        · obtain ⟨ad, e, _⟩ := hr0.2.2 h0
          exact absurd e (by simp)
      subst hz
      have hnil : ∀ (W : World) (n c : Nat), (binOp .eql 31 (.slice none n c) (.slice none 0 0)).run Tryz.prog W = .ok (.bool true) W := fun W n c => Lib.run_eql_slice_nil W 31 3 none n c 0 0 Tryz.underlying31
      clear hr0 h hl
      go_enter Tryz.func36, Tryz.ntmps36
      go_wp2
      go_ret
      exact ⟨_, rfl, Kd.R_nil _ _ _ _ _, Below.refl _ _⟩
    | some ad =>
      have hnil : ∀ (W : World) (n c : Nat), (binOp .eql 31 (.slice (some ad) n c) (.slice none 0 0)).run Tryz.prog W = .ok (.bool false) W := fun W n c => Lib.run_eql_slice_nil W 31 3 (some ad) n c 0 0 Tryz.underlying31
      have HR := Aside0.mk hr0
      have HL := Aside0.mk hl
      clear hr0 h hl
      go_enter Tryz.func36, Tryz.ntmps36
      go_wp2_with (first | ((with_reducible refine gate_dst (N := 5) rfl ?_); refine Kd.R_lit (Kd.int .i64) _ 3 ?hg (N := 5) ?hd (xs := ([] : List Int)) (inner := []) (ok := fun _ => True) (okp := fun _ => True) ?hr ?hp (fun _ hk => hk) trivial (Below.refl _ _) (Nat.le_refl _) (by simp) ?_; (case hd => rfl); (case hg => rfl); (case hr => first | (go_simp; done) | (go_simp; rfl)); (case hp => exact (Reps.none _ _)); intro v132 w10 ho11 hb hg_ hnew_; clear hg_ hnew_; have HO := Aside0.mk ho11; have HB := Aside0.mk hb; clear hb ho11) | ((with_reducible refine gate_builtin (b := .append) (xs := #[.tmp 5, .tmp 6]) rfl ?_); at_builtin; refine Kd.R_append_rows (Kd.int .i64) (w0 := w) w.heap.size rfl (.tmp 5) (.tmp 6) 31 3 (.int .i64 0) 8 rfl Tryz.underlying31 info3 rfl (by decide) (by omega) v132 [] l0 _ _ _ (fun _ => True) (fun _ => False) rfl rfl ?aO ?aR (fun _ _ h => h) (fun _ h => h.elim) ?aF ?aB ?aS ?aL ?_; (case aR => exact Kd.C_below HR.out HB.out); (case aB => exact HB.out); (case aF => exact (fun _ _ => trivial)); (case aO => exact HO.out); (case aS => exact below_size HB.out); (case aL => have := HL.out; simp only [List.length_nil]; omega); intro v135 w12 ho hb hg hat; have HO2 := Aside0.mk ho; have HB2 := Aside0.mk hb; clear ho hb hg hat))
      go_ret
      exact ⟨_, rfl, by have h_ := HO2.out; rwa [List.nil_append] at h_, HB2.out⟩
  · rw [if_neg hl] at h
    exact absurd h (by simp)

/-! ### impl_WritesReg: function 61 -/
def impl_WritesReg.f (a0_0 : Int) (a0_1 : Int) (a0_2 : Int) (a0_3 : Int) : Option (Int) := (impl_within.f a0_0 1 9).bind fun t409 => (if t409 = true then (some a0_1) else (if a0_0 = 13 then (some a0_1) else (some (-1))))
set_option maxHeartbeats 8000000 in
set_option maxRecDepth 100000 in
theorem impl_WritesReg.calls (a0_0 : Int) (a0_1 : Int) (a0_2 : Int) (a0_3 : Int) (r : Int) (w : World) (h : impl_WritesReg.f a0_0 a0_1 a0_2 a0_3 = some r) :
  Calls Tryz.prog 61 #[.agg #[.int .i64 a0_0, .int .i64 a0_1, .int .i64 a0_2, .int .i64 a0_3]] w fun e w' => e = .returned (.int .i64 r) ∧ Below w.heap.size w w' := by
 have hu38 := Tryz.underlying38
 have HB := Aside0.mk (Below.refl w.heap.size w)
 have H : ((impl_within.f a0_0 1 9).bind fun t409 => (if t409 = true then (some a0_1) else (if a0_0 = 13 then (some a0_1) else (some (-1))))) = some r := h
 clear h
 replace H := Option.bind_eq_some_iff.mp H
 obtain ⟨t409, A20, H⟩ := H
 replace H : (if t409 = true then (some a0_1) else (if a0_0 = 13 then (some a0_1) else (some (-1)))) = some r := H
 have A2 := Aside0.mk A20
 clear A20
 by_cases c3 : t409 = true
 ·subst c3
  have H1 : (some a0_1) = some r := by rw [if_pos rfl] at H; exact H
  clear H
  have H := H1
  clear H1
  obtain rfl := Option.some.inj H
  go_enter Tryz.func61, Tryz.ntmps61
  go_wp2_with (first | ((with_reducible refine gate_dst (N := 1) rfl ?_); refine box_event ?hg (N := 1) ?hd (cs := #[.int .i64 a0_0, .int .i64 a0_1, .int .i64 a0_2, .int .i64 a0_3]) (t := 38) ?hr ?_; (case hd => rfl); (case hg => rfl); (case hr => first | (go_simp; done) | (go_simp; rfl)); intro gb408 hg w4 hbox hb; have BK408 := Aside0.mk (hbox); have GW408 := Aside0.mk ((by rw [hg]; exact (below_size bw) : w.heap.size ≤ gb408)); have GE408 := Aside0.mk ((by rw [hg]; exact (below_size bw) : w.heap.size ≤ gb408)); replace HB := Aside0.mk (below_step bw hb); clear hb hbox hg; have hcz5_0 : w4.cell? ⟨gb408, 0, none⟩ = some (.int .i64 a0_0) := (blk_cell BK408.out 0).trans rfl; have hcz5_1 : w4.cell? ⟨gb408, 1, none⟩ = some (.int .i64 a0_1) := (blk_cell BK408.out 1).trans rfl; have hcz5_2 : w4.cell? ⟨gb408, 2, none⟩ = some (.int .i64 a0_2) := (blk_cell BK408.out 2).trans rfl; have hcz5_3 : w4.cell? ⟨gb408, 3, none⟩ = some (.int .i64 a0_3) := (blk_cell BK408.out 3).trans rfl; have hfz5_0 := blk_frozen BK408.out 0; have hfz5_1 := blk_frozen BK408.out 1; have hfz5_2 := blk_frozen BK408.out 2; have hfz5_3 := blk_frozen BK408.out 3) | ((with_reducible refine gate_callee (f := 73) rfl ?_); refine gL (some 5) Tryz.func73 #[.int .i64 a0_0, .int .i64 1, .int .i64 9] ?_; (with_reducible refine (impl_within.calls a0_0 1 9 true _ A2.out).mono ?_); rintro e w' ⟨rfl, ⟨nd, rfl⟩⟩; refine ⟨_, rfl, ?_⟩))
  go_ret
  exact ⟨eR, bx⟩
 ·replace c3 := Bool.eq_false_iff.mpr c3
  subst c3
  have H1 : (if a0_0 = 13 then (some a0_1) else (some (-1))) = some r := by rw [if_neg (show ¬ (false = true) by decide)] at H; exact H
  clear H
  have H := H1
  clear H1
  by_cases c6 : a0_0 = 13
  ·rw [if_pos c6] at H
   have c6b0 : (a0_0 == 13) = true := beq_iff_eq.mpr c6
   have c6b1 : (a0_0 != 13) = false := bne_eq_false_iff_eq.mpr c6
   clear c6
   obtain rfl := Option.some.inj H
   go_enter Tryz.func61, Tryz.ntmps61
   go_wp2_with (first | ((with_reducible refine gate_dst (N := 1) rfl ?_); refine box_event ?hg (N := 1) ?hd (cs := #[.int .i64 a0_0, .int .i64 a0_1, .int .i64 a0_2, .int .i64 a0_3]) (t := 38) ?hr ?_; (case hd => rfl); (case hg => rfl); (case hr => first | (go_simp; done) | (go_simp; rfl)); intro gb408 hg w7 hbox hb; have BK408 := Aside0.mk (hbox); have GW408 := Aside0.mk ((by rw [hg]; exact (below_size bw) : w.heap.size ≤ gb408)); have GE408 := Aside0.mk ((by rw [hg]; exact (below_size bw) : w.heap.size ≤ gb408)); replace HB := Aside0.mk (below_step bw hb); clear hb hbox hg; have hcz8_0 : w7.cell? ⟨gb408, 0, none⟩ = some (.int .i64 a0_0) := (blk_cell BK408.out 0).trans rfl; have hcz8_1 : w7.cell? ⟨gb408, 1, none⟩ = some (.int .i64 a0_1) := (blk_cell BK408.out 1).trans rfl; have hcz8_2 : w7.cell? ⟨gb408, 2, none⟩ = some (.int .i64 a0_2) := (blk_cell BK408.out 2).trans rfl; have hcz8_3 : w7.cell? ⟨gb408, 3, none⟩ = some (.int .i64 a0_3) := (blk_cell BK408.out 3).trans rfl; have hfz8_0 := blk_frozen BK408.out 0; have hfz8_1 := blk_frozen BK408.out 1; have hfz8_2 := blk_frozen BK408.out 2; have hfz8_3 := blk_frozen BK408.out 3) | ((with_reducible refine gate_callee (f := 73) rfl ?_); refine gL (some 5) Tryz.func73 #[.int .i64 a0_0, .int .i64 1, .int .i64 9] ?_; (with_reducible refine (impl_within.calls a0_0 1 9 false _ A2.out).mono ?_); rintro e w' ⟨rfl, ⟨nd, rfl⟩⟩; refine ⟨_, rfl, ?_⟩))
   go_ret
   exact ⟨eR, bx⟩
  ·rw [if_neg c6] at H
   have c6b0 : (a0_0 == 13) = false := beq_eq_false_iff_ne.mpr c6
   have c6b1 : (a0_0 != 13) = true := bne_iff_ne.mpr c6
   obtain rfl := Option.some.inj H
   go_enter Tryz.func61, Tryz.ntmps61
   go_wp2_with (first | ((with_reducible refine gate_dst (N := 1) rfl ?_); refine box_event ?hg (N := 1) ?hd (cs := #[.int .i64 a0_0, .int .i64 a0_1, .int .i64 a0_2, .int .i64 a0_3]) (t := 38) ?hr ?_; (case hd => rfl); (case hg => rfl); (case hr => first | (go_simp; done) | (go_simp; rfl)); intro gb408 hg w9 hbox hb; have BK408 := Aside0.mk (hbox); have GW408 := Aside0.mk ((by rw [hg]; exact (below_size bw) : w.heap.size ≤ gb408)); have GE408 := Aside0.mk ((by rw [hg]; exact (below_size bw) : w.heap.size ≤ gb408)); replace HB := Aside0.mk (below_step bw hb); clear hb hbox hg; have hcz10_0 : w9.cell? ⟨gb408, 0, none⟩ = some (.int .i64 a0_0) := (blk_cell BK408.out 0).trans rfl; have hcz10_1 : w9.cell? ⟨gb408, 1, none⟩ = some (.int .i64 a0_1) := (blk_cell BK408.out 1).trans rfl; have hcz10_2 : w9.cell? ⟨gb408, 2, none⟩ = some (.int .i64 a0_2) := (blk_cell BK408.out 2).trans rfl; have hcz10_3 : w9.cell? ⟨gb408, 3, none⟩ = some (.int .i64 a0_3) := (blk_cell BK408.out 3).trans rfl; have hfz10_0 := blk_frozen BK408.out 0; have hfz10_1 := blk_frozen BK408.out 1; have hfz10_2 := blk_frozen BK408.out 2; have hfz10_3 := blk_frozen BK408.out 3) | ((with_reducible refine gate_callee (f := 73) rfl ?_); refine gL (some 5) Tryz.func73 #[.int .i64 a0_0, .int .i64 1, .int .i64 9] ?_; (with_reducible refine (impl_within.calls a0_0 1 9 false _ A2.out).mono ?_); rintro e w' ⟨rfl, ⟨nd, rfl⟩⟩; refine ⟨_, rfl, ?_⟩))
   go_ret
   exact ⟨eR, bx⟩

/-! ### slices_IndexFunc_int_int: function 51 -/
theorem blk_under {w1 W : World} {g : Nat} {o : Obj} (h : w1.heap[g]? = some o) (hb : Below w1.heap.size w1 W) : W.heap[g]? = some o := (hb.block g (blk_lt h)).trans h
theorem one_cell {W : World} {g : Nat} {v : Value} {t : TypeId} (h : W.heap[g]? = some (.cells #[v] t (0, 0))) : W.cell? ⟨g, 0, none⟩ = some v := (blk_cell h 0).trans rfl
theorem drawn_step {w W W' : World} (h : Drawn0 w W) (k : Drawn0 W W') : Drawn0 w W' := by
  obtain ⟨n, rfl⟩ := h
  obtain ⟨m, rfl⟩ := k
  exact ⟨⟨n + m, World.drewN_drewN ..⟩⟩
/-- The first place, counted from i on, of an element at which p holds; -1 if there is none. -/
def idxF {α : Type} (p : α → Bool) : List α → Int → Int
  | [], _ => -1
  | x :: r, i => if p x = true then i else idxF p r (i + 1)
theorem idxF_any {α : Type} (p : α → Bool) : ∀ (l : List α) (i : Int), 0 ≤ i → decide (idxF p l i ≥ 0) = l.any p
  | [], i, _ => by simp [idxF]
  | x :: r, i, h => by
    rw [idxF]
    by_cases hp : p x = true
    · rw [if_pos hp]; simp [hp, h]
    · rw [if_neg hp, idxF_any p r (i + 1) (by omega)]; simp [hp]
theorem drop_rdI {l : List Int} {i : Nat} (h1 : i < l.length) : l.drop i = rd l i :: l.drop (i + 1) := by
  rw [List.drop_eq_getElem_cons h1]
  congr 1
  unfold rd
  rw [Int.toNat_natCast, List.getD_eq_getElem?_getD, List.getElem?_eq_getElem h1]; rfl
theorem rd_memI {l : List Int} {i : Nat} (h1 : i < l.length) : rd l i ∈ l := by
  unfold rd
  rw [Int.toNat_natCast, List.getD_eq_getElem?_getD, List.getElem?_eq_getElem h1]
  exact List.getElem_mem h1
set_option maxHeartbeats 2000000 in
/-- slices.IndexFunc at ints: a function value that answers p x, and keeps R, at every element. -/
theorem indexFunc_int (R : World → Prop) (g : Nat) (lb : Array Value) (eg : ∀ args w, (callFunc g args).run Tryz.prog w = .ok (.enter g args) w) (p : Int → Bool) (A : Option Addr) (c : Nat) (l : List Int) (w : World)
    (hR : R w) (hr : ∀ W, R W → Kd.C (Kd.int .i64) W A l.length l)
    (hp : ∀ x, x ∈ l → ∀ W, R W → Calls Tryz.prog g (#[.int .i64 x] ++ lb) W fun e W' => e = .returned (.bool (p x)) ∧ R W') :
    Calls Tryz.prog 51 #[.slice A l.length c, .func (.func g) #[] lb] w fun e w' => e = .returned (.int .i64 (idxF p l 0)) ∧ R w' := by
  have hbig := (hr w hR).2.1
  go_enter Tryz.func51, Tryz.ntmps51
  go_wp2
  go_loopg [5, 8] l.length (fun gg _ s8 wr => ∃ kk : Nat, kk ≤ l.length ∧ l.length - kk ≤ gg ∧ s8 = .int .i64 kk ∧ Aside0 (R wr) ∧ Aside0 (idxF p (l.drop kk) kk = idxF p l 0))
  case atStart => exact ⟨0, Nat.zero_le _, by omega, rfl, ⟨hR⟩, ⟨rfl⟩⟩
  case round =>
    obtain ⟨kk, hkk, hg, rfl, HR, HI⟩ := hrel
    by_cases hlt : kk < l.length
    · have hltz : (kk : Int) < (l.length : Int) := by omega
      obtain ⟨ad, ea, hcell⟩ := Kd.at_int (hr wr HR.out) kk (by omega) hltz
      cases ea
      rw [Int.toNat_natCast] at hcell
      have hcall := hp _ (rd_memI hlt) wr HR.out
      have HD := Aside0.mk (drop_rdI hlt)
      clear hr hp
      generalize hy : rd l (kk : Int) = y at hcell hcall HD
      clear hy
      cases hq : p y with
      | true =>
        rw [hq] at hcall
        have HQ := Aside0.mk hq
        clear hq
        go_wp2_with (go_at_fn g; refine hcall.mono ?_; rintro e w' ⟨rfl, hb'⟩)
        go_ret
        refine ⟨?_, hb'⟩
        rw [← HI.out, HD.out, idxF, if_pos HQ.out]
        rfl
      | false =>
        rw [hq] at hcall
        have HQ := Aside0.mk hq
        clear hq
        go_wp2_with (go_at_fn g; refine hcall.mono ?_; rintro e w' ⟨rfl, hb'⟩)
        go_roundg (l.length - (kk + 1))
        case measure => omega
        case rel =>
          refine ⟨kk + 1, by omega, by omega, by go_num, ⟨hb'⟩, ⟨?_⟩⟩
          rw [← HI.out, HD.out, idxF, if_neg (by rw [HQ.out]; decide)]
          rfl
    · have hltz : ¬ (kk : Int) < (l.length : Int) := by omega
      go_wp2
      go_ret
      refine ⟨?_, HR.out⟩
      rw [← HI.out, List.drop_of_length_le (by omega)]; rfl

/-! ### slices_ContainsFunc_int_int: function 26 -/
set_option maxHeartbeats 2000000 in
/-- slices.ContainsFunc at ints. -/
theorem containsFunc_int (R : World → Prop) (g : Nat) (lb : Array Value) (eg : ∀ args w, (callFunc g args).run Tryz.prog w = .ok (.enter g args) w) (p : Int → Bool) (A : Option Addr) (c : Nat) (l : List Int) (w : World)
    (hR : R w) (hr : ∀ W, R W → Kd.C (Kd.int .i64) W A l.length l)
    (hp : ∀ x, x ∈ l → ∀ W, R W → Calls Tryz.prog g (#[.int .i64 x] ++ lb) W fun e W' => e = .returned (.bool (p x)) ∧ R W') :
    Calls Tryz.prog 26 #[.slice A l.length c, .func (.func g) #[] lb] w fun e w' => e = .returned (.bool (l.any p)) ∧ R w' := by
  rw [← idxF_any p l 0 (by omega)]
  go_enter Tryz.func26, Tryz.ntmps26
  go_wp2_with (go_at_call 51; refine (indexFunc_int R g lb eg p A c l _ hR hr hp).mono ?_; rintro e w' ⟨rfl, hb'⟩)
  go_ret
  exact ⟨rfl, hb'⟩

/-! ### impl_hasAll: function 62 -/
def bitOut (s r : Int) : Bool := Go.bits .and .i64 (shr .i64 s r) 1 == 0
def regsIn (l : List Int) : Bool := l.all fun r => decide (0 ≤ r ∧ r ≤ 3)
def impl_hasAll.f (a0 : Int) (l1 : List Int) : Option (Bool) := if regsIn l1 = true then some (!(l1.any (bitOut a0))) else none
theorem blk_underH {w1 W : World} {g : Nat} {o : Obj} (h : w1.heap[g]? = some o) (hb : Below w1.heap.size w1 W) : W.heap[g]? = some o := (hb.block g (blk_lt h)).trans h
theorem one_cellH {W : World} {g : Nat} {v : Value} {t : TypeId} (h : W.heap[g]? = some (.cells #[v] t (0, 0))) : W.cell? ⟨g, 0, none⟩ = some v := (blk_cell h 0).trans rfl
set_option maxHeartbeats 1000000 in
theorem impl_hasAll.fn (a0 : Int) (g : Nat) (x : Int) (w : World) (hg : w.heap[g]? = some (.cells #[.int .i64 a0] 3 (0, 0))) (h0 : 0 ≤ x) (h3 : x ≤ 3) :
    Calls Tryz.prog 83 #[.int .i64 x, .pointer (some ⟨g, 0, none⟩)] w fun e w' => e = .returned (.bool (bitOut a0 x)) ∧ Below w.heap.size w w' := by
  have hcap := one_cellH hg
  clear hg
  have h64 : x ≤ 64 := by omega
  have H1 := Aside0.mk (shr_small (k := .i64) (x := a0) (y := x) rfl (by show x ≤ 64; omega))
  go_enter Tryz.func83, Tryz.ntmps83
  go_wp2
  go_ret
  refine ⟨?_, Below.refl _ _⟩
  unfold bitOut
  rw [← H1.out]
  rfl
set_option maxHeartbeats 1000000 in
set_option maxRecDepth 100000 in
theorem impl_hasAll.calls (a0 : Int) (A1 : Option Addr) (c1 : Nat) (l1 : List Int) (r : Bool) (w : World) (hr1 : Kd.C (Kd.int .i64) w A1 l1.length l1) (hc1 : l1.length ≤ c1) (h : impl_hasAll.f a0 l1 = some r) :
    Calls Tryz.prog 62 #[.int .i64 a0, .slice A1 l1.length c1] w fun e w' => e = .returned (.bool r) ∧ Below w.heap.size w w' := by
  unfold impl_hasAll.f at h
  by_cases hs : regsIn l1 = true
  · rw [if_pos hs] at h
    obtain rfl := Option.some.inj h
    have HS := Aside0.mk (show ∀ x ∈ l1, 0 ≤ x ∧ x ≤ 3 from fun x hx => by simpa using List.all_eq_true.1 hs x hx)
    have HR := Aside0.mk hr1
    clear hs h hr1
    have eg := enters_of Tryz.func83 (by kernel_rfl) rfl
    have HF := Aside0.mk (fun (gb : Nat) (w1 : World) (hb : Below w.heap.size w w1) (hx : w1.heap[gb]? = some (.cells #[.int .i64 a0] 3 (0, 0))) =>
      containsFunc_int (Below w1.heap.size w1) 83 #[.pointer (some ⟨gb, 0, none⟩)] eg (bitOut a0) A1 c1 l1 w1 (Below.refl _ _)
        (fun W hW => Kd.C_below HR.out (below_step hb hW)) (fun x hx1 W hW => (impl_hasAll.fn a0 gb x W (blk_underH hx hW) (HS.out x hx1).1 (HS.out x hx1).2).mono fun e W' ⟨he, h2⟩ => ⟨he, below_step hW h2⟩))
    clear eg
    go_enter Tryz.func62, Tryz.ntmps62
    go_wp2_with (first | ((with_reducible refine gate_dst (N := 2) rfl ?_); refine box_event ?hg (N := 2) ?hd (cs := #[.int .i64 a0]) (t := 3) ?hr ?_; (case hd => rfl); (case hg => rfl); (case hr => first | (go_simp; done) | (go_simp; rfl)); intro gb hgb w1 hbox hb; have HB := Aside0.mk hb; have HX := Aside0.mk hbox; clear hgb hb hbox) | (go_at_call 26; refine (HF.out gb _ HB.out HX.out).mono ?_; rintro e w' ⟨rfl, hb2⟩; have HB2 := Aside0.mk hb2; clear hb2))
    go_ret
    exact ⟨rfl, below_step HB.out HB2.out⟩
  · rw [if_neg hs] at h
    exact absurd h (by simp)

/-! ### impl_ReadsRegs: function 63 -/
def rawI (a b c d : Int) : List Int := if a = 2 ∨ a = 13 then [c] else if 3 ≤ a ∧ a ≤ 7 then [c, d] else if a = 9 then [b, c, d] else if a = 10 then [b] else if a = 14 ∨ a = 15 then [b, c] else []
def impl_ReadsRegs.f (k : Nat) (a0_0 : Int) (a0_1 : Int) (a0_2 : Int) (a0_3 : Int) : Option (List Int) := (slices_Sort_int_int.f k (rawI a0_0 a0_1 a0_2 a0_3)).bind fun L => slices_Compact_int_int.f L
theorem impl_ReadsRegs.mono : ∀ a0 a1 a2 a3 k, LeO (impl_ReadsRegs.f k a0 a1 a2 a3) (impl_ReadsRegs.f (k + 1) a0 a1 a2 a3) := by
  intro a0 a1 a2 a3 k
  unfold impl_ReadsRegs.f
  exact LeO.bind (slices_Sort_int_int.mono _ _) fun _ => LeO.refl _
theorem rawI_arms (a : Int) : a = 2 ∨ a = 13 ∨ a = 3 ∨ a = 4 ∨ a = 5 ∨ a = 6 ∨ a = 7 ∨ a = 9 ∨ a = 10 ∨ a = 14 ∨ a = 15 ∨ (a ≠ 2 ∧ a ≠ 13 ∧ a ≠ 3 ∧ a ≠ 4 ∧ a ≠ 5 ∧ a ≠ 6 ∧ a ≠ 7 ∧ a ≠ 9 ∧ a ≠ 10 ∧ a ≠ 14 ∧ a ≠ 15) := by omega
set_option maxHeartbeats 8000000 in
set_option maxRecDepth 100000 in
theorem impl_ReadsRegs.calls (k : Nat) (a0_0 : Int) (a0_1 : Int) (a0_2 : Int) (a0_3 : Int) (r : List Int) (w : World) (h : impl_ReadsRegs.f k a0_0 a0_1 a0_2 a0_3 = some r) :
    Calls Tryz.prog 63 #[.agg #[.int .i64 a0_0, .int .i64 a0_1, .int .i64 a0_2, .int .i64 a0_3]] w fun e w' => ∃ v0_ : Value, e = .returned (v0_) ∧ Kd.R (Kd.int .i64) 3 w' w.heap.size (fun _ => True) v0_ r ∧ Below w.heap.size w w' := by
  obtain ⟨L, hL, h⟩ := Option.bind_eq_some_iff.mp h
  have HC := Aside0.mk h
  have huI := Tryz.underlying38
  clear h
  rcases rawI_arms a0_0 with h | h | h | h | h | h | h | h | h | h | h | h
  all_goals
    have HL : Aside0 (slices_Sort_int_int.f k (rawI a0_0 a0_1 a0_2 a0_3) = some L) := ⟨hL⟩
    unfold rawI at HL
    first
      | (rw [if_pos (by omega)] at HL)
      | (rw [if_neg (by omega), if_pos (by omega)] at HL)
      | (rw [if_neg (by omega), if_neg (by omega), if_pos (by omega)] at HL)
      | (rw [if_neg (by omega), if_neg (by omega), if_neg (by omega), if_pos (by omega)] at HL)
      | (rw [if_neg (by omega), if_neg (by omega), if_neg (by omega), if_neg (by omega), if_pos (by omega)] at HL)
      | (rw [if_neg (by omega), if_neg (by omega), if_neg (by omega), if_neg (by omega), if_neg (by omega)] at HL)
    first | (have b2 : (a0_0 == 2) = true := beq_iff_eq.mpr (by omega)) | (have b2 : (a0_0 == 2) = false := beq_eq_false_iff_ne.mpr (by omega))
    first | (have b13 : (a0_0 == 13) = true := beq_iff_eq.mpr (by omega)) | (have b13 : (a0_0 == 13) = false := beq_eq_false_iff_ne.mpr (by omega))
    first | (have b3 : (a0_0 == 3) = true := beq_iff_eq.mpr (by omega)) | (have b3 : (a0_0 == 3) = false := beq_eq_false_iff_ne.mpr (by omega))
    first | (have b4 : (a0_0 == 4) = true := beq_iff_eq.mpr (by omega)) | (have b4 : (a0_0 == 4) = false := beq_eq_false_iff_ne.mpr (by omega))
    first | (have b5 : (a0_0 == 5) = true := beq_iff_eq.mpr (by omega)) | (have b5 : (a0_0 == 5) = false := beq_eq_false_iff_ne.mpr (by omega))
    first | (have b6 : (a0_0 == 6) = true := beq_iff_eq.mpr (by omega)) | (have b6 : (a0_0 == 6) = false := beq_eq_false_iff_ne.mpr (by omega))
    first | (have b7 : (a0_0 == 7) = true := beq_iff_eq.mpr (by omega)) | (have b7 : (a0_0 == 7) = false := beq_eq_false_iff_ne.mpr (by omega))
    first | (have b9 : (a0_0 == 9) = true := beq_iff_eq.mpr (by omega)) | (have b9 : (a0_0 == 9) = false := beq_eq_false_iff_ne.mpr (by omega))
    first | (have b10 : (a0_0 == 10) = true := beq_iff_eq.mpr (by omega)) | (have b10 : (a0_0 == 10) = false := beq_eq_false_iff_ne.mpr (by omega))
    first | (have b14 : (a0_0 == 14) = true := beq_iff_eq.mpr (by omega)) | (have b14 : (a0_0 == 14) = false := beq_eq_false_iff_ne.mpr (by omega))
    first | (have b15 : (a0_0 == 15) = true := beq_iff_eq.mpr (by omega)) | (have b15 : (a0_0 == 15) = false := beq_eq_false_iff_ne.mpr (by omega))
    clear h hL
    go_enter Tryz.func63, Tryz.ntmps63
    go_wp2_with (first
      | ((with_reducible refine gate_dst (N := 1) rfl ?_); refine box_event ?hg (N := 1) ?hd (cs := #[.int .i64 a0_0, .int .i64 a0_1, .int .i64 a0_2, .int .i64 a0_3]) (t := 38) ?hr ?_; (case hd => rfl); (case hg => rfl); (case hr => first | (go_simp; done) | (go_simp; rfl)); intro gb hgb w1 hbox hb; have HB := Aside0.mk hb; have BK := Aside0.mk hbox; have z0 : w1.cell? ⟨gb, 0, none⟩ = some (.int .i64 a0_0) := (blk_cell hbox 0).trans rfl; have z1 : w1.cell? ⟨gb, 1, none⟩ = some (.int .i64 a0_1) := (blk_cell hbox 1).trans rfl; have z2 : w1.cell? ⟨gb, 2, none⟩ = some (.int .i64 a0_2) := (blk_cell hbox 2).trans rfl; have z3 : w1.cell? ⟨gb, 3, none⟩ = some (.int .i64 a0_3) := (blk_cell hbox 3).trans rfl;  clear hgb hb hbox)
      | ((with_reducible refine gate_dst (N := 4) rfl ?_); refine Kd.R_lit (Kd.int .i64) _ 3 ?hg (N := 4) ?hd (xs := ([] : List Int)) (inner := []) (ok := fun _ => True) (okp := fun _ => True) ?hr ?hp (fun _ hk => hk) trivial HB.out (below_size HB.out) (by simp) ?_; (case hd => rfl); (case hg => rfl); (case hr => first | (go_simp; done) | (go_simp; rfl)); (case hp => exact (Reps.none _ _)); intro v4 w4 ho hb hg _; have n1_ := Aside0.mk ((hg.block _ (blk_lt BK.out) (by simp)).trans BK.out); clear HB BK z0 z1 z2 z3; have HO := Aside0.mk ho; have HB := Aside0.mk hb; have BK := n1_; clear ho hb hg n1_; have z0 : w4.cell? ⟨gb, 0, none⟩ = some (.int .i64 a0_0) := (blk_cell BK.out 0).trans rfl; have z1 : w4.cell? ⟨gb, 1, none⟩ = some (.int .i64 a0_1) := (blk_cell BK.out 1).trans rfl; have z2 : w4.cell? ⟨gb, 2, none⟩ = some (.int .i64 a0_2) := (blk_cell BK.out 2).trans rfl; have z3 : w4.cell? ⟨gb, 3, none⟩ = some (.int .i64 a0_3) := (blk_cell BK.out 3).trans rfl)
      | ((with_reducible refine gate_dst (N := 12) rfl ?_); refine Kd.R_lit (Kd.int .i64) _ 3 ?hg (N := 12) ?hd (xs := ([a0_2] : List Int)) (inner := [.int .i64 a0_2]) (ok := fun _ => True) (okp := fun _ => True) ?hr ?hp (fun _ hk => hk) trivial HB.out (below_size HB.out) (by simp) ?_; (case hd => rfl); (case hg => rfl); (case hr => first | (go_simp; done) | (go_simp; rfl)); (case hp => exact (Reps.one rfl (Reps.none _ _))); intro v12 w12 ho hb hg _; have n1_ := Aside0.mk ((hg.block _ (blk_lt BK.out) (by simp)).trans BK.out); clear HB BK z0 z1 z2 z3; clear HO; have HO := Aside0.mk ho; have HB := Aside0.mk hb; have BK := n1_; clear ho hb hg n1_; have z0 : w12.cell? ⟨gb, 0, none⟩ = some (.int .i64 a0_0) := (blk_cell BK.out 0).trans rfl; have z1 : w12.cell? ⟨gb, 1, none⟩ = some (.int .i64 a0_1) := (blk_cell BK.out 1).trans rfl; have z2 : w12.cell? ⟨gb, 2, none⟩ = some (.int .i64 a0_2) := (blk_cell BK.out 2).trans rfl; have z3 : w12.cell? ⟨gb, 3, none⟩ = some (.int .i64 a0_3) := (blk_cell BK.out 3).trans rfl)
      | ((with_reducible refine gate_dst (N := 23) rfl ?_); refine Kd.R_lit (Kd.int .i64) _ 3 ?hg (N := 23) ?hd (xs := ([a0_2, a0_3] : List Int)) (inner := [.int .i64 a0_2, .int .i64 a0_3]) (ok := fun _ => True) (okp := fun _ => True) ?hr ?hp (fun _ hk => hk) trivial HB.out (below_size HB.out) (by simp) ?_; (case hd => rfl); (case hg => rfl); (case hr => first | (go_simp; done) | (go_simp; rfl)); (case hp => exact (Reps.one rfl (Reps.one rfl (Reps.none _ _)))); intro v23 w23 ho hb hg _; have n1_ := Aside0.mk ((hg.block _ (blk_lt BK.out) (by simp)).trans BK.out); clear HB BK z0 z1 z2 z3; clear HO; have HO := Aside0.mk ho; have HB := Aside0.mk hb; have BK := n1_; clear ho hb hg n1_; have z0 : w23.cell? ⟨gb, 0, none⟩ = some (.int .i64 a0_0) := (blk_cell BK.out 0).trans rfl; have z1 : w23.cell? ⟨gb, 1, none⟩ = some (.int .i64 a0_1) := (blk_cell BK.out 1).trans rfl; have z2 : w23.cell? ⟨gb, 2, none⟩ = some (.int .i64 a0_2) := (blk_cell BK.out 2).trans rfl; have z3 : w23.cell? ⟨gb, 3, none⟩ = some (.int .i64 a0_3) := (blk_cell BK.out 3).trans rfl)
      | ((with_reducible refine gate_dst (N := 32) rfl ?_); refine Kd.R_lit (Kd.int .i64) _ 3 ?hg (N := 32) ?hd (xs := ([a0_1, a0_2, a0_3] : List Int)) (inner := [.int .i64 a0_1, .int .i64 a0_2, .int .i64 a0_3]) (ok := fun _ => True) (okp := fun _ => True) ?hr ?hp (fun _ hk => hk) trivial HB.out (below_size HB.out) (by simp) ?_; (case hd => rfl); (case hg => rfl); (case hr => first | (go_simp; done) | (go_simp; rfl)); (case hp => exact (Reps.one rfl (Reps.one rfl (Reps.one rfl (Reps.none _ _))))); intro v32 w32 ho hb hg _; have n1_ := Aside0.mk ((hg.block _ (blk_lt BK.out) (by simp)).trans BK.out); clear HB BK z0 z1 z2 z3; clear HO; have HO := Aside0.mk ho; have HB := Aside0.mk hb; have BK := n1_; clear ho hb hg n1_; have z0 : w32.cell? ⟨gb, 0, none⟩ = some (.int .i64 a0_0) := (blk_cell BK.out 0).trans rfl; have z1 : w32.cell? ⟨gb, 1, none⟩ = some (.int .i64 a0_1) := (blk_cell BK.out 1).trans rfl; have z2 : w32.cell? ⟨gb, 2, none⟩ = some (.int .i64 a0_2) := (blk_cell BK.out 2).trans rfl; have z3 : w32.cell? ⟨gb, 3, none⟩ = some (.int .i64 a0_3) := (blk_cell BK.out 3).trans rfl)
      | ((with_reducible refine gate_dst (N := 37) rfl ?_); refine Kd.R_lit (Kd.int .i64) _ 3 ?hg (N := 37) ?hd (xs := ([a0_1] : List Int)) (inner := [.int .i64 a0_1]) (ok := fun _ => True) (okp := fun _ => True) ?hr ?hp (fun _ hk => hk) trivial HB.out (below_size HB.out) (by simp) ?_; (case hd => rfl); (case hg => rfl); (case hr => first | (go_simp; done) | (go_simp; rfl)); (case hp => exact (Reps.one rfl (Reps.none _ _))); intro v37 w37 ho hb hg _; have n1_ := Aside0.mk ((hg.block _ (blk_lt BK.out) (by simp)).trans BK.out); clear HB BK z0 z1 z2 z3; clear HO; have HO := Aside0.mk ho; have HB := Aside0.mk hb; have BK := n1_; clear ho hb hg n1_; have z0 : w37.cell? ⟨gb, 0, none⟩ = some (.int .i64 a0_0) := (blk_cell BK.out 0).trans rfl; have z1 : w37.cell? ⟨gb, 1, none⟩ = some (.int .i64 a0_1) := (blk_cell BK.out 1).trans rfl; have z2 : w37.cell? ⟨gb, 2, none⟩ = some (.int .i64 a0_2) := (blk_cell BK.out 2).trans rfl; have z3 : w37.cell? ⟨gb, 3, none⟩ = some (.int .i64 a0_3) := (blk_cell BK.out 3).trans rfl)
      | ((with_reducible refine gate_dst (N := 45) rfl ?_); refine Kd.R_lit (Kd.int .i64) _ 3 ?hg (N := 45) ?hd (xs := ([a0_1, a0_2] : List Int)) (inner := [.int .i64 a0_1, .int .i64 a0_2]) (ok := fun _ => True) (okp := fun _ => True) ?hr ?hp (fun _ hk => hk) trivial HB.out (below_size HB.out) (by simp) ?_; (case hd => rfl); (case hg => rfl); (case hr => first | (go_simp; done) | (go_simp; rfl)); (case hp => exact (Reps.one rfl (Reps.one rfl (Reps.none _ _)))); intro v45 w45 ho hb hg _; have n1_ := Aside0.mk ((hg.block _ (blk_lt BK.out) (by simp)).trans BK.out); clear HB BK z0 z1 z2 z3; clear HO; have HO := Aside0.mk ho; have HB := Aside0.mk hb; have BK := n1_; clear ho hb hg n1_; have z0 : w45.cell? ⟨gb, 0, none⟩ = some (.int .i64 a0_0) := (blk_cell BK.out 0).trans rfl; have z1 : w45.cell? ⟨gb, 1, none⟩ = some (.int .i64 a0_1) := (blk_cell BK.out 1).trans rfl; have z2 : w45.cell? ⟨gb, 2, none⟩ = some (.int .i64 a0_2) := (blk_cell BK.out 2).trans rfl; have z3 : w45.cell? ⟨gb, 3, none⟩ = some (.int .i64 a0_3) := (blk_cell BK.out 3).trans rfl)
      | (go_at_call 64; refine (slices_Sort_int_int.calls k (fun _ => True) _ _ L w _ HB.out HO.out HL.out).mono ?_; rintro e w60 ⟨rfl, ho, hb, -⟩; clear HO HB; have HO := Aside0.mk ho; have HB := Aside0.mk hb; clear ho hb)
      | (go_at_call 65; refine (slices_Compact_int_int.calls _ _ L r w _ HB.out HO.out HC.out).mono ?_; rintro e w61 ⟨v61, rfl, ho, hb, -⟩; clear HO HB; have HO := Aside0.mk ho; have HB := Aside0.mk hb; clear ho hb))
    go_ret
    exact ⟨_, rfl, Kd.R_mono HO.out (fun _ _ => trivial), HB.out⟩

/-! ### impl_uniformAfter: function 37 -/
def impl_uniformAfter.j0 : Nat → Int → Bool → Bool → Int → Int → Int → Int → Option (Int)
 | 0, _, _, _, _, _, _, _ => none
 | k + 1, x1, x5, x15, x411000, x411001, x411002, x411003 => if x15 = true then ((impl_ReadsRegs.f k x411000 x411001 x411002 x411003).bind fun t412 => ((impl_hasAll.f x1 t412).bind fun t415 => (if t415 = true then (if 0 ≤ x411001 then (some (Go.bits .or .i64 x1 (shl .i64 1 x411001))) else (none)) else (if 0 ≤ x411001 then (some (Go.bits .andNot .i64 x1 (shl .i64 1 x411001))) else (none))))) else (if x5 = true then (if 0 ≤ x411001 then (some (Go.bits .or .i64 x1 (shl .i64 1 x411001))) else (none)) else (if 0 ≤ x411001 then (some (Go.bits .andNot .i64 x1 (shl .i64 1 x411001))) else (none)))
def impl_uniformAfter.f (k : Nat) (a0_0 : Int) (a0_1 : Int) (a0_2 : Int) (a0_3 : Int) (a1 : Int) : Option (Int) := (impl_WritesReg.f a0_0 a0_1 a0_2 a0_3).bind fun t411 => (if t411 < 0 then (some a1) else (if a0_0 = 1 then (if 0 ≤ a0_1 then (some (Go.bits .or .i64 a1 (shl .i64 1 a0_1))) else (none)) else (if a0_0 = 8 then (impl_uniformAfter.j0 k a1 false false a0_0 a0_1 a0_2 a0_3) else (impl_uniformAfter.j0 k a1 false (a0_0 != 13) a0_0 a0_1 a0_2 a0_3))))
theorem impl_uniformAfter.mono_l : ∀ k, (∀ y0 y1 y2 y3 y4 y5 y6, LeO (impl_uniformAfter.j0 k y0 y1 y2 y3 y4 y5 y6) (impl_uniformAfter.j0 (k + 1) y0 y1 y2 y3 y4 y5 y6))
 | 0 => fun _ _ _ _ _ _ _ r h => by simp [impl_uniformAfter.j0] at h
 | k + 1 => by
  have ih0 := impl_uniformAfter.mono_l k
  ·intro y0 y1 y2 y3 y4 y5 y6
   unfold impl_uniformAfter.j0
   repeat' first
   | (with_reducible exact ih0 _ _ _ _ _ _ _)
   | (with_reducible exact impl_ReadsRegs.mono _ _ _ _ _)
   | (with_reducible exact LeO.refl _)
   | (with_reducible exact LeO.none _)
   | (with_reducible refine LeO.ite ?_ ?_)
   | (with_reducible refine LeO.bind ?_ (fun _ => ?_))
   | exact ih0 _ _ _ _ _ _ _
   | exact impl_ReadsRegs.mono _ _ _ _ _
   | exact LeO.none _
   | refine LeO.ite ?_ ?_
   | refine LeO.bind ?_ (fun _ => ?_)
theorem impl_uniformAfter.mono : ∀ a0 a1 a2 a3 a4 k, LeO (impl_uniformAfter.f k a0 a1 a2 a3 a4) (impl_uniformAfter.f (k + 1) a0 a1 a2 a3 a4) := by
 intro a0 a1 a2 a3 a4 k
 have ih0 := impl_uniformAfter.mono_l k
 unfold impl_uniformAfter.f
 repeat' first
   | (with_reducible exact ih0 _ _ _ _ _ _ _)
   | (with_reducible exact impl_ReadsRegs.mono _ _ _ _ _)
   | (with_reducible exact LeO.refl _)
   | (with_reducible exact LeO.none _)
   | (with_reducible refine LeO.ite ?_ ?_)
   | (with_reducible refine LeO.bind ?_ (fun _ => ?_))
   | exact ih0 _ _ _ _ _ _ _
   | exact impl_ReadsRegs.mono _ _ _ _ _
   | exact LeO.none _
   | refine LeO.ite ?_ ?_
   | refine LeO.bind ?_ (fun _ => ?_)
set_option maxHeartbeats 8000000 in
set_option maxRecDepth 100000 in
theorem impl_uniformAfter.calls (k : Nat) (a0_0 : Int) (a0_1 : Int) (a0_2 : Int) (a0_3 : Int) (a1 : Int) (r : Int) (w : World) (h : impl_uniformAfter.f k a0_0 a0_1 a0_2 a0_3 a1 = some r) :
  Calls Tryz.prog 37 #[.agg #[.int .i64 a0_0, .int .i64 a0_1, .int .i64 a0_2, .int .i64 a0_3], .int .i64 a1] w fun e w' => e = .returned (.int .i64 r) ∧ Below w.heap.size w w' := by
 have hu38 := Tryz.underlying38
 have HB := Aside0.mk (Below.refl w.heap.size w)
 have H : ((impl_WritesReg.f a0_0 a0_1 a0_2 a0_3).bind fun t411 => (if t411 < 0 then (some a1) else (if a0_0 = 1 then (if 0 ≤ a0_1 then (some (Go.bits .or .i64 a1 (shl .i64 1 a0_1))) else (none)) else (if a0_0 = 8 then (impl_uniformAfter.j0 k a1 false false a0_0 a0_1 a0_2 a0_3) else (impl_uniformAfter.j0 k a1 false (a0_0 != 13) a0_0 a0_1 a0_2 a0_3))))) = some r := h
 clear h
 replace H := Option.bind_eq_some_iff.mp H
 obtain ⟨t411, A30, H⟩ := H
 replace H : (if t411 < 0 then (some a1) else (if a0_0 = 1 then (if 0 ≤ a0_1 then (some (Go.bits .or .i64 a1 (shl .i64 1 a0_1))) else (none)) else (if a0_0 = 8 then (impl_uniformAfter.j0 k a1 false false a0_0 a0_1 a0_2 a0_3) else (impl_uniformAfter.j0 k a1 false (a0_0 != 13) a0_0 a0_1 a0_2 a0_3)))) = some r := H
 have A3 := Aside0.mk A30
 clear A30
 by_cases c4 : t411 < 0
 ·rw [if_pos c4] at H
  have c4b0 : decide (t411 < 0) = true := decide_eq_true c4
  clear c4
  obtain rfl := Option.some.inj H
  go_enter Tryz.func37, Tryz.ntmps37
  go_wp2_with (first | ((with_reducible refine gate_dst (N := 2) rfl ?_); refine box_event ?hg (N := 2) ?hd (cs := #[.int .i64 a0_0, .int .i64 a0_1, .int .i64 a0_2, .int .i64 a0_3]) (t := 38) ?hr ?_; (case hd => rfl); (case hg => rfl); (case hr => first | (go_simp; done) | (go_simp; rfl)); intro gb410 hg w5 hbox hb; have BK410 := Aside0.mk (hbox); have GW410 := Aside0.mk ((by rw [hg]; exact (below_size bw) : w.heap.size ≤ gb410)); have GE410 := Aside0.mk ((by rw [hg]; exact (below_size bw) : w.heap.size ≤ gb410)); replace HB := Aside0.mk (below_step bw hb); clear hb hbox hg; have hcz6_0 : w5.cell? ⟨gb410, 0, none⟩ = some (.int .i64 a0_0) := (blk_cell BK410.out 0).trans rfl; have hcz6_1 : w5.cell? ⟨gb410, 1, none⟩ = some (.int .i64 a0_1) := (blk_cell BK410.out 1).trans rfl; have hcz6_2 : w5.cell? ⟨gb410, 2, none⟩ = some (.int .i64 a0_2) := (blk_cell BK410.out 2).trans rfl; have hcz6_3 : w5.cell? ⟨gb410, 3, none⟩ = some (.int .i64 a0_3) := (blk_cell BK410.out 3).trans rfl; have hfz6_0 := blk_frozen BK410.out 0; have hfz6_1 := blk_frozen BK410.out 1; have hfz6_2 := blk_frozen BK410.out 2; have hfz6_3 := blk_frozen BK410.out 3) | ((with_reducible refine gate_callee (f := 61) rfl ?_); refine gL (some 8) Tryz.func61 #[.agg #[.int .i64 a0_0, .int .i64 a0_1, .int .i64 a0_2, .int .i64 a0_3]] ?_; (with_reducible refine (impl_WritesReg.calls a0_0 a0_1 a0_2 a0_3 t411 _ A3.out).mono ?_); rintro e w7 ⟨rfl, hb⟩; refine ⟨_, rfl, ?_⟩; replace BK410 := Aside0.mk (blk_below (g := gb410) (o := .cells #[.int .i64 a0_0, .int .i64 a0_1, .int .i64 a0_2, .int .i64 a0_3] 38 (0, 0)) (bS BK410.out) hb); replace HB := Aside0.mk (below_step bx hb); (try clear hb)))
  go_ret
  exact ⟨eR, bx⟩
 ·rw [if_neg c4] at H
  have c4b0 : decide (t411 < 0) = false := decide_eq_false c4
  clear c4
  by_cases c8 : a0_0 = 1
  ·rw [if_pos c8] at H
   have c8b0 : (a0_0 == 1) = true := beq_iff_eq.mpr c8
   have c8b1 : (a0_0 != 1) = false := bne_eq_false_iff_eq.mpr c8
   clear c8
   by_cases c9 : 0 ≤ a0_1
   ·rw [if_pos c9] at H
    have c9b0 := eq_true c9
    have c9b1 : decide (0 ≤ a0_1) = true := decide_eq_true c9
    clear c9
    obtain ⟨ji10, hji10⟩ : ∃ j_ : Int, (shl .i64 1 a0_1) = j_ := ⟨_, rfl⟩
    replace H : (some (Go.bits .or .i64 a1 (ji10))) = some r := by first | (rw [hji10] at H; exact H) | (simp only [hji10] at H ⊢; exact H)
    (try rw [hji10] at A3)
    have hji10_ : (IntKind.i64.wrap (1 * 2 ^ min a0_1.toNat 64)) = ji10 := hji10
    have hji10z : a0_1 ≤ 64 → (IntKind.i64.wrap (1 * 2 ^ a0_1.toNat)) = ji10 := shl_small hji10
    have hji10u : (IntKind.i64.wrap (2 ^ min a0_1.toNat 64)) = ji10 := by have h_ := hji10_; rw [Int.one_mul] at h_; exact h_
    have hji10v : a0_1 ≤ 64 → (IntKind.i64.wrap (2 ^ a0_1.toNat)) = ji10 := fun hle_ => by have h_ := hji10z hle_; rw [Int.one_mul] at h_; exact h_
    have hji10y : (wrap64 (1 * 2 ^ min a0_1.toNat 64)) = ji10 := (i64_w _).symm.trans hji10_
    have hji10x : a0_1 ≤ 64 → (wrap64 (1 * 2 ^ a0_1.toNat)) = ji10 := fun h_ => (i64_w _).symm.trans (hji10z h_)
    obtain rfl := Option.some.inj H
    go_enter Tryz.func37, Tryz.ntmps37
    go_wp2_with (first | ((with_reducible refine gate_dst (N := 2) rfl ?_); refine box_event ?hg (N := 2) ?hd (cs := #[.int .i64 a0_0, .int .i64 a0_1, .int .i64 a0_2, .int .i64 a0_3]) (t := 38) ?hr ?_; (case hd => rfl); (case hg => rfl); (case hr => first | (go_simp; done) | (go_simp; rfl)); intro gb410 hg w11 hbox hb; have BK410 := Aside0.mk (hbox); have GW410 := Aside0.mk ((by rw [hg]; exact (below_size bw) : w.heap.size ≤ gb410)); have GE410 := Aside0.mk ((by rw [hg]; exact (below_size bw) : w.heap.size ≤ gb410)); replace HB := Aside0.mk (below_step bw hb); clear hb hbox hg; have hcz12_0 : w11.cell? ⟨gb410, 0, none⟩ = some (.int .i64 a0_0) := (blk_cell BK410.out 0).trans rfl; have hcz12_1 : w11.cell? ⟨gb410, 1, none⟩ = some (.int .i64 a0_1) := (blk_cell BK410.out 1).trans rfl; have hcz12_2 : w11.cell? ⟨gb410, 2, none⟩ = some (.int .i64 a0_2) := (blk_cell BK410.out 2).trans rfl; have hcz12_3 : w11.cell? ⟨gb410, 3, none⟩ = some (.int .i64 a0_3) := (blk_cell BK410.out 3).trans rfl; have hfz12_0 := blk_frozen BK410.out 0; have hfz12_1 := blk_frozen BK410.out 1; have hfz12_2 := blk_frozen BK410.out 2; have hfz12_3 := blk_frozen BK410.out 3) | ((with_reducible refine gate_callee (f := 61) rfl ?_); refine gL (some 8) Tryz.func61 #[.agg #[.int .i64 a0_0, .int .i64 a0_1, .int .i64 a0_2, .int .i64 a0_3]] ?_; (with_reducible refine (impl_WritesReg.calls a0_0 a0_1 a0_2 a0_3 t411 _ A3.out).mono ?_); rintro e w13 ⟨rfl, hb⟩; refine ⟨_, rfl, ?_⟩; replace BK410 := Aside0.mk (blk_below (g := gb410) (o := .cells #[.int .i64 a0_0, .int .i64 a0_1, .int .i64 a0_2, .int .i64 a0_3] 38 (0, 0)) (bS BK410.out) hb); replace HB := Aside0.mk (below_step bx hb); (try clear hb); have hcz14_0 : w13.cell? ⟨gb410, 0, none⟩ = some (.int .i64 a0_0) := (blk_cell BK410.out 0).trans rfl; have hcz14_1 : w13.cell? ⟨gb410, 1, none⟩ = some (.int .i64 a0_1) := (blk_cell BK410.out 1).trans rfl; have hcz14_2 : w13.cell? ⟨gb410, 2, none⟩ = some (.int .i64 a0_2) := (blk_cell BK410.out 2).trans rfl; have hcz14_3 : w13.cell? ⟨gb410, 3, none⟩ = some (.int .i64 a0_3) := (blk_cell BK410.out 3).trans rfl; have hfz14_0 := blk_frozen BK410.out 0; have hfz14_1 := blk_frozen BK410.out 1; have hfz14_2 := blk_frozen BK410.out 2; have hfz14_3 := blk_frozen BK410.out 3))
    go_ret
    exact ⟨by first | rfl | (simp [errW_none, errW_some] <;> rfl) | (simp only [← hji10]; first | rfl | (simp [errW_none, errW_some] <;> rfl)) | (simp [*, errW_none, errW_some] <;> rfl), bx⟩
   ·rw [if_neg c9] at H
    exact absurd H (by simp)
  ·rw [if_neg c8] at H
   have c8b0 : (a0_0 == 1) = false := beq_eq_false_iff_ne.mpr c8
   have c8b1 : (a0_0 != 1) = true := bne_iff_ne.mpr c8
   have HC15 := Aside0.mk H
   clear H
   go_enter Tryz.func37, Tryz.ntmps37
   go_upto_region 6 with (first | ((with_reducible refine gate_dst (N := 2) rfl ?_); refine box_event ?hg (N := 2) ?hd (cs := #[.int .i64 a0_0, .int .i64 a0_1, .int .i64 a0_2, .int .i64 a0_3]) (t := 38) ?hr ?_; (case hd => rfl); (case hg => rfl); (case hr => first | (go_simp; done) | (go_simp; rfl)); intro gb410 hg w16 hbox hb; have BK410 := Aside0.mk (hbox); have GW410 := Aside0.mk ((by rw [hg]; exact (below_size bw) : w.heap.size ≤ gb410)); have GE410 := Aside0.mk ((by rw [hg]; exact (below_size bw) : w.heap.size ≤ gb410)); replace HB := Aside0.mk (below_step bw hb); clear hb hbox hg; have hcz17_0 : w16.cell? ⟨gb410, 0, none⟩ = some (.int .i64 a0_0) := (blk_cell BK410.out 0).trans rfl; have hcz17_1 : w16.cell? ⟨gb410, 1, none⟩ = some (.int .i64 a0_1) := (blk_cell BK410.out 1).trans rfl; have hcz17_2 : w16.cell? ⟨gb410, 2, none⟩ = some (.int .i64 a0_2) := (blk_cell BK410.out 2).trans rfl; have hcz17_3 : w16.cell? ⟨gb410, 3, none⟩ = some (.int .i64 a0_3) := (blk_cell BK410.out 3).trans rfl; have hfz17_0 := blk_frozen BK410.out 0; have hfz17_1 := blk_frozen BK410.out 1; have hfz17_2 := blk_frozen BK410.out 2; have hfz17_3 := blk_frozen BK410.out 3) | ((with_reducible refine gate_callee (f := 61) rfl ?_); refine gL (some 8) Tryz.func61 #[.agg #[.int .i64 a0_0, .int .i64 a0_1, .int .i64 a0_2, .int .i64 a0_3]] ?_; (with_reducible refine (impl_WritesReg.calls a0_0 a0_1 a0_2 a0_3 t411 _ A3.out).mono ?_); rintro e w18 ⟨rfl, hb⟩; refine ⟨_, rfl, ?_⟩; replace BK410 := Aside0.mk (blk_below (g := gb410) (o := .cells #[.int .i64 a0_0, .int .i64 a0_1, .int .i64 a0_2, .int .i64 a0_3] 38 (0, 0)) (bS BK410.out) hb); replace HB := Aside0.mk (below_step bx hb); (try clear hb); have hcz19_0 : w18.cell? ⟨gb410, 0, none⟩ = some (.int .i64 a0_0) := (blk_cell BK410.out 0).trans rfl; have hcz19_1 : w18.cell? ⟨gb410, 1, none⟩ = some (.int .i64 a0_1) := (blk_cell BK410.out 1).trans rfl; have hcz19_2 : w18.cell? ⟨gb410, 2, none⟩ = some (.int .i64 a0_2) := (blk_cell BK410.out 2).trans rfl; have hcz19_3 : w18.cell? ⟨gb410, 3, none⟩ = some (.int .i64 a0_3) := (blk_cell BK410.out 3).trans rfl; have hfz19_0 := blk_frozen BK410.out 0; have hfz19_1 := blk_frozen BK410.out 1; have hfz19_2 := blk_frozen BK410.out 2; have hfz19_3 := blk_frozen BK410.out 3))
   (try simp only [Act.put, List.setIfInBounds_toArray, List.set_cons_zero, List.set_cons_succ])
   go_cut [15] (fun v15 wc => ∃ (kq : Nat) (x15_14 : Bool), v15 = .bool x15_14 ∧ Aside0 (impl_uniformAfter.j0 kq a1 false x15_14 a0_0 a0_1 a0_2 a0_3 = some r) ∧ Aside0 (kq ≤ k) ∧ Aside0 (wc.heap[gb410]? = some (.cells #[.int .i64 a0_0, .int .i64 a0_1, .int .i64 a0_2, .int .i64 a0_3] 38 (0, 0))) ∧ Aside0 (Below w.heap.size w wc))
   case first =>
    have H := HC15.out
    clear HC15
    by_cases c20 : a0_0 = 8
    ·rw [if_pos c20] at H
     have c20b0 : (a0_0 == 8) = true := beq_iff_eq.mpr c20
     have c20b1 : (a0_0 != 8) = false := bne_eq_false_iff_eq.mpr c20
     clear c20
     (first | rw [c20b0] | (simp only [i64_w, i32_w]; rw [c20b0]) | skip)
     have H' := Aside0.mk H
     clear H
     have hcz21_0 : w18.cell? ⟨gb410, 0, none⟩ = some (.int .i64 a0_0) := (blk_cell BK410.out 0).trans rfl
     have hcz21_1 : w18.cell? ⟨gb410, 1, none⟩ = some (.int .i64 a0_1) := (blk_cell BK410.out 1).trans rfl
     have hcz21_2 : w18.cell? ⟨gb410, 2, none⟩ = some (.int .i64 a0_2) := (blk_cell BK410.out 2).trans rfl
     have hcz21_3 : w18.cell? ⟨gb410, 3, none⟩ = some (.int .i64 a0_3) := (blk_cell BK410.out 3).trans rfl
     have hfz21_0 := blk_frozen BK410.out 0
     have hfz21_1 := blk_frozen BK410.out 1
     have hfz21_2 := blk_frozen BK410.out 2
     have hfz21_3 := blk_frozen BK410.out 3
     go_wp2
     go_meet
     case rel => exact ⟨_, (false), tR, H', ⟨by first | omega | exact Nat.le_refl _⟩, ⟨bS BK410.out⟩, ⟨bx⟩⟩
    ·rw [if_neg c20] at H
     have c20b0 : (a0_0 == 8) = false := beq_eq_false_iff_ne.mpr c20
     have c20b1 : (a0_0 != 8) = true := bne_iff_ne.mpr c20
     (first | rw [c20b0] | (simp only [i64_w, i32_w]; rw [c20b0]) | skip)
     have H' := Aside0.mk H
     clear H
     have hcz22_0 : w18.cell? ⟨gb410, 0, none⟩ = some (.int .i64 a0_0) := (blk_cell BK410.out 0).trans rfl
     have hcz22_1 : w18.cell? ⟨gb410, 1, none⟩ = some (.int .i64 a0_1) := (blk_cell BK410.out 1).trans rfl
     have hcz22_2 : w18.cell? ⟨gb410, 2, none⟩ = some (.int .i64 a0_2) := (blk_cell BK410.out 2).trans rfl
     have hcz22_3 : w18.cell? ⟨gb410, 3, none⟩ = some (.int .i64 a0_3) := (blk_cell BK410.out 3).trans rfl
     have hfz22_0 := blk_frozen BK410.out 0
     have hfz22_1 := blk_frozen BK410.out 1
     have hfz22_2 := blk_frozen BK410.out 2
     have hfz22_3 := blk_frozen BK410.out 3
     go_wp2
     go_meet
     case rel => exact ⟨_, ((a0_0 != 13)), tR, H', ⟨by first | omega | exact Nat.le_refl _⟩, ⟨bS BK410.out⟩, ⟨bx⟩⟩
   case rest =>
    clear HC15
    try clear c2;try clear p2;try clear c3;try clear c4;try clear c4b0;try clear c6;try clear p6;try clear c8;try clear c8b0;try clear c8b1;try clear c9;try clear c9b0;try clear c9b1;try clear c20;try clear c20b0;try clear c20b1;try clear hcz12_0;try clear hcz12_1;try clear hcz12_2;try clear hcz12_3;try clear hcz14_0;try clear hcz14_1;try clear hcz14_2;try clear hcz14_3;try clear hcz17_0;try clear hcz17_1;try clear hcz17_2;try clear hcz17_3;try clear hcz19_0;try clear hcz19_1;try clear hcz19_2;try clear hcz19_3;try clear hcz21_0;try clear hcz21_1;try clear hcz21_2;try clear hcz21_3;try clear hcz22_0;try clear hcz22_1;try clear hcz22_2;try clear hcz22_3;try clear hcz6_0;try clear hcz6_1;try clear hcz6_2;try clear hcz6_3;try clear hfz12_0;try clear hfz12_1;try clear hfz12_2;try clear hfz12_3;try clear hfz14_0;try clear hfz14_1;try clear hfz14_2;try clear hfz14_3;try clear hfz17_0;try clear hfz17_1;try clear hfz17_2;try clear hfz17_3;try clear hfz19_0;try clear hfz19_1;try clear hfz19_2;try clear hfz19_3;try clear hfz21_0;try clear hfz21_1;try clear hfz21_2;try clear hfz21_3;try clear hfz22_0;try clear hfz22_1;try clear hfz22_2;try clear hfz22_3;try clear hfz6_0;try clear hfz6_1;try clear hfz6_2;try clear hfz6_3
    obtain ⟨kq, x15_14, rfl, HA, HJ14, BK410, HB⟩ := hcut
    cases kq with
    | zero => exact absurd HA.out (by simp [impl_uniformAfter.j0])
    | succ kj14 =>
     have H := HA.out
     clear HA
     simp only [impl_uniformAfter.j0] at H
     by_cases c23 : x15_14 = true
     ·subst c23
      have H1 : ((impl_ReadsRegs.f kj14 a0_0 a0_1 a0_2 a0_3).bind fun t412 => ((impl_hasAll.f a1 t412).bind fun t415 => (if t415 = true then (if 0 ≤ a0_1 then (some (Go.bits .or .i64 a1 (shl .i64 1 a0_1))) else (none)) else (if 0 ≤ a0_1 then (some (Go.bits .andNot .i64 a1 (shl .i64 1 a0_1))) else (none))))) = some r := by rw [if_pos rfl] at H; exact H
      clear H
      have H := H1
      clear H1
      replace H := Option.bind_eq_some_iff.mp H
      obtain ⟨t412, A240, H⟩ := H
      replace H : ((impl_hasAll.f a1 t412).bind fun t415 => (if t415 = true then (if 0 ≤ a0_1 then (some (Go.bits .or .i64 a1 (shl .i64 1 a0_1))) else (none)) else (if 0 ≤ a0_1 then (some (Go.bits .andNot .i64 a1 (shl .i64 1 a0_1))) else (none)))) = some r := H
      have A24 := Aside0.mk A240
      clear A240
      replace H := Option.bind_eq_some_iff.mp H
      obtain ⟨t415, A250, H⟩ := H
      replace H : (if t415 = true then (if 0 ≤ a0_1 then (some (Go.bits .or .i64 a1 (shl .i64 1 a0_1))) else (none)) else (if 0 ≤ a0_1 then (some (Go.bits .andNot .i64 a1 (shl .i64 1 a0_1))) else (none))) = some r := H
      have A25 := Aside0.mk A250
      clear A250
      by_cases c26 : t415 = true
      ·subst c26
       have H1 : (if 0 ≤ a0_1 then (some (Go.bits .or .i64 a1 (shl .i64 1 a0_1))) else (none)) = some r := by rw [if_pos rfl] at H; exact H
       clear H
       have H := H1
       clear H1
       by_cases c27 : 0 ≤ a0_1
       ·rw [if_pos c27] at H
        have c27b0 := eq_true c27
        have c27b1 : decide (0 ≤ a0_1) = true := decide_eq_true c27
        clear c27
        obtain ⟨ji28, hji28⟩ : ∃ j_ : Int, (shl .i64 1 a0_1) = j_ := ⟨_, rfl⟩
        replace H : (some (Go.bits .or .i64 a1 (ji28))) = some r := by first | (rw [hji28] at H; exact H) | (simp only [hji28] at H ⊢; exact H)
        (try rw [hji28] at A24)
        (try rw [hji28] at A25)
        have hji28_ : (IntKind.i64.wrap (1 * 2 ^ min a0_1.toNat 64)) = ji28 := hji28
        have hji28z : a0_1 ≤ 64 → (IntKind.i64.wrap (1 * 2 ^ a0_1.toNat)) = ji28 := shl_small hji28
        have hji28u : (IntKind.i64.wrap (2 ^ min a0_1.toNat 64)) = ji28 := by have h_ := hji28_; rw [Int.one_mul] at h_; exact h_
        have hji28v : a0_1 ≤ 64 → (IntKind.i64.wrap (2 ^ a0_1.toNat)) = ji28 := fun hle_ => by have h_ := hji28z hle_; rw [Int.one_mul] at h_; exact h_
        have hji28y : (wrap64 (1 * 2 ^ min a0_1.toNat 64)) = ji28 := (i64_w _).symm.trans hji28_
        have hji28x : a0_1 ≤ 64 → (wrap64 (1 * 2 ^ a0_1.toNat)) = ji28 := fun h_ => (i64_w _).symm.trans (hji28z h_)
        obtain rfl := Option.some.inj H
        have hcz29_0 : wc.cell? ⟨gb410, 0, none⟩ = some (.int .i64 a0_0) := (blk_cell BK410.out 0).trans rfl
        have hcz29_1 : wc.cell? ⟨gb410, 1, none⟩ = some (.int .i64 a0_1) := (blk_cell BK410.out 1).trans rfl
        have hcz29_2 : wc.cell? ⟨gb410, 2, none⟩ = some (.int .i64 a0_2) := (blk_cell BK410.out 2).trans rfl
        have hcz29_3 : wc.cell? ⟨gb410, 3, none⟩ = some (.int .i64 a0_3) := (blk_cell BK410.out 3).trans rfl
        have hfz29_0 := blk_frozen BK410.out 0
        have hfz29_1 := blk_frozen BK410.out 1
        have hfz29_2 := blk_frozen BK410.out 2
        have hfz29_3 := blk_frozen BK410.out 3
        go_wp2_with (first | ((with_reducible refine gate_callee (f := 63) rfl ?_); refine gL (some 26) Tryz.func63 #[.agg #[.int .i64 a0_0, .int .i64 a0_1, .int .i64 a0_2, .int .i64 a0_3]] ?_; (with_reducible refine (impl_ReadsRegs.calls kj14 a0_0 a0_1 a0_2 a0_3 t412 _ A24.out).mono ?_); rintro e w30 ⟨v413, rfl, ho0, hb⟩; refine ⟨_, rfl, ?_⟩; have HO414 := Aside0.mk (Kd.R_lower ho0 (below_size bx)); replace BK410 := Aside0.mk (blk_below (g := gb410) (o := .cells #[.int .i64 a0_0, .int .i64 a0_1, .int .i64 a0_2, .int .i64 a0_3] 38 (0, 0)) (bS BK410.out) hb); replace HB := Aside0.mk (below_step bx hb); (try clear hb); (try clear ho0); obtain ⟨Ao31, co31, eo31⟩ := Kd.R_slice HO414.out; subst eo31) | ((with_reducible refine gate_callee (f := 62) rfl ?_); refine gL (some 27) Tryz.func62 #[.int .i64 a1, .slice Ao31 t412.length co31] ?_; (with_reducible refine (impl_hasAll.calls a1 _ _ t412 true _ ?side1 ?side2 A25.out).mono ?_); (case side1 => exact cS (Kd.R_reads' HO414.out).2.2); (case side2 => exact (Kd.R_reads' HO414.out).2.1); rintro e w32 ⟨rfl, hb⟩; refine ⟨_, rfl, ?_⟩; replace HO414 := Aside0.mk (Kd.R_below (rS HO414.out) hb); replace BK410 := Aside0.mk (blk_below (g := gb410) (o := .cells #[.int .i64 a0_0, .int .i64 a0_1, .int .i64 a0_2, .int .i64 a0_3] 38 (0, 0)) (bS BK410.out) hb); replace HB := Aside0.mk (below_step bx hb); (try clear hb); have hcz33_0 : w32.cell? ⟨gb410, 0, none⟩ = some (.int .i64 a0_0) := (blk_cell BK410.out 0).trans rfl; have hcz33_1 : w32.cell? ⟨gb410, 1, none⟩ = some (.int .i64 a0_1) := (blk_cell BK410.out 1).trans rfl; have hcz33_2 : w32.cell? ⟨gb410, 2, none⟩ = some (.int .i64 a0_2) := (blk_cell BK410.out 2).trans rfl; have hcz33_3 : w32.cell? ⟨gb410, 3, none⟩ = some (.int .i64 a0_3) := (blk_cell BK410.out 3).trans rfl; have hfz33_0 := blk_frozen BK410.out 0; have hfz33_1 := blk_frozen BK410.out 1; have hfz33_2 := blk_frozen BK410.out 2; have hfz33_3 := blk_frozen BK410.out 3))
        go_ret
        exact ⟨by first | rfl | (simp [errW_none, errW_some] <;> rfl) | (simp only [← hji28]; first | rfl | (simp [errW_none, errW_some] <;> rfl)) | (simp [*, errW_none, errW_some] <;> rfl), bx⟩
       ·rw [if_neg c27] at H
        exact absurd H (by simp)
      ·replace c26 := Bool.eq_false_iff.mpr c26
       subst c26
       have H1 : (if 0 ≤ a0_1 then (some (Go.bits .andNot .i64 a1 (shl .i64 1 a0_1))) else (none)) = some r := by rw [if_neg (show ¬ (false = true) by decide)] at H; exact H
       clear H
       have H := H1
       clear H1
       by_cases c34 : 0 ≤ a0_1
       ·rw [if_pos c34] at H
        have c34b0 := eq_true c34
        have c34b1 : decide (0 ≤ a0_1) = true := decide_eq_true c34
        clear c34
        obtain ⟨ji35, hji35⟩ : ∃ j_ : Int, (shl .i64 1 a0_1) = j_ := ⟨_, rfl⟩
        replace H : (some (Go.bits .andNot .i64 a1 (ji35))) = some r := by first | (rw [hji35] at H; exact H) | (simp only [hji35] at H ⊢; exact H)
        (try rw [hji35] at A24)
        (try rw [hji35] at A25)
        have hji35_ : (IntKind.i64.wrap (1 * 2 ^ min a0_1.toNat 64)) = ji35 := hji35
        have hji35z : a0_1 ≤ 64 → (IntKind.i64.wrap (1 * 2 ^ a0_1.toNat)) = ji35 := shl_small hji35
        have hji35u : (IntKind.i64.wrap (2 ^ min a0_1.toNat 64)) = ji35 := by have h_ := hji35_; rw [Int.one_mul] at h_; exact h_
        have hji35v : a0_1 ≤ 64 → (IntKind.i64.wrap (2 ^ a0_1.toNat)) = ji35 := fun hle_ => by have h_ := hji35z hle_; rw [Int.one_mul] at h_; exact h_
        have hji35y : (wrap64 (1 * 2 ^ min a0_1.toNat 64)) = ji35 := (i64_w _).symm.trans hji35_
        have hji35x : a0_1 ≤ 64 → (wrap64 (1 * 2 ^ a0_1.toNat)) = ji35 := fun h_ => (i64_w _).symm.trans (hji35z h_)
        obtain rfl := Option.some.inj H
        have hcz36_0 : wc.cell? ⟨gb410, 0, none⟩ = some (.int .i64 a0_0) := (blk_cell BK410.out 0).trans rfl
        have hcz36_1 : wc.cell? ⟨gb410, 1, none⟩ = some (.int .i64 a0_1) := (blk_cell BK410.out 1).trans rfl
        have hcz36_2 : wc.cell? ⟨gb410, 2, none⟩ = some (.int .i64 a0_2) := (blk_cell BK410.out 2).trans rfl
        have hcz36_3 : wc.cell? ⟨gb410, 3, none⟩ = some (.int .i64 a0_3) := (blk_cell BK410.out 3).trans rfl
        have hfz36_0 := blk_frozen BK410.out 0
        have hfz36_1 := blk_frozen BK410.out 1
        have hfz36_2 := blk_frozen BK410.out 2
        have hfz36_3 := blk_frozen BK410.out 3
        go_wp2_with (first | ((with_reducible refine gate_callee (f := 63) rfl ?_); refine gL (some 26) Tryz.func63 #[.agg #[.int .i64 a0_0, .int .i64 a0_1, .int .i64 a0_2, .int .i64 a0_3]] ?_; (with_reducible refine (impl_ReadsRegs.calls kj14 a0_0 a0_1 a0_2 a0_3 t412 _ A24.out).mono ?_); rintro e w37 ⟨v413, rfl, ho0, hb⟩; refine ⟨_, rfl, ?_⟩; have HO414 := Aside0.mk (Kd.R_lower ho0 (below_size bx)); replace BK410 := Aside0.mk (blk_below (g := gb410) (o := .cells #[.int .i64 a0_0, .int .i64 a0_1, .int .i64 a0_2, .int .i64 a0_3] 38 (0, 0)) (bS BK410.out) hb); replace HB := Aside0.mk (below_step bx hb); (try clear hb); (try clear ho0); obtain ⟨Ao38, co38, eo38⟩ := Kd.R_slice HO414.out; subst eo38) | ((with_reducible refine gate_callee (f := 62) rfl ?_); refine gL (some 27) Tryz.func62 #[.int .i64 a1, .slice Ao38 t412.length co38] ?_; (with_reducible refine (impl_hasAll.calls a1 _ _ t412 false _ ?side1 ?side2 A25.out).mono ?_); (case side1 => exact cS (Kd.R_reads' HO414.out).2.2); (case side2 => exact (Kd.R_reads' HO414.out).2.1); rintro e w39 ⟨rfl, hb⟩; refine ⟨_, rfl, ?_⟩; replace HO414 := Aside0.mk (Kd.R_below (rS HO414.out) hb); replace BK410 := Aside0.mk (blk_below (g := gb410) (o := .cells #[.int .i64 a0_0, .int .i64 a0_1, .int .i64 a0_2, .int .i64 a0_3] 38 (0, 0)) (bS BK410.out) hb); replace HB := Aside0.mk (below_step bx hb); (try clear hb); have hcz40_0 : w39.cell? ⟨gb410, 0, none⟩ = some (.int .i64 a0_0) := (blk_cell BK410.out 0).trans rfl; have hcz40_1 : w39.cell? ⟨gb410, 1, none⟩ = some (.int .i64 a0_1) := (blk_cell BK410.out 1).trans rfl; have hcz40_2 : w39.cell? ⟨gb410, 2, none⟩ = some (.int .i64 a0_2) := (blk_cell BK410.out 2).trans rfl; have hcz40_3 : w39.cell? ⟨gb410, 3, none⟩ = some (.int .i64 a0_3) := (blk_cell BK410.out 3).trans rfl; have hfz40_0 := blk_frozen BK410.out 0; have hfz40_1 := blk_frozen BK410.out 1; have hfz40_2 := blk_frozen BK410.out 2; have hfz40_3 := blk_frozen BK410.out 3))
        go_ret
        exact ⟨by first | rfl | (simp [errW_none, errW_some] <;> rfl) | (simp only [← hji35]; first | rfl | (simp [errW_none, errW_some] <;> rfl)) | (simp [*, errW_none, errW_some] <;> rfl), bx⟩
       ·rw [if_neg c34] at H
        exact absurd H (by simp)
     ·replace c23 := Bool.eq_false_iff.mpr c23
      subst c23
      have H1 : (if false = true then (if 0 ≤ a0_1 then (some (Go.bits .or .i64 a1 (shl .i64 1 a0_1))) else (none)) else (if 0 ≤ a0_1 then (some (Go.bits .andNot .i64 a1 (shl .i64 1 a0_1))) else (none))) = some r := by rw [if_neg (show ¬ (false = true) by decide)] at H; exact H
      clear H
      have H := H1
      clear H1
      by_cases c41 : false = true
      ·exact absurd c41 (by decide)
      ·skip
       have H1 : (if 0 ≤ a0_1 then (some (Go.bits .andNot .i64 a1 (shl .i64 1 a0_1))) else (none)) = some r := by rw [if_neg (show ¬ (false = true) by decide)] at H; exact H
       clear H
       have H := H1
       clear H1
       by_cases c45 : 0 ≤ a0_1
       ·rw [if_pos c45] at H
        have c45b0 := eq_true c45
        have c45b1 : decide (0 ≤ a0_1) = true := decide_eq_true c45
        clear c45
        obtain ⟨ji46, hji46⟩ : ∃ j_ : Int, (shl .i64 1 a0_1) = j_ := ⟨_, rfl⟩
        replace H : (some (Go.bits .andNot .i64 a1 (ji46))) = some r := by first | (rw [hji46] at H; exact H) | (simp only [hji46] at H ⊢; exact H)
        have hji46_ : (IntKind.i64.wrap (1 * 2 ^ min a0_1.toNat 64)) = ji46 := hji46
        have hji46z : a0_1 ≤ 64 → (IntKind.i64.wrap (1 * 2 ^ a0_1.toNat)) = ji46 := shl_small hji46
        have hji46u : (IntKind.i64.wrap (2 ^ min a0_1.toNat 64)) = ji46 := by have h_ := hji46_; rw [Int.one_mul] at h_; exact h_
        have hji46v : a0_1 ≤ 64 → (IntKind.i64.wrap (2 ^ a0_1.toNat)) = ji46 := fun hle_ => by have h_ := hji46z hle_; rw [Int.one_mul] at h_; exact h_
        have hji46y : (wrap64 (1 * 2 ^ min a0_1.toNat 64)) = ji46 := (i64_w _).symm.trans hji46_
        have hji46x : a0_1 ≤ 64 → (wrap64 (1 * 2 ^ a0_1.toNat)) = ji46 := fun h_ => (i64_w _).symm.trans (hji46z h_)
        obtain rfl := Option.some.inj H
        have hcz47_0 : wc.cell? ⟨gb410, 0, none⟩ = some (.int .i64 a0_0) := (blk_cell BK410.out 0).trans rfl
        have hcz47_1 : wc.cell? ⟨gb410, 1, none⟩ = some (.int .i64 a0_1) := (blk_cell BK410.out 1).trans rfl
        have hcz47_2 : wc.cell? ⟨gb410, 2, none⟩ = some (.int .i64 a0_2) := (blk_cell BK410.out 2).trans rfl
        have hcz47_3 : wc.cell? ⟨gb410, 3, none⟩ = some (.int .i64 a0_3) := (blk_cell BK410.out 3).trans rfl
        have hfz47_0 := blk_frozen BK410.out 0
        have hfz47_1 := blk_frozen BK410.out 1
        have hfz47_2 := blk_frozen BK410.out 2
        have hfz47_3 := blk_frozen BK410.out 3
        go_wp2
        go_ret
        exact ⟨by first | rfl | (simp [errW_none, errW_some] <;> rfl) | (simp only [← hji46]; first | rfl | (simp [errW_none, errW_some] <;> rfl)) | (simp [*, errW_none, errW_some] <;> rfl), bx⟩
       ·rw [if_neg c45] at H
        exact absurd H (by simp)

end Go.Proofs.YtdppehpcpofeoaaGreat.PFnExactUniformAt
