-- Written by myprint.py (a program of this session, over the kit's print): not trusted, Lean checks it.
import Derived.Test.YtbgpnendblmdaaaPFnJoinsx0
import Derived.Test.YtbgpnendblmdaaaPFnJoinsx3
namespace Go.Proofs.Ytbgpnendblmdaaa.PFnJoins
open Go.RowKit Go.Proofs.YtbgpnendblmdaaaW.PrintWords Go.Proofs.YtbgpnendblmdaaaW.PrintLast Go.Proofs.YtbgpnendblmdaaaW.PrintMore
attribute [local go_sem] max2_int min2_int max_two min_two max_three min_three max_four min_four   -- for this text's walks alone
set_option linter.unusedVariables false
set_option linter.unusedSimpArgs false

/-! ### impl_reachesExit: function 54 -/
def impl_reachesExit.f (k : Nat) (l0 : List (S53)) (a1 : Int) : Option (Bool) := (impl_reached.f k l0 (([a1] : List Int)) (-1)).bind fun t240 => (if 0 ≤ (l0.length : Int) then (if (l0.length : Int) < (t240.length : Int) then (some (rdOf false t240 (l0.length : Int))) else (none)) else (none))
theorem impl_reachesExit.mono : ∀ a0 a1 k, LeO (impl_reachesExit.f k a0 a1) (impl_reachesExit.f (k + 1) a0 a1) := by
 intro a0 a1 k
 unfold impl_reachesExit.f
 repeat' first
   | (with_reducible exact impl_reached.mono _ _ _ _)
   | (with_reducible exact LeO.refl _)
   | (with_reducible exact LeO.none _)
   | (with_reducible refine LeO.ite ?_ ?_)
   | (with_reducible refine LeO.bind ?_ (fun _ => ?_))
   | exact impl_reached.mono _ _ _ _
   | exact LeO.none _
   | refine LeO.ite ?_ ?_
   | refine LeO.bind ?_ (fun _ => ?_)
set_option maxHeartbeats 8000000 in
set_option maxRecDepth 100000 in
theorem impl_reachesExit.calls (k : Nat) (A0 : Option Addr) (c0 : Nat) (l0 : List (S53)) (a1 : Int) (r : Bool) (w : World) (hr0 : Kd.C k53 w A0 l0.length l0) (hc0 : l0.length ≤ c0) (h : impl_reachesExit.f k l0 a1 = some r) :
  Calls Try.prog 54 #[.slice A0 l0.length c0, .int .i64 a1] w fun e w' => e = .returned (.bool r) ∧ Below w.heap.size w w' := by
 have HR0 := Aside0.mk hr0
 have HC0 := Aside0.mk hc0
 clear hr0 hc0
 have HB := Aside0.mk (Below.refl w.heap.size w)
 have H : ((impl_reached.f k l0 (([a1] : List Int)) (-1)).bind fun t240 => (if 0 ≤ (l0.length : Int) then (if (l0.length : Int) < (t240.length : Int) then (some (rdOf false t240 (l0.length : Int))) else (none)) else (none))) = some r := h
 clear h
 obtain ⟨y237, hy237⟩ : ∃ y_ : List Int, y_ = (([a1] : List Int)) := ⟨_, rfl⟩
 replace H : ((impl_reached.f k l0 y237 (-1)).bind fun t240 => (if 0 ≤ (l0.length : Int) then (if (l0.length : Int) < (t240.length : Int) then (some (rdOf false t240 (l0.length : Int))) else (none)) else (none))) = some r := rP hy237 H
 have Ny237 := Aside0.mk hy237
 clear hy237
 replace H := Option.bind_eq_some_iff.mp H
 obtain ⟨t240, A30, H⟩ := H
 replace H : (if 0 ≤ (l0.length : Int) then (if (l0.length : Int) < (t240.length : Int) then (some (rdOf false t240 (l0.length : Int))) else (none)) else (none)) = some r := H
 have A3 := Aside0.mk A30
 clear A30
 by_cases c4 : 0 ≤ (l0.length : Int)
 ·rw [if_pos c4] at H
  have c4b0 : decide (0 ≤ (l0.length : Int)) = true := decide_eq_true c4
  have c4b1 : decide (0 ≤ l0.length) = true := decide_eq_true (by omega)
  clear c4
  by_cases c5 : (l0.length : Int) < (t240.length : Int)
  ·rw [if_pos c5] at H
   have c5b0 : decide ((l0.length : Int) < (t240.length : Int)) = true := decide_eq_true c5
   have c5b1 : decide (l0.length < t240.length) = true := decide_eq_true (Int.ofNat_lt.mp c5)
   clear c5
   obtain rfl := Option.some.inj H
   go_enter Try.func54, Try.ntmps54
   go_wp2_with (first | ((with_reducible refine gate_dst (N := 7) rfl ?_); refine Kd.R_lit (Kd.int .i64) _ 3 ?hg (N := 7) ?hd (xs := ([a1] : List Int)) (inner := [.int .i64 a1]) (ok := fun _ => True) (okp := fun _ => True) ?hr ?hp (fun _ hk => hk) trivial (Below.refl _ _) (Nat.le_refl _) (by simp) ?_; (case hd => rfl); (case hg => rfl); (case hr => first | (go_simp; done) | (go_simp; rfl)); (case hp => exact (Reps.one (show Kd.M (Kd.int .i64) _ _ _ a1 [.int .i64 a1] from rfl) (Reps.none _ _))); intro v238 w6 ho7 hb hg_ hnew_; clear hg_ hnew_; (first | rw [← Ny237.out] at ho7 | (simp only [Int.reduceToNat] at ho7; rw [← Ny237.out] at ho7)); have HO239 := Aside0.mk (Kd.R_lower ho7 (below_size bw)); replace HB := Aside0.mk (below_step bw hb); clear hb ho7; obtain ⟨Ao8, co8, eo8⟩ := Kd.R_slice HO239.out; subst eo8) | ((with_reducible refine gate_callee (f := 53) rfl ?_); refine gL (some 8) Try.func53 #[.slice A0 l0.length c0, .slice Ao8 y237.length co8, .int .i64 (-1)] ?_; (with_reducible refine (impl_reached.calls k _ _ l0 _ _ y237 (-1) t240 _ ?side1 ?side2 ?side3 ?side4 A3.out).mono ?_); (case side1 => repeat (first | exact (Kd.C_below HR0.out HB.out) | (with_reducible refine Kd.C_alloc ?_ _) | (with_reducible refine Kd.C_drewN ?_ _) | (with_reducible refine Kd.C_drew ?_))); (case side2 => exact HC0.out); (case side3 => exact cS (Kd.R_reads' HO239.out).2.2); (case side4 => exact (Kd.R_reads' HO239.out).2.1); rintro e w9 ⟨v241, rfl, ho0, hb⟩; refine ⟨_, rfl, ?_⟩; replace HO239 := Aside0.mk (Kd.R_below (rS HO239.out) hb); have HO242 := Aside0.mk (Kd.R_lower ho0 (below_size bw)); replace HB := Aside0.mk (below_step bw hb); (try clear hb); (try clear ho0); obtain ⟨Ao10, co10, eo10⟩ := Kd.R_slice HO242.out; subst eo10; have p243 : 0 ≤ ((l0.length : Int) : Int) := dT; have q243 : (l0.length : Int) < (t240.length : Int) := dT; obtain ⟨ad243, e243, hx243_0⟩ := Kd.at_bool (Kd.R_reads' HO242.out).2.2 (l0.length : Int) p243 q243; cases e243; (try simp only [Go.IntWalk.toNatUp] at hx243_0); replace p243 := eq_true p243; replace q243 := eq_true q243))
   go_ret
   exact ⟨eR, bw⟩
  ·rw [if_neg c5] at H
   exact absurd H (by simp)
 ·rw [if_neg c4] at H
  exact absurd H (by simp)

/-! ### impl_isAfter: function 56 -/
def impl_isAfter.f (k : Nat) (l0 : List (S53)) (a1 : Int) (a2 : Int) : Option (Bool) := (impl_reachesExit.f k l0 a1).bind fun t244 => (if t244 = true then ((impl_reached.f k l0 (([a1] : List Int)) a2).bind fun t248 => (if 0 ≤ (l0.length : Int) then (if (l0.length : Int) < (t248.length : Int) then (some (!(rdOf false t248 (l0.length : Int)))) else (none)) else (none))) else (some false))
theorem impl_isAfter.mono : ∀ a0 a1 a2 k, LeO (impl_isAfter.f k a0 a1 a2) (impl_isAfter.f (k + 1) a0 a1 a2) := by
 intro a0 a1 a2 k
 unfold impl_isAfter.f
 repeat' first
   | (with_reducible exact impl_reached.mono _ _ _ _)
   | (with_reducible exact impl_reachesExit.mono _ _ _)
   | (with_reducible exact LeO.refl _)
   | (with_reducible exact LeO.none _)
   | (with_reducible refine LeO.ite ?_ ?_)
   | (with_reducible refine LeO.bind ?_ (fun _ => ?_))
   | exact impl_reached.mono _ _ _ _
   | exact impl_reachesExit.mono _ _ _
   | exact LeO.none _
   | refine LeO.ite ?_ ?_
   | refine LeO.bind ?_ (fun _ => ?_)
set_option maxHeartbeats 8000000 in
set_option maxRecDepth 100000 in
theorem impl_isAfter.calls (k : Nat) (A0 : Option Addr) (c0 : Nat) (l0 : List (S53)) (a1 : Int) (a2 : Int) (r : Bool) (w : World) (hr0 : Kd.C k53 w A0 l0.length l0) (hc0 : l0.length ≤ c0) (h : impl_isAfter.f k l0 a1 a2 = some r) :
  Calls Try.prog 56 #[.slice A0 l0.length c0, .int .i64 a1, .int .i64 a2] w fun e w' => e = .returned (.bool r) ∧ Below w.heap.size w w' := by
 have HR0 := Aside0.mk hr0
 have HC0 := Aside0.mk hc0
 clear hr0 hc0
 have HB := Aside0.mk (Below.refl w.heap.size w)
 have H : ((impl_reachesExit.f k l0 a1).bind fun t244 => (if t244 = true then ((impl_reached.f k l0 (([a1] : List Int)) a2).bind fun t248 => (if 0 ≤ (l0.length : Int) then (if (l0.length : Int) < (t248.length : Int) then (some (!(rdOf false t248 (l0.length : Int)))) else (none)) else (none))) else (some false))) = some r := h
 clear h
 replace H := Option.bind_eq_some_iff.mp H
 obtain ⟨t244, A40, H⟩ := H
 replace H : (if t244 = true then ((impl_reached.f k l0 (([a1] : List Int)) a2).bind fun t248 => (if 0 ≤ (l0.length : Int) then (if (l0.length : Int) < (t248.length : Int) then (some (!(rdOf false t248 (l0.length : Int)))) else (none)) else (none))) else (some false)) = some r := H
 have A4 := Aside0.mk A40
 clear A40
 by_cases c5 : t244 = true
 ·subst c5
  have H1 : ((impl_reached.f k l0 (([a1] : List Int)) a2).bind fun t248 => (if 0 ≤ (l0.length : Int) then (if (l0.length : Int) < (t248.length : Int) then (some (!(rdOf false t248 (l0.length : Int)))) else (none)) else (none))) = some r := by rw [if_pos rfl] at H; exact H
  clear H
  have H := H1
  clear H1
  obtain ⟨y245, hy245⟩ : ∃ y_ : List Int, y_ = (([a1] : List Int)) := ⟨_, rfl⟩
  replace H : ((impl_reached.f k l0 y245 a2).bind fun t248 => (if 0 ≤ (l0.length : Int) then (if (l0.length : Int) < (t248.length : Int) then (some (!(rdOf false t248 (l0.length : Int)))) else (none)) else (none))) = some r := rP hy245 H
  have Ny245 := Aside0.mk hy245
  clear hy245
  replace H := Option.bind_eq_some_iff.mp H
  obtain ⟨t248, A60, H⟩ := H
  replace H : (if 0 ≤ (l0.length : Int) then (if (l0.length : Int) < (t248.length : Int) then (some (!(rdOf false t248 (l0.length : Int)))) else (none)) else (none)) = some r := H
  have A6 := Aside0.mk A60
  clear A60
  by_cases c7 : 0 ≤ (l0.length : Int)
  ·rw [if_pos c7] at H
   have c7b0 : decide (0 ≤ (l0.length : Int)) = true := decide_eq_true c7
   have c7b1 : decide (0 ≤ l0.length) = true := decide_eq_true (by omega)
   clear c7
   by_cases c8 : (l0.length : Int) < (t248.length : Int)
   ·rw [if_pos c8] at H
    have c8b0 : decide ((l0.length : Int) < (t248.length : Int)) = true := decide_eq_true c8
    have c8b1 : decide (l0.length < t248.length) = true := decide_eq_true (Int.ofNat_lt.mp c8)
    clear c8
    obtain rfl := Option.some.inj H
    go_enter Try.func56, Try.ntmps56
    go_wp2_with (first | ((with_reducible refine gate_callee (f := 54) rfl ?_); refine gL (some 9) Try.func54 #[.slice A0 l0.length c0, .int .i64 a1] ?_; (with_reducible refine (impl_reachesExit.calls k _ _ l0 a1 true _ ?side1 ?side2 A4.out).mono ?_); (case side1 => exact cS HR0.out); (case side2 => exact HC0.out); rintro e w9 ⟨rfl, hb⟩; refine ⟨_, rfl, ?_⟩; replace HB := Aside0.mk (below_step bw hb); (try clear hb)) | ((with_reducible refine gate_dst (N := 13) rfl ?_); (try (refine gate_guard (by rfl) ?_; dsimp only)); refine Kd.R_lit (Kd.int .i64) _ 3 ?hg (N := 13) ?hd (xs := ([a1] : List Int)) (inner := [.int .i64 a1]) (ok := fun _ => True) (okp := fun _ => True) ?hr ?hp (fun _ hk => hk) trivial (Below.refl _ _) (Nat.le_refl _) (by simp) ?_; (case hd => rfl); (case hg => rfl); (case hr => first | (go_simp; done) | (go_simp; rfl)); (case hp => exact (Reps.one (show Kd.M (Kd.int .i64) _ _ _ a1 [.int .i64 a1] from rfl) (Reps.none _ _))); intro v246 w10 ho11 hb hg_ hnew_; clear hg_ hnew_; (first | rw [← Ny245.out] at ho11 | (simp only [Int.reduceToNat] at ho11; rw [← Ny245.out] at ho11)); have HO247 := Aside0.mk (Kd.R_lower ho11 (below_size bw)); replace HB := Aside0.mk (below_step bw hb); clear hb ho11; obtain ⟨Ao12, co12, eo12⟩ := Kd.R_slice HO247.out; subst eo12) | (go_at_call 53; (with_reducible refine (impl_reached.calls k _ _ l0 _ _ y245 a2 t248 _ ?side1 ?side2 ?side3 ?side4 A6.out).mono ?_); (case side1 => repeat (first | exact (Kd.C_below HR0.out HB.out) | (with_reducible refine Kd.C_alloc ?_ _) | (with_reducible refine Kd.C_drewN ?_ _) | (with_reducible refine Kd.C_drew ?_))); (case side2 => exact HC0.out); (case side3 => exact cS (Kd.R_reads' HO247.out).2.2); (case side4 => exact (Kd.R_reads' HO247.out).2.1); rintro e w13 ⟨v249, rfl, ho0, hb⟩; replace HO247 := Aside0.mk (Kd.R_below (rS HO247.out) hb); have HO250 := Aside0.mk (Kd.R_lower ho0 (below_size bw)); replace HB := Aside0.mk (below_step bw hb); (try clear hb); (try clear ho0); obtain ⟨Ao14, co14, eo14⟩ := Kd.R_slice HO250.out; subst eo14; have p251 : 0 ≤ ((l0.length : Int) : Int) := dT; have q251 : (l0.length : Int) < (t248.length : Int) := dT; obtain ⟨ad251, e251, hx251_0⟩ := Kd.at_bool (Kd.R_reads' HO250.out).2.2 (l0.length : Int) p251 q251; cases e251; (try simp only [Go.IntWalk.toNatUp] at hx251_0); replace p251 := eq_true p251; replace q251 := eq_true q251))
    go_ret
    exact ⟨eR, bw⟩
   ·rw [if_neg c8] at H
    exact absurd H (by simp)
  ·rw [if_neg c7] at H
   exact absurd H (by simp)
 ·replace c5 := Bool.eq_false_iff.mpr c5
  subst c5
  have H1 : (some false) = some r := by rw [if_neg (show ¬ (false = true) by decide)] at H; exact H
  clear H
  have H := H1
  clear H1
  obtain rfl := Option.some.inj H
  go_enter Try.func56, Try.ntmps56
  go_wp2_with (first | ((with_reducible refine gate_callee (f := 54) rfl ?_); refine gL (some 9) Try.func54 #[.slice A0 l0.length c0, .int .i64 a1] ?_; (with_reducible refine (impl_reachesExit.calls k _ _ l0 a1 false _ ?side1 ?side2 A4.out).mono ?_); (case side1 => exact cS HR0.out); (case side2 => exact HC0.out); rintro e w15 ⟨rfl, hb⟩; refine ⟨_, rfl, ?_⟩; replace HB := Aside0.mk (below_step bw hb); (try clear hb)))
  go_ret
  exact ⟨eR, bw⟩

/-! ### impl_IsAfter: function 25 -/
def impl_IsAfter.f (k : Nat) (l0 : List (S53)) (a1 : Int) (a2 : Int) : Option (Bool) := (impl_isNode.f l0 a1).bind fun t252 => (if t252 = true then ((impl_isNode.f l0 a2).bind fun t253 => (if t253 = true then ((impl_isAfter.f k l0 a1 a2).bind fun t254 => (some t254)) else (some false))) else (some false))
theorem impl_IsAfter.mono : ∀ a0 a1 a2 k, LeO (impl_IsAfter.f k a0 a1 a2) (impl_IsAfter.f (k + 1) a0 a1 a2) := by
 intro a0 a1 a2 k
 unfold impl_IsAfter.f
 repeat' first
   | (with_reducible exact impl_isAfter.mono _ _ _ _)
   | (with_reducible exact LeO.refl _)
   | (with_reducible exact LeO.none _)
   | (with_reducible refine LeO.ite ?_ ?_)
   | (with_reducible refine LeO.bind ?_ (fun _ => ?_))
   | exact impl_isAfter.mono _ _ _ _
   | exact LeO.none _
   | refine LeO.ite ?_ ?_
   | refine LeO.bind ?_ (fun _ => ?_)
set_option maxHeartbeats 8000000 in
set_option maxRecDepth 100000 in
theorem impl_IsAfter.calls (k : Nat) (A0 : Option Addr) (c0 : Nat) (l0 : List (S53)) (a1 : Int) (a2 : Int) (r : Bool) (w : World) (hr0 : Kd.C k53 w A0 l0.length l0) (hc0 : l0.length ≤ c0) (h : impl_IsAfter.f k l0 a1 a2 = some r) :
  Calls Try.prog 25 #[.slice A0 l0.length c0, .int .i64 a1, .int .i64 a2] w fun e w' => e = .returned (.bool r) ∧ Below w.heap.size w w' := by
 have HR0 := Aside0.mk hr0
 have HC0 := Aside0.mk hc0
 clear hr0 hc0
 have HB := Aside0.mk (Below.refl w.heap.size w)
 have H : ((impl_isNode.f l0 a1).bind fun t252 => (if t252 = true then ((impl_isNode.f l0 a2).bind fun t253 => (if t253 = true then ((impl_isAfter.f k l0 a1 a2).bind fun t254 => (some t254)) else (some false))) else (some false))) = some r := h
 clear h
 replace H := Option.bind_eq_some_iff.mp H
 obtain ⟨t252, A40, H⟩ := H
 replace H : (if t252 = true then ((impl_isNode.f l0 a2).bind fun t253 => (if t253 = true then ((impl_isAfter.f k l0 a1 a2).bind fun t254 => (some t254)) else (some false))) else (some false)) = some r := H
 have A4 := Aside0.mk A40
 clear A40
 by_cases c5 : t252 = true
 ·subst c5
  have H1 : ((impl_isNode.f l0 a2).bind fun t253 => (if t253 = true then ((impl_isAfter.f k l0 a1 a2).bind fun t254 => (some t254)) else (some false))) = some r := by rw [if_pos rfl] at H; exact H
  clear H
  have H := H1
  clear H1
  replace H := Option.bind_eq_some_iff.mp H
  obtain ⟨t253, A60, H⟩ := H
  replace H : (if t253 = true then ((impl_isAfter.f k l0 a1 a2).bind fun t254 => (some t254)) else (some false)) = some r := H
  have A6 := Aside0.mk A60
  clear A60
  by_cases c7 : t253 = true
  ·subst c7
   have H1 : ((impl_isAfter.f k l0 a1 a2).bind fun t254 => (some t254)) = some r := by rw [if_pos rfl] at H; exact H
   clear H
   have H := H1
   clear H1
   replace H := Option.bind_eq_some_iff.mp H
   obtain ⟨t254, A80, H⟩ := H
   replace H : (some t254) = some r := H
   have A8 := Aside0.mk A80
   clear A80
   obtain rfl := Option.some.inj H
   go_enter Try.func25, Try.ntmps25
   go_wp2_with (first | ((with_reducible refine gate_callee (f := 50) rfl ?_); refine gL (some 9) Try.func50 #[.slice A0 l0.length c0, .int .i64 a1] ?_; (with_reducible refine (impl_isNode.calls _ _ l0 a1 true _ ?side1 ?side2 A4.out).mono ?_); (case side1 => exact cS HR0.out); (case side2 => exact HC0.out); rintro e w9 ⟨rfl, hb⟩; refine ⟨_, rfl, ?_⟩; replace HB := Aside0.mk (below_step bw hb); (try clear hb)) | (go_at_call 50; (with_reducible refine (impl_isNode.calls _ _ l0 a2 true _ ?side1 ?side2 A6.out).mono ?_); (case side1 => repeat (first | exact (Kd.C_below HR0.out HB.out) | (with_reducible refine Kd.C_alloc ?_ _) | (with_reducible refine Kd.C_drewN ?_ _) | (with_reducible refine Kd.C_drew ?_))); (case side2 => exact HC0.out); rintro e w10 ⟨rfl, hb⟩; replace HB := Aside0.mk (below_step bw hb); (try clear hb)) | (go_at_call 56; (with_reducible refine (impl_isAfter.calls k _ _ l0 a1 a2 t254 _ ?side1 ?side2 A8.out).mono ?_); (case side1 => repeat (first | exact (Kd.C_below HR0.out HB.out) | (with_reducible refine Kd.C_alloc ?_ _) | (with_reducible refine Kd.C_drewN ?_ _) | (with_reducible refine Kd.C_drew ?_))); (case side2 => exact HC0.out); rintro e w11 ⟨rfl, hb⟩; replace HB := Aside0.mk (below_step bw hb); (try clear hb)))
   go_ret
   exact ⟨eR, bw⟩
  ·replace c7 := Bool.eq_false_iff.mpr c7
   subst c7
   have H1 : (some false) = some r := by rw [if_neg (show ¬ (false = true) by decide)] at H; exact H
   clear H
   have H := H1
   clear H1
   obtain rfl := Option.some.inj H
   go_enter Try.func25, Try.ntmps25
   go_wp2_with (first | ((with_reducible refine gate_callee (f := 50) rfl ?_); refine gL (some 9) Try.func50 #[.slice A0 l0.length c0, .int .i64 a1] ?_; (with_reducible refine (impl_isNode.calls _ _ l0 a1 true _ ?side1 ?side2 A4.out).mono ?_); (case side1 => exact cS HR0.out); (case side2 => exact HC0.out); rintro e w12 ⟨rfl, hb⟩; refine ⟨_, rfl, ?_⟩; replace HB := Aside0.mk (below_step bw hb); (try clear hb)) | (go_at_call 50; (with_reducible refine (impl_isNode.calls _ _ l0 a2 false _ ?side1 ?side2 A6.out).mono ?_); (case side1 => repeat (first | exact (Kd.C_below HR0.out HB.out) | (with_reducible refine Kd.C_alloc ?_ _) | (with_reducible refine Kd.C_drewN ?_ _) | (with_reducible refine Kd.C_drew ?_))); (case side2 => exact HC0.out); rintro e w13 ⟨rfl, hb⟩; replace HB := Aside0.mk (below_step bw hb); (try clear hb)))
   go_ret
   exact ⟨eR, bw⟩
 ·replace c5 := Bool.eq_false_iff.mpr c5
  subst c5
  have H1 : (some false) = some r := by rw [if_neg (show ¬ (false = true) by decide)] at H; exact H
  clear H
  have H := H1
  clear H1
  obtain rfl := Option.some.inj H
  go_enter Try.func25, Try.ntmps25
  go_wp2_with (first | ((with_reducible refine gate_callee (f := 50) rfl ?_); refine gL (some 9) Try.func50 #[.slice A0 l0.length c0, .int .i64 a1] ?_; (with_reducible refine (impl_isNode.calls _ _ l0 a1 false _ ?side1 ?side2 A4.out).mono ?_); (case side1 => exact cS HR0.out); (case side2 => exact HC0.out); rintro e w14 ⟨rfl, hb⟩; refine ⟨_, rfl, ?_⟩; replace HB := Aside0.mk (below_step bw hb); (try clear hb)))
  go_ret
  exact ⟨eR, bw⟩

/-! ### impl_AftersOf: function 33 -/
def impl_AftersOf.l0 : Nat → List (S53) → Int → List Int → Int → Int → Option (List Int)
 | 0, _, _, _, _, _ => none
 | k + 1, x0, x1, x5, x10, x11 => if x11 < x10 then ((impl_IsAfter.f k x0 x1 x11).bind fun t258 => (if t258 = true then (if x5.length < 17592186044416 then (impl_AftersOf.l0 k x0 x1 (x5 ++ [x11]) x10 (wrap64 (x11 + 1))) else (none)) else (impl_AftersOf.l0 k x0 x1 x5 x10 (wrap64 (x11 + 1))))) else (some x5)
def impl_AftersOf.f (k : Nat) (l0 : List (S53)) (a1 : Int) : Option (List Int) := impl_AftersOf.l0 k l0 a1 (([] : List Int)) (wrap64 ((l0.length : Int) + 1)) 0
theorem impl_AftersOf.mono_l : ∀ k, (∀ y0 y1 y2 y3 y4, LeO (impl_AftersOf.l0 k y0 y1 y2 y3 y4) (impl_AftersOf.l0 (k + 1) y0 y1 y2 y3 y4))
 | 0 => fun _ _ _ _ _ r h => by simp [impl_AftersOf.l0] at h
 | k + 1 => by
  have ih0 := impl_AftersOf.mono_l k
  ·intro y0 y1 y2 y3 y4
   unfold impl_AftersOf.l0
   repeat' first
   | (with_reducible exact ih0 _ _ _ _ _)
   | (with_reducible exact impl_IsAfter.mono _ _ _ _)
   | (with_reducible exact LeO.refl _)
   | (with_reducible exact LeO.none _)
   | (with_reducible refine LeO.ite ?_ ?_)
   | (with_reducible refine LeO.bind ?_ (fun _ => ?_))
   | exact ih0 _ _ _ _ _
   | exact impl_IsAfter.mono _ _ _ _
   | exact LeO.none _
   | refine LeO.ite ?_ ?_
   | refine LeO.bind ?_ (fun _ => ?_)
theorem impl_AftersOf.mono : ∀ a0 a1 k, LeO (impl_AftersOf.f k a0 a1) (impl_AftersOf.f (k + 1) a0 a1) := by
 intro a0 a1 k
 have ih0 := impl_AftersOf.mono_l k
 unfold impl_AftersOf.f
 repeat' first
   | (with_reducible exact ih0 _ _ _ _ _)
   | (with_reducible exact impl_IsAfter.mono _ _ _ _)
   | (with_reducible exact LeO.refl _)
   | (with_reducible exact LeO.none _)
   | (with_reducible refine LeO.ite ?_ ?_)
   | (with_reducible refine LeO.bind ?_ (fun _ => ?_))
   | exact ih0 _ _ _ _ _
   | exact impl_IsAfter.mono _ _ _ _
   | exact LeO.none _
   | refine LeO.ite ?_ ?_
   | refine LeO.bind ?_ (fun _ => ?_)
set_option maxHeartbeats 8000000 in
set_option maxRecDepth 100000 in
theorem impl_AftersOf.calls (k : Nat) (A0 : Option Addr) (c0 : Nat) (l0 : List (S53)) (a1 : Int) (r : List Int) (w : World) (hr0 : Kd.C k53 w A0 l0.length l0) (hc0 : l0.length ≤ c0) (h : impl_AftersOf.f k l0 a1 = some r) :
  Calls Try.prog 33 #[.slice A0 l0.length c0, .int .i64 a1] w fun e w' => ∃ v0_ : Value, e = .returned (v0_) ∧ Kd.R (Kd.int .i64) 3 w' w.heap.size (fun _ => True) v0_ r ∧ Below w.heap.size w w' := by
 have HR0 := Aside0.mk hr0
 have HC0 := Aside0.mk hc0
 clear hr0 hc0
 have HB := Aside0.mk (Below.refl w.heap.size w)
 have H : (impl_AftersOf.l0 k l0 a1 (([] : List Int)) (wrap64 ((l0.length : Int) + 1)) 0) = some r := h
 clear h
 obtain ⟨y255, hy255⟩ : ∃ y_ : List Int, y_ = (([] : List Int)) := ⟨_, rfl⟩
 replace H : (impl_AftersOf.l0 k l0 a1 y255 (wrap64 ((l0.length : Int) + 1)) 0) = some r := rP hy255 H
 have Ny255 := Aside0.mk hy255
 clear hy255
 have H' := Aside0.mk H
 clear H
 go_enter Try.func33, Try.ntmps33
 go_wp2_with (first | ((with_reducible refine gate_dst (N := 7) rfl ?_); refine Kd.R_lit (Kd.int .i64) _ 3 ?hg (N := 7) ?hd (xs := ([] : List Int)) (inner := []) (ok := fun _ => True) (okp := fun _ => True) ?hr ?hp (fun _ hk => hk) trivial (Below.refl _ _) (Nat.le_refl _) (by simp) ?_; (case hd => rfl); (case hg => rfl); (case hr => first | (go_simp; done) | (go_simp; rfl)); (case hp => exact (Reps.none _ _)); intro v256 w3 ho4 hb hg_ hnew_; clear hg_ hnew_; (first | rw [← Ny255.out] at ho4 | (simp only [Int.reduceToNat] at ho4; rw [← Ny255.out] at ho4)); have HO257 := Aside0.mk (Kd.R_lower ho4 (below_size bw)); replace HB := Aside0.mk (below_step bw hb); clear hb ho4))
 go_loopg [5, 11] k (fun kq v5 v11 w' => ∃ (x5_1 : List Int) (x11_1 : Int), v11 = .int .i64 x11_1 ∧ Aside0 (impl_AftersOf.l0 kq l0 a1 x5_1 (wrap64 ((l0.length : Int) + 1)) x11_1 = some r) ∧ Aside0 (kq ≤ k) ∧ Aside0 (Kd.R (Kd.int .i64) 3 w' w.heap.size (fun _ => True) v5 x5_1) ∧ Aside0 (Below w.heap.size w w'))
 case atStart => exact ⟨(y255), (0), tR, H', ⟨Nat.le_refl _⟩, ⟨rS HO257.out⟩, ⟨bw⟩⟩
 case round =>
  clear H'
  try clear p2;try clear c3
  obtain ⟨x5_1, x11_1, rfl, HA, HK1, HO_5, HB⟩ := hrel
  cases gk with
  | zero => exact absurd HA.out (by simp [impl_AftersOf.l0])
  | succ k1 =>
   have H := HA.out
   clear HA
   simp only [impl_AftersOf.l0] at H
   by_cases c5 : x11_1 < (wrap64 ((l0.length : Int) + 1))
   ·rw [if_pos c5] at H
    have c5b0 : decide (x11_1 < (wrap64 ((l0.length : Int) + 1))) = true := decide_eq_true c5
    clear c5
    replace H := Option.bind_eq_some_iff.mp H
    obtain ⟨t258, A60, H⟩ := H
    replace H : (if t258 = true then (if x5_1.length < 17592186044416 then (impl_AftersOf.l0 k1 l0 a1 (x5_1 ++ [x11_1]) (wrap64 ((l0.length : Int) + 1)) (wrap64 (x11_1 + 1))) else (none)) else (impl_AftersOf.l0 k1 l0 a1 x5_1 (wrap64 ((l0.length : Int) + 1)) (wrap64 (x11_1 + 1)))) = some r := H
    have A6 := Aside0.mk A60
    clear A60
    by_cases c7 : t258 = true
    ·subst c7
     have H1 : (if x5_1.length < 17592186044416 then (impl_AftersOf.l0 k1 l0 a1 (x5_1 ++ [x11_1]) (wrap64 ((l0.length : Int) + 1)) (wrap64 (x11_1 + 1))) else (none)) = some r := by rw [if_pos rfl] at H; exact H
     clear H
     have H := H1
     clear H1
     by_cases c8 : x5_1.length < 17592186044416
     ·rw [if_pos c8] at H
      have LMc8 := Aside0.mk c8
      clear c8
      obtain ⟨y259, hy259⟩ : ∃ y_ : List Int, y_ = (x5_1 ++ [x11_1]) := ⟨_, rfl⟩
      replace H : (impl_AftersOf.l0 k1 l0 a1 y259 (wrap64 ((l0.length : Int) + 1)) (wrap64 (x11_1 + 1))) = some r := rP hy259 H
      have Ny259 := Aside0.mk hy259
      clear hy259
      have H' := Aside0.mk H
      clear H
      go_wp2_with (first | ((with_reducible refine gate_callee (f := 25) rfl ?_); refine gL (some 17) Try.func25 #[.slice A0 l0.length c0, .int .i64 a1, .int .i64 x11_1] ?_; (with_reducible refine (impl_IsAfter.calls k1 _ _ l0 a1 x11_1 true _ ?side1 ?side2 A6.out).mono ?_); (case side1 => repeat (first | exact (Kd.C_below HR0.out HB.out) | (with_reducible refine Kd.C_alloc ?_ _) | (with_reducible refine Kd.C_drewN ?_ _) | (with_reducible refine Kd.C_drew ?_))); (case side2 => exact HC0.out); rintro e w9 ⟨rfl, hb⟩; refine ⟨_, rfl, ?_⟩; replace HO_5 := Aside0.mk (Kd.R_below (rS HO_5.out) hb); replace HB := Aside0.mk (below_step bw hb); (try clear hb)) | ((with_reducible refine gate_builtin (b := .append) (xs := #[.tmp 18, .tmp 20]) rfl ?_); at_builtin; refine Kd.R_append (Kd.int .i64) (w0 := w) w.heap.size rfl (.tmp 18) (.tmp 20) 26 3 (.int .i64 0) 8 rfl Try.underlying26 info3 rfl (by decide) (by omega) u5 x5_1 x11_1 [.int .i64 x11_1] (fun _ => True) (fun _ => False) rfl rfl ?aP (fun _ hk => hk.elim) ?aF ?aO ?aB ?aS ?aL ?_; (case aP => exact rfl); (case aB => exact bw); (case aF => exact (fun _ _ => trivial)); (case aO => exact (rS HO_5.out)); (case aS => exact (below_size bw)); (case aL => have := LMc8.out; omega); intro v260 w10 ho hb hg hat; rw [← Ny259.out] at ho; replace HB := Aside0.mk (hb); have HO261 := Aside0.mk (ho); clear HO_5; clear ho hb hg hat))
      go_roundg k1
      case measure => have := HK1.out; omega
      case rel => exact ⟨(y259), (wrap64 (x11_1 + 1)), tR, H', ⟨by have := HK1.out; omega⟩, ⟨rS HO261.out⟩, ⟨bw⟩⟩
     ·rw [if_neg c8] at H
      exact absurd H (by simp)
    ·replace c7 := Bool.eq_false_iff.mpr c7
     subst c7
     have H1 : (impl_AftersOf.l0 k1 l0 a1 x5_1 (wrap64 ((l0.length : Int) + 1)) (wrap64 (x11_1 + 1))) = some r := by rw [if_neg (show ¬ (false = true) by decide)] at H; exact H
     clear H
     have H := H1
     clear H1
     have H' := Aside0.mk H
     clear H
     go_wp2_with (first | ((with_reducible refine gate_callee (f := 25) rfl ?_); refine gL (some 17) Try.func25 #[.slice A0 l0.length c0, .int .i64 a1, .int .i64 x11_1] ?_; (with_reducible refine (impl_IsAfter.calls k1 _ _ l0 a1 x11_1 false _ ?side1 ?side2 A6.out).mono ?_); (case side1 => repeat (first | exact (Kd.C_below HR0.out HB.out) | (with_reducible refine Kd.C_alloc ?_ _) | (with_reducible refine Kd.C_drewN ?_ _) | (with_reducible refine Kd.C_drew ?_))); (case side2 => exact HC0.out); rintro e w11 ⟨rfl, hb⟩; refine ⟨_, rfl, ?_⟩; replace HO_5 := Aside0.mk (Kd.R_below (rS HO_5.out) hb); replace HB := Aside0.mk (below_step bw hb); (try clear hb)))
     go_roundg k1
     case measure => have := HK1.out; omega
     case rel => exact ⟨(x5_1), (wrap64 (x11_1 + 1)), tR, H', ⟨by have := HK1.out; omega⟩, ⟨rS HO_5.out⟩, ⟨bw⟩⟩
   ·rw [if_neg c5] at H
    have c5b0 : decide (x11_1 < (wrap64 ((l0.length : Int) + 1))) = false := decide_eq_false c5
    clear c5
    obtain rfl := Option.some.inj H
    go_wp2
    go_ret
    exact ⟨_, eR, rS HO_5.out, bw⟩

/-! ### slices_IndexFunc_int_int: function 83 -/
theorem blk_under {w1 W : World} {g : Nat} {o : Obj} (h : w1.heap[g]? = some o) (hb : Below w1.heap.size w1 W) : W.heap[g]? = some o := (hb.block g (blk_lt h)).trans h
theorem one_cell {W : World} {g : Nat} {v : Value} {t : TypeId} (h : W.heap[g]? = some (.cells #[v] t (0, 0))) : W.cell? ⟨g, 0, none⟩ = some v := (blk_cell h 0).trans rfl
theorem drawn_step {w W W' : World} (h : Drawn0 w W) (k : Drawn0 W W') : Drawn0 w W' := by
  obtain ⟨n, rfl⟩ := h
  obtain ⟨m, rfl⟩ := k
  exact ⟨⟨n + m, World.drewN_drewN ..⟩⟩
/-- The first place, counted from i on, of an element at which p holds; -1 if there is none. -/
def idxF {α : Type} (p : α → Bool) : List α → Int → Int
  | [], _ => -1
  | x :: r, i => if p x = true then i else idxF p r (i + 1)
theorem idxF_any {α : Type} (p : α → Bool) : ∀ (l : List α) (i : Int), 0 ≤ i → decide (idxF p l i ≥ 0) = l.any p
  | [], i, _ => by simp [idxF]
  | x :: r, i, h => by
    rw [idxF]
    by_cases hp : p x = true
    · rw [if_pos hp]; simp [hp, h]
    · rw [if_neg hp, idxF_any p r (i + 1) (by omega)]; simp [hp]
theorem drop_rdI {l : List Int} {i : Nat} (h1 : i < l.length) : l.drop i = rd l i :: l.drop (i + 1) := by
  rw [List.drop_eq_getElem_cons h1]
  congr 1
  unfold rd
  rw [Int.toNat_natCast, List.getD_eq_getElem?_getD, List.getElem?_eq_getElem h1]; rfl
theorem rd_memI {l : List Int} {i : Nat} (h1 : i < l.length) : rd l i ∈ l := by
  unfold rd
  rw [Int.toNat_natCast, List.getD_eq_getElem?_getD, List.getElem?_eq_getElem h1]
  exact List.getElem_mem h1
set_option maxHeartbeats 2000000 in
/-- slices.IndexFunc at ints: a function value that answers p x, and keeps R, at every element. -/
theorem indexFunc_int (R : World → Prop) (g : Nat) (lb : Array Value) (eg : ∀ args w, (callFunc g args).run Try.prog w = .ok (.enter g args) w) (p : Int → Bool) (A : Option Addr) (c : Nat) (l : List Int) (w : World)
    (hR : R w) (hr : ∀ W, R W → Kd.C (Kd.int .i64) W A l.length l)
    (hp : ∀ x, x ∈ l → ∀ W, R W → Calls Try.prog g (#[.int .i64 x] ++ lb) W fun e W' => e = .returned (.bool (p x)) ∧ R W') :
    Calls Try.prog 83 #[.slice A l.length c, .func (.func g) #[] lb] w fun e w' => e = .returned (.int .i64 (idxF p l 0)) ∧ R w' := by
  have hbig := (hr w hR).2.1
  go_enter Try.func83, Try.ntmps83
  go_wp2
  go_loopg [5, 8] l.length (fun gg _ s8 wr => ∃ kk : Nat, kk ≤ l.length ∧ l.length - kk ≤ gg ∧ s8 = .int .i64 kk ∧ Aside0 (R wr) ∧ Aside0 (idxF p (l.drop kk) kk = idxF p l 0))
  case atStart => exact ⟨0, Nat.zero_le _, by omega, rfl, ⟨hR⟩, ⟨rfl⟩⟩
  case round =>
    obtain ⟨kk, hkk, hg, rfl, HR, HI⟩ := hrel
    by_cases hlt : kk < l.length
    · have hltz : (kk : Int) < (l.length : Int) := by omega
      obtain ⟨ad, ea, hcell⟩ := Kd.at_int (hr wr HR.out) kk (by omega) hltz
      cases ea
      rw [Int.toNat_natCast] at hcell
      have hcall := hp _ (rd_memI hlt) wr HR.out
      have HD := Aside0.mk (drop_rdI hlt)
      clear hr hp
      generalize hy : rd l (kk : Int) = y at hcell hcall HD
      clear hy
      cases hq : p y with
      | true =>
        rw [hq] at hcall
        have HQ := Aside0.mk hq
        clear hq
        go_wp2_with (go_at_fn g; refine hcall.mono ?_; rintro e w' ⟨rfl, hb'⟩)
        go_ret
        refine ⟨?_, hb'⟩
        rw [← HI.out, HD.out, idxF, if_pos HQ.out]
        rfl
      | false =>
        rw [hq] at hcall
        have HQ := Aside0.mk hq
        clear hq
        go_wp2_with (go_at_fn g; refine hcall.mono ?_; rintro e w' ⟨rfl, hb'⟩)
        go_roundg (l.length - (kk + 1))
        case measure => omega
        case rel =>
          refine ⟨kk + 1, by omega, by omega, by go_num, ⟨hb'⟩, ⟨?_⟩⟩
          rw [← HI.out, HD.out, idxF, if_neg (by rw [HQ.out]; decide)]
          rfl
    · have hltz : ¬ (kk : Int) < (l.length : Int) := by omega
      go_wp2
      go_ret
      refine ⟨?_, HR.out⟩
      rw [← HI.out, List.drop_of_length_le (by omega)]; rfl

/-! ### slices_ContainsFunc_int_int: function 57 -/
set_option maxHeartbeats 2000000 in
/-- slices.ContainsFunc at ints. -/
theorem containsFunc_int (R : World → Prop) (g : Nat) (lb : Array Value) (eg : ∀ args w, (callFunc g args).run Try.prog w = .ok (.enter g args) w) (p : Int → Bool) (A : Option Addr) (c : Nat) (l : List Int) (w : World)
    (hR : R w) (hr : ∀ W, R W → Kd.C (Kd.int .i64) W A l.length l)
    (hp : ∀ x, x ∈ l → ∀ W, R W → Calls Try.prog g (#[.int .i64 x] ++ lb) W fun e W' => e = .returned (.bool (p x)) ∧ R W') :
    Calls Try.prog 57 #[.slice A l.length c, .func (.func g) #[] lb] w fun e w' => e = .returned (.bool (l.any p)) ∧ R w' := by
  rw [← idxF_any p l 0 (by omega)]
  go_enter Try.func57, Try.ntmps57
  go_wp2_with (go_at_call 83; refine (indexFunc_int R g lb eg p A c l _ hR hr hp).mono ?_; rintro e w' ⟨rfl, hb'⟩)
  go_ret
  exact ⟨rfl, hb'⟩

/-! ### impl_firstOf: function 60 -/
def aftAt (k : Nat) (l0 : List S53) (x y : Int) : Bool := impl_isAfter.f k l0 x y == some true
def firstF (k : Nat) (l0 : List S53) (l1 : List Int) : List Int → Option Int
  | [] => some (-1)
  | x :: r => if (l1.all fun y => (impl_isAfter.f k l0 x y).isSome) = true then (if (l1.any fun y => !(aftAt k l0 x y)) = true then firstF k l0 l1 r else some x) else none
theorem aftAt_up {k : Nat} {l0 : List S53} {x y : Int} (h : (impl_isAfter.f k l0 x y).isSome = true) : impl_isAfter.f (k + 1) l0 x y = impl_isAfter.f k l0 x y := by
  obtain ⟨b, hb⟩ := Option.isSome_iff_exists.1 h
  rw [hb]; exact impl_isAfter.mono _ _ _ _ _ hb
theorem firstF_mono (k : Nat) (l0 : List S53) (l1 : List Int) : ∀ l, LeO (firstF k l0 l1 l) (firstF (k + 1) l0 l1 l)
  | [] => LeO.refl _
  | x :: r => by
    intro v h
    rw [firstF] at h ⊢
    by_cases hs : (l1.all fun y => (impl_isAfter.f k l0 x y).isSome) = true
    · rw [if_pos hs] at h
      have hs' := List.all_eq_true.1 hs
      rw [if_pos (List.all_eq_true.2 fun y hy => by rw [aftAt_up (hs' y hy)]; exact hs' y hy)]
      have e : (l1.any fun y => !(aftAt (k + 1) l0 x y)) = l1.any fun y => !(aftAt k l0 x y) := by
        have : ∀ m : List Int, (∀ y ∈ m, (impl_isAfter.f k l0 x y).isSome = true) → (m.any fun y => !(aftAt (k + 1) l0 x y)) = m.any fun y => !(aftAt k l0 x y) := by
          intro m
          induction m with
          | nil => intro _; rfl
          | cons z m ih =>
            intro hm
            rw [List.any_cons, List.any_cons, ih (fun y hy => hm y (List.mem_cons_of_mem _ hy))]
            unfold aftAt
            rw [aftAt_up (hm z (List.mem_cons_self ..))]
        exact this l1 hs'
      rw [e]
      by_cases ha : (l1.any fun y => !(aftAt k l0 x y)) = true
      · rw [if_pos ha] at h ⊢; exact firstF_mono k l0 l1 r v h
      · rw [if_neg ha] at h ⊢; exact h
    · rw [if_neg hs] at h; exact absurd h (by simp)
def impl_firstOf.f (k : Nat) (l0 : List S53) (l1 : List Int) : Option (Int) := firstF k l0 l1 l1
theorem impl_firstOf.mono : ∀ a0 a1 k, LeO (impl_firstOf.f k a0 a1) (impl_firstOf.f (k + 1) a0 a1) := by
  intro a0 a1 k
  exact firstF_mono k a0 a1 a1
theorem one_cellF {W : World} {g : Nat} {v : Value} {t : TypeId} (h : W.heap[g]? = some (.cells #[v] t (0, 0))) : W.cell? ⟨g, 0, none⟩ = some v := (blk_cell h 0).trans rfl
set_option maxHeartbeats 1000000 in
theorem impl_firstOf.fn (k : Nat) (A0 : Option Addr) (c0 : Nat) (l0 : List S53) (g2 g6 : Nat) (x y : Int) (w : World) (hr0 : Kd.C k53 w A0 l0.length l0) (hc0 : l0.length ≤ c0) (h2 : w.heap[g2]? = some (.cells #[.slice A0 l0.length c0] 24 (0, 0))) (h6 : w.heap[g6]? = some (.cells #[.int .i64 x] 3 (0, 0))) (hs : (impl_isAfter.f k l0 x y).isSome = true) :
    Calls Try.prog 85 #[.int .i64 y, .pointer (some ⟨g2, 0, none⟩), .pointer (some ⟨g6, 0, none⟩)] w fun e w' => e = .returned (.bool (!(aftAt k l0 x y))) ∧ Below w.heap.size w w' := by
  obtain ⟨b, hb⟩ := Option.isSome_iff_exists.1 hs
  have e1 : aftAt k l0 x y = b := by unfold aftAt; rw [hb]; cases b <;> rfl
  rw [e1]
  have HI := Aside0.mk hb
  have HR := Aside0.mk hr0
  have HC := Aside0.mk hc0
  have hz2 := one_cellF h2
  have hz6 := one_cellF h6
  clear e1 hb hs hr0 hc0 h2 h6
  go_enter Try.func85, Try.ntmps85
  go_wp2_with (go_at_call 56; (with_reducible refine (impl_isAfter.calls k A0 c0 l0 x y b _ HR.out HC.out HI.out).mono ?_); rintro e w' ⟨rfl, hb2⟩; have HB2 := Aside0.mk hb2; clear hb2)
  go_ret
  exact ⟨rfl, HB2.out⟩
set_option maxHeartbeats 4000000 in
set_option maxRecDepth 100000 in
theorem impl_firstOf.calls (k : Nat) (A0 : Option Addr) (c0 : Nat) (l0 : List S53) (A1 : Option Addr) (c1 : Nat) (l1 : List Int) (r : Int) (w : World) (hr0 : Kd.C k53 w A0 l0.length l0) (hc0 : l0.length ≤ c0) (hr1 : Kd.C (Kd.int .i64) w A1 l1.length l1) (hc1 : l1.length ≤ c1) (h : impl_firstOf.f k l0 l1 = some r) :
    Calls Try.prog 60 #[.slice A0 l0.length c0, .slice A1 l1.length c1] w fun e w' => e = .returned (.int .i64 r) ∧ Below w.heap.size w w' := by
  have HF := Aside0.mk (show firstF k l0 l1 l1 = some r from h)
  have HR0 := Aside0.mk hr0
  have HC0 := Aside0.mk hc0
  have HR1 := Aside0.mk hr1
  have hbig := hr1.2.1
  clear h hr0 hc0 hr1
  have eg := Aside0.mk (enters_of Try.func85 (by kernel_rfl) rfl)
  go_enter Try.func60, Try.ntmps60
  go_wp2_with (first | ((with_reducible refine gate_dst (N := 2) rfl ?_); refine box_event ?hg (N := 2) ?hd (cs := #[.slice A0 l0.length c0]) (t := 24) ?hr ?_; (case hd => rfl); (case hg => rfl); (case hr => first | (go_simp; done) | (go_simp; rfl)); intro g2 hgb w1 hbox hb; have HB := Aside0.mk hb; have B2 := Aside0.mk hbox; clear hgb hb hbox))
  go_loopg [6, 9] l1.length (fun gg _ s9 wr => ∃ kk : Nat, kk ≤ l1.length ∧ l1.length - kk ≤ gg ∧ s9 = .int .i64 kk ∧ Aside0 (Below w1.heap.size w1 wr) ∧ Aside0 (firstF k l0 l1 (l1.drop kk) = some r))
  case atStart => exact ⟨0, Nat.zero_le _, by omega, rfl, ⟨Below.refl _ _⟩, ⟨HF.out⟩⟩
  case round =>
    obtain ⟨kk, hkk, hg, rfl, HW, HI⟩ := hrel
    by_cases hlt : kk < l1.length
    · have hltz : (kk : Int) < (l1.length : Int) := by omega
      obtain ⟨ad, ea, hcell⟩ := Kd.at_int (Kd.C_below HR1.out (below_step HB.out HW.out)) kk (by omega) hltz
      cases ea
      rw [Int.toNat_natCast] at hcell
      have HD := Aside0.mk (drop_rdI hlt)
      generalize hy : rd l1 (kk : Int) = x at hcell HD
      clear hy
      have H := HI.out
      rw [HD.out, firstF] at H
      by_cases hs : (l1.all fun y => (impl_isAfter.f k l0 x y).isSome) = true
      · rw [if_pos hs] at H
        have HS := Aside0.mk (List.all_eq_true.1 hs)
        clear hs
        have B2r := Aside0.mk (blk_below B2.out HW.out)
        have HBr := Aside0.mk (below_step HB.out HW.out)
        have HFc := Aside0.mk (fun (g6 : Nat) (w2 : World) (hb : Below w.heap.size w w2) (hx2 : w2.heap[g2]? = some (.cells #[.slice A0 l0.length c0] 24 (0, 0))) (hx6 : w2.heap[g6]? = some (.cells #[.int .i64 x] 3 (0, 0))) =>
          containsFunc_int (Below w2.heap.size w2) 85 #[.pointer (some ⟨g2, 0, none⟩), .pointer (some ⟨g6, 0, none⟩)] eg.out (fun y => !(aftAt k l0 x y)) (some ad) c1 l1 w2 (Below.refl _ _)
            (fun W hW => Kd.C_below HR1.out (below_step hb hW)) (fun y hy1 W hW => (impl_firstOf.fn k A0 c0 l0 g2 g6 x y W (Kd.C_below HR0.out (below_step hb hW)) HC0.out (blk_below hx2 hW) (blk_below hx6 hW) (HS.out y hy1)).mono fun e W' ⟨he, h2⟩ => ⟨he, below_step hW h2⟩))
        cases hq : (l1.any fun y => !(aftAt k l0 x y)) with
        | true =>
          rw [if_pos hq] at H
          have HN := Aside0.mk H
          rw [hq] at HFc
          clear hq H
          go_wp2_with (first | ((with_reducible refine gate_dst (N := 6) rfl ?_); refine box_event ?hg (N := 6) ?hd (cs := #[.int .i64 0]) (t := 3) ?hr ?_; (case hd => rfl); (case hg => rfl); (case hr => first | (go_simp; done) | (go_simp; rfl)); intro g6 hgb w2 hbox hb; have G6 := Aside0.mk (show w1.heap.size ≤ g6 by rw [hgb]; exact below_size HW.out); have N6 := Aside0.mk (show g2 ≠ g6 by rw [hgb]; exact Nat.ne_of_lt (blk_lt B2r.out)); have G0 := Aside0.mk (show w.heap.size ≤ g6 by rw [hgb]; exact below_size HBr.out); have HB2 := Aside0.mk (below_step HBr.out hb); have HW2 := Aside0.mk (below_step HW.out hb); have C2 := Aside0.mk (blk_far (blk_below B2r.out hb) (p := ⟨g6, 0, none⟩) N6.out (.int .i64 x)); have C6 := Aside0.mk (blk_put hbox 0 (.int .i64 x) rfl); have z6 : w2.cell? ⟨g6, 0, none⟩ = some (.int .i64 0) := one_cellF hbox; have f6 := blk_frozen hbox 0; have HB3 := Aside0.mk (below_set (j := 0) (v := .int .i64 x) HB2.out G0.out); have HW3 := Aside0.mk (below_set (j := 0) (v := .int .i64 x) HW2.out G6.out); clear hgb hb hbox) | (go_at_call 57; refine (HFc.out g6 _ HB3.out C2.out C6.out).mono ?_; rintro e w3 ⟨rfl, hb3⟩; have HB4 := Aside0.mk (below_step HW3.out hb3); clear hb3))
          go_roundg (l1.length - (kk + 1))
          case measure => omega
          case rel => exact ⟨kk + 1, by omega, by omega, by go_num, ⟨HB4.out⟩, ⟨HN.out⟩⟩
        | false =>
          rw [if_neg (by rw [hq]; decide)] at H
          obtain rfl := Option.some.inj H
          rw [hq] at HFc
          clear hq H
          go_wp2_with (first | ((with_reducible refine gate_dst (N := 6) rfl ?_); refine box_event ?hg (N := 6) ?hd (cs := #[.int .i64 0]) (t := 3) ?hr ?_; (case hd => rfl); (case hg => rfl); (case hr => first | (go_simp; done) | (go_simp; rfl)); intro g6 hgb w2 hbox hb; have N6 := Aside0.mk (show g2 ≠ g6 by rw [hgb]; exact Nat.ne_of_lt (blk_lt B2r.out)); have G0 := Aside0.mk (show w.heap.size ≤ g6 by rw [hgb]; exact below_size HBr.out); have HB2 := Aside0.mk (below_step HBr.out hb); have C2 := Aside0.mk (blk_far (blk_below B2r.out hb) (p := ⟨g6, 0, none⟩) N6.out (.int .i64 x)); have C6 := Aside0.mk (blk_put hbox 0 (.int .i64 x) rfl); have z6 : w2.cell? ⟨g6, 0, none⟩ = some (.int .i64 0) := one_cellF hbox; have f6 := blk_frozen hbox 0; have HB3 := Aside0.mk (below_set (j := 0) (v := .int .i64 x) HB2.out G0.out); clear hgb hb hbox) | (go_at_call 57; refine (HFc.out g6 _ HB3.out C2.out C6.out).mono ?_; rintro e w3 ⟨rfl, hb3⟩; have HB4 := Aside0.mk (below_step HB3.out hb3); have z36 : w3.cell? ⟨g6, 0, none⟩ = some (.int .i64 x) := one_cellF (blk_below C6.out hb3); clear hb3 z6 f6))
          go_ret
          exact ⟨rfl, HB4.out⟩
      · rw [if_neg hs] at H
        exact absurd H (by simp)
    · have hltz : ¬ (kk : Int) < (l1.length : Int) := by omega
      have H := HI.out
      rw [List.drop_of_length_le (by omega)] at H
      obtain rfl := Option.some.inj H
      go_wp2
      go_ret
      exact ⟨rfl, below_step HB.out HW.out⟩

/-! ### slices_DeleteFunc_int_int: function 61 -/
theorem idxF_cases (p : Int → Bool) : ∀ (l : List Int) (i : Nat), (idxF p l (i : Int) = -1 ∧ l.any p = false) ∨ ∃ m : Nat, idxF p l (i : Int) = ((i + m : Nat) : Int) ∧ m < l.length ∧ (l.take m).any p = false ∧ p (l.getD m 0) = true
  | [], i => .inl ⟨rfl, rfl⟩
  | x :: r, i => by
    rw [idxF]
    by_cases hp : p x = true
    · rw [if_pos hp]
      exact .inr ⟨0, rfl, by simp, by simp, hp⟩
    · rw [if_neg hp]
      have hp' : p x = false := by simpa using hp
      rcases idxF_cases p r (i + 1) with ⟨h1, h2⟩ | ⟨m, h1, h2, h3, h4⟩
      · rw [show ((i : Int) + 1) = ((i + 1 : Nat) : Int) from rfl, h1]
        exact .inl ⟨rfl, by rw [List.any_cons, hp', h2]; rfl⟩
      · refine .inr ⟨m + 1, ?_, by simpa using h2, by rw [List.take_succ_cons, List.any_cons, hp', h3]; rfl, h4⟩
        rw [show ((i : Int) + 1) = ((i + 1 : Nat) : Int) from rfl, h1, show i + 1 + m = i + (m + 1) by omega]
theorem filter_not_any {p : Int → Bool} : ∀ {l : List Int}, l.any p = false → l.filter (fun x => !p x) = l
  | [], _ => rfl
  | x :: r, h => by
    rw [List.any_cons, Bool.or_eq_false_iff] at h
    rw [List.filter_cons, if_pos (by rw [h.1]; rfl), filter_not_any h.2]
theorem setCells_R {base g c : Nat} {ok : Nat → Prop} {n : Nat} : ∀ (m : Nat) (W : World) (xs : List Int) (o : Nat), n = xs.length → Kd.R (Kd.int .i64) 3 W base ok (.slice (some ⟨g, 0, none⟩) n c) xs →
    ∃ ys : List Int, Kd.R (Kd.int .i64) 3 (W.setCells g o (List.replicate m (.int .i64 0))) base ok (.slice (some ⟨g, 0, none⟩) n c) ys ∧ ys.length = n ∧ ys.take o = xs.take o
  | 0, W, xs, o, hn, h => ⟨xs, h, hn.symm, rfl⟩
  | m + 1, W, xs, o, hn, h => by
    obtain ⟨ys, h1, h2, h3⟩ := setCells_R m (W.setCell ⟨g, o, none⟩ (.int .i64 0)) (xs.set o 0) (o + 1) (by rw [List.length_set]; exact hn) (R_put_at n hn h o 0)
    refine ⟨ys, h1, h2, ?_⟩
    have := congrArg (List.take o) h3
    rw [List.take_take, List.take_take, Nat.min_eq_left (Nat.le_succ o), List.take_set_of_le (Nat.le_refl o)] at this
    exact this
theorem setCells_below {w0 : World} {g : Nat} (hg : w0.heap.size ≤ g) : ∀ (vs : List Value) (W : World) (o : Nat), Below w0.heap.size w0 W → Below w0.heap.size w0 (W.setCells g o vs)
  | [], _, _, h => h
  | v :: r, W, o, h => setCells_below hg r _ (o + 1) (below_set h hg)
set_option maxHeartbeats 4000000 in
set_option maxRecDepth 100000 in
/-- slices.DeleteFunc at ints, over a row that was made behind w0; the function value looks at what stood at w0 alone. -/
theorem deleteFunc_int (g : Nat) (lb : Array Value) (eg : ∀ args w, (callFunc g args).run Try.prog w = .ok (.enter g args) w) (p : Int → Bool) (u : Value) (l : List Int) (w0 w : World)
    (hB : Below w0.heap.size w0 w) (ho : Kd.R (Kd.int .i64) 3 w w0.heap.size (fun _ => True) u l)
    (hp : ∀ x, x ∈ l → ∀ W, Below w0.heap.size w0 W → Calls Try.prog g (#[.int .i64 x] ++ lb) W fun e W' => e = .returned (.bool (p x)) ∧ Below W.heap.size W W') :
    Calls Try.prog 61 #[u, .func (.func g) #[] lb] w fun e w' => ∃ v0_ : Value, e = .returned (v0_) ∧ Kd.R (Kd.int .i64) 3 w' w0.heap.size (fun _ => True) v0_ (l.filter fun x => !p x) ∧ Below w0.heap.size w0 w' := by
  obtain ⟨A, c, e, hlc, hC⟩ := Kd.R_reads ho
  subst e
  have hidx := indexFunc_int (Below w.heap.size w) g lb eg p A c l w (Below.refl _ _) (fun W hW => Kd.C_below hC hW) (fun x hx W hW => (hp x hx W (below_step hB hW)).mono fun e W' ⟨he, h2⟩ => ⟨he, below_step hW h2⟩)
  have HI := Aside0.mk hidx
  have HO := Aside0.mk ho
  have HB := Aside0.mk hB
  have HP := Aside0.mk hp
  clear hidx ho hB hp
  rcases idxF_cases p l 0 with ⟨h1, h2⟩ | ⟨m, h1, h2, h3, h4⟩
  · have HF := Aside0.mk (filter_not_any h2)
    rw [show ((0 : Nat) : Int) = 0 from rfl] at h1
    have H1 := Aside0.mk h1
    clear h1 h2 hC
    rw [HF.out]
    go_enter Try.func61, Try.ntmps61
    go_wp2_with (go_at_call 83; refine HI.out.mono ?_; rintro e w1 ⟨rfl, hb1⟩; rw [H1.out]; have HB1 := Aside0.mk hb1; clear hb1)
    go_ret
    exact ⟨_, rfl, Kd.R_below HO.out HB1.out, below_step HB.out HB1.out⟩
  · obtain ⟨gb, c', e', hgb, hglt, _⟩ := Kd.R_form HO.out (by omega)
    injection e' with e1 _ e2
    subst e1 e2
    rw [show ((0 : Nat) : Int) = 0 from rfl, Nat.zero_add] at h1
    have H1 := Aside0.mk h1
    have HG := Aside0.mk hgb
    have hbig := hC.2.1
    have HFm : Aside0 (l.take m = (l.take (m + 1)).filter fun x => !p x) := ⟨by
      rw [List.take_succ_eq_append_getElem h2, List.filter_append, filter_not_any h3]
      have : p (l[m]'h2) = true := by rw [← h4, List.getD_eq_getElem?_getD, List.getElem?_eq_getElem h2]; rfl
      simp [this]⟩
    have H2 := Aside0.mk h2
    have HLC := Aside0.mk hlc
    clear h1 h3 h4 hC hgb hglt
    have hwm : IntKind.i64.wrap ((m : Int) + 1) = (m : Int) + 1 := by rw [i64_w]; unfold wrap64; omega
    have b0 : ((m : Int) == -1) = false := beq_eq_false_iff_ne.mpr (by omega)
    go_enter Try.func61, Try.ntmps61
    go_wp2_with (go_at_call 83; refine HI.out.mono ?_; rintro e w1 ⟨rfl, hb1⟩; rw [H1.out]; have HO1 := Aside0.mk (Kd.R_below HO.out hb1); have HB1 := Aside0.mk (below_step HB.out hb1); clear hb1)
    clear hwm b0
    go_loopg [5, 6, 7] l.length (fun gg s5 s6 _ wr => ∃ (i j : Nat) (xs : List Int), i < j ∧ j ≤ l.length ∧ l.length - j ≤ gg ∧ s5 = .int .i64 i ∧ s6 = .int .i64 j ∧ xs.length = l.length ∧ Aside0 (xs.take i = (l.take j).filter fun x => !p x) ∧ Aside0 (xs.drop j = l.drop j) ∧ Aside0 (Kd.R (Kd.int .i64) 3 wr w0.heap.size (fun _ => True) (.slice (some ⟨gb, 0, none⟩) l.length c) xs) ∧ Aside0 (Below w0.heap.size w0 wr))
    case atStart => exact ⟨m, m + 1, l, by omega, by have := H2.out; omega, by omega, rfl, by go_num, rfl, HFm, ⟨rfl⟩, ⟨HO1.out⟩, ⟨HB1.out⟩⟩
    case round =>
      clear HO1 HB1 HFm
      obtain ⟨i, j, xs, hij, hj, hg, rfl, rfl, hxl, HT, HD, HR, HW⟩ := hrel
      have HXL := Aside0.mk hxl
      clear hxl
      by_cases hlt : j < l.length
      · have hltz : (j : Int) < (l.length : Int) := by omega
        obtain ⟨hcj, hfj⟩ := Kd.R_celln 0 HR.out (j : Int) (by omega) hltz
        obtain ⟨hci, hfi⟩ := Kd.R_celln 0 HR.out (i : Int) (by omega) (by omega)
        rw [Int.toNat_natCast] at hcj hfj hci hfi
        obtain ⟨y, hy⟩ : ∃ y, rdOf 0 xs (j : Int) = y := ⟨_, rfl⟩
        have hyl : l[j]'hlt = y := by
          have h5 := congrArg (fun z : List Int => z.head?) HD.out
          simp only [List.head?_drop] at h5
          rw [List.getElem?_eq_getElem hlt, List.getElem?_eq_getElem (by rw [HXL.out]; exact hlt)] at h5
          rw [← hy]
          unfold rdOf
          rw [Int.toNat_natCast, List.getD_eq_getElem?_getD, List.getElem?_eq_getElem (by rw [HXL.out]; exact hlt)]
          exact (Option.some.inj h5).symm
        rw [hy] at hcj
        have HY := Aside0.mk hyl
        have hcall := HP.out y (by rw [← hyl]; exact List.getElem_mem hlt) wr HW.out
        have HDn := Aside0.mk (show ∀ zs : List Int, zs.drop j = l.drop j → zs.drop (j + 1) = l.drop (j + 1) from fun zs hz => by
          have := congrArg (List.drop 1) hz
          rwa [List.drop_drop, List.drop_drop] at this)
        clear hy hyl
        cases hq : p y with
        | true =>
          rw [hq] at hcall
          have HQ := Aside0.mk hq
          clear hq
          go_wp2_with (go_at_fn g; refine hcall.mono ?_; rintro e w2 ⟨rfl, hb2⟩)
          go_roundg (l.length - (j + 1))
          case measure => omega
          case rel =>
            refine ⟨i, j + 1, xs, by omega, by omega, by omega, rfl, by go_num, HXL.out, ⟨?_⟩, ⟨HDn.out _ HD.out⟩, ⟨Kd.R_below HR.out hb2⟩, ⟨below_step HW.out hb2⟩⟩
            rw [List.take_succ_eq_append_getElem hlt, List.filter_append, HT.out, HY.out]
            simp [HQ.out]
        | false =>
          rw [hq] at hcall
          have HQ := Aside0.mk hq
          clear hq
          have hwi : IntKind.i64.wrap ((i : Int) + 1) = (i : Int) + 1 := by rw [i64_w]; unfold wrap64; omega
          have q1 : (i : Int) < (l.length : Int) := by omega
          go_wp2_with (go_at_fn g; refine hcall.mono ?_; rintro e w2 ⟨rfl, hb2⟩; have HR2 := Aside0.mk (Kd.R_below HR.out hb2); have HW2 := Aside0.mk (below_step HW.out hb2); obtain ⟨hci2, hfi2⟩ := Kd.R_celln 0 HR2.out (i : Int) (by omega) (by omega); rw [Int.toNat_natCast] at hci2 hfi2; clear hb2 hcall)
          go_roundg (l.length - (j + 1))
          case measure => omega
          case rel =>
            refine ⟨i + 1, j + 1, xs.set i y, by omega, by omega, by omega, by go_num, by go_num, by rw [List.length_set]; exact HXL.out, ⟨?_⟩, ⟨?_⟩, ⟨R_put_at _ HXL.out.symm HR2.out i y⟩, ⟨below_set HW2.out HG.out⟩⟩
            · rw [List.take_succ_eq_append_getElem hlt, List.filter_append, ← HT.out, HY.out, List.take_succ_eq_append_getElem (by rw [List.length_set, HXL.out]; omega), List.take_set_of_le (Nat.le_refl i), List.getElem_set_self]
              simp [HQ.out]
            · have := HDn.out xs HD.out
              rw [List.drop_set_of_lt (by omega)]
              exact this
      · have hltz : ¬ (j : Int) < (l.length : Int) := by omega
        have ej : j = l.length := by omega
        have HZ := Aside0.mk (show xs.take i = l.filter fun x => !p x by rw [HT.out, ej, List.take_of_length_le (Nat.le_refl _)])
        have hin : i < l.length := by omega
        have hic : ¬ c = i := by have := HLC.out; omega
        have hil : i ≤ c := by have := HLC.out; omega
        have hcl := clear_own wr gb i (l.length - i) (c - i) (by omega) (fun q hq => by
          obtain ⟨hcq, _⟩ := Kd.R_celln 0 HR.out ((i + q : Nat) : Int) (by omega) (by omega)
          rw [Int.toNat_natCast] at hcq
          rw [hcq]; rfl) (fun q hq => by
          obtain ⟨_, hfq⟩ := Kd.R_celln 0 HR.out ((i + q : Nat) : Int) (by omega) (by omega)
          rw [Int.toNat_natCast] at hfq
          exact hfq)
        have q1 : (i : Int) ≤ (l.length : Int) := by omega
        clear hij hj hg hlt ej
        go_wp2
        go_ret
        obtain ⟨ys, h6, h7, h8⟩ := setCells_R (l.length - i) wr xs i HXL.out.symm HR.out
        have h9 := Kd.R_take h6 (m := i) (by rw [h7]; omega)
        rw [h8, HZ.out] at h9
        exact ⟨_, rfl, h9, setCells_below HG.out _ _ _ HW.out⟩

/-! ### impl_FirstAfter: function 29 -/
def impl_FirstAfter.f (k : Nat) (l0 : List S53) (a1 : Int) : Option (Int) := (impl_AftersOf.f k l0 a1).bind fun L => impl_firstOf.f k l0 (L.filter fun x => !(x == a1))
theorem impl_FirstAfter.mono : ∀ a0 a1 k, LeO (impl_FirstAfter.f k a0 a1) (impl_FirstAfter.f (k + 1) a0 a1) := by
  intro a0 a1 k
  unfold impl_FirstAfter.f
  exact LeO.bind (impl_AftersOf.mono _ _ _) fun _ => impl_firstOf.mono _ _ _
set_option maxHeartbeats 1000000 in
theorem impl_FirstAfter.fn (g : Nat) (a1 x : Int) (w : World) (hg : w.heap[g]? = some (.cells #[.int .i64 a1] 3 (0, 0))) :
    Calls Try.prog 63 #[.int .i64 x, .pointer (some ⟨g, 0, none⟩)] w fun e w' => e = .returned (.bool (x == a1)) ∧ Below w.heap.size w w' := by
  have hz := one_cellF hg
  clear hg
  go_enter Try.func63, Try.ntmps63
  go_wp2
  go_ret
  exact ⟨rfl, Below.refl _ _⟩
set_option maxHeartbeats 2000000 in
set_option maxRecDepth 100000 in
theorem impl_FirstAfter.calls (k : Nat) (A0 : Option Addr) (c0 : Nat) (l0 : List S53) (a1 : Int) (r : Int) (w : World) (hr0 : Kd.C k53 w A0 l0.length l0) (hc0 : l0.length ≤ c0) (h : impl_FirstAfter.f k l0 a1 = some r) :
    Calls Try.prog 29 #[.slice A0 l0.length c0, .int .i64 a1] w fun e w' => e = .returned (.int .i64 r) ∧ Below w.heap.size w w' := by
  obtain ⟨L, hL, h⟩ := Option.bind_eq_some_iff.mp h
  have HL := Aside0.mk hL
  have HF := Aside0.mk h
  have HR0 := Aside0.mk hr0
  have HC0 := Aside0.mk hc0
  clear hL h hr0 hc0
  have eg := Aside0.mk (enters_of Try.func63 (by kernel_rfl) rfl)
  go_enter Try.func29, Try.ntmps29
  go_wp2_with (first
    | ((with_reducible refine gate_dst (N := 3) rfl ?_); refine box_event ?hg (N := 3) ?hd (cs := #[.int .i64 a1]) (t := 3) ?hr ?_; (case hd => rfl); (case hg => rfl); (case hr => first | (go_simp; done) | (go_simp; rfl)); intro g3 hgb w1 hbox hb; have HB := Aside0.mk hb; have B3 := Aside0.mk hbox; have z3 := one_cellF hbox; clear hgb hb hbox)
    | (go_at_call 33; (with_reducible refine (impl_AftersOf.calls k A0 c0 l0 a1 L _ (Kd.C_below HR0.out HB.out) HC0.out HL.out).mono ?_); rintro e w2 ⟨v2, rfl, ho2, hb2⟩; have HO2 := Aside0.mk ho2; have HB2 := Aside0.mk hb2; clear ho2 hb2)
    | (go_at_call 61; refine (deleteFunc_int 63 #[.pointer (some ⟨g3, 0, none⟩)] eg.out (fun x => x == a1) v2 L w1 _ HB2.out HO2.out (fun x _ W hW => impl_FirstAfter.fn g3 a1 x W (blk_below B3.out hW))).mono ?_; rintro e w3 ⟨v3, rfl, ho3, hb3⟩; obtain ⟨A3, c3, e3⟩ := Kd.R_slice ho3; subst e3; have HC3 := Aside0.mk (Kd.R_reads' ho3).2; have HB3 := Aside0.mk (below_step HB.out hb3); clear ho3 hb3)
    | (go_at_call 60; (with_reducible refine (impl_firstOf.calls k A0 c0 l0 A3 c3 (L.filter fun x => !(x == a1)) r _ (Kd.C_below HR0.out HB3.out) HC0.out HC3.out.2 HC3.out.1 HF.out).mono ?_); rintro e w4 ⟨rfl, hb4⟩; have HB4 := Aside0.mk (below_step HB3.out hb4); clear hb4))
  go_ret
  exact ⟨rfl, HB4.out⟩

/-! ### slices_Index_int_int: function 82 -/
def slices_Index_int_int.l0 : Nat → List Int → Int → Int → Int → Option (Int)
 | 0, _, _, _, _ => none
 | k + 1, x0, x1, x7, x8 => if x8 < x7 then (if 0 ≤ x8 then (if x8 < (x0.length : Int) then (if x1 = (rd x0 x8) then (some x8) else (slices_Index_int_int.l0 k x0 x1 x7 (wrap64 (x8 + 1)))) else (none)) else (none)) else (some (-1))
def slices_Index_int_int.f (k : Nat) (l0 : List Int) (a1 : Int) : Option (Int) := slices_Index_int_int.l0 k l0 a1 (l0.length : Int) 0
theorem slices_Index_int_int.mono_l : ∀ k, (∀ y0 y1 y2 y3, LeO (slices_Index_int_int.l0 k y0 y1 y2 y3) (slices_Index_int_int.l0 (k + 1) y0 y1 y2 y3))
 | 0 => fun _ _ _ _ r h => by simp [slices_Index_int_int.l0] at h
 | k + 1 => by
  have ih0 := slices_Index_int_int.mono_l k
  ·intro y0 y1 y2 y3
   unfold slices_Index_int_int.l0
   repeat' first
   | (with_reducible exact ih0 _ _ _ _)
   | (with_reducible exact LeO.refl _)
   | (with_reducible exact LeO.none _)
   | (with_reducible refine LeO.ite ?_ ?_)
   | (with_reducible refine LeO.bind ?_ (fun _ => ?_))
   | exact ih0 _ _ _ _
   | exact LeO.none _
   | refine LeO.ite ?_ ?_
   | refine LeO.bind ?_ (fun _ => ?_)
theorem slices_Index_int_int.mono : ∀ a0 a1 k, LeO (slices_Index_int_int.f k a0 a1) (slices_Index_int_int.f (k + 1) a0 a1) := by
 intro a0 a1 k
 have ih0 := slices_Index_int_int.mono_l k
 unfold slices_Index_int_int.f
 repeat' first
   | (with_reducible exact ih0 _ _ _ _)
   | (with_reducible exact LeO.refl _)
   | (with_reducible exact LeO.none _)
   | (with_reducible refine LeO.ite ?_ ?_)
   | (with_reducible refine LeO.bind ?_ (fun _ => ?_))
   | exact ih0 _ _ _ _
   | exact LeO.none _
   | refine LeO.ite ?_ ?_
   | refine LeO.bind ?_ (fun _ => ?_)
set_option maxHeartbeats 8000000 in
set_option maxRecDepth 100000 in
theorem slices_Index_int_int.calls (k : Nat) (A0 : Option Addr) (c0 : Nat) (l0 : List Int) (a1 : Int) (r : Int) (w : World) (hr0 : Kd.C (Kd.int .i64) w A0 l0.length l0) (hc0 : l0.length ≤ c0) (h : slices_Index_int_int.f k l0 a1 = some r) :
  Calls Try.prog 82 #[.slice A0 l0.length c0, .int .i64 a1] w fun e w' => e = .returned (.int .i64 r) ∧ Drawn0 w w' := by
 have HR0 := Aside0.mk hr0
 have HC0 := Aside0.mk hc0
 clear hr0 hc0
 have H : (slices_Index_int_int.l0 k l0 a1 (l0.length : Int) 0) = some r := h
 clear h
 have H' := Aside0.mk H
 clear H
 go_enter Try.func82, Try.ntmps82
 go_wp2
 go_loopg [8] k (fun kq v8 w' => ∃ (x8_1 : Int), v8 = .int .i64 x8_1 ∧ Aside0 (slices_Index_int_int.l0 kq l0 a1 (l0.length : Int) x8_1 = some r) ∧ Aside0 (kq ≤ k) ∧ Drawn0 w w')
 case atStart => exact ⟨(0), tR, H', ⟨Nat.le_refl _⟩, by repeat (first | exact Drawn0.refl _ | apply Drawn0.step)⟩
 case round =>
  clear H'
  try clear p2
  obtain ⟨x8_1, rfl, HA, HK1, ⟨m1, rfl⟩⟩ := hrel
  cases gk with
  | zero => exact absurd HA.out (by simp [slices_Index_int_int.l0])
  | succ k1 =>
   have H := HA.out
   clear HA
   simp only [slices_Index_int_int.l0] at H
   by_cases c3 : x8_1 < (l0.length : Int)
   ·rw [if_pos c3] at H
    have c3b0 : decide (x8_1 < (l0.length : Int)) = true := decide_eq_true c3
    clear c3
    by_cases c4 : 0 ≤ x8_1
    ·rw [if_pos c4] at H
     have c4b0 : decide (0 ≤ x8_1) = true := decide_eq_true c4
     clear c4
     by_cases c5 : x8_1 < (l0.length : Int)
     ·rw [if_pos c5] at H
      have c5b0 : decide (x8_1 < (l0.length : Int)) = true := decide_eq_true c5
      clear c5
      by_cases c6 : a1 = (rd l0 x8_1)
      ·rw [if_pos c6] at H
       have c6b0 : (a1 == (rd l0 x8_1)) = true := beq_iff_eq.mpr c6
       have c6b1 : (a1 != (rd l0 x8_1)) = false := bne_eq_false_iff_eq.mpr c6
       clear c6
       obtain rfl := Option.some.inj H
       have p262 : 0 ≤ (x8_1 : Int) := dT
       have q262 : x8_1 < (l0.length : Int) := dT
       obtain ⟨ad262, e262, hx262_0⟩ := Kd.at_int HR0.out x8_1 p262 q262
       cases e262
       replace p262 := eq_true p262
       replace q262 := eq_true q262
       go_wp2
       go_ret
       exact ⟨by first | rfl | (simp; done) | (simp [*]; done), by repeat (first | exact Drawn0.refl _ | apply Drawn0.step)⟩
      ·rw [if_neg c6] at H
       have c6b0 : (a1 == (rd l0 x8_1)) = false := beq_eq_false_iff_ne.mpr c6
       have c6b1 : (a1 != (rd l0 x8_1)) = true := bne_iff_ne.mpr c6
       have H' := Aside0.mk H
       clear H
       have p262 : 0 ≤ (x8_1 : Int) := dT
       have q262 : x8_1 < (l0.length : Int) := dT
       obtain ⟨ad262, e262, hx262_0⟩ := Kd.at_int HR0.out x8_1 p262 q262
       cases e262
       replace p262 := eq_true p262
       replace q262 := eq_true q262
       go_wp2
       go_roundg k1
       case measure => have := HK1.out; omega
       case rel => exact ⟨(wrap64 (x8_1 + 1)), tR, H', ⟨by have := HK1.out; omega⟩, by repeat (first | exact Drawn0.refl _ | apply Drawn0.step)⟩
     ·rw [if_neg c5] at H
      exact absurd H (by simp)
    ·rw [if_neg c4] at H
     exact absurd H (by simp)
   ·rw [if_neg c3] at H
    have c3b0 : decide (x8_1 < (l0.length : Int)) = false := decide_eq_false c3
    clear c3
    obtain rfl := Option.some.inj H
    go_wp2
    go_ret
    exact ⟨by first | rfl | (simp; done) | (simp [*]; done), by repeat (first | exact Drawn0.refl _ | apply Drawn0.step)⟩

/-! ### slices_Contains_int_int: function 55 -/
def slices_Contains_int_int.f (k : Nat) (l0 : List Int) (a1 : Int) : Option (Bool) := (slices_Index_int_int.f k l0 a1).bind fun t263 => (some (decide (t263 ≥ 0)))
theorem slices_Contains_int_int.mono : ∀ a0 a1 k, LeO (slices_Contains_int_int.f k a0 a1) (slices_Contains_int_int.f (k + 1) a0 a1) := by
 intro a0 a1 k
 unfold slices_Contains_int_int.f
 repeat' first
   | (with_reducible exact slices_Index_int_int.mono _ _ _)
   | (with_reducible exact LeO.refl _)
   | (with_reducible exact LeO.none _)
   | (with_reducible refine LeO.ite ?_ ?_)
   | (with_reducible refine LeO.bind ?_ (fun _ => ?_))
   | exact slices_Index_int_int.mono _ _ _
   | exact LeO.none _
   | refine LeO.ite ?_ ?_
   | refine LeO.bind ?_ (fun _ => ?_)
set_option maxHeartbeats 8000000 in
set_option maxRecDepth 100000 in
theorem slices_Contains_int_int.calls (k : Nat) (A0 : Option Addr) (c0 : Nat) (l0 : List Int) (a1 : Int) (r : Bool) (w : World) (hr0 : Kd.C (Kd.int .i64) w A0 l0.length l0) (hc0 : l0.length ≤ c0) (h : slices_Contains_int_int.f k l0 a1 = some r) :
  Calls Try.prog 55 #[.slice A0 l0.length c0, .int .i64 a1] w fun e w' => e = .returned (.bool r) ∧ Drawn0 w w' := by
 have HR0 := Aside0.mk hr0
 have HC0 := Aside0.mk hc0
 clear hr0 hc0
 have H : ((slices_Index_int_int.f k l0 a1).bind fun t263 => (some (decide (t263 ≥ 0)))) = some r := h
 clear h
 replace H := Option.bind_eq_some_iff.mp H
 obtain ⟨t263, A30, H⟩ := H
 replace H : (some (decide (t263 ≥ 0))) = some r := H
 have A3 := Aside0.mk A30
 clear A30
 obtain rfl := Option.some.inj H
 go_enter Try.func55, Try.ntmps55
 go_wp2_with (first | ((with_reducible refine gate_callee (f := 82) rfl ?_); refine gL (some 7) Try.func82 #[.slice A0 l0.length c0, .int .i64 a1] ?_; (with_reducible refine (slices_Index_int_int.calls k _ _ l0 a1 t263 _ ?side1 ?side2 A3.out).mono ?_); (case side1 => exact cS HR0.out); (case side2 => exact HC0.out); rintro e w' ⟨rfl, ⟨nd, rfl⟩⟩; refine ⟨_, rfl, ?_⟩))
 go_ret
 exact ⟨by first | rfl | (simp; done) | (simp [*]; done), by repeat (first | exact Drawn0.refl _ | apply Drawn0.step)⟩

end Go.Proofs.Ytbgpnendblmdaaa.PFnJoins
