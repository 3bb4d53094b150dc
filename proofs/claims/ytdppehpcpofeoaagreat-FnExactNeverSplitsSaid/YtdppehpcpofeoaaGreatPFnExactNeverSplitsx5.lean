-- Written by myprint.py (a program of this session, over the kit's print): not trusted, Lean checks it.
import Derived.Test.YtdppehpcpofeoaaGreatPFnExactNeverSplitsx0
import Derived.Test.YtdppehpcpofeoaaGreatPFnExactNeverSplitsx1
import Derived.Test.YtdppehpcpofeoaaGreatPFnExactNeverSplitsx2
import Derived.Test.YtdppehpcpofeoaaGreatPFnExactNeverSplitsx4
namespace Go.Proofs.YtdppehpcpofeoaaGreat.PFnExactNeverSplits
open Go.RowKit Go.Proofs.YtdppehpcpofeoaaGreatW.PrintWords Go.Proofs.YtdppehpcpofeoaaGreatW.PrintLast Go.Proofs.YtdppehpcpofeoaaGreatW.PrintMore
attribute [local go_sem] max2_int min2_int max_two min_two max_three min_three max_four min_four   -- for this text's walks alone
set_option linter.unusedVariables false
set_option linter.unusedSimpArgs false

/-! ### spec_UniformAfter: function 31 -/
mutual
def spec_UniformAfter.j0 : Nat → Int → Bool → Int → Int → Int → Int → Option (Int)
 | 0, _, _, _, _, _, _ => none
 | k + 1, x1, x16, x259000, x259001, x259002, x259003 => if x16 = true then (some (-1)) else ((spec_WritesReg.f x259000 x259001 x259002 x259003).bind fun t261 => (if t261 < 0 then (some x1) else (if x259000 = 8 then (spec_UniformAfter.j1 k x1 t261 false x259000 x259001 x259002 x259003) else (spec_UniformAfter.j1 k x1 t261 (x259000 != 13) x259000 x259001 x259002 x259003))))
def spec_UniformAfter.j1 : Nat → Int → Int → Bool → Int → Int → Int → Int → Option (Int)
 | 0, _, _, _, _, _, _, _ => none
 | k + 1, x1, x5, x6, x259000, x259001, x259002, x259003 => (spec_ReadsRegs.f k x259000 x259001 x259002 x259003).bind fun t262 => (spec_UniformAfter.l0 k x1 x5 x6 t262 0)
def spec_UniformAfter.l0 : Nat → Int → Int → Bool → List Int → Int → Option (Int)
 | 0, _, _, _, _, _ => none
 | k + 1, x1, x5, x6, x7, x8 => if x8 < (x7.length : Int) then (if x6 = true then (if 0 ≤ x8 then (if 0 ≤ (rd x7 x8) then (spec_UniformAfter.l0 k x1 x5 ((Go.bits .and .i64 (shr .i64 x1 (rd x7 x8)) 1) == 1) x7 (wrap64 (x8 + 1))) else (none)) else (none)) else (spec_UniformAfter.l0 k x1 x5 false x7 (wrap64 (x8 + 1)))) else (if x6 = true then (if 0 ≤ x5 then (some (Go.bits .or .i64 x1 (shl .i64 1 x5))) else (none)) else (if 0 ≤ x5 then (some (Go.bits .andNot .i64 x1 (shl .i64 1 x5))) else (none)))
end
def spec_UniformAfter.f (k : Nat) (a0_0 : Int) (a0_1 : Int) (a0_2 : Int) (a0_3 : Int) (a1 : Int) : Option (Int) := (spec_l01In.f a1 0 15).bind fun t259 => (if t259 = true then ((spec_InsOk.f k a0_0 a0_1 a0_2 a0_3 32).bind fun t260 => (spec_UniformAfter.j0 k a1 (!t260) a0_0 a0_1 a0_2 a0_3)) else (spec_UniformAfter.j0 k a1 true a0_0 a0_1 a0_2 a0_3))
theorem spec_UniformAfter.mono_l : ∀ k, (∀ y0 y1 y2 y3 y4 y5, LeO (spec_UniformAfter.j0 k y0 y1 y2 y3 y4 y5) (spec_UniformAfter.j0 (k + 1) y0 y1 y2 y3 y4 y5)) ∧ (∀ y0 y1 y2 y3 y4 y5 y6, LeO (spec_UniformAfter.j1 k y0 y1 y2 y3 y4 y5 y6) (spec_UniformAfter.j1 (k + 1) y0 y1 y2 y3 y4 y5 y6)) ∧ (∀ y0 y1 y2 y3 y4, LeO (spec_UniformAfter.l0 k y0 y1 y2 y3 y4) (spec_UniformAfter.l0 (k + 1) y0 y1 y2 y3 y4))
 | 0 => ⟨fun _ _ _ _ _ _ r h => by simp [spec_UniformAfter.j0] at h, fun _ _ _ _ _ _ _ r h => by simp [spec_UniformAfter.j1] at h, fun _ _ _ _ _ r h => by simp [spec_UniformAfter.l0] at h⟩
 | k + 1 => by
  obtain ⟨ih0, ih1, ih2⟩ := spec_UniformAfter.mono_l k
  refine ⟨?_, ?_, ?_⟩
  intro y0 y1 y2 y3 y4 y5;unfold spec_UniformAfter.j0;rotate_left
  intro y0 y1 y2 y3 y4 y5 y6;unfold spec_UniformAfter.j1;rotate_left
  intro y0 y1 y2 y3 y4;unfold spec_UniformAfter.l0;rotate_left
  all_goals repeat' first
  | (with_reducible exact ih0 _ _ _ _ _ _)
  | (with_reducible exact ih1 _ _ _ _ _ _ _)
  | (with_reducible exact ih2 _ _ _ _ _)
  | (with_reducible exact spec_InsOk.mono _ _ _ _ _ _)
  | (with_reducible exact spec_ReadsRegs.mono _ _ _ _ _)
  | (with_reducible exact LeO.refl _)
  | (with_reducible exact LeO.none _)
  | (with_reducible refine LeO.ite ?_ ?_)
  | (with_reducible refine LeO.bind ?_ (fun _ => ?_))
  | exact ih0 _ _ _ _ _ _
  | exact ih1 _ _ _ _ _ _ _
  | exact ih2 _ _ _ _ _
  | exact spec_InsOk.mono _ _ _ _ _ _
  | exact spec_ReadsRegs.mono _ _ _ _ _
  | exact LeO.none _
  | refine LeO.ite ?_ ?_
  | refine LeO.bind ?_ (fun _ => ?_)
theorem spec_UniformAfter.mono : ∀ a0 a1 a2 a3 a4 k, LeO (spec_UniformAfter.f k a0 a1 a2 a3 a4) (spec_UniformAfter.f (k + 1) a0 a1 a2 a3 a4) := by
 intro a0 a1 a2 a3 a4 k
 obtain ⟨ih0, ih1, ih2⟩ := spec_UniformAfter.mono_l k
 unfold spec_UniformAfter.f
 repeat' first
   | (with_reducible exact ih0 _ _ _ _ _ _)
   | (with_reducible exact ih1 _ _ _ _ _ _ _)
   | (with_reducible exact ih2 _ _ _ _ _)
   | (with_reducible exact spec_InsOk.mono _ _ _ _ _ _)
   | (with_reducible exact spec_ReadsRegs.mono _ _ _ _ _)
   | (with_reducible exact LeO.refl _)
   | (with_reducible exact LeO.none _)
   | (with_reducible refine LeO.ite ?_ ?_)
   | (with_reducible refine LeO.bind ?_ (fun _ => ?_))
   | exact ih0 _ _ _ _ _ _
   | exact ih1 _ _ _ _ _ _ _
   | exact ih2 _ _ _ _ _
   | exact spec_InsOk.mono _ _ _ _ _ _
   | exact spec_ReadsRegs.mono _ _ _ _ _
   | exact LeO.none _
   | refine LeO.ite ?_ ?_
   | refine LeO.bind ?_ (fun _ => ?_)
set_option maxHeartbeats 8000000 in
set_option maxRecDepth 100000 in
theorem spec_UniformAfter.calls (k : Nat) (a0_0 : Int) (a0_1 : Int) (a0_2 : Int) (a0_3 : Int) (a1 : Int) (r : Int) (w : World) (h : spec_UniformAfter.f k a0_0 a0_1 a0_2 a0_3 a1 = some r) :
  Calls Tryz.prog 31 #[.agg #[.int .i64 a0_0, .int .i64 a0_1, .int .i64 a0_2, .int .i64 a0_3], .int .i64 a1] w fun e w' => e = .returned (.int .i64 r) ∧ Below w.heap.size w w' := by
 have hu38 := Tryz.underlying38
 have HB := Aside0.mk (Below.refl w.heap.size w)
 have H : ((spec_l01In.f a1 0 15).bind fun t259 => (if t259 = true then ((spec_InsOk.f k a0_0 a0_1 a0_2 a0_3 32).bind fun t260 => (spec_UniformAfter.j0 k a1 (!t260) a0_0 a0_1 a0_2 a0_3)) else (spec_UniformAfter.j0 k a1 true a0_0 a0_1 a0_2 a0_3))) = some r := h
 clear h
 have HC3 := Aside0.mk H
 clear H
 go_enter Tryz.func31, Tryz.ntmps31
 go_upto_region 1 with (first | ((with_reducible refine gate_dst (N := 2) rfl ?_); refine box_event ?hg (N := 2) ?hd (cs := #[.int .i64 a0_0, .int .i64 a0_1, .int .i64 a0_2, .int .i64 a0_3]) (t := 38) ?hr ?_; (case hd => rfl); (case hg => rfl); (case hr => first | (go_simp; done) | (go_simp; rfl)); intro gb258 hg w4 hbox hb; have BK258 := Aside0.mk (hbox); have GW258 := Aside0.mk ((by rw [hg]; exact (below_size bw) : w.heap.size ≤ gb258)); have GE258 := Aside0.mk ((by rw [hg]; exact (below_size bw) : w.heap.size ≤ gb258)); replace HB := Aside0.mk (below_step bw hb); clear hb hbox hg))
 (try simp only [Act.put, List.setIfInBounds_toArray, List.set_cons_zero, List.set_cons_succ])
 go_cut [16] (fun v16 wc => ∃ (kq : Nat) (x16_2 : Bool), v16 = .bool x16_2 ∧ Aside0 (spec_UniformAfter.j0 kq a1 x16_2 a0_0 a0_1 a0_2 a0_3 = some r) ∧ Aside0 (kq ≤ k) ∧ Aside0 (wc.heap[gb258]? = some (.cells #[.int .i64 a0_0, .int .i64 a0_1, .int .i64 a0_2, .int .i64 a0_3] 38 (0, 0))) ∧ Aside0 (Below w.heap.size w wc))
 case first =>
  have H := HC3.out
  clear HC3
  replace H := Option.bind_eq_some_iff.mp H
  obtain ⟨t259, A50, H⟩ := H
  replace H : (if t259 = true then ((spec_InsOk.f k a0_0 a0_1 a0_2 a0_3 32).bind fun t260 => (spec_UniformAfter.j0 k a1 (!t260) a0_0 a0_1 a0_2 a0_3)) else (spec_UniformAfter.j0 k a1 true a0_0 a0_1 a0_2 a0_3)) = some r := H
  have A5 := Aside0.mk A50
  clear A50
  by_cases c6 : t259 = true
  ·subst c6
   have H1 : ((spec_InsOk.f k a0_0 a0_1 a0_2 a0_3 32).bind fun t260 => (spec_UniformAfter.j0 k a1 (!t260) a0_0 a0_1 a0_2 a0_3)) = some r := by rw [if_pos rfl] at H; exact H
   clear H
   have H := H1
   clear H1
   replace H := Option.bind_eq_some_iff.mp H
   obtain ⟨t260, A70, H⟩ := H
   replace H : (spec_UniformAfter.j0 k a1 (!t260) a0_0 a0_1 a0_2 a0_3) = some r := H
   have A7 := Aside0.mk A70
   clear A70
   have H' := Aside0.mk H
   clear H
   go_wp2_with (first | ((with_reducible refine gate_callee (f := 53) rfl ?_); refine gL (some 10) Tryz.func53 #[.int .i64 a1, .int .i64 0, .int .i64 15] ?_; (with_reducible refine (spec_l01In.calls a1 0 15 true _ A5.out).mono ?_); rintro e w' ⟨rfl, ⟨nd, rfl⟩⟩; refine ⟨_, rfl, ?_⟩; have hcz8_0 : w4.cell? ⟨gb258, 0, none⟩ = some (.int .i64 a0_0) := (blk_cell BK258.out 0).trans rfl; have hcz8_1 : w4.cell? ⟨gb258, 1, none⟩ = some (.int .i64 a0_1) := (blk_cell BK258.out 1).trans rfl; have hcz8_2 : w4.cell? ⟨gb258, 2, none⟩ = some (.int .i64 a0_2) := (blk_cell BK258.out 2).trans rfl; have hcz8_3 : w4.cell? ⟨gb258, 3, none⟩ = some (.int .i64 a0_3) := (blk_cell BK258.out 3).trans rfl; have hfz8_0 := blk_frozen BK258.out 0; have hfz8_1 := blk_frozen BK258.out 1; have hfz8_2 := blk_frozen BK258.out 2; have hfz8_3 := blk_frozen BK258.out 3) | (go_at_call 54; (with_reducible refine (spec_InsOk.calls k a0_0 a0_1 a0_2 a0_3 32 t260 _ A7.out).mono ?_); rintro e w9 ⟨rfl, hb⟩; replace BK258 := Aside0.mk (blk_below (g := gb258) (o := .cells #[.int .i64 a0_0, .int .i64 a0_1, .int .i64 a0_2, .int .i64 a0_3] 38 (0, 0)) (bS BK258.out) hb); replace HB := Aside0.mk (below_step bx hb); (try clear hb)))
   go_meet
   case rel => exact ⟨_, (!t260), tR, H', ⟨by first | omega | exact Nat.le_refl _⟩, ⟨bS BK258.out⟩, ⟨bx⟩⟩
  ·replace c6 := Bool.eq_false_iff.mpr c6
   subst c6
   have H1 : (spec_UniformAfter.j0 k a1 true a0_0 a0_1 a0_2 a0_3) = some r := by rw [if_neg (show ¬ (false = true) by decide)] at H; exact H
   clear H
   have H := H1
   clear H1
   have H' := Aside0.mk H
   clear H
   go_wp2_with (first | ((with_reducible refine gate_callee (f := 53) rfl ?_); refine gL (some 10) Tryz.func53 #[.int .i64 a1, .int .i64 0, .int .i64 15] ?_; (with_reducible refine (spec_l01In.calls a1 0 15 false _ A5.out).mono ?_); rintro e w' ⟨rfl, ⟨nd, rfl⟩⟩; refine ⟨_, rfl, ?_⟩))
   go_meet
   case rel => exact ⟨_, (true), tR, H', ⟨by first | omega | exact Nat.le_refl _⟩, ⟨bS BK258.out⟩, ⟨bx⟩⟩
 case rest =>
  clear HC3
  try clear p2;try clear c3;try clear c5;try clear c6;try clear hcz8_0;try clear hcz8_1;try clear hcz8_2;try clear hcz8_3;try clear hfz8_0;try clear hfz8_1;try clear hfz8_2;try clear hfz8_3
  obtain ⟨kq, x16_2, rfl, HA, HJ2, BK258, HB⟩ := hcut
  cases kq with
  | zero => exact absurd HA.out (by simp [spec_UniformAfter.j0])
  | succ kj2 =>
   have H := HA.out
   clear HA
   simp only [spec_UniformAfter.j0] at H
   by_cases c10 : x16_2 = true
   ·subst c10
    have H1 : (some (-1)) = some r := by rw [if_pos rfl] at H; exact H
    clear H
    have H := H1
    clear H1
    obtain rfl := Option.some.inj H
    go_wp2
    go_ret
    exact ⟨eR, bx⟩
   ·replace c10 := Bool.eq_false_iff.mpr c10
    subst c10
    have H1 : ((spec_WritesReg.f a0_0 a0_1 a0_2 a0_3).bind fun t261 => (if t261 < 0 then (some a1) else (if a0_0 = 8 then (spec_UniformAfter.j1 kj2 a1 t261 false a0_0 a0_1 a0_2 a0_3) else (spec_UniformAfter.j1 kj2 a1 t261 (a0_0 != 13) a0_0 a0_1 a0_2 a0_3)))) = some r := by rw [if_neg (show ¬ (false = true) by decide)] at H; exact H
    clear H
    have H := H1
    clear H1
    replace H := Option.bind_eq_some_iff.mp H
    obtain ⟨t261, A110, H⟩ := H
    replace H : (if t261 < 0 then (some a1) else (if a0_0 = 8 then (spec_UniformAfter.j1 kj2 a1 t261 false a0_0 a0_1 a0_2 a0_3) else (spec_UniformAfter.j1 kj2 a1 t261 (a0_0 != 13) a0_0 a0_1 a0_2 a0_3))) = some r := H
    have A11 := Aside0.mk A110
    clear A110
    by_cases c12 : t261 < 0
    ·rw [if_pos c12] at H
     have c12b0 : decide (t261 < 0) = true := decide_eq_true c12
     clear c12
     obtain rfl := Option.some.inj H
     have hcz13_0 : wc.cell? ⟨gb258, 0, none⟩ = some (.int .i64 a0_0) := (blk_cell BK258.out 0).trans rfl
     have hcz13_1 : wc.cell? ⟨gb258, 1, none⟩ = some (.int .i64 a0_1) := (blk_cell BK258.out 1).trans rfl
     have hcz13_2 : wc.cell? ⟨gb258, 2, none⟩ = some (.int .i64 a0_2) := (blk_cell BK258.out 2).trans rfl
     have hcz13_3 : wc.cell? ⟨gb258, 3, none⟩ = some (.int .i64 a0_3) := (blk_cell BK258.out 3).trans rfl
     have hfz13_0 := blk_frozen BK258.out 0
     have hfz13_1 := blk_frozen BK258.out 1
     have hfz13_2 := blk_frozen BK258.out 2
     have hfz13_3 := blk_frozen BK258.out 3
     go_wp2_with (first | ((with_reducible refine gate_callee (f := 55) rfl ?_); refine gL (some 18) Tryz.func55 #[.agg #[.int .i64 a0_0, .int .i64 a0_1, .int .i64 a0_2, .int .i64 a0_3]] ?_; (with_reducible refine (spec_WritesReg.calls a0_0 a0_1 a0_2 a0_3 t261 _ A11.out).mono ?_); rintro e w14 ⟨rfl, hb⟩; refine ⟨_, rfl, ?_⟩; replace BK258 := Aside0.mk (blk_below (g := gb258) (o := .cells #[.int .i64 a0_0, .int .i64 a0_1, .int .i64 a0_2, .int .i64 a0_3] 38 (0, 0)) (bS BK258.out) hb); replace HB := Aside0.mk (below_step bx hb); (try clear hb)))
     go_ret
     exact ⟨eR, bx⟩
    ·rw [if_neg c12] at H
     have c12b0 : decide (t261 < 0) = false := decide_eq_false c12
     clear c12
     have HC15 := Aside0.mk H
     clear H
     have hcz16_0 : wc.cell? ⟨gb258, 0, none⟩ = some (.int .i64 a0_0) := (blk_cell BK258.out 0).trans rfl
     have hcz16_1 : wc.cell? ⟨gb258, 1, none⟩ = some (.int .i64 a0_1) := (blk_cell BK258.out 1).trans rfl
     have hcz16_2 : wc.cell? ⟨gb258, 2, none⟩ = some (.int .i64 a0_2) := (blk_cell BK258.out 2).trans rfl
     have hcz16_3 : wc.cell? ⟨gb258, 3, none⟩ = some (.int .i64 a0_3) := (blk_cell BK258.out 3).trans rfl
     have hfz16_0 := blk_frozen BK258.out 0
     have hfz16_1 := blk_frozen BK258.out 1
     have hfz16_2 := blk_frozen BK258.out 2
     have hfz16_3 := blk_frozen BK258.out 3
     go_upto_region 6 with (first | ((with_reducible refine gate_callee (f := 55) rfl ?_); refine gL (some 18) Tryz.func55 #[.agg #[.int .i64 a0_0, .int .i64 a0_1, .int .i64 a0_2, .int .i64 a0_3]] ?_; (with_reducible refine (spec_WritesReg.calls a0_0 a0_1 a0_2 a0_3 t261 _ A11.out).mono ?_); rintro e w17 ⟨rfl, hb⟩; refine ⟨_, rfl, ?_⟩; replace BK258 := Aside0.mk (blk_below (g := gb258) (o := .cells #[.int .i64 a0_0, .int .i64 a0_1, .int .i64 a0_2, .int .i64 a0_3] 38 (0, 0)) (bS BK258.out) hb); replace HB := Aside0.mk (below_step bx hb); (try clear hb)))
     (try simp only [Act.put, List.setIfInBounds_toArray, List.set_cons_zero, List.set_cons_succ])
     go_cut [6] (fun v6 wc => ∃ (kq : Nat) (x6_14 : Bool), v6 = .bool x6_14 ∧ Aside0 (spec_UniformAfter.j1 kq a1 t261 x6_14 a0_0 a0_1 a0_2 a0_3 = some r) ∧ Aside0 (kq ≤ kj2) ∧ Aside0 (wc.heap[gb258]? = some (.cells #[.int .i64 a0_0, .int .i64 a0_1, .int .i64 a0_2, .int .i64 a0_3] 38 (0, 0))) ∧ Aside0 (Below w.heap.size w wc))
     case first =>
      have H := HC15.out
      clear HC15
      by_cases c18 : a0_0 = 8
      ·rw [if_pos c18] at H
       have c18b0 : (a0_0 == 8) = true := beq_iff_eq.mpr c18
       have c18b1 : (a0_0 != 8) = false := bne_eq_false_iff_eq.mpr c18
       clear c18
       (first | rw [c18b0] | (simp only [i64_w, i32_w]; rw [c18b0]) | skip)
       have H' := Aside0.mk H
       clear H
       have hcz19_0 : w17.cell? ⟨gb258, 0, none⟩ = some (.int .i64 a0_0) := (blk_cell BK258.out 0).trans rfl
       have hcz19_1 : w17.cell? ⟨gb258, 1, none⟩ = some (.int .i64 a0_1) := (blk_cell BK258.out 1).trans rfl
       have hcz19_2 : w17.cell? ⟨gb258, 2, none⟩ = some (.int .i64 a0_2) := (blk_cell BK258.out 2).trans rfl
       have hcz19_3 : w17.cell? ⟨gb258, 3, none⟩ = some (.int .i64 a0_3) := (blk_cell BK258.out 3).trans rfl
       have hfz19_0 := blk_frozen BK258.out 0
       have hfz19_1 := blk_frozen BK258.out 1
       have hfz19_2 := blk_frozen BK258.out 2
       have hfz19_3 := blk_frozen BK258.out 3
       go_wp2
       go_meet
       case rel => exact ⟨_, (false), tR, H', ⟨by have := HJ2.out; first | omega | exact Nat.le_refl _⟩, ⟨bS BK258.out⟩, ⟨bx⟩⟩
      ·rw [if_neg c18] at H
       have c18b0 : (a0_0 == 8) = false := beq_eq_false_iff_ne.mpr c18
       have c18b1 : (a0_0 != 8) = true := bne_iff_ne.mpr c18
       (first | rw [c18b0] | (simp only [i64_w, i32_w]; rw [c18b0]) | skip)
       have H' := Aside0.mk H
       clear H
       have hcz20_0 : w17.cell? ⟨gb258, 0, none⟩ = some (.int .i64 a0_0) := (blk_cell BK258.out 0).trans rfl
       have hcz20_1 : w17.cell? ⟨gb258, 1, none⟩ = some (.int .i64 a0_1) := (blk_cell BK258.out 1).trans rfl
       have hcz20_2 : w17.cell? ⟨gb258, 2, none⟩ = some (.int .i64 a0_2) := (blk_cell BK258.out 2).trans rfl
       have hcz20_3 : w17.cell? ⟨gb258, 3, none⟩ = some (.int .i64 a0_3) := (blk_cell BK258.out 3).trans rfl
       have hfz20_0 := blk_frozen BK258.out 0
       have hfz20_1 := blk_frozen BK258.out 1
       have hfz20_2 := blk_frozen BK258.out 2
       have hfz20_3 := blk_frozen BK258.out 3
       go_wp2
       go_meet
       case rel => exact ⟨_, ((a0_0 != 13)), tR, H', ⟨by have := HJ2.out; first | omega | exact Nat.le_refl _⟩, ⟨bS BK258.out⟩, ⟨bx⟩⟩
     case rest =>
      clear HC15
      try clear c1;try clear p2;try clear c3;try clear c5;try clear c6;try clear c10;try clear c12;try clear c12b0;try clear c18;try clear c18b0;try clear c18b1;try clear hcz13_0;try clear hcz13_1;try clear hcz13_2;try clear hcz13_3;try clear hcz16_0;try clear hcz16_1;try clear hcz16_2;try clear hcz16_3;try clear hcz19_0;try clear hcz19_1;try clear hcz19_2;try clear hcz19_3;try clear hcz20_0;try clear hcz20_1;try clear hcz20_2;try clear hcz20_3;try clear hcz8_0;try clear hcz8_1;try clear hcz8_2;try clear hcz8_3;try clear hfz13_0;try clear hfz13_1;try clear hfz13_2;try clear hfz13_3;try clear hfz16_0;try clear hfz16_1;try clear hfz16_2;try clear hfz16_3;try clear hfz19_0;try clear hfz19_1;try clear hfz19_2;try clear hfz19_3;try clear hfz20_0;try clear hfz20_1;try clear hfz20_2;try clear hfz20_3;try clear hfz8_0;try clear hfz8_1;try clear hfz8_2;try clear hfz8_3;try clear p2
      obtain ⟨kq, x6_14, rfl, HA, HJ14, BK258, HB⟩ := hcut
      cases kq with
      | zero => exact absurd HA.out (by simp [spec_UniformAfter.j1])
      | succ kj14 =>
       have H := HA.out
       clear HA
       simp only [spec_UniformAfter.j1] at H
       replace H := Option.bind_eq_some_iff.mp H
       obtain ⟨t262, A210, H⟩ := H
       replace H : (spec_UniformAfter.l0 kj14 a1 t261 x6_14 t262 0) = some r := H
       have A21 := Aside0.mk A210
       clear A210
       have H' := Aside0.mk H
       clear H
       have hcz22_0 : wc.cell? ⟨gb258, 0, none⟩ = some (.int .i64 a0_0) := (blk_cell BK258.out 0).trans rfl
       have hcz22_1 : wc.cell? ⟨gb258, 1, none⟩ = some (.int .i64 a0_1) := (blk_cell BK258.out 1).trans rfl
       have hcz22_2 : wc.cell? ⟨gb258, 2, none⟩ = some (.int .i64 a0_2) := (blk_cell BK258.out 2).trans rfl
       have hcz22_3 : wc.cell? ⟨gb258, 3, none⟩ = some (.int .i64 a0_3) := (blk_cell BK258.out 3).trans rfl
       have hfz22_0 := blk_frozen BK258.out 0
       have hfz22_1 := blk_frozen BK258.out 1
       have hfz22_2 := blk_frozen BK258.out 2
       have hfz22_3 := blk_frozen BK258.out 3
       go_wp2_with (first | ((with_reducible refine gate_callee (f := 56) rfl ?_); refine gL (some 31) Tryz.func56 #[.agg #[.int .i64 a0_0, .int .i64 a0_1, .int .i64 a0_2, .int .i64 a0_3]] ?_; (with_reducible refine (spec_ReadsRegs.calls kj14 a0_0 a0_1 a0_2 a0_3 t262 _ A21.out).mono ?_); rintro e w23 ⟨v263, rfl, ho0, hb⟩; refine ⟨_, rfl, ?_⟩; have HO264 := Aside0.mk (Kd.R_lower ho0 (below_size bx)); replace BK258 := Aside0.mk (blk_below (g := gb258) (o := .cells #[.int .i64 a0_0, .int .i64 a0_1, .int .i64 a0_2, .int .i64 a0_3] 38 (0, 0)) (bS BK258.out) hb); replace HB := Aside0.mk (below_step bx hb); (try clear hb); (try clear ho0)))
       go_loopg [6, 8] kj14 (fun kq v6 v8 w' => ∃ (x6_3 : Bool) (x8_3 : Int), v6 = .bool x6_3 ∧ v8 = .int .i64 x8_3 ∧ Aside0 (spec_UniformAfter.l0 kq a1 t261 x6_3 t262 x8_3 = some r) ∧ Aside0 (kq ≤ kj14) ∧ Aside0 (Kd.R (Kd.int .i64) 3 w' w.heap.size (fun _ => True) v263 t262) ∧ Aside0 (w'.heap[gb258]? = some (.cells #[.int .i64 a0_0, .int .i64 a0_1, .int .i64 a0_2, .int .i64 a0_3] 38 (0, 0))) ∧ Aside0 (Below w.heap.size w w'))
       case atStart => exact ⟨(x6_14), (0), tR, tR, H', ⟨Nat.le_refl _⟩, ⟨rS HO264.out⟩, ⟨bS BK258.out⟩, ⟨bx⟩⟩
       case round =>
        clear H'
        try clear c1;try clear p2;try clear c3;try clear c5;try clear c6;try clear c10;try clear c12;try clear c12b0;try clear c18;try clear c18b0;try clear c18b1;try clear hcz13_0;try clear hcz13_1;try clear hcz13_2;try clear hcz13_3;try clear hcz16_0;try clear hcz16_1;try clear hcz16_2;try clear hcz16_3;try clear hcz19_0;try clear hcz19_1;try clear hcz19_2;try clear hcz19_3;try clear hcz20_0;try clear hcz20_1;try clear hcz20_2;try clear hcz20_3;try clear hcz22_0;try clear hcz22_1;try clear hcz22_2;try clear hcz22_3;try clear hcz8_0;try clear hcz8_1;try clear hcz8_2;try clear hcz8_3;try clear hfz13_0;try clear hfz13_1;try clear hfz13_2;try clear hfz13_3;try clear hfz16_0;try clear hfz16_1;try clear hfz16_2;try clear hfz16_3;try clear hfz19_0;try clear hfz19_1;try clear hfz19_2;try clear hfz19_3;try clear hfz20_0;try clear hfz20_1;try clear hfz20_2;try clear hfz20_3;try clear hfz22_0;try clear hfz22_1;try clear hfz22_2;try clear hfz22_3;try clear hfz8_0;try clear hfz8_1;try clear hfz8_2;try clear hfz8_3;try clear p2
        obtain ⟨x6_3, x8_3, rfl, rfl, HA, HK3, HO_7, BK258, HB⟩ := hrel
        cases gk with
        | zero => exact absurd HA.out (by simp [spec_UniformAfter.l0])
        | succ k3 =>
         have H := HA.out
         clear HA
         simp only [spec_UniformAfter.l0] at H
         by_cases c24 : x8_3 < (t262.length : Int)
         ·rw [if_pos c24] at H
          have c24b0 : decide (x8_3 < (t262.length : Int)) = true := decide_eq_true c24
          clear c24
          by_cases c25 : x6_3 = true
          ·subst c25
           have H1 : (if 0 ≤ x8_3 then (if 0 ≤ (rd t262 x8_3) then (spec_UniformAfter.l0 k3 a1 t261 ((Go.bits .and .i64 (shr .i64 a1 (rd t262 x8_3)) 1) == 1) t262 (wrap64 (x8_3 + 1))) else (none)) else (none)) = some r := by rw [if_pos rfl] at H; exact H
           clear H
           have H := H1
           clear H1
           by_cases c26 : 0 ≤ x8_3
           ·rw [if_pos c26] at H
            have c26b0 : decide (0 ≤ x8_3) = true := decide_eq_true c26
            clear c26
            by_cases c27 : 0 ≤ (rd t262 x8_3)
            ·rw [if_pos c27] at H
             have c27b0 := eq_true c27
             have c27b1 : decide (0 ≤ (rd t262 x8_3)) = true := decide_eq_true c27
             clear c27
             obtain ⟨ji28, hji28⟩ : ∃ j_ : Int, (shr .i64 a1 (rd t262 x8_3)) = j_ := ⟨_, rfl⟩
             replace H : (spec_UniformAfter.l0 k3 a1 t261 ((Go.bits .and .i64 (ji28) 1) == 1) t262 (wrap64 (x8_3 + 1))) = some r := by first | (rw [hji28] at H; exact H) | (simp only [hji28] at H ⊢; exact H)
             have hji28_ : (a1 / 2 ^ min (rd t262 x8_3).toNat 64) = ji28 := hji28
             have hji28z : (rd t262 x8_3) ≤ 64 → (a1 / 2 ^ (rd t262 x8_3).toNat) = ji28 := shr_small hji28
             have H' := Aside0.mk H
             clear H
             obtain ⟨Ao29, co29, eo29⟩ := Kd.R_slice HO_7.out
             subst eo29
             have p265 : 0 ≤ (x8_3 : Int) := dT
             have q265 : x8_3 < (t262.length : Int) := dT
             obtain ⟨ad265, e265, hx265_0⟩ := Kd.at_int (Kd.R_reads' HO_7.out).2.2 x8_3 p265 q265
             cases e265
             replace p265 := eq_true p265
             replace q265 := eq_true q265
             go_wp2
             go_roundg k3
             case measure => have := HJ2.out; have := HJ14.out; have := HK3.out; omega
             case rel => exact ⟨(((Go.bits .and .i64 (ji28) 1) == 1)), (wrap64 (x8_3 + 1)), (by first | rfl | (simp; done) | (simp only [← hji28] <;> (first | rfl | simp)) | (simp [*]; done)), tR, H', ⟨by have := HJ2.out; have := HJ14.out; have := HK3.out; omega⟩, ⟨rS HO_7.out⟩, ⟨bS BK258.out⟩, ⟨bx⟩⟩
            ·rw [if_neg c27] at H
             exact absurd H (by simp)
           ·rw [if_neg c26] at H
            exact absurd H (by simp)
          ·replace c25 := Bool.eq_false_iff.mpr c25
           subst c25
           have H1 : (spec_UniformAfter.l0 k3 a1 t261 false t262 (wrap64 (x8_3 + 1))) = some r := by rw [if_neg (show ¬ (false = true) by decide)] at H; exact H
           clear H
           have H := H1
           clear H1
           have H' := Aside0.mk H
           clear H
           obtain ⟨Ao30, co30, eo30⟩ := Kd.R_slice HO_7.out
           subst eo30
           go_wp2
           go_roundg k3
           case measure => have := HJ2.out; have := HJ14.out; have := HK3.out; omega
           case rel => exact ⟨(false), (wrap64 (x8_3 + 1)), tR, tR, H', ⟨by have := HJ2.out; have := HJ14.out; have := HK3.out; omega⟩, ⟨rS HO_7.out⟩, ⟨bS BK258.out⟩, ⟨bx⟩⟩
         ·rw [if_neg c24] at H
          have c24b0 : decide (x8_3 < (t262.length : Int)) = false := decide_eq_false c24
          clear c24
          by_cases c31 : x6_3 = true
          ·subst c31
           have H1 : (if 0 ≤ t261 then (some (Go.bits .or .i64 a1 (shl .i64 1 t261))) else (none)) = some r := by rw [if_pos rfl] at H; exact H
           clear H
           have H := H1
           clear H1
           by_cases c32 : 0 ≤ t261
           ·rw [if_pos c32] at H
            have c32b0 := eq_true c32
            have c32b1 : decide (0 ≤ t261) = true := decide_eq_true c32
            clear c32
            obtain ⟨ji33, hji33⟩ : ∃ j_ : Int, (shl .i64 1 t261) = j_ := ⟨_, rfl⟩
            replace H : (some (Go.bits .or .i64 a1 (ji33))) = some r := by first | (rw [hji33] at H; exact H) | (simp only [hji33] at H ⊢; exact H)
            have hji33_ : (IntKind.i64.wrap (1 * 2 ^ min t261.toNat 64)) = ji33 := hji33
            have hji33z : t261 ≤ 64 → (IntKind.i64.wrap (1 * 2 ^ t261.toNat)) = ji33 := shl_small hji33
            have hji33u : (IntKind.i64.wrap (2 ^ min t261.toNat 64)) = ji33 := by have h_ := hji33_; rw [Int.one_mul] at h_; exact h_
            have hji33v : t261 ≤ 64 → (IntKind.i64.wrap (2 ^ t261.toNat)) = ji33 := fun hle_ => by have h_ := hji33z hle_; rw [Int.one_mul] at h_; exact h_
            have hji33y : (wrap64 (1 * 2 ^ min t261.toNat 64)) = ji33 := (i64_w _).symm.trans hji33_
            have hji33x : t261 ≤ 64 → (wrap64 (1 * 2 ^ t261.toNat)) = ji33 := fun h_ => (i64_w _).symm.trans (hji33z h_)
            obtain rfl := Option.some.inj H
            obtain ⟨Ao34, co34, eo34⟩ := Kd.R_slice HO_7.out
            subst eo34
            go_wp2
            go_ret
            exact ⟨by first | rfl | (simp [errW_none, errW_some] <;> rfl) | (simp only [← hji33]; first | rfl | (simp [errW_none, errW_some] <;> rfl)) | (simp [*, errW_none, errW_some] <;> rfl), bx⟩
           ·rw [if_neg c32] at H
            exact absurd H (by simp)
          ·replace c31 := Bool.eq_false_iff.mpr c31
           subst c31
           have H1 : (if 0 ≤ t261 then (some (Go.bits .andNot .i64 a1 (shl .i64 1 t261))) else (none)) = some r := by rw [if_neg (show ¬ (false = true) by decide)] at H; exact H
           clear H
           have H := H1
           clear H1
           by_cases c35 : 0 ≤ t261
           ·rw [if_pos c35] at H
            have c35b0 := eq_true c35
            have c35b1 : decide (0 ≤ t261) = true := decide_eq_true c35
            clear c35
            obtain ⟨ji36, hji36⟩ : ∃ j_ : Int, (shl .i64 1 t261) = j_ := ⟨_, rfl⟩
            replace H : (some (Go.bits .andNot .i64 a1 (ji36))) = some r := by first | (rw [hji36] at H; exact H) | (simp only [hji36] at H ⊢; exact H)
            have hji36_ : (IntKind.i64.wrap (1 * 2 ^ min t261.toNat 64)) = ji36 := hji36
            have hji36z : t261 ≤ 64 → (IntKind.i64.wrap (1 * 2 ^ t261.toNat)) = ji36 := shl_small hji36
            have hji36u : (IntKind.i64.wrap (2 ^ min t261.toNat 64)) = ji36 := by have h_ := hji36_; rw [Int.one_mul] at h_; exact h_
            have hji36v : t261 ≤ 64 → (IntKind.i64.wrap (2 ^ t261.toNat)) = ji36 := fun hle_ => by have h_ := hji36z hle_; rw [Int.one_mul] at h_; exact h_
            have hji36y : (wrap64 (1 * 2 ^ min t261.toNat 64)) = ji36 := (i64_w _).symm.trans hji36_
            have hji36x : t261 ≤ 64 → (wrap64 (1 * 2 ^ t261.toNat)) = ji36 := fun h_ => (i64_w _).symm.trans (hji36z h_)
            obtain rfl := Option.some.inj H
            obtain ⟨Ao37, co37, eo37⟩ := Kd.R_slice HO_7.out
            subst eo37
            go_wp2
            go_ret
            exact ⟨by first | rfl | (simp [errW_none, errW_some] <;> rfl) | (simp only [← hji36]; first | rfl | (simp [errW_none, errW_some] <;> rfl)) | (simp [*, errW_none, errW_some] <;> rfl), bx⟩
           ·rw [if_neg c35] at H
            exact absurd H (by simp)

/-! ### spec_l07Ok: function 77 -/
def spec_l07Ok.f (k : Nat) (l0 : List (S38)) (a1 : Int) : Option (Bool) := (spec_ProgramOk.f k l0).bind fun t266 => (if t266 = true then ((spec_l01In.f a1 0 (l0.length : Int)).bind fun t267 => (some t267)) else (some false))
theorem spec_l07Ok.mono : ∀ a0 a1 k, LeO (spec_l07Ok.f k a0 a1) (spec_l07Ok.f (k + 1) a0 a1) := by
 intro a0 a1 k
 unfold spec_l07Ok.f
 repeat' first
   | (with_reducible exact spec_ProgramOk.mono _ _)
   | (with_reducible exact LeO.refl _)
   | (with_reducible exact LeO.none _)
   | (with_reducible refine LeO.ite ?_ ?_)
   | (with_reducible refine LeO.bind ?_ (fun _ => ?_))
   | exact spec_ProgramOk.mono _ _
   | exact LeO.none _
   | refine LeO.ite ?_ ?_
   | refine LeO.bind ?_ (fun _ => ?_)
set_option maxHeartbeats 8000000 in
set_option maxRecDepth 100000 in
theorem spec_l07Ok.calls (k : Nat) (A0 : Option Addr) (c0 : Nat) (l0 : List (S38)) (a1 : Int) (r : Bool) (w : World) (hr0 : Kd.C k38 w A0 l0.length l0) (hc0 : l0.length ≤ c0) (h : spec_l07Ok.f k l0 a1 = some r) :
  Calls Tryz.prog 77 #[.slice A0 l0.length c0, .int .i64 a1] w fun e w' => e = .returned (.bool r) ∧ Below w.heap.size w w' := by
 have HR0 := Aside0.mk hr0
 have HC0 := Aside0.mk hc0
 clear hr0 hc0
 have HB := Aside0.mk (Below.refl w.heap.size w)
 have H : ((spec_ProgramOk.f k l0).bind fun t266 => (if t266 = true then ((spec_l01In.f a1 0 (l0.length : Int)).bind fun t267 => (some t267)) else (some false))) = some r := h
 clear h
 replace H := Option.bind_eq_some_iff.mp H
 obtain ⟨t266, A30, H⟩ := H
 replace H : (if t266 = true then ((spec_l01In.f a1 0 (l0.length : Int)).bind fun t267 => (some t267)) else (some false)) = some r := H
 have A3 := Aside0.mk A30
 clear A30
 by_cases c4 : t266 = true
 ·subst c4
  have H1 : ((spec_l01In.f a1 0 (l0.length : Int)).bind fun t267 => (some t267)) = some r := by rw [if_pos rfl] at H; exact H
  clear H
  have H := H1
  clear H1
  replace H := Option.bind_eq_some_iff.mp H
  obtain ⟨t267, A50, H⟩ := H
  replace H : (some t267) = some r := H
  have A5 := Aside0.mk A50
  clear A50
  obtain rfl := Option.some.inj H
  go_enter Tryz.func77, Tryz.ntmps77
  go_wp2_with (first | ((with_reducible refine gate_callee (f := 44) rfl ?_); refine gL (some 6) Tryz.func44 #[.slice A0 l0.length c0] ?_; (with_reducible refine (spec_ProgramOk.calls k _ _ l0 true _ ?side1 ?side2 A3.out).mono ?_); (case side1 => exact cS HR0.out); (case side2 => exact HC0.out); rintro e w6 ⟨rfl, hb⟩; refine ⟨_, rfl, ?_⟩; replace HB := Aside0.mk (below_step bw hb); (try clear hb)) | (go_at_call 53; (with_reducible refine (spec_l01In.calls a1 0 (l0.length : Int) t267 _ A5.out).mono ?_); rintro e w' ⟨rfl, ⟨nd, rfl⟩⟩))
  go_ret
  exact ⟨eR, bw⟩
 ·replace c4 := Bool.eq_false_iff.mpr c4
  subst c4
  have H1 : (some false) = some r := by rw [if_neg (show ¬ (false = true) by decide)] at H; exact H
  clear H
  have H := H1
  clear H1
  obtain rfl := Option.some.inj H
  go_enter Tryz.func77, Tryz.ntmps77
  go_wp2_with (first | ((with_reducible refine gate_callee (f := 44) rfl ?_); refine gL (some 6) Tryz.func44 #[.slice A0 l0.length c0] ?_; (with_reducible refine (spec_ProgramOk.calls k _ _ l0 false _ ?side1 ?side2 A3.out).mono ?_); (case side1 => exact cS HR0.out); (case side2 => exact HC0.out); rintro e w7 ⟨rfl, hb⟩; refine ⟨_, rfl, ?_⟩; replace HB := Aside0.mk (below_step bw hb); (try clear hb)))
  go_ret
  exact ⟨eR, bw⟩

/-! ### slices_Compact_int_int: function 65 -/
def compL : List Int → List Int
  | [] => []
  | [x] => [x]
  | x :: y :: r => if x = y then compL (y :: r) else x :: compL (y :: r)
def slices_Compact_int_int.f (l0 : List Int) : Option (List Int) := if l0.length ≤ 3 then some (compL l0) else none
theorem kept_putN {w W : World} {P0_ : Nat → Prop} {g : Nat} (h : Kept w W P0_) (hg : P0_ g) (o : Nat) : ∀ (vs : List Value), Kept w (W.setCells g o vs) P0_ := by
  intro vs
  induction vs generalizing W o with
  | nil => exact h
  | cons v r ih => exact ih (Kept.setCell h (.inl hg) v) (o + 1)
theorem clear_own (w : World) (g o n c : Nat) (hn : 0 < n) (hc : ∀ j, j < n → (w.cell? ⟨g, o + j, none⟩).isSome = true) (hf : ∀ j, j < n → w.frozen? ⟨g, o + j, none⟩ = false) (ty : TypeId) :
    (Builtin.clear_ #[31] ty #[.slice (some ⟨g, o, none⟩) n c]).run Tryz.prog w = .ok (.tuple #[]) (w.setCells g o (List.replicate n (.int .i64 0))) :=
  Lib.run_clear_slice w _ 3 ty (.int .i64 0) Tryz.underlying31 (fun _ => by kernel_rfl) rfl rfl g o n c hn hc hf
/-- append(v, ys...), v a queue of ints of the call's own. -/
theorem Q_app {ops : Array Oper} {rest : List Oper} {o : Oper} {a : Act} {Q' : Exit → Act → World → Prop} {w0 W : World} (base : Nat) (hgd : o.guard = none) (s x : Operand)
    (ho : o.op = .call { callee := .builtin .append, args := #[s, x], argTypes := #[31, 31] }) (v : Value) (xs ys : List Int) (A : Option Addr) (m c : Nat) (ok : Nat → Prop) (hs : a.eval s = v) (hx : a.eval x = .slice A m c)
    (HO : Kd.Q (Kd.int .i64) 3 W base ok v xs) (HR : Kd.C (Kd.int .i64) W A m ys) (hfresh : ∀ k, W.heap.size ≤ k → ok k) (HB : Below base w0 W) (hbase : base ≤ W.heap.size) (hl : (xs.length + m) * 8 ≤ 140737488355328)
    (h : ∀ v1 w1, Kd.Q (Kd.int .i64) 3 w1 base ok v1 (xs ++ ys) → Below base w0 w1 → W.grownBy w1 v.ownBlock → wpList Tryz.prog ops Q' rest (a.put o.dst v1) w1) :
    wpList Tryz.prog ops Q' (o :: rest) a W := by
  obtain ⟨i0, hi, hzz⟩ := Option.map_eq_some_iff.1 info3
  simp only [Prod.mk.injEq] at hzz
  obtain ⟨hz0, hz1, hz2⟩ := hzz
  have ht := Tryz.underlying31
  have hm : ys.length = m := HR.1
  have HB0 := HO
  obtain ⟨hok, inner, hq, hr⟩ := HO
  have hrun : ∃ v1 w1, (Builtin.append_ #[31, 31] o.type #[v, .slice A m c]).run Tryz.prog W = .ok v1 w1 ∧ Kd.Q (Kd.int .i64) 3 w1 base ok v1 (xs ++ ys) ∧ W.grownBy w1 v.ownBlock := by
    rcases Nat.eq_zero_or_pos m with h0 | h0
    · subst h0
      obtain rfl : ys = [] := List.eq_nil_of_length_eq_zero hm
      refine ⟨v, W, ?_, by rw [List.append_nil]; exact HB0, World.grownBy.refl W _⟩
      obtain ⟨B, d, e, hnd⟩ := Kd.Q_slice HB0
      subst e
      cases A <;> cases B <;> simp [Builtin.append_, run_underlying ht, sizeOf, typeInfo, hi, Builtin.lenOf, Builtin.firstCells, hnd, storeCells, loadCells, loadCellsFrom]
    · obtain ⟨ad, e, hc⟩ := HR.2.2 h0
      subst e
      have hnews : ∀ (j : Nat) (u : Value), (ys.map (Value.int .i64))[j]? = some u → W.cell? (ad.add j) = some u := by
        intro j u hu
        rw [List.getElem?_map] at hu
        obtain ⟨y, hy, rfl⟩ := Option.map_eq_some_iff.1 hu
        obtain ⟨cs, _, hk, hcs⟩ := hc j y hy
        have hk' : cs = [.int .i64 y] := hk
        have := hcs 0 (.int .i64 y) (by rw [hk']; rfl)
        rwa [show j * (Kd.int .i64).sz + 0 = j from Nat.mul_one j] at this
      obtain ⟨v1, w1, hrun, h2, hg, hat⟩ := q_append (P := Tryz.prog) W base 31 o.type 3 i0 (.int .i64 0) 1 8 ht hi hz0 hz1 hz2 rfl (by decide) v xs.length inner hq ad m c (ys.map (Value.int .i64)) (by rw [List.length_map, hm, Nat.mul_one]) hnews (by
        intro u hu
        obtain ⟨y, _, rfl⟩ := List.mem_map.1 hu
        rfl) h0 (by simp only [maxLen]; omega) (by omega) hbase
      refine ⟨v1, w1, hrun, ⟨fun k hk => ?_, inner ++ ys.map (Value.int .i64), by rw [List.length_append, hm]; exact h2, ?_⟩, hg⟩
      · rcases hat with hat | ⟨b, hb, hle⟩
        · exact hok k (hat ▸ hk)
        · rw [hb] at hk
          injection hk with hk
          exact hfresh k (by omega)
      · exact Kd.reps_append (hr.imp_ (fun _ _ hq => hq)) (Kd.reps_scalar (enc := Value.int .i64) ys)
  obtain ⟨v1, w1, hr1, h1, hg⟩ := hrun
  refine wpList_plain hgd fun K hK => ?_
  unfold Oper.wp execOp
  simp only [ho, resolve, invoke, builtin, Sem.run_bind, Sem.run_pure, Result.andThen_ok, List.map_toArray, List.map_cons, List.map_nil, hs, hx, hr1]
  exact hK _ _ (h v1 w1 h1 (HB.grown hg hbase (Kd.Q_base HB0)) hg)
/-- v[1:] of a queue that is not empty. -/
theorem Q_cut1 {W : World} {base n c : Nat} {ok : Nat → Prop} {A : Option Addr} {x : Int} {t : List Int} (h : Kd.Q (Kd.int .i64) 3 W base ok (.slice A n c) (x :: t)) :
    ∃ A' c', (∀ W', (Instr.slice 31 (.slice A n c) (some (.int .i64 1)) none none).run Tryz.prog W' = .ok (.slice A' t.length c') W') ∧ Kd.Q (Kd.int .i64) 3 W base ok (.slice A' t.length c') t := by
  obtain ⟨i0, hi, hzz⟩ := Option.map_eq_some_iff.1 info3
  simp only [Prod.mk.injEq] at hzz
  have hn : n = t.length + 1 := (Kd.Q_reads' h).1
  subst hn
  have hq := Kd.Q_drop (k := 1) h (by simp)
  have hr := cut_from (P := Tryz.prog) 31 3 .i64 Tryz.underlying31 hi 1 hzz.2.1 A (t.length + 1) c 1 (by decide) (by omega)
  exact ⟨_, _, hr, hq⟩
set_option maxHeartbeats 1000000 in
set_option maxRecDepth 100000 in
theorem slices_Compact_int_int.short (P0_ : Nat → Prop) (u9000_ : Value) (l0 : List Int) (w0 w : World) (hl : l0.length < 2) (hB : Below w0.heap.size w0 w) (ho0 : Kd.R (Kd.int .i64) 3 w w0.heap.size P0_ u9000_ l0) :
    Calls Tryz.prog 65 #[u9000_] w fun e w' => ∃ v0_ : Value, e = .returned (v0_) ∧ Kd.R (Kd.int .i64) 3 w' w0.heap.size (fun k_ => (P0_ k_ ∨ w.heap.size ≤ k_)) v0_ l0 ∧ Below w0.heap.size w0 w' ∧ Kept w w' (fun k_ => P0_ k_) := by
  have HO := Aside0.mk (Kd.R_mono ho0 (fun k_ hk => (Or.inl hk : P0_ k_ ∨ w.heap.size ≤ k_)))
  have HB := Aside0.mk hB
  obtain ⟨A, c, e⟩ := Kd.R_slice ho0
  subst e
  have hd : decide ((l0.length : Int) < 2) = true := decide_eq_true (by omega)
  clear ho0 hB
  go_enter Tryz.func65, Tryz.ntmps65
  go_wp2
  go_ret
  exact ⟨_, rfl, HO.out, HB.out, Kept.refl _ _⟩
theorem R_put_at {W : World} {base g c : Nat} {ok : Nat → Prop} {xs : List Int} (n : Nat) (hn : n = xs.length) (h : Kd.R (Kd.int .i64) 3 W base ok (.slice (some ⟨g, 0, none⟩) n c) xs) (i : Nat) (x : Int) :
    Kd.R (Kd.int .i64) 3 (W.setCell ⟨g, i, none⟩ (.int .i64 x)) base ok (.slice (some ⟨g, 0, none⟩) n c) (xs.set i x) := by
  have := (Kd.R_putg h (i : Int) x).1
  rwa [Int.toNat_natCast] at this
theorem world_isSome {w : World} {p : Addr} {v : Value} (h : w.cell? p = some v) (q : Nat) : ((w.drewN q).cell? p).isSome = true := by
  rw [World.cell?_drewN, h]; rfl
theorem world_free {w : World} {p : Addr} (h : w.frozen? p = false) (q : Nat) : (w.drewN q).frozen? p = false := by
  rw [World.frozen?_drewN]; exact h
set_option maxHeartbeats 1000000 in
set_option maxRecDepth 100000 in
theorem slices_Compact_int_int.two (P0_ : Nat → Prop) (u9000_ : Value) (x y : Int) (w0 w : World) (hB : Below w0.heap.size w0 w) (ho0 : Kd.R (Kd.int .i64) 3 w w0.heap.size P0_ u9000_ [x, y]) :
    Calls Tryz.prog 65 #[u9000_] w fun e w' => ∃ v0_ : Value, e = .returned (v0_) ∧ Kd.R (Kd.int .i64) 3 w' w0.heap.size (fun k_ => (P0_ k_ ∨ w.heap.size ≤ k_)) v0_ (compL [x, y]) ∧ Below w0.heap.size w0 w' ∧ Kept w w' (fun k_ => P0_ k_) := by
  have HO := Aside0.mk (Kd.R_mono ho0 (fun k_ hk => (Or.inl hk : P0_ k_ ∨ w.heap.size ≤ k_)))
  have HB := Aside0.mk hB
  obtain ⟨g, c, e, hg, hlt, _⟩ := Kd.R_form ho0 (by simp)
  subst e
  have HG := Aside0.mk hg
  have HP := Aside0.mk (ho0.1 g rfl)
  have hc2 : 2 ≤ c := (Kd.R_reads' ho0).2.1
  obtain ⟨c0, f0⟩ := Kd.R_celln 0 ho0 0 (by omega) (by simp)
  obtain ⟨c1, f1⟩ := Kd.R_celln 0 ho0 1 (by omega) (by simp)
  replace c0 : w.cell? ⟨g, 0, none⟩ = some (.int .i64 x) := c0
  replace c1 : w.cell? ⟨g, 1, none⟩ = some (.int .i64 y) := c1
  replace f0 : w.frozen? ⟨g, 0, none⟩ = false := f0
  replace f1 : w.frozen? ⟨g, 1, none⟩ = false := f1
  have HC1 := Aside0.mk c1
  have HF1 := Aside0.mk f1
  clear ho0 hB hg
  show Calls Tryz.prog 65 #[.slice (some ⟨g, 0, none⟩) 2 c] w _
  have e1 : ¬ c = 1 := by omega
  have q0 : 1 ≤ c := by omega
  by_cases exy : x = y
  · subst exy
    go_enter Tryz.func65, Tryz.ntmps65
    go_wp2
    refine wp_loop_rounds 2 ?_
    rw [rounds_succ]
    go_wp2
    go_quiet (fail)
    have hcl := clear_own (w.drewN nq) g 1 1 (c - 1) (by omega) (fun j hj => by obtain rfl : j = 0 := (by omega); exact world_isSome HC1.out nq) (fun j hj => by obtain rfl : j = 0 := (by omega); exact world_free HF1.out nq)
    go_wp2
    refine wp_loop_rounds 1 ?_
    rw [rounds_succ]
    go_wp2
    go_ret
    refine ⟨_, rfl, ?_, ?_, ?_⟩
    · have := Kd.R_take (R_put_at 2 rfl (Kd.R_drewN HO.out nq) 1 0) (m := 1) (by simp)
      rw [compL, if_pos rfl]
      exact this
    · exact below_set (pw_below_drewN HB.out nq) HG.out
    · exact Kept.setCell (Kept.drewN (Kept.refl _ _) nq) (.inl HP.out) _
  · have hne : (y == x) = false := beq_eq_false_iff_ne.mpr (fun h => exy h.symm)
    have HX := Aside0.mk exy
    clear exy
    go_enter Tryz.func65, Tryz.ntmps65
    go_wp2
    refine wp_loop_rounds 2 ?_
    rw [rounds_succ]
    go_wp2
    go_quiet (fail)
    go_wp2
    rw [rounds_succ]
    go_wp2
    go_ret
    refine ⟨_, rfl, ?_, pw_below_drewN HB.out nq, Kept.drewN (Kept.refl _ _) nq⟩
    rw [compL, if_neg HX.out]
    exact Kd.R_drewN HO.out nq
set_option maxHeartbeats 2000000 in
set_option maxRecDepth 100000 in
theorem slices_Compact_int_int.three (P0_ : Nat → Prop) (u9000_ : Value) (x y z : Int) (w0 w : World) (hB : Below w0.heap.size w0 w) (ho0 : Kd.R (Kd.int .i64) 3 w w0.heap.size P0_ u9000_ [x, y, z]) :
    Calls Tryz.prog 65 #[u9000_] w fun e w' => ∃ v0_ : Value, e = .returned (v0_) ∧ Kd.R (Kd.int .i64) 3 w' w0.heap.size (fun k_ => (P0_ k_ ∨ w.heap.size ≤ k_)) v0_ (compL [x, y, z]) ∧ Below w0.heap.size w0 w' ∧ Kept w w' (fun k_ => P0_ k_) := by
  have HO := Aside0.mk (Kd.R_mono ho0 (fun k_ hk => (Or.inl hk : P0_ k_ ∨ w.heap.size ≤ k_)))
  have HB := Aside0.mk hB
  obtain ⟨g, c, e, hg, hlt, _⟩ := Kd.R_form ho0 (by simp)
  subst e
  have HG := Aside0.mk hg
  have HP := Aside0.mk (ho0.1 g rfl)
  have hc2 : 3 ≤ c := (Kd.R_reads' ho0).2.1
  obtain ⟨c0, f0⟩ := Kd.R_celln 0 ho0 0 (by omega) (by simp)
  obtain ⟨c1, f1⟩ := Kd.R_celln 0 ho0 1 (by omega) (by simp)
  obtain ⟨c2, f2⟩ := Kd.R_celln 0 ho0 2 (by omega) (by simp)
  replace c0 : w.cell? ⟨g, 0, none⟩ = some (.int .i64 x) := c0
  replace c1 : w.cell? ⟨g, 1, none⟩ = some (.int .i64 y) := c1
  replace c2 : w.cell? ⟨g, 2, none⟩ = some (.int .i64 z) := c2
  replace f0 : w.frozen? ⟨g, 0, none⟩ = false := f0
  replace f1 : w.frozen? ⟨g, 1, none⟩ = false := f1
  replace f2 : w.frozen? ⟨g, 2, none⟩ = false := f2
  have HC1 := Aside0.mk c1
  have HF1 := Aside0.mk f1
  have HC2 := Aside0.mk c2
  have HF2 := Aside0.mk f2
  clear ho0 hB hg
  show Calls Tryz.prog 65 #[.slice (some ⟨g, 0, none⟩) 3 c] w _
  have e1 : ¬ c = 1 := by omega
  have e2 : ¬ c = 2 := by omega
  have q0 : 1 ≤ c := by omega
  have q1 : 2 ≤ c := by omega
  by_cases exy : x = y
  · subst exy
    by_cases exz : x = z
    · subst exz
      go_enter Tryz.func65, Tryz.ntmps65
      go_wp2
      refine wp_loop_rounds 3 ?_
      rw [rounds_succ]
      go_wp2
      go_quiet (fail)
      revert nq; intro n1
      go_wp2
      refine wp_loop_rounds 2 ?_
      rw [rounds_succ]
      go_wp2
      go_quiet (fail)
      go_wp2
      rw [rounds_succ]
      have hcl := clear_own (w.drewN (n1 + nq)) g 1 2 (c - 1) (by omega) (fun j hj => by
        rcases (by omega : j = 0 ∨ j = 1) with rfl | rfl
        · exact world_isSome HC1.out _
        · exact world_isSome HC2.out _) (fun j hj => by
        rcases (by omega : j = 0 ∨ j = 1) with rfl | rfl
        · exact world_free HF1.out _
        · exact world_free HF2.out _)
      go_wp2
      go_ret
      refine ⟨_, rfl, ?_, ?_, ?_⟩
      · have := Kd.R_take (R_put_at (W := (w.drewN (n1 + nq)).setCell ⟨g, 1, none⟩ (.int .i64 0)) 3 rfl (R_put_at 3 rfl (Kd.R_drewN HO.out (n1 + nq)) 1 0) 2 0) (m := 1) (by simp)
        rw [compL, if_pos rfl, compL, if_pos rfl]
        exact this
      · exact below_set (below_set (pw_below_drewN HB.out _) HG.out) HG.out
      · exact Kept.setCell (Kept.setCell (Kept.drewN (Kept.refl _ _) _) (.inl HP.out) _) (.inl HP.out) _
    · have hne : (z == x) = false := beq_eq_false_iff_ne.mpr (fun h => exz h.symm)
      have hne2 : (z != x) = true := by rw [bne, hne]; rfl
      have HX := Aside0.mk exz
      clear exz
      go_enter Tryz.func65, Tryz.ntmps65
      go_wp2
      refine wp_loop_rounds 3 ?_
      rw [rounds_succ]
      go_wp2
      go_quiet (fail)
      revert nq; intro n1
      go_wp2
      refine wp_loop_rounds 2 ?_
      rw [rounds_succ]
      go_wp2
      go_quiet (fail)
      have hcl := clear_own ((w.drewN (n1 + nq)).setCell ⟨g, 1, none⟩ (.int .i64 z)) g 2 1 (c - 2) (by omega) (fun j hj => by
        obtain rfl : j = 0 := (by omega)
        exact (congrArg Option.isSome (World.cell?_setCell_other _ ⟨g, 1, none⟩ ⟨g, 2, none⟩ _ (fun q => by injection q with _ q _; exact absurd q (by decide)))).trans (world_isSome HC2.out _)) (fun j hj => by
        obtain rfl : j = 0 := (by omega)
        rw [World.frozen?_setCell]
        exact world_free HF2.out _)
      go_wp2
      rw [rounds_succ]
      go_wp2
      go_ret
      refine ⟨_, rfl, ?_, ?_, ?_⟩
      · have := Kd.R_take (R_put_at (W := (w.drewN (n1 + nq)).setCell ⟨g, 1, none⟩ (.int .i64 z)) 3 rfl (R_put_at 3 rfl (Kd.R_drewN HO.out (n1 + nq)) 1 z) 2 0) (m := 2) (by simp)
        rw [compL, if_pos rfl, compL, if_neg HX.out]
        exact this
      · exact below_set (below_set (pw_below_drewN HB.out _) HG.out) HG.out
      · exact Kept.setCell (Kept.setCell (Kept.drewN (Kept.refl _ _) _) (.inl HP.out) _) (.inl HP.out) _
  · have hne : (y == x) = false := beq_eq_false_iff_ne.mpr (fun h => exy h.symm)
    have HX := Aside0.mk exy
    clear exy
    by_cases eyz : y = z
    · subst eyz
      go_enter Tryz.func65, Tryz.ntmps65
      go_wp2
      refine wp_loop_rounds 3 ?_
      rw [rounds_succ]
      go_wp2
      go_quiet (fail)
      revert nq; intro n1
      go_wp2
      rw [rounds_succ]
      go_wp2
      go_quiet (fail)
      have hcl := clear_own (w.drewN (n1 + nq)) g 2 1 (c - 2) (by omega) (fun j hj => by obtain rfl : j = 0 := (by omega); exact world_isSome HC2.out _) (fun j hj => by obtain rfl : j = 0 := (by omega); exact world_free HF2.out _)
      go_wp2
      refine wp_loop_rounds 1 ?_
      rw [rounds_succ]
      go_wp2
      go_ret
      refine ⟨_, rfl, ?_, ?_, ?_⟩
      · have := Kd.R_take (R_put_at 3 rfl (Kd.R_drewN HO.out (n1 + nq)) 2 0) (m := 2) (by simp)
        rw [compL, if_neg HX.out, compL, if_pos rfl]
        exact this
      · exact below_set (pw_below_drewN HB.out _) HG.out
      · exact Kept.setCell (Kept.drewN (Kept.refl _ _) _) (.inl HP.out) _
    · have hne2 : (z == y) = false := beq_eq_false_iff_ne.mpr (fun h => eyz h.symm)
      have HX2 := Aside0.mk eyz
      clear eyz
      go_enter Tryz.func65, Tryz.ntmps65
      go_wp2
      refine wp_loop_rounds 3 ?_
      rw [rounds_succ]
      go_wp2
      go_quiet (fail)
      revert nq; intro n1
      go_wp2
      rw [rounds_succ]
      go_wp2
      go_quiet (fail)
      go_wp2
      rw [rounds_succ]
      go_wp2
      go_ret
      refine ⟨_, rfl, ?_, pw_below_drewN HB.out _, Kept.drewN (Kept.refl _ _) _⟩
      rw [compL, if_neg HX.out, compL, if_neg HX2.out]
      exact Kd.R_drewN HO.out _
theorem slices_Compact_int_int.calls (P0_ : Nat → Prop) (u9000_ : Value) (l0 : List Int) (r : List Int) (w0 w : World) (hB : Below w0.heap.size w0 w) (ho0 : Kd.R (Kd.int .i64) 3 w w0.heap.size P0_ u9000_ l0) (h : slices_Compact_int_int.f l0 = some r) :
    Calls Tryz.prog 65 #[u9000_] w fun e w' => ∃ v0_ : Value, e = .returned (v0_) ∧ Kd.R (Kd.int .i64) 3 w' w0.heap.size (fun k_ => (P0_ k_ ∨ w.heap.size ≤ k_)) v0_ r ∧ Below w0.heap.size w0 w' ∧ Kept w w' (fun k_ => P0_ k_) := by
  unfold slices_Compact_int_int.f at h
  by_cases hl : l0.length ≤ 3
  · rw [if_pos hl] at h
    obtain rfl := Option.some.inj h
    match l0, hl with
    | [], _ => exact slices_Compact_int_int.short P0_ u9000_ [] w0 w (by simp) hB ho0
    | [x], _ => exact slices_Compact_int_int.short P0_ u9000_ [x] w0 w (by simp) hB ho0
    | [x, y], _ => exact slices_Compact_int_int.two P0_ u9000_ x y w0 w hB ho0
    | [x, y, z], _ => exact slices_Compact_int_int.three P0_ u9000_ x y z w0 w hB ho0
  · rw [if_neg hl] at h
    exact absurd h (by simp)

/-! ### spec_l07Reach: function 78 -/
def reachS (l0 : List S38) : Nat → List Bool → List Int → Option (List Bool)
  | 0, _, _ => none
  | _ + 1, out, [] => some out
  | k + 1, out, x :: t => if 0 ≤ x ∧ x < (out.length : Int) then (if rdOf false out x = true then reachS l0 k out t else (spec_l07Next.f k l0 x).bind fun ns => if (t.length + ns.length) * 8 ≤ 140737488355328 then reachS l0 k (out.set x.toNat true) (t ++ ns) else none) else none
theorem reachS_mono (l0 : List S38) : ∀ k out t, LeO (reachS l0 k out t) (reachS l0 (k + 1) out t)
  | 0, out, t => fun r h => by simp [reachS] at h
  | k + 1, out, [] => LeO.refl _
  | k + 1, out, x :: t => by
    rw [reachS, reachS]
    refine LeO.ite (LeO.ite (reachS_mono l0 k _ _) (LeO.bind (spec_l07Next.mono _ _ _) fun _ => LeO.ite (reachS_mono l0 k _ _) (LeO.none _))) (LeO.none _)
def spec_l07Reach.f (k : Nat) (l0 : List S38) (l1 : List Int) : Option (List Bool) := if l0.length ≤ 1048576 then (if l1.length * 8 ≤ 140737488355328 then reachS l0 k (List.replicate (l0.length + 1) false) l1 else none) else none
theorem spec_l07Reach.mono : ∀ a0 a1 k, LeO (spec_l07Reach.f k a0 a1) (spec_l07Reach.f (k + 1) a0 a1) := by
  intro a0 a1 k
  unfold spec_l07Reach.f
  exact LeO.ite (LeO.ite (reachS_mono _ _ _ _) (LeO.none _)) (LeO.none _)
set_option maxHeartbeats 4000000 in
set_option maxRecDepth 100000 in
theorem spec_l07Reach.calls (k : Nat) (A0 : Option Addr) (c0 : Nat) (l0 : List S38) (A1 : Option Addr) (c1 : Nat) (l1 : List Int) (r : List Bool) (w : World) (hr0 : Kd.C k38 w A0 l0.length l0) (hc0 : l0.length ≤ c0) (hr1 : Kd.C (Kd.int .i64) w A1 l1.length l1) (hc1 : l1.length ≤ c1) (h : spec_l07Reach.f k l0 l1 = some r) :
    Calls Tryz.prog 78 #[.slice A0 l0.length c0, .slice A1 l1.length c1] w fun e w' => ∃ v0_ : Value, e = .returned (v0_) ∧ Kd.R Kd.bool 4 w' w.heap.size (fun _ => True) v0_ r ∧ Below w.heap.size w w' := by
  unfold spec_l07Reach.f at h
  by_cases h20 : ¬ l0.length ≤ 1048576
  · rw [if_neg h20] at h; exact absurd h (by simp)
  replace h20 := Decidable.not_not.1 h20
  rw [if_pos h20] at h
  by_cases h8 : ¬ l1.length * 8 ≤ 140737488355328
  · rw [if_neg h8] at h; exact absurd h (by simp)
  replace h8 := Decidable.not_not.1 h8
  rw [if_pos h8] at h
  have H8 := Aside0.mk h8
  have HL := Aside0.mk h
  have HR0 := Aside0.mk hr0
  have HC0 := Aside0.mk hc0
  have HR1 := Aside0.mk hr1
  have HB := Aside0.mk (Below.refl w.heap.size w)
  clear h hr0 hc0 hr1 hc1 h8
  have hw1 : IntKind.i64.wrap ((l0.length : Int) + 1) = (l0.length : Int) + 1 := by rw [i64_w]; unfold wrap64; omega
  have hn1 : ((l0.length : Int) + 1).toNat = l0.length + 1 := by omega
  go_enter Tryz.func78, Tryz.ntmps78
  go_wp2_with (first
    | ((with_reducible refine gate_dst (N := 11) rfl ?_); refine Kd.R_make Kd.bool _ 4 rfl (N := 11) rfl 57 _ _ rfl ((l0.length : Int) + 1) rfl rfl Tryz.underlying57 (.bool false) 1 info4 rfl (by decide) (by omega) false (ok := fun _ => True) (okp := fun _ => True) rfl (fun _ hk => hk) trivial (by omega) (by omega) (by exact HB.out) (below_size HB.out) ?_; intro v1 w1 ho1 hb1 _ _; rw [hn1] at ho1; obtain ⟨go, co, eo, hgo, _, _⟩ := Kd.R_form ho1 (by simp); rw [List.length_replicate] at eo; subst eo; have HO := Aside0.mk ho1; have HG := Aside0.mk hgo; clear HB; have HB := Aside0.mk hb1; clear ho1 hb1 hgo)
    | ((with_reducible refine gate_dst (N := 12) rfl ?_); refine Kd.R_lit (Kd.int .i64) _ 3 ?hg (N := 12) ?hd (xs := ([] : List Int)) (inner := []) (ok := fun _ => True) (okp := fun _ => True) ?hr ?hp (fun _ hk => hk) trivial HB.out (below_size HB.out) (by simp) ?_; (case hd => rfl); (case hg => rfl); (case hr => first | (go_simp; done) | (go_simp; rfl)); (case hp => exact (Reps.none _ _)); intro v12 w2 ho2 hb2 hg2 _; have HQ1 := Aside0.mk (Kd.Q_of_R ho2); have HO1 := Aside0.mk (Kd.R_grown HO.out hg2 (fun _ _ => by simp)); have HB1 := Aside0.mk hb2; clear hg2 ho2 hb2)
    | ((with_reducible refine gate_builtin (b := .append) (xs := #[.tmp 12, .tmp 13]) rfl ?_); at_builtin; refine Q_app (w0 := w) w.heap.size rfl (.tmp 12) (.tmp 13) rfl v12 [] l1 A1 l1.length c1 (fun _ => True) rfl rfl HQ1.out (Kd.C_below HR1.out HB1.out) (fun _ _ => trivial) HB1.out (below_size HB1.out) (by have := H8.out; simp only [List.length_nil]; omega) ?_; intro v5 w5 hq5 hb5 hg5; have HO2 := Aside0.mk (Kd.R_over' HO1.out (Kd.Q_typed HQ1.out) (by decide) hg5); have HQ := Aside0.mk hq5; have HB2 := Aside0.mk hb5; clear hq5 hb5 hg5))
  go_loopg [6, 7] k (fun kq v8 _ wr => ∃ (out : List Bool) (todo : List Int), out.length = l0.length + 1 ∧ Aside0 (reachS l0 kq out todo = some r) ∧ Aside0 (Kd.R Kd.bool 4 wr w.heap.size (fun _ => True) (.slice (some ⟨go, 0, none⟩) (l0.length + 1) co) out) ∧ Aside0 (Kd.Q (Kd.int .i64) 3 wr w.heap.size (fun _ => True) v8 todo) ∧ Aside0 (Below w.heap.size w wr))
  case atStart => exact ⟨_, _, List.length_replicate .., HL, ⟨HO2.out⟩, ⟨HQ.out⟩, ⟨HB2.out⟩⟩
  case round =>
    clear HL HO2 HQ HB2 HO HB
    obtain ⟨out, todo, hol, HA, HO, HQ, HB⟩ := hrel
    cases gk with
    | zero => exact absurd HA.out (by simp [reachS])
    | succ k1 =>
      obtain ⟨A8, c8, e8, _⟩ := Kd.Q_slice HQ.out
      subst e8
      cases todo with
      | nil =>
        obtain rfl := Option.some.inj HA.out
        go_wp2
        go_ret
        exact ⟨_, rfl, HO.out, HB.out⟩
      | cons x t =>
        have hpos : decide (((t.length + 1 : Nat) : Int) > 0) = true := decide_eq_true (by omega)
        obtain ⟨ad, ea, hx⟩ := Kd.at_int (Kd.Q_reads' HQ.out).2.2 0 (by omega) (by simp)
        subst ea
        rw [show (0 : Int).toNat = 0 from rfl, Addr.add_zero'] at hx
        replace hx : wr.cell? ad = some (Value.int .i64 x) := hx
        have hq9 : (c8 = 1 ∧ Kd.Q (Kd.int .i64) 3 wr w.heap.size (fun _ => True) (.slice (some ad) t.length 0) t) ∨ (¬ c8 = 1 ∧ Kd.Q (Kd.int .i64) 3 wr w.heap.size (fun _ => True) (.slice (some (ad.add 1)) t.length (c8 - 1)) t) := by
          have hq := Kd.Q_drop (k := 1) HQ.out (by simp)
          by_cases hc : c8 = 1
          · subst hc; exact .inl ⟨rfl, hq⟩
          · rw [if_neg hc] at hq; exact .inr ⟨hc, hq⟩
        have HOL := Aside0.mk hol
        have H := HA.out
        clear HA
        rw [reachS] at H
        rcases hq9 with ⟨hc, hq9⟩ | ⟨hc, hq9⟩
        · subst hc
          have HQ9 := Aside0.mk hq9
          clear hq9
          by_cases hr : 0 ≤ x ∧ x < (out.length : Int)
          · rw [if_pos hr] at H
            rw [hol] at hr
            obtain ⟨hm, hf⟩ := Kd.R_celln false HO.out x hr.1 hr.2
            have q1 : decide (0 ≤ x) = true := decide_eq_true hr.1
            have q2 : decide (x < ((l0.length + 1 : Nat) : Int)) = true := decide_eq_true hr.2
            have q3 : decide (x < (l0.length : Int) + 1) = true := decide_eq_true (by omega)
            have q4 : 0 ≤ x := hr.1
            have q5 : x < (l0.length : Int) + 1 := by omega
            clear hr hol
            by_cases hv : rdOf false out x = true
            · rw [if_pos hv] at H
              have HF := Aside0.mk H
              rw [hv] at hm
              clear hv H
              go_wp2
              go_roundg k1
              case measure => omega
              case rel => exact ⟨out, t, HOL.out, HF, ⟨HO.out⟩, ⟨HQ9.out⟩, ⟨HB.out⟩⟩
            · rw [if_neg hv] at H
              replace hv : rdOf false out x = false := by simpa using hv
              rw [hv] at hm
              clear hv
              obtain ⟨ns, hns, H⟩ := Option.bind_eq_some_iff.mp H
              have HN := Aside0.mk hns
              clear hns
              by_cases hlen : (t.length + ns.length) * 8 ≤ 140737488355328
              · rw [if_pos hlen] at H
                have HF := Aside0.mk H
                have HLEN := Aside0.mk hlen
                clear H hlen
                have HP := Aside0.mk (Kd.R_putg HO.out x true)
                have HS := Aside0.mk (below_set (j := x.toNat) (v := .bool true) HB.out HG.out)
                have HQ3 := Aside0.mk (Kd.Q_over' HQ9.out (Kd.R_typed HO.out) (by decide) HP.out.2)
                go_wp2_with (first | (go_at_call 29; (with_reducible refine (spec_l07Next.calls k1 A0 c0 l0 x ns _ (Kd.C_below HR0.out HS.out) HC0.out HN.out).mono ?_); rintro e w4 ⟨v4, rfl, ho4, hb4⟩; obtain ⟨A4, c4, e4⟩ := Kd.R_slice ho4; subst e4; have HQ4 := Aside0.mk (Kd.Q_below HQ3.out hb4); have HO4 := Aside0.mk (Kd.R_below HP.out.1 hb4); have HB4 := Aside0.mk (below_step HS.out hb4); have HN4 := Aside0.mk (Kd.R_reads' ho4).2.2; clear ho4 hb4) | ((with_reducible refine gate_builtin (b := .append) (xs := #[.tmp 30, .tmp 33]) rfl ?_); at_builtin; refine Q_app (w0 := w) w.heap.size rfl (.tmp 30) (.tmp 33) rfl _ t ns A4 ns.length c4 (fun _ => True) rfl rfl HQ4.out HN4.out (fun _ _ => trivial) HB4.out (below_size HB4.out) HLEN.out ?_; intro v5 w5 hq5 hb5 hg5; have HO5 := Aside0.mk (Kd.R_over' HO4.out (Kd.Q_typed HQ4.out) (by decide) hg5); have HQ5 := Aside0.mk hq5; have HB5 := Aside0.mk hb5; clear hq5 hb5 hg5))
                go_roundg k1
                case measure => omega
                case rel => exact ⟨out.set x.toNat true, t ++ ns, by rw [List.length_set]; exact HOL.out, HF, ⟨HO5.out⟩, ⟨HQ5.out⟩, ⟨HB5.out⟩⟩
              · rw [if_neg hlen] at H
                exact absurd H (by simp)
          · rw [if_neg hr] at H
            exact absurd H (by simp)
        · have HQ9 := Aside0.mk hq9
          clear hq9
          by_cases hr : 0 ≤ x ∧ x < (out.length : Int)
          · rw [if_pos hr] at H
            rw [hol] at hr
            obtain ⟨hm, hf⟩ := Kd.R_celln false HO.out x hr.1 hr.2
            have q1 : decide (0 ≤ x) = true := decide_eq_true hr.1
            have q2 : decide (x < ((l0.length + 1 : Nat) : Int)) = true := decide_eq_true hr.2
            have q3 : decide (x < (l0.length : Int) + 1) = true := decide_eq_true (by omega)
            have q4 : 0 ≤ x := hr.1
            have q5 : x < (l0.length : Int) + 1 := by omega
            clear hr hol
            by_cases hv : rdOf false out x = true
            · rw [if_pos hv] at H
              have HF := Aside0.mk H
              rw [hv] at hm
              clear hv H
              go_wp2
              go_roundg k1
              case measure => omega
              case rel => exact ⟨out, t, HOL.out, HF, ⟨HO.out⟩, ⟨HQ9.out⟩, ⟨HB.out⟩⟩
            · rw [if_neg hv] at H
              replace hv : rdOf false out x = false := by simpa using hv
              rw [hv] at hm
              clear hv
              obtain ⟨ns, hns, H⟩ := Option.bind_eq_some_iff.mp H
              have HN := Aside0.mk hns
              clear hns
              by_cases hlen : (t.length + ns.length) * 8 ≤ 140737488355328
              · rw [if_pos hlen] at H
                have HF := Aside0.mk H
                have HLEN := Aside0.mk hlen
                clear H hlen
                have HP := Aside0.mk (Kd.R_putg HO.out x true)
                have HS := Aside0.mk (below_set (j := x.toNat) (v := .bool true) HB.out HG.out)
                have HQ3 := Aside0.mk (Kd.Q_over' HQ9.out (Kd.R_typed HO.out) (by decide) HP.out.2)
                go_wp2_with (first | (go_at_call 29; (with_reducible refine (spec_l07Next.calls k1 A0 c0 l0 x ns _ (Kd.C_below HR0.out HS.out) HC0.out HN.out).mono ?_); rintro e w4 ⟨v4, rfl, ho4, hb4⟩; obtain ⟨A4, c4, e4⟩ := Kd.R_slice ho4; subst e4; have HQ4 := Aside0.mk (Kd.Q_below HQ3.out hb4); have HO4 := Aside0.mk (Kd.R_below HP.out.1 hb4); have HB4 := Aside0.mk (below_step HS.out hb4); have HN4 := Aside0.mk (Kd.R_reads' ho4).2.2; clear ho4 hb4) | ((with_reducible refine gate_builtin (b := .append) (xs := #[.tmp 30, .tmp 33]) rfl ?_); at_builtin; refine Q_app (w0 := w) w.heap.size rfl (.tmp 30) (.tmp 33) rfl _ t ns A4 ns.length c4 (fun _ => True) rfl rfl HQ4.out HN4.out (fun _ _ => trivial) HB4.out (below_size HB4.out) HLEN.out ?_; intro v5 w5 hq5 hb5 hg5; have HO5 := Aside0.mk (Kd.R_over' HO4.out (Kd.Q_typed HQ4.out) (by decide) hg5); have HQ5 := Aside0.mk hq5; have HB5 := Aside0.mk hb5; clear hq5 hb5 hg5))
                go_roundg k1
                case measure => omega
                case rel => exact ⟨out.set x.toNat true, t ++ ns, by rw [List.length_set]; exact HOL.out, HF, ⟨HO5.out⟩, ⟨HQ5.out⟩, ⟨HB5.out⟩⟩
              · rw [if_neg hlen] at H
                exact absurd H (by simp)
          · rw [if_neg hr] at H
            exact absurd H (by simp)

end Go.Proofs.YtdppehpcpofeoaaGreat.PFnExactNeverSplits
