-- Written by myprint.py (a program of this session, over the kit's print): not trusted, Lean checks it.
import Derived.Test.YtdppehpcpofeoaaGreatPFnExactMaySplitx0
import Derived.Test.YtdppehpcpofeoaaGreatPFnExactMaySplitx1
import Derived.Test.YtdppehpcpofeoaaGreatPFnExactMaySplitx2
import Derived.Test.YtdppehpcpofeoaaGreatPFnExactMaySplitx3
namespace Go.Proofs.YtdppehpcpofeoaaGreat.PFnExactMaySplit
open Go.RowKit Go.Proofs.YtdppehpcpofeoaaGreatW.PrintWords Go.Proofs.YtdppehpcpofeoaaGreatW.PrintLast Go.Proofs.YtdppehpcpofeoaaGreatW.PrintMore
attribute [local go_sem] max2_int min2_int max_two min_two max_three min_three max_four min_four   -- for this text's walks alone
set_option linter.unusedVariables false
set_option linter.unusedSimpArgs false

/-! ### spec_ReadsRegs: function 56 -/
mutual
def spec_ReadsRegs.j2 : Nat → List Int → Option (List Int)
 | 0, _ => none
 | k + 1, x3 => spec_ReadsRegs.l0 k x3 (([] : List Int)) 0
def spec_ReadsRegs.l0 : Nat → List Int → List Int → Int → Option (List Int)
 | 0, _, _, _ => none
 | k + 1, x3, x4, x5 => if x5 < (x3.length : Int) then (if 0 ≤ x5 then ((spec_l04Put.f k x4 (rd x3 x5)).bind fun t238 => (spec_ReadsRegs.l0 k x3 t238 (wrap64 (x5 + 1)))) else (none)) else (some x4)
def spec_ReadsRegs.j0 : Nat → List Int → Int → Bool → Int → Int → Int → Int → Option (List Int)
 | 0, _, _, _, _, _, _, _ => none
 | k + 1, x3, x8, x9, x213000, x213001, x213002, x213003 => if x9 = true then (spec_ReadsRegs.j2 k (([x213002] : List Int))) else (if x8 = 3 then (spec_ReadsRegs.j1 k x3 x8 (x8 == 3) x213000 x213001 x213002 x213003) else (if x8 = 4 then (spec_ReadsRegs.j1 k x3 x8 (x8 == 4) x213000 x213001 x213002 x213003) else (if x8 = 5 then (spec_ReadsRegs.j1 k x3 x8 (x8 == 5) x213000 x213001 x213002 x213003) else (if x8 = 6 then (spec_ReadsRegs.j1 k x3 x8 (x8 == 6) x213000 x213001 x213002 x213003) else (spec_ReadsRegs.j1 k x3 x8 (x8 == 7) x213000 x213001 x213002 x213003)))))
def spec_ReadsRegs.j1 : Nat → List Int → Int → Bool → Int → Int → Int → Int → Option (List Int)
 | 0, _, _, _, _, _, _, _ => none
 | k + 1, x3, x8, x15, x213000, x213001, x213002, x213003 => if x15 = true then (spec_ReadsRegs.j2 k (([x213002, x213003] : List Int))) else (if x8 = 9 then (spec_ReadsRegs.j2 k (([x213001, x213002, x213003] : List Int))) else (if x8 = 10 then (spec_ReadsRegs.j2 k (([x213001] : List Int))) else (if x8 = 14 then (spec_ReadsRegs.j2 k (([x213001, x213002] : List Int))) else (if x8 = 15 then (spec_ReadsRegs.j2 k (([x213001, x213002] : List Int))) else (spec_ReadsRegs.j2 k x3)))))
end
def spec_ReadsRegs.f (k : Nat) (a0_0 : Int) (a0_1 : Int) (a0_2 : Int) (a0_3 : Int) : Option (List Int) := (some (([] : List Int) : List Int)).bind fun y213 => (if a0_0 = 2 then (spec_ReadsRegs.j0 k y213 a0_0 (a0_0 == 2) a0_0 a0_1 a0_2 a0_3) else (spec_ReadsRegs.j0 k y213 a0_0 (a0_0 == 13) a0_0 a0_1 a0_2 a0_3))
theorem spec_ReadsRegs.mono_l : ∀ k, (∀ y0, LeO (spec_ReadsRegs.j2 k y0) (spec_ReadsRegs.j2 (k + 1) y0)) ∧ (∀ y0 y1 y2, LeO (spec_ReadsRegs.l0 k y0 y1 y2) (spec_ReadsRegs.l0 (k + 1) y0 y1 y2)) ∧ (∀ y0 y1 y2 y3 y4 y5 y6, LeO (spec_ReadsRegs.j0 k y0 y1 y2 y3 y4 y5 y6) (spec_ReadsRegs.j0 (k + 1) y0 y1 y2 y3 y4 y5 y6)) ∧ (∀ y0 y1 y2 y3 y4 y5 y6, LeO (spec_ReadsRegs.j1 k y0 y1 y2 y3 y4 y5 y6) (spec_ReadsRegs.j1 (k + 1) y0 y1 y2 y3 y4 y5 y6))
 | 0 => ⟨fun _ r h => by simp [spec_ReadsRegs.j2] at h, fun _ _ _ r h => by simp [spec_ReadsRegs.l0] at h, fun _ _ _ _ _ _ _ r h => by simp [spec_ReadsRegs.j0] at h, fun _ _ _ _ _ _ _ r h => by simp [spec_ReadsRegs.j1] at h⟩
 | k + 1 => by
  obtain ⟨ih0, ih1, ih2, ih3⟩ := spec_ReadsRegs.mono_l k
  refine ⟨?_, ?_, ?_, ?_⟩
  intro y0;unfold spec_ReadsRegs.j2;rotate_left
  intro y0 y1 y2;unfold spec_ReadsRegs.l0;rotate_left
  intro y0 y1 y2 y3 y4 y5 y6;unfold spec_ReadsRegs.j0;rotate_left
  intro y0 y1 y2 y3 y4 y5 y6;unfold spec_ReadsRegs.j1;rotate_left
  all_goals repeat' first
  | (with_reducible exact ih0 _)
  | (with_reducible exact ih1 _ _ _)
  | (with_reducible exact ih2 _ _ _ _ _ _ _)
  | (with_reducible exact ih3 _ _ _ _ _ _ _)
  | (with_reducible exact spec_l04Put.mono _ _ _)
  | (with_reducible exact LeO.refl _)
  | (with_reducible exact LeO.none _)
  | (with_reducible refine LeO.ite ?_ ?_)
  | (with_reducible refine LeO.bind ?_ (fun _ => ?_))
  | exact ih0 _
  | exact ih1 _ _ _
  | exact ih2 _ _ _ _ _ _ _
  | exact ih3 _ _ _ _ _ _ _
  | exact spec_l04Put.mono _ _ _
  | exact LeO.none _
  | refine LeO.ite ?_ ?_
  | refine LeO.bind ?_ (fun _ => ?_)
theorem spec_ReadsRegs.mono : ∀ a0 a1 a2 a3 k, LeO (spec_ReadsRegs.f k a0 a1 a2 a3) (spec_ReadsRegs.f (k + 1) a0 a1 a2 a3) := by
 intro a0 a1 a2 a3 k
 obtain ⟨ih0, ih1, ih2, ih3⟩ := spec_ReadsRegs.mono_l k
 unfold spec_ReadsRegs.f
 repeat' first
   | (with_reducible exact ih0 _)
   | (with_reducible exact ih1 _ _ _)
   | (with_reducible exact ih2 _ _ _ _ _ _ _)
   | (with_reducible exact ih3 _ _ _ _ _ _ _)
   | (with_reducible exact spec_l04Put.mono _ _ _)
   | (with_reducible exact LeO.refl _)
   | (with_reducible exact LeO.none _)
   | (with_reducible refine LeO.ite ?_ ?_)
   | (with_reducible refine LeO.bind ?_ (fun _ => ?_))
   | exact ih0 _
   | exact ih1 _ _ _
   | exact ih2 _ _ _ _ _ _ _
   | exact ih3 _ _ _ _ _ _ _
   | exact spec_l04Put.mono _ _ _
   | exact LeO.none _
   | refine LeO.ite ?_ ?_
   | refine LeO.bind ?_ (fun _ => ?_)
set_option maxHeartbeats 8000000 in
set_option maxRecDepth 100000 in
theorem spec_ReadsRegs.calls (k : Nat) (a0_0 : Int) (a0_1 : Int) (a0_2 : Int) (a0_3 : Int) (r : List Int) (w : World) (h : spec_ReadsRegs.f k a0_0 a0_1 a0_2 a0_3 = some r) :
  Calls Tryz.prog 56 #[.agg #[.int .i64 a0_0, .int .i64 a0_1, .int .i64 a0_2, .int .i64 a0_3]] w fun e w' => ∃ v0_ : Value, e = .returned (v0_) ∧ Kd.R (Kd.int .i64) 3 w' w.heap.size (fun _ => True) v0_ r ∧ Below w.heap.size w w' := by
 have hu38 := Tryz.underlying38
 have HB := Aside0.mk (Below.refl w.heap.size w)
 have H : ((some (([] : List Int) : List Int)).bind fun y213 => (if a0_0 = 2 then (spec_ReadsRegs.j0 k y213 a0_0 (a0_0 == 2) a0_0 a0_1 a0_2 a0_3) else (spec_ReadsRegs.j0 k y213 a0_0 (a0_0 == 13) a0_0 a0_1 a0_2 a0_3))) = some r := h
 clear h
 obtain ⟨y213, hy213⟩ : ∃ y_ : List Int, y_ = (([] : List Int)) := ⟨_, rfl⟩
 replace H : (if a0_0 = 2 then (spec_ReadsRegs.j0 k y213 a0_0 (a0_0 == 2) a0_0 a0_1 a0_2 a0_3) else (spec_ReadsRegs.j0 k y213 a0_0 (a0_0 == 13) a0_0 a0_1 a0_2 a0_3)) = some r := rP hy213 H
 have Ny213 := Aside0.mk hy213
 clear hy213
 have HC2 := Aside0.mk H
 clear H
 go_enter Tryz.func56, Tryz.ntmps56
 go_upto_block 0 with (first | ((with_reducible refine gate_dst (N := 1) rfl ?_); refine box_event ?hg (N := 1) ?hd (cs := #[.int .i64 a0_0, .int .i64 a0_1, .int .i64 a0_2, .int .i64 a0_3]) (t := 38) ?hr ?_; (case hd => rfl); (case hg => rfl); (case hr => first | (go_simp; done) | (go_simp; rfl)); intro gb212 hg w3 hbox hb; have BK212 := Aside0.mk (hbox); have GW212 := Aside0.mk ((by rw [hg]; exact (below_size bw) : w.heap.size ≤ gb212)); have GE212 := Aside0.mk ((by rw [hg]; exact (below_size bw) : w.heap.size ≤ gb212)); replace HB := Aside0.mk (below_step bw hb); clear hb hbox hg) | ((with_reducible refine gate_dst (N := 6) rfl ?_); refine Kd.R_lit (Kd.int .i64) _ 3 ?hg (N := 6) ?hd (xs := ([] : List Int)) (inner := []) (ok := fun _ => True) (okp := fun _ => True) ?hr ?hp (fun _ hk => hk) trivial (Below.refl _ _) (Nat.le_refl _) (by simp) ?_; (case hd => rfl); (case hg => rfl); (case hr => first | (go_simp; done) | (go_simp; rfl)); (case hp => exact (Reps.none _ _)); intro v214 w4 ho5 hb hg_ hnew_; clear hg_ hnew_; (first | rw [← Ny213.out] at ho5 | (simp only [Int.reduceToNat] at ho5; rw [← Ny213.out] at ho5)); have HO215 := Aside0.mk (Kd.R_lower ho5 (below_size bx)); replace BK212 := Aside0.mk (blk_below (g := gb212) (o := .cells #[.int .i64 a0_0, .int .i64 a0_1, .int .i64 a0_2, .int .i64 a0_3] 38 (0, 0)) (bS BK212.out) hb); replace HB := Aside0.mk (below_step bx hb); clear hb ho5; have hcz6_0 : w4.cell? ⟨gb212, 0, none⟩ = some (.int .i64 a0_0) := (blk_cell BK212.out 0).trans rfl; have hcz6_1 : w4.cell? ⟨gb212, 1, none⟩ = some (.int .i64 a0_1) := (blk_cell BK212.out 1).trans rfl; have hcz6_2 : w4.cell? ⟨gb212, 2, none⟩ = some (.int .i64 a0_2) := (blk_cell BK212.out 2).trans rfl; have hcz6_3 : w4.cell? ⟨gb212, 3, none⟩ = some (.int .i64 a0_3) := (blk_cell BK212.out 3).trans rfl; have hfz6_0 := blk_frozen BK212.out 0; have hfz6_1 := blk_frozen BK212.out 1; have hfz6_2 := blk_frozen BK212.out 2; have hfz6_3 := blk_frozen BK212.out 3))
 (try simp only [Act.put, List.setIfInBounds_toArray, List.set_cons_zero, List.set_cons_succ])
 go_cut [3] (fun v3 wc => ∃ (kq : Nat) (x3_1 : List Int), Aside0 (spec_ReadsRegs.j2 kq x3_1 = some r) ∧ Aside0 (kq ≤ k) ∧ Aside0 (Kd.R (Kd.int .i64) 3 wc w.heap.size (fun _ => True) v3 x3_1) ∧ Aside0 (wc.heap[gb212]? = some (.cells #[.int .i64 a0_0, .int .i64 a0_1, .int .i64 a0_2, .int .i64 a0_3] 38 (0, 0))) ∧ Aside0 (Below w.heap.size w wc))
 case first =>
  have H := HC2.out
  clear HC2
  have HC7 := Aside0.mk H
  clear H
  go_upto_if 9 with (fail)
  go_cut [9] (fun v9 wc => ∃ (kq : Nat) (x9_6 : Bool), v9 = .bool x9_6 ∧ Aside0 (spec_ReadsRegs.j0 kq y213 a0_0 x9_6 a0_0 a0_1 a0_2 a0_3 = some r) ∧ Aside0 (kq ≤ k) ∧ Aside0 (Kd.R (Kd.int .i64) 3 wc w.heap.size (fun _ => True) v214 y213) ∧ Aside0 (wc.heap[gb212]? = some (.cells #[.int .i64 a0_0, .int .i64 a0_1, .int .i64 a0_2, .int .i64 a0_3] 38 (0, 0))) ∧ Aside0 (Below w.heap.size w wc))
  case first =>
   have H := HC7.out
   clear HC7
   by_cases c8 : a0_0 = 2
   ·rw [if_pos c8] at H
    have c8b0 : (a0_0 == 2) = true := beq_iff_eq.mpr c8
    have c8b1 : (a0_0 != 2) = false := bne_eq_false_iff_eq.mpr c8
    clear c8
    (first | rw [c8b0] | (simp only [i64_w, i32_w]; rw [c8b0]) | skip)
    have H' := Aside0.mk H
    clear H
    go_wp2
    go_meet
    case rel => exact ⟨_, ((a0_0 == 2)), tR, H', ⟨by first | omega | exact Nat.le_refl _⟩, ⟨rS HO215.out⟩, ⟨bS BK212.out⟩, ⟨bx⟩⟩
   ·rw [if_neg c8] at H
    have c8b0 : (a0_0 == 2) = false := beq_eq_false_iff_ne.mpr c8
    have c8b1 : (a0_0 != 2) = true := bne_iff_ne.mpr c8
    (first | rw [c8b0] | (simp only [i64_w, i32_w]; rw [c8b0]) | skip)
    have H' := Aside0.mk H
    clear H
    go_wp2
    go_meet
    case rel => exact ⟨_, ((a0_0 == 13)), tR, H', ⟨by first | omega | exact Nat.le_refl _⟩, ⟨rS HO215.out⟩, ⟨bS BK212.out⟩, ⟨bx⟩⟩
  case rest =>
   clear HC7
   try clear p2;try clear c5;try clear c8;try clear c8b0;try clear c8b1;try clear hcz6_0;try clear hcz6_1;try clear hcz6_2;try clear hcz6_3;try clear hfz6_0;try clear hfz6_1;try clear hfz6_2;try clear hfz6_3
   obtain ⟨kq, x9_6, rfl, HA, HJ6, HO_3, BK212, HB⟩ := hcut
   cases kq with
   | zero => exact absurd HA.out (by simp [spec_ReadsRegs.j0])
   | succ kj6 =>
    have H := HA.out
    clear HA
    simp only [spec_ReadsRegs.j0] at H
    by_cases c9 : x9_6 = true
    ·subst c9
     have H1 : (spec_ReadsRegs.j2 kj6 (([a0_2] : List Int))) = some r := by rw [if_pos rfl] at H; exact H
     clear H
     have H := H1
     clear H1
     obtain ⟨y216, hy216⟩ : ∃ y_ : List Int, y_ = (([a0_2] : List Int)) := ⟨_, rfl⟩
     replace H : (spec_ReadsRegs.j2 kj6 y216) = some r := rP hy216 H
     have Ny216 := Aside0.mk hy216
     clear hy216
     have H' := Aside0.mk H
     clear H
     have hcz10_0 : wc.cell? ⟨gb212, 0, none⟩ = some (.int .i64 a0_0) := (blk_cell BK212.out 0).trans rfl
     have hcz10_1 : wc.cell? ⟨gb212, 1, none⟩ = some (.int .i64 a0_1) := (blk_cell BK212.out 1).trans rfl
     have hcz10_2 : wc.cell? ⟨gb212, 2, none⟩ = some (.int .i64 a0_2) := (blk_cell BK212.out 2).trans rfl
     have hcz10_3 : wc.cell? ⟨gb212, 3, none⟩ = some (.int .i64 a0_3) := (blk_cell BK212.out 3).trans rfl
     have hfz10_0 := blk_frozen BK212.out 0
     have hfz10_1 := blk_frozen BK212.out 1
     have hfz10_2 := blk_frozen BK212.out 2
     have hfz10_3 := blk_frozen BK212.out 3
     go_wp2_with (first | ((with_reducible refine gate_dst (N := 14) rfl ?_); refine Kd.R_lit (Kd.int .i64) _ 3 ?hg (N := 14) ?hd (xs := ([a0_2] : List Int)) (inner := [.int .i64 a0_2]) (ok := fun _ => True) (okp := fun _ => True) ?hr ?hp (fun _ hk => hk) trivial (Below.refl _ _) (Nat.le_refl _) (by simp) ?_; (case hd => rfl); (case hg => rfl); (case hr => first | (go_simp; done) | (go_simp; rfl)); (case hp => exact (Reps.one (show Kd.M (Kd.int .i64) _ _ _ a0_2 [.int .i64 a0_2] from rfl) (Reps.none _ _))); intro v217 w11 ho12 hb hg_ hnew_; clear hg_ hnew_; (first | rw [← Ny216.out] at ho12 | (simp only [Int.reduceToNat] at ho12; rw [← Ny216.out] at ho12)); have HO218 := Aside0.mk (Kd.R_lower (Kd.R_new' ho12 (Kd.R_lt (rS HO_3.out))) (below_size bx)); replace HO_3 := Aside0.mk (Kd.R_elder' (rS HO_3.out) (Kd.R_base ho12) hb); replace BK212 := Aside0.mk (blk_below (g := gb212) (o := .cells #[.int .i64 a0_0, .int .i64 a0_1, .int .i64 a0_2, .int .i64 a0_3] 38 (0, 0)) (bS BK212.out) hb); replace HB := Aside0.mk (below_step bx hb); clear hb ho12))
     go_meet
     case rel => exact ⟨_, (y216), H', ⟨by have := HJ6.out; first | omega | exact Nat.le_refl _⟩, ⟨by (with_reducible repeat (first | apply Kd.R_alloc | apply Kd.R_drewN | apply Kd.R_drew)); exact Kd.R_mono HO218.out (fun _ hk => trivial)⟩, ⟨bS BK212.out⟩, ⟨bx⟩⟩
    ·replace c9 := Bool.eq_false_iff.mpr c9
     subst c9
     have H1 : (if a0_0 = 3 then (spec_ReadsRegs.j1 kj6 y213 a0_0 (a0_0 == 3) a0_0 a0_1 a0_2 a0_3) else (if a0_0 = 4 then (spec_ReadsRegs.j1 kj6 y213 a0_0 (a0_0 == 4) a0_0 a0_1 a0_2 a0_3) else (if a0_0 = 5 then (spec_ReadsRegs.j1 kj6 y213 a0_0 (a0_0 == 5) a0_0 a0_1 a0_2 a0_3) else (if a0_0 = 6 then (spec_ReadsRegs.j1 kj6 y213 a0_0 (a0_0 == 6) a0_0 a0_1 a0_2 a0_3) else (spec_ReadsRegs.j1 kj6 y213 a0_0 (a0_0 == 7) a0_0 a0_1 a0_2 a0_3))))) = some r := by rw [if_neg (show ¬ (false = true) by decide)] at H; exact H
     clear H
     have H := H1
     clear H1
     have HC13 := Aside0.mk H
     clear H
     go_upto_if 15 with (fail)
     go_cut [15] (fun v15 wc => ∃ (kq : Nat) (x15_12 : Bool), v15 = .bool x15_12 ∧ Aside0 (spec_ReadsRegs.j1 kq y213 a0_0 x15_12 a0_0 a0_1 a0_2 a0_3 = some r) ∧ Aside0 (kq ≤ kj6) ∧ Aside0 (Kd.R (Kd.int .i64) 3 wc w.heap.size (fun _ => True) v214 y213) ∧ Aside0 (wc.heap[gb212]? = some (.cells #[.int .i64 a0_0, .int .i64 a0_1, .int .i64 a0_2, .int .i64 a0_3] 38 (0, 0))) ∧ Aside0 (Below w.heap.size w wc))
     case first =>
      have H := HC13.out
      clear HC13
      by_cases c14 : a0_0 = 3
      ·rw [if_pos c14] at H
       have c14b0 : (a0_0 == 3) = true := beq_iff_eq.mpr c14
       have c14b1 : (a0_0 != 3) = false := bne_eq_false_iff_eq.mpr c14
       clear c14
       (first | rw [c14b0] | (simp only [i64_w, i32_w]; rw [c14b0]) | skip)
       have H' := Aside0.mk H
       clear H
       go_wp2
       go_meet
       case rel => exact ⟨_, ((a0_0 == 3)), tR, H', ⟨by have := HJ6.out; first | omega | exact Nat.le_refl _⟩, ⟨rS HO_3.out⟩, ⟨bS BK212.out⟩, ⟨bx⟩⟩
      ·rw [if_neg c14] at H
       have c14b0 : (a0_0 == 3) = false := beq_eq_false_iff_ne.mpr c14
       have c14b1 : (a0_0 != 3) = true := bne_iff_ne.mpr c14
       (first | rw [c14b0] | (simp only [i64_w, i32_w]; rw [c14b0]) | skip)
       by_cases c15 : a0_0 = 4
       ·rw [if_pos c15] at H
        have c15b0 : (a0_0 == 4) = true := beq_iff_eq.mpr c15
        have c15b1 : (a0_0 != 4) = false := bne_eq_false_iff_eq.mpr c15
        clear c15
        have H' := Aside0.mk H
        clear H
        go_wp2
        go_meet
        case rel => exact ⟨_, ((a0_0 == 4)), tR, H', ⟨by have := HJ6.out; first | omega | exact Nat.le_refl _⟩, ⟨rS HO_3.out⟩, ⟨bS BK212.out⟩, ⟨bx⟩⟩
       ·rw [if_neg c15] at H
        have c15b0 : (a0_0 == 4) = false := beq_eq_false_iff_ne.mpr c15
        have c15b1 : (a0_0 != 4) = true := bne_iff_ne.mpr c15
        by_cases c16 : a0_0 = 5
        ·rw [if_pos c16] at H
         have c16b0 : (a0_0 == 5) = true := beq_iff_eq.mpr c16
         have c16b1 : (a0_0 != 5) = false := bne_eq_false_iff_eq.mpr c16
         clear c16
         have H' := Aside0.mk H
         clear H
         go_wp2
         go_meet
         case rel => exact ⟨_, ((a0_0 == 5)), tR, H', ⟨by have := HJ6.out; first | omega | exact Nat.le_refl _⟩, ⟨rS HO_3.out⟩, ⟨bS BK212.out⟩, ⟨bx⟩⟩
        ·rw [if_neg c16] at H
         have c16b0 : (a0_0 == 5) = false := beq_eq_false_iff_ne.mpr c16
         have c16b1 : (a0_0 != 5) = true := bne_iff_ne.mpr c16
         by_cases c17 : a0_0 = 6
         ·rw [if_pos c17] at H
          have c17b0 : (a0_0 == 6) = true := beq_iff_eq.mpr c17
          have c17b1 : (a0_0 != 6) = false := bne_eq_false_iff_eq.mpr c17
          clear c17
          have H' := Aside0.mk H
          clear H
          go_wp2
          go_meet
          case rel => exact ⟨_, ((a0_0 == 6)), tR, H', ⟨by have := HJ6.out; first | omega | exact Nat.le_refl _⟩, ⟨rS HO_3.out⟩, ⟨bS BK212.out⟩, ⟨bx⟩⟩
         ·rw [if_neg c17] at H
          have c17b0 : (a0_0 == 6) = false := beq_eq_false_iff_ne.mpr c17
          have c17b1 : (a0_0 != 6) = true := bne_iff_ne.mpr c17
          have H' := Aside0.mk H
          clear H
          go_wp2
          go_meet
          case rel => exact ⟨_, ((a0_0 == 7)), tR, H', ⟨by have := HJ6.out; first | omega | exact Nat.le_refl _⟩, ⟨rS HO_3.out⟩, ⟨bS BK212.out⟩, ⟨bx⟩⟩
     case rest =>
      clear HC13
      try clear c1;try clear p2;try clear c5;try clear c8;try clear c8b0;try clear c8b1;try clear c9;try clear c14;try clear c14b0;try clear c14b1;try clear c15;try clear c15b0;try clear c15b1;try clear c16;try clear c16b0;try clear c16b1;try clear c17;try clear c17b0;try clear c17b1;try clear hcz10_0;try clear hcz10_1;try clear hcz10_2;try clear hcz10_3;try clear hcz6_0;try clear hcz6_1;try clear hcz6_2;try clear hcz6_3;try clear hfz10_0;try clear hfz10_1;try clear hfz10_2;try clear hfz10_3;try clear hfz6_0;try clear hfz6_1;try clear hfz6_2;try clear hfz6_3;try clear p2
      obtain ⟨kq, x15_12, rfl, HA, HJ12, HO_3, BK212, HB⟩ := hcut
      cases kq with
      | zero => exact absurd HA.out (by simp [spec_ReadsRegs.j1])
      | succ kj12 =>
       have H := HA.out
       clear HA
       simp only [spec_ReadsRegs.j1] at H
       by_cases c18 : x15_12 = true
       ·subst c18
        have H1 : (spec_ReadsRegs.j2 kj12 (([a0_2, a0_3] : List Int))) = some r := by rw [if_pos rfl] at H; exact H
        clear H
        have H := H1
        clear H1
        obtain ⟨y219, hy219⟩ : ∃ y_ : List Int, y_ = (([a0_2, a0_3] : List Int)) := ⟨_, rfl⟩
        replace H : (spec_ReadsRegs.j2 kj12 y219) = some r := rP hy219 H
        have Ny219 := Aside0.mk hy219
        clear hy219
        have H' := Aside0.mk H
        clear H
        have hcz19_0 : wc.cell? ⟨gb212, 0, none⟩ = some (.int .i64 a0_0) := (blk_cell BK212.out 0).trans rfl
        have hcz19_1 : wc.cell? ⟨gb212, 1, none⟩ = some (.int .i64 a0_1) := (blk_cell BK212.out 1).trans rfl
        have hcz19_2 : wc.cell? ⟨gb212, 2, none⟩ = some (.int .i64 a0_2) := (blk_cell BK212.out 2).trans rfl
        have hcz19_3 : wc.cell? ⟨gb212, 3, none⟩ = some (.int .i64 a0_3) := (blk_cell BK212.out 3).trans rfl
        have hfz19_0 := blk_frozen BK212.out 0
        have hfz19_1 := blk_frozen BK212.out 1
        have hfz19_2 := blk_frozen BK212.out 2
        have hfz19_3 := blk_frozen BK212.out 3
        go_wp2_with (first | ((with_reducible refine gate_dst (N := 25) rfl ?_); refine Kd.R_lit (Kd.int .i64) _ 3 ?hg (N := 25) ?hd (xs := ([a0_2, a0_3] : List Int)) (inner := [.int .i64 a0_2, .int .i64 a0_3]) (ok := fun _ => True) (okp := fun _ => True) ?hr ?hp (fun _ hk => hk) trivial (Below.refl _ _) (Nat.le_refl _) (by simp) ?_; (case hd => rfl); (case hg => rfl); (case hr => first | (go_simp; done) | (go_simp; rfl)); (case hp => exact (Reps.one (show Kd.M (Kd.int .i64) _ _ _ a0_2 [.int .i64 a0_2] from rfl) (Reps.one (show Kd.M (Kd.int .i64) _ _ _ a0_3 [.int .i64 a0_3] from rfl) (Reps.none _ _)))); intro v220 w20 ho21 hb hg_ hnew_; clear hg_ hnew_; (first | rw [← Ny219.out] at ho21 | (simp only [Int.reduceToNat] at ho21; rw [← Ny219.out] at ho21)); have HO221 := Aside0.mk (Kd.R_lower (Kd.R_new' ho21 (Kd.R_lt (rS HO_3.out))) (below_size bx)); replace HO_3 := Aside0.mk (Kd.R_elder' (rS HO_3.out) (Kd.R_base ho21) hb); replace BK212 := Aside0.mk (blk_below (g := gb212) (o := .cells #[.int .i64 a0_0, .int .i64 a0_1, .int .i64 a0_2, .int .i64 a0_3] 38 (0, 0)) (bS BK212.out) hb); replace HB := Aside0.mk (below_step bx hb); clear hb ho21))
        go_meet
        case rel => exact ⟨_, (y219), H', ⟨by have := HJ6.out; have := HJ12.out; first | omega | exact Nat.le_refl _⟩, ⟨by (with_reducible repeat (first | apply Kd.R_alloc | apply Kd.R_drewN | apply Kd.R_drew)); exact Kd.R_mono HO221.out (fun _ hk => trivial)⟩, ⟨bS BK212.out⟩, ⟨bx⟩⟩
       ·replace c18 := Bool.eq_false_iff.mpr c18
        subst c18
        have H1 : (if a0_0 = 9 then (spec_ReadsRegs.j2 kj12 (([a0_1, a0_2, a0_3] : List Int))) else (if a0_0 = 10 then (spec_ReadsRegs.j2 kj12 (([a0_1] : List Int))) else (if a0_0 = 14 then (spec_ReadsRegs.j2 kj12 (([a0_1, a0_2] : List Int))) else (if a0_0 = 15 then (spec_ReadsRegs.j2 kj12 (([a0_1, a0_2] : List Int))) else (spec_ReadsRegs.j2 kj12 y213))))) = some r := by rw [if_neg (show ¬ (false = true) by decide)] at H; exact H
        clear H
        have H := H1
        clear H1
        by_cases c22 : a0_0 = 9
        ·rw [if_pos c22] at H
         have c22b0 : (a0_0 == 9) = true := beq_iff_eq.mpr c22
         have c22b1 : (a0_0 != 9) = false := bne_eq_false_iff_eq.mpr c22
         clear c22
         obtain ⟨y222, hy222⟩ : ∃ y_ : List Int, y_ = (([a0_1, a0_2, a0_3] : List Int)) := ⟨_, rfl⟩
         replace H : (spec_ReadsRegs.j2 kj12 y222) = some r := rP hy222 H
         have Ny222 := Aside0.mk hy222
         clear hy222
         have H' := Aside0.mk H
         clear H
         have hcz23_0 : wc.cell? ⟨gb212, 0, none⟩ = some (.int .i64 a0_0) := (blk_cell BK212.out 0).trans rfl
         have hcz23_1 : wc.cell? ⟨gb212, 1, none⟩ = some (.int .i64 a0_1) := (blk_cell BK212.out 1).trans rfl
         have hcz23_2 : wc.cell? ⟨gb212, 2, none⟩ = some (.int .i64 a0_2) := (blk_cell BK212.out 2).trans rfl
         have hcz23_3 : wc.cell? ⟨gb212, 3, none⟩ = some (.int .i64 a0_3) := (blk_cell BK212.out 3).trans rfl
         have hfz23_0 := blk_frozen BK212.out 0
         have hfz23_1 := blk_frozen BK212.out 1
         have hfz23_2 := blk_frozen BK212.out 2
         have hfz23_3 := blk_frozen BK212.out 3
         go_wp2_with (first | ((with_reducible refine gate_dst (N := 34) rfl ?_); refine Kd.R_lit (Kd.int .i64) _ 3 ?hg (N := 34) ?hd (xs := ([a0_1, a0_2, a0_3] : List Int)) (inner := [.int .i64 a0_1, .int .i64 a0_2, .int .i64 a0_3]) (ok := fun _ => True) (okp := fun _ => True) ?hr ?hp (fun _ hk => hk) trivial (Below.refl _ _) (Nat.le_refl _) (by simp) ?_; (case hd => rfl); (case hg => rfl); (case hr => first | (go_simp; done) | (go_simp; rfl)); (case hp => exact (Reps.one (show Kd.M (Kd.int .i64) _ _ _ a0_1 [.int .i64 a0_1] from rfl) (Reps.one (show Kd.M (Kd.int .i64) _ _ _ a0_2 [.int .i64 a0_2] from rfl) (Reps.one (show Kd.M (Kd.int .i64) _ _ _ a0_3 [.int .i64 a0_3] from rfl) (Reps.none _ _))))); intro v223 w24 ho25 hb hg_ hnew_; clear hg_ hnew_; (first | rw [← Ny222.out] at ho25 | (simp only [Int.reduceToNat] at ho25; rw [← Ny222.out] at ho25)); have HO224 := Aside0.mk (Kd.R_lower (Kd.R_new' ho25 (Kd.R_lt (rS HO_3.out))) (below_size bx)); replace HO_3 := Aside0.mk (Kd.R_elder' (rS HO_3.out) (Kd.R_base ho25) hb); replace BK212 := Aside0.mk (blk_below (g := gb212) (o := .cells #[.int .i64 a0_0, .int .i64 a0_1, .int .i64 a0_2, .int .i64 a0_3] 38 (0, 0)) (bS BK212.out) hb); replace HB := Aside0.mk (below_step bx hb); clear hb ho25))
         go_meet
         case rel => exact ⟨_, (y222), H', ⟨by have := HJ6.out; have := HJ12.out; first | omega | exact Nat.le_refl _⟩, ⟨by (with_reducible repeat (first | apply Kd.R_alloc | apply Kd.R_drewN | apply Kd.R_drew)); exact Kd.R_mono HO224.out (fun _ hk => trivial)⟩, ⟨bS BK212.out⟩, ⟨bx⟩⟩
        ·rw [if_neg c22] at H
         have c22b0 : (a0_0 == 9) = false := beq_eq_false_iff_ne.mpr c22
         have c22b1 : (a0_0 != 9) = true := bne_iff_ne.mpr c22
         by_cases c26 : a0_0 = 10
         ·rw [if_pos c26] at H
          have c26b0 : (a0_0 == 10) = true := beq_iff_eq.mpr c26
          have c26b1 : (a0_0 != 10) = false := bne_eq_false_iff_eq.mpr c26
          clear c26
          obtain ⟨y225, hy225⟩ : ∃ y_ : List Int, y_ = (([a0_1] : List Int)) := ⟨_, rfl⟩
          replace H : (spec_ReadsRegs.j2 kj12 y225) = some r := rP hy225 H
          have Ny225 := Aside0.mk hy225
          clear hy225
          have H' := Aside0.mk H
          clear H
          have hcz27_0 : wc.cell? ⟨gb212, 0, none⟩ = some (.int .i64 a0_0) := (blk_cell BK212.out 0).trans rfl
          have hcz27_1 : wc.cell? ⟨gb212, 1, none⟩ = some (.int .i64 a0_1) := (blk_cell BK212.out 1).trans rfl
          have hcz27_2 : wc.cell? ⟨gb212, 2, none⟩ = some (.int .i64 a0_2) := (blk_cell BK212.out 2).trans rfl
          have hcz27_3 : wc.cell? ⟨gb212, 3, none⟩ = some (.int .i64 a0_3) := (blk_cell BK212.out 3).trans rfl
          have hfz27_0 := blk_frozen BK212.out 0
          have hfz27_1 := blk_frozen BK212.out 1
          have hfz27_2 := blk_frozen BK212.out 2
          have hfz27_3 := blk_frozen BK212.out 3
          go_wp2_with (first | ((with_reducible refine gate_dst (N := 39) rfl ?_); refine Kd.R_lit (Kd.int .i64) _ 3 ?hg (N := 39) ?hd (xs := ([a0_1] : List Int)) (inner := [.int .i64 a0_1]) (ok := fun _ => True) (okp := fun _ => True) ?hr ?hp (fun _ hk => hk) trivial (Below.refl _ _) (Nat.le_refl _) (by simp) ?_; (case hd => rfl); (case hg => rfl); (case hr => first | (go_simp; done) | (go_simp; rfl)); (case hp => exact (Reps.one (show Kd.M (Kd.int .i64) _ _ _ a0_1 [.int .i64 a0_1] from rfl) (Reps.none _ _))); intro v226 w28 ho29 hb hg_ hnew_; clear hg_ hnew_; (first | rw [← Ny225.out] at ho29 | (simp only [Int.reduceToNat] at ho29; rw [← Ny225.out] at ho29)); have HO227 := Aside0.mk (Kd.R_lower (Kd.R_new' ho29 (Kd.R_lt (rS HO_3.out))) (below_size bx)); replace HO_3 := Aside0.mk (Kd.R_elder' (rS HO_3.out) (Kd.R_base ho29) hb); replace BK212 := Aside0.mk (blk_below (g := gb212) (o := .cells #[.int .i64 a0_0, .int .i64 a0_1, .int .i64 a0_2, .int .i64 a0_3] 38 (0, 0)) (bS BK212.out) hb); replace HB := Aside0.mk (below_step bx hb); clear hb ho29))
          go_meet
          case rel => exact ⟨_, (y225), H', ⟨by have := HJ6.out; have := HJ12.out; first | omega | exact Nat.le_refl _⟩, ⟨by (with_reducible repeat (first | apply Kd.R_alloc | apply Kd.R_drewN | apply Kd.R_drew)); exact Kd.R_mono HO227.out (fun _ hk => trivial)⟩, ⟨bS BK212.out⟩, ⟨bx⟩⟩
         ·rw [if_neg c26] at H
          have c26b0 : (a0_0 == 10) = false := beq_eq_false_iff_ne.mpr c26
          have c26b1 : (a0_0 != 10) = true := bne_iff_ne.mpr c26
          by_cases c30 : a0_0 = 14
          ·rw [if_pos c30] at H
           have c30b0 : (a0_0 == 14) = true := beq_iff_eq.mpr c30
           have c30b1 : (a0_0 != 14) = false := bne_eq_false_iff_eq.mpr c30
           clear c30
           obtain ⟨y228, hy228⟩ : ∃ y_ : List Int, y_ = (([a0_1, a0_2] : List Int)) := ⟨_, rfl⟩
           replace H : (spec_ReadsRegs.j2 kj12 y228) = some r := rP hy228 H
           have Ny228 := Aside0.mk hy228
           clear hy228
           have H' := Aside0.mk H
           clear H
           have hcz31_0 : wc.cell? ⟨gb212, 0, none⟩ = some (.int .i64 a0_0) := (blk_cell BK212.out 0).trans rfl
           have hcz31_1 : wc.cell? ⟨gb212, 1, none⟩ = some (.int .i64 a0_1) := (blk_cell BK212.out 1).trans rfl
           have hcz31_2 : wc.cell? ⟨gb212, 2, none⟩ = some (.int .i64 a0_2) := (blk_cell BK212.out 2).trans rfl
           have hcz31_3 : wc.cell? ⟨gb212, 3, none⟩ = some (.int .i64 a0_3) := (blk_cell BK212.out 3).trans rfl
           have hfz31_0 := blk_frozen BK212.out 0
           have hfz31_1 := blk_frozen BK212.out 1
           have hfz31_2 := blk_frozen BK212.out 2
           have hfz31_3 := blk_frozen BK212.out 3
           go_wp2_with (first | ((with_reducible refine gate_dst (N := 47) rfl ?_); refine Kd.R_lit (Kd.int .i64) _ 3 ?hg (N := 47) ?hd (xs := ([a0_1, a0_2] : List Int)) (inner := [.int .i64 a0_1, .int .i64 a0_2]) (ok := fun _ => True) (okp := fun _ => True) ?hr ?hp (fun _ hk => hk) trivial (Below.refl _ _) (Nat.le_refl _) (by simp) ?_; (case hd => rfl); (case hg => rfl); (case hr => first | (go_simp; done) | (go_simp; rfl)); (case hp => exact (Reps.one (show Kd.M (Kd.int .i64) _ _ _ a0_1 [.int .i64 a0_1] from rfl) (Reps.one (show Kd.M (Kd.int .i64) _ _ _ a0_2 [.int .i64 a0_2] from rfl) (Reps.none _ _)))); intro v229 w32 ho33 hb hg_ hnew_; clear hg_ hnew_; (first | rw [← Ny228.out] at ho33 | (simp only [Int.reduceToNat] at ho33; rw [← Ny228.out] at ho33)); have HO230 := Aside0.mk (Kd.R_lower (Kd.R_new' ho33 (Kd.R_lt (rS HO_3.out))) (below_size bx)); replace HO_3 := Aside0.mk (Kd.R_elder' (rS HO_3.out) (Kd.R_base ho33) hb); replace BK212 := Aside0.mk (blk_below (g := gb212) (o := .cells #[.int .i64 a0_0, .int .i64 a0_1, .int .i64 a0_2, .int .i64 a0_3] 38 (0, 0)) (bS BK212.out) hb); replace HB := Aside0.mk (below_step bx hb); clear hb ho33))
           go_meet
           case rel => exact ⟨_, (y228), H', ⟨by have := HJ6.out; have := HJ12.out; first | omega | exact Nat.le_refl _⟩, ⟨by (with_reducible repeat (first | apply Kd.R_alloc | apply Kd.R_drewN | apply Kd.R_drew)); exact Kd.R_mono HO230.out (fun _ hk => trivial)⟩, ⟨bS BK212.out⟩, ⟨bx⟩⟩
          ·rw [if_neg c30] at H
           have c30b0 : (a0_0 == 14) = false := beq_eq_false_iff_ne.mpr c30
           have c30b1 : (a0_0 != 14) = true := bne_iff_ne.mpr c30
           by_cases c34 : a0_0 = 15
           ·rw [if_pos c34] at H
            have c34b0 : (a0_0 == 15) = true := beq_iff_eq.mpr c34
            have c34b1 : (a0_0 != 15) = false := bne_eq_false_iff_eq.mpr c34
            clear c34
            obtain ⟨y231, hy231⟩ : ∃ y_ : List Int, y_ = (([a0_1, a0_2] : List Int)) := ⟨_, rfl⟩
            replace H : (spec_ReadsRegs.j2 kj12 y231) = some r := rP hy231 H
            have Ny231 := Aside0.mk hy231
            clear hy231
            have H' := Aside0.mk H
            clear H
            have hcz35_0 : wc.cell? ⟨gb212, 0, none⟩ = some (.int .i64 a0_0) := (blk_cell BK212.out 0).trans rfl
            have hcz35_1 : wc.cell? ⟨gb212, 1, none⟩ = some (.int .i64 a0_1) := (blk_cell BK212.out 1).trans rfl
            have hcz35_2 : wc.cell? ⟨gb212, 2, none⟩ = some (.int .i64 a0_2) := (blk_cell BK212.out 2).trans rfl
            have hcz35_3 : wc.cell? ⟨gb212, 3, none⟩ = some (.int .i64 a0_3) := (blk_cell BK212.out 3).trans rfl
            have hfz35_0 := blk_frozen BK212.out 0
            have hfz35_1 := blk_frozen BK212.out 1
            have hfz35_2 := blk_frozen BK212.out 2
            have hfz35_3 := blk_frozen BK212.out 3
            go_wp2_with (first | ((with_reducible refine gate_dst (N := 47) rfl ?_); refine Kd.R_lit (Kd.int .i64) _ 3 ?hg (N := 47) ?hd (xs := ([a0_1, a0_2] : List Int)) (inner := [.int .i64 a0_1, .int .i64 a0_2]) (ok := fun _ => True) (okp := fun _ => True) ?hr ?hp (fun _ hk => hk) trivial (Below.refl _ _) (Nat.le_refl _) (by simp) ?_; (case hd => rfl); (case hg => rfl); (case hr => first | (go_simp; done) | (go_simp; rfl)); (case hp => exact (Reps.one (show Kd.M (Kd.int .i64) _ _ _ a0_1 [.int .i64 a0_1] from rfl) (Reps.one (show Kd.M (Kd.int .i64) _ _ _ a0_2 [.int .i64 a0_2] from rfl) (Reps.none _ _)))); intro v232 w36 ho37 hb hg_ hnew_; clear hg_ hnew_; (first | rw [← Ny231.out] at ho37 | (simp only [Int.reduceToNat] at ho37; rw [← Ny231.out] at ho37)); have HO233 := Aside0.mk (Kd.R_lower (Kd.R_new' ho37 (Kd.R_lt (rS HO_3.out))) (below_size bx)); replace HO_3 := Aside0.mk (Kd.R_elder' (rS HO_3.out) (Kd.R_base ho37) hb); replace BK212 := Aside0.mk (blk_below (g := gb212) (o := .cells #[.int .i64 a0_0, .int .i64 a0_1, .int .i64 a0_2, .int .i64 a0_3] 38 (0, 0)) (bS BK212.out) hb); replace HB := Aside0.mk (below_step bx hb); clear hb ho37))
            go_meet
            case rel => exact ⟨_, (y231), H', ⟨by have := HJ6.out; have := HJ12.out; first | omega | exact Nat.le_refl _⟩, ⟨by (with_reducible repeat (first | apply Kd.R_alloc | apply Kd.R_drewN | apply Kd.R_drew)); exact Kd.R_mono HO233.out (fun _ hk => trivial)⟩, ⟨bS BK212.out⟩, ⟨bx⟩⟩
           ·rw [if_neg c34] at H
            have c34b0 : (a0_0 == 15) = false := beq_eq_false_iff_ne.mpr c34
            have c34b1 : (a0_0 != 15) = true := bne_iff_ne.mpr c34
            have H' := Aside0.mk H
            clear H
            go_wp2
            go_meet
            case rel => exact ⟨_, (y213), H', ⟨by have := HJ6.out; have := HJ12.out; first | omega | exact Nat.le_refl _⟩, ⟨rS HO_3.out⟩, ⟨bS BK212.out⟩, ⟨bx⟩⟩
 case rest =>
  clear HC2
  try clear c1;try clear c2;try clear p2;try clear c3;try clear c5;try clear c8;try clear c8b0;try clear c8b1;try clear c9;try clear c14;try clear c14b0;try clear c14b1;try clear c15;try clear c15b0;try clear c15b1;try clear c16;try clear c16b0;try clear c16b1;try clear c17;try clear c17b0;try clear c17b1;try clear c18;try clear c22;try clear c22b0;try clear c22b1;try clear c26;try clear c26b0;try clear c26b1;try clear c30;try clear c30b0;try clear c30b1;try clear c34;try clear c34b0;try clear c34b1;try clear hcz10_0;try clear hcz10_1;try clear hcz10_2;try clear hcz10_3;try clear hcz19_0;try clear hcz19_1;try clear hcz19_2;try clear hcz19_3;try clear hcz23_0;try clear hcz23_1;try clear hcz23_2;try clear hcz23_3;try clear hcz27_0;try clear hcz27_1;try clear hcz27_2;try clear hcz27_3;try clear hcz31_0;try clear hcz31_1;try clear hcz31_2;try clear hcz31_3;try clear hcz35_0;try clear hcz35_1;try clear hcz35_2;try clear hcz35_3;try clear hcz6_0;try clear hcz6_1;try clear hcz6_2;try clear hcz6_3;try clear hfz10_0;try clear hfz10_1;try clear hfz10_2;try clear hfz10_3;try clear hfz19_0;try clear hfz19_1;try clear hfz19_2;try clear hfz19_3;try clear hfz23_0;try clear hfz23_1;try clear hfz23_2;try clear hfz23_3;try clear hfz27_0;try clear hfz27_1;try clear hfz27_2;try clear hfz27_3;try clear hfz31_0;try clear hfz31_1;try clear hfz31_2;try clear hfz31_3;try clear hfz35_0;try clear hfz35_1;try clear hfz35_2;try clear hfz35_3;try clear hfz6_0;try clear hfz6_1;try clear hfz6_2;try clear hfz6_3;try clear p2
  obtain ⟨kq, x3_1, HA, HJ1, HO_3, BK212, HB⟩ := hcut
  cases kq with
  | zero => exact absurd HA.out (by simp [spec_ReadsRegs.j2])
  | succ kj1 =>
   have H := HA.out
   clear HA
   simp only [spec_ReadsRegs.j2] at H
   obtain ⟨y234, hy234⟩ : ∃ y_ : List Int, y_ = (([] : List Int)) := ⟨_, rfl⟩
   replace H : (spec_ReadsRegs.l0 kj1 x3_1 y234 0) = some r := rP hy234 H
   have Ny234 := Aside0.mk hy234
   clear hy234
   have H' := Aside0.mk H
   clear H
   go_wp2_with (first | ((with_reducible refine gate_dst (N := 48) rfl ?_); refine Kd.R_lit (Kd.int .i64) _ 3 ?hg (N := 48) ?hd (xs := ([] : List Int)) (inner := []) (ok := fun _ => True) (okp := fun _ => True) ?hr ?hp (fun _ hk => hk) trivial (Below.refl _ _) (Nat.le_refl _) (by simp) ?_; (case hd => rfl); (case hg => rfl); (case hr => first | (go_simp; done) | (go_simp; rfl)); (case hp => exact (Reps.none _ _)); intro v235 w38 ho39 hb hg_ hnew_; clear hg_ hnew_; (first | rw [← Ny234.out] at ho39 | (simp only [Int.reduceToNat] at ho39; rw [← Ny234.out] at ho39)); have HO236 := Aside0.mk (Kd.R_lower (Kd.R_new' ho39 (Kd.R_lt (rS HO_3.out))) (below_size bx)); replace HO_3 := Aside0.mk (Kd.R_elder' (rS HO_3.out) (Kd.R_base ho39) hb); replace BK212 := Aside0.mk (blk_below (g := gb212) (o := .cells #[.int .i64 a0_0, .int .i64 a0_1, .int .i64 a0_2, .int .i64 a0_3] 38 (0, 0)) (bS BK212.out) hb); replace HB := Aside0.mk (below_step bx hb); clear hb ho39))
   go_loopg [4, 5] kj1 (fun kq v4 v5 w' => ∃ (x4_2 : List Int) (x5_2 : Int), v5 = .int .i64 x5_2 ∧ Aside0 (spec_ReadsRegs.l0 kq x3_1 x4_2 x5_2 = some r) ∧ Aside0 (kq ≤ kj1) ∧ Aside0 (Kd.R (Kd.int .i64) 3 w' w.heap.size (fun k_ => some k_ ≠ (v4 : Value).ownBlock) u3 x3_1) ∧ Aside0 (Kd.R (Kd.int .i64) 3 w' w.heap.size (fun k_ => some k_ ≠ (u3 : Value).ownBlock) v4 x4_2) ∧ Aside0 (w'.heap[gb212]? = some (.cells #[.int .i64 a0_0, .int .i64 a0_1, .int .i64 a0_2, .int .i64 a0_3] 38 (0, 0))) ∧ Aside0 (Below w.heap.size w w'))
   case atStart => exact ⟨(y234), (0), tR, H', ⟨Nat.le_refl _⟩, ⟨by (with_reducible repeat (first | apply Kd.R_alloc | apply Kd.R_drewN | apply Kd.R_drew)); exact Kd.R_mono HO_3.out (fun _ hk => hk.2)⟩, ⟨by (with_reducible repeat (first | apply Kd.R_alloc | apply Kd.R_drewN | apply Kd.R_drew)); exact Kd.R_mono HO236.out (fun _ hk => hk.2)⟩, ⟨bS BK212.out⟩, ⟨bx⟩⟩
   case round =>
    clear H'
    try clear c1;try clear c2;try clear p2;try clear c3;try clear c5;try clear c8;try clear c8b0;try clear c8b1;try clear c9;try clear c14;try clear c14b0;try clear c14b1;try clear c15;try clear c15b0;try clear c15b1;try clear c16;try clear c16b0;try clear c16b1;try clear c17;try clear c17b0;try clear c17b1;try clear c18;try clear c22;try clear c22b0;try clear c22b1;try clear c26;try clear c26b0;try clear c26b1;try clear c30;try clear c30b0;try clear c30b1;try clear c34;try clear c34b0;try clear c34b1;try clear hcz10_0;try clear hcz10_1;try clear hcz10_2;try clear hcz10_3;try clear hcz19_0;try clear hcz19_1;try clear hcz19_2;try clear hcz19_3;try clear hcz23_0;try clear hcz23_1;try clear hcz23_2;try clear hcz23_3;try clear hcz27_0;try clear hcz27_1;try clear hcz27_2;try clear hcz27_3;try clear hcz31_0;try clear hcz31_1;try clear hcz31_2;try clear hcz31_3;try clear hcz35_0;try clear hcz35_1;try clear hcz35_2;try clear hcz35_3;try clear hcz6_0;try clear hcz6_1;try clear hcz6_2;try clear hcz6_3;try clear hfz10_0;try clear hfz10_1;try clear hfz10_2;try clear hfz10_3;try clear hfz19_0;try clear hfz19_1;try clear hfz19_2;try clear hfz19_3;try clear hfz23_0;try clear hfz23_1;try clear hfz23_2;try clear hfz23_3;try clear hfz27_0;try clear hfz27_1;try clear hfz27_2;try clear hfz27_3;try clear hfz31_0;try clear hfz31_1;try clear hfz31_2;try clear hfz31_3;try clear hfz35_0;try clear hfz35_1;try clear hfz35_2;try clear hfz35_3;try clear hfz6_0;try clear hfz6_1;try clear hfz6_2;try clear hfz6_3;try clear p2
    obtain ⟨x4_2, x5_2, rfl, HA, HK2, HO_3, HO_4, BK212, HB⟩ := hrel
    cases gk with
    | zero => exact absurd HA.out (by simp [spec_ReadsRegs.l0])
    | succ k2 =>
     have H := HA.out
     clear HA
     simp only [spec_ReadsRegs.l0] at H
     by_cases c40 : x5_2 < (x3_1.length : Int)
     ·rw [if_pos c40] at H
      have c40b0 : decide (x5_2 < (x3_1.length : Int)) = true := decide_eq_true c40
      clear c40
      by_cases c41 : 0 ≤ x5_2
      ·rw [if_pos c41] at H
       have c41b0 : decide (0 ≤ x5_2) = true := decide_eq_true c41
       clear c41
       replace H := Option.bind_eq_some_iff.mp H
       obtain ⟨t238, A420, H⟩ := H
       replace H : (spec_ReadsRegs.l0 k2 x3_1 t238 (wrap64 (x5_2 + 1))) = some r := H
       have A42 := Aside0.mk A420
       clear A420
       have H' := Aside0.mk H
       clear H
       obtain ⟨Ao43, co43, eo43⟩ := Kd.R_slice HO_3.out
       subst eo43
       have p237 : 0 ≤ (x5_2 : Int) := dT
       have q237 : x5_2 < (x3_1.length : Int) := dT
       obtain ⟨ad237, e237, hx237_0⟩ := Kd.at_int (Kd.R_reads' HO_3.out).2.2 x5_2 p237 q237
       cases e237
       replace p237 := eq_true p237
       replace q237 := eq_true q237
       obtain ⟨Ao44, co44, eo44⟩ := Kd.R_slice HO_4.out
       subst eo44
       go_wp2_with (first | ((with_reducible refine gate_callee (f := 52) rfl ?_); refine gL (some 60) Tryz.func52 #[.slice Ao44 x4_2.length co44, .int .i64 (rd x3_1 x5_2)] ?_; (with_reducible refine (spec_l04Put.calls k2 (fun k_ => some k_ = (.slice Ao44 x4_2.length co44 : Value).ownBlock) (.slice Ao44 x4_2.length co44) x4_2 (rd x3_1 x5_2) t238 w _ ?side1 ?side2 A42.out).mono ?_); (case side1 => repeat (first | (with_reducible first | exact HB.out | apply below_alloc | apply pw_below_drewN | apply below_drew1 | refine below_set ?_ GE212.out) | exact HB.out)); (case side2 => exact Kd.R_tight rfl HO_4.out); rintro e w45 ⟨v239, rfl, ho0, hb, hkp⟩; refine ⟨_, rfl, ?_⟩; replace BK212 := Aside0.mk (blk_kept (bS BK212.out) hkp (fun hs_ => (fun e_ => (Kd.R_ne HO_4.out BK212.out (by decide)) e_) hs_)); have HO240 := Aside0.mk (Kd.R_mono (ok' := fun k_ => some k_ ≠ (.slice (some ad237) x3_1.length co43 : Value).ownBlock) ho0 (fun k_ hk_ => Or.elim hk_ (fun hs_ => fun e_ => (((HO_3.out).1 k_ e_.symm)) hs_) (fun hn_ => (Kd.fresh' (Kd.R_lt (rS HO_3.out)) k_ hn_)))); replace HO_3 := Aside0.mk (Kd.R_mono (ok' := fun k_ => some k_ ≠ (v239 : Value).ownBlock) (Kd.R_keptB (HO_3.out) hkp (fun k_ hk_ hs_ => (hk_) hs_)) (fun k_ hk_ => fun e_ => Or.elim (ho0.1 k_ e_.symm) (fun hs_ => hk_.2.1 hs_) (fun hn_ => Nat.not_le.2 hk_.2.2 hn_))); replace HB := Aside0.mk (hb); clear HO_4; (try clear hb); (try clear hkp); (try clear ho0)))
       go_roundg k2
       case measure => have := HJ1.out; have := HK2.out; omega
       case rel => exact ⟨(t238), (wrap64 (x5_2 + 1)), tR, H', ⟨by have := HJ1.out; have := HK2.out; omega⟩, ⟨rS HO_3.out⟩, ⟨rS HO240.out⟩, ⟨bS BK212.out⟩, ⟨bx⟩⟩
      ·rw [if_neg c41] at H
       exact absurd H (by simp)
     ·rw [if_neg c40] at H
      have c40b0 : decide (x5_2 < (x3_1.length : Int)) = false := decide_eq_false c40
      clear c40
      obtain rfl := Option.some.inj H
      obtain ⟨Ao46, co46, eo46⟩ := Kd.R_slice HO_3.out
      subst eo46
      go_wp2
      go_ret
      exact ⟨_, eR, by (with_reducible repeat (first | apply Kd.R_alloc | apply Kd.R_drewN | apply Kd.R_drew)); exact Kd.R_mono HO_4.out (fun _ hk => trivial), bx⟩

/-! ### spec_UniformAfter: function 31 -/
mutual
def spec_UniformAfter.j0 : Nat → Int → Bool → Int → Int → Int → Int → Option (Int)
 | 0, _, _, _, _, _, _ => none
 | k + 1, x1, x16, x242000, x242001, x242002, x242003 => if x16 = true then (some (-1)) else ((spec_WritesReg.f x242000 x242001 x242002 x242003).bind fun t244 => (if t244 < 0 then (some x1) else (if x242000 = 8 then (spec_UniformAfter.j1 k x1 t244 false x242000 x242001 x242002 x242003) else (spec_UniformAfter.j1 k x1 t244 (x242000 != 13) x242000 x242001 x242002 x242003))))
def spec_UniformAfter.j1 : Nat → Int → Int → Bool → Int → Int → Int → Int → Option (Int)
 | 0, _, _, _, _, _, _, _ => none
 | k + 1, x1, x5, x6, x242000, x242001, x242002, x242003 => (spec_ReadsRegs.f k x242000 x242001 x242002 x242003).bind fun t245 => (spec_UniformAfter.l0 k x1 x5 x6 t245 0)
def spec_UniformAfter.l0 : Nat → Int → Int → Bool → List Int → Int → Option (Int)
 | 0, _, _, _, _, _ => none
 | k + 1, x1, x5, x6, x7, x8 => if x8 < (x7.length : Int) then (if x6 = true then (if 0 ≤ x8 then (if 0 ≤ (rd x7 x8) then (spec_UniformAfter.l0 k x1 x5 ((Go.bits .and .i64 (shr .i64 x1 (rd x7 x8)) 1) == 1) x7 (wrap64 (x8 + 1))) else (none)) else (none)) else (spec_UniformAfter.l0 k x1 x5 false x7 (wrap64 (x8 + 1)))) else (if x6 = true then (if 0 ≤ x5 then (some (Go.bits .or .i64 x1 (shl .i64 1 x5))) else (none)) else (if 0 ≤ x5 then (some (Go.bits .andNot .i64 x1 (shl .i64 1 x5))) else (none)))
end
def spec_UniformAfter.f (k : Nat) (a0_0 : Int) (a0_1 : Int) (a0_2 : Int) (a0_3 : Int) (a1 : Int) : Option (Int) := (spec_l01In.f a1 0 15).bind fun t242 => (if t242 = true then ((spec_InsOk.f k a0_0 a0_1 a0_2 a0_3 32).bind fun t243 => (spec_UniformAfter.j0 k a1 (!t243) a0_0 a0_1 a0_2 a0_3)) else (spec_UniformAfter.j0 k a1 true a0_0 a0_1 a0_2 a0_3))
theorem spec_UniformAfter.mono_l : ∀ k, (∀ y0 y1 y2 y3 y4 y5, LeO (spec_UniformAfter.j0 k y0 y1 y2 y3 y4 y5) (spec_UniformAfter.j0 (k + 1) y0 y1 y2 y3 y4 y5)) ∧ (∀ y0 y1 y2 y3 y4 y5 y6, LeO (spec_UniformAfter.j1 k y0 y1 y2 y3 y4 y5 y6) (spec_UniformAfter.j1 (k + 1) y0 y1 y2 y3 y4 y5 y6)) ∧ (∀ y0 y1 y2 y3 y4, LeO (spec_UniformAfter.l0 k y0 y1 y2 y3 y4) (spec_UniformAfter.l0 (k + 1) y0 y1 y2 y3 y4))
 | 0 => ⟨fun _ _ _ _ _ _ r h => by simp [spec_UniformAfter.j0] at h, fun _ _ _ _ _ _ _ r h => by simp [spec_UniformAfter.j1] at h, fun _ _ _ _ _ r h => by simp [spec_UniformAfter.l0] at h⟩
 | k + 1 => by
  obtain ⟨ih0, ih1, ih2⟩ := spec_UniformAfter.mono_l k
  refine ⟨?_, ?_, ?_⟩
  intro y0 y1 y2 y3 y4 y5;unfold spec_UniformAfter.j0;rotate_left
  intro y0 y1 y2 y3 y4 y5 y6;unfold spec_UniformAfter.j1;rotate_left
  intro y0 y1 y2 y3 y4;unfold spec_UniformAfter.l0;rotate_left
  all_goals repeat' first
  | (with_reducible exact ih0 _ _ _ _ _ _)
  | (with_reducible exact ih1 _ _ _ _ _ _ _)
  | (with_reducible exact ih2 _ _ _ _ _)
  | (with_reducible exact spec_InsOk.mono _ _ _ _ _ _)
  | (with_reducible exact spec_ReadsRegs.mono _ _ _ _ _)
  | (with_reducible exact LeO.refl _)
  | (with_reducible exact LeO.none _)
  | (with_reducible refine LeO.ite ?_ ?_)
  | (with_reducible refine LeO.bind ?_ (fun _ => ?_))
  | exact ih0 _ _ _ _ _ _
  | exact ih1 _ _ _ _ _ _ _
  | exact ih2 _ _ _ _ _
  | exact spec_InsOk.mono _ _ _ _ _ _
  | exact spec_ReadsRegs.mono _ _ _ _ _
  | exact LeO.none _
  | refine LeO.ite ?_ ?_
  | refine LeO.bind ?_ (fun _ => ?_)
theorem spec_UniformAfter.mono : ∀ a0 a1 a2 a3 a4 k, LeO (spec_UniformAfter.f k a0 a1 a2 a3 a4) (spec_UniformAfter.f (k + 1) a0 a1 a2 a3 a4) := by
 intro a0 a1 a2 a3 a4 k
 obtain ⟨ih0, ih1, ih2⟩ := spec_UniformAfter.mono_l k
 unfold spec_UniformAfter.f
 repeat' first
   | (with_reducible exact ih0 _ _ _ _ _ _)
   | (with_reducible exact ih1 _ _ _ _ _ _ _)
   | (with_reducible exact ih2 _ _ _ _ _)
   | (with_reducible exact spec_InsOk.mono _ _ _ _ _ _)
   | (with_reducible exact spec_ReadsRegs.mono _ _ _ _ _)
   | (with_reducible exact LeO.refl _)
   | (with_reducible exact LeO.none _)
   | (with_reducible refine LeO.ite ?_ ?_)
   | (with_reducible refine LeO.bind ?_ (fun _ => ?_))
   | exact ih0 _ _ _ _ _ _
   | exact ih1 _ _ _ _ _ _ _
   | exact ih2 _ _ _ _ _
   | exact spec_InsOk.mono _ _ _ _ _ _
   | exact spec_ReadsRegs.mono _ _ _ _ _
   | exact LeO.none _
   | refine LeO.ite ?_ ?_
   | refine LeO.bind ?_ (fun _ => ?_)
set_option maxHeartbeats 8000000 in
set_option maxRecDepth 100000 in
theorem spec_UniformAfter.calls (k : Nat) (a0_0 : Int) (a0_1 : Int) (a0_2 : Int) (a0_3 : Int) (a1 : Int) (r : Int) (w : World) (h : spec_UniformAfter.f k a0_0 a0_1 a0_2 a0_3 a1 = some r) :
  Calls Tryz.prog 31 #[.agg #[.int .i64 a0_0, .int .i64 a0_1, .int .i64 a0_2, .int .i64 a0_3], .int .i64 a1] w fun e w' => e = .returned (.int .i64 r) ∧ Below w.heap.size w w' := by
 have hu38 := Tryz.underlying38
 have HB := Aside0.mk (Below.refl w.heap.size w)
 have H : ((spec_l01In.f a1 0 15).bind fun t242 => (if t242 = true then ((spec_InsOk.f k a0_0 a0_1 a0_2 a0_3 32).bind fun t243 => (spec_UniformAfter.j0 k a1 (!t243) a0_0 a0_1 a0_2 a0_3)) else (spec_UniformAfter.j0 k a1 true a0_0 a0_1 a0_2 a0_3))) = some r := h
 clear h
 have HC3 := Aside0.mk H
 clear H
 go_enter Tryz.func31, Tryz.ntmps31
 go_upto_region 1 with (first | ((with_reducible refine gate_dst (N := 2) rfl ?_); refine box_event ?hg (N := 2) ?hd (cs := #[.int .i64 a0_0, .int .i64 a0_1, .int .i64 a0_2, .int .i64 a0_3]) (t := 38) ?hr ?_; (case hd => rfl); (case hg => rfl); (case hr => first | (go_simp; done) | (go_simp; rfl)); intro gb241 hg w4 hbox hb; have BK241 := Aside0.mk (hbox); have GW241 := Aside0.mk ((by rw [hg]; exact (below_size bw) : w.heap.size ≤ gb241)); have GE241 := Aside0.mk ((by rw [hg]; exact (below_size bw) : w.heap.size ≤ gb241)); replace HB := Aside0.mk (below_step bw hb); clear hb hbox hg))
 (try simp only [Act.put, List.setIfInBounds_toArray, List.set_cons_zero, List.set_cons_succ])
 go_cut [16] (fun v16 wc => ∃ (kq : Nat) (x16_2 : Bool), v16 = .bool x16_2 ∧ Aside0 (spec_UniformAfter.j0 kq a1 x16_2 a0_0 a0_1 a0_2 a0_3 = some r) ∧ Aside0 (kq ≤ k) ∧ Aside0 (wc.heap[gb241]? = some (.cells #[.int .i64 a0_0, .int .i64 a0_1, .int .i64 a0_2, .int .i64 a0_3] 38 (0, 0))) ∧ Aside0 (Below w.heap.size w wc))
 case first =>
  have H := HC3.out
  clear HC3
  replace H := Option.bind_eq_some_iff.mp H
  obtain ⟨t242, A50, H⟩ := H
  replace H : (if t242 = true then ((spec_InsOk.f k a0_0 a0_1 a0_2 a0_3 32).bind fun t243 => (spec_UniformAfter.j0 k a1 (!t243) a0_0 a0_1 a0_2 a0_3)) else (spec_UniformAfter.j0 k a1 true a0_0 a0_1 a0_2 a0_3)) = some r := H
  have A5 := Aside0.mk A50
  clear A50
  by_cases c6 : t242 = true
  ·subst c6
   have H1 : ((spec_InsOk.f k a0_0 a0_1 a0_2 a0_3 32).bind fun t243 => (spec_UniformAfter.j0 k a1 (!t243) a0_0 a0_1 a0_2 a0_3)) = some r := by rw [if_pos rfl] at H; exact H
   clear H
   have H := H1
   clear H1
   replace H := Option.bind_eq_some_iff.mp H
   obtain ⟨t243, A70, H⟩ := H
   replace H : (spec_UniformAfter.j0 k a1 (!t243) a0_0 a0_1 a0_2 a0_3) = some r := H
   have A7 := Aside0.mk A70
   clear A70
   have H' := Aside0.mk H
   clear H
   go_wp2_with (first | ((with_reducible refine gate_callee (f := 53) rfl ?_); refine gL (some 10) Tryz.func53 #[.int .i64 a1, .int .i64 0, .int .i64 15] ?_; (with_reducible refine (spec_l01In.calls a1 0 15 true _ A5.out).mono ?_); rintro e w' ⟨rfl, ⟨nd, rfl⟩⟩; refine ⟨_, rfl, ?_⟩; have hcz8_0 : w4.cell? ⟨gb241, 0, none⟩ = some (.int .i64 a0_0) := (blk_cell BK241.out 0).trans rfl; have hcz8_1 : w4.cell? ⟨gb241, 1, none⟩ = some (.int .i64 a0_1) := (blk_cell BK241.out 1).trans rfl; have hcz8_2 : w4.cell? ⟨gb241, 2, none⟩ = some (.int .i64 a0_2) := (blk_cell BK241.out 2).trans rfl; have hcz8_3 : w4.cell? ⟨gb241, 3, none⟩ = some (.int .i64 a0_3) := (blk_cell BK241.out 3).trans rfl; have hfz8_0 := blk_frozen BK241.out 0; have hfz8_1 := blk_frozen BK241.out 1; have hfz8_2 := blk_frozen BK241.out 2; have hfz8_3 := blk_frozen BK241.out 3) | (go_at_call 54; (with_reducible refine (spec_InsOk.calls k a0_0 a0_1 a0_2 a0_3 32 t243 _ A7.out).mono ?_); rintro e w9 ⟨rfl, hb⟩; replace BK241 := Aside0.mk (blk_below (g := gb241) (o := .cells #[.int .i64 a0_0, .int .i64 a0_1, .int .i64 a0_2, .int .i64 a0_3] 38 (0, 0)) (bS BK241.out) hb); replace HB := Aside0.mk (below_step bx hb); (try clear hb)))
   go_meet
   case rel => exact ⟨_, (!t243), tR, H', ⟨by first | omega | exact Nat.le_refl _⟩, ⟨bS BK241.out⟩, ⟨bx⟩⟩
  ·replace c6 := Bool.eq_false_iff.mpr c6
   subst c6
   have H1 : (spec_UniformAfter.j0 k a1 true a0_0 a0_1 a0_2 a0_3) = some r := by rw [if_neg (show ¬ (false = true) by decide)] at H; exact H
   clear H
   have H := H1
   clear H1
   have H' := Aside0.mk H
   clear H
   go_wp2_with (first | ((with_reducible refine gate_callee (f := 53) rfl ?_); refine gL (some 10) Tryz.func53 #[.int .i64 a1, .int .i64 0, .int .i64 15] ?_; (with_reducible refine (spec_l01In.calls a1 0 15 false _ A5.out).mono ?_); rintro e w' ⟨rfl, ⟨nd, rfl⟩⟩; refine ⟨_, rfl, ?_⟩))
   go_meet
   case rel => exact ⟨_, (true), tR, H', ⟨by first | omega | exact Nat.le_refl _⟩, ⟨bS BK241.out⟩, ⟨bx⟩⟩
 case rest =>
  clear HC3
  try clear p2;try clear c3;try clear c5;try clear c6;try clear hcz8_0;try clear hcz8_1;try clear hcz8_2;try clear hcz8_3;try clear hfz8_0;try clear hfz8_1;try clear hfz8_2;try clear hfz8_3
  obtain ⟨kq, x16_2, rfl, HA, HJ2, BK241, HB⟩ := hcut
  cases kq with
  | zero => exact absurd HA.out (by simp [spec_UniformAfter.j0])
  | succ kj2 =>
   have H := HA.out
   clear HA
   simp only [spec_UniformAfter.j0] at H
   by_cases c10 : x16_2 = true
   ·subst c10
    have H1 : (some (-1)) = some r := by rw [if_pos rfl] at H; exact H
    clear H
    have H := H1
    clear H1
    obtain rfl := Option.some.inj H
    go_wp2
    go_ret
    exact ⟨eR, bx⟩
   ·replace c10 := Bool.eq_false_iff.mpr c10
    subst c10
    have H1 : ((spec_WritesReg.f a0_0 a0_1 a0_2 a0_3).bind fun t244 => (if t244 < 0 then (some a1) else (if a0_0 = 8 then (spec_UniformAfter.j1 kj2 a1 t244 false a0_0 a0_1 a0_2 a0_3) else (spec_UniformAfter.j1 kj2 a1 t244 (a0_0 != 13) a0_0 a0_1 a0_2 a0_3)))) = some r := by rw [if_neg (show ¬ (false = true) by decide)] at H; exact H
    clear H
    have H := H1
    clear H1
    replace H := Option.bind_eq_some_iff.mp H
    obtain ⟨t244, A110, H⟩ := H
    replace H : (if t244 < 0 then (some a1) else (if a0_0 = 8 then (spec_UniformAfter.j1 kj2 a1 t244 false a0_0 a0_1 a0_2 a0_3) else (spec_UniformAfter.j1 kj2 a1 t244 (a0_0 != 13) a0_0 a0_1 a0_2 a0_3))) = some r := H
    have A11 := Aside0.mk A110
    clear A110
    by_cases c12 : t244 < 0
    ·rw [if_pos c12] at H
     have c12b0 : decide (t244 < 0) = true := decide_eq_true c12
     clear c12
     obtain rfl := Option.some.inj H
     have hcz13_0 : wc.cell? ⟨gb241, 0, none⟩ = some (.int .i64 a0_0) := (blk_cell BK241.out 0).trans rfl
     have hcz13_1 : wc.cell? ⟨gb241, 1, none⟩ = some (.int .i64 a0_1) := (blk_cell BK241.out 1).trans rfl
     have hcz13_2 : wc.cell? ⟨gb241, 2, none⟩ = some (.int .i64 a0_2) := (blk_cell BK241.out 2).trans rfl
     have hcz13_3 : wc.cell? ⟨gb241, 3, none⟩ = some (.int .i64 a0_3) := (blk_cell BK241.out 3).trans rfl
     have hfz13_0 := blk_frozen BK241.out 0
     have hfz13_1 := blk_frozen BK241.out 1
     have hfz13_2 := blk_frozen BK241.out 2
     have hfz13_3 := blk_frozen BK241.out 3
     go_wp2_with (first | ((with_reducible refine gate_callee (f := 55) rfl ?_); refine gL (some 18) Tryz.func55 #[.agg #[.int .i64 a0_0, .int .i64 a0_1, .int .i64 a0_2, .int .i64 a0_3]] ?_; (with_reducible refine (spec_WritesReg.calls a0_0 a0_1 a0_2 a0_3 t244 _ A11.out).mono ?_); rintro e w14 ⟨rfl, hb⟩; refine ⟨_, rfl, ?_⟩; replace BK241 := Aside0.mk (blk_below (g := gb241) (o := .cells #[.int .i64 a0_0, .int .i64 a0_1, .int .i64 a0_2, .int .i64 a0_3] 38 (0, 0)) (bS BK241.out) hb); replace HB := Aside0.mk (below_step bx hb); (try clear hb)))
     go_ret
     exact ⟨eR, bx⟩
    ·rw [if_neg c12] at H
     have c12b0 : decide (t244 < 0) = false := decide_eq_false c12
     clear c12
     have HC15 := Aside0.mk H
     clear H
     have hcz16_0 : wc.cell? ⟨gb241, 0, none⟩ = some (.int .i64 a0_0) := (blk_cell BK241.out 0).trans rfl
     have hcz16_1 : wc.cell? ⟨gb241, 1, none⟩ = some (.int .i64 a0_1) := (blk_cell BK241.out 1).trans rfl
     have hcz16_2 : wc.cell? ⟨gb241, 2, none⟩ = some (.int .i64 a0_2) := (blk_cell BK241.out 2).trans rfl
     have hcz16_3 : wc.cell? ⟨gb241, 3, none⟩ = some (.int .i64 a0_3) := (blk_cell BK241.out 3).trans rfl
     have hfz16_0 := blk_frozen BK241.out 0
     have hfz16_1 := blk_frozen BK241.out 1
     have hfz16_2 := blk_frozen BK241.out 2
     have hfz16_3 := blk_frozen BK241.out 3
     go_upto_region 6 with (first | ((with_reducible refine gate_callee (f := 55) rfl ?_); refine gL (some 18) Tryz.func55 #[.agg #[.int .i64 a0_0, .int .i64 a0_1, .int .i64 a0_2, .int .i64 a0_3]] ?_; (with_reducible refine (spec_WritesReg.calls a0_0 a0_1 a0_2 a0_3 t244 _ A11.out).mono ?_); rintro e w17 ⟨rfl, hb⟩; refine ⟨_, rfl, ?_⟩; replace BK241 := Aside0.mk (blk_below (g := gb241) (o := .cells #[.int .i64 a0_0, .int .i64 a0_1, .int .i64 a0_2, .int .i64 a0_3] 38 (0, 0)) (bS BK241.out) hb); replace HB := Aside0.mk (below_step bx hb); (try clear hb)))
     (try simp only [Act.put, List.setIfInBounds_toArray, List.set_cons_zero, List.set_cons_succ])
     go_cut [6] (fun v6 wc => ∃ (kq : Nat) (x6_14 : Bool), v6 = .bool x6_14 ∧ Aside0 (spec_UniformAfter.j1 kq a1 t244 x6_14 a0_0 a0_1 a0_2 a0_3 = some r) ∧ Aside0 (kq ≤ kj2) ∧ Aside0 (wc.heap[gb241]? = some (.cells #[.int .i64 a0_0, .int .i64 a0_1, .int .i64 a0_2, .int .i64 a0_3] 38 (0, 0))) ∧ Aside0 (Below w.heap.size w wc))
     case first =>
      have H := HC15.out
      clear HC15
      by_cases c18 : a0_0 = 8
      ·rw [if_pos c18] at H
       have c18b0 : (a0_0 == 8) = true := beq_iff_eq.mpr c18
       have c18b1 : (a0_0 != 8) = false := bne_eq_false_iff_eq.mpr c18
       clear c18
       (first | rw [c18b0] | (simp only [i64_w, i32_w]; rw [c18b0]) | skip)
       have H' := Aside0.mk H
       clear H
       have hcz19_0 : w17.cell? ⟨gb241, 0, none⟩ = some (.int .i64 a0_0) := (blk_cell BK241.out 0).trans rfl
       have hcz19_1 : w17.cell? ⟨gb241, 1, none⟩ = some (.int .i64 a0_1) := (blk_cell BK241.out 1).trans rfl
       have hcz19_2 : w17.cell? ⟨gb241, 2, none⟩ = some (.int .i64 a0_2) := (blk_cell BK241.out 2).trans rfl
       have hcz19_3 : w17.cell? ⟨gb241, 3, none⟩ = some (.int .i64 a0_3) := (blk_cell BK241.out 3).trans rfl
       have hfz19_0 := blk_frozen BK241.out 0
       have hfz19_1 := blk_frozen BK241.out 1
       have hfz19_2 := blk_frozen BK241.out 2
       have hfz19_3 := blk_frozen BK241.out 3
       go_wp2
       go_meet
       case rel => exact ⟨_, (false), tR, H', ⟨by have := HJ2.out; first | omega | exact Nat.le_refl _⟩, ⟨bS BK241.out⟩, ⟨bx⟩⟩
      ·rw [if_neg c18] at H
       have c18b0 : (a0_0 == 8) = false := beq_eq_false_iff_ne.mpr c18
       have c18b1 : (a0_0 != 8) = true := bne_iff_ne.mpr c18
       (first | rw [c18b0] | (simp only [i64_w, i32_w]; rw [c18b0]) | skip)
       have H' := Aside0.mk H
       clear H
       have hcz20_0 : w17.cell? ⟨gb241, 0, none⟩ = some (.int .i64 a0_0) := (blk_cell BK241.out 0).trans rfl
       have hcz20_1 : w17.cell? ⟨gb241, 1, none⟩ = some (.int .i64 a0_1) := (blk_cell BK241.out 1).trans rfl
       have hcz20_2 : w17.cell? ⟨gb241, 2, none⟩ = some (.int .i64 a0_2) := (blk_cell BK241.out 2).trans rfl
       have hcz20_3 : w17.cell? ⟨gb241, 3, none⟩ = some (.int .i64 a0_3) := (blk_cell BK241.out 3).trans rfl
       have hfz20_0 := blk_frozen BK241.out 0
       have hfz20_1 := blk_frozen BK241.out 1
       have hfz20_2 := blk_frozen BK241.out 2
       have hfz20_3 := blk_frozen BK241.out 3
       go_wp2
       go_meet
       case rel => exact ⟨_, ((a0_0 != 13)), tR, H', ⟨by have := HJ2.out; first | omega | exact Nat.le_refl _⟩, ⟨bS BK241.out⟩, ⟨bx⟩⟩
     case rest =>
      clear HC15
      try clear c1;try clear p2;try clear c3;try clear c5;try clear c6;try clear c10;try clear c12;try clear c12b0;try clear c18;try clear c18b0;try clear c18b1;try clear hcz13_0;try clear hcz13_1;try clear hcz13_2;try clear hcz13_3;try clear hcz16_0;try clear hcz16_1;try clear hcz16_2;try clear hcz16_3;try clear hcz19_0;try clear hcz19_1;try clear hcz19_2;try clear hcz19_3;try clear hcz20_0;try clear hcz20_1;try clear hcz20_2;try clear hcz20_3;try clear hcz8_0;try clear hcz8_1;try clear hcz8_2;try clear hcz8_3;try clear hfz13_0;try clear hfz13_1;try clear hfz13_2;try clear hfz13_3;try clear hfz16_0;try clear hfz16_1;try clear hfz16_2;try clear hfz16_3;try clear hfz19_0;try clear hfz19_1;try clear hfz19_2;try clear hfz19_3;try clear hfz20_0;try clear hfz20_1;try clear hfz20_2;try clear hfz20_3;try clear hfz8_0;try clear hfz8_1;try clear hfz8_2;try clear hfz8_3;try clear p2
      obtain ⟨kq, x6_14, rfl, HA, HJ14, BK241, HB⟩ := hcut
      cases kq with
      | zero => exact absurd HA.out (by simp [spec_UniformAfter.j1])
      | succ kj14 =>
       have H := HA.out
       clear HA
       simp only [spec_UniformAfter.j1] at H
       replace H := Option.bind_eq_some_iff.mp H
       obtain ⟨t245, A210, H⟩ := H
       replace H : (spec_UniformAfter.l0 kj14 a1 t244 x6_14 t245 0) = some r := H
       have A21 := Aside0.mk A210
       clear A210
       have H' := Aside0.mk H
       clear H
       have hcz22_0 : wc.cell? ⟨gb241, 0, none⟩ = some (.int .i64 a0_0) := (blk_cell BK241.out 0).trans rfl
       have hcz22_1 : wc.cell? ⟨gb241, 1, none⟩ = some (.int .i64 a0_1) := (blk_cell BK241.out 1).trans rfl
       have hcz22_2 : wc.cell? ⟨gb241, 2, none⟩ = some (.int .i64 a0_2) := (blk_cell BK241.out 2).trans rfl
       have hcz22_3 : wc.cell? ⟨gb241, 3, none⟩ = some (.int .i64 a0_3) := (blk_cell BK241.out 3).trans rfl
       have hfz22_0 := blk_frozen BK241.out 0
       have hfz22_1 := blk_frozen BK241.out 1
       have hfz22_2 := blk_frozen BK241.out 2
       have hfz22_3 := blk_frozen BK241.out 3
       go_wp2_with (first | ((with_reducible refine gate_callee (f := 56) rfl ?_); refine gL (some 31) Tryz.func56 #[.agg #[.int .i64 a0_0, .int .i64 a0_1, .int .i64 a0_2, .int .i64 a0_3]] ?_; (with_reducible refine (spec_ReadsRegs.calls kj14 a0_0 a0_1 a0_2 a0_3 t245 _ A21.out).mono ?_); rintro e w23 ⟨v246, rfl, ho0, hb⟩; refine ⟨_, rfl, ?_⟩; have HO247 := Aside0.mk (Kd.R_lower ho0 (below_size bx)); replace BK241 := Aside0.mk (blk_below (g := gb241) (o := .cells #[.int .i64 a0_0, .int .i64 a0_1, .int .i64 a0_2, .int .i64 a0_3] 38 (0, 0)) (bS BK241.out) hb); replace HB := Aside0.mk (below_step bx hb); (try clear hb); (try clear ho0)))
       go_loopg [6, 8] kj14 (fun kq v6 v8 w' => ∃ (x6_3 : Bool) (x8_3 : Int), v6 = .bool x6_3 ∧ v8 = .int .i64 x8_3 ∧ Aside0 (spec_UniformAfter.l0 kq a1 t244 x6_3 t245 x8_3 = some r) ∧ Aside0 (kq ≤ kj14) ∧ Aside0 (Kd.R (Kd.int .i64) 3 w' w.heap.size (fun _ => True) v246 t245) ∧ Aside0 (w'.heap[gb241]? = some (.cells #[.int .i64 a0_0, .int .i64 a0_1, .int .i64 a0_2, .int .i64 a0_3] 38 (0, 0))) ∧ Aside0 (Below w.heap.size w w'))
       case atStart => exact ⟨(x6_14), (0), tR, tR, H', ⟨Nat.le_refl _⟩, ⟨rS HO247.out⟩, ⟨bS BK241.out⟩, ⟨bx⟩⟩
       case round =>
        clear H'
        try clear c1;try clear p2;try clear c3;try clear c5;try clear c6;try clear c10;try clear c12;try clear c12b0;try clear c18;try clear c18b0;try clear c18b1;try clear hcz13_0;try clear hcz13_1;try clear hcz13_2;try clear hcz13_3;try clear hcz16_0;try clear hcz16_1;try clear hcz16_2;try clear hcz16_3;try clear hcz19_0;try clear hcz19_1;try clear hcz19_2;try clear hcz19_3;try clear hcz20_0;try clear hcz20_1;try clear hcz20_2;try clear hcz20_3;try clear hcz22_0;try clear hcz22_1;try clear hcz22_2;try clear hcz22_3;try clear hcz8_0;try clear hcz8_1;try clear hcz8_2;try clear hcz8_3;try clear hfz13_0;try clear hfz13_1;try clear hfz13_2;try clear hfz13_3;try clear hfz16_0;try clear hfz16_1;try clear hfz16_2;try clear hfz16_3;try clear hfz19_0;try clear hfz19_1;try clear hfz19_2;try clear hfz19_3;try clear hfz20_0;try clear hfz20_1;try clear hfz20_2;try clear hfz20_3;try clear hfz22_0;try clear hfz22_1;try clear hfz22_2;try clear hfz22_3;try clear hfz8_0;try clear hfz8_1;try clear hfz8_2;try clear hfz8_3;try clear p2
        obtain ⟨x6_3, x8_3, rfl, rfl, HA, HK3, HO_7, BK241, HB⟩ := hrel
        cases gk with
        | zero => exact absurd HA.out (by simp [spec_UniformAfter.l0])
        | succ k3 =>
         have H := HA.out
         clear HA
         simp only [spec_UniformAfter.l0] at H
         by_cases c24 : x8_3 < (t245.length : Int)
         ·rw [if_pos c24] at H
          have c24b0 : decide (x8_3 < (t245.length : Int)) = true := decide_eq_true c24
          clear c24
          by_cases c25 : x6_3 = true
          ·subst c25
           have H1 : (if 0 ≤ x8_3 then (if 0 ≤ (rd t245 x8_3) then (spec_UniformAfter.l0 k3 a1 t244 ((Go.bits .and .i64 (shr .i64 a1 (rd t245 x8_3)) 1) == 1) t245 (wrap64 (x8_3 + 1))) else (none)) else (none)) = some r := by rw [if_pos rfl] at H; exact H
           clear H
           have H := H1
           clear H1
           by_cases c26 : 0 ≤ x8_3
           ·rw [if_pos c26] at H
            have c26b0 : decide (0 ≤ x8_3) = true := decide_eq_true c26
            clear c26
            by_cases c27 : 0 ≤ (rd t245 x8_3)
            ·rw [if_pos c27] at H
             have c27b0 := eq_true c27
             have c27b1 : decide (0 ≤ (rd t245 x8_3)) = true := decide_eq_true c27
             clear c27
             obtain ⟨ji28, hji28⟩ : ∃ j_ : Int, (shr .i64 a1 (rd t245 x8_3)) = j_ := ⟨_, rfl⟩
             replace H : (spec_UniformAfter.l0 k3 a1 t244 ((Go.bits .and .i64 (ji28) 1) == 1) t245 (wrap64 (x8_3 + 1))) = some r := by first | (rw [hji28] at H; exact H) | (simp only [hji28] at H ⊢; exact H)
             have hji28_ : (a1 / 2 ^ min (rd t245 x8_3).toNat 64) = ji28 := hji28
             have hji28z : (rd t245 x8_3) ≤ 64 → (a1 / 2 ^ (rd t245 x8_3).toNat) = ji28 := shr_small hji28
             have H' := Aside0.mk H
             clear H
             obtain ⟨Ao29, co29, eo29⟩ := Kd.R_slice HO_7.out
             subst eo29
             have p248 : 0 ≤ (x8_3 : Int) := dT
             have q248 : x8_3 < (t245.length : Int) := dT
             obtain ⟨ad248, e248, hx248_0⟩ := Kd.at_int (Kd.R_reads' HO_7.out).2.2 x8_3 p248 q248
             cases e248
             replace p248 := eq_true p248
             replace q248 := eq_true q248
             go_wp2
             go_roundg k3
             case measure => have := HJ2.out; have := HJ14.out; have := HK3.out; omega
             case rel => exact ⟨(((Go.bits .and .i64 (ji28) 1) == 1)), (wrap64 (x8_3 + 1)), (by first | rfl | (simp; done) | (simp only [← hji28] <;> (first | rfl | simp)) | (simp [*]; done)), tR, H', ⟨by have := HJ2.out; have := HJ14.out; have := HK3.out; omega⟩, ⟨rS HO_7.out⟩, ⟨bS BK241.out⟩, ⟨bx⟩⟩
            ·rw [if_neg c27] at H
             exact absurd H (by simp)
           ·rw [if_neg c26] at H
            exact absurd H (by simp)
          ·replace c25 := Bool.eq_false_iff.mpr c25
           subst c25
           have H1 : (spec_UniformAfter.l0 k3 a1 t244 false t245 (wrap64 (x8_3 + 1))) = some r := by rw [if_neg (show ¬ (false = true) by decide)] at H; exact H
           clear H
           have H := H1
           clear H1
           have H' := Aside0.mk H
           clear H
           obtain ⟨Ao30, co30, eo30⟩ := Kd.R_slice HO_7.out
           subst eo30
           go_wp2
           go_roundg k3
           case measure => have := HJ2.out; have := HJ14.out; have := HK3.out; omega
           case rel => exact ⟨(false), (wrap64 (x8_3 + 1)), tR, tR, H', ⟨by have := HJ2.out; have := HJ14.out; have := HK3.out; omega⟩, ⟨rS HO_7.out⟩, ⟨bS BK241.out⟩, ⟨bx⟩⟩
         ·rw [if_neg c24] at H
          have c24b0 : decide (x8_3 < (t245.length : Int)) = false := decide_eq_false c24
          clear c24
          by_cases c31 : x6_3 = true
          ·subst c31
           have H1 : (if 0 ≤ t244 then (some (Go.bits .or .i64 a1 (shl .i64 1 t244))) else (none)) = some r := by rw [if_pos rfl] at H; exact H
           clear H
           have H := H1
           clear H1
           by_cases c32 : 0 ≤ t244
           ·rw [if_pos c32] at H
            have c32b0 := eq_true c32
            have c32b1 : decide (0 ≤ t244) = true := decide_eq_true c32
            clear c32
            obtain ⟨ji33, hji33⟩ : ∃ j_ : Int, (shl .i64 1 t244) = j_ := ⟨_, rfl⟩
            replace H : (some (Go.bits .or .i64 a1 (ji33))) = some r := by first | (rw [hji33] at H; exact H) | (simp only [hji33] at H ⊢; exact H)
            have hji33_ : (IntKind.i64.wrap (1 * 2 ^ min t244.toNat 64)) = ji33 := hji33
            have hji33z : t244 ≤ 64 → (IntKind.i64.wrap (1 * 2 ^ t244.toNat)) = ji33 := shl_small hji33
            have hji33u : (IntKind.i64.wrap (2 ^ min t244.toNat 64)) = ji33 := by have h_ := hji33_; rw [Int.one_mul] at h_; exact h_
            have hji33v : t244 ≤ 64 → (IntKind.i64.wrap (2 ^ t244.toNat)) = ji33 := fun hle_ => by have h_ := hji33z hle_; rw [Int.one_mul] at h_; exact h_
            have hji33y : (wrap64 (1 * 2 ^ min t244.toNat 64)) = ji33 := (i64_w _).symm.trans hji33_
            have hji33x : t244 ≤ 64 → (wrap64 (1 * 2 ^ t244.toNat)) = ji33 := fun h_ => (i64_w _).symm.trans (hji33z h_)
            obtain rfl := Option.some.inj H
            obtain ⟨Ao34, co34, eo34⟩ := Kd.R_slice HO_7.out
            subst eo34
            go_wp2
            go_ret
            exact ⟨by first | rfl | (simp [errW_none, errW_some] <;> rfl) | (simp only [← hji33]; first | rfl | (simp [errW_none, errW_some] <;> rfl)) | (simp [*, errW_none, errW_some] <;> rfl), bx⟩
           ·rw [if_neg c32] at H
            exact absurd H (by simp)
          ·replace c31 := Bool.eq_false_iff.mpr c31
           subst c31
           have H1 : (if 0 ≤ t244 then (some (Go.bits .andNot .i64 a1 (shl .i64 1 t244))) else (none)) = some r := by rw [if_neg (show ¬ (false = true) by decide)] at H; exact H
           clear H
           have H := H1
           clear H1
           by_cases c35 : 0 ≤ t244
           ·rw [if_pos c35] at H
            have c35b0 := eq_true c35
            have c35b1 : decide (0 ≤ t244) = true := decide_eq_true c35
            clear c35
            obtain ⟨ji36, hji36⟩ : ∃ j_ : Int, (shl .i64 1 t244) = j_ := ⟨_, rfl⟩
            replace H : (some (Go.bits .andNot .i64 a1 (ji36))) = some r := by first | (rw [hji36] at H; exact H) | (simp only [hji36] at H ⊢; exact H)
            have hji36_ : (IntKind.i64.wrap (1 * 2 ^ min t244.toNat 64)) = ji36 := hji36
            have hji36z : t244 ≤ 64 → (IntKind.i64.wrap (1 * 2 ^ t244.toNat)) = ji36 := shl_small hji36
            have hji36u : (IntKind.i64.wrap (2 ^ min t244.toNat 64)) = ji36 := by have h_ := hji36_; rw [Int.one_mul] at h_; exact h_
            have hji36v : t244 ≤ 64 → (IntKind.i64.wrap (2 ^ t244.toNat)) = ji36 := fun hle_ => by have h_ := hji36z hle_; rw [Int.one_mul] at h_; exact h_
            have hji36y : (wrap64 (1 * 2 ^ min t244.toNat 64)) = ji36 := (i64_w _).symm.trans hji36_
            have hji36x : t244 ≤ 64 → (wrap64 (1 * 2 ^ t244.toNat)) = ji36 := fun h_ => (i64_w _).symm.trans (hji36z h_)
            obtain rfl := Option.some.inj H
            obtain ⟨Ao37, co37, eo37⟩ := Kd.R_slice HO_7.out
            subst eo37
            go_wp2
            go_ret
            exact ⟨by first | rfl | (simp [errW_none, errW_some] <;> rfl) | (simp only [← hji36]; first | rfl | (simp [errW_none, errW_some] <;> rfl)) | (simp [*, errW_none, errW_some] <;> rfl), bx⟩
           ·rw [if_neg c35] at H
            exact absurd H (by simp)

/-! ### spec_l07Ok: function 77 -/
def spec_l07Ok.f (k : Nat) (l0 : List (S38)) (a1 : Int) : Option (Bool) := (spec_ProgramOk.f k l0).bind fun t249 => (if t249 = true then ((spec_l01In.f a1 0 (l0.length : Int)).bind fun t250 => (some t250)) else (some false))
theorem spec_l07Ok.mono : ∀ a0 a1 k, LeO (spec_l07Ok.f k a0 a1) (spec_l07Ok.f (k + 1) a0 a1) := by
 intro a0 a1 k
 unfold spec_l07Ok.f
 repeat' first
   | (with_reducible exact spec_ProgramOk.mono _ _)
   | (with_reducible exact LeO.refl _)
   | (with_reducible exact LeO.none _)
   | (with_reducible refine LeO.ite ?_ ?_)
   | (with_reducible refine LeO.bind ?_ (fun _ => ?_))
   | exact spec_ProgramOk.mono _ _
   | exact LeO.none _
   | refine LeO.ite ?_ ?_
   | refine LeO.bind ?_ (fun _ => ?_)
set_option maxHeartbeats 8000000 in
set_option maxRecDepth 100000 in
theorem spec_l07Ok.calls (k : Nat) (A0 : Option Addr) (c0 : Nat) (l0 : List (S38)) (a1 : Int) (r : Bool) (w : World) (hr0 : Kd.C k38 w A0 l0.length l0) (hc0 : l0.length ≤ c0) (h : spec_l07Ok.f k l0 a1 = some r) :
  Calls Tryz.prog 77 #[.slice A0 l0.length c0, .int .i64 a1] w fun e w' => e = .returned (.bool r) ∧ Below w.heap.size w w' := by
 have HR0 := Aside0.mk hr0
 have HC0 := Aside0.mk hc0
 clear hr0 hc0
 have HB := Aside0.mk (Below.refl w.heap.size w)
 have H : ((spec_ProgramOk.f k l0).bind fun t249 => (if t249 = true then ((spec_l01In.f a1 0 (l0.length : Int)).bind fun t250 => (some t250)) else (some false))) = some r := h
 clear h
 replace H := Option.bind_eq_some_iff.mp H
 obtain ⟨t249, A30, H⟩ := H
 replace H : (if t249 = true then ((spec_l01In.f a1 0 (l0.length : Int)).bind fun t250 => (some t250)) else (some false)) = some r := H
 have A3 := Aside0.mk A30
 clear A30
 by_cases c4 : t249 = true
 ·subst c4
  have H1 : ((spec_l01In.f a1 0 (l0.length : Int)).bind fun t250 => (some t250)) = some r := by rw [if_pos rfl] at H; exact H
  clear H
  have H := H1
  clear H1
  replace H := Option.bind_eq_some_iff.mp H
  obtain ⟨t250, A50, H⟩ := H
  replace H : (some t250) = some r := H
  have A5 := Aside0.mk A50
  clear A50
  obtain rfl := Option.some.inj H
  go_enter Tryz.func77, Tryz.ntmps77
  go_wp2_with (first | ((with_reducible refine gate_callee (f := 44) rfl ?_); refine gL (some 6) Tryz.func44 #[.slice A0 l0.length c0] ?_; (with_reducible refine (spec_ProgramOk.calls k _ _ l0 true _ ?side1 ?side2 A3.out).mono ?_); (case side1 => exact cS HR0.out); (case side2 => exact HC0.out); rintro e w6 ⟨rfl, hb⟩; refine ⟨_, rfl, ?_⟩; replace HB := Aside0.mk (below_step bw hb); (try clear hb)) | (go_at_call 53; (with_reducible refine (spec_l01In.calls a1 0 (l0.length : Int) t250 _ A5.out).mono ?_); rintro e w' ⟨rfl, ⟨nd, rfl⟩⟩))
  go_ret
  exact ⟨eR, bw⟩
 ·replace c4 := Bool.eq_false_iff.mpr c4
  subst c4
  have H1 : (some false) = some r := by rw [if_neg (show ¬ (false = true) by decide)] at H; exact H
  clear H
  have H := H1
  clear H1
  obtain rfl := Option.some.inj H
  go_enter Tryz.func77, Tryz.ntmps77
  go_wp2_with (first | ((with_reducible refine gate_callee (f := 44) rfl ?_); refine gL (some 6) Tryz.func44 #[.slice A0 l0.length c0] ?_; (with_reducible refine (spec_ProgramOk.calls k _ _ l0 false _ ?side1 ?side2 A3.out).mono ?_); (case side1 => exact cS HR0.out); (case side2 => exact HC0.out); rintro e w7 ⟨rfl, hb⟩; refine ⟨_, rfl, ?_⟩; replace HB := Aside0.mk (below_step bw hb); (try clear hb)))
  go_ret
  exact ⟨eR, bw⟩

end Go.Proofs.YtdppehpcpofeoaaGreat.PFnExactMaySplit
