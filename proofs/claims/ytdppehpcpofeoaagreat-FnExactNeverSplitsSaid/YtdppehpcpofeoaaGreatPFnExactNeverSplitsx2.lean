-- Written by myprint.py (a program of this session, over the kit's print): not trusted, Lean checks it.
import Derived.Test.YtdppehpcpofeoaaGreatPFnExactNeverSplitsx0
import Derived.Test.YtdppehpcpofeoaaGreatPFnExactNeverSplitsx1
namespace Go.Proofs.YtdppehpcpofeoaaGreat.PFnExactNeverSplits
open Go.RowKit Go.Proofs.YtdppehpcpofeoaaGreatW.PrintWords Go.Proofs.YtdppehpcpofeoaaGreatW.PrintLast Go.Proofs.YtdppehpcpofeoaaGreatW.PrintMore
attribute [local go_sem] max2_int min2_int max_two min_two max_three min_three max_four min_four   -- for this text's walks alone
set_option linter.unusedVariables false
set_option linter.unusedSimpArgs false

/-! ### spec_InsOk: function 54 -/
mutual
def spec_InsOk.j0 : Nat → Int → Int → Bool → Int → Int → Int → Int → Option (Bool)
 | 0, _, _, _, _, _, _, _ => none
 | k + 1, x1, x9, x10, x123000, x123001, x123002, x123003 => if x10 = true then (if x123001 = 0 then (if x123002 = 0 then (some (x123003 == 0)) else (some false)) else (some false)) else (if x9 = 1 then ((spec_l04Reg.f x123001).bind fun t124 => (if t124 = true then ((spec_IsWord.f x123002).bind fun t125 => (if t125 = true then (some (x123003 == 0)) else (some false))) else (some false))) else (if x9 = 2 then (spec_InsOk.j1 k x1 x9 (x9 == 2) x123000 x123001 x123002 x123003) else (if x9 = 13 then (spec_InsOk.j1 k x1 x9 (x9 == 13) x123000 x123001 x123002 x123003) else (if x9 = 14 then (spec_InsOk.j1 k x1 x9 (x9 == 14) x123000 x123001 x123002 x123003) else (spec_InsOk.j1 k x1 x9 (x9 == 15) x123000 x123001 x123002 x123003)))))
def spec_InsOk.j1 : Nat → Int → Int → Bool → Int → Int → Int → Int → Option (Bool)
 | 0, _, _, _, _, _, _, _ => none
 | k + 1, x1, x9, x42, x123000, x123001, x123002, x123003 => if x42 = true then ((spec_l04Reg.f x123001).bind fun t126 => (if t126 = true then ((spec_l04Reg.f x123002).bind fun t127 => (if t127 = true then (some (x123003 == 0)) else (some false))) else (some false))) else (if x9 = 8 then ((spec_l04Reg.f x123001).bind fun t128 => (if t128 = true then (if x123002 = 0 then (some (x123003 == 0)) else (some false)) else (some false))) else (if x9 = 10 then ((spec_l04Reg.f x123001).bind fun t129 => (if t129 = true then ((spec_l01In.f x123002 0 x1).bind fun t130 => (if t130 = true then (some (x123003 == 0)) else (some false))) else (some false))) else (if x9 = 11 then (if x123001 = 0 then ((spec_l01In.f x123002 0 x1).bind fun t131 => (if t131 = true then (some (x123003 == 0)) else (some false))) else (some false)) else ((spec_l01In.f x123000 3 9).bind fun t132 => (if t132 = true then ((spec_l04Reg.f x123001).bind fun t133 => (if t133 = true then ((spec_l04Reg.f x123002).bind fun t134 => (if t134 = true then ((spec_l04Reg.f x123003).bind fun t135 => (some t135)) else (some false))) else (some false))) else (some false))))))
end
def spec_InsOk.f (k : Nat) (a0_0 : Int) (a0_1 : Int) (a0_2 : Int) (a0_3 : Int) (a1 : Int) : Option (Bool) := (spec_l01In.f a1 0 32).bind fun t123 => (if t123 = true then (if a0_0 = 0 then (spec_InsOk.j0 k a1 a0_0 (a0_0 == 0) a0_0 a0_1 a0_2 a0_3) else (if a0_0 = 12 then (spec_InsOk.j0 k a1 a0_0 (a0_0 == 12) a0_0 a0_1 a0_2 a0_3) else (spec_InsOk.j0 k a1 a0_0 (a0_0 == 16) a0_0 a0_1 a0_2 a0_3))) else (some false))
theorem spec_InsOk.mono_l : ∀ k, (∀ y0 y1 y2 y3 y4 y5 y6, LeO (spec_InsOk.j0 k y0 y1 y2 y3 y4 y5 y6) (spec_InsOk.j0 (k + 1) y0 y1 y2 y3 y4 y5 y6)) ∧ (∀ y0 y1 y2 y3 y4 y5 y6, LeO (spec_InsOk.j1 k y0 y1 y2 y3 y4 y5 y6) (spec_InsOk.j1 (k + 1) y0 y1 y2 y3 y4 y5 y6))
 | 0 => ⟨fun _ _ _ _ _ _ _ r h => by simp [spec_InsOk.j0] at h, fun _ _ _ _ _ _ _ r h => by simp [spec_InsOk.j1] at h⟩
 | k + 1 => by
  obtain ⟨ih0, ih1⟩ := spec_InsOk.mono_l k
  refine ⟨?_, ?_⟩
  intro y0 y1 y2 y3 y4 y5 y6;unfold spec_InsOk.j0;rotate_left
  intro y0 y1 y2 y3 y4 y5 y6;unfold spec_InsOk.j1;rotate_left
  all_goals repeat' first
  | (with_reducible exact ih0 _ _ _ _ _ _ _)
  | (with_reducible exact ih1 _ _ _ _ _ _ _)
  | (with_reducible exact LeO.refl _)
  | (with_reducible exact LeO.none _)
  | (with_reducible refine LeO.ite ?_ ?_)
  | (with_reducible refine LeO.bind ?_ (fun _ => ?_))
  | exact ih0 _ _ _ _ _ _ _
  | exact ih1 _ _ _ _ _ _ _
  | exact LeO.none _
  | refine LeO.ite ?_ ?_
  | refine LeO.bind ?_ (fun _ => ?_)
theorem spec_InsOk.mono : ∀ a0 a1 a2 a3 a4 k, LeO (spec_InsOk.f k a0 a1 a2 a3 a4) (spec_InsOk.f (k + 1) a0 a1 a2 a3 a4) := by
 intro a0 a1 a2 a3 a4 k
 obtain ⟨ih0, ih1⟩ := spec_InsOk.mono_l k
 unfold spec_InsOk.f
 repeat' first
   | (with_reducible exact ih0 _ _ _ _ _ _ _)
   | (with_reducible exact ih1 _ _ _ _ _ _ _)
   | (with_reducible exact LeO.refl _)
   | (with_reducible exact LeO.none _)
   | (with_reducible refine LeO.ite ?_ ?_)
   | (with_reducible refine LeO.bind ?_ (fun _ => ?_))
   | exact ih0 _ _ _ _ _ _ _
   | exact ih1 _ _ _ _ _ _ _
   | exact LeO.none _
   | refine LeO.ite ?_ ?_
   | refine LeO.bind ?_ (fun _ => ?_)
set_option maxHeartbeats 8000000 in
set_option maxRecDepth 100000 in
theorem spec_InsOk.calls (k : Nat) (a0_0 : Int) (a0_1 : Int) (a0_2 : Int) (a0_3 : Int) (a1 : Int) (r : Bool) (w : World) (h : spec_InsOk.f k a0_0 a0_1 a0_2 a0_3 a1 = some r) :
  Calls Tryz.prog 54 #[.agg #[.int .i64 a0_0, .int .i64 a0_1, .int .i64 a0_2, .int .i64 a0_3], .int .i64 a1] w fun e w' => e = .returned (.bool r) ∧ Below w.heap.size w w' := by
 have hu38 := Tryz.underlying38
 have HB := Aside0.mk (Below.refl w.heap.size w)
 have H : ((spec_l01In.f a1 0 32).bind fun t123 => (if t123 = true then (if a0_0 = 0 then (spec_InsOk.j0 k a1 a0_0 (a0_0 == 0) a0_0 a0_1 a0_2 a0_3) else (if a0_0 = 12 then (spec_InsOk.j0 k a1 a0_0 (a0_0 == 12) a0_0 a0_1 a0_2 a0_3) else (spec_InsOk.j0 k a1 a0_0 (a0_0 == 16) a0_0 a0_1 a0_2 a0_3))) else (some false))) = some r := h
 clear h
 replace H := Option.bind_eq_some_iff.mp H
 obtain ⟨t123, A30, H⟩ := H
 replace H : (if t123 = true then (if a0_0 = 0 then (spec_InsOk.j0 k a1 a0_0 (a0_0 == 0) a0_0 a0_1 a0_2 a0_3) else (if a0_0 = 12 then (spec_InsOk.j0 k a1 a0_0 (a0_0 == 12) a0_0 a0_1 a0_2 a0_3) else (spec_InsOk.j0 k a1 a0_0 (a0_0 == 16) a0_0 a0_1 a0_2 a0_3))) else (some false)) = some r := H
 have A3 := Aside0.mk A30
 clear A30
 by_cases c4 : t123 = true
 ·subst c4
  have H1 : (if a0_0 = 0 then (spec_InsOk.j0 k a1 a0_0 (a0_0 == 0) a0_0 a0_1 a0_2 a0_3) else (if a0_0 = 12 then (spec_InsOk.j0 k a1 a0_0 (a0_0 == 12) a0_0 a0_1 a0_2 a0_3) else (spec_InsOk.j0 k a1 a0_0 (a0_0 == 16) a0_0 a0_1 a0_2 a0_3))) = some r := by rw [if_pos rfl] at H; exact H
  clear H
  have H := H1
  clear H1
  have HC5 := Aside0.mk H
  clear H
  go_enter Tryz.func54, Tryz.ntmps54
  go_upto_if 10 with (first | ((with_reducible refine gate_dst (N := 2) rfl ?_); refine box_event ?hg (N := 2) ?hd (cs := #[.int .i64 a0_0, .int .i64 a0_1, .int .i64 a0_2, .int .i64 a0_3]) (t := 38) ?hr ?_; (case hd => rfl); (case hg => rfl); (case hr => first | (go_simp; done) | (go_simp; rfl)); intro gb122 hg w6 hbox hb; have BK122 := Aside0.mk (hbox); have GW122 := Aside0.mk ((by rw [hg]; exact (below_size bw) : w.heap.size ≤ gb122)); have GE122 := Aside0.mk ((by rw [hg]; exact (below_size bw) : w.heap.size ≤ gb122)); replace HB := Aside0.mk (below_step bw hb); clear hb hbox hg) | ((with_reducible refine gate_callee (f := 53) rfl ?_); refine gL (some 6) Tryz.func53 #[.int .i64 a1, .int .i64 0, .int .i64 32] ?_; (with_reducible refine (spec_l01In.calls a1 0 32 true _ A3.out).mono ?_); rintro e w' ⟨rfl, ⟨nd, rfl⟩⟩; refine ⟨_, rfl, ?_⟩; have hcz7_0 : w6.cell? ⟨gb122, 0, none⟩ = some (.int .i64 a0_0) := (blk_cell BK122.out 0).trans rfl; have hcz7_1 : w6.cell? ⟨gb122, 1, none⟩ = some (.int .i64 a0_1) := (blk_cell BK122.out 1).trans rfl; have hcz7_2 : w6.cell? ⟨gb122, 2, none⟩ = some (.int .i64 a0_2) := (blk_cell BK122.out 2).trans rfl; have hcz7_3 : w6.cell? ⟨gb122, 3, none⟩ = some (.int .i64 a0_3) := (blk_cell BK122.out 3).trans rfl; have hfz7_0 := blk_frozen BK122.out 0; have hfz7_1 := blk_frozen BK122.out 1; have hfz7_2 := blk_frozen BK122.out 2; have hfz7_3 := blk_frozen BK122.out 3))
  (try simp only [Act.put, List.setIfInBounds_toArray, List.set_cons_zero, List.set_cons_succ])
  go_cut [10] (fun v10 wc => ∃ (kq : Nat) (x10_4 : Bool), v10 = .bool x10_4 ∧ Aside0 (spec_InsOk.j0 kq a1 a0_0 x10_4 a0_0 a0_1 a0_2 a0_3 = some r) ∧ Aside0 (kq ≤ k) ∧ Aside0 (wc.heap[gb122]? = some (.cells #[.int .i64 a0_0, .int .i64 a0_1, .int .i64 a0_2, .int .i64 a0_3] 38 (0, 0))) ∧ Aside0 (Below w.heap.size w wc))
  case first =>
   have H := HC5.out
   clear HC5
   by_cases c8 : a0_0 = 0
   ·rw [if_pos c8] at H
    have c8b0 : (a0_0 == 0) = true := beq_iff_eq.mpr c8
    have c8b1 : (a0_0 != 0) = false := bne_eq_false_iff_eq.mpr c8
    clear c8
    (first | rw [c8b0] | (simp only [i64_w, i32_w]; rw [c8b0]) | skip)
    have H' := Aside0.mk H
    clear H
    go_wp2
    go_meet
    case rel => exact ⟨_, ((a0_0 == 0)), tR, H', ⟨by first | omega | exact Nat.le_refl _⟩, ⟨bS BK122.out⟩, ⟨bx⟩⟩
   ·rw [if_neg c8] at H
    have c8b0 : (a0_0 == 0) = false := beq_eq_false_iff_ne.mpr c8
    have c8b1 : (a0_0 != 0) = true := bne_iff_ne.mpr c8
    (first | rw [c8b0] | (simp only [i64_w, i32_w]; rw [c8b0]) | skip)
    by_cases c9 : a0_0 = 12
    ·rw [if_pos c9] at H
     have c9b0 : (a0_0 == 12) = true := beq_iff_eq.mpr c9
     have c9b1 : (a0_0 != 12) = false := bne_eq_false_iff_eq.mpr c9
     clear c9
     have H' := Aside0.mk H
     clear H
     go_wp2
     go_meet
     case rel => exact ⟨_, ((a0_0 == 12)), tR, H', ⟨by first | omega | exact Nat.le_refl _⟩, ⟨bS BK122.out⟩, ⟨bx⟩⟩
    ·rw [if_neg c9] at H
     have c9b0 : (a0_0 == 12) = false := beq_eq_false_iff_ne.mpr c9
     have c9b1 : (a0_0 != 12) = true := bne_iff_ne.mpr c9
     have H' := Aside0.mk H
     clear H
     go_wp2
     go_meet
     case rel => exact ⟨_, ((a0_0 == 16)), tR, H', ⟨by first | omega | exact Nat.le_refl _⟩, ⟨bS BK122.out⟩, ⟨bx⟩⟩
  case rest =>
   clear HC5
   try clear p2;try clear c4;try clear c5;try clear c8;try clear c8b0;try clear c8b1;try clear c9;try clear c9b0;try clear c9b1;try clear hcz7_0;try clear hcz7_1;try clear hcz7_2;try clear hcz7_3;try clear hfz7_0;try clear hfz7_1;try clear hfz7_2;try clear hfz7_3
   obtain ⟨kq, x10_4, rfl, HA, HJ4, BK122, HB⟩ := hcut
   cases kq with
   | zero => exact absurd HA.out (by simp [spec_InsOk.j0])
   | succ kj4 =>
    have H := HA.out
    clear HA
    simp only [spec_InsOk.j0] at H
    by_cases c10 : x10_4 = true
    ·subst c10
     have H1 : (if a0_1 = 0 then (if a0_2 = 0 then (some (a0_3 == 0)) else (some false)) else (some false)) = some r := by rw [if_pos rfl] at H; exact H
     clear H
     have H := H1
     clear H1
     by_cases c11 : a0_1 = 0
     ·rw [if_pos c11] at H
      have c11b0 : (a0_1 == 0) = true := beq_iff_eq.mpr c11
      have c11b1 : (a0_1 != 0) = false := bne_eq_false_iff_eq.mpr c11
      clear c11
      by_cases c12 : a0_2 = 0
      ·rw [if_pos c12] at H
       have c12b0 : (a0_2 == 0) = true := beq_iff_eq.mpr c12
       have c12b1 : (a0_2 != 0) = false := bne_eq_false_iff_eq.mpr c12
       clear c12
       obtain rfl := Option.some.inj H
       have hcz13_0 : wc.cell? ⟨gb122, 0, none⟩ = some (.int .i64 a0_0) := (blk_cell BK122.out 0).trans rfl
       have hcz13_1 : wc.cell? ⟨gb122, 1, none⟩ = some (.int .i64 a0_1) := (blk_cell BK122.out 1).trans rfl
       have hcz13_2 : wc.cell? ⟨gb122, 2, none⟩ = some (.int .i64 a0_2) := (blk_cell BK122.out 2).trans rfl
       have hcz13_3 : wc.cell? ⟨gb122, 3, none⟩ = some (.int .i64 a0_3) := (blk_cell BK122.out 3).trans rfl
       have hfz13_0 := blk_frozen BK122.out 0
       have hfz13_1 := blk_frozen BK122.out 1
       have hfz13_2 := blk_frozen BK122.out 2
       have hfz13_3 := blk_frozen BK122.out 3
       go_wp2
       go_ret
       exact ⟨eR, bx⟩
      ·rw [if_neg c12] at H
       have c12b0 : (a0_2 == 0) = false := beq_eq_false_iff_ne.mpr c12
       have c12b1 : (a0_2 != 0) = true := bne_iff_ne.mpr c12
       obtain rfl := Option.some.inj H
       have hcz14_0 : wc.cell? ⟨gb122, 0, none⟩ = some (.int .i64 a0_0) := (blk_cell BK122.out 0).trans rfl
       have hcz14_1 : wc.cell? ⟨gb122, 1, none⟩ = some (.int .i64 a0_1) := (blk_cell BK122.out 1).trans rfl
       have hcz14_2 : wc.cell? ⟨gb122, 2, none⟩ = some (.int .i64 a0_2) := (blk_cell BK122.out 2).trans rfl
       have hcz14_3 : wc.cell? ⟨gb122, 3, none⟩ = some (.int .i64 a0_3) := (blk_cell BK122.out 3).trans rfl
       have hfz14_0 := blk_frozen BK122.out 0
       have hfz14_1 := blk_frozen BK122.out 1
       have hfz14_2 := blk_frozen BK122.out 2
       have hfz14_3 := blk_frozen BK122.out 3
       go_wp2
       go_ret
       exact ⟨eR, bx⟩
     ·rw [if_neg c11] at H
      have c11b0 : (a0_1 == 0) = false := beq_eq_false_iff_ne.mpr c11
      have c11b1 : (a0_1 != 0) = true := bne_iff_ne.mpr c11
      obtain rfl := Option.some.inj H
      have hcz15_0 : wc.cell? ⟨gb122, 0, none⟩ = some (.int .i64 a0_0) := (blk_cell BK122.out 0).trans rfl
      have hcz15_1 : wc.cell? ⟨gb122, 1, none⟩ = some (.int .i64 a0_1) := (blk_cell BK122.out 1).trans rfl
      have hcz15_2 : wc.cell? ⟨gb122, 2, none⟩ = some (.int .i64 a0_2) := (blk_cell BK122.out 2).trans rfl
      have hcz15_3 : wc.cell? ⟨gb122, 3, none⟩ = some (.int .i64 a0_3) := (blk_cell BK122.out 3).trans rfl
      have hfz15_0 := blk_frozen BK122.out 0
      have hfz15_1 := blk_frozen BK122.out 1
      have hfz15_2 := blk_frozen BK122.out 2
      have hfz15_3 := blk_frozen BK122.out 3
      go_wp2
      go_ret
      exact ⟨eR, bx⟩
    ·replace c10 := Bool.eq_false_iff.mpr c10
     subst c10
     have H1 : (if a0_0 = 1 then ((spec_l04Reg.f a0_1).bind fun t124 => (if t124 = true then ((spec_IsWord.f a0_2).bind fun t125 => (if t125 = true then (some (a0_3 == 0)) else (some false))) else (some false))) else (if a0_0 = 2 then (spec_InsOk.j1 kj4 a1 a0_0 (a0_0 == 2) a0_0 a0_1 a0_2 a0_3) else (if a0_0 = 13 then (spec_InsOk.j1 kj4 a1 a0_0 (a0_0 == 13) a0_0 a0_1 a0_2 a0_3) else (if a0_0 = 14 then (spec_InsOk.j1 kj4 a1 a0_0 (a0_0 == 14) a0_0 a0_1 a0_2 a0_3) else (spec_InsOk.j1 kj4 a1 a0_0 (a0_0 == 15) a0_0 a0_1 a0_2 a0_3))))) = some r := by rw [if_neg (show ¬ (false = true) by decide)] at H; exact H
     clear H
     have H := H1
     clear H1
     by_cases c16 : a0_0 = 1
     ·rw [if_pos c16] at H
      have c16b0 : (a0_0 == 1) = true := beq_iff_eq.mpr c16
      have c16b1 : (a0_0 != 1) = false := bne_eq_false_iff_eq.mpr c16
      clear c16
      replace H := Option.bind_eq_some_iff.mp H
      obtain ⟨t124, A170, H⟩ := H
      replace H : (if t124 = true then ((spec_IsWord.f a0_2).bind fun t125 => (if t125 = true then (some (a0_3 == 0)) else (some false))) else (some false)) = some r := H
      have A17 := Aside0.mk A170
      clear A170
      by_cases c18 : t124 = true
      ·subst c18
       have H1 : ((spec_IsWord.f a0_2).bind fun t125 => (if t125 = true then (some (a0_3 == 0)) else (some false))) = some r := by rw [if_pos rfl] at H; exact H
       clear H
       have H := H1
       clear H1
       replace H := Option.bind_eq_some_iff.mp H
       obtain ⟨t125, A190, H⟩ := H
       replace H : (if t125 = true then (some (a0_3 == 0)) else (some false)) = some r := H
       have A19 := Aside0.mk A190
       clear A190
       by_cases c20 : t125 = true
       ·subst c20
        have H1 : (some (a0_3 == 0)) = some r := by rw [if_pos rfl] at H; exact H
        clear H
        have H := H1
        clear H1
        obtain rfl := Option.some.inj H
        have hcz21_0 : wc.cell? ⟨gb122, 0, none⟩ = some (.int .i64 a0_0) := (blk_cell BK122.out 0).trans rfl
        have hcz21_1 : wc.cell? ⟨gb122, 1, none⟩ = some (.int .i64 a0_1) := (blk_cell BK122.out 1).trans rfl
        have hcz21_2 : wc.cell? ⟨gb122, 2, none⟩ = some (.int .i64 a0_2) := (blk_cell BK122.out 2).trans rfl
        have hcz21_3 : wc.cell? ⟨gb122, 3, none⟩ = some (.int .i64 a0_3) := (blk_cell BK122.out 3).trans rfl
        have hfz21_0 := blk_frozen BK122.out 0
        have hfz21_1 := blk_frozen BK122.out 1
        have hfz21_2 := blk_frozen BK122.out 2
        have hfz21_3 := blk_frozen BK122.out 3
        go_wp2_with (first | ((with_reducible refine gate_callee (f := 75) rfl ?_); refine gL (some 31) Tryz.func75 #[.int .i64 a0_1] ?_; (with_reducible refine (spec_l04Reg.calls a0_1 true _ A17.out).mono ?_); rintro e w' ⟨rfl, ⟨nd, rfl⟩⟩; refine ⟨_, rfl, ?_⟩) | (go_at_call 76; (with_reducible refine (spec_IsWord.calls a0_2 true _ A19.out).mono ?_); rintro e w' ⟨rfl, ⟨nd, rfl⟩⟩))
        go_ret
        exact ⟨eR, bx⟩
       ·replace c20 := Bool.eq_false_iff.mpr c20
        subst c20
        have H1 : (some false) = some r := by rw [if_neg (show ¬ (false = true) by decide)] at H; exact H
        clear H
        have H := H1
        clear H1
        obtain rfl := Option.some.inj H
        have hcz22_0 : wc.cell? ⟨gb122, 0, none⟩ = some (.int .i64 a0_0) := (blk_cell BK122.out 0).trans rfl
        have hcz22_1 : wc.cell? ⟨gb122, 1, none⟩ = some (.int .i64 a0_1) := (blk_cell BK122.out 1).trans rfl
        have hcz22_2 : wc.cell? ⟨gb122, 2, none⟩ = some (.int .i64 a0_2) := (blk_cell BK122.out 2).trans rfl
        have hcz22_3 : wc.cell? ⟨gb122, 3, none⟩ = some (.int .i64 a0_3) := (blk_cell BK122.out 3).trans rfl
        have hfz22_0 := blk_frozen BK122.out 0
        have hfz22_1 := blk_frozen BK122.out 1
        have hfz22_2 := blk_frozen BK122.out 2
        have hfz22_3 := blk_frozen BK122.out 3
        go_wp2_with (first | ((with_reducible refine gate_callee (f := 75) rfl ?_); refine gL (some 31) Tryz.func75 #[.int .i64 a0_1] ?_; (with_reducible refine (spec_l04Reg.calls a0_1 true _ A17.out).mono ?_); rintro e w' ⟨rfl, ⟨nd, rfl⟩⟩; refine ⟨_, rfl, ?_⟩) | (go_at_call 76; (with_reducible refine (spec_IsWord.calls a0_2 false _ A19.out).mono ?_); rintro e w' ⟨rfl, ⟨nd, rfl⟩⟩))
        go_ret
        exact ⟨eR, bx⟩
      ·replace c18 := Bool.eq_false_iff.mpr c18
       subst c18
       have H1 : (some false) = some r := by rw [if_neg (show ¬ (false = true) by decide)] at H; exact H
       clear H
       have H := H1
       clear H1
       obtain rfl := Option.some.inj H
       have hcz23_0 : wc.cell? ⟨gb122, 0, none⟩ = some (.int .i64 a0_0) := (blk_cell BK122.out 0).trans rfl
       have hcz23_1 : wc.cell? ⟨gb122, 1, none⟩ = some (.int .i64 a0_1) := (blk_cell BK122.out 1).trans rfl
       have hcz23_2 : wc.cell? ⟨gb122, 2, none⟩ = some (.int .i64 a0_2) := (blk_cell BK122.out 2).trans rfl
       have hcz23_3 : wc.cell? ⟨gb122, 3, none⟩ = some (.int .i64 a0_3) := (blk_cell BK122.out 3).trans rfl
       have hfz23_0 := blk_frozen BK122.out 0
       have hfz23_1 := blk_frozen BK122.out 1
       have hfz23_2 := blk_frozen BK122.out 2
       have hfz23_3 := blk_frozen BK122.out 3
       go_wp2_with (first | ((with_reducible refine gate_callee (f := 75) rfl ?_); refine gL (some 31) Tryz.func75 #[.int .i64 a0_1] ?_; (with_reducible refine (spec_l04Reg.calls a0_1 false _ A17.out).mono ?_); rintro e w' ⟨rfl, ⟨nd, rfl⟩⟩; refine ⟨_, rfl, ?_⟩))
       go_ret
       exact ⟨eR, bx⟩
     ·rw [if_neg c16] at H
      have c16b0 : (a0_0 == 1) = false := beq_eq_false_iff_ne.mpr c16
      have c16b1 : (a0_0 != 1) = true := bne_iff_ne.mpr c16
      have HC24 := Aside0.mk H
      clear H
      go_upto_if 42 with (fail)
      go_cut [42] (fun v42 wc => ∃ (kq : Nat) (x42_23 : Bool), v42 = .bool x42_23 ∧ Aside0 (spec_InsOk.j1 kq a1 a0_0 x42_23 a0_0 a0_1 a0_2 a0_3 = some r) ∧ Aside0 (kq ≤ kj4) ∧ Aside0 (wc.heap[gb122]? = some (.cells #[.int .i64 a0_0, .int .i64 a0_1, .int .i64 a0_2, .int .i64 a0_3] 38 (0, 0))) ∧ Aside0 (Below w.heap.size w wc))
      case first =>
       have H := HC24.out
       clear HC24
       by_cases c25 : a0_0 = 2
       ·rw [if_pos c25] at H
        have c25b0 : (a0_0 == 2) = true := beq_iff_eq.mpr c25
        have c25b1 : (a0_0 != 2) = false := bne_eq_false_iff_eq.mpr c25
        clear c25
        (first | rw [c25b0] | (simp only [i64_w, i32_w]; rw [c25b0]) | skip)
        have H' := Aside0.mk H
        clear H
        go_wp2
        go_meet
        case rel => exact ⟨_, ((a0_0 == 2)), tR, H', ⟨by have := HJ4.out; first | omega | exact Nat.le_refl _⟩, ⟨bS BK122.out⟩, ⟨bx⟩⟩
       ·rw [if_neg c25] at H
        have c25b0 : (a0_0 == 2) = false := beq_eq_false_iff_ne.mpr c25
        have c25b1 : (a0_0 != 2) = true := bne_iff_ne.mpr c25
        (first | rw [c25b0] | (simp only [i64_w, i32_w]; rw [c25b0]) | skip)
        by_cases c26 : a0_0 = 13
        ·rw [if_pos c26] at H
         have c26b0 : (a0_0 == 13) = true := beq_iff_eq.mpr c26
         have c26b1 : (a0_0 != 13) = false := bne_eq_false_iff_eq.mpr c26
         clear c26
         have H' := Aside0.mk H
         clear H
         go_wp2
         go_meet
         case rel => exact ⟨_, ((a0_0 == 13)), tR, H', ⟨by have := HJ4.out; first | omega | exact Nat.le_refl _⟩, ⟨bS BK122.out⟩, ⟨bx⟩⟩
        ·rw [if_neg c26] at H
         have c26b0 : (a0_0 == 13) = false := beq_eq_false_iff_ne.mpr c26
         have c26b1 : (a0_0 != 13) = true := bne_iff_ne.mpr c26
         by_cases c27 : a0_0 = 14
         ·rw [if_pos c27] at H
          have c27b0 : (a0_0 == 14) = true := beq_iff_eq.mpr c27
          have c27b1 : (a0_0 != 14) = false := bne_eq_false_iff_eq.mpr c27
          clear c27
          have H' := Aside0.mk H
          clear H
          go_wp2
          go_meet
          case rel => exact ⟨_, ((a0_0 == 14)), tR, H', ⟨by have := HJ4.out; first | omega | exact Nat.le_refl _⟩, ⟨bS BK122.out⟩, ⟨bx⟩⟩
         ·rw [if_neg c27] at H
          have c27b0 : (a0_0 == 14) = false := beq_eq_false_iff_ne.mpr c27
          have c27b1 : (a0_0 != 14) = true := bne_iff_ne.mpr c27
          have H' := Aside0.mk H
          clear H
          go_wp2
          go_meet
          case rel => exact ⟨_, ((a0_0 == 15)), tR, H', ⟨by have := HJ4.out; first | omega | exact Nat.le_refl _⟩, ⟨bS BK122.out⟩, ⟨bx⟩⟩
      case rest =>
       clear HC24
       try clear c1;try clear c2;try clear p2;try clear c4;try clear c5;try clear c7;try clear c8;try clear c8b0;try clear c8b1;try clear c9;try clear c9b0;try clear c9b1;try clear c10;try clear c11;try clear c11b0;try clear c11b1;try clear c12;try clear c12b0;try clear c12b1;try clear c16;try clear c16b0;try clear c16b1;try clear c18;try clear c20;try clear c25;try clear c25b0;try clear c25b1;try clear c26;try clear c26b0;try clear c26b1;try clear c27;try clear c27b0;try clear c27b1;try clear hcz13_0;try clear hcz13_1;try clear hcz13_2;try clear hcz13_3;try clear hcz14_0;try clear hcz14_1;try clear hcz14_2;try clear hcz14_3;try clear hcz15_0;try clear hcz15_1;try clear hcz15_2;try clear hcz15_3;try clear hcz21_0;try clear hcz21_1;try clear hcz21_2;try clear hcz21_3;try clear hcz22_0;try clear hcz22_1;try clear hcz22_2;try clear hcz22_3;try clear hcz23_0;try clear hcz23_1;try clear hcz23_2;try clear hcz23_3;try clear hcz7_0;try clear hcz7_1;try clear hcz7_2;try clear hcz7_3;try clear hfz13_0;try clear hfz13_1;try clear hfz13_2;try clear hfz13_3;try clear hfz14_0;try clear hfz14_1;try clear hfz14_2;try clear hfz14_3;try clear hfz15_0;try clear hfz15_1;try clear hfz15_2;try clear hfz15_3;try clear hfz21_0;try clear hfz21_1;try clear hfz21_2;try clear hfz21_3;try clear hfz22_0;try clear hfz22_1;try clear hfz22_2;try clear hfz22_3;try clear hfz23_0;try clear hfz23_1;try clear hfz23_2;try clear hfz23_3;try clear hfz7_0;try clear hfz7_1;try clear hfz7_2;try clear hfz7_3;try clear p2
       obtain ⟨kq, x42_23, rfl, HA, HJ23, BK122, HB⟩ := hcut
       cases kq with
       | zero => exact absurd HA.out (by simp [spec_InsOk.j1])
       | succ kj23 =>
        have H := HA.out
        clear HA
        simp only [spec_InsOk.j1] at H
        by_cases c28 : x42_23 = true
        ·subst c28
         have H1 : ((spec_l04Reg.f a0_1).bind fun t126 => (if t126 = true then ((spec_l04Reg.f a0_2).bind fun t127 => (if t127 = true then (some (a0_3 == 0)) else (some false))) else (some false))) = some r := by rw [if_pos rfl] at H; exact H
         clear H
         have H := H1
         clear H1
         replace H := Option.bind_eq_some_iff.mp H
         obtain ⟨t126, A290, H⟩ := H
         replace H : (if t126 = true then ((spec_l04Reg.f a0_2).bind fun t127 => (if t127 = true then (some (a0_3 == 0)) else (some false))) else (some false)) = some r := H
         have A29 := Aside0.mk A290
         clear A290
         by_cases c30 : t126 = true
         ·subst c30
          have H1 : ((spec_l04Reg.f a0_2).bind fun t127 => (if t127 = true then (some (a0_3 == 0)) else (some false))) = some r := by rw [if_pos rfl] at H; exact H
          clear H
          have H := H1
          clear H1
          replace H := Option.bind_eq_some_iff.mp H
          obtain ⟨t127, A310, H⟩ := H
          replace H : (if t127 = true then (some (a0_3 == 0)) else (some false)) = some r := H
          have A31 := Aside0.mk A310
          clear A310
          by_cases c32 : t127 = true
          ·subst c32
           have H1 : (some (a0_3 == 0)) = some r := by rw [if_pos rfl] at H; exact H
           clear H
           have H := H1
           clear H1
           obtain rfl := Option.some.inj H
           have hcz33_0 : wc.cell? ⟨gb122, 0, none⟩ = some (.int .i64 a0_0) := (blk_cell BK122.out 0).trans rfl
           have hcz33_1 : wc.cell? ⟨gb122, 1, none⟩ = some (.int .i64 a0_1) := (blk_cell BK122.out 1).trans rfl
           have hcz33_2 : wc.cell? ⟨gb122, 2, none⟩ = some (.int .i64 a0_2) := (blk_cell BK122.out 2).trans rfl
           have hcz33_3 : wc.cell? ⟨gb122, 3, none⟩ = some (.int .i64 a0_3) := (blk_cell BK122.out 3).trans rfl
           have hfz33_0 := blk_frozen BK122.out 0
           have hfz33_1 := blk_frozen BK122.out 1
           have hfz33_2 := blk_frozen BK122.out 2
           have hfz33_3 := blk_frozen BK122.out 3
           go_wp2_with (first | ((with_reducible refine gate_callee (f := 75) rfl ?_); refine gL (some 49) Tryz.func75 #[.int .i64 a0_1] ?_; (with_reducible refine (spec_l04Reg.calls a0_1 true _ A29.out).mono ?_); rintro e w' ⟨rfl, ⟨nd, rfl⟩⟩; refine ⟨_, rfl, ?_⟩) | (go_at_call 75; (with_reducible refine (spec_l04Reg.calls a0_2 true _ A31.out).mono ?_); rintro e w' ⟨rfl, ⟨nd, rfl⟩⟩))
           go_ret
           exact ⟨eR, bx⟩
          ·replace c32 := Bool.eq_false_iff.mpr c32
           subst c32
           have H1 : (some false) = some r := by rw [if_neg (show ¬ (false = true) by decide)] at H; exact H
           clear H
           have H := H1
           clear H1
           obtain rfl := Option.some.inj H
           have hcz34_0 : wc.cell? ⟨gb122, 0, none⟩ = some (.int .i64 a0_0) := (blk_cell BK122.out 0).trans rfl
           have hcz34_1 : wc.cell? ⟨gb122, 1, none⟩ = some (.int .i64 a0_1) := (blk_cell BK122.out 1).trans rfl
           have hcz34_2 : wc.cell? ⟨gb122, 2, none⟩ = some (.int .i64 a0_2) := (blk_cell BK122.out 2).trans rfl
           have hcz34_3 : wc.cell? ⟨gb122, 3, none⟩ = some (.int .i64 a0_3) := (blk_cell BK122.out 3).trans rfl
           have hfz34_0 := blk_frozen BK122.out 0
           have hfz34_1 := blk_frozen BK122.out 1
           have hfz34_2 := blk_frozen BK122.out 2
           have hfz34_3 := blk_frozen BK122.out 3
           go_wp2_with (first | ((with_reducible refine gate_callee (f := 75) rfl ?_); refine gL (some 49) Tryz.func75 #[.int .i64 a0_1] ?_; (with_reducible refine (spec_l04Reg.calls a0_1 true _ A29.out).mono ?_); rintro e w' ⟨rfl, ⟨nd, rfl⟩⟩; refine ⟨_, rfl, ?_⟩) | (go_at_call 75; (with_reducible refine (spec_l04Reg.calls a0_2 false _ A31.out).mono ?_); rintro e w' ⟨rfl, ⟨nd, rfl⟩⟩))
           go_ret
           exact ⟨eR, bx⟩
         ·replace c30 := Bool.eq_false_iff.mpr c30
          subst c30
          have H1 : (some false) = some r := by rw [if_neg (show ¬ (false = true) by decide)] at H; exact H
          clear H
          have H := H1
          clear H1
          obtain rfl := Option.some.inj H
          have hcz35_0 : wc.cell? ⟨gb122, 0, none⟩ = some (.int .i64 a0_0) := (blk_cell BK122.out 0).trans rfl
          have hcz35_1 : wc.cell? ⟨gb122, 1, none⟩ = some (.int .i64 a0_1) := (blk_cell BK122.out 1).trans rfl
          have hcz35_2 : wc.cell? ⟨gb122, 2, none⟩ = some (.int .i64 a0_2) := (blk_cell BK122.out 2).trans rfl
          have hcz35_3 : wc.cell? ⟨gb122, 3, none⟩ = some (.int .i64 a0_3) := (blk_cell BK122.out 3).trans rfl
          have hfz35_0 := blk_frozen BK122.out 0
          have hfz35_1 := blk_frozen BK122.out 1
          have hfz35_2 := blk_frozen BK122.out 2
          have hfz35_3 := blk_frozen BK122.out 3
          go_wp2_with (first | ((with_reducible refine gate_callee (f := 75) rfl ?_); refine gL (some 49) Tryz.func75 #[.int .i64 a0_1] ?_; (with_reducible refine (spec_l04Reg.calls a0_1 false _ A29.out).mono ?_); rintro e w' ⟨rfl, ⟨nd, rfl⟩⟩; refine ⟨_, rfl, ?_⟩))
          go_ret
          exact ⟨eR, bx⟩
        ·replace c28 := Bool.eq_false_iff.mpr c28
         subst c28
         have H1 : (if a0_0 = 8 then ((spec_l04Reg.f a0_1).bind fun t128 => (if t128 = true then (if a0_2 = 0 then (some (a0_3 == 0)) else (some false)) else (some false))) else (if a0_0 = 10 then ((spec_l04Reg.f a0_1).bind fun t129 => (if t129 = true then ((spec_l01In.f a0_2 0 a1).bind fun t130 => (if t130 = true then (some (a0_3 == 0)) else (some false))) else (some false))) else (if a0_0 = 11 then (if a0_1 = 0 then ((spec_l01In.f a0_2 0 a1).bind fun t131 => (if t131 = true then (some (a0_3 == 0)) else (some false))) else (some false)) else ((spec_l01In.f a0_0 3 9).bind fun t132 => (if t132 = true then ((spec_l04Reg.f a0_1).bind fun t133 => (if t133 = true then ((spec_l04Reg.f a0_2).bind fun t134 => (if t134 = true then ((spec_l04Reg.f a0_3).bind fun t135 => (some t135)) else (some false))) else (some false))) else (some false)))))) = some r := by rw [if_neg (show ¬ (false = true) by decide)] at H; exact H
         clear H
         have H := H1
         clear H1
         by_cases c36 : a0_0 = 8
         ·rw [if_pos c36] at H
          have c36b0 : (a0_0 == 8) = true := beq_iff_eq.mpr c36
          have c36b1 : (a0_0 != 8) = false := bne_eq_false_iff_eq.mpr c36
          clear c36
          replace H := Option.bind_eq_some_iff.mp H
          obtain ⟨t128, A370, H⟩ := H
          replace H : (if t128 = true then (if a0_2 = 0 then (some (a0_3 == 0)) else (some false)) else (some false)) = some r := H
          have A37 := Aside0.mk A370
          clear A370
          by_cases c38 : t128 = true
          ·subst c38
           have H1 : (if a0_2 = 0 then (some (a0_3 == 0)) else (some false)) = some r := by rw [if_pos rfl] at H; exact H
           clear H
           have H := H1
           clear H1
           by_cases c39 : a0_2 = 0
           ·rw [if_pos c39] at H
            have c39b0 : (a0_2 == 0) = true := beq_iff_eq.mpr c39
            have c39b1 : (a0_2 != 0) = false := bne_eq_false_iff_eq.mpr c39
            clear c39
            obtain rfl := Option.some.inj H
            have hcz40_0 : wc.cell? ⟨gb122, 0, none⟩ = some (.int .i64 a0_0) := (blk_cell BK122.out 0).trans rfl
            have hcz40_1 : wc.cell? ⟨gb122, 1, none⟩ = some (.int .i64 a0_1) := (blk_cell BK122.out 1).trans rfl
            have hcz40_2 : wc.cell? ⟨gb122, 2, none⟩ = some (.int .i64 a0_2) := (blk_cell BK122.out 2).trans rfl
            have hcz40_3 : wc.cell? ⟨gb122, 3, none⟩ = some (.int .i64 a0_3) := (blk_cell BK122.out 3).trans rfl
            have hfz40_0 := blk_frozen BK122.out 0
            have hfz40_1 := blk_frozen BK122.out 1
            have hfz40_2 := blk_frozen BK122.out 2
            have hfz40_3 := blk_frozen BK122.out 3
            go_wp2_with (first | ((with_reducible refine gate_callee (f := 75) rfl ?_); refine gL (some 64) Tryz.func75 #[.int .i64 a0_1] ?_; (with_reducible refine (spec_l04Reg.calls a0_1 true _ A37.out).mono ?_); rintro e w' ⟨rfl, ⟨nd, rfl⟩⟩; refine ⟨_, rfl, ?_⟩))
            go_ret
            exact ⟨eR, bx⟩
           ·rw [if_neg c39] at H
            have c39b0 : (a0_2 == 0) = false := beq_eq_false_iff_ne.mpr c39
            have c39b1 : (a0_2 != 0) = true := bne_iff_ne.mpr c39
            obtain rfl := Option.some.inj H
            have hcz41_0 : wc.cell? ⟨gb122, 0, none⟩ = some (.int .i64 a0_0) := (blk_cell BK122.out 0).trans rfl
            have hcz41_1 : wc.cell? ⟨gb122, 1, none⟩ = some (.int .i64 a0_1) := (blk_cell BK122.out 1).trans rfl
            have hcz41_2 : wc.cell? ⟨gb122, 2, none⟩ = some (.int .i64 a0_2) := (blk_cell BK122.out 2).trans rfl
            have hcz41_3 : wc.cell? ⟨gb122, 3, none⟩ = some (.int .i64 a0_3) := (blk_cell BK122.out 3).trans rfl
            have hfz41_0 := blk_frozen BK122.out 0
            have hfz41_1 := blk_frozen BK122.out 1
            have hfz41_2 := blk_frozen BK122.out 2
            have hfz41_3 := blk_frozen BK122.out 3
            go_wp2_with (first | ((with_reducible refine gate_callee (f := 75) rfl ?_); refine gL (some 64) Tryz.func75 #[.int .i64 a0_1] ?_; (with_reducible refine (spec_l04Reg.calls a0_1 true _ A37.out).mono ?_); rintro e w' ⟨rfl, ⟨nd, rfl⟩⟩; refine ⟨_, rfl, ?_⟩))
            go_ret
            exact ⟨eR, bx⟩
          ·replace c38 := Bool.eq_false_iff.mpr c38
           subst c38
           have H1 : (some false) = some r := by rw [if_neg (show ¬ (false = true) by decide)] at H; exact H
           clear H
           have H := H1
           clear H1
           obtain rfl := Option.some.inj H
           have hcz42_0 : wc.cell? ⟨gb122, 0, none⟩ = some (.int .i64 a0_0) := (blk_cell BK122.out 0).trans rfl
           have hcz42_1 : wc.cell? ⟨gb122, 1, none⟩ = some (.int .i64 a0_1) := (blk_cell BK122.out 1).trans rfl
           have hcz42_2 : wc.cell? ⟨gb122, 2, none⟩ = some (.int .i64 a0_2) := (blk_cell BK122.out 2).trans rfl
           have hcz42_3 : wc.cell? ⟨gb122, 3, none⟩ = some (.int .i64 a0_3) := (blk_cell BK122.out 3).trans rfl
           have hfz42_0 := blk_frozen BK122.out 0
           have hfz42_1 := blk_frozen BK122.out 1
           have hfz42_2 := blk_frozen BK122.out 2
           have hfz42_3 := blk_frozen BK122.out 3
           go_wp2_with (first | ((with_reducible refine gate_callee (f := 75) rfl ?_); refine gL (some 64) Tryz.func75 #[.int .i64 a0_1] ?_; (with_reducible refine (spec_l04Reg.calls a0_1 false _ A37.out).mono ?_); rintro e w' ⟨rfl, ⟨nd, rfl⟩⟩; refine ⟨_, rfl, ?_⟩))
           go_ret
           exact ⟨eR, bx⟩
         ·rw [if_neg c36] at H
          have c36b0 : (a0_0 == 8) = false := beq_eq_false_iff_ne.mpr c36
          have c36b1 : (a0_0 != 8) = true := bne_iff_ne.mpr c36
          by_cases c43 : a0_0 = 10
          ·rw [if_pos c43] at H
           have c43b0 : (a0_0 == 10) = true := beq_iff_eq.mpr c43
           have c43b1 : (a0_0 != 10) = false := bne_eq_false_iff_eq.mpr c43
           clear c43
           replace H := Option.bind_eq_some_iff.mp H
           obtain ⟨t129, A440, H⟩ := H
           replace H : (if t129 = true then ((spec_l01In.f a0_2 0 a1).bind fun t130 => (if t130 = true then (some (a0_3 == 0)) else (some false))) else (some false)) = some r := H
           have A44 := Aside0.mk A440
           clear A440
           by_cases c45 : t129 = true
           ·subst c45
            have H1 : ((spec_l01In.f a0_2 0 a1).bind fun t130 => (if t130 = true then (some (a0_3 == 0)) else (some false))) = some r := by rw [if_pos rfl] at H; exact H
            clear H
            have H := H1
            clear H1
            replace H := Option.bind_eq_some_iff.mp H
            obtain ⟨t130, A460, H⟩ := H
            replace H : (if t130 = true then (some (a0_3 == 0)) else (some false)) = some r := H
            have A46 := Aside0.mk A460
            clear A460
            by_cases c47 : t130 = true
            ·subst c47
             have H1 : (some (a0_3 == 0)) = some r := by rw [if_pos rfl] at H; exact H
             clear H
             have H := H1
             clear H1
             obtain rfl := Option.some.inj H
             have hcz48_0 : wc.cell? ⟨gb122, 0, none⟩ = some (.int .i64 a0_0) := (blk_cell BK122.out 0).trans rfl
             have hcz48_1 : wc.cell? ⟨gb122, 1, none⟩ = some (.int .i64 a0_1) := (blk_cell BK122.out 1).trans rfl
             have hcz48_2 : wc.cell? ⟨gb122, 2, none⟩ = some (.int .i64 a0_2) := (blk_cell BK122.out 2).trans rfl
             have hcz48_3 : wc.cell? ⟨gb122, 3, none⟩ = some (.int .i64 a0_3) := (blk_cell BK122.out 3).trans rfl
             have hfz48_0 := blk_frozen BK122.out 0
             have hfz48_1 := blk_frozen BK122.out 1
             have hfz48_2 := blk_frozen BK122.out 2
             have hfz48_3 := blk_frozen BK122.out 3
             go_wp2_with (first | ((with_reducible refine gate_callee (f := 75) rfl ?_); refine gL (some 79) Tryz.func75 #[.int .i64 a0_1] ?_; (with_reducible refine (spec_l04Reg.calls a0_1 true _ A44.out).mono ?_); rintro e w' ⟨rfl, ⟨nd, rfl⟩⟩; refine ⟨_, rfl, ?_⟩) | (go_at_call 53; (with_reducible refine (spec_l01In.calls a0_2 0 a1 true _ A46.out).mono ?_); rintro e w' ⟨rfl, ⟨nd, rfl⟩⟩))
             go_ret
             exact ⟨eR, bx⟩
            ·replace c47 := Bool.eq_false_iff.mpr c47
             subst c47
             have H1 : (some false) = some r := by rw [if_neg (show ¬ (false = true) by decide)] at H; exact H
             clear H
             have H := H1
             clear H1
             obtain rfl := Option.some.inj H
             have hcz49_0 : wc.cell? ⟨gb122, 0, none⟩ = some (.int .i64 a0_0) := (blk_cell BK122.out 0).trans rfl
             have hcz49_1 : wc.cell? ⟨gb122, 1, none⟩ = some (.int .i64 a0_1) := (blk_cell BK122.out 1).trans rfl
             have hcz49_2 : wc.cell? ⟨gb122, 2, none⟩ = some (.int .i64 a0_2) := (blk_cell BK122.out 2).trans rfl
             have hcz49_3 : wc.cell? ⟨gb122, 3, none⟩ = some (.int .i64 a0_3) := (blk_cell BK122.out 3).trans rfl
             have hfz49_0 := blk_frozen BK122.out 0
             have hfz49_1 := blk_frozen BK122.out 1
             have hfz49_2 := blk_frozen BK122.out 2
             have hfz49_3 := blk_frozen BK122.out 3
             go_wp2_with (first | ((with_reducible refine gate_callee (f := 75) rfl ?_); refine gL (some 79) Tryz.func75 #[.int .i64 a0_1] ?_; (with_reducible refine (spec_l04Reg.calls a0_1 true _ A44.out).mono ?_); rintro e w' ⟨rfl, ⟨nd, rfl⟩⟩; refine ⟨_, rfl, ?_⟩) | (go_at_call 53; (with_reducible refine (spec_l01In.calls a0_2 0 a1 false _ A46.out).mono ?_); rintro e w' ⟨rfl, ⟨nd, rfl⟩⟩))
             go_ret
             exact ⟨eR, bx⟩
           ·replace c45 := Bool.eq_false_iff.mpr c45
            subst c45
            have H1 : (some false) = some r := by rw [if_neg (show ¬ (false = true) by decide)] at H; exact H
            clear H
            have H := H1
            clear H1
            obtain rfl := Option.some.inj H
            have hcz50_0 : wc.cell? ⟨gb122, 0, none⟩ = some (.int .i64 a0_0) := (blk_cell BK122.out 0).trans rfl
            have hcz50_1 : wc.cell? ⟨gb122, 1, none⟩ = some (.int .i64 a0_1) := (blk_cell BK122.out 1).trans rfl
            have hcz50_2 : wc.cell? ⟨gb122, 2, none⟩ = some (.int .i64 a0_2) := (blk_cell BK122.out 2).trans rfl
            have hcz50_3 : wc.cell? ⟨gb122, 3, none⟩ = some (.int .i64 a0_3) := (blk_cell BK122.out 3).trans rfl
            have hfz50_0 := blk_frozen BK122.out 0
            have hfz50_1 := blk_frozen BK122.out 1
            have hfz50_2 := blk_frozen BK122.out 2
            have hfz50_3 := blk_frozen BK122.out 3
            go_wp2_with (first | ((with_reducible refine gate_callee (f := 75) rfl ?_); refine gL (some 79) Tryz.func75 #[.int .i64 a0_1] ?_; (with_reducible refine (spec_l04Reg.calls a0_1 false _ A44.out).mono ?_); rintro e w' ⟨rfl, ⟨nd, rfl⟩⟩; refine ⟨_, rfl, ?_⟩))
            go_ret
            exact ⟨eR, bx⟩
          ·rw [if_neg c43] at H
           have c43b0 : (a0_0 == 10) = false := beq_eq_false_iff_ne.mpr c43
           have c43b1 : (a0_0 != 10) = true := bne_iff_ne.mpr c43
           by_cases c51 : a0_0 = 11
           ·rw [if_pos c51] at H
            have c51b0 : (a0_0 == 11) = true := beq_iff_eq.mpr c51
            have c51b1 : (a0_0 != 11) = false := bne_eq_false_iff_eq.mpr c51
            clear c51
            by_cases c52 : a0_1 = 0
            ·rw [if_pos c52] at H
             have c52b0 : (a0_1 == 0) = true := beq_iff_eq.mpr c52
             have c52b1 : (a0_1 != 0) = false := bne_eq_false_iff_eq.mpr c52
             clear c52
             replace H := Option.bind_eq_some_iff.mp H
             obtain ⟨t131, A530, H⟩ := H
             replace H : (if t131 = true then (some (a0_3 == 0)) else (some false)) = some r := H
             have A53 := Aside0.mk A530
             clear A530
             by_cases c54 : t131 = true
             ·subst c54
              have H1 : (some (a0_3 == 0)) = some r := by rw [if_pos rfl] at H; exact H
              clear H
              have H := H1
              clear H1
              obtain rfl := Option.some.inj H
              have hcz55_0 : wc.cell? ⟨gb122, 0, none⟩ = some (.int .i64 a0_0) := (blk_cell BK122.out 0).trans rfl
              have hcz55_1 : wc.cell? ⟨gb122, 1, none⟩ = some (.int .i64 a0_1) := (blk_cell BK122.out 1).trans rfl
              have hcz55_2 : wc.cell? ⟨gb122, 2, none⟩ = some (.int .i64 a0_2) := (blk_cell BK122.out 2).trans rfl
              have hcz55_3 : wc.cell? ⟨gb122, 3, none⟩ = some (.int .i64 a0_3) := (blk_cell BK122.out 3).trans rfl
              have hfz55_0 := blk_frozen BK122.out 0
              have hfz55_1 := blk_frozen BK122.out 1
              have hfz55_2 := blk_frozen BK122.out 2
              have hfz55_3 := blk_frozen BK122.out 3
              go_wp2_with (first | (go_at_call 53; (with_reducible refine (spec_l01In.calls a0_2 0 a1 true _ A53.out).mono ?_); rintro e w' ⟨rfl, ⟨nd, rfl⟩⟩))
              go_ret
              exact ⟨eR, bx⟩
             ·replace c54 := Bool.eq_false_iff.mpr c54
              subst c54
              have H1 : (some false) = some r := by rw [if_neg (show ¬ (false = true) by decide)] at H; exact H
              clear H
              have H := H1
              clear H1
              obtain rfl := Option.some.inj H
              have hcz56_0 : wc.cell? ⟨gb122, 0, none⟩ = some (.int .i64 a0_0) := (blk_cell BK122.out 0).trans rfl
              have hcz56_1 : wc.cell? ⟨gb122, 1, none⟩ = some (.int .i64 a0_1) := (blk_cell BK122.out 1).trans rfl
              have hcz56_2 : wc.cell? ⟨gb122, 2, none⟩ = some (.int .i64 a0_2) := (blk_cell BK122.out 2).trans rfl
              have hcz56_3 : wc.cell? ⟨gb122, 3, none⟩ = some (.int .i64 a0_3) := (blk_cell BK122.out 3).trans rfl
              have hfz56_0 := blk_frozen BK122.out 0
              have hfz56_1 := blk_frozen BK122.out 1
              have hfz56_2 := blk_frozen BK122.out 2
              have hfz56_3 := blk_frozen BK122.out 3
              go_wp2_with (first | (go_at_call 53; (with_reducible refine (spec_l01In.calls a0_2 0 a1 false _ A53.out).mono ?_); rintro e w' ⟨rfl, ⟨nd, rfl⟩⟩))
              go_ret
              exact ⟨eR, bx⟩
            ·rw [if_neg c52] at H
             have c52b0 : (a0_1 == 0) = false := beq_eq_false_iff_ne.mpr c52
             have c52b1 : (a0_1 != 0) = true := bne_iff_ne.mpr c52
             obtain rfl := Option.some.inj H
             have hcz57_0 : wc.cell? ⟨gb122, 0, none⟩ = some (.int .i64 a0_0) := (blk_cell BK122.out 0).trans rfl
             have hcz57_1 : wc.cell? ⟨gb122, 1, none⟩ = some (.int .i64 a0_1) := (blk_cell BK122.out 1).trans rfl
             have hcz57_2 : wc.cell? ⟨gb122, 2, none⟩ = some (.int .i64 a0_2) := (blk_cell BK122.out 2).trans rfl
             have hcz57_3 : wc.cell? ⟨gb122, 3, none⟩ = some (.int .i64 a0_3) := (blk_cell BK122.out 3).trans rfl
             have hfz57_0 := blk_frozen BK122.out 0
             have hfz57_1 := blk_frozen BK122.out 1
             have hfz57_2 := blk_frozen BK122.out 2
             have hfz57_3 := blk_frozen BK122.out 3
             go_wp2
             go_ret
             exact ⟨eR, bx⟩
           ·rw [if_neg c51] at H
            have c51b0 : (a0_0 == 11) = false := beq_eq_false_iff_ne.mpr c51
            have c51b1 : (a0_0 != 11) = true := bne_iff_ne.mpr c51
            replace H := Option.bind_eq_some_iff.mp H
            obtain ⟨t132, A580, H⟩ := H
            replace H : (if t132 = true then ((spec_l04Reg.f a0_1).bind fun t133 => (if t133 = true then ((spec_l04Reg.f a0_2).bind fun t134 => (if t134 = true then ((spec_l04Reg.f a0_3).bind fun t135 => (some t135)) else (some false))) else (some false))) else (some false)) = some r := H
            have A58 := Aside0.mk A580
            clear A580
            by_cases c59 : t132 = true
            ·subst c59
             have H1 : ((spec_l04Reg.f a0_1).bind fun t133 => (if t133 = true then ((spec_l04Reg.f a0_2).bind fun t134 => (if t134 = true then ((spec_l04Reg.f a0_3).bind fun t135 => (some t135)) else (some false))) else (some false))) = some r := by rw [if_pos rfl] at H; exact H
             clear H
             have H := H1
             clear H1
             replace H := Option.bind_eq_some_iff.mp H
             obtain ⟨t133, A600, H⟩ := H
             replace H : (if t133 = true then ((spec_l04Reg.f a0_2).bind fun t134 => (if t134 = true then ((spec_l04Reg.f a0_3).bind fun t135 => (some t135)) else (some false))) else (some false)) = some r := H
             have A60 := Aside0.mk A600
             clear A600
             by_cases c61 : t133 = true
             ·subst c61
              have H1 : ((spec_l04Reg.f a0_2).bind fun t134 => (if t134 = true then ((spec_l04Reg.f a0_3).bind fun t135 => (some t135)) else (some false))) = some r := by rw [if_pos rfl] at H; exact H
              clear H
              have H := H1
              clear H1
              replace H := Option.bind_eq_some_iff.mp H
              obtain ⟨t134, A620, H⟩ := H
              replace H : (if t134 = true then ((spec_l04Reg.f a0_3).bind fun t135 => (some t135)) else (some false)) = some r := H
              have A62 := Aside0.mk A620
              clear A620
              by_cases c63 : t134 = true
              ·subst c63
               have H1 : ((spec_l04Reg.f a0_3).bind fun t135 => (some t135)) = some r := by rw [if_pos rfl] at H; exact H
               clear H
               have H := H1
               clear H1
               replace H := Option.bind_eq_some_iff.mp H
               obtain ⟨t135, A640, H⟩ := H
               replace H : (some t135) = some r := H
               have A64 := Aside0.mk A640
               clear A640
               obtain rfl := Option.some.inj H
               have hcz65_0 : wc.cell? ⟨gb122, 0, none⟩ = some (.int .i64 a0_0) := (blk_cell BK122.out 0).trans rfl
               have hcz65_1 : wc.cell? ⟨gb122, 1, none⟩ = some (.int .i64 a0_1) := (blk_cell BK122.out 1).trans rfl
               have hcz65_2 : wc.cell? ⟨gb122, 2, none⟩ = some (.int .i64 a0_2) := (blk_cell BK122.out 2).trans rfl
               have hcz65_3 : wc.cell? ⟨gb122, 3, none⟩ = some (.int .i64 a0_3) := (blk_cell BK122.out 3).trans rfl
               have hfz65_0 := blk_frozen BK122.out 0
               have hfz65_1 := blk_frozen BK122.out 1
               have hfz65_2 := blk_frozen BK122.out 2
               have hfz65_3 := blk_frozen BK122.out 3
               go_wp2_with (first | ((with_reducible refine gate_callee (f := 53) rfl ?_); refine gL (some 109) Tryz.func53 #[.int .i64 a0_0, .int .i64 3, .int .i64 9] ?_; (with_reducible refine (spec_l01In.calls a0_0 3 9 true _ A58.out).mono ?_); rintro e w' ⟨rfl, ⟨nd, rfl⟩⟩; refine ⟨_, rfl, ?_⟩) | (go_at_call 75; (with_reducible refine (spec_l04Reg.calls a0_1 true _ A60.out).mono ?_); rintro e w' ⟨rfl, ⟨nd, rfl⟩⟩) | (go_at_call 75; (with_reducible refine (spec_l04Reg.calls a0_2 true _ A62.out).mono ?_); rintro e w' ⟨rfl, ⟨nd, rfl⟩⟩) | (go_at_call 75; (with_reducible refine (spec_l04Reg.calls a0_3 t135 _ A64.out).mono ?_); rintro e w' ⟨rfl, ⟨nd, rfl⟩⟩))
               go_ret
               exact ⟨eR, bx⟩
              ·replace c63 := Bool.eq_false_iff.mpr c63
               subst c63
               have H1 : (some false) = some r := by rw [if_neg (show ¬ (false = true) by decide)] at H; exact H
               clear H
               have H := H1
               clear H1
               obtain rfl := Option.some.inj H
               have hcz66_0 : wc.cell? ⟨gb122, 0, none⟩ = some (.int .i64 a0_0) := (blk_cell BK122.out 0).trans rfl
               have hcz66_1 : wc.cell? ⟨gb122, 1, none⟩ = some (.int .i64 a0_1) := (blk_cell BK122.out 1).trans rfl
               have hcz66_2 : wc.cell? ⟨gb122, 2, none⟩ = some (.int .i64 a0_2) := (blk_cell BK122.out 2).trans rfl
               have hcz66_3 : wc.cell? ⟨gb122, 3, none⟩ = some (.int .i64 a0_3) := (blk_cell BK122.out 3).trans rfl
               have hfz66_0 := blk_frozen BK122.out 0
               have hfz66_1 := blk_frozen BK122.out 1
               have hfz66_2 := blk_frozen BK122.out 2
               have hfz66_3 := blk_frozen BK122.out 3
               go_wp2_with (first | ((with_reducible refine gate_callee (f := 53) rfl ?_); refine gL (some 109) Tryz.func53 #[.int .i64 a0_0, .int .i64 3, .int .i64 9] ?_; (with_reducible refine (spec_l01In.calls a0_0 3 9 true _ A58.out).mono ?_); rintro e w' ⟨rfl, ⟨nd, rfl⟩⟩; refine ⟨_, rfl, ?_⟩) | (go_at_call 75; (with_reducible refine (spec_l04Reg.calls a0_1 true _ A60.out).mono ?_); rintro e w' ⟨rfl, ⟨nd, rfl⟩⟩) | (go_at_call 75; (with_reducible refine (spec_l04Reg.calls a0_2 false _ A62.out).mono ?_); rintro e w' ⟨rfl, ⟨nd, rfl⟩⟩))
               go_ret
               exact ⟨eR, bx⟩
             ·replace c61 := Bool.eq_false_iff.mpr c61
              subst c61
              have H1 : (some false) = some r := by rw [if_neg (show ¬ (false = true) by decide)] at H; exact H
              clear H
              have H := H1
              clear H1
              obtain rfl := Option.some.inj H
              have hcz67_0 : wc.cell? ⟨gb122, 0, none⟩ = some (.int .i64 a0_0) := (blk_cell BK122.out 0).trans rfl
              have hcz67_1 : wc.cell? ⟨gb122, 1, none⟩ = some (.int .i64 a0_1) := (blk_cell BK122.out 1).trans rfl
              have hcz67_2 : wc.cell? ⟨gb122, 2, none⟩ = some (.int .i64 a0_2) := (blk_cell BK122.out 2).trans rfl
              have hcz67_3 : wc.cell? ⟨gb122, 3, none⟩ = some (.int .i64 a0_3) := (blk_cell BK122.out 3).trans rfl
              have hfz67_0 := blk_frozen BK122.out 0
              have hfz67_1 := blk_frozen BK122.out 1
              have hfz67_2 := blk_frozen BK122.out 2
              have hfz67_3 := blk_frozen BK122.out 3
              go_wp2_with (first | ((with_reducible refine gate_callee (f := 53) rfl ?_); refine gL (some 109) Tryz.func53 #[.int .i64 a0_0, .int .i64 3, .int .i64 9] ?_; (with_reducible refine (spec_l01In.calls a0_0 3 9 true _ A58.out).mono ?_); rintro e w' ⟨rfl, ⟨nd, rfl⟩⟩; refine ⟨_, rfl, ?_⟩) | (go_at_call 75; (with_reducible refine (spec_l04Reg.calls a0_1 false _ A60.out).mono ?_); rintro e w' ⟨rfl, ⟨nd, rfl⟩⟩))
              go_ret
              exact ⟨eR, bx⟩
            ·replace c59 := Bool.eq_false_iff.mpr c59
             subst c59
             have H1 : (some false) = some r := by rw [if_neg (show ¬ (false = true) by decide)] at H; exact H
             clear H
             have H := H1
             clear H1
             obtain rfl := Option.some.inj H
             have hcz68_0 : wc.cell? ⟨gb122, 0, none⟩ = some (.int .i64 a0_0) := (blk_cell BK122.out 0).trans rfl
             have hcz68_1 : wc.cell? ⟨gb122, 1, none⟩ = some (.int .i64 a0_1) := (blk_cell BK122.out 1).trans rfl
             have hcz68_2 : wc.cell? ⟨gb122, 2, none⟩ = some (.int .i64 a0_2) := (blk_cell BK122.out 2).trans rfl
             have hcz68_3 : wc.cell? ⟨gb122, 3, none⟩ = some (.int .i64 a0_3) := (blk_cell BK122.out 3).trans rfl
             have hfz68_0 := blk_frozen BK122.out 0
             have hfz68_1 := blk_frozen BK122.out 1
             have hfz68_2 := blk_frozen BK122.out 2
             have hfz68_3 := blk_frozen BK122.out 3
             go_wp2_with (first | ((with_reducible refine gate_callee (f := 53) rfl ?_); refine gL (some 109) Tryz.func53 #[.int .i64 a0_0, .int .i64 3, .int .i64 9] ?_; (with_reducible refine (spec_l01In.calls a0_0 3 9 false _ A58.out).mono ?_); rintro e w' ⟨rfl, ⟨nd, rfl⟩⟩; refine ⟨_, rfl, ?_⟩))
             go_ret
             exact ⟨eR, bx⟩
 ·replace c4 := Bool.eq_false_iff.mpr c4
  subst c4
  have H1 : (some false) = some r := by rw [if_neg (show ¬ (false = true) by decide)] at H; exact H
  clear H
  have H := H1
  clear H1
  obtain rfl := Option.some.inj H
  go_enter Tryz.func54, Tryz.ntmps54
  go_wp2_with (first | ((with_reducible refine gate_dst (N := 2) rfl ?_); refine box_event ?hg (N := 2) ?hd (cs := #[.int .i64 a0_0, .int .i64 a0_1, .int .i64 a0_2, .int .i64 a0_3]) (t := 38) ?hr ?_; (case hd => rfl); (case hg => rfl); (case hr => first | (go_simp; done) | (go_simp; rfl)); intro gb122 hg w69 hbox hb; have BK122 := Aside0.mk (hbox); have GW122 := Aside0.mk ((by rw [hg]; exact (below_size bw) : w.heap.size ≤ gb122)); have GE122 := Aside0.mk ((by rw [hg]; exact (below_size bw) : w.heap.size ≤ gb122)); replace HB := Aside0.mk (below_step bw hb); clear hb hbox hg) | ((with_reducible refine gate_callee (f := 53) rfl ?_); refine gL (some 6) Tryz.func53 #[.int .i64 a1, .int .i64 0, .int .i64 32] ?_; (with_reducible refine (spec_l01In.calls a1 0 32 false _ A3.out).mono ?_); rintro e w' ⟨rfl, ⟨nd, rfl⟩⟩; refine ⟨_, rfl, ?_⟩))
  go_ret
  exact ⟨eR, bx⟩

/-! ### spec_ProgramOk: function 44 -/
def spec_ProgramOk.l0 : Nat → List (S38) → Int → Option (Bool)
 | 0, _, _ => none
 | k + 1, x0, x3 => if x3 < (x0.length : Int) then (if 0 ≤ x3 then ((spec_InsOk.f k ((rd_T38 x0 x3).f0) ((rd_T38 x0 x3).f1) ((rd_T38 x0 x3).f2) ((rd_T38 x0 x3).f3) (x0.length : Int)).bind fun t137 => (if t137 = true then (spec_ProgramOk.l0 k x0 (wrap64 (x3 + 1))) else (some false))) else (none)) else (some (decide ((x0.length : Int) ≤ 32)))
def spec_ProgramOk.f (k : Nat) (l0 : List (S38)) : Option (Bool) := spec_ProgramOk.l0 k l0 0
theorem spec_ProgramOk.mono_l : ∀ k, (∀ y0 y1, LeO (spec_ProgramOk.l0 k y0 y1) (spec_ProgramOk.l0 (k + 1) y0 y1))
 | 0 => fun _ _ r h => by simp [spec_ProgramOk.l0] at h
 | k + 1 => by
  have ih0 := spec_ProgramOk.mono_l k
  ·intro y0 y1
   unfold spec_ProgramOk.l0
   repeat' first
   | (with_reducible exact ih0 _ _)
   | (with_reducible exact spec_InsOk.mono _ _ _ _ _ _)
   | (with_reducible exact LeO.refl _)
   | (with_reducible exact LeO.none _)
   | (with_reducible refine LeO.ite ?_ ?_)
   | (with_reducible refine LeO.bind ?_ (fun _ => ?_))
   | exact ih0 _ _
   | exact spec_InsOk.mono _ _ _ _ _ _
   | exact LeO.none _
   | refine LeO.ite ?_ ?_
   | refine LeO.bind ?_ (fun _ => ?_)
theorem spec_ProgramOk.mono : ∀ a0 k, LeO (spec_ProgramOk.f k a0) (spec_ProgramOk.f (k + 1) a0) := by
 intro a0 k
 have ih0 := spec_ProgramOk.mono_l k
 unfold spec_ProgramOk.f
 repeat' first
   | (with_reducible exact ih0 _ _)
   | (with_reducible exact spec_InsOk.mono _ _ _ _ _ _)
   | (with_reducible exact LeO.refl _)
   | (with_reducible exact LeO.none _)
   | (with_reducible refine LeO.ite ?_ ?_)
   | (with_reducible refine LeO.bind ?_ (fun _ => ?_))
   | exact ih0 _ _
   | exact spec_InsOk.mono _ _ _ _ _ _
   | exact LeO.none _
   | refine LeO.ite ?_ ?_
   | refine LeO.bind ?_ (fun _ => ?_)
set_option maxHeartbeats 8000000 in
set_option maxRecDepth 100000 in
theorem spec_ProgramOk.calls (k : Nat) (A0 : Option Addr) (c0 : Nat) (l0 : List (S38)) (r : Bool) (w : World) (hr0 : Kd.C k38 w A0 l0.length l0) (hc0 : l0.length ≤ c0) (h : spec_ProgramOk.f k l0 = some r) :
  Calls Tryz.prog 44 #[.slice A0 l0.length c0] w fun e w' => e = .returned (.bool r) ∧ Below w.heap.size w w' := by
 have hu38 := Tryz.underlying38
 have HR0 := Aside0.mk hr0
 have HC0 := Aside0.mk hc0
 clear hr0 hc0
 have HB := Aside0.mk (Below.refl w.heap.size w)
 have H : (spec_ProgramOk.l0 k l0 0) = some r := h
 clear h
 have H' := Aside0.mk H
 clear H
 go_enter Tryz.func44, Tryz.ntmps44
 go_wp2
 go_loopg [3] k (fun kq v3 w' => ∃ (x3_1 : Int), v3 = .int .i64 x3_1 ∧ Aside0 (spec_ProgramOk.l0 kq l0 x3_1 = some r) ∧ Aside0 (kq ≤ k) ∧ Aside0 (Below w.heap.size w w'))
 case atStart => exact ⟨(0), tR, H', ⟨Nat.le_refl _⟩, ⟨bw⟩⟩
 case round =>
  clear H'
  obtain ⟨x3_1, rfl, HA, HK1, HB⟩ := hrel
  cases gk with
  | zero => exact absurd HA.out (by simp [spec_ProgramOk.l0])
  | succ k1 =>
   have H := HA.out
   clear HA
   simp only [spec_ProgramOk.l0] at H
   by_cases c2 : x3_1 < (l0.length : Int)
   ·rw [if_pos c2] at H
    have c2b0 : decide (x3_1 < (l0.length : Int)) = true := decide_eq_true c2
    clear c2
    by_cases c3 : 0 ≤ x3_1
    ·rw [if_pos c3] at H
     have c3b0 : decide (0 ≤ x3_1) = true := decide_eq_true c3
     clear c3
     replace H := Option.bind_eq_some_iff.mp H
     obtain ⟨t137, A40, H⟩ := H
     replace H : (if t137 = true then (spec_ProgramOk.l0 k1 l0 (wrap64 (x3_1 + 1))) else (some false)) = some r := H
     have A4 := Aside0.mk A40
     clear A40
     by_cases c5 : t137 = true
     ·subst c5
      have H1 : (spec_ProgramOk.l0 k1 l0 (wrap64 (x3_1 + 1))) = some r := by rw [if_pos rfl] at H; exact H
      clear H
      have H := H1
      clear H1
      have H' := Aside0.mk H
      clear H
      have p136 : 0 ≤ (x3_1 : Int) := dT
      have q136 : x3_1 < (l0.length : Int) := dT
      obtain ⟨ad136, e136, hx136_0, hx136_1, hx136_2, hx136_3⟩ := at_T38 HR0.out x3_1 p136 q136
      cases e136
      replace hx136_0 := (HB.out.cell (World.block_lt_of_cell? w _ hx136_0)).trans hx136_0
      replace hx136_1 := (HB.out.cell (World.block_lt_of_cell? w _ hx136_1)).trans hx136_1
      replace hx136_2 := (HB.out.cell (World.block_lt_of_cell? w _ hx136_2)).trans hx136_2
      replace hx136_3 := (HB.out.cell (World.block_lt_of_cell? w _ hx136_3)).trans hx136_3
      replace p136 := eq_true p136
      replace q136 := eq_true q136
      go_wp2_with (first | ((with_reducible refine gate_callee (f := 54) rfl ?_); refine gL (some 16) Tryz.func54 #[.agg #[.int .i64 ((rd_T38 l0 x3_1).f0), .int .i64 ((rd_T38 l0 x3_1).f1), .int .i64 ((rd_T38 l0 x3_1).f2), .int .i64 ((rd_T38 l0 x3_1).f3)], .int .i64 (l0.length : Int)] ?_; (with_reducible refine (spec_InsOk.calls k1 ((rd_T38 l0 x3_1).f0) ((rd_T38 l0 x3_1).f1) ((rd_T38 l0 x3_1).f2) ((rd_T38 l0 x3_1).f3) (l0.length : Int) true _ A4.out).mono ?_); rintro e w6 ⟨rfl, hb⟩; refine ⟨_, rfl, ?_⟩; replace HB := Aside0.mk (below_step bw hb); (try clear hb)))
      go_roundg k1
      case measure => have := HK1.out; omega
      case rel => exact ⟨(wrap64 (x3_1 + 1)), tR, H', ⟨by have := HK1.out; omega⟩, ⟨bw⟩⟩
     ·replace c5 := Bool.eq_false_iff.mpr c5
      subst c5
      have H1 : (some false) = some r := by rw [if_neg (show ¬ (false = true) by decide)] at H; exact H
      clear H
      have H := H1
      clear H1
      obtain rfl := Option.some.inj H
      have p136 : 0 ≤ (x3_1 : Int) := dT
      have q136 : x3_1 < (l0.length : Int) := dT
      obtain ⟨ad136, e136, hx136_0, hx136_1, hx136_2, hx136_3⟩ := at_T38 HR0.out x3_1 p136 q136
      cases e136
      replace hx136_0 := (HB.out.cell (World.block_lt_of_cell? w _ hx136_0)).trans hx136_0
      replace hx136_1 := (HB.out.cell (World.block_lt_of_cell? w _ hx136_1)).trans hx136_1
      replace hx136_2 := (HB.out.cell (World.block_lt_of_cell? w _ hx136_2)).trans hx136_2
      replace hx136_3 := (HB.out.cell (World.block_lt_of_cell? w _ hx136_3)).trans hx136_3
      replace p136 := eq_true p136
      replace q136 := eq_true q136
      go_wp2_with (first | ((with_reducible refine gate_callee (f := 54) rfl ?_); refine gL (some 16) Tryz.func54 #[.agg #[.int .i64 ((rd_T38 l0 x3_1).f0), .int .i64 ((rd_T38 l0 x3_1).f1), .int .i64 ((rd_T38 l0 x3_1).f2), .int .i64 ((rd_T38 l0 x3_1).f3)], .int .i64 (l0.length : Int)] ?_; (with_reducible refine (spec_InsOk.calls k1 ((rd_T38 l0 x3_1).f0) ((rd_T38 l0 x3_1).f1) ((rd_T38 l0 x3_1).f2) ((rd_T38 l0 x3_1).f3) (l0.length : Int) false _ A4.out).mono ?_); rintro e w7 ⟨rfl, hb⟩; refine ⟨_, rfl, ?_⟩; replace HB := Aside0.mk (below_step bw hb); (try clear hb)))
      go_ret
      exact ⟨eR, bw⟩
    ·rw [if_neg c3] at H
     exact absurd H (by simp)
   ·rw [if_neg c2] at H
    have c2b0 : decide (x3_1 < (l0.length : Int)) = false := decide_eq_false c2
    clear c2
    obtain rfl := Option.some.inj H
    go_wp2
    go_ret
    exact ⟨eR, bw⟩

end Go.Proofs.YtdppehpcpofeoaaGreat.PFnExactNeverSplits
