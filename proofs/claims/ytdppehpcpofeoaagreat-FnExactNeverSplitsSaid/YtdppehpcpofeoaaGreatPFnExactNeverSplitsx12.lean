-- Written by myprint.py (a program of this session, over the kit's print): not trusted, Lean checks it.
import Derived.Test.YtdppehpcpofeoaaGreatPFnExactNeverSplitsx0
import Derived.Test.YtdppehpcpofeoaaGreatPFnExactNeverSplitsx5
import Derived.Test.YtdppehpcpofeoaaGreatPFnExactNeverSplitsx11
namespace Go.Proofs.YtdppehpcpofeoaaGreat.PFnExactNeverSplits
open Go.RowKit Go.Proofs.YtdppehpcpofeoaaGreatW.PrintWords Go.Proofs.YtdppehpcpofeoaaGreatW.PrintLast Go.Proofs.YtdppehpcpofeoaaGreatW.PrintMore
attribute [local go_sem] max2_int min2_int max_two min_two max_three min_three max_four min_four   -- for this text's walks alone
set_option linter.unusedVariables false
set_option linter.unusedSimpArgs false

/-! ### impl_ReadsRegs: function 63 -/
def rawI (a b c d : Int) : List Int := if a = 2 ∨ a = 13 then [c] else if 3 ≤ a ∧ a ≤ 7 then [c, d] else if a = 9 then [b, c, d] else if a = 10 then [b] else if a = 14 ∨ a = 15 then [b, c] else []
def impl_ReadsRegs.f (k : Nat) (a0_0 : Int) (a0_1 : Int) (a0_2 : Int) (a0_3 : Int) : Option (List Int) := (slices_Sort_int_int.f k (rawI a0_0 a0_1 a0_2 a0_3)).bind fun L => slices_Compact_int_int.f L
theorem impl_ReadsRegs.mono : ∀ a0 a1 a2 a3 k, LeO (impl_ReadsRegs.f k a0 a1 a2 a3) (impl_ReadsRegs.f (k + 1) a0 a1 a2 a3) := by
  intro a0 a1 a2 a3 k
  unfold impl_ReadsRegs.f
  exact LeO.bind (slices_Sort_int_int.mono _ _) fun _ => LeO.refl _
theorem rawI_arms (a : Int) : a = 2 ∨ a = 13 ∨ a = 3 ∨ a = 4 ∨ a = 5 ∨ a = 6 ∨ a = 7 ∨ a = 9 ∨ a = 10 ∨ a = 14 ∨ a = 15 ∨ (a ≠ 2 ∧ a ≠ 13 ∧ a ≠ 3 ∧ a ≠ 4 ∧ a ≠ 5 ∧ a ≠ 6 ∧ a ≠ 7 ∧ a ≠ 9 ∧ a ≠ 10 ∧ a ≠ 14 ∧ a ≠ 15) := by omega
set_option maxHeartbeats 8000000 in
set_option maxRecDepth 100000 in
theorem impl_ReadsRegs.calls (k : Nat) (a0_0 : Int) (a0_1 : Int) (a0_2 : Int) (a0_3 : Int) (r : List Int) (w : World) (h : impl_ReadsRegs.f k a0_0 a0_1 a0_2 a0_3 = some r) :
    Calls Tryz.prog 63 #[.agg #[.int .i64 a0_0, .int .i64 a0_1, .int .i64 a0_2, .int .i64 a0_3]] w fun e w' => ∃ v0_ : Value, e = .returned (v0_) ∧ Kd.R (Kd.int .i64) 3 w' w.heap.size (fun _ => True) v0_ r ∧ Below w.heap.size w w' := by
  obtain ⟨L, hL, h⟩ := Option.bind_eq_some_iff.mp h
  have HC := Aside0.mk h
  have huI := Tryz.underlying38
  clear h
  rcases rawI_arms a0_0 with h | h | h | h | h | h | h | h | h | h | h | h
  all_goals
    have HL : Aside0 (slices_Sort_int_int.f k (rawI a0_0 a0_1 a0_2 a0_3) = some L) := ⟨hL⟩
    unfold rawI at HL
    first
      | (rw [if_pos (by omega)] at HL)
      | (rw [if_neg (by omega), if_pos (by omega)] at HL)
      | (rw [if_neg (by omega), if_neg (by omega), if_pos (by omega)] at HL)
      | (rw [if_neg (by omega), if_neg (by omega), if_neg (by omega), if_pos (by omega)] at HL)
      | (rw [if_neg (by omega), if_neg (by omega), if_neg (by omega), if_neg (by omega), if_pos (by omega)] at HL)
      | (rw [if_neg (by omega), if_neg (by omega), if_neg (by omega), if_neg (by omega), if_neg (by omega)] at HL)
    first | (have b2 : (a0_0 == 2) = true := beq_iff_eq.mpr (by omega)) | (have b2 : (a0_0 == 2) = false := beq_eq_false_iff_ne.mpr (by omega))
    first | (have b13 : (a0_0 == 13) = true := beq_iff_eq.mpr (by omega)) | (have b13 : (a0_0 == 13) = false := beq_eq_false_iff_ne.mpr (by omega))
    first | (have b3 : (a0_0 == 3) = true := beq_iff_eq.mpr (by omega)) | (have b3 : (a0_0 == 3) = false := beq_eq_false_iff_ne.mpr (by omega))
    first | (have b4 : (a0_0 == 4) = true := beq_iff_eq.mpr (by omega)) | (have b4 : (a0_0 == 4) = false := beq_eq_false_iff_ne.mpr (by omega))
    first | (have b5 : (a0_0 == 5) = true := beq_iff_eq.mpr (by omega)) | (have b5 : (a0_0 == 5) = false := beq_eq_false_iff_ne.mpr (by omega))
    first | (have b6 : (a0_0 == 6) = true := beq_iff_eq.mpr (by omega)) | (have b6 : (a0_0 == 6) = false := beq_eq_false_iff_ne.mpr (by omega))
    first | (have b7 : (a0_0 == 7) = true := beq_iff_eq.mpr (by omega)) | (have b7 : (a0_0 == 7) = false := beq_eq_false_iff_ne.mpr (by omega))
    first | (have b9 : (a0_0 == 9) = true := beq_iff_eq.mpr (by omega)) | (have b9 : (a0_0 == 9) = false := beq_eq_false_iff_ne.mpr (by omega))
    first | (have b10 : (a0_0 == 10) = true := beq_iff_eq.mpr (by omega)) | (have b10 : (a0_0 == 10) = false := beq_eq_false_iff_ne.mpr (by omega))
    first | (have b14 : (a0_0 == 14) = true := beq_iff_eq.mpr (by omega)) | (have b14 : (a0_0 == 14) = false := beq_eq_false_iff_ne.mpr (by omega))
    first | (have b15 : (a0_0 == 15) = true := beq_iff_eq.mpr (by omega)) | (have b15 : (a0_0 == 15) = false := beq_eq_false_iff_ne.mpr (by omega))
    clear h hL
    go_enter Tryz.func63, Tryz.ntmps63
    go_wp2_with (first
      | ((with_reducible refine gate_dst (N := 1) rfl ?_); refine box_event ?hg (N := 1) ?hd (cs := #[.int .i64 a0_0, .int .i64 a0_1, .int .i64 a0_2, .int .i64 a0_3]) (t := 38) ?hr ?_; (case hd => rfl); (case hg => rfl); (case hr => first | (go_simp; done) | (go_simp; rfl)); intro gb hgb w1 hbox hb; have HB := Aside0.mk hb; have BK := Aside0.mk hbox; have z0 : w1.cell? ⟨gb, 0, none⟩ = some (.int .i64 a0_0) := (blk_cell hbox 0).trans rfl; have z1 : w1.cell? ⟨gb, 1, none⟩ = some (.int .i64 a0_1) := (blk_cell hbox 1).trans rfl; have z2 : w1.cell? ⟨gb, 2, none⟩ = some (.int .i64 a0_2) := (blk_cell hbox 2).trans rfl; have z3 : w1.cell? ⟨gb, 3, none⟩ = some (.int .i64 a0_3) := (blk_cell hbox 3).trans rfl;  clear hgb hb hbox)
      | ((with_reducible refine gate_dst (N := 4) rfl ?_); refine Kd.R_lit (Kd.int .i64) _ 3 ?hg (N := 4) ?hd (xs := ([] : List Int)) (inner := []) (ok := fun _ => True) (okp := fun _ => True) ?hr ?hp (fun _ hk => hk) trivial HB.out (below_size HB.out) (by simp) ?_; (case hd => rfl); (case hg => rfl); (case hr => first | (go_simp; done) | (go_simp; rfl)); (case hp => exact (Reps.none _ _)); intro v4 w4 ho hb hg _; have n1_ := Aside0.mk ((hg.block _ (blk_lt BK.out) (by simp)).trans BK.out); clear HB BK z0 z1 z2 z3; have HO := Aside0.mk ho; have HB := Aside0.mk hb; have BK := n1_; clear ho hb hg n1_; have z0 : w4.cell? ⟨gb, 0, none⟩ = some (.int .i64 a0_0) := (blk_cell BK.out 0).trans rfl; have z1 : w4.cell? ⟨gb, 1, none⟩ = some (.int .i64 a0_1) := (blk_cell BK.out 1).trans rfl; have z2 : w4.cell? ⟨gb, 2, none⟩ = some (.int .i64 a0_2) := (blk_cell BK.out 2).trans rfl; have z3 : w4.cell? ⟨gb, 3, none⟩ = some (.int .i64 a0_3) := (blk_cell BK.out 3).trans rfl)
      | ((with_reducible refine gate_dst (N := 12) rfl ?_); refine Kd.R_lit (Kd.int .i64) _ 3 ?hg (N := 12) ?hd (xs := ([a0_2] : List Int)) (inner := [.int .i64 a0_2]) (ok := fun _ => True) (okp := fun _ => True) ?hr ?hp (fun _ hk => hk) trivial HB.out (below_size HB.out) (by simp) ?_; (case hd => rfl); (case hg => rfl); (case hr => first | (go_simp; done) | (go_simp; rfl)); (case hp => exact (Reps.one rfl (Reps.none _ _))); intro v12 w12 ho hb hg _; have n1_ := Aside0.mk ((hg.block _ (blk_lt BK.out) (by simp)).trans BK.out); clear HB BK z0 z1 z2 z3; clear HO; have HO := Aside0.mk ho; have HB := Aside0.mk hb; have BK := n1_; clear ho hb hg n1_; have z0 : w12.cell? ⟨gb, 0, none⟩ = some (.int .i64 a0_0) := (blk_cell BK.out 0).trans rfl; have z1 : w12.cell? ⟨gb, 1, none⟩ = some (.int .i64 a0_1) := (blk_cell BK.out 1).trans rfl; have z2 : w12.cell? ⟨gb, 2, none⟩ = some (.int .i64 a0_2) := (blk_cell BK.out 2).trans rfl; have z3 : w12.cell? ⟨gb, 3, none⟩ = some (.int .i64 a0_3) := (blk_cell BK.out 3).trans rfl)
      | ((with_reducible refine gate_dst (N := 23) rfl ?_); refine Kd.R_lit (Kd.int .i64) _ 3 ?hg (N := 23) ?hd (xs := ([a0_2, a0_3] : List Int)) (inner := [.int .i64 a0_2, .int .i64 a0_3]) (ok := fun _ => True) (okp := fun _ => True) ?hr ?hp (fun _ hk => hk) trivial HB.out (below_size HB.out) (by simp) ?_; (case hd => rfl); (case hg => rfl); (case hr => first | (go_simp; done) | (go_simp; rfl)); (case hp => exact (Reps.one rfl (Reps.one rfl (Reps.none _ _)))); intro v23 w23 ho hb hg _; have n1_ := Aside0.mk ((hg.block _ (blk_lt BK.out) (by simp)).trans BK.out); clear HB BK z0 z1 z2 z3; clear HO; have HO := Aside0.mk ho; have HB := Aside0.mk hb; have BK := n1_; clear ho hb hg n1_; have z0 : w23.cell? ⟨gb, 0, none⟩ = some (.int .i64 a0_0) := (blk_cell BK.out 0).trans rfl; have z1 : w23.cell? ⟨gb, 1, none⟩ = some (.int .i64 a0_1) := (blk_cell BK.out 1).trans rfl; have z2 : w23.cell? ⟨gb, 2, none⟩ = some (.int .i64 a0_2) := (blk_cell BK.out 2).trans rfl; have z3 : w23.cell? ⟨gb, 3, none⟩ = some (.int .i64 a0_3) := (blk_cell BK.out 3).trans rfl)
      | ((with_reducible refine gate_dst (N := 32) rfl ?_); refine Kd.R_lit (Kd.int .i64) _ 3 ?hg (N := 32) ?hd (xs := ([a0_1, a0_2, a0_3] : List Int)) (inner := [.int .i64 a0_1, .int .i64 a0_2, .int .i64 a0_3]) (ok := fun _ => True) (okp := fun _ => True) ?hr ?hp (fun _ hk => hk) trivial HB.out (below_size HB.out) (by simp) ?_; (case hd => rfl); (case hg => rfl); (case hr => first | (go_simp; done) | (go_simp; rfl)); (case hp => exact (Reps.one rfl (Reps.one rfl (Reps.one rfl (Reps.none _ _))))); intro v32 w32 ho hb hg _; have n1_ := Aside0.mk ((hg.block _ (blk_lt BK.out) (by simp)).trans BK.out); clear HB BK z0 z1 z2 z3; clear HO; have HO := Aside0.mk ho; have HB := Aside0.mk hb; have BK := n1_; clear ho hb hg n1_; have z0 : w32.cell? ⟨gb, 0, none⟩ = some (.int .i64 a0_0) := (blk_cell BK.out 0).trans rfl; have z1 : w32.cell? ⟨gb, 1, none⟩ = some (.int .i64 a0_1) := (blk_cell BK.out 1).trans rfl; have z2 : w32.cell? ⟨gb, 2, none⟩ = some (.int .i64 a0_2) := (blk_cell BK.out 2).trans rfl; have z3 : w32.cell? ⟨gb, 3, none⟩ = some (.int .i64 a0_3) := (blk_cell BK.out 3).trans rfl)
      | ((with_reducible refine gate_dst (N := 37) rfl ?_); refine Kd.R_lit (Kd.int .i64) _ 3 ?hg (N := 37) ?hd (xs := ([a0_1] : List Int)) (inner := [.int .i64 a0_1]) (ok := fun _ => True) (okp := fun _ => True) ?hr ?hp (fun _ hk => hk) trivial HB.out (below_size HB.out) (by simp) ?_; (case hd => rfl); (case hg => rfl); (case hr => first | (go_simp; done) | (go_simp; rfl)); (case hp => exact (Reps.one rfl (Reps.none _ _))); intro v37 w37 ho hb hg _; have n1_ := Aside0.mk ((hg.block _ (blk_lt BK.out) (by simp)).trans BK.out); clear HB BK z0 z1 z2 z3; clear HO; have HO := Aside0.mk ho; have HB := Aside0.mk hb; have BK := n1_; clear ho hb hg n1_; have z0 : w37.cell? ⟨gb, 0, none⟩ = some (.int .i64 a0_0) := (blk_cell BK.out 0).trans rfl; have z1 : w37.cell? ⟨gb, 1, none⟩ = some (.int .i64 a0_1) := (blk_cell BK.out 1).trans rfl; have z2 : w37.cell? ⟨gb, 2, none⟩ = some (.int .i64 a0_2) := (blk_cell BK.out 2).trans rfl; have z3 : w37.cell? ⟨gb, 3, none⟩ = some (.int .i64 a0_3) := (blk_cell BK.out 3).trans rfl)
      | ((with_reducible refine gate_dst (N := 45) rfl ?_); refine Kd.R_lit (Kd.int .i64) _ 3 ?hg (N := 45) ?hd (xs := ([a0_1, a0_2] : List Int)) (inner := [.int .i64 a0_1, .int .i64 a0_2]) (ok := fun _ => True) (okp := fun _ => True) ?hr ?hp (fun _ hk => hk) trivial HB.out (below_size HB.out) (by simp) ?_; (case hd => rfl); (case hg => rfl); (case hr => first | (go_simp; done) | (go_simp; rfl)); (case hp => exact (Reps.one rfl (Reps.one rfl (Reps.none _ _)))); intro v45 w45 ho hb hg _; have n1_ := Aside0.mk ((hg.block _ (blk_lt BK.out) (by simp)).trans BK.out); clear HB BK z0 z1 z2 z3; clear HO; have HO := Aside0.mk ho; have HB := Aside0.mk hb; have BK := n1_; clear ho hb hg n1_; have z0 : w45.cell? ⟨gb, 0, none⟩ = some (.int .i64 a0_0) := (blk_cell BK.out 0).trans rfl; have z1 : w45.cell? ⟨gb, 1, none⟩ = some (.int .i64 a0_1) := (blk_cell BK.out 1).trans rfl; have z2 : w45.cell? ⟨gb, 2, none⟩ = some (.int .i64 a0_2) := (blk_cell BK.out 2).trans rfl; have z3 : w45.cell? ⟨gb, 3, none⟩ = some (.int .i64 a0_3) := (blk_cell BK.out 3).trans rfl)
      | (go_at_call 64; refine (slices_Sort_int_int.calls k (fun _ => True) _ _ L w _ HB.out HO.out HL.out).mono ?_; rintro e w60 ⟨rfl, ho, hb, -⟩; clear HO HB; have HO := Aside0.mk ho; have HB := Aside0.mk hb; clear ho hb)
      | (go_at_call 65; refine (slices_Compact_int_int.calls _ _ L r w _ HB.out HO.out HC.out).mono ?_; rintro e w61 ⟨v61, rfl, ho, hb, -⟩; clear HO HB; have HO := Aside0.mk ho; have HB := Aside0.mk hb; clear ho hb))
    go_ret
    exact ⟨_, rfl, Kd.R_mono HO.out (fun _ _ => trivial), HB.out⟩

/-! ### impl_uniformAfter: function 37 -/
def impl_uniformAfter.j0 : Nat → Int → Bool → Bool → Int → Int → Int → Int → Option (Int)
 | 0, _, _, _, _, _, _, _ => none
 | k + 1, x1, x5, x15, x427000, x427001, x427002, x427003 => if x15 = true then ((impl_ReadsRegs.f k x427000 x427001 x427002 x427003).bind fun t428 => ((impl_hasAll.f x1 t428).bind fun t431 => (if t431 = true then (if 0 ≤ x427001 then (some (Go.bits .or .i64 x1 (shl .i64 1 x427001))) else (none)) else (if 0 ≤ x427001 then (some (Go.bits .andNot .i64 x1 (shl .i64 1 x427001))) else (none))))) else (if x5 = true then (if 0 ≤ x427001 then (some (Go.bits .or .i64 x1 (shl .i64 1 x427001))) else (none)) else (if 0 ≤ x427001 then (some (Go.bits .andNot .i64 x1 (shl .i64 1 x427001))) else (none)))
def impl_uniformAfter.f (k : Nat) (a0_0 : Int) (a0_1 : Int) (a0_2 : Int) (a0_3 : Int) (a1 : Int) : Option (Int) := (impl_WritesReg.f a0_0 a0_1 a0_2 a0_3).bind fun t427 => (if t427 < 0 then (some a1) else (if a0_0 = 1 then (if 0 ≤ a0_1 then (some (Go.bits .or .i64 a1 (shl .i64 1 a0_1))) else (none)) else (if a0_0 = 8 then (impl_uniformAfter.j0 k a1 false false a0_0 a0_1 a0_2 a0_3) else (impl_uniformAfter.j0 k a1 false (a0_0 != 13) a0_0 a0_1 a0_2 a0_3))))
theorem impl_uniformAfter.mono_l : ∀ k, (∀ y0 y1 y2 y3 y4 y5 y6, LeO (impl_uniformAfter.j0 k y0 y1 y2 y3 y4 y5 y6) (impl_uniformAfter.j0 (k + 1) y0 y1 y2 y3 y4 y5 y6))
 | 0 => fun _ _ _ _ _ _ _ r h => by simp [impl_uniformAfter.j0] at h
 | k + 1 => by
  have ih0 := impl_uniformAfter.mono_l k
  ·intro y0 y1 y2 y3 y4 y5 y6
   unfold impl_uniformAfter.j0
   repeat' first
   | (with_reducible exact ih0 _ _ _ _ _ _ _)
   | (with_reducible exact impl_ReadsRegs.mono _ _ _ _ _)
   | (with_reducible exact LeO.refl _)
   | (with_reducible exact LeO.none _)
   | (with_reducible refine LeO.ite ?_ ?_)
   | (with_reducible refine LeO.bind ?_ (fun _ => ?_))
   | exact ih0 _ _ _ _ _ _ _
   | exact impl_ReadsRegs.mono _ _ _ _ _
   | exact LeO.none _
   | refine LeO.ite ?_ ?_
   | refine LeO.bind ?_ (fun _ => ?_)
theorem impl_uniformAfter.mono : ∀ a0 a1 a2 a3 a4 k, LeO (impl_uniformAfter.f k a0 a1 a2 a3 a4) (impl_uniformAfter.f (k + 1) a0 a1 a2 a3 a4) := by
 intro a0 a1 a2 a3 a4 k
 have ih0 := impl_uniformAfter.mono_l k
 unfold impl_uniformAfter.f
 repeat' first
   | (with_reducible exact ih0 _ _ _ _ _ _ _)
   | (with_reducible exact impl_ReadsRegs.mono _ _ _ _ _)
   | (with_reducible exact LeO.refl _)
   | (with_reducible exact LeO.none _)
   | (with_reducible refine LeO.ite ?_ ?_)
   | (with_reducible refine LeO.bind ?_ (fun _ => ?_))
   | exact ih0 _ _ _ _ _ _ _
   | exact impl_ReadsRegs.mono _ _ _ _ _
   | exact LeO.none _
   | refine LeO.ite ?_ ?_
   | refine LeO.bind ?_ (fun _ => ?_)
set_option maxHeartbeats 8000000 in
set_option maxRecDepth 100000 in
theorem impl_uniformAfter.calls (k : Nat) (a0_0 : Int) (a0_1 : Int) (a0_2 : Int) (a0_3 : Int) (a1 : Int) (r : Int) (w : World) (h : impl_uniformAfter.f k a0_0 a0_1 a0_2 a0_3 a1 = some r) :
  Calls Tryz.prog 37 #[.agg #[.int .i64 a0_0, .int .i64 a0_1, .int .i64 a0_2, .int .i64 a0_3], .int .i64 a1] w fun e w' => e = .returned (.int .i64 r) ∧ Below w.heap.size w w' := by
 have hu38 := Tryz.underlying38
 have HB := Aside0.mk (Below.refl w.heap.size w)
 have H : ((impl_WritesReg.f a0_0 a0_1 a0_2 a0_3).bind fun t427 => (if t427 < 0 then (some a1) else (if a0_0 = 1 then (if 0 ≤ a0_1 then (some (Go.bits .or .i64 a1 (shl .i64 1 a0_1))) else (none)) else (if a0_0 = 8 then (impl_uniformAfter.j0 k a1 false false a0_0 a0_1 a0_2 a0_3) else (impl_uniformAfter.j0 k a1 false (a0_0 != 13) a0_0 a0_1 a0_2 a0_3))))) = some r := h
 clear h
 replace H := Option.bind_eq_some_iff.mp H
 obtain ⟨t427, A30, H⟩ := H
 replace H : (if t427 < 0 then (some a1) else (if a0_0 = 1 then (if 0 ≤ a0_1 then (some (Go.bits .or .i64 a1 (shl .i64 1 a0_1))) else (none)) else (if a0_0 = 8 then (impl_uniformAfter.j0 k a1 false false a0_0 a0_1 a0_2 a0_3) else (impl_uniformAfter.j0 k a1 false (a0_0 != 13) a0_0 a0_1 a0_2 a0_3)))) = some r := H
 have A3 := Aside0.mk A30
 clear A30
 by_cases c4 : t427 < 0
 ·rw [if_pos c4] at H
  have c4b0 : decide (t427 < 0) = true := decide_eq_true c4
  clear c4
  obtain rfl := Option.some.inj H
  go_enter Tryz.func37, Tryz.ntmps37
  go_wp2_with (first | ((with_reducible refine gate_dst (N := 2) rfl ?_); refine box_event ?hg (N := 2) ?hd (cs := #[.int .i64 a0_0, .int .i64 a0_1, .int .i64 a0_2, .int .i64 a0_3]) (t := 38) ?hr ?_; (case hd => rfl); (case hg => rfl); (case hr => first | (go_simp; done) | (go_simp; rfl)); intro gb426 hg w5 hbox hb; have BK426 := Aside0.mk (hbox); have GW426 := Aside0.mk ((by rw [hg]; exact (below_size bw) : w.heap.size ≤ gb426)); have GE426 := Aside0.mk ((by rw [hg]; exact (below_size bw) : w.heap.size ≤ gb426)); replace HB := Aside0.mk (below_step bw hb); clear hb hbox hg; have hcz6_0 : w5.cell? ⟨gb426, 0, none⟩ = some (.int .i64 a0_0) := (blk_cell BK426.out 0).trans rfl; have hcz6_1 : w5.cell? ⟨gb426, 1, none⟩ = some (.int .i64 a0_1) := (blk_cell BK426.out 1).trans rfl; have hcz6_2 : w5.cell? ⟨gb426, 2, none⟩ = some (.int .i64 a0_2) := (blk_cell BK426.out 2).trans rfl; have hcz6_3 : w5.cell? ⟨gb426, 3, none⟩ = some (.int .i64 a0_3) := (blk_cell BK426.out 3).trans rfl; have hfz6_0 := blk_frozen BK426.out 0; have hfz6_1 := blk_frozen BK426.out 1; have hfz6_2 := blk_frozen BK426.out 2; have hfz6_3 := blk_frozen BK426.out 3) | ((with_reducible refine gate_callee (f := 61) rfl ?_); refine gL (some 8) Tryz.func61 #[.agg #[.int .i64 a0_0, .int .i64 a0_1, .int .i64 a0_2, .int .i64 a0_3]] ?_; (with_reducible refine (impl_WritesReg.calls a0_0 a0_1 a0_2 a0_3 t427 _ A3.out).mono ?_); rintro e w7 ⟨rfl, hb⟩; refine ⟨_, rfl, ?_⟩; replace BK426 := Aside0.mk (blk_below (g := gb426) (o := .cells #[.int .i64 a0_0, .int .i64 a0_1, .int .i64 a0_2, .int .i64 a0_3] 38 (0, 0)) (bS BK426.out) hb); replace HB := Aside0.mk (below_step bx hb); (try clear hb)))
  go_ret
  exact ⟨eR, bx⟩
 ·rw [if_neg c4] at H
  have c4b0 : decide (t427 < 0) = false := decide_eq_false c4
  clear c4
  by_cases c8 : a0_0 = 1
  ·rw [if_pos c8] at H
   have c8b0 : (a0_0 == 1) = true := beq_iff_eq.mpr c8
   have c8b1 : (a0_0 != 1) = false := bne_eq_false_iff_eq.mpr c8
   clear c8
   by_cases c9 : 0 ≤ a0_1
   ·rw [if_pos c9] at H
    have c9b0 := eq_true c9
    have c9b1 : decide (0 ≤ a0_1) = true := decide_eq_true c9
    clear c9
    obtain ⟨ji10, hji10⟩ : ∃ j_ : Int, (shl .i64 1 a0_1) = j_ := ⟨_, rfl⟩
    replace H : (some (Go.bits .or .i64 a1 (ji10))) = some r := by first | (rw [hji10] at H; exact H) | (simp only [hji10] at H ⊢; exact H)
    (try rw [hji10] at A3)
    have hji10_ : (IntKind.i64.wrap (1 * 2 ^ min a0_1.toNat 64)) = ji10 := hji10
    have hji10z : a0_1 ≤ 64 → (IntKind.i64.wrap (1 * 2 ^ a0_1.toNat)) = ji10 := shl_small hji10
    have hji10u : (IntKind.i64.wrap (2 ^ min a0_1.toNat 64)) = ji10 := by have h_ := hji10_; rw [Int.one_mul] at h_; exact h_
    have hji10v : a0_1 ≤ 64 → (IntKind.i64.wrap (2 ^ a0_1.toNat)) = ji10 := fun hle_ => by have h_ := hji10z hle_; rw [Int.one_mul] at h_; exact h_
    have hji10y : (wrap64 (1 * 2 ^ min a0_1.toNat 64)) = ji10 := (i64_w _).symm.trans hji10_
    have hji10x : a0_1 ≤ 64 → (wrap64 (1 * 2 ^ a0_1.toNat)) = ji10 := fun h_ => (i64_w _).symm.trans (hji10z h_)
    obtain rfl := Option.some.inj H
    go_enter Tryz.func37, Tryz.ntmps37
    go_wp2_with (first | ((with_reducible refine gate_dst (N := 2) rfl ?_); refine box_event ?hg (N := 2) ?hd (cs := #[.int .i64 a0_0, .int .i64 a0_1, .int .i64 a0_2, .int .i64 a0_3]) (t := 38) ?hr ?_; (case hd => rfl); (case hg => rfl); (case hr => first | (go_simp; done) | (go_simp; rfl)); intro gb426 hg w11 hbox hb; have BK426 := Aside0.mk (hbox); have GW426 := Aside0.mk ((by rw [hg]; exact (below_size bw) : w.heap.size ≤ gb426)); have GE426 := Aside0.mk ((by rw [hg]; exact (below_size bw) : w.heap.size ≤ gb426)); replace HB := Aside0.mk (below_step bw hb); clear hb hbox hg; have hcz12_0 : w11.cell? ⟨gb426, 0, none⟩ = some (.int .i64 a0_0) := (blk_cell BK426.out 0).trans rfl; have hcz12_1 : w11.cell? ⟨gb426, 1, none⟩ = some (.int .i64 a0_1) := (blk_cell BK426.out 1).trans rfl; have hcz12_2 : w11.cell? ⟨gb426, 2, none⟩ = some (.int .i64 a0_2) := (blk_cell BK426.out 2).trans rfl; have hcz12_3 : w11.cell? ⟨gb426, 3, none⟩ = some (.int .i64 a0_3) := (blk_cell BK426.out 3).trans rfl; have hfz12_0 := blk_frozen BK426.out 0; have hfz12_1 := blk_frozen BK426.out 1; have hfz12_2 := blk_frozen BK426.out 2; have hfz12_3 := blk_frozen BK426.out 3) | ((with_reducible refine gate_callee (f := 61) rfl ?_); refine gL (some 8) Tryz.func61 #[.agg #[.int .i64 a0_0, .int .i64 a0_1, .int .i64 a0_2, .int .i64 a0_3]] ?_; (with_reducible refine (impl_WritesReg.calls a0_0 a0_1 a0_2 a0_3 t427 _ A3.out).mono ?_); rintro e w13 ⟨rfl, hb⟩; refine ⟨_, rfl, ?_⟩; replace BK426 := Aside0.mk (blk_below (g := gb426) (o := .cells #[.int .i64 a0_0, .int .i64 a0_1, .int .i64 a0_2, .int .i64 a0_3] 38 (0, 0)) (bS BK426.out) hb); replace HB := Aside0.mk (below_step bx hb); (try clear hb); have hcz14_0 : w13.cell? ⟨gb426, 0, none⟩ = some (.int .i64 a0_0) := (blk_cell BK426.out 0).trans rfl; have hcz14_1 : w13.cell? ⟨gb426, 1, none⟩ = some (.int .i64 a0_1) := (blk_cell BK426.out 1).trans rfl; have hcz14_2 : w13.cell? ⟨gb426, 2, none⟩ = some (.int .i64 a0_2) := (blk_cell BK426.out 2).trans rfl; have hcz14_3 : w13.cell? ⟨gb426, 3, none⟩ = some (.int .i64 a0_3) := (blk_cell BK426.out 3).trans rfl; have hfz14_0 := blk_frozen BK426.out 0; have hfz14_1 := blk_frozen BK426.out 1; have hfz14_2 := blk_frozen BK426.out 2; have hfz14_3 := blk_frozen BK426.out 3))
    go_ret
    exact ⟨by first | rfl | (simp [errW_none, errW_some] <;> rfl) | (simp only [← hji10]; first | rfl | (simp [errW_none, errW_some] <;> rfl)) | (simp [*, errW_none, errW_some] <;> rfl), bx⟩
   ·rw [if_neg c9] at H
    exact absurd H (by simp)
  ·rw [if_neg c8] at H
   have c8b0 : (a0_0 == 1) = false := beq_eq_false_iff_ne.mpr c8
   have c8b1 : (a0_0 != 1) = true := bne_iff_ne.mpr c8
   have HC15 := Aside0.mk H
   clear H
   go_enter Tryz.func37, Tryz.ntmps37
   go_upto_region 6 with (first | ((with_reducible refine gate_dst (N := 2) rfl ?_); refine box_event ?hg (N := 2) ?hd (cs := #[.int .i64 a0_0, .int .i64 a0_1, .int .i64 a0_2, .int .i64 a0_3]) (t := 38) ?hr ?_; (case hd => rfl); (case hg => rfl); (case hr => first | (go_simp; done) | (go_simp; rfl)); intro gb426 hg w16 hbox hb; have BK426 := Aside0.mk (hbox); have GW426 := Aside0.mk ((by rw [hg]; exact (below_size bw) : w.heap.size ≤ gb426)); have GE426 := Aside0.mk ((by rw [hg]; exact (below_size bw) : w.heap.size ≤ gb426)); replace HB := Aside0.mk (below_step bw hb); clear hb hbox hg; have hcz17_0 : w16.cell? ⟨gb426, 0, none⟩ = some (.int .i64 a0_0) := (blk_cell BK426.out 0).trans rfl; have hcz17_1 : w16.cell? ⟨gb426, 1, none⟩ = some (.int .i64 a0_1) := (blk_cell BK426.out 1).trans rfl; have hcz17_2 : w16.cell? ⟨gb426, 2, none⟩ = some (.int .i64 a0_2) := (blk_cell BK426.out 2).trans rfl; have hcz17_3 : w16.cell? ⟨gb426, 3, none⟩ = some (.int .i64 a0_3) := (blk_cell BK426.out 3).trans rfl; have hfz17_0 := blk_frozen BK426.out 0; have hfz17_1 := blk_frozen BK426.out 1; have hfz17_2 := blk_frozen BK426.out 2; have hfz17_3 := blk_frozen BK426.out 3) | ((with_reducible refine gate_callee (f := 61) rfl ?_); refine gL (some 8) Tryz.func61 #[.agg #[.int .i64 a0_0, .int .i64 a0_1, .int .i64 a0_2, .int .i64 a0_3]] ?_; (with_reducible refine (impl_WritesReg.calls a0_0 a0_1 a0_2 a0_3 t427 _ A3.out).mono ?_); rintro e w18 ⟨rfl, hb⟩; refine ⟨_, rfl, ?_⟩; replace BK426 := Aside0.mk (blk_below (g := gb426) (o := .cells #[.int .i64 a0_0, .int .i64 a0_1, .int .i64 a0_2, .int .i64 a0_3] 38 (0, 0)) (bS BK426.out) hb); replace HB := Aside0.mk (below_step bx hb); (try clear hb); have hcz19_0 : w18.cell? ⟨gb426, 0, none⟩ = some (.int .i64 a0_0) := (blk_cell BK426.out 0).trans rfl; have hcz19_1 : w18.cell? ⟨gb426, 1, none⟩ = some (.int .i64 a0_1) := (blk_cell BK426.out 1).trans rfl; have hcz19_2 : w18.cell? ⟨gb426, 2, none⟩ = some (.int .i64 a0_2) := (blk_cell BK426.out 2).trans rfl; have hcz19_3 : w18.cell? ⟨gb426, 3, none⟩ = some (.int .i64 a0_3) := (blk_cell BK426.out 3).trans rfl; have hfz19_0 := blk_frozen BK426.out 0; have hfz19_1 := blk_frozen BK426.out 1; have hfz19_2 := blk_frozen BK426.out 2; have hfz19_3 := blk_frozen BK426.out 3))
   (try simp only [Act.put, List.setIfInBounds_toArray, List.set_cons_zero, List.set_cons_succ])
   go_cut [15] (fun v15 wc => ∃ (kq : Nat) (x15_14 : Bool), v15 = .bool x15_14 ∧ Aside0 (impl_uniformAfter.j0 kq a1 false x15_14 a0_0 a0_1 a0_2 a0_3 = some r) ∧ Aside0 (kq ≤ k) ∧ Aside0 (wc.heap[gb426]? = some (.cells #[.int .i64 a0_0, .int .i64 a0_1, .int .i64 a0_2, .int .i64 a0_3] 38 (0, 0))) ∧ Aside0 (Below w.heap.size w wc))
   case first =>
    have H := HC15.out
    clear HC15
    by_cases c20 : a0_0 = 8
    ·rw [if_pos c20] at H
     have c20b0 : (a0_0 == 8) = true := beq_iff_eq.mpr c20
     have c20b1 : (a0_0 != 8) = false := bne_eq_false_iff_eq.mpr c20
     clear c20
     (first | rw [c20b0] | (simp only [i64_w, i32_w]; rw [c20b0]) | skip)
     have H' := Aside0.mk H
     clear H
     have hcz21_0 : w18.cell? ⟨gb426, 0, none⟩ = some (.int .i64 a0_0) := (blk_cell BK426.out 0).trans rfl
     have hcz21_1 : w18.cell? ⟨gb426, 1, none⟩ = some (.int .i64 a0_1) := (blk_cell BK426.out 1).trans rfl
     have hcz21_2 : w18.cell? ⟨gb426, 2, none⟩ = some (.int .i64 a0_2) := (blk_cell BK426.out 2).trans rfl
     have hcz21_3 : w18.cell? ⟨gb426, 3, none⟩ = some (.int .i64 a0_3) := (blk_cell BK426.out 3).trans rfl
     have hfz21_0 := blk_frozen BK426.out 0
     have hfz21_1 := blk_frozen BK426.out 1
     have hfz21_2 := blk_frozen BK426.out 2
     have hfz21_3 := blk_frozen BK426.out 3
     go_wp2
     go_meet
     case rel => exact ⟨_, (false), tR, H', ⟨by first | omega | exact Nat.le_refl _⟩, ⟨bS BK426.out⟩, ⟨bx⟩⟩
    ·rw [if_neg c20] at H
     have c20b0 : (a0_0 == 8) = false := beq_eq_false_iff_ne.mpr c20
     have c20b1 : (a0_0 != 8) = true := bne_iff_ne.mpr c20
     (first | rw [c20b0] | (simp only [i64_w, i32_w]; rw [c20b0]) | skip)
     have H' := Aside0.mk H
     clear H
     have hcz22_0 : w18.cell? ⟨gb426, 0, none⟩ = some (.int .i64 a0_0) := (blk_cell BK426.out 0).trans rfl
     have hcz22_1 : w18.cell? ⟨gb426, 1, none⟩ = some (.int .i64 a0_1) := (blk_cell BK426.out 1).trans rfl
     have hcz22_2 : w18.cell? ⟨gb426, 2, none⟩ = some (.int .i64 a0_2) := (blk_cell BK426.out 2).trans rfl
     have hcz22_3 : w18.cell? ⟨gb426, 3, none⟩ = some (.int .i64 a0_3) := (blk_cell BK426.out 3).trans rfl
     have hfz22_0 := blk_frozen BK426.out 0
     have hfz22_1 := blk_frozen BK426.out 1
     have hfz22_2 := blk_frozen BK426.out 2
     have hfz22_3 := blk_frozen BK426.out 3
     go_wp2
     go_meet
     case rel => exact ⟨_, ((a0_0 != 13)), tR, H', ⟨by first | omega | exact Nat.le_refl _⟩, ⟨bS BK426.out⟩, ⟨bx⟩⟩
   case rest =>
    clear HC15
    try clear c2;try clear p2;try clear c3;try clear c4;try clear c4b0;try clear c6;try clear p6;try clear c8;try clear c8b0;try clear c8b1;try clear c9;try clear c9b0;try clear c9b1;try clear c20;try clear c20b0;try clear c20b1;try clear hcz12_0;try clear hcz12_1;try clear hcz12_2;try clear hcz12_3;try clear hcz14_0;try clear hcz14_1;try clear hcz14_2;try clear hcz14_3;try clear hcz17_0;try clear hcz17_1;try clear hcz17_2;try clear hcz17_3;try clear hcz19_0;try clear hcz19_1;try clear hcz19_2;try clear hcz19_3;try clear hcz21_0;try clear hcz21_1;try clear hcz21_2;try clear hcz21_3;try clear hcz22_0;try clear hcz22_1;try clear hcz22_2;try clear hcz22_3;try clear hcz6_0;try clear hcz6_1;try clear hcz6_2;try clear hcz6_3;try clear hfz12_0;try clear hfz12_1;try clear hfz12_2;try clear hfz12_3;try clear hfz14_0;try clear hfz14_1;try clear hfz14_2;try clear hfz14_3;try clear hfz17_0;try clear hfz17_1;try clear hfz17_2;try clear hfz17_3;try clear hfz19_0;try clear hfz19_1;try clear hfz19_2;try clear hfz19_3;try clear hfz21_0;try clear hfz21_1;try clear hfz21_2;try clear hfz21_3;try clear hfz22_0;try clear hfz22_1;try clear hfz22_2;try clear hfz22_3;try clear hfz6_0;try clear hfz6_1;try clear hfz6_2;try clear hfz6_3
    obtain ⟨kq, x15_14, rfl, HA, HJ14, BK426, HB⟩ := hcut
    cases kq with
    | zero => exact absurd HA.out (by simp [impl_uniformAfter.j0])
    | succ kj14 =>
     have H := HA.out
     clear HA
     simp only [impl_uniformAfter.j0] at H
     by_cases c23 : x15_14 = true
     ·subst c23
      have H1 : ((impl_ReadsRegs.f kj14 a0_0 a0_1 a0_2 a0_3).bind fun t428 => ((impl_hasAll.f a1 t428).bind fun t431 => (if t431 = true then (if 0 ≤ a0_1 then (some (Go.bits .or .i64 a1 (shl .i64 1 a0_1))) else (none)) else (if 0 ≤ a0_1 then (some (Go.bits .andNot .i64 a1 (shl .i64 1 a0_1))) else (none))))) = some r := by rw [if_pos rfl] at H; exact H
      clear H
      have H := H1
      clear H1
      replace H := Option.bind_eq_some_iff.mp H
      obtain ⟨t428, A240, H⟩ := H
      replace H : ((impl_hasAll.f a1 t428).bind fun t431 => (if t431 = true then (if 0 ≤ a0_1 then (some (Go.bits .or .i64 a1 (shl .i64 1 a0_1))) else (none)) else (if 0 ≤ a0_1 then (some (Go.bits .andNot .i64 a1 (shl .i64 1 a0_1))) else (none)))) = some r := H
      have A24 := Aside0.mk A240
      clear A240
      replace H := Option.bind_eq_some_iff.mp H
      obtain ⟨t431, A250, H⟩ := H
      replace H : (if t431 = true then (if 0 ≤ a0_1 then (some (Go.bits .or .i64 a1 (shl .i64 1 a0_1))) else (none)) else (if 0 ≤ a0_1 then (some (Go.bits .andNot .i64 a1 (shl .i64 1 a0_1))) else (none))) = some r := H
      have A25 := Aside0.mk A250
      clear A250
      by_cases c26 : t431 = true
      ·subst c26
       have H1 : (if 0 ≤ a0_1 then (some (Go.bits .or .i64 a1 (shl .i64 1 a0_1))) else (none)) = some r := by rw [if_pos rfl] at H; exact H
       clear H
       have H := H1
       clear H1
       by_cases c27 : 0 ≤ a0_1
       ·rw [if_pos c27] at H
        have c27b0 := eq_true c27
        have c27b1 : decide (0 ≤ a0_1) = true := decide_eq_true c27
        clear c27
        obtain ⟨ji28, hji28⟩ : ∃ j_ : Int, (shl .i64 1 a0_1) = j_ := ⟨_, rfl⟩
        replace H : (some (Go.bits .or .i64 a1 (ji28))) = some r := by first | (rw [hji28] at H; exact H) | (simp only [hji28] at H ⊢; exact H)
        (try rw [hji28] at A24)
        (try rw [hji28] at A25)
        have hji28_ : (IntKind.i64.wrap (1 * 2 ^ min a0_1.toNat 64)) = ji28 := hji28
        have hji28z : a0_1 ≤ 64 → (IntKind.i64.wrap (1 * 2 ^ a0_1.toNat)) = ji28 := shl_small hji28
        have hji28u : (IntKind.i64.wrap (2 ^ min a0_1.toNat 64)) = ji28 := by have h_ := hji28_; rw [Int.one_mul] at h_; exact h_
        have hji28v : a0_1 ≤ 64 → (IntKind.i64.wrap (2 ^ a0_1.toNat)) = ji28 := fun hle_ => by have h_ := hji28z hle_; rw [Int.one_mul] at h_; exact h_
        have hji28y : (wrap64 (1 * 2 ^ min a0_1.toNat 64)) = ji28 := (i64_w _).symm.trans hji28_
        have hji28x : a0_1 ≤ 64 → (wrap64 (1 * 2 ^ a0_1.toNat)) = ji28 := fun h_ => (i64_w _).symm.trans (hji28z h_)
        obtain rfl := Option.some.inj H
        have hcz29_0 : wc.cell? ⟨gb426, 0, none⟩ = some (.int .i64 a0_0) := (blk_cell BK426.out 0).trans rfl
        have hcz29_1 : wc.cell? ⟨gb426, 1, none⟩ = some (.int .i64 a0_1) := (blk_cell BK426.out 1).trans rfl
        have hcz29_2 : wc.cell? ⟨gb426, 2, none⟩ = some (.int .i64 a0_2) := (blk_cell BK426.out 2).trans rfl
        have hcz29_3 : wc.cell? ⟨gb426, 3, none⟩ = some (.int .i64 a0_3) := (blk_cell BK426.out 3).trans rfl
        have hfz29_0 := blk_frozen BK426.out 0
        have hfz29_1 := blk_frozen BK426.out 1
        have hfz29_2 := blk_frozen BK426.out 2
        have hfz29_3 := blk_frozen BK426.out 3
        go_wp2_with (first | ((with_reducible refine gate_callee (f := 63) rfl ?_); refine gL (some 26) Tryz.func63 #[.agg #[.int .i64 a0_0, .int .i64 a0_1, .int .i64 a0_2, .int .i64 a0_3]] ?_; (with_reducible refine (impl_ReadsRegs.calls kj14 a0_0 a0_1 a0_2 a0_3 t428 _ A24.out).mono ?_); rintro e w30 ⟨v429, rfl, ho0, hb⟩; refine ⟨_, rfl, ?_⟩; have HO430 := Aside0.mk (Kd.R_lower ho0 (below_size bx)); replace BK426 := Aside0.mk (blk_below (g := gb426) (o := .cells #[.int .i64 a0_0, .int .i64 a0_1, .int .i64 a0_2, .int .i64 a0_3] 38 (0, 0)) (bS BK426.out) hb); replace HB := Aside0.mk (below_step bx hb); (try clear hb); (try clear ho0); obtain ⟨Ao31, co31, eo31⟩ := Kd.R_slice HO430.out; subst eo31) | ((with_reducible refine gate_callee (f := 62) rfl ?_); refine gL (some 27) Tryz.func62 #[.int .i64 a1, .slice Ao31 t428.length co31] ?_; (with_reducible refine (impl_hasAll.calls a1 _ _ t428 true _ ?side1 ?side2 A25.out).mono ?_); (case side1 => exact cS (Kd.R_reads' HO430.out).2.2); (case side2 => exact (Kd.R_reads' HO430.out).2.1); rintro e w32 ⟨rfl, hb⟩; refine ⟨_, rfl, ?_⟩; replace HO430 := Aside0.mk (Kd.R_below (rS HO430.out) hb); replace BK426 := Aside0.mk (blk_below (g := gb426) (o := .cells #[.int .i64 a0_0, .int .i64 a0_1, .int .i64 a0_2, .int .i64 a0_3] 38 (0, 0)) (bS BK426.out) hb); replace HB := Aside0.mk (below_step bx hb); (try clear hb); have hcz33_0 : w32.cell? ⟨gb426, 0, none⟩ = some (.int .i64 a0_0) := (blk_cell BK426.out 0).trans rfl; have hcz33_1 : w32.cell? ⟨gb426, 1, none⟩ = some (.int .i64 a0_1) := (blk_cell BK426.out 1).trans rfl; have hcz33_2 : w32.cell? ⟨gb426, 2, none⟩ = some (.int .i64 a0_2) := (blk_cell BK426.out 2).trans rfl; have hcz33_3 : w32.cell? ⟨gb426, 3, none⟩ = some (.int .i64 a0_3) := (blk_cell BK426.out 3).trans rfl; have hfz33_0 := blk_frozen BK426.out 0; have hfz33_1 := blk_frozen BK426.out 1; have hfz33_2 := blk_frozen BK426.out 2; have hfz33_3 := blk_frozen BK426.out 3))
        go_ret
        exact ⟨by first | rfl | (simp [errW_none, errW_some] <;> rfl) | (simp only [← hji28]; first | rfl | (simp [errW_none, errW_some] <;> rfl)) | (simp [*, errW_none, errW_some] <;> rfl), bx⟩
       ·rw [if_neg c27] at H
        exact absurd H (by simp)
      ·replace c26 := Bool.eq_false_iff.mpr c26
       subst c26
       have H1 : (if 0 ≤ a0_1 then (some (Go.bits .andNot .i64 a1 (shl .i64 1 a0_1))) else (none)) = some r := by rw [if_neg (show ¬ (false = true) by decide)] at H; exact H
       clear H
       have H := H1
       clear H1
       by_cases c34 : 0 ≤ a0_1
       ·rw [if_pos c34] at H
        have c34b0 := eq_true c34
        have c34b1 : decide (0 ≤ a0_1) = true := decide_eq_true c34
        clear c34
        obtain ⟨ji35, hji35⟩ : ∃ j_ : Int, (shl .i64 1 a0_1) = j_ := ⟨_, rfl⟩
        replace H : (some (Go.bits .andNot .i64 a1 (ji35))) = some r := by first | (rw [hji35] at H; exact H) | (simp only [hji35] at H ⊢; exact H)
        (try rw [hji35] at A24)
        (try rw [hji35] at A25)
        have hji35_ : (IntKind.i64.wrap (1 * 2 ^ min a0_1.toNat 64)) = ji35 := hji35
        have hji35z : a0_1 ≤ 64 → (IntKind.i64.wrap (1 * 2 ^ a0_1.toNat)) = ji35 := shl_small hji35
        have hji35u : (IntKind.i64.wrap (2 ^ min a0_1.toNat 64)) = ji35 := by have h_ := hji35_; rw [Int.one_mul] at h_; exact h_
        have hji35v : a0_1 ≤ 64 → (IntKind.i64.wrap (2 ^ a0_1.toNat)) = ji35 := fun hle_ => by have h_ := hji35z hle_; rw [Int.one_mul] at h_; exact h_
        have hji35y : (wrap64 (1 * 2 ^ min a0_1.toNat 64)) = ji35 := (i64_w _).symm.trans hji35_
        have hji35x : a0_1 ≤ 64 → (wrap64 (1 * 2 ^ a0_1.toNat)) = ji35 := fun h_ => (i64_w _).symm.trans (hji35z h_)
        obtain rfl := Option.some.inj H
        have hcz36_0 : wc.cell? ⟨gb426, 0, none⟩ = some (.int .i64 a0_0) := (blk_cell BK426.out 0).trans rfl
        have hcz36_1 : wc.cell? ⟨gb426, 1, none⟩ = some (.int .i64 a0_1) := (blk_cell BK426.out 1).trans rfl
        have hcz36_2 : wc.cell? ⟨gb426, 2, none⟩ = some (.int .i64 a0_2) := (blk_cell BK426.out 2).trans rfl
        have hcz36_3 : wc.cell? ⟨gb426, 3, none⟩ = some (.int .i64 a0_3) := (blk_cell BK426.out 3).trans rfl
        have hfz36_0 := blk_frozen BK426.out 0
        have hfz36_1 := blk_frozen BK426.out 1
        have hfz36_2 := blk_frozen BK426.out 2
        have hfz36_3 := blk_frozen BK426.out 3
        go_wp2_with (first | ((with_reducible refine gate_callee (f := 63) rfl ?_); refine gL (some 26) Tryz.func63 #[.agg #[.int .i64 a0_0, .int .i64 a0_1, .int .i64 a0_2, .int .i64 a0_3]] ?_; (with_reducible refine (impl_ReadsRegs.calls kj14 a0_0 a0_1 a0_2 a0_3 t428 _ A24.out).mono ?_); rintro e w37 ⟨v429, rfl, ho0, hb⟩; refine ⟨_, rfl, ?_⟩; have HO430 := Aside0.mk (Kd.R_lower ho0 (below_size bx)); replace BK426 := Aside0.mk (blk_below (g := gb426) (o := .cells #[.int .i64 a0_0, .int .i64 a0_1, .int .i64 a0_2, .int .i64 a0_3] 38 (0, 0)) (bS BK426.out) hb); replace HB := Aside0.mk (below_step bx hb); (try clear hb); (try clear ho0); obtain ⟨Ao38, co38, eo38⟩ := Kd.R_slice HO430.out; subst eo38) | ((with_reducible refine gate_callee (f := 62) rfl ?_); refine gL (some 27) Tryz.func62 #[.int .i64 a1, .slice Ao38 t428.length co38] ?_; (with_reducible refine (impl_hasAll.calls a1 _ _ t428 false _ ?side1 ?side2 A25.out).mono ?_); (case side1 => exact cS (Kd.R_reads' HO430.out).2.2); (case side2 => exact (Kd.R_reads' HO430.out).2.1); rintro e w39 ⟨rfl, hb⟩; refine ⟨_, rfl, ?_⟩; replace HO430 := Aside0.mk (Kd.R_below (rS HO430.out) hb); replace BK426 := Aside0.mk (blk_below (g := gb426) (o := .cells #[.int .i64 a0_0, .int .i64 a0_1, .int .i64 a0_2, .int .i64 a0_3] 38 (0, 0)) (bS BK426.out) hb); replace HB := Aside0.mk (below_step bx hb); (try clear hb); have hcz40_0 : w39.cell? ⟨gb426, 0, none⟩ = some (.int .i64 a0_0) := (blk_cell BK426.out 0).trans rfl; have hcz40_1 : w39.cell? ⟨gb426, 1, none⟩ = some (.int .i64 a0_1) := (blk_cell BK426.out 1).trans rfl; have hcz40_2 : w39.cell? ⟨gb426, 2, none⟩ = some (.int .i64 a0_2) := (blk_cell BK426.out 2).trans rfl; have hcz40_3 : w39.cell? ⟨gb426, 3, none⟩ = some (.int .i64 a0_3) := (blk_cell BK426.out 3).trans rfl; have hfz40_0 := blk_frozen BK426.out 0; have hfz40_1 := blk_frozen BK426.out 1; have hfz40_2 := blk_frozen BK426.out 2; have hfz40_3 := blk_frozen BK426.out 3))
        go_ret
        exact ⟨by first | rfl | (simp [errW_none, errW_some] <;> rfl) | (simp only [← hji35]; first | rfl | (simp [errW_none, errW_some] <;> rfl)) | (simp [*, errW_none, errW_some] <;> rfl), bx⟩
       ·rw [if_neg c34] at H
        exact absurd H (by simp)
     ·replace c23 := Bool.eq_false_iff.mpr c23
      subst c23
      have H1 : (if false = true then (if 0 ≤ a0_1 then (some (Go.bits .or .i64 a1 (shl .i64 1 a0_1))) else (none)) else (if 0 ≤ a0_1 then (some (Go.bits .andNot .i64 a1 (shl .i64 1 a0_1))) else (none))) = some r := by rw [if_neg (show ¬ (false = true) by decide)] at H; exact H
      clear H
      have H := H1
      clear H1
      by_cases c41 : false = true
      ·exact absurd c41 (by decide)
      ·skip
       have H1 : (if 0 ≤ a0_1 then (some (Go.bits .andNot .i64 a1 (shl .i64 1 a0_1))) else (none)) = some r := by rw [if_neg (show ¬ (false = true) by decide)] at H; exact H
       clear H
       have H := H1
       clear H1
       by_cases c45 : 0 ≤ a0_1
       ·rw [if_pos c45] at H
        have c45b0 := eq_true c45
        have c45b1 : decide (0 ≤ a0_1) = true := decide_eq_true c45
        clear c45
        obtain ⟨ji46, hji46⟩ : ∃ j_ : Int, (shl .i64 1 a0_1) = j_ := ⟨_, rfl⟩
        replace H : (some (Go.bits .andNot .i64 a1 (ji46))) = some r := by first | (rw [hji46] at H; exact H) | (simp only [hji46] at H ⊢; exact H)
        have hji46_ : (IntKind.i64.wrap (1 * 2 ^ min a0_1.toNat 64)) = ji46 := hji46
        have hji46z : a0_1 ≤ 64 → (IntKind.i64.wrap (1 * 2 ^ a0_1.toNat)) = ji46 := shl_small hji46
        have hji46u : (IntKind.i64.wrap (2 ^ min a0_1.toNat 64)) = ji46 := by have h_ := hji46_; rw [Int.one_mul] at h_; exact h_
        have hji46v : a0_1 ≤ 64 → (IntKind.i64.wrap (2 ^ a0_1.toNat)) = ji46 := fun hle_ => by have h_ := hji46z hle_; rw [Int.one_mul] at h_; exact h_
        have hji46y : (wrap64 (1 * 2 ^ min a0_1.toNat 64)) = ji46 := (i64_w _).symm.trans hji46_
        have hji46x : a0_1 ≤ 64 → (wrap64 (1 * 2 ^ a0_1.toNat)) = ji46 := fun h_ => (i64_w _).symm.trans (hji46z h_)
        obtain rfl := Option.some.inj H
        have hcz47_0 : wc.cell? ⟨gb426, 0, none⟩ = some (.int .i64 a0_0) := (blk_cell BK426.out 0).trans rfl
        have hcz47_1 : wc.cell? ⟨gb426, 1, none⟩ = some (.int .i64 a0_1) := (blk_cell BK426.out 1).trans rfl
        have hcz47_2 : wc.cell? ⟨gb426, 2, none⟩ = some (.int .i64 a0_2) := (blk_cell BK426.out 2).trans rfl
        have hcz47_3 : wc.cell? ⟨gb426, 3, none⟩ = some (.int .i64 a0_3) := (blk_cell BK426.out 3).trans rfl
        have hfz47_0 := blk_frozen BK426.out 0
        have hfz47_1 := blk_frozen BK426.out 1
        have hfz47_2 := blk_frozen BK426.out 2
        have hfz47_3 := blk_frozen BK426.out 3
        go_wp2
        go_ret
        exact ⟨by first | rfl | (simp [errW_none, errW_some] <;> rfl) | (simp only [← hji46]; first | rfl | (simp [errW_none, errW_some] <;> rfl)) | (simp [*, errW_none, errW_some] <;> rfl), bx⟩
       ·rw [if_neg c45] at H
        exact absurd H (by simp)

/-! ### impl_reached: function 67 -/
def reachI (l0 : List S38) (wo : Int) : Nat → List Bool → List Int → Option (List Bool)
  | 0, _, _ => none
  | _ + 1, out, [] => some out
  | k + 1, out, x :: t => if x = wo then reachI l0 wo k out t else if 0 ≤ x ∧ x < (out.length : Int) then (if rdOf false out x = true then reachI l0 wo k out t else (impl_next.f k l0 x).bind fun ns => if (t.length + ns.length) * 8 ≤ 140737488355328 then reachI l0 wo k (out.set x.toNat true) (t ++ ns) else none) else none
theorem reachI_mono (l0 : List S38) (wo : Int) : ∀ k out t, LeO (reachI l0 wo k out t) (reachI l0 wo (k + 1) out t)
  | 0, out, t => fun r h => by simp [reachI] at h
  | k + 1, out, [] => LeO.refl _
  | k + 1, out, x :: t => by
    rw [reachI, reachI]
    refine LeO.ite (reachI_mono l0 wo k _ _) (LeO.ite (LeO.ite (reachI_mono l0 wo k _ _) (LeO.bind (impl_next.mono _ _ _) fun _ => LeO.ite (reachI_mono l0 wo k _ _) (LeO.none _))) (LeO.none _))
def impl_reached.f (k : Nat) (l0 : List S38) (l1 : List Int) (a2 : Int) : Option (List Bool) := if l0.length ≤ 1048576 then (slices_Clone_int_int.f l1).bind fun t => reachI l0 a2 k (List.replicate (l0.length + 1) false) t else none
theorem impl_reached.mono : ∀ a0 a1 a2 k, LeO (impl_reached.f k a0 a1 a2) (impl_reached.f (k + 1) a0 a1 a2) := by
  intro a0 a1 a2 k
  unfold impl_reached.f
  exact LeO.ite (LeO.bind (LeO.refl _) fun _ => reachI_mono _ _ _ _ _) (LeO.none _)
set_option maxHeartbeats 4000000 in
set_option maxRecDepth 100000 in
theorem impl_reached.calls (k : Nat) (A0 : Option Addr) (c0 : Nat) (l0 : List S38) (A1 : Option Addr) (c1 : Nat) (l1 : List Int) (a2 : Int) (r : List Bool) (w : World) (hr0 : Kd.C k38 w A0 l0.length l0) (hc0 : l0.length ≤ c0) (hr1 : Kd.C (Kd.int .i64) w A1 l1.length l1) (hc1 : l1.length ≤ c1) (h : impl_reached.f k l0 l1 a2 = some r) :
    Calls Tryz.prog 67 #[.slice A0 l0.length c0, .slice A1 l1.length c1, .int .i64 a2] w fun e w' => ∃ v0_ : Value, e = .returned (v0_) ∧ Kd.R Kd.bool 4 w' w.heap.size (fun _ => True) v0_ r ∧ Below w.heap.size w w' := by
  unfold impl_reached.f at h
  by_cases h20 : ¬ l0.length ≤ 1048576
  · rw [if_neg h20] at h; exact absurd h (by simp)
  replace h20 := Decidable.not_not.1 h20
  rw [if_pos h20] at h
  obtain ⟨t, ht, h⟩ := Option.bind_eq_some_iff.mp h
  have HT := Aside0.mk ht
  have HL := Aside0.mk h
  have HR0 := Aside0.mk hr0
  have HC0 := Aside0.mk hc0
  have HR1 := Aside0.mk hr1
  have HC1 := Aside0.mk hc1
  clear ht h hr0 hc0 hr1 hc1
  have hw1 : IntKind.i64.wrap ((l0.length : Int) + 1) = (l0.length : Int) + 1 := by rw [i64_w]; unfold wrap64; omega
  have hn1 : ((l0.length : Int) + 1).toNat = l0.length + 1 := by omega
  go_enter Tryz.func67, Tryz.ntmps67
  go_wp2_with (first
    | ((with_reducible refine gate_dst (N := 13) rfl ?_); refine Kd.R_make Kd.bool _ 4 rfl (N := 13) rfl 57 _ _ rfl ((l0.length : Int) + 1) rfl rfl Tryz.underlying57 (.bool false) 1 info4 rfl (by decide) (by omega) false (ok := fun _ => True) (okp := fun _ => True) rfl (fun _ hk => hk) trivial (by omega) (by omega) (Below.refl _ _) (Nat.le_refl _) ?_; intro v1 w1 ho1 hb1 _ _; rw [hn1] at ho1; obtain ⟨go, co, eo, hgo, _, _⟩ := Kd.R_form ho1 (by simp); rw [List.length_replicate] at eo; subst eo; have HO := Aside0.mk ho1; have HG := Aside0.mk hgo; have HB := Aside0.mk hb1; clear ho1 hb1 hgo)
    | (go_at_call 36; (with_reducible refine (slices_Clone_int_int.calls A1 c1 l1 t _ (Kd.C_below HR1.out HB.out) HC1.out HT.out).mono ?_); rintro e w2 ⟨v2, rfl, ho2, hb2⟩; have HQ := Aside0.mk (Kd.Q_of_R (Kd.R_lower ho2 (below_size HB.out))); have HO2 := Aside0.mk (Kd.R_below HO.out hb2); have HB2 := Aside0.mk (below_step HB.out hb2); clear ho2 hb2))
  go_loopg [8, 9] k (fun kq v8 _ wr => ∃ (out : List Bool) (todo : List Int), out.length = l0.length + 1 ∧ Aside0 (reachI l0 a2 kq out todo = some r) ∧ Aside0 (Kd.R Kd.bool 4 wr w.heap.size (fun _ => True) (.slice (some ⟨go, 0, none⟩) (l0.length + 1) co) out) ∧ Aside0 (Kd.Q (Kd.int .i64) 3 wr w.heap.size (fun _ => True) v8 todo) ∧ Aside0 (Below w.heap.size w wr))
  case atStart => exact ⟨_, t, List.length_replicate .., HL, ⟨HO2.out⟩, ⟨HQ.out⟩, ⟨HB2.out⟩⟩
  case round =>
    clear HL HT HO2 HQ HB2 HO HB
    obtain ⟨out, todo, hol, HA, HO, HQ, HB⟩ := hrel
    cases gk with
    | zero => exact absurd HA.out (by simp [reachI])
    | succ k1 =>
      obtain ⟨A8, c8, e8, _⟩ := Kd.Q_slice HQ.out
      subst e8
      cases todo with
      | nil =>
        obtain rfl := Option.some.inj HA.out
        go_wp2
        go_ret
        exact ⟨_, rfl, HO.out, HB.out⟩
      | cons x t =>
        have hpos : decide (((t.length + 1 : Nat) : Int) > 0) = true := decide_eq_true (by omega)
        obtain ⟨ad, ea, hx⟩ := Kd.at_int (Kd.Q_reads' HQ.out).2.2 0 (by omega) (by simp)
        subst ea
        rw [show (0 : Int).toNat = 0 from rfl, Addr.add_zero'] at hx
        replace hx : wr.cell? ad = some (Value.int .i64 x) := hx
        have hq9 : (c8 = 1 ∧ Kd.Q (Kd.int .i64) 3 wr w.heap.size (fun _ => True) (.slice (some ad) t.length 0) t) ∨ (¬ c8 = 1 ∧ Kd.Q (Kd.int .i64) 3 wr w.heap.size (fun _ => True) (.slice (some (ad.add 1)) t.length (c8 - 1)) t) := by
          have hq := Kd.Q_drop (k := 1) HQ.out (by simp)
          by_cases hc : c8 = 1
          · subst hc; exact .inl ⟨rfl, hq⟩
          · rw [if_neg hc] at hq; exact .inr ⟨hc, hq⟩
        have HOL := Aside0.mk hol
        have H := HA.out
        clear HA
        rw [reachI] at H
        rcases hq9 with ⟨hc, hq9⟩ | ⟨hc, hq9⟩
        · subst hc
          have HQ9 := Aside0.mk hq9
          clear hq9
          by_cases e1 : x = a2
          · rw [if_pos e1] at H
            have HF := Aside0.mk H
            have b1 : (x == a2) = true := beq_iff_eq.mpr e1
            clear e1 H hol
            go_wp2
            go_roundg k1
            case measure => omega
            case rel => exact ⟨out, t, HOL.out, HF, ⟨HO.out⟩, ⟨HQ9.out⟩, ⟨HB.out⟩⟩
          · rw [if_neg e1] at H
            have b1 : (x == a2) = false := beq_eq_false_iff_ne.mpr e1
            clear e1
            by_cases hr : 0 ≤ x ∧ x < (out.length : Int)
            · rw [if_pos hr] at H
              rw [hol] at hr
              obtain ⟨hm, hf⟩ := Kd.R_celln false HO.out x hr.1 hr.2
              have q1 : decide (0 ≤ x) = true := decide_eq_true hr.1
              have q2 : decide (x < ((l0.length + 1 : Nat) : Int)) = true := decide_eq_true hr.2
              have q3 : decide (x < (l0.length : Int) + 1) = true := decide_eq_true (by omega)
              have q4 : 0 ≤ x := hr.1
              have q5 : x < (l0.length : Int) + 1 := by omega
              clear hr hol
              by_cases hv : rdOf false out x = true
              · rw [if_pos hv] at H
                have HF := Aside0.mk H
                rw [hv] at hm
                clear hv H
                go_wp2
                go_roundg k1
                case measure => omega
                case rel => exact ⟨out, t, HOL.out, HF, ⟨HO.out⟩, ⟨HQ9.out⟩, ⟨HB.out⟩⟩
              · rw [if_neg hv] at H
                replace hv : rdOf false out x = false := by simpa using hv
                rw [hv] at hm
                clear hv
                obtain ⟨ns, hns, H⟩ := Option.bind_eq_some_iff.mp H
                have HN := Aside0.mk hns
                clear hns
                by_cases hlen : (t.length + ns.length) * 8 ≤ 140737488355328
                · rw [if_pos hlen] at H
                  have HF := Aside0.mk H
                  have HLEN := Aside0.mk hlen
                  clear H hlen
                  have HP := Aside0.mk (Kd.R_putg HO.out x true)
                  have HS := Aside0.mk (below_set (j := x.toNat) (v := .bool true) HB.out HG.out)
                  have HQ3 := Aside0.mk (Kd.Q_over' HQ9.out (Kd.R_typed HO.out) (by decide) HP.out.2)
                  go_wp2_with (first
                    | (go_at_call 38; (with_reducible refine (impl_next.calls k1 A0 c0 l0 x ns _ (Kd.C_below HR0.out HS.out) HC0.out HN.out).mono ?_); rintro e w4 ⟨v4, rfl, ho4, hb4⟩; obtain ⟨A4, c4, e4⟩ := Kd.R_slice ho4; subst e4; have HQ4 := Aside0.mk (Kd.Q_below HQ3.out hb4); have HO4 := Aside0.mk (Kd.R_below HP.out.1 hb4); have HB4 := Aside0.mk (below_step HS.out hb4); have HN4 := Aside0.mk (Kd.R_reads' ho4).2.2; clear ho4 hb4)
                    | ((with_reducible refine gate_builtin (b := .append) (xs := #[.tmp 36, .tmp 39]) rfl ?_); at_builtin; refine Q_app (w0 := w) w.heap.size rfl (.tmp 36) (.tmp 39) rfl _ t ns A4 ns.length c4 (fun _ => True) rfl rfl HQ4.out HN4.out (fun _ _ => trivial) HB4.out (below_size HB4.out) HLEN.out ?_; intro v5 w5 hq5 hb5 hg5; have HO5 := Aside0.mk (Kd.R_over' HO4.out (Kd.Q_typed HQ4.out) (by decide) hg5); have HQ5 := Aside0.mk hq5; have HB5 := Aside0.mk hb5; clear hq5 hb5 hg5))
                  go_roundg k1
                  case measure => omega
                  case rel => exact ⟨out.set x.toNat true, t ++ ns, by rw [List.length_set]; exact HOL.out, HF, ⟨HO5.out⟩, ⟨HQ5.out⟩, ⟨HB5.out⟩⟩
                · rw [if_neg hlen] at H
                  exact absurd H (by simp)
            · rw [if_neg hr] at H
              exact absurd H (by simp)
        · have HQ9 := Aside0.mk hq9
          clear hq9
          by_cases e1 : x = a2
          · rw [if_pos e1] at H
            have HF := Aside0.mk H
            have b1 : (x == a2) = true := beq_iff_eq.mpr e1
            clear e1 H hol
            go_wp2
            go_roundg k1
            case measure => omega
            case rel => exact ⟨out, t, HOL.out, HF, ⟨HO.out⟩, ⟨HQ9.out⟩, ⟨HB.out⟩⟩
          · rw [if_neg e1] at H
            have b1 : (x == a2) = false := beq_eq_false_iff_ne.mpr e1
            clear e1
            by_cases hr : 0 ≤ x ∧ x < (out.length : Int)
            · rw [if_pos hr] at H
              rw [hol] at hr
              obtain ⟨hm, hf⟩ := Kd.R_celln false HO.out x hr.1 hr.2
              have q1 : decide (0 ≤ x) = true := decide_eq_true hr.1
              have q2 : decide (x < ((l0.length + 1 : Nat) : Int)) = true := decide_eq_true hr.2
              have q3 : decide (x < (l0.length : Int) + 1) = true := decide_eq_true (by omega)
              have q4 : 0 ≤ x := hr.1
              have q5 : x < (l0.length : Int) + 1 := by omega
              clear hr hol
              by_cases hv : rdOf false out x = true
              · rw [if_pos hv] at H
                have HF := Aside0.mk H
                rw [hv] at hm
                clear hv H
                go_wp2
                go_roundg k1
                case measure => omega
                case rel => exact ⟨out, t, HOL.out, HF, ⟨HO.out⟩, ⟨HQ9.out⟩, ⟨HB.out⟩⟩
              · rw [if_neg hv] at H
                replace hv : rdOf false out x = false := by simpa using hv
                rw [hv] at hm
                clear hv
                obtain ⟨ns, hns, H⟩ := Option.bind_eq_some_iff.mp H
                have HN := Aside0.mk hns
                clear hns
                by_cases hlen : (t.length + ns.length) * 8 ≤ 140737488355328
                · rw [if_pos hlen] at H
                  have HF := Aside0.mk H
                  have HLEN := Aside0.mk hlen
                  clear H hlen
                  have HP := Aside0.mk (Kd.R_putg HO.out x true)
                  have HS := Aside0.mk (below_set (j := x.toNat) (v := .bool true) HB.out HG.out)
                  have HQ3 := Aside0.mk (Kd.Q_over' HQ9.out (Kd.R_typed HO.out) (by decide) HP.out.2)
                  go_wp2_with (first
                    | (go_at_call 38; (with_reducible refine (impl_next.calls k1 A0 c0 l0 x ns _ (Kd.C_below HR0.out HS.out) HC0.out HN.out).mono ?_); rintro e w4 ⟨v4, rfl, ho4, hb4⟩; obtain ⟨A4, c4, e4⟩ := Kd.R_slice ho4; subst e4; have HQ4 := Aside0.mk (Kd.Q_below HQ3.out hb4); have HO4 := Aside0.mk (Kd.R_below HP.out.1 hb4); have HB4 := Aside0.mk (below_step HS.out hb4); have HN4 := Aside0.mk (Kd.R_reads' ho4).2.2; clear ho4 hb4)
                    | ((with_reducible refine gate_builtin (b := .append) (xs := #[.tmp 36, .tmp 39]) rfl ?_); at_builtin; refine Q_app (w0 := w) w.heap.size rfl (.tmp 36) (.tmp 39) rfl _ t ns A4 ns.length c4 (fun _ => True) rfl rfl HQ4.out HN4.out (fun _ _ => trivial) HB4.out (below_size HB4.out) HLEN.out ?_; intro v5 w5 hq5 hb5 hg5; have HO5 := Aside0.mk (Kd.R_over' HO4.out (Kd.Q_typed HQ4.out) (by decide) hg5); have HQ5 := Aside0.mk hq5; have HB5 := Aside0.mk hb5; clear hq5 hb5 hg5))
                  go_roundg k1
                  case measure => omega
                  case rel => exact ⟨out.set x.toNat true, t ++ ns, by rw [List.length_set]; exact HOL.out, HF, ⟨HO5.out⟩, ⟨HQ5.out⟩, ⟨HB5.out⟩⟩
                · rw [if_neg hlen] at H
                  exact absurd H (by simp)
            · rw [if_neg hr] at H
              exact absurd H (by simp)

/-! ### impl_reachesExit: function 68 -/
def impl_reachesExit.f (k : Nat) (l0 : List (S38)) (a1 : Int) : Option (Bool) := (impl_reached.f k l0 (([a1] : List Int)) (-1)).bind fun t435 => (if 0 ≤ (l0.length : Int) then (if (l0.length : Int) < (t435.length : Int) then (some (rdOf false t435 (l0.length : Int))) else (none)) else (none))
theorem impl_reachesExit.mono : ∀ a0 a1 k, LeO (impl_reachesExit.f k a0 a1) (impl_reachesExit.f (k + 1) a0 a1) := by
 intro a0 a1 k
 unfold impl_reachesExit.f
 repeat' first
   | (with_reducible exact impl_reached.mono _ _ _ _)
   | (with_reducible exact LeO.refl _)
   | (with_reducible exact LeO.none _)
   | (with_reducible refine LeO.ite ?_ ?_)
   | (with_reducible refine LeO.bind ?_ (fun _ => ?_))
   | exact impl_reached.mono _ _ _ _
   | exact LeO.none _
   | refine LeO.ite ?_ ?_
   | refine LeO.bind ?_ (fun _ => ?_)
set_option maxHeartbeats 8000000 in
set_option maxRecDepth 100000 in
theorem impl_reachesExit.calls (k : Nat) (A0 : Option Addr) (c0 : Nat) (l0 : List (S38)) (a1 : Int) (r : Bool) (w : World) (hr0 : Kd.C k38 w A0 l0.length l0) (hc0 : l0.length ≤ c0) (h : impl_reachesExit.f k l0 a1 = some r) :
  Calls Tryz.prog 68 #[.slice A0 l0.length c0, .int .i64 a1] w fun e w' => e = .returned (.bool r) ∧ Below w.heap.size w w' := by
 have HR0 := Aside0.mk hr0
 have HC0 := Aside0.mk hc0
 clear hr0 hc0
 have HB := Aside0.mk (Below.refl w.heap.size w)
 have H : ((impl_reached.f k l0 (([a1] : List Int)) (-1)).bind fun t435 => (if 0 ≤ (l0.length : Int) then (if (l0.length : Int) < (t435.length : Int) then (some (rdOf false t435 (l0.length : Int))) else (none)) else (none))) = some r := h
 clear h
 obtain ⟨y432, hy432⟩ : ∃ y_ : List Int, y_ = (([a1] : List Int)) := ⟨_, rfl⟩
 replace H : ((impl_reached.f k l0 y432 (-1)).bind fun t435 => (if 0 ≤ (l0.length : Int) then (if (l0.length : Int) < (t435.length : Int) then (some (rdOf false t435 (l0.length : Int))) else (none)) else (none))) = some r := rP hy432 H
 have Ny432 := Aside0.mk hy432
 clear hy432
 replace H := Option.bind_eq_some_iff.mp H
 obtain ⟨t435, A30, H⟩ := H
 replace H : (if 0 ≤ (l0.length : Int) then (if (l0.length : Int) < (t435.length : Int) then (some (rdOf false t435 (l0.length : Int))) else (none)) else (none)) = some r := H
 have A3 := Aside0.mk A30
 clear A30
 by_cases c4 : 0 ≤ (l0.length : Int)
 ·rw [if_pos c4] at H
  have c4b0 : decide (0 ≤ (l0.length : Int)) = true := decide_eq_true c4
  have c4b1 : decide (0 ≤ l0.length) = true := decide_eq_true (by omega)
  clear c4
  by_cases c5 : (l0.length : Int) < (t435.length : Int)
  ·rw [if_pos c5] at H
   have c5b0 : decide ((l0.length : Int) < (t435.length : Int)) = true := decide_eq_true c5
   have c5b1 : decide (l0.length < t435.length) = true := decide_eq_true (Int.ofNat_lt.mp c5)
   clear c5
   obtain rfl := Option.some.inj H
   go_enter Tryz.func68, Tryz.ntmps68
   go_wp2_with (first | ((with_reducible refine gate_dst (N := 7) rfl ?_); refine Kd.R_lit (Kd.int .i64) _ 3 ?hg (N := 7) ?hd (xs := ([a1] : List Int)) (inner := [.int .i64 a1]) (ok := fun _ => True) (okp := fun _ => True) ?hr ?hp (fun _ hk => hk) trivial (Below.refl _ _) (Nat.le_refl _) (by simp) ?_; (case hd => rfl); (case hg => rfl); (case hr => first | (go_simp; done) | (go_simp; rfl)); (case hp => exact (Reps.one (show Kd.M (Kd.int .i64) _ _ _ a1 [.int .i64 a1] from rfl) (Reps.none _ _))); intro v433 w6 ho7 hb hg_ hnew_; clear hg_ hnew_; (first | rw [← Ny432.out] at ho7 | (simp only [Int.reduceToNat] at ho7; rw [← Ny432.out] at ho7)); have HO434 := Aside0.mk (Kd.R_lower ho7 (below_size bw)); replace HB := Aside0.mk (below_step bw hb); clear hb ho7; obtain ⟨Ao8, co8, eo8⟩ := Kd.R_slice HO434.out; subst eo8) | ((with_reducible refine gate_callee (f := 67) rfl ?_); refine gL (some 8) Tryz.func67 #[.slice A0 l0.length c0, .slice Ao8 y432.length co8, .int .i64 (-1)] ?_; (with_reducible refine (impl_reached.calls k _ _ l0 _ _ y432 (-1) t435 _ ?side1 ?side2 ?side3 ?side4 A3.out).mono ?_); (case side1 => repeat (first | exact (Kd.C_below HR0.out HB.out) | (with_reducible refine Kd.C_alloc ?_ _) | (with_reducible refine Kd.C_drewN ?_ _) | (with_reducible refine Kd.C_drew ?_))); (case side2 => exact HC0.out); (case side3 => exact cS (Kd.R_reads' HO434.out).2.2); (case side4 => exact (Kd.R_reads' HO434.out).2.1); rintro e w9 ⟨v436, rfl, ho0, hb⟩; refine ⟨_, rfl, ?_⟩; replace HO434 := Aside0.mk (Kd.R_below (rS HO434.out) hb); have HO437 := Aside0.mk (Kd.R_lower ho0 (below_size bw)); replace HB := Aside0.mk (below_step bw hb); (try clear hb); (try clear ho0); obtain ⟨Ao10, co10, eo10⟩ := Kd.R_slice HO437.out; subst eo10; have p438 : 0 ≤ ((l0.length : Int) : Int) := dT; have q438 : (l0.length : Int) < (t435.length : Int) := dT; obtain ⟨ad438, e438, hx438_0⟩ := Kd.at_bool (Kd.R_reads' HO437.out).2.2 (l0.length : Int) p438 q438; cases e438; (try simp only [Go.IntWalk.toNatUp] at hx438_0); replace p438 := eq_true p438; replace q438 := eq_true q438))
   go_ret
   exact ⟨eR, bw⟩
  ·rw [if_neg c5] at H
   exact absurd H (by simp)
 ·rw [if_neg c4] at H
  exact absurd H (by simp)

/-! ### impl_isAfter: function 105 -/
def impl_isAfter.f (k : Nat) (l0 : List (S38)) (a1 : Int) (a2 : Int) : Option (Bool) := (impl_reachesExit.f k l0 a1).bind fun t439 => (if t439 = true then ((impl_reached.f k l0 (([a1] : List Int)) a2).bind fun t443 => (if 0 ≤ (l0.length : Int) then (if (l0.length : Int) < (t443.length : Int) then (some (!(rdOf false t443 (l0.length : Int)))) else (none)) else (none))) else (some false))
theorem impl_isAfter.mono : ∀ a0 a1 a2 k, LeO (impl_isAfter.f k a0 a1 a2) (impl_isAfter.f (k + 1) a0 a1 a2) := by
 intro a0 a1 a2 k
 unfold impl_isAfter.f
 repeat' first
   | (with_reducible exact impl_reached.mono _ _ _ _)
   | (with_reducible exact impl_reachesExit.mono _ _ _)
   | (with_reducible exact LeO.refl _)
   | (with_reducible exact LeO.none _)
   | (with_reducible refine LeO.ite ?_ ?_)
   | (with_reducible refine LeO.bind ?_ (fun _ => ?_))
   | exact impl_reached.mono _ _ _ _
   | exact impl_reachesExit.mono _ _ _
   | exact LeO.none _
   | refine LeO.ite ?_ ?_
   | refine LeO.bind ?_ (fun _ => ?_)
set_option maxHeartbeats 8000000 in
set_option maxRecDepth 100000 in
theorem impl_isAfter.calls (k : Nat) (A0 : Option Addr) (c0 : Nat) (l0 : List (S38)) (a1 : Int) (a2 : Int) (r : Bool) (w : World) (hr0 : Kd.C k38 w A0 l0.length l0) (hc0 : l0.length ≤ c0) (h : impl_isAfter.f k l0 a1 a2 = some r) :
  Calls Tryz.prog 105 #[.slice A0 l0.length c0, .int .i64 a1, .int .i64 a2] w fun e w' => e = .returned (.bool r) ∧ Below w.heap.size w w' := by
 have HR0 := Aside0.mk hr0
 have HC0 := Aside0.mk hc0
 clear hr0 hc0
 have HB := Aside0.mk (Below.refl w.heap.size w)
 have H : ((impl_reachesExit.f k l0 a1).bind fun t439 => (if t439 = true then ((impl_reached.f k l0 (([a1] : List Int)) a2).bind fun t443 => (if 0 ≤ (l0.length : Int) then (if (l0.length : Int) < (t443.length : Int) then (some (!(rdOf false t443 (l0.length : Int)))) else (none)) else (none))) else (some false))) = some r := h
 clear h
 replace H := Option.bind_eq_some_iff.mp H
 obtain ⟨t439, A40, H⟩ := H
 replace H : (if t439 = true then ((impl_reached.f k l0 (([a1] : List Int)) a2).bind fun t443 => (if 0 ≤ (l0.length : Int) then (if (l0.length : Int) < (t443.length : Int) then (some (!(rdOf false t443 (l0.length : Int)))) else (none)) else (none))) else (some false)) = some r := H
 have A4 := Aside0.mk A40
 clear A40
 by_cases c5 : t439 = true
 ·subst c5
  have H1 : ((impl_reached.f k l0 (([a1] : List Int)) a2).bind fun t443 => (if 0 ≤ (l0.length : Int) then (if (l0.length : Int) < (t443.length : Int) then (some (!(rdOf false t443 (l0.length : Int)))) else (none)) else (none))) = some r := by rw [if_pos rfl] at H; exact H
  clear H
  have H := H1
  clear H1
  obtain ⟨y440, hy440⟩ : ∃ y_ : List Int, y_ = (([a1] : List Int)) := ⟨_, rfl⟩
  replace H : ((impl_reached.f k l0 y440 a2).bind fun t443 => (if 0 ≤ (l0.length : Int) then (if (l0.length : Int) < (t443.length : Int) then (some (!(rdOf false t443 (l0.length : Int)))) else (none)) else (none))) = some r := rP hy440 H
  have Ny440 := Aside0.mk hy440
  clear hy440
  replace H := Option.bind_eq_some_iff.mp H
  obtain ⟨t443, A60, H⟩ := H
  replace H : (if 0 ≤ (l0.length : Int) then (if (l0.length : Int) < (t443.length : Int) then (some (!(rdOf false t443 (l0.length : Int)))) else (none)) else (none)) = some r := H
  have A6 := Aside0.mk A60
  clear A60
  by_cases c7 : 0 ≤ (l0.length : Int)
  ·rw [if_pos c7] at H
   have c7b0 : decide (0 ≤ (l0.length : Int)) = true := decide_eq_true c7
   have c7b1 : decide (0 ≤ l0.length) = true := decide_eq_true (by omega)
   clear c7
   by_cases c8 : (l0.length : Int) < (t443.length : Int)
   ·rw [if_pos c8] at H
    have c8b0 : decide ((l0.length : Int) < (t443.length : Int)) = true := decide_eq_true c8
    have c8b1 : decide (l0.length < t443.length) = true := decide_eq_true (Int.ofNat_lt.mp c8)
    clear c8
    obtain rfl := Option.some.inj H
    go_enter Tryz.func105, Tryz.ntmps105
    go_wp2_with (first | ((with_reducible refine gate_callee (f := 68) rfl ?_); refine gL (some 9) Tryz.func68 #[.slice A0 l0.length c0, .int .i64 a1] ?_; (with_reducible refine (impl_reachesExit.calls k _ _ l0 a1 true _ ?side1 ?side2 A4.out).mono ?_); (case side1 => exact cS HR0.out); (case side2 => exact HC0.out); rintro e w9 ⟨rfl, hb⟩; refine ⟨_, rfl, ?_⟩; replace HB := Aside0.mk (below_step bw hb); (try clear hb)) | ((with_reducible refine gate_dst (N := 13) rfl ?_); (try (refine gate_guard (by rfl) ?_; dsimp only)); refine Kd.R_lit (Kd.int .i64) _ 3 ?hg (N := 13) ?hd (xs := ([a1] : List Int)) (inner := [.int .i64 a1]) (ok := fun _ => True) (okp := fun _ => True) ?hr ?hp (fun _ hk => hk) trivial (Below.refl _ _) (Nat.le_refl _) (by simp) ?_; (case hd => rfl); (case hg => rfl); (case hr => first | (go_simp; done) | (go_simp; rfl)); (case hp => exact (Reps.one (show Kd.M (Kd.int .i64) _ _ _ a1 [.int .i64 a1] from rfl) (Reps.none _ _))); intro v441 w10 ho11 hb hg_ hnew_; clear hg_ hnew_; (first | rw [← Ny440.out] at ho11 | (simp only [Int.reduceToNat] at ho11; rw [← Ny440.out] at ho11)); have HO442 := Aside0.mk (Kd.R_lower ho11 (below_size bw)); replace HB := Aside0.mk (below_step bw hb); clear hb ho11; obtain ⟨Ao12, co12, eo12⟩ := Kd.R_slice HO442.out; subst eo12) | (go_at_call 67; (with_reducible refine (impl_reached.calls k _ _ l0 _ _ y440 a2 t443 _ ?side1 ?side2 ?side3 ?side4 A6.out).mono ?_); (case side1 => repeat (first | exact (Kd.C_below HR0.out HB.out) | (with_reducible refine Kd.C_alloc ?_ _) | (with_reducible refine Kd.C_drewN ?_ _) | (with_reducible refine Kd.C_drew ?_))); (case side2 => exact HC0.out); (case side3 => exact cS (Kd.R_reads' HO442.out).2.2); (case side4 => exact (Kd.R_reads' HO442.out).2.1); rintro e w13 ⟨v444, rfl, ho0, hb⟩; replace HO442 := Aside0.mk (Kd.R_below (rS HO442.out) hb); have HO445 := Aside0.mk (Kd.R_lower ho0 (below_size bw)); replace HB := Aside0.mk (below_step bw hb); (try clear hb); (try clear ho0); obtain ⟨Ao14, co14, eo14⟩ := Kd.R_slice HO445.out; subst eo14; have p446 : 0 ≤ ((l0.length : Int) : Int) := dT; have q446 : (l0.length : Int) < (t443.length : Int) := dT; obtain ⟨ad446, e446, hx446_0⟩ := Kd.at_bool (Kd.R_reads' HO445.out).2.2 (l0.length : Int) p446 q446; cases e446; (try simp only [Go.IntWalk.toNatUp] at hx446_0); replace p446 := eq_true p446; replace q446 := eq_true q446))
    go_ret
    exact ⟨eR, bw⟩
   ·rw [if_neg c8] at H
    exact absurd H (by simp)
  ·rw [if_neg c7] at H
   exact absurd H (by simp)
 ·replace c5 := Bool.eq_false_iff.mpr c5
  subst c5
  have H1 : (some false) = some r := by rw [if_neg (show ¬ (false = true) by decide)] at H; exact H
  clear H
  have H := H1
  clear H1
  obtain rfl := Option.some.inj H
  go_enter Tryz.func105, Tryz.ntmps105
  go_wp2_with (first | ((with_reducible refine gate_callee (f := 68) rfl ?_); refine gL (some 9) Tryz.func68 #[.slice A0 l0.length c0, .int .i64 a1] ?_; (with_reducible refine (impl_reachesExit.calls k _ _ l0 a1 false _ ?side1 ?side2 A4.out).mono ?_); (case side1 => exact cS HR0.out); (case side2 => exact HC0.out); rintro e w15 ⟨rfl, hb⟩; refine ⟨_, rfl, ?_⟩; replace HB := Aside0.mk (below_step bw hb); (try clear hb)))
  go_ret
  exact ⟨eR, bw⟩

/-! ### impl_firstOf: function 86 -/
def aftAt (k : Nat) (l0 : List S38) (x y : Int) : Bool := impl_isAfter.f k l0 x y == some true
def firstF (k : Nat) (l0 : List S38) (l1 : List Int) : List Int → Option Int
  | [] => some (-1)
  | x :: r => if (l1.all fun y => (impl_isAfter.f k l0 x y).isSome) = true then (if (l1.any fun y => !(aftAt k l0 x y)) = true then firstF k l0 l1 r else some x) else none
theorem aftAt_up {k : Nat} {l0 : List S38} {x y : Int} (h : (impl_isAfter.f k l0 x y).isSome = true) : impl_isAfter.f (k + 1) l0 x y = impl_isAfter.f k l0 x y := by
  obtain ⟨b, hb⟩ := Option.isSome_iff_exists.1 h
  rw [hb]; exact impl_isAfter.mono _ _ _ _ _ hb
theorem firstF_mono (k : Nat) (l0 : List S38) (l1 : List Int) : ∀ l, LeO (firstF k l0 l1 l) (firstF (k + 1) l0 l1 l)
  | [] => LeO.refl _
  | x :: r => by
    intro v h
    rw [firstF] at h ⊢
    by_cases hs : (l1.all fun y => (impl_isAfter.f k l0 x y).isSome) = true
    · rw [if_pos hs] at h
      have hs' := List.all_eq_true.1 hs
      rw [if_pos (List.all_eq_true.2 fun y hy => by rw [aftAt_up (hs' y hy)]; exact hs' y hy)]
      have e : (l1.any fun y => !(aftAt (k + 1) l0 x y)) = l1.any fun y => !(aftAt k l0 x y) := by
        have : ∀ m : List Int, (∀ y ∈ m, (impl_isAfter.f k l0 x y).isSome = true) → (m.any fun y => !(aftAt (k + 1) l0 x y)) = m.any fun y => !(aftAt k l0 x y) := by
          intro m
          induction m with
          | nil => intro _; rfl
          | cons z m ih =>
            intro hm
            rw [List.any_cons, List.any_cons, ih (fun y hy => hm y (List.mem_cons_of_mem _ hy))]
            unfold aftAt
            rw [aftAt_up (hm z (List.mem_cons_self ..))]
        exact this l1 hs'
      rw [e]
      by_cases ha : (l1.any fun y => !(aftAt k l0 x y)) = true
      · rw [if_pos ha] at h ⊢; exact firstF_mono k l0 l1 r v h
      · rw [if_neg ha] at h ⊢; exact h
    · rw [if_neg hs] at h; exact absurd h (by simp)
def impl_firstOf.f (k : Nat) (l0 : List S38) (l1 : List Int) : Option (Int) := firstF k l0 l1 l1
theorem impl_firstOf.mono : ∀ a0 a1 k, LeO (impl_firstOf.f k a0 a1) (impl_firstOf.f (k + 1) a0 a1) := by
  intro a0 a1 k
  exact firstF_mono k a0 a1 a1
theorem one_cellF {W : World} {g : Nat} {v : Value} {t : TypeId} (h : W.heap[g]? = some (.cells #[v] t (0, 0))) : W.cell? ⟨g, 0, none⟩ = some v := (blk_cell h 0).trans rfl
set_option maxHeartbeats 1000000 in
theorem impl_firstOf.fn (k : Nat) (A0 : Option Addr) (c0 : Nat) (l0 : List S38) (g2 g6 : Nat) (x y : Int) (w : World) (hr0 : Kd.C k38 w A0 l0.length l0) (hc0 : l0.length ≤ c0) (h2 : w.heap[g2]? = some (.cells #[.slice A0 l0.length c0] 25 (0, 0))) (h6 : w.heap[g6]? = some (.cells #[.int .i64 x] 3 (0, 0))) (hs : (impl_isAfter.f k l0 x y).isSome = true) :
    Calls Tryz.prog 104 #[.int .i64 y, .pointer (some ⟨g2, 0, none⟩), .pointer (some ⟨g6, 0, none⟩)] w fun e w' => e = .returned (.bool (!(aftAt k l0 x y))) ∧ Below w.heap.size w w' := by
  obtain ⟨b, hb⟩ := Option.isSome_iff_exists.1 hs
  have e1 : aftAt k l0 x y = b := by unfold aftAt; rw [hb]; cases b <;> rfl
  rw [e1]
  have HI := Aside0.mk hb
  have HR := Aside0.mk hr0
  have HC := Aside0.mk hc0
  have hz2 := one_cellF h2
  have hz6 := one_cellF h6
  clear e1 hb hs hr0 hc0 h2 h6
  go_enter Tryz.func104, Tryz.ntmps104
  go_wp2_with (go_at_call 105; (with_reducible refine (impl_isAfter.calls k A0 c0 l0 x y b _ HR.out HC.out HI.out).mono ?_); rintro e w' ⟨rfl, hb2⟩; have HB2 := Aside0.mk hb2; clear hb2)
  go_ret
  exact ⟨rfl, HB2.out⟩
set_option maxHeartbeats 4000000 in
set_option maxRecDepth 100000 in
theorem impl_firstOf.calls (k : Nat) (A0 : Option Addr) (c0 : Nat) (l0 : List S38) (A1 : Option Addr) (c1 : Nat) (l1 : List Int) (r : Int) (w : World) (hr0 : Kd.C k38 w A0 l0.length l0) (hc0 : l0.length ≤ c0) (hr1 : Kd.C (Kd.int .i64) w A1 l1.length l1) (hc1 : l1.length ≤ c1) (h : impl_firstOf.f k l0 l1 = some r) :
    Calls Tryz.prog 86 #[.slice A0 l0.length c0, .slice A1 l1.length c1] w fun e w' => e = .returned (.int .i64 r) ∧ Below w.heap.size w w' := by
  have HF := Aside0.mk (show firstF k l0 l1 l1 = some r from h)
  have HR0 := Aside0.mk hr0
  have HC0 := Aside0.mk hc0
  have HR1 := Aside0.mk hr1
  have hbig := hr1.2.1
  clear h hr0 hc0 hr1
  have eg := Aside0.mk (enters_of Tryz.func104 (by kernel_rfl) rfl)
  go_enter Tryz.func86, Tryz.ntmps86
  go_wp2_with (first | ((with_reducible refine gate_dst (N := 2) rfl ?_); refine box_event ?hg (N := 2) ?hd (cs := #[.slice A0 l0.length c0]) (t := 25) ?hr ?_; (case hd => rfl); (case hg => rfl); (case hr => first | (go_simp; done) | (go_simp; rfl)); intro g2 hgb w1 hbox hb; have HB := Aside0.mk hb; have B2 := Aside0.mk hbox; clear hgb hb hbox))
  go_loopg [6, 9] l1.length (fun gg _ s9 wr => ∃ kk : Nat, kk ≤ l1.length ∧ l1.length - kk ≤ gg ∧ s9 = .int .i64 kk ∧ Aside0 (Below w1.heap.size w1 wr) ∧ Aside0 (firstF k l0 l1 (l1.drop kk) = some r))
  case atStart => exact ⟨0, Nat.zero_le _, by omega, rfl, ⟨Below.refl _ _⟩, ⟨HF.out⟩⟩
  case round =>
    obtain ⟨kk, hkk, hg, rfl, HW, HI⟩ := hrel
    by_cases hlt : kk < l1.length
    · have hltz : (kk : Int) < (l1.length : Int) := by omega
      obtain ⟨ad, ea, hcell⟩ := Kd.at_int (Kd.C_below HR1.out (below_step HB.out HW.out)) kk (by omega) hltz
      cases ea
      rw [Int.toNat_natCast] at hcell
      have HD := Aside0.mk (drop_rdI hlt)
      generalize hy : rd l1 (kk : Int) = x at hcell HD
      clear hy
      have H := HI.out
      rw [HD.out, firstF] at H
      by_cases hs : (l1.all fun y => (impl_isAfter.f k l0 x y).isSome) = true
      · rw [if_pos hs] at H
        have HS := Aside0.mk (List.all_eq_true.1 hs)
        clear hs
        have B2r := Aside0.mk (blk_below B2.out HW.out)
        have HBr := Aside0.mk (below_step HB.out HW.out)
        have HFc := Aside0.mk (fun (g6 : Nat) (w2 : World) (hb : Below w.heap.size w w2) (hx2 : w2.heap[g2]? = some (.cells #[.slice A0 l0.length c0] 25 (0, 0))) (hx6 : w2.heap[g6]? = some (.cells #[.int .i64 x] 3 (0, 0))) =>
          containsFunc_int (Below w2.heap.size w2) 104 #[.pointer (some ⟨g2, 0, none⟩), .pointer (some ⟨g6, 0, none⟩)] eg.out (fun y => !(aftAt k l0 x y)) (some ad) c1 l1 w2 (Below.refl _ _)
            (fun W hW => Kd.C_below HR1.out (below_step hb hW)) (fun y hy1 W hW => (impl_firstOf.fn k A0 c0 l0 g2 g6 x y W (Kd.C_below HR0.out (below_step hb hW)) HC0.out (blk_below hx2 hW) (blk_below hx6 hW) (HS.out y hy1)).mono fun e W' ⟨he, h2⟩ => ⟨he, below_step hW h2⟩))
        cases hq : (l1.any fun y => !(aftAt k l0 x y)) with
        | true =>
          rw [if_pos hq] at H
          have HN := Aside0.mk H
          rw [hq] at HFc
          clear hq H
          go_wp2_with (first | ((with_reducible refine gate_dst (N := 6) rfl ?_); refine box_event ?hg (N := 6) ?hd (cs := #[.int .i64 0]) (t := 3) ?hr ?_; (case hd => rfl); (case hg => rfl); (case hr => first | (go_simp; done) | (go_simp; rfl)); intro g6 hgb w2 hbox hb; have G6 := Aside0.mk (show w1.heap.size ≤ g6 by rw [hgb]; exact below_size HW.out); have N6 := Aside0.mk (show g2 ≠ g6 by rw [hgb]; exact Nat.ne_of_lt (blk_lt B2r.out)); have G0 := Aside0.mk (show w.heap.size ≤ g6 by rw [hgb]; exact below_size HBr.out); have HB2 := Aside0.mk (below_step HBr.out hb); have HW2 := Aside0.mk (below_step HW.out hb); have C2 := Aside0.mk (blk_far (blk_below B2r.out hb) (p := ⟨g6, 0, none⟩) N6.out (.int .i64 x)); have C6 := Aside0.mk (blk_put hbox 0 (.int .i64 x) rfl); have z6 : w2.cell? ⟨g6, 0, none⟩ = some (.int .i64 0) := one_cellF hbox; have f6 := blk_frozen hbox 0; have HB3 := Aside0.mk (below_set (j := 0) (v := .int .i64 x) HB2.out G0.out); have HW3 := Aside0.mk (below_set (j := 0) (v := .int .i64 x) HW2.out G6.out); clear hgb hb hbox) | (go_at_call 26; refine (HFc.out g6 _ HB3.out C2.out C6.out).mono ?_; rintro e w3 ⟨rfl, hb3⟩; have HB4 := Aside0.mk (below_step HW3.out hb3); clear hb3))
          go_roundg (l1.length - (kk + 1))
          case measure => omega
          case rel => exact ⟨kk + 1, by omega, by omega, by go_num, ⟨HB4.out⟩, ⟨HN.out⟩⟩
        | false =>
          rw [if_neg (by rw [hq]; decide)] at H
          obtain rfl := Option.some.inj H
          rw [hq] at HFc
          clear hq H
          go_wp2_with (first | ((with_reducible refine gate_dst (N := 6) rfl ?_); refine box_event ?hg (N := 6) ?hd (cs := #[.int .i64 0]) (t := 3) ?hr ?_; (case hd => rfl); (case hg => rfl); (case hr => first | (go_simp; done) | (go_simp; rfl)); intro g6 hgb w2 hbox hb; have N6 := Aside0.mk (show g2 ≠ g6 by rw [hgb]; exact Nat.ne_of_lt (blk_lt B2r.out)); have G0 := Aside0.mk (show w.heap.size ≤ g6 by rw [hgb]; exact below_size HBr.out); have HB2 := Aside0.mk (below_step HBr.out hb); have C2 := Aside0.mk (blk_far (blk_below B2r.out hb) (p := ⟨g6, 0, none⟩) N6.out (.int .i64 x)); have C6 := Aside0.mk (blk_put hbox 0 (.int .i64 x) rfl); have z6 : w2.cell? ⟨g6, 0, none⟩ = some (.int .i64 0) := one_cellF hbox; have f6 := blk_frozen hbox 0; have HB3 := Aside0.mk (below_set (j := 0) (v := .int .i64 x) HB2.out G0.out); clear hgb hb hbox) | (go_at_call 26; refine (HFc.out g6 _ HB3.out C2.out C6.out).mono ?_; rintro e w3 ⟨rfl, hb3⟩; have HB4 := Aside0.mk (below_step HB3.out hb3); have z36 : w3.cell? ⟨g6, 0, none⟩ = some (.int .i64 x) := one_cellF (blk_below C6.out hb3); clear hb3 z6 f6))
          go_ret
          exact ⟨rfl, HB4.out⟩
      · rw [if_neg hs] at H
        exact absurd H (by simp)
    · have hltz : ¬ (kk : Int) < (l1.length : Int) := by omega
      have H := HI.out
      rw [List.drop_of_length_le (by omega)] at H
      obtain rfl := Option.some.inj H
      go_wp2
      go_ret
      exact ⟨rfl, below_step HB.out HW.out⟩

end Go.Proofs.YtdppehpcpofeoaaGreat.PFnExactNeverSplits
