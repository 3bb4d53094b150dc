-- Written by myprint.py (a program of this session, over the kit's print): not trusted, Lean checks it.
import Derived.Test.YtdhifoacbpjpoaaPFnExactWarpOkx0
import Derived.Test.YtdhifoacbpjpoaaPFnExactWarpOkx5
import Derived.Test.YtdhifoacbpjpoaaPFnExactWarpOkx7
namespace Go.Proofs.Ytdhifoacbpjpoaa.PFnExactWarpOk
open Go.RowKit Go.Proofs.YtdhifoacbpjpoaaW.PrintWords Go.Proofs.YtdhifoacbpjpoaaW.PrintLast Go.Proofs.YtdhifoacbpjpoaaW.PrintMore
attribute [local go_sem] max2_int min2_int max_two min_two max_three min_three max_four min_four   -- for this text's walks alone
set_option linter.unusedVariables false
set_option linter.unusedSimpArgs false

/-! ### spec_WarpOk: function 40 -/
mutual
def spec_WarpOk.j0 : Nat → List (S43) → Bool → Int → List (S82) → List Int → Option (Bool)
  | 0, _, _, _, _, _ => none
  | k + 1, x0, x33, x189000, x189001, x189002 => if x33 = true then (some false) else (spec_WarpOk.l0 k x0 0 x189000 x189001 x189002)
def spec_WarpOk.l0 : Nat → List (S43) → Int → Int → List (S82) → List Int → Option (Bool)
  | 0, _, _, _, _, _ => none
  | k + 1, x0, x5, x189000, x189001, x189002 => if x5 < (x189001.length : Int) then (if 0 ≤ x5 then ((spec_l01In.f ((rd_T82 x189001 x5).f0) 0 (x0.length : Int)).bind fun t194 => (if t194 = true then ((spec_l01In.f ((rd_T82 x189001 x5).f1) 0 (x0.length : Int)).bind fun t195 => (if t195 = true then ((spec_IsMask.f ((rd_T82 x189001 x5).f2)).bind fun t196 => (if t196 = true then (spec_WarpOk.j2 k x0 x5 (((rd_T82 x189001 x5).f2) == 0) x189000 x189001 x189002 ((rd_T82 x189001 x5).f0) ((rd_T82 x189001 x5).f1) ((rd_T82 x189001 x5).f2)) else (spec_WarpOk.j2 k x0 x5 true x189000 x189001 x189002 ((rd_T82 x189001 x5).f0) ((rd_T82 x189001 x5).f1) ((rd_T82 x189001 x5).f2)))) else (spec_WarpOk.j2 k x0 x5 true x189000 x189001 x189002 ((rd_T82 x189001 x5).f0) ((rd_T82 x189001 x5).f1) ((rd_T82 x189001 x5).f2)))) else (spec_WarpOk.j2 k x0 x5 true x189000 x189001 x189002 ((rd_T82 x189001 x5).f0) ((rd_T82 x189001 x5).f1) ((rd_T82 x189001 x5).f2)))) else (none)) else (some true)
def spec_WarpOk.j2 : Nat → List (S43) → Int → Bool → Int → List (S82) → List Int → Int → Int → Int → Option (Bool)
  | 0, _, _, _, _, _, _, _, _, _ => none
  | k + 1, x0, x5, x70, x189000, x189001, x189002, x194000, x194001, x194002 => if x70 = true then (some false) else (if x5 = 0 then (if x194001 = (x0.length : Int) then (if x194002 = 255 then (if x5 = (wrap64 ((x189001.length : Int) - 1)) then (if x194000 = x194001 then (some false) else (if x194000 = (x0.length : Int) then (some false) else (spec_WarpOk.l0 k x0 (wrap64 (x5 + 1)) x189000 x189001 x189002))) else (spec_WarpOk.l0 k x0 (wrap64 (x5 + 1)) x189000 x189001 x189002)) else (some false)) else (some false)) else (if x5 = (wrap64 ((x189001.length : Int) - 1)) then (if x194000 = x194001 then (some false) else (if x194000 = (x0.length : Int) then (some false) else (spec_WarpOk.l0 k x0 (wrap64 (x5 + 1)) x189000 x189001 x189002))) else (spec_WarpOk.l0 k x0 (wrap64 (x5 + 1)) x189000 x189001 x189002)))
end
def spec_WarpOk.f (k : Nat) (l0 : List (S43)) (a1_0 : Int) (l1_1 : List (S82)) (l1_2 : List Int) : Option (Bool) := (spec_ProgramOk.f k l0).bind fun t189 => (if t189 = true then ((spec_l01In.f a1_0 0 2).bind fun t190 => (if t190 = true then (if (l1_2.length : Int) = 32 then ((spec_AreWords.f k l1_2).bind fun t191 => (if t191 = true then (spec_WarpOk.j0 k l0 (decide ((l1_1.length : Int) > 24)) a1_0 l1_1 l1_2) else (spec_WarpOk.j0 k l0 true a1_0 l1_1 l1_2))) else (spec_WarpOk.j0 k l0 true a1_0 l1_1 l1_2)) else (spec_WarpOk.j0 k l0 true a1_0 l1_1 l1_2))) else (spec_WarpOk.j0 k l0 true a1_0 l1_1 l1_2))
theorem spec_WarpOk.mono_l : ∀ k, (∀ y0 y1 y2 y3 y4, LeO (spec_WarpOk.j0 k y0 y1 y2 y3 y4) (spec_WarpOk.j0 (k + 1) y0 y1 y2 y3 y4)) ∧ (∀ y0 y1 y2 y3 y4, LeO (spec_WarpOk.l0 k y0 y1 y2 y3 y4) (spec_WarpOk.l0 (k + 1) y0 y1 y2 y3 y4)) ∧ (∀ y0 y1 y2 y3 y4 y5 y6 y7 y8, LeO (spec_WarpOk.j2 k y0 y1 y2 y3 y4 y5 y6 y7 y8) (spec_WarpOk.j2 (k + 1) y0 y1 y2 y3 y4 y5 y6 y7 y8))
  | 0 => ⟨fun _ _ _ _ _ r h => by simp [spec_WarpOk.j0] at h, fun _ _ _ _ _ r h => by simp [spec_WarpOk.l0] at h, fun _ _ _ _ _ _ _ _ _ r h => by simp [spec_WarpOk.j2] at h⟩
  | k + 1 => by
    obtain ⟨ih0, ih1, ih2⟩ := spec_WarpOk.mono_l k
    refine ⟨?_, ?_, ?_⟩
    · intro y0 y1 y2 y3 y4
      unfold spec_WarpOk.j0
      repeat' first
      | (with_reducible exact ih0 _ _ _ _ _)
      | (with_reducible exact ih1 _ _ _ _ _)
      | (with_reducible exact ih2 _ _ _ _ _ _ _ _ _)
      | (with_reducible exact spec_AreWords.mono _ _)
      | (with_reducible exact spec_ProgramOk.mono _ _)
      | (with_reducible exact LeO.refl _)
      | (with_reducible exact LeO.none _)
      | (with_reducible refine LeO.ite ?_ ?_)
      | (with_reducible refine LeO.bind ?_ (fun _ => ?_))
      | exact ih0 _ _ _ _ _
      | exact ih1 _ _ _ _ _
      | exact ih2 _ _ _ _ _ _ _ _ _
      | exact spec_AreWords.mono _ _
      | exact spec_ProgramOk.mono _ _
      | exact LeO.none _
      | refine LeO.ite ?_ ?_
      | refine LeO.bind ?_ (fun _ => ?_)
    · intro y0 y1 y2 y3 y4
      unfold spec_WarpOk.l0
      repeat' first
      | (with_reducible exact ih0 _ _ _ _ _)
      | (with_reducible exact ih1 _ _ _ _ _)
      | (with_reducible exact ih2 _ _ _ _ _ _ _ _ _)
      | (with_reducible exact spec_AreWords.mono _ _)
      | (with_reducible exact spec_ProgramOk.mono _ _)
      | (with_reducible exact LeO.refl _)
      | (with_reducible exact LeO.none _)
      | (with_reducible refine LeO.ite ?_ ?_)
      | (with_reducible refine LeO.bind ?_ (fun _ => ?_))
      | exact ih0 _ _ _ _ _
      | exact ih1 _ _ _ _ _
      | exact ih2 _ _ _ _ _ _ _ _ _
      | exact spec_AreWords.mono _ _
      | exact spec_ProgramOk.mono _ _
      | exact LeO.none _
      | refine LeO.ite ?_ ?_
      | refine LeO.bind ?_ (fun _ => ?_)
    · intro y0 y1 y2 y3 y4 y5 y6 y7 y8
      unfold spec_WarpOk.j2
      repeat' first
      | (with_reducible exact ih0 _ _ _ _ _)
      | (with_reducible exact ih1 _ _ _ _ _)
      | (with_reducible exact ih2 _ _ _ _ _ _ _ _ _)
      | (with_reducible exact spec_AreWords.mono _ _)
      | (with_reducible exact spec_ProgramOk.mono _ _)
      | (with_reducible exact LeO.refl _)
      | (with_reducible exact LeO.none _)
      | (with_reducible refine LeO.ite ?_ ?_)
      | (with_reducible refine LeO.bind ?_ (fun _ => ?_))
      | exact ih0 _ _ _ _ _
      | exact ih1 _ _ _ _ _
      | exact ih2 _ _ _ _ _ _ _ _ _
      | exact spec_AreWords.mono _ _
      | exact spec_ProgramOk.mono _ _
      | exact LeO.none _
      | refine LeO.ite ?_ ?_
      | refine LeO.bind ?_ (fun _ => ?_)
theorem spec_WarpOk.mono : ∀ a0 a1 a2 a3 k, LeO (spec_WarpOk.f k a0 a1 a2 a3) (spec_WarpOk.f (k + 1) a0 a1 a2 a3) := by
  intro a0 a1 a2 a3 k
  obtain ⟨ih0, ih1, ih2⟩ := spec_WarpOk.mono_l k
  unfold spec_WarpOk.f
  repeat' first
      | (with_reducible exact ih0 _ _ _ _ _)
      | (with_reducible exact ih1 _ _ _ _ _)
      | (with_reducible exact ih2 _ _ _ _ _ _ _ _ _)
      | (with_reducible exact spec_AreWords.mono _ _)
      | (with_reducible exact spec_ProgramOk.mono _ _)
      | (with_reducible exact LeO.refl _)
      | (with_reducible exact LeO.none _)
      | (with_reducible refine LeO.ite ?_ ?_)
      | (with_reducible refine LeO.bind ?_ (fun _ => ?_))
      | exact ih0 _ _ _ _ _
      | exact ih1 _ _ _ _ _
      | exact ih2 _ _ _ _ _ _ _ _ _
      | exact spec_AreWords.mono _ _
      | exact spec_ProgramOk.mono _ _
      | exact LeO.none _
      | refine LeO.ite ?_ ?_
      | refine LeO.bind ?_ (fun _ => ?_)
set_option maxHeartbeats 8000000 in
set_option maxRecDepth 100000 in
theorem spec_WarpOk.calls (k : Nat) (A0 : Option Addr) (c0 : Nat) (l0 : List (S43)) (a1_0 : Int) (A1_1 : Option Addr) (c1_1 : Nat) (l1_1 : List (S82)) (A1_2 : Option Addr) (c1_2 : Nat) (l1_2 : List Int) (r : Bool) (w : World) (hr0 : Kd.C k43 w A0 l0.length l0) (hc0 : l0.length ≤ c0) (hr1_1 : Kd.C k82 w A1_1 l1_1.length l1_1) (hc1_1 : l1_1.length ≤ c1_1) (hr1_2 : Kd.C (Kd.int .i64) w A1_2 l1_2.length l1_2) (hc1_2 : l1_2.length ≤ c1_2) (h : spec_WarpOk.f k l0 a1_0 l1_1 l1_2 = some r) :
    Calls Try.prog 40 #[.slice A0 l0.length c0, .agg #[.int .i64 a1_0, .slice A1_1 l1_1.length c1_1, .slice A1_2 l1_2.length c1_2]] w fun e w' => e = .returned (.bool r) ∧ Below w.heap.size w w' := by
  have hu30 := Try.underlying30
  have hu82 := Try.underlying82
  have HR0 := Aside0.mk hr0
  have HC0 := Aside0.mk hc0
  clear hr0 hc0
  have HR1_1 := Aside0.mk hr1_1
  have HC1_1 := Aside0.mk hc1_1
  clear hr1_1 hc1_1
  have HR1_2 := Aside0.mk hr1_2
  have HC1_2 := Aside0.mk hc1_2
  clear hr1_2 hc1_2
  have HB := Aside0.mk (Below.refl w.heap.size w)
  have H : ((spec_ProgramOk.f k l0).bind fun t189 => (if t189 = true then ((spec_l01In.f a1_0 0 2).bind fun t190 => (if t190 = true then (if (l1_2.length : Int) = 32 then ((spec_AreWords.f k l1_2).bind fun t191 => (if t191 = true then (spec_WarpOk.j0 k l0 (decide ((l1_1.length : Int) > 24)) a1_0 l1_1 l1_2) else (spec_WarpOk.j0 k l0 true a1_0 l1_1 l1_2))) else (spec_WarpOk.j0 k l0 true a1_0 l1_1 l1_2)) else (spec_WarpOk.j0 k l0 true a1_0 l1_1 l1_2))) else (spec_WarpOk.j0 k l0 true a1_0 l1_1 l1_2))) = some r := h
  clear h
  have HC3 := Aside0.mk H
  clear H
  go_enter Try.func40, Try.ntmps40
  go_upto_region 1 with (first | ((with_reducible refine gate_dst (N := 3) rfl ?_); (try (refine gate_guard (by rfl) ?_; dsimp only)); refine box_event ?hg (N := 3) ?hd (cs := #[.int .i64 a1_0, .slice A1_1 l1_1.length c1_1, .slice A1_2 l1_2.length c1_2]) (t := 30) ?hr ?_; (case hd => rfl); (case hg => rfl); (case hr => first | (go_simp; done) | (go_simp; rfl)); intro gb188 hg w4 hbox hb; have n0_ := Aside0.mk (below_step (by repeat (first | (with_reducible first | exact HB.out | apply below_alloc | apply pw_below_drewN | apply below_drew1) | exact HB.out)) hb); have n1_ := Aside0.mk (hbox); have n2_ := Aside0.mk ((by rw [hg]; exact (below_size (by repeat (first | (with_reducible first | exact HB.out | apply below_alloc | apply pw_below_drewN | apply below_drew1) | exact HB.out))) : w.heap.size ≤ gb188)); have n3_ := Aside0.mk ((by rw [hg]; exact (below_size (by repeat (first | (with_reducible first | exact HB.out | apply below_alloc | apply pw_below_drewN | apply below_drew1) | exact HB.out))) : w.heap.size ≤ gb188)); clear HB; have HB := n0_; have BK188 := n1_; have GW188 := n2_; have GE188 := n3_; clear n0_ n1_ n2_ n3_; clear hb hbox hg))
  (try simp only [Act.put, List.setIfInBounds_toArray, List.set_cons_zero, List.set_cons_succ])
  go_cut [33] (fun v33 wc => ∃ (kq : Nat) (x33_2 : Bool), v33 = .bool x33_2 ∧ Aside0 (spec_WarpOk.j0 kq l0 x33_2 a1_0 l1_1 l1_2 = some r) ∧ Aside0 (kq ≤ k) ∧ Aside0 (wc.heap[gb188]? = some (.cells #[.int .i64 a1_0, (.slice A1_1 l1_1.length c1_1), (.slice A1_2 l1_2.length c1_2)] 30 (0, 0))) ∧ Aside0 (Below w.heap.size w wc))
  case first =>
    have H := HC3.out
    clear HC3
    replace H := Option.bind_eq_some_iff.mp H
    obtain ⟨t189, A50, H⟩ := H
    replace H : (if t189 = true then ((spec_l01In.f a1_0 0 2).bind fun t190 => (if t190 = true then (if (l1_2.length : Int) = 32 then ((spec_AreWords.f k l1_2).bind fun t191 => (if t191 = true then (spec_WarpOk.j0 k l0 (decide ((l1_1.length : Int) > 24)) a1_0 l1_1 l1_2) else (spec_WarpOk.j0 k l0 true a1_0 l1_1 l1_2))) else (spec_WarpOk.j0 k l0 true a1_0 l1_1 l1_2)) else (spec_WarpOk.j0 k l0 true a1_0 l1_1 l1_2))) else (spec_WarpOk.j0 k l0 true a1_0 l1_1 l1_2)) = some r := H
    have A5 := Aside0.mk A50
    clear A50
    by_cases c6 : t189 = true
    · subst c6
      have H1 : ((spec_l01In.f a1_0 0 2).bind fun t190 => (if t190 = true then (if (l1_2.length : Int) = 32 then ((spec_AreWords.f k l1_2).bind fun t191 => (if t191 = true then (spec_WarpOk.j0 k l0 (decide ((l1_1.length : Int) > 24)) a1_0 l1_1 l1_2) else (spec_WarpOk.j0 k l0 true a1_0 l1_1 l1_2))) else (spec_WarpOk.j0 k l0 true a1_0 l1_1 l1_2)) else (spec_WarpOk.j0 k l0 true a1_0 l1_1 l1_2))) = some r := by rw [if_pos rfl] at H; exact H
      clear H
      have H := H1
      clear H1
      replace H := Option.bind_eq_some_iff.mp H
      obtain ⟨t190, A70, H⟩ := H
      replace H : (if t190 = true then (if (l1_2.length : Int) = 32 then ((spec_AreWords.f k l1_2).bind fun t191 => (if t191 = true then (spec_WarpOk.j0 k l0 (decide ((l1_1.length : Int) > 24)) a1_0 l1_1 l1_2) else (spec_WarpOk.j0 k l0 true a1_0 l1_1 l1_2))) else (spec_WarpOk.j0 k l0 true a1_0 l1_1 l1_2)) else (spec_WarpOk.j0 k l0 true a1_0 l1_1 l1_2)) = some r := H
      have A7 := Aside0.mk A70
      clear A70
      by_cases c8 : t190 = true
      · subst c8
        have H1 : (if (l1_2.length : Int) = 32 then ((spec_AreWords.f k l1_2).bind fun t191 => (if t191 = true then (spec_WarpOk.j0 k l0 (decide ((l1_1.length : Int) > 24)) a1_0 l1_1 l1_2) else (spec_WarpOk.j0 k l0 true a1_0 l1_1 l1_2))) else (spec_WarpOk.j0 k l0 true a1_0 l1_1 l1_2)) = some r := by rw [if_pos rfl] at H; exact H
        clear H
        have H := H1
        clear H1
        by_cases c9 : (l1_2.length : Int) = 32
        · rw [if_pos c9] at H
          have c9b0 : ((l1_2.length : Int) == 32) = true := beq_iff_eq.mpr c9
          have c9b1 : ((l1_2.length : Int) != 32) = false := bne_eq_false_iff_eq.mpr c9
          clear c9
          (first | rw [c9b0] | (simp only [i64_w, i32_w]; rw [c9b0]) | skip)
          replace H := Option.bind_eq_some_iff.mp H
          obtain ⟨t191, A100, H⟩ := H
          replace H : (if t191 = true then (spec_WarpOk.j0 k l0 (decide ((l1_1.length : Int) > 24)) a1_0 l1_1 l1_2) else (spec_WarpOk.j0 k l0 true a1_0 l1_1 l1_2)) = some r := H
          have A10 := Aside0.mk A100
          clear A100
          by_cases c11 : t191 = true
          · subst c11
            have H1 : (spec_WarpOk.j0 k l0 (decide ((l1_1.length : Int) > 24)) a1_0 l1_1 l1_2) = some r := by rw [if_pos rfl] at H; exact H
            clear H
            have H := H1
            clear H1
            have H' := Aside0.mk H
            clear H
            go_wp2_with (first | ((with_reducible refine gate_callee (f := 74) rfl ?_); refine goesL_ (some 8) rfl rfl Try.func74 (by kernel_rfl) rfl #[.slice A0 l0.length c0] rfl (by (try simp only [List.map_toArray, List.map_cons, List.map_nil]); first | done | rfl | (simp only [List.length_drop, List.length_take]; rfl)) ?_; (with_reducible refine (spec_ProgramOk.calls k _ _ l0 true _ ?side1 ?side2 A5.out).mono ?_); (case side1 => repeat (first | exact (Kd.C_below HR0.out HB.out) | (with_reducible refine Kd.C_alloc ?_ _) | (with_reducible refine Kd.C_drewN ?_ _) | (with_reducible refine Kd.C_drew ?_))); (case side2 => exact HC0.out); rintro e w12 ⟨rfl, hb⟩; refine ⟨_, rfl, ?_⟩; have n0_ := Aside0.mk (blk_below (g := gb188) (o := .cells #[.int .i64 a1_0, .slice A1_1 l1_1.length c1_1, .slice A1_2 l1_2.length c1_2] 30 (0, 0)) (by (with_reducible repeat (first | refine blk_drewN ?_ _ | refine blk_drew ?_ | refine blk_alloc ?_ _)); exact BK188.out) hb); have n1_ := Aside0.mk (below_step (by repeat (first | (with_reducible first | exact HB.out | apply below_alloc | apply pw_below_drewN | apply below_drew1 | refine below_set ?_ GE188.out) | exact HB.out)) hb); clear BK188; clear HB; have BK188 := n0_; have HB := n1_; clear n0_ n1_; (try clear hb); (try clear hb2); (try clear hk); (try clear hi); have hcz13_0 : w12.cell? ⟨gb188, 0, none⟩ = some (.int .i64 a1_0) := (blk_cell BK188.out 0).trans rfl; have hcz13_1 : w12.cell? ⟨gb188, 1, none⟩ = some (.slice A1_1 l1_1.length c1_1) := (blk_cell BK188.out 1).trans rfl; have hcz13_2 : w12.cell? ⟨gb188, 2, none⟩ = some (.slice A1_2 l1_2.length c1_2) := (blk_cell BK188.out 2).trans rfl; have hfz13_0 := blk_frozen BK188.out 0; have hfz13_1 := blk_frozen BK188.out 1; have hfz13_2 := blk_frozen BK188.out 2) | (go_at_call 64; (with_reducible refine (spec_l01In.calls a1_0 0 2 true _ A7.out).mono ?_); rintro e w' ⟨rfl, ⟨nd, rfl⟩⟩) | (go_at_call 62; (with_reducible refine (spec_AreWords.calls k _ _ l1_2 true _ ?side1 ?side2 A10.out).mono ?_); (case side1 => repeat (first | exact (Kd.C_below HR1_2.out (by repeat (first | (with_reducible first | exact HB.out | apply below_alloc | apply pw_below_drewN | apply below_drew1 | refine below_set ?_ GE188.out) | exact HB.out))) | (with_reducible refine Kd.C_alloc ?_ _) | (with_reducible refine Kd.C_drewN ?_ _) | (with_reducible refine Kd.C_drew ?_))); (case side2 => exact HC1_2.out); rintro e w' ⟨rfl, ⟨nd, rfl⟩⟩))
            go_meet
            case rel => exact ⟨_, (decide ((l1_1.length : Int) > 24)), (by first | rfl | (simp; done) | (simp [*]; done)), H', ⟨by first | omega | exact Nat.le_refl _⟩, ⟨by (with_reducible repeat (first | refine blk_drewN ?_ _ | refine blk_drew ?_ | refine blk_alloc ?_ _)); exact BK188.out⟩, ⟨by repeat (first | (with_reducible first | exact HB.out | apply below_alloc | apply pw_below_drewN | apply below_drew1 | refine below_set ?_ GE188.out) | exact HB.out)⟩⟩
          · replace c11 := Bool.eq_false_iff.mpr c11
            subst c11
            have H1 : (spec_WarpOk.j0 k l0 true a1_0 l1_1 l1_2) = some r := by rw [if_neg (show ¬ (false = true) by decide)] at H; exact H
            clear H
            have H := H1
            clear H1
            have H' := Aside0.mk H
            clear H
            go_wp2_with (first | ((with_reducible refine gate_callee (f := 74) rfl ?_); refine goesL_ (some 8) rfl rfl Try.func74 (by kernel_rfl) rfl #[.slice A0 l0.length c0] rfl (by (try simp only [List.map_toArray, List.map_cons, List.map_nil]); first | done | rfl | (simp only [List.length_drop, List.length_take]; rfl)) ?_; (with_reducible refine (spec_ProgramOk.calls k _ _ l0 true _ ?side1 ?side2 A5.out).mono ?_); (case side1 => repeat (first | exact (Kd.C_below HR0.out HB.out) | (with_reducible refine Kd.C_alloc ?_ _) | (with_reducible refine Kd.C_drewN ?_ _) | (with_reducible refine Kd.C_drew ?_))); (case side2 => exact HC0.out); rintro e w14 ⟨rfl, hb⟩; refine ⟨_, rfl, ?_⟩; have n0_ := Aside0.mk (blk_below (g := gb188) (o := .cells #[.int .i64 a1_0, .slice A1_1 l1_1.length c1_1, .slice A1_2 l1_2.length c1_2] 30 (0, 0)) (by (with_reducible repeat (first | refine blk_drewN ?_ _ | refine blk_drew ?_ | refine blk_alloc ?_ _)); exact BK188.out) hb); have n1_ := Aside0.mk (below_step (by repeat (first | (with_reducible first | exact HB.out | apply below_alloc | apply pw_below_drewN | apply below_drew1 | refine below_set ?_ GE188.out) | exact HB.out)) hb); clear BK188; clear HB; have BK188 := n0_; have HB := n1_; clear n0_ n1_; (try clear hb); (try clear hb2); (try clear hk); (try clear hi); have hcz15_0 : w14.cell? ⟨gb188, 0, none⟩ = some (.int .i64 a1_0) := (blk_cell BK188.out 0).trans rfl; have hcz15_1 : w14.cell? ⟨gb188, 1, none⟩ = some (.slice A1_1 l1_1.length c1_1) := (blk_cell BK188.out 1).trans rfl; have hcz15_2 : w14.cell? ⟨gb188, 2, none⟩ = some (.slice A1_2 l1_2.length c1_2) := (blk_cell BK188.out 2).trans rfl; have hfz15_0 := blk_frozen BK188.out 0; have hfz15_1 := blk_frozen BK188.out 1; have hfz15_2 := blk_frozen BK188.out 2) | (go_at_call 64; (with_reducible refine (spec_l01In.calls a1_0 0 2 true _ A7.out).mono ?_); rintro e w' ⟨rfl, ⟨nd, rfl⟩⟩) | (go_at_call 62; (with_reducible refine (spec_AreWords.calls k _ _ l1_2 false _ ?side1 ?side2 A10.out).mono ?_); (case side1 => repeat (first | exact (Kd.C_below HR1_2.out (by repeat (first | (with_reducible first | exact HB.out | apply below_alloc | apply pw_below_drewN | apply below_drew1 | refine below_set ?_ GE188.out) | exact HB.out))) | (with_reducible refine Kd.C_alloc ?_ _) | (with_reducible refine Kd.C_drewN ?_ _) | (with_reducible refine Kd.C_drew ?_))); (case side2 => exact HC1_2.out); rintro e w' ⟨rfl, ⟨nd, rfl⟩⟩))
            go_meet
            case rel => exact ⟨_, (true), (by first | rfl | (simp; done) | (simp [*]; done)), H', ⟨by first | omega | exact Nat.le_refl _⟩, ⟨by (with_reducible repeat (first | refine blk_drewN ?_ _ | refine blk_drew ?_ | refine blk_alloc ?_ _)); exact BK188.out⟩, ⟨by repeat (first | (with_reducible first | exact HB.out | apply below_alloc | apply pw_below_drewN | apply below_drew1 | refine below_set ?_ GE188.out) | exact HB.out)⟩⟩
        · rw [if_neg c9] at H
          have c9b0 : ((l1_2.length : Int) == 32) = false := beq_eq_false_iff_ne.mpr c9
          have c9b1 : ((l1_2.length : Int) != 32) = true := bne_iff_ne.mpr c9
          (first | rw [c9b0] | (simp only [i64_w, i32_w]; rw [c9b0]) | skip)
          have H' := Aside0.mk H
          clear H
          go_wp2_with (first | ((with_reducible refine gate_callee (f := 74) rfl ?_); refine goesL_ (some 8) rfl rfl Try.func74 (by kernel_rfl) rfl #[.slice A0 l0.length c0] rfl (by (try simp only [List.map_toArray, List.map_cons, List.map_nil]); first | done | rfl | (simp only [List.length_drop, List.length_take]; rfl)) ?_; (with_reducible refine (spec_ProgramOk.calls k _ _ l0 true _ ?side1 ?side2 A5.out).mono ?_); (case side1 => repeat (first | exact (Kd.C_below HR0.out HB.out) | (with_reducible refine Kd.C_alloc ?_ _) | (with_reducible refine Kd.C_drewN ?_ _) | (with_reducible refine Kd.C_drew ?_))); (case side2 => exact HC0.out); rintro e w16 ⟨rfl, hb⟩; refine ⟨_, rfl, ?_⟩; have n0_ := Aside0.mk (blk_below (g := gb188) (o := .cells #[.int .i64 a1_0, .slice A1_1 l1_1.length c1_1, .slice A1_2 l1_2.length c1_2] 30 (0, 0)) (by (with_reducible repeat (first | refine blk_drewN ?_ _ | refine blk_drew ?_ | refine blk_alloc ?_ _)); exact BK188.out) hb); have n1_ := Aside0.mk (below_step (by repeat (first | (with_reducible first | exact HB.out | apply below_alloc | apply pw_below_drewN | apply below_drew1 | refine below_set ?_ GE188.out) | exact HB.out)) hb); clear BK188; clear HB; have BK188 := n0_; have HB := n1_; clear n0_ n1_; (try clear hb); (try clear hb2); (try clear hk); (try clear hi); have hcz17_0 : w16.cell? ⟨gb188, 0, none⟩ = some (.int .i64 a1_0) := (blk_cell BK188.out 0).trans rfl; have hcz17_1 : w16.cell? ⟨gb188, 1, none⟩ = some (.slice A1_1 l1_1.length c1_1) := (blk_cell BK188.out 1).trans rfl; have hcz17_2 : w16.cell? ⟨gb188, 2, none⟩ = some (.slice A1_2 l1_2.length c1_2) := (blk_cell BK188.out 2).trans rfl; have hfz17_0 := blk_frozen BK188.out 0; have hfz17_1 := blk_frozen BK188.out 1; have hfz17_2 := blk_frozen BK188.out 2) | (go_at_call 64; (with_reducible refine (spec_l01In.calls a1_0 0 2 true _ A7.out).mono ?_); rintro e w' ⟨rfl, ⟨nd, rfl⟩⟩))
          go_meet
          case rel => exact ⟨_, (true), (by first | rfl | (simp; done) | (simp [*]; done)), H', ⟨by first | omega | exact Nat.le_refl _⟩, ⟨by (with_reducible repeat (first | refine blk_drewN ?_ _ | refine blk_drew ?_ | refine blk_alloc ?_ _)); exact BK188.out⟩, ⟨by repeat (first | (with_reducible first | exact HB.out | apply below_alloc | apply pw_below_drewN | apply below_drew1 | refine below_set ?_ GE188.out) | exact HB.out)⟩⟩
      · replace c8 := Bool.eq_false_iff.mpr c8
        subst c8
        have H1 : (spec_WarpOk.j0 k l0 true a1_0 l1_1 l1_2) = some r := by rw [if_neg (show ¬ (false = true) by decide)] at H; exact H
        clear H
        have H := H1
        clear H1
        have H' := Aside0.mk H
        clear H
        go_wp2_with (first | ((with_reducible refine gate_callee (f := 74) rfl ?_); refine goesL_ (some 8) rfl rfl Try.func74 (by kernel_rfl) rfl #[.slice A0 l0.length c0] rfl (by (try simp only [List.map_toArray, List.map_cons, List.map_nil]); first | done | rfl | (simp only [List.length_drop, List.length_take]; rfl)) ?_; (with_reducible refine (spec_ProgramOk.calls k _ _ l0 true _ ?side1 ?side2 A5.out).mono ?_); (case side1 => repeat (first | exact (Kd.C_below HR0.out HB.out) | (with_reducible refine Kd.C_alloc ?_ _) | (with_reducible refine Kd.C_drewN ?_ _) | (with_reducible refine Kd.C_drew ?_))); (case side2 => exact HC0.out); rintro e w18 ⟨rfl, hb⟩; refine ⟨_, rfl, ?_⟩; have n0_ := Aside0.mk (blk_below (g := gb188) (o := .cells #[.int .i64 a1_0, .slice A1_1 l1_1.length c1_1, .slice A1_2 l1_2.length c1_2] 30 (0, 0)) (by (with_reducible repeat (first | refine blk_drewN ?_ _ | refine blk_drew ?_ | refine blk_alloc ?_ _)); exact BK188.out) hb); have n1_ := Aside0.mk (below_step (by repeat (first | (with_reducible first | exact HB.out | apply below_alloc | apply pw_below_drewN | apply below_drew1 | refine below_set ?_ GE188.out) | exact HB.out)) hb); clear BK188; clear HB; have BK188 := n0_; have HB := n1_; clear n0_ n1_; (try clear hb); (try clear hb2); (try clear hk); (try clear hi); have hcz19_0 : w18.cell? ⟨gb188, 0, none⟩ = some (.int .i64 a1_0) := (blk_cell BK188.out 0).trans rfl; have hcz19_1 : w18.cell? ⟨gb188, 1, none⟩ = some (.slice A1_1 l1_1.length c1_1) := (blk_cell BK188.out 1).trans rfl; have hcz19_2 : w18.cell? ⟨gb188, 2, none⟩ = some (.slice A1_2 l1_2.length c1_2) := (blk_cell BK188.out 2).trans rfl; have hfz19_0 := blk_frozen BK188.out 0; have hfz19_1 := blk_frozen BK188.out 1; have hfz19_2 := blk_frozen BK188.out 2) | (go_at_call 64; (with_reducible refine (spec_l01In.calls a1_0 0 2 false _ A7.out).mono ?_); rintro e w' ⟨rfl, ⟨nd, rfl⟩⟩))
        go_meet
        case rel => exact ⟨_, (true), (by first | rfl | (simp; done) | (simp [*]; done)), H', ⟨by first | omega | exact Nat.le_refl _⟩, ⟨by (with_reducible repeat (first | refine blk_drewN ?_ _ | refine blk_drew ?_ | refine blk_alloc ?_ _)); exact BK188.out⟩, ⟨by repeat (first | (with_reducible first | exact HB.out | apply below_alloc | apply pw_below_drewN | apply below_drew1 | refine below_set ?_ GE188.out) | exact HB.out)⟩⟩
    · replace c6 := Bool.eq_false_iff.mpr c6
      subst c6
      have H1 : (spec_WarpOk.j0 k l0 true a1_0 l1_1 l1_2) = some r := by rw [if_neg (show ¬ (false = true) by decide)] at H; exact H
      clear H
      have H := H1
      clear H1
      have H' := Aside0.mk H
      clear H
      go_wp2_with (first | ((with_reducible refine gate_callee (f := 74) rfl ?_); refine goesL_ (some 8) rfl rfl Try.func74 (by kernel_rfl) rfl #[.slice A0 l0.length c0] rfl (by (try simp only [List.map_toArray, List.map_cons, List.map_nil]); first | done | rfl | (simp only [List.length_drop, List.length_take]; rfl)) ?_; (with_reducible refine (spec_ProgramOk.calls k _ _ l0 false _ ?side1 ?side2 A5.out).mono ?_); (case side1 => repeat (first | exact (Kd.C_below HR0.out HB.out) | (with_reducible refine Kd.C_alloc ?_ _) | (with_reducible refine Kd.C_drewN ?_ _) | (with_reducible refine Kd.C_drew ?_))); (case side2 => exact HC0.out); rintro e w20 ⟨rfl, hb⟩; refine ⟨_, rfl, ?_⟩; have n0_ := Aside0.mk (blk_below (g := gb188) (o := .cells #[.int .i64 a1_0, .slice A1_1 l1_1.length c1_1, .slice A1_2 l1_2.length c1_2] 30 (0, 0)) (by (with_reducible repeat (first | refine blk_drewN ?_ _ | refine blk_drew ?_ | refine blk_alloc ?_ _)); exact BK188.out) hb); have n1_ := Aside0.mk (below_step (by repeat (first | (with_reducible first | exact HB.out | apply below_alloc | apply pw_below_drewN | apply below_drew1 | refine below_set ?_ GE188.out) | exact HB.out)) hb); clear BK188; clear HB; have BK188 := n0_; have HB := n1_; clear n0_ n1_; (try clear hb); (try clear hb2); (try clear hk); (try clear hi)))
      go_meet
      case rel => exact ⟨_, (true), (by first | rfl | (simp; done) | (simp [*]; done)), H', ⟨by first | omega | exact Nat.le_refl _⟩, ⟨by (with_reducible repeat (first | refine blk_drewN ?_ _ | refine blk_drew ?_ | refine blk_alloc ?_ _)); exact BK188.out⟩, ⟨by repeat (first | (with_reducible first | exact HB.out | apply below_alloc | apply pw_below_drewN | apply below_drew1 | refine below_set ?_ GE188.out) | exact HB.out)⟩⟩
  case rest =>
    clear HC3
    try clear c1
    try clear p2
    try clear c4
    try clear c6
    try clear c7
    try clear c8
    try clear c9
    try clear c9b0
    try clear c9b1
    try clear c11
    try clear hcz13_0
    try clear hcz13_1
    try clear hcz13_2
    try clear hcz15_0
    try clear hcz15_1
    try clear hcz15_2
    try clear hcz17_0
    try clear hcz17_1
    try clear hcz17_2
    try clear hcz19_0
    try clear hcz19_1
    try clear hcz19_2
    try clear hfz13_0
    try clear hfz13_1
    try clear hfz13_2
    try clear hfz15_0
    try clear hfz15_1
    try clear hfz15_2
    try clear hfz17_0
    try clear hfz17_1
    try clear hfz17_2
    try clear hfz19_0
    try clear hfz19_1
    try clear hfz19_2
    obtain ⟨kq, x33_2, rfl, HA, HJ2, BK188, HB⟩ := hcut
    cases kq with
    | zero => exact absurd HA.out (by simp [spec_WarpOk.j0])
    | succ kj2 =>
      have H := HA.out
      clear HA
      simp only [spec_WarpOk.j0] at H
      by_cases c21 : x33_2 = true
      · subst c21
        have H1 : (some false) = some r := by rw [if_pos rfl] at H; exact H
        clear H
        have H := H1
        clear H1
        obtain rfl := Option.some.inj H
        go_wp2
        go_ret
        exact ⟨by first | rfl | (simp [errW_none, errW_some] <;> rfl) | (simp [*, errW_none, errW_some] <;> rfl), by repeat (first | (with_reducible first | exact HB.out | apply below_alloc | apply pw_below_drewN | apply below_drew1 | refine below_set ?_ GE188.out) | exact HB.out)⟩
      · replace c21 := Bool.eq_false_iff.mpr c21
        subst c21
        have H1 : (spec_WarpOk.l0 kj2 l0 0 a1_0 l1_1 l1_2) = some r := by rw [if_neg (show ¬ (false = true) by decide)] at H; exact H
        clear H
        have H := H1
        clear H1
        have H' := Aside0.mk H
        clear H
        go_wp2
        go_loopg [5] kj2 (fun kq v5 w' => ∃ (x5_2 : Int), v5 = .int .i64 x5_2 ∧ Aside0 (spec_WarpOk.l0 kq l0 x5_2 a1_0 l1_1 l1_2 = some r) ∧ Aside0 (kq ≤ kj2) ∧ Aside0 (w'.heap[gb188]? = some (.cells #[.int .i64 a1_0, (.slice A1_1 l1_1.length c1_1), (.slice A1_2 l1_2.length c1_2)] 30 (0, 0))) ∧ Aside0 (Below w.heap.size w w'))
        case atStart => exact ⟨(0), (by first | rfl | (simp; done) | (simp [*]; done)), H', ⟨Nat.le_refl _⟩, ⟨by (with_reducible repeat (first | refine blk_drewN ?_ _ | refine blk_drew ?_ | refine blk_alloc ?_ _)); exact BK188.out⟩, ⟨by repeat (first | (with_reducible first | exact HB.out | apply below_alloc | apply pw_below_drewN | apply below_drew1 | refine below_set ?_ GE188.out) | exact HB.out)⟩⟩
        case round =>
          clear H'
          try clear c1
          try clear c2
          try clear p2
          try clear c4
          try clear c6
          try clear c7
          try clear c8
          try clear c9
          try clear c9b0
          try clear c9b1
          try clear c11
          try clear c21
          try clear hcz13_0
          try clear hcz13_1
          try clear hcz13_2
          try clear hcz15_0
          try clear hcz15_1
          try clear hcz15_2
          try clear hcz17_0
          try clear hcz17_1
          try clear hcz17_2
          try clear hcz19_0
          try clear hcz19_1
          try clear hcz19_2
          try clear hfz13_0
          try clear hfz13_1
          try clear hfz13_2
          try clear hfz15_0
          try clear hfz15_1
          try clear hfz15_2
          try clear hfz17_0
          try clear hfz17_1
          try clear hfz17_2
          try clear hfz19_0
          try clear hfz19_1
          try clear hfz19_2
          try clear p2
          obtain ⟨x5_2, rfl, HA, HK2, BK188, HB⟩ := hrel
          cases gk with
          | zero => exact absurd HA.out (by simp [spec_WarpOk.l0])
          | succ k2 =>
            have H := HA.out
            clear HA
            simp only [spec_WarpOk.l0] at H
            by_cases c22 : x5_2 < (l1_1.length : Int)
            · rw [if_pos c22] at H
              have c22b0 : decide (x5_2 < (l1_1.length : Int)) = true := decide_eq_true c22
              clear c22
              by_cases c23 : 0 ≤ x5_2
              · rw [if_pos c23] at H
                have c23b0 : decide (0 ≤ x5_2) = true := decide_eq_true c23
                clear c23
                have HC24 := Aside0.mk H
                clear H
                have hcz25_0 : wr.cell? ⟨gb188, 0, none⟩ = some (.int .i64 a1_0) := (blk_cell BK188.out 0).trans rfl
                have hcz25_1 : wr.cell? ⟨gb188, 1, none⟩ = some (.slice A1_1 l1_1.length c1_1) := (blk_cell BK188.out 1).trans rfl
                have hcz25_2 : wr.cell? ⟨gb188, 2, none⟩ = some (.slice A1_2 l1_2.length c1_2) := (blk_cell BK188.out 2).trans rfl
                have hfz25_0 := blk_frozen BK188.out 0
                have hfz25_1 := blk_frozen BK188.out 1
                have hfz25_2 := blk_frozen BK188.out 2
                have p192 : 0 ≤ (x5_2 : Int) := of_decide_eq_true (by first | (with_reducible assumption) | assumption)
                have q192 : x5_2 < (l1_1.length : Int) := of_decide_eq_true (by first | (with_reducible assumption) | assumption)
                obtain ⟨ad192, e192, hx192_0, hx192_1, hx192_2⟩ := at_T82 HR1_1.out x5_2 p192 q192
                cases e192
                replace hx192_0 := (HB.out.cell (World.block_lt_of_cell? w _ hx192_0)).trans hx192_0
                replace hx192_1 := (HB.out.cell (World.block_lt_of_cell? w _ hx192_1)).trans hx192_1
                replace hx192_2 := (HB.out.cell (World.block_lt_of_cell? w _ hx192_2)).trans hx192_2
                replace p192 := eq_true p192
                replace q192 := eq_true q192
                go_upto_region 7 with (first | ((with_reducible refine gate_dst (N := 6) rfl ?_); (try (refine gate_guard (by rfl) ?_; dsimp only)); refine box_event ?hg (N := 6) ?hd (cs := #[.int .i64 0, .int .i64 0, .int .i64 0]) (t := 82) ?hr ?_; (case hd => rfl); (case hg => rfl); (case hr => first | (go_simp; done) | (go_simp; rfl)); intro gb193 hg w26 hbox hb; have n0_ := Aside0.mk (blk_below (g := gb188) (o := .cells #[.int .i64 a1_0, .slice (some ad192) l1_1.length c1_1, .slice A1_2 l1_2.length c1_2] 30 (0, 0)) (by (with_reducible repeat (first | refine blk_drewN ?_ _ | refine blk_drew ?_ | refine blk_alloc ?_ _)); exact BK188.out) hb); have n1_ := Aside0.mk (below_step (by repeat (first | (with_reducible first | exact HB.out | apply below_alloc | apply pw_below_drewN | apply below_drew1 | refine below_set ?_ GE188.out) | exact HB.out)) hb); have n2_ := Aside0.mk (hbox); have n3_ := Aside0.mk ((by rw [hg]; exact (below_size (by repeat (first | (with_reducible first | exact HB.out | apply below_alloc | apply pw_below_drewN | apply below_drew1 | refine below_set ?_ GE188.out) | exact HB.out))) : w.heap.size ≤ gb193)); have n4_ := Aside0.mk ((by rw [hg]; exact (below_size (by repeat (first | (with_reducible first | exact HB.out | apply below_alloc | apply pw_below_drewN | apply below_drew1 | refine below_set ?_ GE188.out) | exact HB.out))) : w.heap.size ≤ gb193)); have n5_ := Aside0.mk ((by rw [hg]; exact Nat.ne_of_lt (blk_lt (g := gb188) (o := .cells #[.int .i64 a1_0, .slice (some ad192) l1_1.length c1_1, .slice A1_2 l1_2.length c1_2] 30 (0, 0)) (by (with_reducible repeat (first | refine blk_drewN ?_ _ | refine blk_drew ?_ | refine blk_alloc ?_ _)); exact BK188.out)) : gb188 ≠ gb193)); have n6_ := Aside0.mk ((by rw [hg]; exact Nat.ne_of_gt (blk_lt (g := gb188) (o := .cells #[.int .i64 a1_0, .slice (some ad192) l1_1.length c1_1, .slice A1_2 l1_2.length c1_2] 30 (0, 0)) (by (with_reducible repeat (first | refine blk_drewN ?_ _ | refine blk_drew ?_ | refine blk_alloc ?_ _)); exact BK188.out)) : gb193 ≠ gb188)); clear BK188; clear HB; have BK188 := n0_; have HB := n1_; have BK193 := n2_; have GW193 := n3_; have GE193 := n4_; have NB188_193 := n5_; have NB193_188 := n6_; clear n0_ n1_ n2_ n3_ n4_ n5_ n6_; clear hb hbox hg; have hnb27 := NB193_188.out; have hnc27 := NB188_193.out; have hcz28_0 : w26.cell? ⟨gb193, 0, none⟩ = some (.int .i64 0) := (blk_cell BK193.out 0).trans rfl; have hcz28_1 : w26.cell? ⟨gb193, 1, none⟩ = some (.int .i64 0) := (blk_cell BK193.out 1).trans rfl; have hcz28_2 : w26.cell? ⟨gb193, 2, none⟩ = some (.int .i64 0) := (blk_cell BK193.out 2).trans rfl; have hfz28_0 := blk_frozen BK193.out 0; have hfz28_1 := blk_frozen BK193.out 1; have hfz28_2 := blk_frozen BK193.out 2))
                (try simp only [Act.put, List.setIfInBounds_toArray, List.set_cons_zero, List.set_cons_succ])
                go_cut [70] (fun v70 wc => ∃ (kq : Nat) (x70_23 : Bool), v70 = .bool x70_23 ∧ Aside0 (spec_WarpOk.j2 kq l0 x5_2 x70_23 a1_0 l1_1 l1_2 ((rd_T82 l1_1 x5_2).f0) ((rd_T82 l1_1 x5_2).f1) ((rd_T82 l1_1 x5_2).f2) = some r) ∧ Aside0 (kq ≤ k2) ∧ Aside0 (wc.heap[gb188]? = some (.cells #[.int .i64 a1_0, (.slice (some ad192) l1_1.length c1_1), (.slice A1_2 l1_2.length c1_2)] 30 (0, 0))) ∧ Aside0 (wc.heap[gb193]? = some (.cells #[.int .i64 ((rd_T82 l1_1 x5_2).f0), .int .i64 ((rd_T82 l1_1 x5_2).f1), .int .i64 ((rd_T82 l1_1 x5_2).f2)] 82 (0, 0))) ∧ Aside0 (Below w.heap.size w wc))
                case first =>
                  have H := HC24.out
                  clear HC24
                  replace H := Option.bind_eq_some_iff.mp H
                  obtain ⟨t194, A290, H⟩ := H
                  replace H : (if t194 = true then ((spec_l01In.f ((rd_T82 l1_1 x5_2).f1) 0 (l0.length : Int)).bind fun t195 => (if t195 = true then ((spec_IsMask.f ((rd_T82 l1_1 x5_2).f2)).bind fun t196 => (if t196 = true then (spec_WarpOk.j2 k2 l0 x5_2 (((rd_T82 l1_1 x5_2).f2) == 0) a1_0 l1_1 l1_2 ((rd_T82 l1_1 x5_2).f0) ((rd_T82 l1_1 x5_2).f1) ((rd_T82 l1_1 x5_2).f2)) else (spec_WarpOk.j2 k2 l0 x5_2 true a1_0 l1_1 l1_2 ((rd_T82 l1_1 x5_2).f0) ((rd_T82 l1_1 x5_2).f1) ((rd_T82 l1_1 x5_2).f2)))) else (spec_WarpOk.j2 k2 l0 x5_2 true a1_0 l1_1 l1_2 ((rd_T82 l1_1 x5_2).f0) ((rd_T82 l1_1 x5_2).f1) ((rd_T82 l1_1 x5_2).f2)))) else (spec_WarpOk.j2 k2 l0 x5_2 true a1_0 l1_1 l1_2 ((rd_T82 l1_1 x5_2).f0) ((rd_T82 l1_1 x5_2).f1) ((rd_T82 l1_1 x5_2).f2))) = some r := H
                  have A29 := Aside0.mk A290
                  clear A290
                  by_cases c30 : t194 = true
                  · subst c30
                    have H1 : ((spec_l01In.f ((rd_T82 l1_1 x5_2).f1) 0 (l0.length : Int)).bind fun t195 => (if t195 = true then ((spec_IsMask.f ((rd_T82 l1_1 x5_2).f2)).bind fun t196 => (if t196 = true then (spec_WarpOk.j2 k2 l0 x5_2 (((rd_T82 l1_1 x5_2).f2) == 0) a1_0 l1_1 l1_2 ((rd_T82 l1_1 x5_2).f0) ((rd_T82 l1_1 x5_2).f1) ((rd_T82 l1_1 x5_2).f2)) else (spec_WarpOk.j2 k2 l0 x5_2 true a1_0 l1_1 l1_2 ((rd_T82 l1_1 x5_2).f0) ((rd_T82 l1_1 x5_2).f1) ((rd_T82 l1_1 x5_2).f2)))) else (spec_WarpOk.j2 k2 l0 x5_2 true a1_0 l1_1 l1_2 ((rd_T82 l1_1 x5_2).f0) ((rd_T82 l1_1 x5_2).f1) ((rd_T82 l1_1 x5_2).f2)))) = some r := by rw [if_pos rfl] at H; exact H
                    clear H
                    have H := H1
                    clear H1
                    replace H := Option.bind_eq_some_iff.mp H
                    obtain ⟨t195, A310, H⟩ := H
                    replace H : (if t195 = true then ((spec_IsMask.f ((rd_T82 l1_1 x5_2).f2)).bind fun t196 => (if t196 = true then (spec_WarpOk.j2 k2 l0 x5_2 (((rd_T82 l1_1 x5_2).f2) == 0) a1_0 l1_1 l1_2 ((rd_T82 l1_1 x5_2).f0) ((rd_T82 l1_1 x5_2).f1) ((rd_T82 l1_1 x5_2).f2)) else (spec_WarpOk.j2 k2 l0 x5_2 true a1_0 l1_1 l1_2 ((rd_T82 l1_1 x5_2).f0) ((rd_T82 l1_1 x5_2).f1) ((rd_T82 l1_1 x5_2).f2)))) else (spec_WarpOk.j2 k2 l0 x5_2 true a1_0 l1_1 l1_2 ((rd_T82 l1_1 x5_2).f0) ((rd_T82 l1_1 x5_2).f1) ((rd_T82 l1_1 x5_2).f2))) = some r := H
                    have A31 := Aside0.mk A310
                    clear A310
                    by_cases c32 : t195 = true
                    · subst c32
                      have H1 : ((spec_IsMask.f ((rd_T82 l1_1 x5_2).f2)).bind fun t196 => (if t196 = true then (spec_WarpOk.j2 k2 l0 x5_2 (((rd_T82 l1_1 x5_2).f2) == 0) a1_0 l1_1 l1_2 ((rd_T82 l1_1 x5_2).f0) ((rd_T82 l1_1 x5_2).f1) ((rd_T82 l1_1 x5_2).f2)) else (spec_WarpOk.j2 k2 l0 x5_2 true a1_0 l1_1 l1_2 ((rd_T82 l1_1 x5_2).f0) ((rd_T82 l1_1 x5_2).f1) ((rd_T82 l1_1 x5_2).f2)))) = some r := by rw [if_pos rfl] at H; exact H
                      clear H
                      have H := H1
                      clear H1
                      replace H := Option.bind_eq_some_iff.mp H
                      obtain ⟨t196, A330, H⟩ := H
                      replace H : (if t196 = true then (spec_WarpOk.j2 k2 l0 x5_2 (((rd_T82 l1_1 x5_2).f2) == 0) a1_0 l1_1 l1_2 ((rd_T82 l1_1 x5_2).f0) ((rd_T82 l1_1 x5_2).f1) ((rd_T82 l1_1 x5_2).f2)) else (spec_WarpOk.j2 k2 l0 x5_2 true a1_0 l1_1 l1_2 ((rd_T82 l1_1 x5_2).f0) ((rd_T82 l1_1 x5_2).f1) ((rd_T82 l1_1 x5_2).f2))) = some r := H
                      have A33 := Aside0.mk A330
                      clear A330
                      by_cases c34 : t196 = true
                      · subst c34
                        have H1 : (spec_WarpOk.j2 k2 l0 x5_2 (((rd_T82 l1_1 x5_2).f2) == 0) a1_0 l1_1 l1_2 ((rd_T82 l1_1 x5_2).f0) ((rd_T82 l1_1 x5_2).f1) ((rd_T82 l1_1 x5_2).f2)) = some r := by rw [if_pos rfl] at H; exact H
                        clear H
                        have H := H1
                        clear H1
                        have H' := Aside0.mk H
                        clear H
                        have hnb35 := NB193_188.out
                        have hnc35 := NB188_193.out
                        have hcz36_0 : w26.cell? ⟨gb193, 0, none⟩ = some (.int .i64 0) := (blk_cell BK193.out 0).trans rfl
                        have hcz36_1 : w26.cell? ⟨gb193, 1, none⟩ = some (.int .i64 0) := (blk_cell BK193.out 1).trans rfl
                        have hcz36_2 : w26.cell? ⟨gb193, 2, none⟩ = some (.int .i64 0) := (blk_cell BK193.out 2).trans rfl
                        have hfz36_0 := blk_frozen BK193.out 0
                        have hfz36_1 := blk_frozen BK193.out 1
                        have hfz36_2 := blk_frozen BK193.out 2
                        go_wp2_with (first | ((with_reducible refine gate_callee (f := 64) rfl ?_); refine goesL_ (some 50) rfl rfl Try.func64 (by kernel_rfl) rfl #[.int .i64 ((rd_T82 l1_1 x5_2).f0), .int .i64 0, .int .i64 (l0.length : Int)] rfl (by (try simp only [List.map_toArray, List.map_cons, List.map_nil]); first | done | rfl | (simp only [List.length_drop, List.length_take]; rfl)) ?_; (with_reducible refine (spec_l01In.calls ((rd_T82 l1_1 x5_2).f0) 0 (l0.length : Int) true _ A29.out).mono ?_); rintro e w' ⟨rfl, ⟨nd, rfl⟩⟩; refine ⟨_, rfl, ?_⟩) | (go_at_call 64; (with_reducible refine (spec_l01In.calls ((rd_T82 l1_1 x5_2).f1) 0 (l0.length : Int) true _ A31.out).mono ?_); rintro e w' ⟨rfl, ⟨nd, rfl⟩⟩) | (go_at_call 80; (with_reducible refine (spec_IsMask.calls ((rd_T82 l1_1 x5_2).f2) true _ A33.out).mono ?_); rintro e w' ⟨rfl, ⟨nd, rfl⟩⟩))
                        go_meet
                        case rel => exact ⟨_, ((((rd_T82 l1_1 x5_2).f2) == 0)), (by first | rfl | (simp; done) | (simp [*]; done)), H', ⟨by have := HJ2.out; have := HK2.out; first | omega | exact Nat.le_refl _⟩, ⟨by (with_reducible repeat (first | refine blk_drewN ?_ _ | refine blk_drew ?_ | refine blk_alloc ?_ _)); refine blk_far ?_ NB188_193.out _; (with_reducible repeat (first | refine blk_drewN ?_ _ | refine blk_drew ?_ | refine blk_alloc ?_ _)); refine blk_far ?_ NB188_193.out _; (with_reducible repeat (first | refine blk_drewN ?_ _ | refine blk_drew ?_ | refine blk_alloc ?_ _)); refine blk_far ?_ NB188_193.out _; (with_reducible repeat (first | refine blk_drewN ?_ _ | refine blk_drew ?_ | refine blk_alloc ?_ _)); exact BK188.out⟩, ⟨by (with_reducible repeat (first | refine blk_drewN ?_ _ | refine blk_drew ?_ | refine blk_alloc ?_ _)); refine blk_put (cs := #[.int .i64 ((rd_T82 l1_1 x5_2).f0), .int .i64 ((rd_T82 l1_1 x5_2).f1), .int .i64 0]) ?_ 2 _ rfl; (with_reducible repeat (first | refine blk_drewN ?_ _ | refine blk_drew ?_ | refine blk_alloc ?_ _)); refine blk_put (cs := #[.int .i64 ((rd_T82 l1_1 x5_2).f0), .int .i64 0, .int .i64 0]) ?_ 1 _ rfl; (with_reducible repeat (first | refine blk_drewN ?_ _ | refine blk_drew ?_ | refine blk_alloc ?_ _)); refine blk_put (cs := #[.int .i64 0, .int .i64 0, .int .i64 0]) ?_ 0 _ rfl; (with_reducible repeat (first | refine blk_drewN ?_ _ | refine blk_drew ?_ | refine blk_alloc ?_ _)); exact BK193.out⟩, ⟨by repeat (first | (with_reducible first | exact HB.out | apply below_alloc | apply pw_below_drewN | apply below_drew1 | refine below_set ?_ GE188.out | refine below_set ?_ GE193.out) | exact HB.out)⟩⟩
                      · replace c34 := Bool.eq_false_iff.mpr c34
                        subst c34
                        have H1 : (spec_WarpOk.j2 k2 l0 x5_2 true a1_0 l1_1 l1_2 ((rd_T82 l1_1 x5_2).f0) ((rd_T82 l1_1 x5_2).f1) ((rd_T82 l1_1 x5_2).f2)) = some r := by rw [if_neg (show ¬ (false = true) by decide)] at H; exact H
                        clear H
                        have H := H1
                        clear H1
                        have H' := Aside0.mk H
                        clear H
                        have hnb37 := NB193_188.out
                        have hnc37 := NB188_193.out
                        have hcz38_0 : w26.cell? ⟨gb193, 0, none⟩ = some (.int .i64 0) := (blk_cell BK193.out 0).trans rfl
                        have hcz38_1 : w26.cell? ⟨gb193, 1, none⟩ = some (.int .i64 0) := (blk_cell BK193.out 1).trans rfl
                        have hcz38_2 : w26.cell? ⟨gb193, 2, none⟩ = some (.int .i64 0) := (blk_cell BK193.out 2).trans rfl
                        have hfz38_0 := blk_frozen BK193.out 0
                        have hfz38_1 := blk_frozen BK193.out 1
                        have hfz38_2 := blk_frozen BK193.out 2
                        go_wp2_with (first | ((with_reducible refine gate_callee (f := 64) rfl ?_); refine goesL_ (some 50) rfl rfl Try.func64 (by kernel_rfl) rfl #[.int .i64 ((rd_T82 l1_1 x5_2).f0), .int .i64 0, .int .i64 (l0.length : Int)] rfl (by (try simp only [List.map_toArray, List.map_cons, List.map_nil]); first | done | rfl | (simp only [List.length_drop, List.length_take]; rfl)) ?_; (with_reducible refine (spec_l01In.calls ((rd_T82 l1_1 x5_2).f0) 0 (l0.length : Int) true _ A29.out).mono ?_); rintro e w' ⟨rfl, ⟨nd, rfl⟩⟩; refine ⟨_, rfl, ?_⟩) | (go_at_call 64; (with_reducible refine (spec_l01In.calls ((rd_T82 l1_1 x5_2).f1) 0 (l0.length : Int) true _ A31.out).mono ?_); rintro e w' ⟨rfl, ⟨nd, rfl⟩⟩) | (go_at_call 80; (with_reducible refine (spec_IsMask.calls ((rd_T82 l1_1 x5_2).f2) false _ A33.out).mono ?_); rintro e w' ⟨rfl, ⟨nd, rfl⟩⟩))
                        go_meet
                        case rel => exact ⟨_, (true), (by first | rfl | (simp; done) | (simp [*]; done)), H', ⟨by have := HJ2.out; have := HK2.out; first | omega | exact Nat.le_refl _⟩, ⟨by (with_reducible repeat (first | refine blk_drewN ?_ _ | refine blk_drew ?_ | refine blk_alloc ?_ _)); refine blk_far ?_ NB188_193.out _; (with_reducible repeat (first | refine blk_drewN ?_ _ | refine blk_drew ?_ | refine blk_alloc ?_ _)); refine blk_far ?_ NB188_193.out _; (with_reducible repeat (first | refine blk_drewN ?_ _ | refine blk_drew ?_ | refine blk_alloc ?_ _)); refine blk_far ?_ NB188_193.out _; (with_reducible repeat (first | refine blk_drewN ?_ _ | refine blk_drew ?_ | refine blk_alloc ?_ _)); exact BK188.out⟩, ⟨by (with_reducible repeat (first | refine blk_drewN ?_ _ | refine blk_drew ?_ | refine blk_alloc ?_ _)); refine blk_put (cs := #[.int .i64 ((rd_T82 l1_1 x5_2).f0), .int .i64 ((rd_T82 l1_1 x5_2).f1), .int .i64 0]) ?_ 2 _ rfl; (with_reducible repeat (first | refine blk_drewN ?_ _ | refine blk_drew ?_ | refine blk_alloc ?_ _)); refine blk_put (cs := #[.int .i64 ((rd_T82 l1_1 x5_2).f0), .int .i64 0, .int .i64 0]) ?_ 1 _ rfl; (with_reducible repeat (first | refine blk_drewN ?_ _ | refine blk_drew ?_ | refine blk_alloc ?_ _)); refine blk_put (cs := #[.int .i64 0, .int .i64 0, .int .i64 0]) ?_ 0 _ rfl; (with_reducible repeat (first | refine blk_drewN ?_ _ | refine blk_drew ?_ | refine blk_alloc ?_ _)); exact BK193.out⟩, ⟨by repeat (first | (with_reducible first | exact HB.out | apply below_alloc | apply pw_below_drewN | apply below_drew1 | refine below_set ?_ GE188.out | refine below_set ?_ GE193.out) | exact HB.out)⟩⟩
                    · replace c32 := Bool.eq_false_iff.mpr c32
                      subst c32
                      have H1 : (spec_WarpOk.j2 k2 l0 x5_2 true a1_0 l1_1 l1_2 ((rd_T82 l1_1 x5_2).f0) ((rd_T82 l1_1 x5_2).f1) ((rd_T82 l1_1 x5_2).f2)) = some r := by rw [if_neg (show ¬ (false = true) by decide)] at H; exact H
                      clear H
                      have H := H1
                      clear H1
                      have H' := Aside0.mk H
                      clear H
                      have hnb39 := NB193_188.out
                      have hnc39 := NB188_193.out
                      have hcz40_0 : w26.cell? ⟨gb193, 0, none⟩ = some (.int .i64 0) := (blk_cell BK193.out 0).trans rfl
                      have hcz40_1 : w26.cell? ⟨gb193, 1, none⟩ = some (.int .i64 0) := (blk_cell BK193.out 1).trans rfl
                      have hcz40_2 : w26.cell? ⟨gb193, 2, none⟩ = some (.int .i64 0) := (blk_cell BK193.out 2).trans rfl
                      have hfz40_0 := blk_frozen BK193.out 0
                      have hfz40_1 := blk_frozen BK193.out 1
                      have hfz40_2 := blk_frozen BK193.out 2
                      go_wp2_with (first | ((with_reducible refine gate_callee (f := 64) rfl ?_); refine goesL_ (some 50) rfl rfl Try.func64 (by kernel_rfl) rfl #[.int .i64 ((rd_T82 l1_1 x5_2).f0), .int .i64 0, .int .i64 (l0.length : Int)] rfl (by (try simp only [List.map_toArray, List.map_cons, List.map_nil]); first | done | rfl | (simp only [List.length_drop, List.length_take]; rfl)) ?_; (with_reducible refine (spec_l01In.calls ((rd_T82 l1_1 x5_2).f0) 0 (l0.length : Int) true _ A29.out).mono ?_); rintro e w' ⟨rfl, ⟨nd, rfl⟩⟩; refine ⟨_, rfl, ?_⟩) | (go_at_call 64; (with_reducible refine (spec_l01In.calls ((rd_T82 l1_1 x5_2).f1) 0 (l0.length : Int) false _ A31.out).mono ?_); rintro e w' ⟨rfl, ⟨nd, rfl⟩⟩))
                      go_meet
                      case rel => exact ⟨_, (true), (by first | rfl | (simp; done) | (simp [*]; done)), H', ⟨by have := HJ2.out; have := HK2.out; first | omega | exact Nat.le_refl _⟩, ⟨by (with_reducible repeat (first | refine blk_drewN ?_ _ | refine blk_drew ?_ | refine blk_alloc ?_ _)); refine blk_far ?_ NB188_193.out _; (with_reducible repeat (first | refine blk_drewN ?_ _ | refine blk_drew ?_ | refine blk_alloc ?_ _)); refine blk_far ?_ NB188_193.out _; (with_reducible repeat (first | refine blk_drewN ?_ _ | refine blk_drew ?_ | refine blk_alloc ?_ _)); refine blk_far ?_ NB188_193.out _; (with_reducible repeat (first | refine blk_drewN ?_ _ | refine blk_drew ?_ | refine blk_alloc ?_ _)); exact BK188.out⟩, ⟨by (with_reducible repeat (first | refine blk_drewN ?_ _ | refine blk_drew ?_ | refine blk_alloc ?_ _)); refine blk_put (cs := #[.int .i64 ((rd_T82 l1_1 x5_2).f0), .int .i64 ((rd_T82 l1_1 x5_2).f1), .int .i64 0]) ?_ 2 _ rfl; (with_reducible repeat (first | refine blk_drewN ?_ _ | refine blk_drew ?_ | refine blk_alloc ?_ _)); refine blk_put (cs := #[.int .i64 ((rd_T82 l1_1 x5_2).f0), .int .i64 0, .int .i64 0]) ?_ 1 _ rfl; (with_reducible repeat (first | refine blk_drewN ?_ _ | refine blk_drew ?_ | refine blk_alloc ?_ _)); refine blk_put (cs := #[.int .i64 0, .int .i64 0, .int .i64 0]) ?_ 0 _ rfl; (with_reducible repeat (first | refine blk_drewN ?_ _ | refine blk_drew ?_ | refine blk_alloc ?_ _)); exact BK193.out⟩, ⟨by repeat (first | (with_reducible first | exact HB.out | apply below_alloc | apply pw_below_drewN | apply below_drew1 | refine below_set ?_ GE188.out | refine below_set ?_ GE193.out) | exact HB.out)⟩⟩
                  · replace c30 := Bool.eq_false_iff.mpr c30
                    subst c30
                    have H1 : (spec_WarpOk.j2 k2 l0 x5_2 true a1_0 l1_1 l1_2 ((rd_T82 l1_1 x5_2).f0) ((rd_T82 l1_1 x5_2).f1) ((rd_T82 l1_1 x5_2).f2)) = some r := by rw [if_neg (show ¬ (false = true) by decide)] at H; exact H
                    clear H
                    have H := H1
                    clear H1
                    have H' := Aside0.mk H
                    clear H
                    have hnb41 := NB193_188.out
                    have hnc41 := NB188_193.out
                    have hcz42_0 : w26.cell? ⟨gb193, 0, none⟩ = some (.int .i64 0) := (blk_cell BK193.out 0).trans rfl
                    have hcz42_1 : w26.cell? ⟨gb193, 1, none⟩ = some (.int .i64 0) := (blk_cell BK193.out 1).trans rfl
                    have hcz42_2 : w26.cell? ⟨gb193, 2, none⟩ = some (.int .i64 0) := (blk_cell BK193.out 2).trans rfl
                    have hfz42_0 := blk_frozen BK193.out 0
                    have hfz42_1 := blk_frozen BK193.out 1
                    have hfz42_2 := blk_frozen BK193.out 2
                    go_wp2_with (first | ((with_reducible refine gate_callee (f := 64) rfl ?_); refine goesL_ (some 50) rfl rfl Try.func64 (by kernel_rfl) rfl #[.int .i64 ((rd_T82 l1_1 x5_2).f0), .int .i64 0, .int .i64 (l0.length : Int)] rfl (by (try simp only [List.map_toArray, List.map_cons, List.map_nil]); first | done | rfl | (simp only [List.length_drop, List.length_take]; rfl)) ?_; (with_reducible refine (spec_l01In.calls ((rd_T82 l1_1 x5_2).f0) 0 (l0.length : Int) false _ A29.out).mono ?_); rintro e w' ⟨rfl, ⟨nd, rfl⟩⟩; refine ⟨_, rfl, ?_⟩))
                    go_meet
                    case rel => exact ⟨_, (true), (by first | rfl | (simp; done) | (simp [*]; done)), H', ⟨by have := HJ2.out; have := HK2.out; first | omega | exact Nat.le_refl _⟩, ⟨by (with_reducible repeat (first | refine blk_drewN ?_ _ | refine blk_drew ?_ | refine blk_alloc ?_ _)); refine blk_far ?_ NB188_193.out _; (with_reducible repeat (first | refine blk_drewN ?_ _ | refine blk_drew ?_ | refine blk_alloc ?_ _)); refine blk_far ?_ NB188_193.out _; (with_reducible repeat (first | refine blk_drewN ?_ _ | refine blk_drew ?_ | refine blk_alloc ?_ _)); refine blk_far ?_ NB188_193.out _; (with_reducible repeat (first | refine blk_drewN ?_ _ | refine blk_drew ?_ | refine blk_alloc ?_ _)); exact BK188.out⟩, ⟨by (with_reducible repeat (first | refine blk_drewN ?_ _ | refine blk_drew ?_ | refine blk_alloc ?_ _)); refine blk_put (cs := #[.int .i64 ((rd_T82 l1_1 x5_2).f0), .int .i64 ((rd_T82 l1_1 x5_2).f1), .int .i64 0]) ?_ 2 _ rfl; (with_reducible repeat (first | refine blk_drewN ?_ _ | refine blk_drew ?_ | refine blk_alloc ?_ _)); refine blk_put (cs := #[.int .i64 ((rd_T82 l1_1 x5_2).f0), .int .i64 0, .int .i64 0]) ?_ 1 _ rfl; (with_reducible repeat (first | refine blk_drewN ?_ _ | refine blk_drew ?_ | refine blk_alloc ?_ _)); refine blk_put (cs := #[.int .i64 0, .int .i64 0, .int .i64 0]) ?_ 0 _ rfl; (with_reducible repeat (first | refine blk_drewN ?_ _ | refine blk_drew ?_ | refine blk_alloc ?_ _)); exact BK193.out⟩, ⟨by repeat (first | (with_reducible first | exact HB.out | apply below_alloc | apply pw_below_drewN | apply below_drew1 | refine below_set ?_ GE188.out | refine below_set ?_ GE193.out) | exact HB.out)⟩⟩
                case rest =>
                  clear HC24
                  try clear c1
                  try clear p1
                  try clear q1
                  try clear hx1
                  try clear c2
                  try clear p2
                  try clear c3
                  try clear c4
                  try clear c6
                  try clear c7
                  try clear c8
                  try clear c9
                  try clear c9b0
                  try clear c9b1
                  try clear c11
                  try clear p19
                  try clear q19
                  try clear hx19
                  try clear c21
                  try clear c22
                  try clear c22b0
                  try clear c23
                  try clear c23b0
                  try clear c27
                  try clear c30
                  try clear c32
                  try clear c34
                  try clear c35
                  try clear c37
                  try clear c39
                  try clear c40
                  try clear c41
                  try clear hcz13_0
                  try clear hcz13_1
                  try clear hcz13_2
                  try clear hcz15_0
                  try clear hcz15_1
                  try clear hcz15_2
                  try clear hcz17_0
                  try clear hcz17_1
                  try clear hcz17_2
                  try clear hcz19_0
                  try clear hcz19_1
                  try clear hcz19_2
                  try clear hcz25_0
                  try clear hcz25_1
                  try clear hcz25_2
                  try clear hcz28_0
                  try clear hcz28_1
                  try clear hcz28_2
                  try clear hcz36_0
                  try clear hcz36_1
                  try clear hcz36_2
                  try clear hcz38_0
                  try clear hcz38_1
                  try clear hcz38_2
                  try clear hcz40_0
                  try clear hcz40_1
                  try clear hcz40_2
                  try clear hcz42_0
                  try clear hcz42_1
                  try clear hcz42_2
                  try clear hfz13_0
                  try clear hfz13_1
                  try clear hfz13_2
                  try clear hfz15_0
                  try clear hfz15_1
                  try clear hfz15_2
                  try clear hfz17_0
                  try clear hfz17_1
                  try clear hfz17_2
                  try clear hfz19_0
                  try clear hfz19_1
                  try clear hfz19_2
                  try clear hfz25_0
                  try clear hfz25_1
                  try clear hfz25_2
                  try clear hfz28_0
                  try clear hfz28_1
                  try clear hfz28_2
                  try clear hfz36_0
                  try clear hfz36_1
                  try clear hfz36_2
                  try clear hfz38_0
                  try clear hfz38_1
                  try clear hfz38_2
                  try clear hfz40_0
                  try clear hfz40_1
                  try clear hfz40_2
                  try clear hfz42_0
                  try clear hfz42_1
                  try clear hfz42_2
                  try clear hx192_0
                  try clear hx192_1
                  try clear hx192_2
                  try clear p192
                  try clear p2
                  try clear q192
                  obtain ⟨kq, x70_23, rfl, HA, HJ23, BK188, BK193, HB⟩ := hcut
                  cases kq with
                  | zero => exact absurd HA.out (by simp [spec_WarpOk.j2])
                  | succ kj23 =>
                    have H := HA.out
                    clear HA
                    simp only [spec_WarpOk.j2] at H
                    by_cases c43 : x70_23 = true
                    · subst c43
                      have H1 : (some false) = some r := by rw [if_pos rfl] at H; exact H
                      clear H
                      have H := H1
                      clear H1
                      obtain rfl := Option.some.inj H
                      go_wp2
                      go_ret
                      exact ⟨by first | rfl | (simp [errW_none, errW_some] <;> rfl) | (simp [*, errW_none, errW_some] <;> rfl), by repeat (first | (with_reducible first | exact HB.out | apply below_alloc | apply pw_below_drewN | apply below_drew1 | refine below_set ?_ GE188.out | refine below_set ?_ GE193.out) | exact HB.out)⟩
                    · replace c43 := Bool.eq_false_iff.mpr c43
                      subst c43
                      have H1 : (if x5_2 = 0 then (if ((rd_T82 l1_1 x5_2).f1) = (l0.length : Int) then (if ((rd_T82 l1_1 x5_2).f2) = 255 then (if x5_2 = (wrap64 ((l1_1.length : Int) - 1)) then (if ((rd_T82 l1_1 x5_2).f0) = ((rd_T82 l1_1 x5_2).f1) then (some false) else (if ((rd_T82 l1_1 x5_2).f0) = (l0.length : Int) then (some false) else (spec_WarpOk.l0 kj23 l0 (wrap64 (x5_2 + 1)) a1_0 l1_1 l1_2))) else (spec_WarpOk.l0 kj23 l0 (wrap64 (x5_2 + 1)) a1_0 l1_1 l1_2)) else (some false)) else (some false)) else (if x5_2 = (wrap64 ((l1_1.length : Int) - 1)) then (if ((rd_T82 l1_1 x5_2).f0) = ((rd_T82 l1_1 x5_2).f1) then (some false) else (if ((rd_T82 l1_1 x5_2).f0) = (l0.length : Int) then (some false) else (spec_WarpOk.l0 kj23 l0 (wrap64 (x5_2 + 1)) a1_0 l1_1 l1_2))) else (spec_WarpOk.l0 kj23 l0 (wrap64 (x5_2 + 1)) a1_0 l1_1 l1_2))) = some r := by rw [if_neg (show ¬ (false = true) by decide)] at H; exact H
                      clear H
                      have H := H1
                      clear H1
                      by_cases c44 : x5_2 = 0
                      · rw [if_pos c44] at H
                        have c44b0 : (x5_2 == 0) = true := beq_iff_eq.mpr c44
                        have c44b1 : (x5_2 != 0) = false := bne_eq_false_iff_eq.mpr c44
                        clear c44
                        by_cases c45 : ((rd_T82 l1_1 x5_2).f1) = (l0.length : Int)
                        · rw [if_pos c45] at H
                          have c45b0 : (((rd_T82 l1_1 x5_2).f1) == (l0.length : Int)) = true := beq_iff_eq.mpr c45
                          have c45b1 : (((rd_T82 l1_1 x5_2).f1) != (l0.length : Int)) = false := bne_eq_false_iff_eq.mpr c45
                          clear c45
                          by_cases c46 : ((rd_T82 l1_1 x5_2).f2) = 255
                          · rw [if_pos c46] at H
                            have c46b0 : (((rd_T82 l1_1 x5_2).f2) == 255) = true := beq_iff_eq.mpr c46
                            have c46b1 : (((rd_T82 l1_1 x5_2).f2) != 255) = false := bne_eq_false_iff_eq.mpr c46
                            clear c46
                            by_cases c47 : x5_2 = (wrap64 ((l1_1.length : Int) - 1))
                            · rw [if_pos c47] at H
                              have c47b0 : (x5_2 == (wrap64 ((l1_1.length : Int) - 1))) = true := beq_iff_eq.mpr c47
                              have c47b1 : (x5_2 != (wrap64 ((l1_1.length : Int) - 1))) = false := bne_eq_false_iff_eq.mpr c47
                              clear c47
                              by_cases c48 : ((rd_T82 l1_1 x5_2).f0) = ((rd_T82 l1_1 x5_2).f1)
                              · rw [if_pos c48] at H
                                have c48b0 : (((rd_T82 l1_1 x5_2).f0) == ((rd_T82 l1_1 x5_2).f1)) = true := beq_iff_eq.mpr c48
                                have c48b1 : (((rd_T82 l1_1 x5_2).f0) != ((rd_T82 l1_1 x5_2).f1)) = false := bne_eq_false_iff_eq.mpr c48
                                clear c48
                                obtain rfl := Option.some.inj H
                                have hnb49 := NB193_188.out
                                have hnc49 := NB188_193.out
                                have hcz50_0 : wc.cell? ⟨gb193, 0, none⟩ = some (.int .i64 ((rd_T82 l1_1 x5_2).f0)) := (blk_cell BK193.out 0).trans rfl
                                have hcz50_1 : wc.cell? ⟨gb193, 1, none⟩ = some (.int .i64 ((rd_T82 l1_1 x5_2).f1)) := (blk_cell BK193.out 1).trans rfl
                                have hcz50_2 : wc.cell? ⟨gb193, 2, none⟩ = some (.int .i64 ((rd_T82 l1_1 x5_2).f2)) := (blk_cell BK193.out 2).trans rfl
                                have hfz50_0 := blk_frozen BK193.out 0
                                have hfz50_1 := blk_frozen BK193.out 1
                                have hfz50_2 := blk_frozen BK193.out 2
                                have hcz51_0 : wc.cell? ⟨gb188, 0, none⟩ = some (.int .i64 a1_0) := (blk_cell BK188.out 0).trans rfl
                                have hcz51_1 : wc.cell? ⟨gb188, 1, none⟩ = some (.slice (some ad192) l1_1.length c1_1) := (blk_cell BK188.out 1).trans rfl
                                have hcz51_2 : wc.cell? ⟨gb188, 2, none⟩ = some (.slice A1_2 l1_2.length c1_2) := (blk_cell BK188.out 2).trans rfl
                                have hfz51_0 := blk_frozen BK188.out 0
                                have hfz51_1 := blk_frozen BK188.out 1
                                have hfz51_2 := blk_frozen BK188.out 2
                                go_wp2
                                go_ret
                                exact ⟨by first | rfl | (simp [errW_none, errW_some] <;> rfl) | (simp [*, errW_none, errW_some] <;> rfl), by repeat (first | (with_reducible first | exact HB.out | apply below_alloc | apply pw_below_drewN | apply below_drew1 | refine below_set ?_ GE188.out | refine below_set ?_ GE193.out) | exact HB.out)⟩
                              · rw [if_neg c48] at H
                                have c48b0 : (((rd_T82 l1_1 x5_2).f0) == ((rd_T82 l1_1 x5_2).f1)) = false := beq_eq_false_iff_ne.mpr c48
                                have c48b1 : (((rd_T82 l1_1 x5_2).f0) != ((rd_T82 l1_1 x5_2).f1)) = true := bne_iff_ne.mpr c48
                                by_cases c52 : ((rd_T82 l1_1 x5_2).f0) = (l0.length : Int)
                                · rw [if_pos c52] at H
                                  have c52b0 : (((rd_T82 l1_1 x5_2).f0) == (l0.length : Int)) = true := beq_iff_eq.mpr c52
                                  have c52b1 : (((rd_T82 l1_1 x5_2).f0) != (l0.length : Int)) = false := bne_eq_false_iff_eq.mpr c52
                                  clear c52
                                  obtain rfl := Option.some.inj H
                                  have hnb53 := NB193_188.out
                                  have hnc53 := NB188_193.out
                                  have hcz54_0 : wc.cell? ⟨gb193, 0, none⟩ = some (.int .i64 ((rd_T82 l1_1 x5_2).f0)) := (blk_cell BK193.out 0).trans rfl
                                  have hcz54_1 : wc.cell? ⟨gb193, 1, none⟩ = some (.int .i64 ((rd_T82 l1_1 x5_2).f1)) := (blk_cell BK193.out 1).trans rfl
                                  have hcz54_2 : wc.cell? ⟨gb193, 2, none⟩ = some (.int .i64 ((rd_T82 l1_1 x5_2).f2)) := (blk_cell BK193.out 2).trans rfl
                                  have hfz54_0 := blk_frozen BK193.out 0
                                  have hfz54_1 := blk_frozen BK193.out 1
                                  have hfz54_2 := blk_frozen BK193.out 2
                                  have hcz55_0 : wc.cell? ⟨gb188, 0, none⟩ = some (.int .i64 a1_0) := (blk_cell BK188.out 0).trans rfl
                                  have hcz55_1 : wc.cell? ⟨gb188, 1, none⟩ = some (.slice (some ad192) l1_1.length c1_1) := (blk_cell BK188.out 1).trans rfl
                                  have hcz55_2 : wc.cell? ⟨gb188, 2, none⟩ = some (.slice A1_2 l1_2.length c1_2) := (blk_cell BK188.out 2).trans rfl
                                  have hfz55_0 := blk_frozen BK188.out 0
                                  have hfz55_1 := blk_frozen BK188.out 1
                                  have hfz55_2 := blk_frozen BK188.out 2
                                  go_wp2
                                  go_ret
                                  exact ⟨by first | rfl | (simp [errW_none, errW_some] <;> rfl) | (simp [*, errW_none, errW_some] <;> rfl), by repeat (first | (with_reducible first | exact HB.out | apply below_alloc | apply pw_below_drewN | apply below_drew1 | refine below_set ?_ GE188.out | refine below_set ?_ GE193.out) | exact HB.out)⟩
                                · rw [if_neg c52] at H
                                  have c52b0 : (((rd_T82 l1_1 x5_2).f0) == (l0.length : Int)) = false := beq_eq_false_iff_ne.mpr c52
                                  have c52b1 : (((rd_T82 l1_1 x5_2).f0) != (l0.length : Int)) = true := bne_iff_ne.mpr c52
                                  have H' := Aside0.mk H
                                  clear H
                                  have hnb56 := NB193_188.out
                                  have hnc56 := NB188_193.out
                                  have hcz57_0 : wc.cell? ⟨gb193, 0, none⟩ = some (.int .i64 ((rd_T82 l1_1 x5_2).f0)) := (blk_cell BK193.out 0).trans rfl
                                  have hcz57_1 : wc.cell? ⟨gb193, 1, none⟩ = some (.int .i64 ((rd_T82 l1_1 x5_2).f1)) := (blk_cell BK193.out 1).trans rfl
                                  have hcz57_2 : wc.cell? ⟨gb193, 2, none⟩ = some (.int .i64 ((rd_T82 l1_1 x5_2).f2)) := (blk_cell BK193.out 2).trans rfl
                                  have hfz57_0 := blk_frozen BK193.out 0
                                  have hfz57_1 := blk_frozen BK193.out 1
                                  have hfz57_2 := blk_frozen BK193.out 2
                                  have hcz58_0 : wc.cell? ⟨gb188, 0, none⟩ = some (.int .i64 a1_0) := (blk_cell BK188.out 0).trans rfl
                                  have hcz58_1 : wc.cell? ⟨gb188, 1, none⟩ = some (.slice (some ad192) l1_1.length c1_1) := (blk_cell BK188.out 1).trans rfl
                                  have hcz58_2 : wc.cell? ⟨gb188, 2, none⟩ = some (.slice A1_2 l1_2.length c1_2) := (blk_cell BK188.out 2).trans rfl
                                  have hfz58_0 := blk_frozen BK188.out 0
                                  have hfz58_1 := blk_frozen BK188.out 1
                                  have hfz58_2 := blk_frozen BK188.out 2
                                  go_wp2
                                  go_roundg kj23
                                  case measure => have := HJ2.out; have := HK2.out; have := HJ23.out; omega
                                  case rel => exact ⟨(wrap64 (x5_2 + 1)), (by first | rfl | (simp; done) | (simp [*]; done)), H', ⟨by have := HJ2.out; have := HK2.out; have := HJ23.out; omega⟩, ⟨by (with_reducible repeat (first | refine blk_drewN ?_ _ | refine blk_drew ?_ | refine blk_alloc ?_ _)); exact BK188.out⟩, ⟨by repeat (first | (with_reducible first | exact HB.out | apply below_alloc | apply pw_below_drewN | apply below_drew1 | refine below_set ?_ GE188.out | refine below_set ?_ GE193.out) | exact HB.out)⟩⟩
                            · rw [if_neg c47] at H
                              have c47b0 : (x5_2 == (wrap64 ((l1_1.length : Int) - 1))) = false := beq_eq_false_iff_ne.mpr c47
                              have c47b1 : (x5_2 != (wrap64 ((l1_1.length : Int) - 1))) = true := bne_iff_ne.mpr c47
                              have H' := Aside0.mk H
                              clear H
                              have hnb59 := NB193_188.out
                              have hnc59 := NB188_193.out
                              have hcz60_0 : wc.cell? ⟨gb193, 0, none⟩ = some (.int .i64 ((rd_T82 l1_1 x5_2).f0)) := (blk_cell BK193.out 0).trans rfl
                              have hcz60_1 : wc.cell? ⟨gb193, 1, none⟩ = some (.int .i64 ((rd_T82 l1_1 x5_2).f1)) := (blk_cell BK193.out 1).trans rfl
                              have hcz60_2 : wc.cell? ⟨gb193, 2, none⟩ = some (.int .i64 ((rd_T82 l1_1 x5_2).f2)) := (blk_cell BK193.out 2).trans rfl
                              have hfz60_0 := blk_frozen BK193.out 0
                              have hfz60_1 := blk_frozen BK193.out 1
                              have hfz60_2 := blk_frozen BK193.out 2
                              have hcz61_0 : wc.cell? ⟨gb188, 0, none⟩ = some (.int .i64 a1_0) := (blk_cell BK188.out 0).trans rfl
                              have hcz61_1 : wc.cell? ⟨gb188, 1, none⟩ = some (.slice (some ad192) l1_1.length c1_1) := (blk_cell BK188.out 1).trans rfl
                              have hcz61_2 : wc.cell? ⟨gb188, 2, none⟩ = some (.slice A1_2 l1_2.length c1_2) := (blk_cell BK188.out 2).trans rfl
                              have hfz61_0 := blk_frozen BK188.out 0
                              have hfz61_1 := blk_frozen BK188.out 1
                              have hfz61_2 := blk_frozen BK188.out 2
                              go_wp2
                              go_roundg kj23
                              case measure => have := HJ2.out; have := HK2.out; have := HJ23.out; omega
                              case rel => exact ⟨(wrap64 (x5_2 + 1)), (by first | rfl | (simp; done) | (simp [*]; done)), H', ⟨by have := HJ2.out; have := HK2.out; have := HJ23.out; omega⟩, ⟨by (with_reducible repeat (first | refine blk_drewN ?_ _ | refine blk_drew ?_ | refine blk_alloc ?_ _)); exact BK188.out⟩, ⟨by repeat (first | (with_reducible first | exact HB.out | apply below_alloc | apply pw_below_drewN | apply below_drew1 | refine below_set ?_ GE188.out | refine below_set ?_ GE193.out) | exact HB.out)⟩⟩
                          · rw [if_neg c46] at H
                            have c46b0 : (((rd_T82 l1_1 x5_2).f2) == 255) = false := beq_eq_false_iff_ne.mpr c46
                            have c46b1 : (((rd_T82 l1_1 x5_2).f2) != 255) = true := bne_iff_ne.mpr c46
                            obtain rfl := Option.some.inj H
                            have hnb62 := NB193_188.out
                            have hnc62 := NB188_193.out
                            have hcz63_0 : wc.cell? ⟨gb193, 0, none⟩ = some (.int .i64 ((rd_T82 l1_1 x5_2).f0)) := (blk_cell BK193.out 0).trans rfl
                            have hcz63_1 : wc.cell? ⟨gb193, 1, none⟩ = some (.int .i64 ((rd_T82 l1_1 x5_2).f1)) := (blk_cell BK193.out 1).trans rfl
                            have hcz63_2 : wc.cell? ⟨gb193, 2, none⟩ = some (.int .i64 ((rd_T82 l1_1 x5_2).f2)) := (blk_cell BK193.out 2).trans rfl
                            have hfz63_0 := blk_frozen BK193.out 0
                            have hfz63_1 := blk_frozen BK193.out 1
                            have hfz63_2 := blk_frozen BK193.out 2
                            go_wp2
                            go_ret
                            exact ⟨by first | rfl | (simp [errW_none, errW_some] <;> rfl) | (simp [*, errW_none, errW_some] <;> rfl), by repeat (first | (with_reducible first | exact HB.out | apply below_alloc | apply pw_below_drewN | apply below_drew1 | refine below_set ?_ GE188.out | refine below_set ?_ GE193.out) | exact HB.out)⟩
                        · rw [if_neg c45] at H
                          have c45b0 : (((rd_T82 l1_1 x5_2).f1) == (l0.length : Int)) = false := beq_eq_false_iff_ne.mpr c45
                          have c45b1 : (((rd_T82 l1_1 x5_2).f1) != (l0.length : Int)) = true := bne_iff_ne.mpr c45
                          obtain rfl := Option.some.inj H
                          have hnb64 := NB193_188.out
                          have hnc64 := NB188_193.out
                          have hcz65_0 : wc.cell? ⟨gb193, 0, none⟩ = some (.int .i64 ((rd_T82 l1_1 x5_2).f0)) := (blk_cell BK193.out 0).trans rfl
                          have hcz65_1 : wc.cell? ⟨gb193, 1, none⟩ = some (.int .i64 ((rd_T82 l1_1 x5_2).f1)) := (blk_cell BK193.out 1).trans rfl
                          have hcz65_2 : wc.cell? ⟨gb193, 2, none⟩ = some (.int .i64 ((rd_T82 l1_1 x5_2).f2)) := (blk_cell BK193.out 2).trans rfl
                          have hfz65_0 := blk_frozen BK193.out 0
                          have hfz65_1 := blk_frozen BK193.out 1
                          have hfz65_2 := blk_frozen BK193.out 2
                          go_wp2
                          go_ret
                          exact ⟨by first | rfl | (simp [errW_none, errW_some] <;> rfl) | (simp [*, errW_none, errW_some] <;> rfl), by repeat (first | (with_reducible first | exact HB.out | apply below_alloc | apply pw_below_drewN | apply below_drew1 | refine below_set ?_ GE188.out | refine below_set ?_ GE193.out) | exact HB.out)⟩
                      · rw [if_neg c44] at H
                        have c44b0 : (x5_2 == 0) = false := beq_eq_false_iff_ne.mpr c44
                        have c44b1 : (x5_2 != 0) = true := bne_iff_ne.mpr c44
                        by_cases c66 : x5_2 = (wrap64 ((l1_1.length : Int) - 1))
                        · rw [if_pos c66] at H
                          have c66b0 : (x5_2 == (wrap64 ((l1_1.length : Int) - 1))) = true := beq_iff_eq.mpr c66
                          have c66b1 : (x5_2 != (wrap64 ((l1_1.length : Int) - 1))) = false := bne_eq_false_iff_eq.mpr c66
                          clear c66
                          by_cases c67 : ((rd_T82 l1_1 x5_2).f0) = ((rd_T82 l1_1 x5_2).f1)
                          · rw [if_pos c67] at H
                            have c67b0 : (((rd_T82 l1_1 x5_2).f0) == ((rd_T82 l1_1 x5_2).f1)) = true := beq_iff_eq.mpr c67
                            have c67b1 : (((rd_T82 l1_1 x5_2).f0) != ((rd_T82 l1_1 x5_2).f1)) = false := bne_eq_false_iff_eq.mpr c67
                            clear c67
                            obtain rfl := Option.some.inj H
                            have hnb68 := NB188_193.out
                            have hnc68 := NB193_188.out
                            have hcz69_0 : wc.cell? ⟨gb188, 0, none⟩ = some (.int .i64 a1_0) := (blk_cell BK188.out 0).trans rfl
                            have hcz69_1 : wc.cell? ⟨gb188, 1, none⟩ = some (.slice (some ad192) l1_1.length c1_1) := (blk_cell BK188.out 1).trans rfl
                            have hcz69_2 : wc.cell? ⟨gb188, 2, none⟩ = some (.slice A1_2 l1_2.length c1_2) := (blk_cell BK188.out 2).trans rfl
                            have hfz69_0 := blk_frozen BK188.out 0
                            have hfz69_1 := blk_frozen BK188.out 1
                            have hfz69_2 := blk_frozen BK188.out 2
                            have hcz70_0 : wc.cell? ⟨gb193, 0, none⟩ = some (.int .i64 ((rd_T82 l1_1 x5_2).f0)) := (blk_cell BK193.out 0).trans rfl
                            have hcz70_1 : wc.cell? ⟨gb193, 1, none⟩ = some (.int .i64 ((rd_T82 l1_1 x5_2).f1)) := (blk_cell BK193.out 1).trans rfl
                            have hcz70_2 : wc.cell? ⟨gb193, 2, none⟩ = some (.int .i64 ((rd_T82 l1_1 x5_2).f2)) := (blk_cell BK193.out 2).trans rfl
                            have hfz70_0 := blk_frozen BK193.out 0
                            have hfz70_1 := blk_frozen BK193.out 1
                            have hfz70_2 := blk_frozen BK193.out 2
                            go_wp2
                            go_ret
                            exact ⟨by first | rfl | (simp [errW_none, errW_some] <;> rfl) | (simp [*, errW_none, errW_some] <;> rfl), by repeat (first | (with_reducible first | exact HB.out | apply below_alloc | apply pw_below_drewN | apply below_drew1 | refine below_set ?_ GE188.out | refine below_set ?_ GE193.out) | exact HB.out)⟩
                          · rw [if_neg c67] at H
                            have c67b0 : (((rd_T82 l1_1 x5_2).f0) == ((rd_T82 l1_1 x5_2).f1)) = false := beq_eq_false_iff_ne.mpr c67
                            have c67b1 : (((rd_T82 l1_1 x5_2).f0) != ((rd_T82 l1_1 x5_2).f1)) = true := bne_iff_ne.mpr c67
                            by_cases c71 : ((rd_T82 l1_1 x5_2).f0) = (l0.length : Int)
                            · rw [if_pos c71] at H
                              have c71b0 : (((rd_T82 l1_1 x5_2).f0) == (l0.length : Int)) = true := beq_iff_eq.mpr c71
                              have c71b1 : (((rd_T82 l1_1 x5_2).f0) != (l0.length : Int)) = false := bne_eq_false_iff_eq.mpr c71
                              clear c71
                              obtain rfl := Option.some.inj H
                              have hnb72 := NB188_193.out
                              have hnc72 := NB193_188.out
                              have hcz73_0 : wc.cell? ⟨gb188, 0, none⟩ = some (.int .i64 a1_0) := (blk_cell BK188.out 0).trans rfl
                              have hcz73_1 : wc.cell? ⟨gb188, 1, none⟩ = some (.slice (some ad192) l1_1.length c1_1) := (blk_cell BK188.out 1).trans rfl
                              have hcz73_2 : wc.cell? ⟨gb188, 2, none⟩ = some (.slice A1_2 l1_2.length c1_2) := (blk_cell BK188.out 2).trans rfl
                              have hfz73_0 := blk_frozen BK188.out 0
                              have hfz73_1 := blk_frozen BK188.out 1
                              have hfz73_2 := blk_frozen BK188.out 2
                              have hcz74_0 : wc.cell? ⟨gb193, 0, none⟩ = some (.int .i64 ((rd_T82 l1_1 x5_2).f0)) := (blk_cell BK193.out 0).trans rfl
                              have hcz74_1 : wc.cell? ⟨gb193, 1, none⟩ = some (.int .i64 ((rd_T82 l1_1 x5_2).f1)) := (blk_cell BK193.out 1).trans rfl
                              have hcz74_2 : wc.cell? ⟨gb193, 2, none⟩ = some (.int .i64 ((rd_T82 l1_1 x5_2).f2)) := (blk_cell BK193.out 2).trans rfl
                              have hfz74_0 := blk_frozen BK193.out 0
                              have hfz74_1 := blk_frozen BK193.out 1
                              have hfz74_2 := blk_frozen BK193.out 2
                              go_wp2
                              go_ret
                              exact ⟨by first | rfl | (simp [errW_none, errW_some] <;> rfl) | (simp [*, errW_none, errW_some] <;> rfl), by repeat (first | (with_reducible first | exact HB.out | apply below_alloc | apply pw_below_drewN | apply below_drew1 | refine below_set ?_ GE188.out | refine below_set ?_ GE193.out) | exact HB.out)⟩
                            · rw [if_neg c71] at H
                              have c71b0 : (((rd_T82 l1_1 x5_2).f0) == (l0.length : Int)) = false := beq_eq_false_iff_ne.mpr c71
                              have c71b1 : (((rd_T82 l1_1 x5_2).f0) != (l0.length : Int)) = true := bne_iff_ne.mpr c71
                              have H' := Aside0.mk H
                              clear H
                              have hnb75 := NB188_193.out
                              have hnc75 := NB193_188.out
                              have hcz76_0 : wc.cell? ⟨gb188, 0, none⟩ = some (.int .i64 a1_0) := (blk_cell BK188.out 0).trans rfl
                              have hcz76_1 : wc.cell? ⟨gb188, 1, none⟩ = some (.slice (some ad192) l1_1.length c1_1) := (blk_cell BK188.out 1).trans rfl
                              have hcz76_2 : wc.cell? ⟨gb188, 2, none⟩ = some (.slice A1_2 l1_2.length c1_2) := (blk_cell BK188.out 2).trans rfl
                              have hfz76_0 := blk_frozen BK188.out 0
                              have hfz76_1 := blk_frozen BK188.out 1
                              have hfz76_2 := blk_frozen BK188.out 2
                              have hcz77_0 : wc.cell? ⟨gb193, 0, none⟩ = some (.int .i64 ((rd_T82 l1_1 x5_2).f0)) := (blk_cell BK193.out 0).trans rfl
                              have hcz77_1 : wc.cell? ⟨gb193, 1, none⟩ = some (.int .i64 ((rd_T82 l1_1 x5_2).f1)) := (blk_cell BK193.out 1).trans rfl
                              have hcz77_2 : wc.cell? ⟨gb193, 2, none⟩ = some (.int .i64 ((rd_T82 l1_1 x5_2).f2)) := (blk_cell BK193.out 2).trans rfl
                              have hfz77_0 := blk_frozen BK193.out 0
                              have hfz77_1 := blk_frozen BK193.out 1
                              have hfz77_2 := blk_frozen BK193.out 2
                              go_wp2
                              go_roundg kj23
                              case measure => have := HJ2.out; have := HK2.out; have := HJ23.out; omega
                              case rel => exact ⟨(wrap64 (x5_2 + 1)), (by first | rfl | (simp; done) | (simp [*]; done)), H', ⟨by have := HJ2.out; have := HK2.out; have := HJ23.out; omega⟩, ⟨by (with_reducible repeat (first | refine blk_drewN ?_ _ | refine blk_drew ?_ | refine blk_alloc ?_ _)); exact BK188.out⟩, ⟨by repeat (first | (with_reducible first | exact HB.out | apply below_alloc | apply pw_below_drewN | apply below_drew1 | refine below_set ?_ GE188.out | refine below_set ?_ GE193.out) | exact HB.out)⟩⟩
                        · rw [if_neg c66] at H
                          have c66b0 : (x5_2 == (wrap64 ((l1_1.length : Int) - 1))) = false := beq_eq_false_iff_ne.mpr c66
                          have c66b1 : (x5_2 != (wrap64 ((l1_1.length : Int) - 1))) = true := bne_iff_ne.mpr c66
                          have H' := Aside0.mk H
                          clear H
                          have hnb78 := NB188_193.out
                          have hnc78 := NB193_188.out
                          have hcz79_0 : wc.cell? ⟨gb188, 0, none⟩ = some (.int .i64 a1_0) := (blk_cell BK188.out 0).trans rfl
                          have hcz79_1 : wc.cell? ⟨gb188, 1, none⟩ = some (.slice (some ad192) l1_1.length c1_1) := (blk_cell BK188.out 1).trans rfl
                          have hcz79_2 : wc.cell? ⟨gb188, 2, none⟩ = some (.slice A1_2 l1_2.length c1_2) := (blk_cell BK188.out 2).trans rfl
                          have hfz79_0 := blk_frozen BK188.out 0
                          have hfz79_1 := blk_frozen BK188.out 1
                          have hfz79_2 := blk_frozen BK188.out 2
                          go_wp2
                          go_roundg kj23
                          case measure => have := HJ2.out; have := HK2.out; have := HJ23.out; omega
                          case rel => exact ⟨(wrap64 (x5_2 + 1)), (by first | rfl | (simp; done) | (simp [*]; done)), H', ⟨by have := HJ2.out; have := HK2.out; have := HJ23.out; omega⟩, ⟨by (with_reducible repeat (first | refine blk_drewN ?_ _ | refine blk_drew ?_ | refine blk_alloc ?_ _)); exact BK188.out⟩, ⟨by repeat (first | (with_reducible first | exact HB.out | apply below_alloc | apply pw_below_drewN | apply below_drew1 | refine below_set ?_ GE188.out | refine below_set ?_ GE193.out) | exact HB.out)⟩⟩
              · rw [if_neg c23] at H
                exact absurd H (by simp)
            · rw [if_neg c22] at H
              have c22b0 : decide (x5_2 < (l1_1.length : Int)) = false := decide_eq_false c22
              clear c22
              obtain rfl := Option.some.inj H
              have hcz80_0 : wr.cell? ⟨gb188, 0, none⟩ = some (.int .i64 a1_0) := (blk_cell BK188.out 0).trans rfl
              have hcz80_1 : wr.cell? ⟨gb188, 1, none⟩ = some (.slice A1_1 l1_1.length c1_1) := (blk_cell BK188.out 1).trans rfl
              have hcz80_2 : wr.cell? ⟨gb188, 2, none⟩ = some (.slice A1_2 l1_2.length c1_2) := (blk_cell BK188.out 2).trans rfl
              have hfz80_0 := blk_frozen BK188.out 0
              have hfz80_1 := blk_frozen BK188.out 1
              have hfz80_2 := blk_frozen BK188.out 2
              go_wp2
              go_ret
              exact ⟨by first | rfl | (simp [errW_none, errW_some] <;> rfl) | (simp [*, errW_none, errW_some] <;> rfl), by repeat (first | (with_reducible first | exact HB.out | apply below_alloc | apply pw_below_drewN | apply below_drew1 | refine below_set ?_ GE188.out) | exact HB.out)⟩

end Go.Proofs.Ytdhifoacbpjpoaa.PFnExactWarpOk
