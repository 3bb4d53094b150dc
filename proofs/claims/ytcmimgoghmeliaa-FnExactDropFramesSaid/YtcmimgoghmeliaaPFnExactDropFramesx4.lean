-- Written by myprint.py (a program of this session, over the kit's print): not trusted, Lean checks it.
import Derived.Test.YtcmimgoghmeliaaPFnExactDropFramesx0
import Derived.Test.YtcmimgoghmeliaaPFnExactDropFramesx3
namespace Go.Proofs.Ytcmimgoghmeliaa.PFnExactDropFrames
open Go.RowKit Go.Proofs.YtcmimgoghmeliaaW.PrintWords Go.Proofs.YtcmimgoghmeliaaW.PrintLast Go.Proofs.YtcmimgoghmeliaaW.PrintMore
attribute [local go_sem] max2_int min2_int max_two min_two max_three min_three max_four min_four   -- for this text's walks alone
set_option linter.unusedVariables false
set_option linter.unusedSimpArgs false

/-! ### spec_DropFrames: function 67 -/
def spec_DropFrames.l0 : Nat → List (S94) → Int → Int → List (S77) → List Int → Option (Int × (List (S77)) × List Int)
 | 0, _, _, _, _, _ => none
 | k + 1, x0, x6, x194000, x194001, x194002 => if x6 ≥ 0 then (if 0 ≤ x6 then (if x6 < (x194001.length : Int) then (if ((rd_T77 x194001 x6).f0) = ((rd_T77 x194001 x6).f1) then (if x6 ≤ (x194001.length : Int) then (spec_DropFrames.l0 k x0 (wrap64 (x6 - 1)) x194000 (x194001.take (x6 : Int).toNat) x194002) else (none)) else (if ((rd_T77 x194001 x6).f0) = (x0.length : Int) then (if x6 ≤ (x194001.length : Int) then (spec_DropFrames.l0 k x0 (wrap64 (x6 - 1)) x194000 (x194001.take (x6 : Int).toNat) x194002) else (none)) else (some (x194000, x194001, x194002)))) else (none)) else (none)) else (some (x194000, x194001, x194002))
def spec_DropFrames.f (k : Nat) (l0 : List (S94)) (a1_0 : Int) (l1_1 : List (S77)) (l1_2 : List Int) : Option (Int × (List (S77)) × List Int) := (spec_l12Copy.f a1_0 l1_1 l1_2).bind fun bt186 => (spec_DropFrames.l0 k l0 (wrap64 ((bt186.2.1.length : Int) - 1)) bt186.1 bt186.2.1 bt186.2.2)
theorem spec_DropFrames.mono_l : ∀ k, (∀ y0 y1 y2 y3 y4, LeO (spec_DropFrames.l0 k y0 y1 y2 y3 y4) (spec_DropFrames.l0 (k + 1) y0 y1 y2 y3 y4))
 | 0 => fun _ _ _ _ _ r h => by simp [spec_DropFrames.l0] at h
 | k + 1 => by
  have ih0 := spec_DropFrames.mono_l k
  ·intro y0 y1 y2 y3 y4
   unfold spec_DropFrames.l0
   repeat' first
   | (with_reducible exact ih0 _ _ _ _ _)
   | (with_reducible exact LeO.refl _)
   | (with_reducible exact LeO.none _)
   | (with_reducible refine LeO.ite ?_ ?_)
   | (with_reducible refine LeO.bind ?_ (fun _ => ?_))
   | exact ih0 _ _ _ _ _
   | exact LeO.none _
   | refine LeO.ite ?_ ?_
   | refine LeO.bind ?_ (fun _ => ?_)
theorem spec_DropFrames.mono : ∀ a0 a1 a2 a3 k, LeO (spec_DropFrames.f k a0 a1 a2 a3) (spec_DropFrames.f (k + 1) a0 a1 a2 a3) := by
 intro a0 a1 a2 a3 k
 have ih0 := spec_DropFrames.mono_l k
 unfold spec_DropFrames.f
 repeat' first
   | (with_reducible exact ih0 _ _ _ _ _)
   | (with_reducible exact LeO.refl _)
   | (with_reducible exact LeO.none _)
   | (with_reducible refine LeO.ite ?_ ?_)
   | (with_reducible refine LeO.bind ?_ (fun _ => ?_))
   | exact ih0 _ _ _ _ _
   | exact LeO.none _
   | refine LeO.ite ?_ ?_
   | refine LeO.bind ?_ (fun _ => ?_)
set_option maxHeartbeats 8000000 in
set_option maxRecDepth 100000 in
theorem spec_DropFrames.calls (k : Nat) (A0 : Option Addr) (c0 : Nat) (l0 : List (S94)) (a1_0 : Int) (A1_1 : Option Addr) (c1_1 : Nat) (l1_1 : List (S77)) (A1_2 : Option Addr) (c1_2 : Nat) (l1_2 : List Int) (r1 : Int) (r2 : List (S77)) (r3 : List Int) (w : World) (hr0 : Kd.C k94 w A0 l0.length l0) (hc0 : l0.length ≤ c0) (hr1_1 : Kd.C k77 w A1_1 l1_1.length l1_1) (hc1_1 : l1_1.length ≤ c1_1) (hr1_2 : Kd.C (Kd.int .i64) w A1_2 l1_2.length l1_2) (hc1_2 : l1_2.length ≤ c1_2) (h : spec_DropFrames.f k l0 a1_0 l1_1 l1_2 = some (r1, r2, r3)) :
  Calls Try.prog 67 #[.slice A0 l0.length c0, .agg #[.int .i64 a1_0, .slice A1_1 l1_1.length c1_1, .slice A1_2 l1_2.length c1_2]] w fun e w' => ∃ v1_ v2_ : Value, e = .returned (.agg #[.int .i64 r1, v1_, v2_]) ∧ Kd.R k77 77 w' w.heap.size (fun _ => True) v1_ r2 ∧ Kd.R (Kd.int .i64) 3 w' w.heap.size (fun _ => True) v2_ r3 ∧ Below w.heap.size w w' := by
 have hu36 := Try.underlying36
 have hu77 := Try.underlying77
 have HR0 := Aside0.mk hr0
 have HC0 := Aside0.mk hc0
 clear hr0 hc0
 have HR1_1 := Aside0.mk hr1_1
 have HC1_1 := Aside0.mk hc1_1
 clear hr1_1 hc1_1
 have HR1_2 := Aside0.mk hr1_2
 have HC1_2 := Aside0.mk hc1_2
 clear hr1_2 hc1_2
 have HB := Aside0.mk (Below.refl w.heap.size w)
 have H : ((spec_l12Copy.f a1_0 l1_1 l1_2).bind fun bt186 => (spec_DropFrames.l0 k l0 (wrap64 ((bt186.2.1.length : Int) - 1)) bt186.1 bt186.2.1 bt186.2.2)) = some (r1, r2, r3) := h
 clear h
 replace H := Option.bind_eq_some_iff.mp H
 obtain ⟨⟨t186, t187, t190⟩, A30, H⟩ := H
 replace H : (spec_DropFrames.l0 k l0 (wrap64 ((t187.length : Int) - 1)) t186 t187 t190) = some (r1, r2, r3) := H
 have A3 := Aside0.mk A30
 clear A30
 have H' := Aside0.mk H
 clear H
 go_enter Try.func67, Try.ntmps67
 go_wp2_with (first | ((with_reducible refine gate_dst (N := 3) rfl ?_); (try (refine gate_guard (by rfl) ?_; dsimp only)); refine box_event ?hg (N := 3) ?hd (cs := #[.int .i64 a1_0, .slice A1_1 l1_1.length c1_1, .slice A1_2 l1_2.length c1_2]) (t := 36) ?hr ?_; (case hd => rfl); (case hg => rfl); (case hr => first | (go_simp; done) | (go_simp; rfl)); intro gb184 hg w4 hbox hb; have BK184 := Aside0.mk (hbox); have GW184 := Aside0.mk ((by rw [hg]; exact (below_size bw) : w.heap.size ≤ gb184)); have GE184 := Aside0.mk ((by rw [hg]; exact (below_size bw) : w.heap.size ≤ gb184)); replace HB := Aside0.mk (below_step bw hb); clear hb hbox hg) | ((with_reducible refine gate_dst (N := 4) rfl ?_); (try (refine gate_guard (by rfl) ?_; dsimp only)); refine box_event ?hg (N := 4) ?hd (cs := #[.int .i64 0, .slice none 0 0, .slice none 0 0]) (t := 36) ?hr ?_; (case hd => rfl); (case hg => rfl); (case hr => first | (go_simp; done) | (go_simp; rfl)); intro gb185 hg w5 hbox hb; have BK185 := Aside0.mk (hbox); have GW185 := Aside0.mk ((by rw [hg]; exact (below_size bx) : w.heap.size ≤ gb185)); have GE185 := Aside0.mk ((by rw [hg]; exact (below_size bx) : w.heap.size ≤ gb185)); replace HB := Aside0.mk (below_step bx hb); have NB184_185 := Aside0.mk ((by rw [hg]; exact Nat.ne_of_lt (blk_lt (g := gb184) (o := .cells #[.int .i64 a1_0, .slice A1_1 l1_1.length c1_1, .slice A1_2 l1_2.length c1_2] 36 (0, 0)) (bS BK184.out)) : gb184 ≠ gb185)); have NB185_184 := Aside0.mk ((by rw [hg]; exact Nat.ne_of_gt (blk_lt (g := gb184) (o := .cells #[.int .i64 a1_0, .slice A1_1 l1_1.length c1_1, .slice A1_2 l1_2.length c1_2] 36 (0, 0)) (bS BK184.out)) : gb185 ≠ gb184)); replace BK184 := Aside0.mk (blk_below (g := gb184) (o := .cells #[.int .i64 a1_0, .slice A1_1 l1_1.length c1_1, .slice A1_2 l1_2.length c1_2] 36 (0, 0)) (bS BK184.out) hb); clear hb hbox hg; have hnb6 := NB184_185.out; have hnc6 := NB185_184.out; have hcz7_0 : w5.cell? ⟨gb184, 0, none⟩ = some (.int .i64 a1_0) := (blk_cell BK184.out 0).trans rfl; have hcz7_1 : w5.cell? ⟨gb184, 1, none⟩ = some (.slice A1_1 l1_1.length c1_1) := (blk_cell BK184.out 1).trans rfl; have hcz7_2 : w5.cell? ⟨gb184, 2, none⟩ = some (.slice A1_2 l1_2.length c1_2) := (blk_cell BK184.out 2).trans rfl; have hfz7_0 := blk_frozen BK184.out 0; have hfz7_1 := blk_frozen BK184.out 1; have hfz7_2 := blk_frozen BK184.out 2) | ((with_reducible refine gate_callee (f := 117) rfl ?_); refine gL (some 9) Try.func117 #[.agg #[.int .i64 a1_0, .slice A1_1 l1_1.length c1_1, .slice A1_2 l1_2.length c1_2]] ?_; (with_reducible refine (spec_l12Copy.calls a1_0 _ _ l1_1 _ _ l1_2 t186 t187 t190 _ ?side1 ?side2 ?side3 ?side4 A3.out).mono ?_); (case side1 => repeat (first | exact (Kd.C_below HR1_1.out HB.out) | (with_reducible refine Kd.C_alloc ?_ _) | (with_reducible refine Kd.C_drewN ?_ _) | (with_reducible refine Kd.C_drew ?_))); (case side2 => exact HC1_1.out); (case side3 => repeat (first | exact (Kd.C_below HR1_2.out HB.out) | (with_reducible refine Kd.C_alloc ?_ _) | (with_reducible refine Kd.C_drewN ?_ _) | (with_reducible refine Kd.C_drew ?_))); (case side4 => exact HC1_2.out); rintro e w8 ⟨v188, v191, rfl, ho0, ho1, hb⟩; refine ⟨_, rfl, ?_⟩; have HO189 := Aside0.mk (Kd.R_lower ho0 (below_size bx)); have HO192 := Aside0.mk (Kd.R_lower ho1 (below_size bx)); replace BK184 := Aside0.mk (blk_below (g := gb184) (o := .cells #[.int .i64 a1_0, .slice A1_1 l1_1.length c1_1, .slice A1_2 l1_2.length c1_2] 36 (0, 0)) (bS BK184.out) hb); replace BK185 := Aside0.mk (blk_below (g := gb185) (o := .cells #[.int .i64 0, .slice none 0 0, .slice none 0 0] 36 (0, 0)) (bS BK185.out) hb); replace HB := Aside0.mk (below_step bx hb); (try clear hb); (try clear ho0); (try clear ho1)) | ((with_reducible refine gate_dst (N := 5) rfl ?_); (try (refine gate_guard (by rfl) ?_; dsimp only)); refine box_event ?hg (N := 5) ?hd (cs := #[.int .i64 0, .slice none 0 0, .slice none 0 0]) (t := 36) ?hr ?_; (case hd => rfl); (case hg => rfl); (case hr => first | (go_simp; done) | (go_simp; rfl)); intro gb193 hg w9 hbox hb; replace HO189 := Aside0.mk (Kd.R_below (rS HO189.out) hb); replace HO192 := Aside0.mk (Kd.R_below (rS HO192.out) hb); have BK193 := Aside0.mk (hbox); have GW193 := Aside0.mk ((by rw [hg]; exact (below_size bx) : w.heap.size ≤ gb193)); have GE193 := Aside0.mk ((by rw [hg]; exact (below_size bx) : w.heap.size ≤ gb193)); replace HB := Aside0.mk (below_step bx hb); have NB184_193 := Aside0.mk ((by rw [hg]; exact Nat.ne_of_lt (blk_lt (g := gb184) (o := .cells #[.int .i64 a1_0, .slice A1_1 l1_1.length c1_1, .slice A1_2 l1_2.length c1_2] 36 (0, 0)) (bS BK184.out)) : gb184 ≠ gb193)); have NB193_184 := Aside0.mk ((by rw [hg]; exact Nat.ne_of_gt (blk_lt (g := gb184) (o := .cells #[.int .i64 a1_0, .slice A1_1 l1_1.length c1_1, .slice A1_2 l1_2.length c1_2] 36 (0, 0)) (bS BK184.out)) : gb193 ≠ gb184)); replace BK184 := Aside0.mk (blk_below (g := gb184) (o := .cells #[.int .i64 a1_0, .slice A1_1 l1_1.length c1_1, .slice A1_2 l1_2.length c1_2] 36 (0, 0)) (bS BK184.out) hb); have NB185_193 := Aside0.mk ((by rw [hg]; exact Nat.ne_of_lt (blk_lt (g := gb185) (o := .cells #[.int .i64 0, .slice none 0 0, .slice none 0 0] 36 (0, 0)) (bS BK185.out)) : gb185 ≠ gb193)); have NB193_185 := Aside0.mk ((by rw [hg]; exact Nat.ne_of_gt (blk_lt (g := gb185) (o := .cells #[.int .i64 0, .slice none 0 0, .slice none 0 0] 36 (0, 0)) (bS BK185.out)) : gb193 ≠ gb185)); replace BK185 := Aside0.mk (blk_below (g := gb185) (o := .cells #[.int .i64 0, .slice none 0 0, .slice none 0 0] 36 (0, 0)) (bS BK185.out) hb); clear hb hbox hg; have hnb10 := NB193_184.out; have hnc10 := NB184_193.out; have hnb11 := NB193_185.out; have hnc11 := NB185_193.out; have hcz12_0 : w9.cell? ⟨gb193, 0, none⟩ = some (.int .i64 0) := (blk_cell BK193.out 0).trans rfl; have hcz12_1 : w9.cell? ⟨gb193, 1, none⟩ = some (.slice none 0 0) := (blk_cell BK193.out 1).trans rfl; have hcz12_2 : w9.cell? ⟨gb193, 2, none⟩ = some (.slice none 0 0) := (blk_cell BK193.out 2).trans rfl; have hfz12_0 := blk_frozen BK193.out 0; have hfz12_1 := blk_frozen BK193.out 1; have hfz12_2 := blk_frozen BK193.out 2; obtain ⟨Ao13, co13, eo13⟩ := Kd.R_slice HO189.out; subst eo13; obtain ⟨Ao14, co14, eo14⟩ := Kd.R_slice HO192.out; subst eo14))
 go_loopg [6] k (fun kq v6 w' => ∃ (x6_1 : Int) (x194001_1 : List (S77)) (u194001 : Value), v6 = .int .i64 x6_1 ∧ Aside0 (spec_DropFrames.l0 kq l0 x6_1 t186 x194001_1 t190 = some (r1, r2, r3)) ∧ Aside0 (kq ≤ k) ∧ Aside0 (Kd.R k77 77 w' w.heap.size (fun _ => True) u194001 x194001_1) ∧ Aside0 (Kd.R (Kd.int .i64) 3 w' w.heap.size (fun _ => True) (.slice Ao14 t190.length co14) t190) ∧ Aside0 (w'.heap[gb184]? = some (.cells #[.int .i64 a1_0, (.slice A1_1 l1_1.length c1_1), (.slice A1_2 l1_2.length c1_2)] 36 (0, 0))) ∧ Aside0 (w'.heap[gb185]? = some (.cells #[.int .i64 0, (.slice none 0 0), (.slice none 0 0)] 36 (0, 0))) ∧ Aside0 (w'.heap[gb193]? = some (.cells #[.int .i64 t186, u194001, (.slice Ao14 t190.length co14)] 36 (0, 0))) ∧ Aside0 (Below w.heap.size w w'))
 case atStart => exact ⟨(wrap64 ((t187.length : Int) - 1)), (t187), (.slice Ao13 t187.length co13), tR, H', ⟨Nat.le_refl _⟩, ⟨by (with_reducible repeat (first | apply Kd.R_alloc | apply Kd.R_drewN | apply Kd.R_drew)); exact Kd.R_mono (Kd.R_far (p := ⟨gb193, 2, none⟩) (Kd.R_far (p := ⟨gb193, 1, none⟩) (Kd.R_far (p := ⟨gb193, 0, none⟩) (Kd.R_types HO189.out BK193.out (by decide)) (fun _ hk => hk.2) (.int .i64 t186)) (fun _ hk => hk.2) (.slice Ao13 t187.length co13)) (fun _ hk => hk.2) (.slice Ao14 t190.length co14)) (fun _ hk => trivial)⟩, ⟨by (with_reducible repeat (first | apply Kd.R_alloc | apply Kd.R_drewN | apply Kd.R_drew)); exact Kd.R_mono (Kd.R_far (p := ⟨gb193, 2, none⟩) (Kd.R_far (p := ⟨gb193, 1, none⟩) (Kd.R_far (p := ⟨gb193, 0, none⟩) (Kd.R_types HO192.out BK193.out (by decide)) (fun _ hk => hk.2) (.int .i64 t186)) (fun _ hk => hk.2) (.slice Ao13 t187.length co13)) (fun _ hk => hk.2) (.slice Ao14 t190.length co14)) (fun _ hk => trivial)⟩, ⟨by (with_reducible repeat (first | refine blk_drewN ?_ _ | refine blk_drew ?_ | refine blk_alloc ?_ _)); refine blk_far ?_ NB184_193.out _; (with_reducible repeat (first | refine blk_drewN ?_ _ | refine blk_drew ?_ | refine blk_alloc ?_ _)); refine blk_far ?_ NB184_193.out _; (with_reducible repeat (first | refine blk_drewN ?_ _ | refine blk_drew ?_ | refine blk_alloc ?_ _)); refine blk_far ?_ NB184_193.out _; (with_reducible repeat (first | refine blk_drewN ?_ _ | refine blk_drew ?_ | refine blk_alloc ?_ _)); exact BK184.out⟩, ⟨by (with_reducible repeat (first | refine blk_drewN ?_ _ | refine blk_drew ?_ | refine blk_alloc ?_ _)); refine blk_far ?_ NB185_193.out _; (with_reducible repeat (first | refine blk_drewN ?_ _ | refine blk_drew ?_ | refine blk_alloc ?_ _)); refine blk_far ?_ NB185_193.out _; (with_reducible repeat (first | refine blk_drewN ?_ _ | refine blk_drew ?_ | refine blk_alloc ?_ _)); refine blk_far ?_ NB185_193.out _; (with_reducible repeat (first | refine blk_drewN ?_ _ | refine blk_drew ?_ | refine blk_alloc ?_ _)); exact BK185.out⟩, ⟨by (with_reducible repeat (first | refine blk_drewN ?_ _ | refine blk_drew ?_ | refine blk_alloc ?_ _)); refine blk_put (cs := #[.int .i64 t186, .slice Ao13 t187.length co13, .slice none 0 0]) ?_ 2 _ rfl; (with_reducible repeat (first | refine blk_drewN ?_ _ | refine blk_drew ?_ | refine blk_alloc ?_ _)); refine blk_put (cs := #[.int .i64 t186, .slice none 0 0, .slice none 0 0]) ?_ 1 _ rfl; (with_reducible repeat (first | refine blk_drewN ?_ _ | refine blk_drew ?_ | refine blk_alloc ?_ _)); refine blk_put (cs := #[.int .i64 0, .slice none 0 0, .slice none 0 0]) ?_ 0 _ rfl; (with_reducible repeat (first | refine blk_drewN ?_ _ | refine blk_drew ?_ | refine blk_alloc ?_ _)); exact BK193.out⟩, ⟨bx⟩⟩
 case round =>
  clear H'
  try clear c1;try clear p2;try clear c6;try clear p6;try clear c10;try clear c11;try clear hcz12_0;try clear hcz12_1;try clear hcz12_2;try clear hcz7_0;try clear hcz7_1;try clear hcz7_2;try clear hfz12_0;try clear hfz12_1;try clear hfz12_2;try clear hfz7_0;try clear hfz7_1;try clear hfz7_2
  obtain ⟨x6_1, x194001_1, u194001, rfl, HA, HK1, HO_194001, HO_194002, BK184, BK185, BK193, HB⟩ := hrel
  cases gk with
  | zero => exact absurd HA.out (by simp [spec_DropFrames.l0])
  | succ k1 =>
   have H := HA.out
   clear HA
   simp only [spec_DropFrames.l0] at H
   by_cases c15 : x6_1 ≥ 0
   ·rw [if_pos c15] at H
    have c15b0 : decide (0 ≤ x6_1) = true := decide_eq_true c15
    clear c15
    by_cases c16 : 0 ≤ x6_1
    ·rw [if_pos c16] at H
     have c16b0 : decide (0 ≤ x6_1) = true := decide_eq_true c16
     clear c16
     by_cases c17 : x6_1 < (x194001_1.length : Int)
     ·rw [if_pos c17] at H
      have c17b0 : decide (x6_1 < (x194001_1.length : Int)) = true := decide_eq_true c17
      clear c17
      by_cases c18 : ((rd_T77 x194001_1 x6_1).f0) = ((rd_T77 x194001_1 x6_1).f1)
      ·rw [if_pos c18] at H
       have c18b0 : (((rd_T77 x194001_1 x6_1).f0) == ((rd_T77 x194001_1 x6_1).f1)) = true := beq_iff_eq.mpr c18
       have c18b1 : (((rd_T77 x194001_1 x6_1).f0) != ((rd_T77 x194001_1 x6_1).f1)) = false := bne_eq_false_iff_eq.mpr c18
       clear c18
       by_cases c19 : x6_1 ≤ (x194001_1.length : Int)
       ·rw [if_pos c19] at H
        have c19b0 := eq_true c19
        have c19b1 : decide (x6_1 ≤ (x194001_1.length : Int)) = true := decide_eq_true c19
        clear c19
        obtain ⟨y196, hy196⟩ : ∃ y_ : List (S77), y_ = (x194001_1.take (x6_1 : Int).toNat) := ⟨_, rfl⟩
        replace H : (spec_DropFrames.l0 k1 l0 (wrap64 (x6_1 - 1)) t186 y196 t190) = some (r1, r2, r3) := rP hy196 H
        have Ny196 := Aside0.mk hy196
        clear hy196
        have H' := Aside0.mk H
        clear H
        have hnb20 := NB193_184.out
        have hnc20 := NB184_193.out
        have hnb21 := NB193_185.out
        have hnc21 := NB185_193.out
        have hcz22_0 : wr.cell? ⟨gb193, 0, none⟩ = some (.int .i64 t186) := (blk_cell BK193.out 0).trans rfl
        have hcz22_1 : wr.cell? ⟨gb193, 1, none⟩ = some (u194001) := (blk_cell BK193.out 1).trans rfl
        have hcz22_2 : wr.cell? ⟨gb193, 2, none⟩ = some (.slice Ao14 t190.length co14) := (blk_cell BK193.out 2).trans rfl
        have hfz22_0 := blk_frozen BK193.out 0
        have hfz22_1 := blk_frozen BK193.out 1
        have hfz22_2 := blk_frozen BK193.out 2
        obtain ⟨Ao23, co23, eo23⟩ := Kd.R_slice HO_194001.out
        subst eo23
        have p194 : 0 ≤ (x6_1 : Int) := dT
        have q194 : x6_1 < (x194001_1.length : Int) := dT
        obtain ⟨ad194, e194, hx194_0, hx194_1, hx194_2⟩ := at_T77 (Kd.R_reads' HO_194001.out).2.2 x6_1 p194 q194
        cases e194
        replace p194 := eq_true p194
        replace q194 := eq_true q194
        go_wp2_with (first | ((with_reducible refine gate_dst (N := 7) rfl ?_); (try (refine gate_guard (by rfl) ?_; dsimp only)); refine box_event ?hg (N := 7) ?hd (cs := #[.int .i64 0, .int .i64 0, .int .i64 0]) (t := 77) ?hr ?_; (case hd => rfl); (case hg => rfl); (case hr => first | (go_simp; done) | (go_simp; rfl)); intro gb195 hg w24 hbox hb; replace HO_194001 := Aside0.mk (Kd.R_below (Kd.R_elderB (rS HO_194001.out) gb195 (Nat.le_of_eq hg.symm)) hb); replace HO_194002 := Aside0.mk (Kd.R_below (rS HO_194002.out) hb); have BK195 := Aside0.mk (hbox); have GW195 := Aside0.mk ((by rw [hg]; exact (below_size bx) : w.heap.size ≤ gb195)); have GE195 := Aside0.mk ((by rw [hg]; exact (below_size bx) : w.heap.size ≤ gb195)); replace HB := Aside0.mk (below_step bx hb); have NB184_195 := Aside0.mk ((by rw [hg]; exact Nat.ne_of_lt (blk_lt (g := gb184) (o := .cells #[.int .i64 a1_0, .slice A1_1 l1_1.length c1_1, .slice A1_2 l1_2.length c1_2] 36 (0, 0)) (bS BK184.out)) : gb184 ≠ gb195)); have NB195_184 := Aside0.mk ((by rw [hg]; exact Nat.ne_of_gt (blk_lt (g := gb184) (o := .cells #[.int .i64 a1_0, .slice A1_1 l1_1.length c1_1, .slice A1_2 l1_2.length c1_2] 36 (0, 0)) (bS BK184.out)) : gb195 ≠ gb184)); replace BK184 := Aside0.mk (blk_below (g := gb184) (o := .cells #[.int .i64 a1_0, .slice A1_1 l1_1.length c1_1, .slice A1_2 l1_2.length c1_2] 36 (0, 0)) (bS BK184.out) hb); have NB185_195 := Aside0.mk ((by rw [hg]; exact Nat.ne_of_lt (blk_lt (g := gb185) (o := .cells #[.int .i64 0, .slice none 0 0, .slice none 0 0] 36 (0, 0)) (bS BK185.out)) : gb185 ≠ gb195)); have NB195_185 := Aside0.mk ((by rw [hg]; exact Nat.ne_of_gt (blk_lt (g := gb185) (o := .cells #[.int .i64 0, .slice none 0 0, .slice none 0 0] 36 (0, 0)) (bS BK185.out)) : gb195 ≠ gb185)); replace BK185 := Aside0.mk (blk_below (g := gb185) (o := .cells #[.int .i64 0, .slice none 0 0, .slice none 0 0] 36 (0, 0)) (bS BK185.out) hb); have NB193_195 := Aside0.mk ((by rw [hg]; exact Nat.ne_of_lt (blk_lt (g := gb193) (o := .cells #[.int .i64 t186, .slice (some ad194) x194001_1.length co23, .slice Ao14 t190.length co14] 36 (0, 0)) (bS BK193.out)) : gb193 ≠ gb195)); have NB195_193 := Aside0.mk ((by rw [hg]; exact Nat.ne_of_gt (blk_lt (g := gb193) (o := .cells #[.int .i64 t186, .slice (some ad194) x194001_1.length co23, .slice Ao14 t190.length co14] 36 (0, 0)) (bS BK193.out)) : gb195 ≠ gb193)); replace BK193 := Aside0.mk (blk_below (g := gb193) (o := .cells #[.int .i64 t186, .slice (some ad194) x194001_1.length co23, .slice Ao14 t190.length co14] 36 (0, 0)) (bS BK193.out) hb); clear hb hbox hg; have hnb25 := NB195_184.out; have hnc25 := NB184_195.out; have hnb26 := NB195_185.out; have hnc26 := NB185_195.out; have hnb27 := NB195_193.out; have hnc27 := NB193_195.out; have hcz28_0 : w24.cell? ⟨gb195, 0, none⟩ = some (.int .i64 0) := (blk_cell BK195.out 0).trans rfl; have hcz28_1 : w24.cell? ⟨gb195, 1, none⟩ = some (.int .i64 0) := (blk_cell BK195.out 1).trans rfl; have hcz28_2 : w24.cell? ⟨gb195, 2, none⟩ = some (.int .i64 0) := (blk_cell BK195.out 2).trans rfl; have hfz28_0 := blk_frozen BK195.out 0; have hfz28_1 := blk_frozen BK195.out 1; have hfz28_2 := blk_frozen BK195.out 2) | ((with_reducible refine gate_store (t := 77) (p := 7) rfl ?_); refine store_event (t := 77) (p := 7) (v := ?vo_w29) (w1 := (((w24.setCell ⟨gb195, 0, none⟩ (.int .i64 ((rd_T77 x194001_1 x6_1).f0))).setCell ⟨gb195, 1, none⟩ (.int .i64 ((rd_T77 x194001_1 x6_1).f1))).setCell ⟨gb195, 2, none⟩ (.int .i64 ((rd_T77 x194001_1 x6_1).f2)))) ?hg ?ho ?hn ?hr ?_; (case ho => rfl); (case hg => rfl); (case hn => rfl); (case hr => first | (go_simp; done) | (go_simp; rfl)); intro w29 hw; have n0_ : Aside0 (Kd.R k77 77 w29 w.heap.size (fun k_ => k_ ≠ gb195) (.slice (some ad194) x194001_1.length co23) x194001_1) := ⟨(by rw [hw]; exact (by (with_reducible repeat (first | apply Kd.R_alloc | apply Kd.R_drewN | apply Kd.R_drew)); exact Kd.R_mono (Kd.R_far (p := ⟨gb195, 2, none⟩) (Kd.R_far (p := ⟨gb195, 1, none⟩) (Kd.R_far (p := ⟨gb195, 0, none⟩) (Kd.R_mono HO_194001.out (fun k_ hk => (⟨hk, hk.2⟩ : _ ∧ k_ ≠ gb195))) (fun _ hk => hk.2) (.int .i64 ((rd_T77 x194001_1 x6_1).f0))) (fun _ hk => hk.2) (.int .i64 ((rd_T77 x194001_1 x6_1).f1))) (fun _ hk => hk.2) (.int .i64 ((rd_T77 x194001_1 x6_1).f2))) (fun _ hk => hk.1.2)))⟩; have n1_ : Aside0 (Kd.R (Kd.int .i64) 3 w29 w.heap.size (fun _ => True) (.slice Ao14 t190.length co14) t190) := ⟨(by rw [hw]; exact (by (with_reducible repeat (first | apply Kd.R_alloc | apply Kd.R_drewN | apply Kd.R_drew)); exact Kd.R_mono (Kd.R_far (p := ⟨gb195, 2, none⟩) (Kd.R_far (p := ⟨gb195, 1, none⟩) (Kd.R_far (p := ⟨gb195, 0, none⟩) (Kd.R_types HO_194002.out BK195.out (by decide)) (fun _ hk => hk.2) (.int .i64 ((rd_T77 x194001_1 x6_1).f0))) (fun _ hk => hk.2) (.int .i64 ((rd_T77 x194001_1 x6_1).f1))) (fun _ hk => hk.2) (.int .i64 ((rd_T77 x194001_1 x6_1).f2))) (fun _ hk => trivial)))⟩; have n2_ : Aside0 (w29.heap[gb184]? = some (.cells #[.int .i64 a1_0, .slice A1_1 l1_1.length c1_1, .slice A1_2 l1_2.length c1_2] 36 (0, 0))) := ⟨(by rw [hw]; exact (by (with_reducible repeat (first | refine blk_drewN ?_ _ | refine blk_drew ?_ | refine blk_alloc ?_ _)); refine blk_far ?_ NB184_195.out _; (with_reducible repeat (first | refine blk_drewN ?_ _ | refine blk_drew ?_ | refine blk_alloc ?_ _)); refine blk_far ?_ NB184_195.out _; (with_reducible repeat (first | refine blk_drewN ?_ _ | refine blk_drew ?_ | refine blk_alloc ?_ _)); refine blk_far ?_ NB184_195.out _; (with_reducible repeat (first | refine blk_drewN ?_ _ | refine blk_drew ?_ | refine blk_alloc ?_ _)); exact BK184.out))⟩; have n3_ : Aside0 (w29.heap[gb185]? = some (.cells #[.int .i64 0, .slice none 0 0, .slice none 0 0] 36 (0, 0))) := ⟨(by rw [hw]; exact (by (with_reducible repeat (first | refine blk_drewN ?_ _ | refine blk_drew ?_ | refine blk_alloc ?_ _)); refine blk_far ?_ NB185_195.out _; (with_reducible repeat (first | refine blk_drewN ?_ _ | refine blk_drew ?_ | refine blk_alloc ?_ _)); refine blk_far ?_ NB185_195.out _; (with_reducible repeat (first | refine blk_drewN ?_ _ | refine blk_drew ?_ | refine blk_alloc ?_ _)); refine blk_far ?_ NB185_195.out _; (with_reducible repeat (first | refine blk_drewN ?_ _ | refine blk_drew ?_ | refine blk_alloc ?_ _)); exact BK185.out))⟩; have n4_ : Aside0 (w29.heap[gb193]? = some (.cells #[.int .i64 t186, .slice (some ad194) x194001_1.length co23, .slice Ao14 t190.length co14] 36 (0, 0))) := ⟨(by rw [hw]; exact (by (with_reducible repeat (first | refine blk_drewN ?_ _ | refine blk_drew ?_ | refine blk_alloc ?_ _)); refine blk_far ?_ NB193_195.out _; (with_reducible repeat (first | refine blk_drewN ?_ _ | refine blk_drew ?_ | refine blk_alloc ?_ _)); refine blk_far ?_ NB193_195.out _; (with_reducible repeat (first | refine blk_drewN ?_ _ | refine blk_drew ?_ | refine blk_alloc ?_ _)); refine blk_far ?_ NB193_195.out _; (with_reducible repeat (first | refine blk_drewN ?_ _ | refine blk_drew ?_ | refine blk_alloc ?_ _)); exact BK193.out))⟩; have n5_ : Aside0 (w29.heap[gb195]? = some (.cells #[.int .i64 ((rd_T77 x194001_1 x6_1).f0), .int .i64 ((rd_T77 x194001_1 x6_1).f1), .int .i64 ((rd_T77 x194001_1 x6_1).f2)] 77 (0, 0))) := ⟨(by rw [hw]; exact (by (with_reducible repeat (first | refine blk_drewN ?_ _ | refine blk_drew ?_ | refine blk_alloc ?_ _)); refine blk_put (cs := #[.int .i64 ((rd_T77 x194001_1 x6_1).f0), .int .i64 ((rd_T77 x194001_1 x6_1).f1), .int .i64 0]) ?_ 2 _ rfl; (with_reducible repeat (first | refine blk_drewN ?_ _ | refine blk_drew ?_ | refine blk_alloc ?_ _)); refine blk_put (cs := #[.int .i64 ((rd_T77 x194001_1 x6_1).f0), .int .i64 0, .int .i64 0]) ?_ 1 _ rfl; (with_reducible repeat (first | refine blk_drewN ?_ _ | refine blk_drew ?_ | refine blk_alloc ?_ _)); refine blk_put (cs := #[.int .i64 0, .int .i64 0, .int .i64 0]) ?_ 0 _ rfl; (with_reducible repeat (first | refine blk_drewN ?_ _ | refine blk_drew ?_ | refine blk_alloc ?_ _)); exact BK195.out))⟩; have n6_ : Aside0 (Below w.heap.size w w29) := ⟨(by rw [hw]; exact bx)⟩; clear hw; clear HO_194001; clear HO_194002; clear BK184; clear BK185; clear BK193; clear BK195; clear HB; have HO_194001 := n0_; have HO_194002 := n1_; have BK184 := n2_; have BK185 := n3_; have BK193 := n4_; have BK195 := n5_; have HB := n6_; clear n0_ n1_ n2_ n3_ n4_ n5_ n6_; have hcz30_0 : w29.cell? ⟨gb195, 0, none⟩ = some (.int .i64 ((rd_T77 x194001_1 x6_1).f0)) := (blk_cell BK195.out 0).trans rfl; have hcz30_1 : w29.cell? ⟨gb195, 1, none⟩ = some (.int .i64 ((rd_T77 x194001_1 x6_1).f1)) := (blk_cell BK195.out 1).trans rfl; have hcz30_2 : w29.cell? ⟨gb195, 2, none⟩ = some (.int .i64 ((rd_T77 x194001_1 x6_1).f2)) := (blk_cell BK195.out 2).trans rfl; have hfz30_0 := blk_frozen BK195.out 0; have hfz30_1 := blk_frozen BK195.out 1; have hfz30_2 := blk_frozen BK195.out 2; have hcz31_0 : w29.cell? ⟨gb193, 0, none⟩ = some (.int .i64 t186) := (blk_cell BK193.out 0).trans rfl; have hcz31_1 : w29.cell? ⟨gb193, 1, none⟩ = some (.slice (some ad194) x194001_1.length co23) := (blk_cell BK193.out 1).trans rfl; have hcz31_2 : w29.cell? ⟨gb193, 2, none⟩ = some (.slice Ao14 t190.length co14) := (blk_cell BK193.out 2).trans rfl; have hfz31_0 := blk_frozen BK193.out 0; have hfz31_1 := blk_frozen BK193.out 1; have hfz31_2 := blk_frozen BK193.out 2; have q32 : (x6_1 : Int) ≤ ((x194001_1.length : Int) : Int) := dT; obtain ⟨i032, hi032, _, hsz32, _⟩ := info_parts info77; have hcut32 := cut_to (P := Try.prog) 34 77 .i64 Try.underlying34 hi032 (some ad194) x194001_1.length co23 x6_1 (dT) q32 (Kd.R_reads' HO_194001.out).2.1; have hr32 := Kd.R_take (m := (x6_1 : Int).toNat) HO_194001.out (by omega); have hy32 : y196.length = (x6_1 : Int).toNat := (by rw [Ny196.out, List.length_take]; omega); rw [← Ny196.out] at hr32; rw [← hy32] at hr32 hcut32; clear hy32 hi032 hsz32 HO_194001; have HO198 := Aside0.mk hr32; clear hr32; replace q32 := eq_true q32))
        go_roundg k1
        case measure => have := HK1.out; omega
        case rel => exact ⟨(wrap64 (x6_1 - 1)), (y196), (.slice (some ad194) y196.length co23), tR, H', ⟨by have := HK1.out; omega⟩, ⟨by (with_reducible repeat (first | apply Kd.R_alloc | apply Kd.R_drewN | apply Kd.R_drew)); exact Kd.R_mono (Kd.R_far (p := ⟨gb193, 1, none⟩) (Kd.R_types HO198.out BK193.out (by decide)) (fun _ hk => hk.2) (.slice (some ad194) y196.length co23)) (fun _ hk => trivial)⟩, ⟨by (with_reducible repeat (first | apply Kd.R_alloc | apply Kd.R_drewN | apply Kd.R_drew)); exact Kd.R_mono (Kd.R_far (p := ⟨gb193, 1, none⟩) (Kd.R_types HO_194002.out BK193.out (by decide)) (fun _ hk => hk.2) (.slice (some ad194) y196.length co23)) (fun _ hk => trivial)⟩, ⟨by (with_reducible repeat (first | refine blk_drewN ?_ _ | refine blk_drew ?_ | refine blk_alloc ?_ _)); refine blk_far ?_ NB184_193.out _; (with_reducible repeat (first | refine blk_drewN ?_ _ | refine blk_drew ?_ | refine blk_alloc ?_ _)); exact BK184.out⟩, ⟨by (with_reducible repeat (first | refine blk_drewN ?_ _ | refine blk_drew ?_ | refine blk_alloc ?_ _)); refine blk_far ?_ NB185_193.out _; (with_reducible repeat (first | refine blk_drewN ?_ _ | refine blk_drew ?_ | refine blk_alloc ?_ _)); exact BK185.out⟩, ⟨by (with_reducible repeat (first | refine blk_drewN ?_ _ | refine blk_drew ?_ | refine blk_alloc ?_ _)); refine blk_put (cs := #[.int .i64 t186, .slice (some ad194) x194001_1.length co23, .slice Ao14 t190.length co14]) ?_ 1 _ rfl; (with_reducible repeat (first | refine blk_drewN ?_ _ | refine blk_drew ?_ | refine blk_alloc ?_ _)); exact BK193.out⟩, ⟨bx⟩⟩
       ·rw [if_neg c19] at H
        exact absurd H (by simp)
      ·rw [if_neg c18] at H
       have c18b0 : (((rd_T77 x194001_1 x6_1).f0) == ((rd_T77 x194001_1 x6_1).f1)) = false := beq_eq_false_iff_ne.mpr c18
       have c18b1 : (((rd_T77 x194001_1 x6_1).f0) != ((rd_T77 x194001_1 x6_1).f1)) = true := bne_iff_ne.mpr c18
       by_cases c33 : ((rd_T77 x194001_1 x6_1).f0) = (l0.length : Int)
       ·rw [if_pos c33] at H
        have c33b0 : (((rd_T77 x194001_1 x6_1).f0) == (l0.length : Int)) = true := beq_iff_eq.mpr c33
        have c33b1 : (((rd_T77 x194001_1 x6_1).f0) != (l0.length : Int)) = false := bne_eq_false_iff_eq.mpr c33
        clear c33
        by_cases c34 : x6_1 ≤ (x194001_1.length : Int)
        ·rw [if_pos c34] at H
         have c34b0 := eq_true c34
         have c34b1 : decide (x6_1 ≤ (x194001_1.length : Int)) = true := decide_eq_true c34
         clear c34
         obtain ⟨y199, hy199⟩ : ∃ y_ : List (S77), y_ = (x194001_1.take (x6_1 : Int).toNat) := ⟨_, rfl⟩
         replace H : (spec_DropFrames.l0 k1 l0 (wrap64 (x6_1 - 1)) t186 y199 t190) = some (r1, r2, r3) := rP hy199 H
         have Ny199 := Aside0.mk hy199
         clear hy199
         have H' := Aside0.mk H
         clear H
         have hnb35 := NB193_184.out
         have hnc35 := NB184_193.out
         have hnb36 := NB193_185.out
         have hnc36 := NB185_193.out
         have hcz37_0 : wr.cell? ⟨gb193, 0, none⟩ = some (.int .i64 t186) := (blk_cell BK193.out 0).trans rfl
         have hcz37_1 : wr.cell? ⟨gb193, 1, none⟩ = some (u194001) := (blk_cell BK193.out 1).trans rfl
         have hcz37_2 : wr.cell? ⟨gb193, 2, none⟩ = some (.slice Ao14 t190.length co14) := (blk_cell BK193.out 2).trans rfl
         have hfz37_0 := blk_frozen BK193.out 0
         have hfz37_1 := blk_frozen BK193.out 1
         have hfz37_2 := blk_frozen BK193.out 2
         obtain ⟨Ao38, co38, eo38⟩ := Kd.R_slice HO_194001.out
         subst eo38
         have p194 : 0 ≤ (x6_1 : Int) := dT
         have q194 : x6_1 < (x194001_1.length : Int) := dT
         obtain ⟨ad194, e194, hx194_0, hx194_1, hx194_2⟩ := at_T77 (Kd.R_reads' HO_194001.out).2.2 x6_1 p194 q194
         cases e194
         replace p194 := eq_true p194
         replace q194 := eq_true q194
         go_wp2_with (first | ((with_reducible refine gate_dst (N := 7) rfl ?_); (try (refine gate_guard (by rfl) ?_; dsimp only)); refine box_event ?hg (N := 7) ?hd (cs := #[.int .i64 0, .int .i64 0, .int .i64 0]) (t := 77) ?hr ?_; (case hd => rfl); (case hg => rfl); (case hr => first | (go_simp; done) | (go_simp; rfl)); intro gb195 hg w39 hbox hb; replace HO_194001 := Aside0.mk (Kd.R_below (Kd.R_elderB (rS HO_194001.out) gb195 (Nat.le_of_eq hg.symm)) hb); replace HO_194002 := Aside0.mk (Kd.R_below (rS HO_194002.out) hb); have BK195 := Aside0.mk (hbox); have GW195 := Aside0.mk ((by rw [hg]; exact (below_size bx) : w.heap.size ≤ gb195)); have GE195 := Aside0.mk ((by rw [hg]; exact (below_size bx) : w.heap.size ≤ gb195)); replace HB := Aside0.mk (below_step bx hb); have NB184_195 := Aside0.mk ((by rw [hg]; exact Nat.ne_of_lt (blk_lt (g := gb184) (o := .cells #[.int .i64 a1_0, .slice A1_1 l1_1.length c1_1, .slice A1_2 l1_2.length c1_2] 36 (0, 0)) (bS BK184.out)) : gb184 ≠ gb195)); have NB195_184 := Aside0.mk ((by rw [hg]; exact Nat.ne_of_gt (blk_lt (g := gb184) (o := .cells #[.int .i64 a1_0, .slice A1_1 l1_1.length c1_1, .slice A1_2 l1_2.length c1_2] 36 (0, 0)) (bS BK184.out)) : gb195 ≠ gb184)); replace BK184 := Aside0.mk (blk_below (g := gb184) (o := .cells #[.int .i64 a1_0, .slice A1_1 l1_1.length c1_1, .slice A1_2 l1_2.length c1_2] 36 (0, 0)) (bS BK184.out) hb); have NB185_195 := Aside0.mk ((by rw [hg]; exact Nat.ne_of_lt (blk_lt (g := gb185) (o := .cells #[.int .i64 0, .slice none 0 0, .slice none 0 0] 36 (0, 0)) (bS BK185.out)) : gb185 ≠ gb195)); have NB195_185 := Aside0.mk ((by rw [hg]; exact Nat.ne_of_gt (blk_lt (g := gb185) (o := .cells #[.int .i64 0, .slice none 0 0, .slice none 0 0] 36 (0, 0)) (bS BK185.out)) : gb195 ≠ gb185)); replace BK185 := Aside0.mk (blk_below (g := gb185) (o := .cells #[.int .i64 0, .slice none 0 0, .slice none 0 0] 36 (0, 0)) (bS BK185.out) hb); have NB193_195 := Aside0.mk ((by rw [hg]; exact Nat.ne_of_lt (blk_lt (g := gb193) (o := .cells #[.int .i64 t186, .slice (some ad194) x194001_1.length co38, .slice Ao14 t190.length co14] 36 (0, 0)) (bS BK193.out)) : gb193 ≠ gb195)); have NB195_193 := Aside0.mk ((by rw [hg]; exact Nat.ne_of_gt (blk_lt (g := gb193) (o := .cells #[.int .i64 t186, .slice (some ad194) x194001_1.length co38, .slice Ao14 t190.length co14] 36 (0, 0)) (bS BK193.out)) : gb195 ≠ gb193)); replace BK193 := Aside0.mk (blk_below (g := gb193) (o := .cells #[.int .i64 t186, .slice (some ad194) x194001_1.length co38, .slice Ao14 t190.length co14] 36 (0, 0)) (bS BK193.out) hb); clear hb hbox hg; have hnb40 := NB195_184.out; have hnc40 := NB184_195.out; have hnb41 := NB195_185.out; have hnc41 := NB185_195.out; have hnb42 := NB195_193.out; have hnc42 := NB193_195.out; have hcz43_0 : w39.cell? ⟨gb195, 0, none⟩ = some (.int .i64 0) := (blk_cell BK195.out 0).trans rfl; have hcz43_1 : w39.cell? ⟨gb195, 1, none⟩ = some (.int .i64 0) := (blk_cell BK195.out 1).trans rfl; have hcz43_2 : w39.cell? ⟨gb195, 2, none⟩ = some (.int .i64 0) := (blk_cell BK195.out 2).trans rfl; have hfz43_0 := blk_frozen BK195.out 0; have hfz43_1 := blk_frozen BK195.out 1; have hfz43_2 := blk_frozen BK195.out 2) | ((with_reducible refine gate_store (t := 77) (p := 7) rfl ?_); refine store_event (t := 77) (p := 7) (v := ?vo_w44) (w1 := (((w39.setCell ⟨gb195, 0, none⟩ (.int .i64 ((rd_T77 x194001_1 x6_1).f0))).setCell ⟨gb195, 1, none⟩ (.int .i64 ((rd_T77 x194001_1 x6_1).f1))).setCell ⟨gb195, 2, none⟩ (.int .i64 ((rd_T77 x194001_1 x6_1).f2)))) ?hg ?ho ?hn ?hr ?_; (case ho => rfl); (case hg => rfl); (case hn => rfl); (case hr => first | (go_simp; done) | (go_simp; rfl)); intro w44 hw; have n0_ : Aside0 (Kd.R k77 77 w44 w.heap.size (fun k_ => k_ ≠ gb195) (.slice (some ad194) x194001_1.length co38) x194001_1) := ⟨(by rw [hw]; exact (by (with_reducible repeat (first | apply Kd.R_alloc | apply Kd.R_drewN | apply Kd.R_drew)); exact Kd.R_mono (Kd.R_far (p := ⟨gb195, 2, none⟩) (Kd.R_far (p := ⟨gb195, 1, none⟩) (Kd.R_far (p := ⟨gb195, 0, none⟩) (Kd.R_mono HO_194001.out (fun k_ hk => (⟨hk, hk.2⟩ : _ ∧ k_ ≠ gb195))) (fun _ hk => hk.2) (.int .i64 ((rd_T77 x194001_1 x6_1).f0))) (fun _ hk => hk.2) (.int .i64 ((rd_T77 x194001_1 x6_1).f1))) (fun _ hk => hk.2) (.int .i64 ((rd_T77 x194001_1 x6_1).f2))) (fun _ hk => hk.1.2)))⟩; have n1_ : Aside0 (Kd.R (Kd.int .i64) 3 w44 w.heap.size (fun _ => True) (.slice Ao14 t190.length co14) t190) := ⟨(by rw [hw]; exact (by (with_reducible repeat (first | apply Kd.R_alloc | apply Kd.R_drewN | apply Kd.R_drew)); exact Kd.R_mono (Kd.R_far (p := ⟨gb195, 2, none⟩) (Kd.R_far (p := ⟨gb195, 1, none⟩) (Kd.R_far (p := ⟨gb195, 0, none⟩) (Kd.R_types HO_194002.out BK195.out (by decide)) (fun _ hk => hk.2) (.int .i64 ((rd_T77 x194001_1 x6_1).f0))) (fun _ hk => hk.2) (.int .i64 ((rd_T77 x194001_1 x6_1).f1))) (fun _ hk => hk.2) (.int .i64 ((rd_T77 x194001_1 x6_1).f2))) (fun _ hk => trivial)))⟩; have n2_ : Aside0 (w44.heap[gb184]? = some (.cells #[.int .i64 a1_0, .slice A1_1 l1_1.length c1_1, .slice A1_2 l1_2.length c1_2] 36 (0, 0))) := ⟨(by rw [hw]; exact (by (with_reducible repeat (first | refine blk_drewN ?_ _ | refine blk_drew ?_ | refine blk_alloc ?_ _)); refine blk_far ?_ NB184_195.out _; (with_reducible repeat (first | refine blk_drewN ?_ _ | refine blk_drew ?_ | refine blk_alloc ?_ _)); refine blk_far ?_ NB184_195.out _; (with_reducible repeat (first | refine blk_drewN ?_ _ | refine blk_drew ?_ | refine blk_alloc ?_ _)); refine blk_far ?_ NB184_195.out _; (with_reducible repeat (first | refine blk_drewN ?_ _ | refine blk_drew ?_ | refine blk_alloc ?_ _)); exact BK184.out))⟩; have n3_ : Aside0 (w44.heap[gb185]? = some (.cells #[.int .i64 0, .slice none 0 0, .slice none 0 0] 36 (0, 0))) := ⟨(by rw [hw]; exact (by (with_reducible repeat (first | refine blk_drewN ?_ _ | refine blk_drew ?_ | refine blk_alloc ?_ _)); refine blk_far ?_ NB185_195.out _; (with_reducible repeat (first | refine blk_drewN ?_ _ | refine blk_drew ?_ | refine blk_alloc ?_ _)); refine blk_far ?_ NB185_195.out _; (with_reducible repeat (first | refine blk_drewN ?_ _ | refine blk_drew ?_ | refine blk_alloc ?_ _)); refine blk_far ?_ NB185_195.out _; (with_reducible repeat (first | refine blk_drewN ?_ _ | refine blk_drew ?_ | refine blk_alloc ?_ _)); exact BK185.out))⟩; have n4_ : Aside0 (w44.heap[gb193]? = some (.cells #[.int .i64 t186, .slice (some ad194) x194001_1.length co38, .slice Ao14 t190.length co14] 36 (0, 0))) := ⟨(by rw [hw]; exact (by (with_reducible repeat (first | refine blk_drewN ?_ _ | refine blk_drew ?_ | refine blk_alloc ?_ _)); refine blk_far ?_ NB193_195.out _; (with_reducible repeat (first | refine blk_drewN ?_ _ | refine blk_drew ?_ | refine blk_alloc ?_ _)); refine blk_far ?_ NB193_195.out _; (with_reducible repeat (first | refine blk_drewN ?_ _ | refine blk_drew ?_ | refine blk_alloc ?_ _)); refine blk_far ?_ NB193_195.out _; (with_reducible repeat (first | refine blk_drewN ?_ _ | refine blk_drew ?_ | refine blk_alloc ?_ _)); exact BK193.out))⟩; have n5_ : Aside0 (w44.heap[gb195]? = some (.cells #[.int .i64 ((rd_T77 x194001_1 x6_1).f0), .int .i64 ((rd_T77 x194001_1 x6_1).f1), .int .i64 ((rd_T77 x194001_1 x6_1).f2)] 77 (0, 0))) := ⟨(by rw [hw]; exact (by (with_reducible repeat (first | refine blk_drewN ?_ _ | refine blk_drew ?_ | refine blk_alloc ?_ _)); refine blk_put (cs := #[.int .i64 ((rd_T77 x194001_1 x6_1).f0), .int .i64 ((rd_T77 x194001_1 x6_1).f1), .int .i64 0]) ?_ 2 _ rfl; (with_reducible repeat (first | refine blk_drewN ?_ _ | refine blk_drew ?_ | refine blk_alloc ?_ _)); refine blk_put (cs := #[.int .i64 ((rd_T77 x194001_1 x6_1).f0), .int .i64 0, .int .i64 0]) ?_ 1 _ rfl; (with_reducible repeat (first | refine blk_drewN ?_ _ | refine blk_drew ?_ | refine blk_alloc ?_ _)); refine blk_put (cs := #[.int .i64 0, .int .i64 0, .int .i64 0]) ?_ 0 _ rfl; (with_reducible repeat (first | refine blk_drewN ?_ _ | refine blk_drew ?_ | refine blk_alloc ?_ _)); exact BK195.out))⟩; have n6_ : Aside0 (Below w.heap.size w w44) := ⟨(by rw [hw]; exact bx)⟩; clear hw; clear HO_194001; clear HO_194002; clear BK184; clear BK185; clear BK193; clear BK195; clear HB; have HO_194001 := n0_; have HO_194002 := n1_; have BK184 := n2_; have BK185 := n3_; have BK193 := n4_; have BK195 := n5_; have HB := n6_; clear n0_ n1_ n2_ n3_ n4_ n5_ n6_; have hcz45_0 : w44.cell? ⟨gb195, 0, none⟩ = some (.int .i64 ((rd_T77 x194001_1 x6_1).f0)) := (blk_cell BK195.out 0).trans rfl; have hcz45_1 : w44.cell? ⟨gb195, 1, none⟩ = some (.int .i64 ((rd_T77 x194001_1 x6_1).f1)) := (blk_cell BK195.out 1).trans rfl; have hcz45_2 : w44.cell? ⟨gb195, 2, none⟩ = some (.int .i64 ((rd_T77 x194001_1 x6_1).f2)) := (blk_cell BK195.out 2).trans rfl; have hfz45_0 := blk_frozen BK195.out 0; have hfz45_1 := blk_frozen BK195.out 1; have hfz45_2 := blk_frozen BK195.out 2; have hcz46_0 : w44.cell? ⟨gb193, 0, none⟩ = some (.int .i64 t186) := (blk_cell BK193.out 0).trans rfl; have hcz46_1 : w44.cell? ⟨gb193, 1, none⟩ = some (.slice (some ad194) x194001_1.length co38) := (blk_cell BK193.out 1).trans rfl; have hcz46_2 : w44.cell? ⟨gb193, 2, none⟩ = some (.slice Ao14 t190.length co14) := (blk_cell BK193.out 2).trans rfl; have hfz46_0 := blk_frozen BK193.out 0; have hfz46_1 := blk_frozen BK193.out 1; have hfz46_2 := blk_frozen BK193.out 2; have q47 : (x6_1 : Int) ≤ ((x194001_1.length : Int) : Int) := dT; obtain ⟨i047, hi047, _, hsz47, _⟩ := info_parts info77; have hcut47 := cut_to (P := Try.prog) 34 77 .i64 Try.underlying34 hi047 (some ad194) x194001_1.length co38 x6_1 (dT) q47 (Kd.R_reads' HO_194001.out).2.1; have hr47 := Kd.R_take (m := (x6_1 : Int).toNat) HO_194001.out (by omega); have hy47 : y199.length = (x6_1 : Int).toNat := (by rw [Ny199.out, List.length_take]; omega); rw [← Ny199.out] at hr47; rw [← hy47] at hr47 hcut47; clear hy47 hi047 hsz47 HO_194001; have HO201 := Aside0.mk hr47; clear hr47; replace q47 := eq_true q47))
         go_roundg k1
         case measure => have := HK1.out; omega
         case rel => exact ⟨(wrap64 (x6_1 - 1)), (y199), (.slice (some ad194) y199.length co38), tR, H', ⟨by have := HK1.out; omega⟩, ⟨by (with_reducible repeat (first | apply Kd.R_alloc | apply Kd.R_drewN | apply Kd.R_drew)); exact Kd.R_mono (Kd.R_far (p := ⟨gb193, 1, none⟩) (Kd.R_types HO201.out BK193.out (by decide)) (fun _ hk => hk.2) (.slice (some ad194) y199.length co38)) (fun _ hk => trivial)⟩, ⟨by (with_reducible repeat (first | apply Kd.R_alloc | apply Kd.R_drewN | apply Kd.R_drew)); exact Kd.R_mono (Kd.R_far (p := ⟨gb193, 1, none⟩) (Kd.R_types HO_194002.out BK193.out (by decide)) (fun _ hk => hk.2) (.slice (some ad194) y199.length co38)) (fun _ hk => trivial)⟩, ⟨by (with_reducible repeat (first | refine blk_drewN ?_ _ | refine blk_drew ?_ | refine blk_alloc ?_ _)); refine blk_far ?_ NB184_193.out _; (with_reducible repeat (first | refine blk_drewN ?_ _ | refine blk_drew ?_ | refine blk_alloc ?_ _)); exact BK184.out⟩, ⟨by (with_reducible repeat (first | refine blk_drewN ?_ _ | refine blk_drew ?_ | refine blk_alloc ?_ _)); refine blk_far ?_ NB185_193.out _; (with_reducible repeat (first | refine blk_drewN ?_ _ | refine blk_drew ?_ | refine blk_alloc ?_ _)); exact BK185.out⟩, ⟨by (with_reducible repeat (first | refine blk_drewN ?_ _ | refine blk_drew ?_ | refine blk_alloc ?_ _)); refine blk_put (cs := #[.int .i64 t186, .slice (some ad194) x194001_1.length co38, .slice Ao14 t190.length co14]) ?_ 1 _ rfl; (with_reducible repeat (first | refine blk_drewN ?_ _ | refine blk_drew ?_ | refine blk_alloc ?_ _)); exact BK193.out⟩, ⟨bx⟩⟩
        ·rw [if_neg c34] at H
         exact absurd H (by simp)
       ·rw [if_neg c33] at H
        have c33b0 : (((rd_T77 x194001_1 x6_1).f0) == (l0.length : Int)) = false := beq_eq_false_iff_ne.mpr c33
        have c33b1 : (((rd_T77 x194001_1 x6_1).f0) != (l0.length : Int)) = true := bne_iff_ne.mpr c33
        simp only [Option.some.injEq, Prod.mk.injEq] at H
        obtain ⟨rfl, rfl, rfl⟩ := H
        have hnb48 := NB193_184.out
        have hnc48 := NB184_193.out
        have hnb49 := NB193_185.out
        have hnc49 := NB185_193.out
        have hcz50_0 : wr.cell? ⟨gb193, 0, none⟩ = some (.int .i64 t186) := (blk_cell BK193.out 0).trans rfl
        have hcz50_1 : wr.cell? ⟨gb193, 1, none⟩ = some (u194001) := (blk_cell BK193.out 1).trans rfl
        have hcz50_2 : wr.cell? ⟨gb193, 2, none⟩ = some (.slice Ao14 t190.length co14) := (blk_cell BK193.out 2).trans rfl
        have hfz50_0 := blk_frozen BK193.out 0
        have hfz50_1 := blk_frozen BK193.out 1
        have hfz50_2 := blk_frozen BK193.out 2
        obtain ⟨Ao51, co51, eo51⟩ := Kd.R_slice HO_194001.out
        subst eo51
        have p194 : 0 ≤ (x6_1 : Int) := dT
        have q194 : x6_1 < (x194001_1.length : Int) := dT
        obtain ⟨ad194, e194, hx194_0, hx194_1, hx194_2⟩ := at_T77 (Kd.R_reads' HO_194001.out).2.2 x6_1 p194 q194
        cases e194
        replace p194 := eq_true p194
        replace q194 := eq_true q194
        go_wp2_with (first | ((with_reducible refine gate_dst (N := 7) rfl ?_); (try (refine gate_guard (by rfl) ?_; dsimp only)); refine box_event ?hg (N := 7) ?hd (cs := #[.int .i64 0, .int .i64 0, .int .i64 0]) (t := 77) ?hr ?_; (case hd => rfl); (case hg => rfl); (case hr => first | (go_simp; done) | (go_simp; rfl)); intro gb195 hg w52 hbox hb; replace HO_194001 := Aside0.mk (Kd.R_below (Kd.R_elderB (rS HO_194001.out) gb195 (Nat.le_of_eq hg.symm)) hb); replace HO_194002 := Aside0.mk (Kd.R_below (rS HO_194002.out) hb); have BK195 := Aside0.mk (hbox); have GW195 := Aside0.mk ((by rw [hg]; exact (below_size bx) : w.heap.size ≤ gb195)); have GE195 := Aside0.mk ((by rw [hg]; exact (below_size bx) : w.heap.size ≤ gb195)); replace HB := Aside0.mk (below_step bx hb); have NB184_195 := Aside0.mk ((by rw [hg]; exact Nat.ne_of_lt (blk_lt (g := gb184) (o := .cells #[.int .i64 a1_0, .slice A1_1 l1_1.length c1_1, .slice A1_2 l1_2.length c1_2] 36 (0, 0)) (bS BK184.out)) : gb184 ≠ gb195)); have NB195_184 := Aside0.mk ((by rw [hg]; exact Nat.ne_of_gt (blk_lt (g := gb184) (o := .cells #[.int .i64 a1_0, .slice A1_1 l1_1.length c1_1, .slice A1_2 l1_2.length c1_2] 36 (0, 0)) (bS BK184.out)) : gb195 ≠ gb184)); replace BK184 := Aside0.mk (blk_below (g := gb184) (o := .cells #[.int .i64 a1_0, .slice A1_1 l1_1.length c1_1, .slice A1_2 l1_2.length c1_2] 36 (0, 0)) (bS BK184.out) hb); have NB185_195 := Aside0.mk ((by rw [hg]; exact Nat.ne_of_lt (blk_lt (g := gb185) (o := .cells #[.int .i64 0, .slice none 0 0, .slice none 0 0] 36 (0, 0)) (bS BK185.out)) : gb185 ≠ gb195)); have NB195_185 := Aside0.mk ((by rw [hg]; exact Nat.ne_of_gt (blk_lt (g := gb185) (o := .cells #[.int .i64 0, .slice none 0 0, .slice none 0 0] 36 (0, 0)) (bS BK185.out)) : gb195 ≠ gb185)); replace BK185 := Aside0.mk (blk_below (g := gb185) (o := .cells #[.int .i64 0, .slice none 0 0, .slice none 0 0] 36 (0, 0)) (bS BK185.out) hb); have NB193_195 := Aside0.mk ((by rw [hg]; exact Nat.ne_of_lt (blk_lt (g := gb193) (o := .cells #[.int .i64 t186, .slice (some ad194) x194001_1.length co51, .slice Ao14 t190.length co14] 36 (0, 0)) (bS BK193.out)) : gb193 ≠ gb195)); have NB195_193 := Aside0.mk ((by rw [hg]; exact Nat.ne_of_gt (blk_lt (g := gb193) (o := .cells #[.int .i64 t186, .slice (some ad194) x194001_1.length co51, .slice Ao14 t190.length co14] 36 (0, 0)) (bS BK193.out)) : gb195 ≠ gb193)); replace BK193 := Aside0.mk (blk_below (g := gb193) (o := .cells #[.int .i64 t186, .slice (some ad194) x194001_1.length co51, .slice Ao14 t190.length co14] 36 (0, 0)) (bS BK193.out) hb); clear hb hbox hg; have hnb53 := NB195_184.out; have hnc53 := NB184_195.out; have hnb54 := NB195_185.out; have hnc54 := NB185_195.out; have hnb55 := NB195_193.out; have hnc55 := NB193_195.out; have hcz56_0 : w52.cell? ⟨gb195, 0, none⟩ = some (.int .i64 0) := (blk_cell BK195.out 0).trans rfl; have hcz56_1 : w52.cell? ⟨gb195, 1, none⟩ = some (.int .i64 0) := (blk_cell BK195.out 1).trans rfl; have hcz56_2 : w52.cell? ⟨gb195, 2, none⟩ = some (.int .i64 0) := (blk_cell BK195.out 2).trans rfl; have hfz56_0 := blk_frozen BK195.out 0; have hfz56_1 := blk_frozen BK195.out 1; have hfz56_2 := blk_frozen BK195.out 2; have hcz57_0 : w52.cell? ⟨gb193, 0, none⟩ = some (.int .i64 t186) := (blk_cell BK193.out 0).trans rfl; have hcz57_1 : w52.cell? ⟨gb193, 1, none⟩ = some (.slice (some ad194) x194001_1.length co51) := (blk_cell BK193.out 1).trans rfl; have hcz57_2 : w52.cell? ⟨gb193, 2, none⟩ = some (.slice Ao14 t190.length co14) := (blk_cell BK193.out 2).trans rfl; have hfz57_0 := blk_frozen BK193.out 0; have hfz57_1 := blk_frozen BK193.out 1; have hfz57_2 := blk_frozen BK193.out 2; have hnb58 := NB185_184.out; have hnc58 := NB184_185.out; have hcz59_0 : w52.cell? ⟨gb185, 0, none⟩ = some (.int .i64 0) := (blk_cell BK185.out 0).trans rfl; have hcz59_1 : w52.cell? ⟨gb185, 1, none⟩ = some (.slice none 0 0) := (blk_cell BK185.out 1).trans rfl; have hcz59_2 : w52.cell? ⟨gb185, 2, none⟩ = some (.slice none 0 0) := (blk_cell BK185.out 2).trans rfl; have hfz59_0 := blk_frozen BK185.out 0; have hfz59_1 := blk_frozen BK185.out 1; have hfz59_2 := blk_frozen BK185.out 2))
        refine bodyPost_ret (results_cell_row rfl _ _ gb185 36 #[.int .i64 t186, .slice (some ad194) x194001_1.length co51, .slice Ao14 t190.length co14] (0, 0) _ rfl (by (with_reducible repeat (first | refine blk_drewN ?_ _ | refine blk_drew ?_ | refine blk_alloc ?_ _)); refine blk_put (cs := #[.int .i64 t186, .slice (some ad194) x194001_1.length co51, .slice none 0 0]) ?_ 2 _ rfl; (with_reducible repeat (first | refine blk_drewN ?_ _ | refine blk_drew ?_ | refine blk_alloc ?_ _)); refine blk_put (cs := #[.int .i64 t186, .slice none 0 0, .slice none 0 0]) ?_ 1 _ rfl; (with_reducible repeat (first | refine blk_drewN ?_ _ | refine blk_drew ?_ | refine blk_alloc ?_ _)); refine blk_put (cs := #[.int .i64 0, .slice none 0 0, .slice none 0 0]) ?_ 0 _ rfl; (with_reducible repeat (first | refine blk_drewN ?_ _ | refine blk_drew ?_ | refine blk_alloc ?_ _)); refine blk_far ?_ NB185_195.out _; (with_reducible repeat (first | refine blk_drewN ?_ _ | refine blk_drew ?_ | refine blk_alloc ?_ _)); refine blk_far ?_ NB185_195.out _; (with_reducible repeat (first | refine blk_drewN ?_ _ | refine blk_drew ?_ | refine blk_alloc ?_ _)); refine blk_far ?_ NB185_195.out _; (with_reducible repeat (first | refine blk_drewN ?_ _ | refine blk_drew ?_ | refine blk_alloc ?_ _)); exact BK185.out) Try.underlying36 rfl (by kernel_rfl)) rfl ?_
        exact ⟨_, _, eR, by (with_reducible repeat (first | apply Kd.R_alloc | apply Kd.R_drewN | apply Kd.R_drew)); exact Kd.R_mono (Kd.R_far (p := ⟨gb185, 2, none⟩) (Kd.R_far (p := ⟨gb185, 1, none⟩) (Kd.R_far (p := ⟨gb185, 0, none⟩) (Kd.R_far (p := ⟨gb195, 2, none⟩) (Kd.R_far (p := ⟨gb195, 1, none⟩) (Kd.R_far (p := ⟨gb195, 0, none⟩) (Kd.R_types (Kd.R_mono HO_194001.out (fun k_ hk => (⟨hk, hk.2⟩ : _ ∧ k_ ≠ gb195))) BK185.out (by decide)) (fun _ hk => hk.1.2) (.int .i64 ((rd_T77 x194001_1 x6_1).f0))) (fun _ hk => hk.1.2) (.int .i64 ((rd_T77 x194001_1 x6_1).f1))) (fun _ hk => hk.1.2) (.int .i64 ((rd_T77 x194001_1 x6_1).f2))) (fun _ hk => hk.2) (.int .i64 t186)) (fun _ hk => hk.2) (.slice (some ad194) x194001_1.length co51)) (fun _ hk => hk.2) (.slice Ao14 t190.length co14)) (fun _ hk => trivial), by (with_reducible repeat (first | apply Kd.R_alloc | apply Kd.R_drewN | apply Kd.R_drew)); exact Kd.R_mono (Kd.R_far (p := ⟨gb185, 2, none⟩) (Kd.R_far (p := ⟨gb185, 1, none⟩) (Kd.R_far (p := ⟨gb185, 0, none⟩) (Kd.R_far (p := ⟨gb195, 2, none⟩) (Kd.R_far (p := ⟨gb195, 1, none⟩) (Kd.R_far (p := ⟨gb195, 0, none⟩) (Kd.R_types (Kd.R_types HO_194002.out BK195.out (by decide)) BK185.out (by decide)) (fun _ hk => hk.1.2) (.int .i64 ((rd_T77 x194001_1 x6_1).f0))) (fun _ hk => hk.1.2) (.int .i64 ((rd_T77 x194001_1 x6_1).f1))) (fun _ hk => hk.1.2) (.int .i64 ((rd_T77 x194001_1 x6_1).f2))) (fun _ hk => hk.2) (.int .i64 t186)) (fun _ hk => hk.2) (.slice (some ad194) x194001_1.length co51)) (fun _ hk => hk.2) (.slice Ao14 t190.length co14)) (fun _ hk => trivial), bx⟩
     ·rw [if_neg c17] at H
      exact absurd H (by simp)
    ·rw [if_neg c16] at H
     exact absurd H (by simp)
   ·rw [if_neg c15] at H
    have c15b0 : decide (0 ≤ x6_1) = false := decide_eq_false c15
    clear c15
    simp only [Option.some.injEq, Prod.mk.injEq] at H
    obtain ⟨rfl, rfl, rfl⟩ := H
    have hnb60 := NB193_184.out
    have hnc60 := NB184_193.out
    have hnb61 := NB193_185.out
    have hnc61 := NB185_193.out
    have hcz62_0 : wr.cell? ⟨gb193, 0, none⟩ = some (.int .i64 t186) := (blk_cell BK193.out 0).trans rfl
    have hcz62_1 : wr.cell? ⟨gb193, 1, none⟩ = some (u194001) := (blk_cell BK193.out 1).trans rfl
    have hcz62_2 : wr.cell? ⟨gb193, 2, none⟩ = some (.slice Ao14 t190.length co14) := (blk_cell BK193.out 2).trans rfl
    have hfz62_0 := blk_frozen BK193.out 0
    have hfz62_1 := blk_frozen BK193.out 1
    have hfz62_2 := blk_frozen BK193.out 2
    have hnb63 := NB185_184.out
    have hnc63 := NB184_185.out
    have hcz64_0 : wr.cell? ⟨gb185, 0, none⟩ = some (.int .i64 0) := (blk_cell BK185.out 0).trans rfl
    have hcz64_1 : wr.cell? ⟨gb185, 1, none⟩ = some (.slice none 0 0) := (blk_cell BK185.out 1).trans rfl
    have hcz64_2 : wr.cell? ⟨gb185, 2, none⟩ = some (.slice none 0 0) := (blk_cell BK185.out 2).trans rfl
    have hfz64_0 := blk_frozen BK185.out 0
    have hfz64_1 := blk_frozen BK185.out 1
    have hfz64_2 := blk_frozen BK185.out 2
    obtain ⟨Ao65, co65, eo65⟩ := Kd.R_slice HO_194001.out
    subst eo65
    go_wp2
    refine bodyPost_ret (results_cell_row rfl _ _ gb185 36 #[.int .i64 t186, .slice Ao65 x194001_1.length co65, .slice Ao14 t190.length co14] (0, 0) _ rfl (by (with_reducible repeat (first | refine blk_drewN ?_ _ | refine blk_drew ?_ | refine blk_alloc ?_ _)); refine blk_put (cs := #[.int .i64 t186, .slice Ao65 x194001_1.length co65, .slice none 0 0]) ?_ 2 _ rfl; (with_reducible repeat (first | refine blk_drewN ?_ _ | refine blk_drew ?_ | refine blk_alloc ?_ _)); refine blk_put (cs := #[.int .i64 t186, .slice none 0 0, .slice none 0 0]) ?_ 1 _ rfl; (with_reducible repeat (first | refine blk_drewN ?_ _ | refine blk_drew ?_ | refine blk_alloc ?_ _)); refine blk_put (cs := #[.int .i64 0, .slice none 0 0, .slice none 0 0]) ?_ 0 _ rfl; (with_reducible repeat (first | refine blk_drewN ?_ _ | refine blk_drew ?_ | refine blk_alloc ?_ _)); exact BK185.out) Try.underlying36 rfl (by kernel_rfl)) rfl ?_
    exact ⟨_, _, eR, by (with_reducible repeat (first | apply Kd.R_alloc | apply Kd.R_drewN | apply Kd.R_drew)); exact Kd.R_mono (Kd.R_far (p := ⟨gb185, 2, none⟩) (Kd.R_far (p := ⟨gb185, 1, none⟩) (Kd.R_far (p := ⟨gb185, 0, none⟩) (Kd.R_types HO_194001.out BK185.out (by decide)) (fun _ hk => hk.2) (.int .i64 t186)) (fun _ hk => hk.2) (.slice Ao65 x194001_1.length co65)) (fun _ hk => hk.2) (.slice Ao14 t190.length co14)) (fun _ hk => trivial), by (with_reducible repeat (first | apply Kd.R_alloc | apply Kd.R_drewN | apply Kd.R_drew)); exact Kd.R_mono (Kd.R_far (p := ⟨gb185, 2, none⟩) (Kd.R_far (p := ⟨gb185, 1, none⟩) (Kd.R_far (p := ⟨gb185, 0, none⟩) (Kd.R_types HO_194002.out BK185.out (by decide)) (fun _ hk => hk.2) (.int .i64 t186)) (fun _ hk => hk.2) (.slice Ao65 x194001_1.length co65)) (fun _ hk => hk.2) (.slice Ao14 t190.length co14)) (fun _ hk => trivial), bx⟩

/-! ### slices_Clone_int_int: function 105 -/
def cloneIntF (l0 : List Int) : Option (List Int) := if l0.length < 17592186044416 then some l0 else none
def slices_Clone_int_int.f (l0 : List Int) : Option (List Int) := cloneIntF l0
theorem cloneInt_f (l0 : List Int) : slices_Clone_int_int.f l0 = cloneIntF l0 := rfl
set_option maxHeartbeats 1000000 in
set_option maxRecDepth 100000 in
theorem slices_Clone_int_int.calls (A0 : Option Addr) (c0 : Nat) (l0 : List Int) (r : List Int) (w : World) (hr0 : Kd.C (Kd.int .i64) w A0 l0.length l0) (hc0 : l0.length ≤ c0) (h : slices_Clone_int_int.f l0 = some r) :
    Calls Try.prog 105 #[.slice A0 l0.length c0] w fun e w' => ∃ v0_ : Value, e = .returned (v0_) ∧ Kd.R (Kd.int .i64) 3 w' w.heap.size (fun _ => True) v0_ r ∧ Below w.heap.size w w' := by
  unfold slices_Clone_int_int.f cloneIntF at h
  by_cases hl : l0.length < 17592186044416
  · rw [if_pos hl] at h
    obtain rfl := Option.some.inj h
    cases A0 with
    | none =>
      have hz : l0 = [] := by
        rcases Nat.eq_zero_or_pos l0.length with h0 | h0
        · exact List.length_eq_zero_iff.1 h0
        · obtain ⟨ad, e, _⟩ := hr0.2.2 h0
          exact absurd e (by simp)
      subst hz
      have hnil : ∀ (W : World) (n c : Nat), (binOp .eql 22 (.slice none n c) (.slice none 0 0)).run Try.prog W = .ok (.bool true) W := fun W n c => Lib.run_eql_slice_nil W 22 3 none n c 0 0 Try.underlying22
      clear hr0 h hl
      go_enter Try.func105, Try.ntmps105
      go_wp2
      go_ret
      exact ⟨_, rfl, Kd.R_nil _ _ _ _ _, Below.refl _ _⟩
    | some ad =>
      have hnil : ∀ (W : World) (n c : Nat), (binOp .eql 22 (.slice (some ad) n c) (.slice none 0 0)).run Try.prog W = .ok (.bool false) W := fun W n c => Lib.run_eql_slice_nil W 22 3 (some ad) n c 0 0 Try.underlying22
      have HR := Aside0.mk hr0
      have HL := Aside0.mk hl
      clear hr0 h hl
      go_enter Try.func105, Try.ntmps105
      go_wp2_with (first | ((with_reducible refine gate_dst (N := 5) rfl ?_); refine Kd.R_lit (Kd.int .i64) _ 3 ?hg (N := 5) ?hd (xs := ([] : List Int)) (inner := []) (ok := fun _ => True) (okp := fun _ => True) ?hr ?hp (fun _ hk => hk) trivial (Below.refl _ _) (Nat.le_refl _) (by simp) ?_; (case hd => rfl); (case hg => rfl); (case hr => first | (go_simp; done) | (go_simp; rfl)); (case hp => exact (Reps.none _ _)); intro v132 w10 ho11 hb hg_ hnew_; clear hg_ hnew_; have HO := Aside0.mk ho11; have HB := Aside0.mk hb; clear hb ho11) | ((with_reducible refine gate_builtin (b := .append) (xs := #[.tmp 5, .tmp 6]) rfl ?_); at_builtin; refine Kd.R_append_rows (Kd.int .i64) (w0 := w) w.heap.size rfl (.tmp 5) (.tmp 6) 22 3 (.int .i64 0) 8 rfl Try.underlying22 info3 rfl (by decide) (by omega) v132 [] l0 _ _ _ (fun _ => True) (fun _ => False) rfl rfl ?aO ?aR (fun _ _ h => h) (fun _ h => h.elim) ?aF ?aB ?aS ?aL ?_; (case aR => exact Kd.C_below HR.out HB.out); (case aB => exact HB.out); (case aF => exact (fun _ _ => trivial)); (case aO => exact HO.out); (case aS => exact below_size HB.out); (case aL => have := HL.out; simp only [List.length_nil]; omega); intro v135 w12 ho hb hg hat; have HO2 := Aside0.mk ho; have HB2 := Aside0.mk hb; clear ho hb hg hat))
      go_ret
      exact ⟨_, rfl, by have h_ := HO2.out; rwa [List.nil_append] at h_, HB2.out⟩
  · rw [if_neg hl] at h
    exact absurd h (by simp)

/-! ### impl_Frame: function 139 -/
def cloneFrameF (l0 : List (S77)) : Option (List (S77)) := if l0.length < 5864062014805 then some l0 else none
def impl_Frame.f (l0 : List (S77)) : Option (List (S77)) := cloneFrameF l0
theorem cloneFrame_f (l0 : List (S77)) : impl_Frame.f l0 = cloneFrameF l0 := rfl
set_option maxHeartbeats 1000000 in
set_option maxRecDepth 100000 in
theorem impl_Frame.calls (A0 : Option Addr) (c0 : Nat) (l0 : List (S77)) (r : List (S77)) (w : World) (hr0 : Kd.C k77 w A0 l0.length l0) (hc0 : l0.length ≤ c0) (h : impl_Frame.f l0 = some r) :
    Calls Try.prog 139 #[.slice A0 l0.length c0] w fun e w' => ∃ v0_ : Value, e = .returned (v0_) ∧ Kd.R k77 77 w' w.heap.size (fun _ => True) v0_ r ∧ Below w.heap.size w w' := by
  unfold impl_Frame.f cloneFrameF at h
  by_cases hl : l0.length < 5864062014805
  · rw [if_pos hl] at h
    obtain rfl := Option.some.inj h
    cases A0 with
    | none =>
      have hz : l0 = [] := by
        rcases Nat.eq_zero_or_pos l0.length with h0 | h0
        · exact List.length_eq_zero_iff.1 h0
        · obtain ⟨ad, e, _⟩ := hr0.2.2 h0
          exact absurd e (by simp)
      subst hz
      have hnil : ∀ (W : World) (n c : Nat), (binOp .eql 34 (.slice none n c) (.slice none 0 0)).run Try.prog W = .ok (.bool true) W := fun W n c => Lib.run_eql_slice_nil W 34 77 none n c 0 0 Try.underlying34
      clear hr0 h hl
      go_enter Try.func139, Try.ntmps139
      go_wp2
      go_ret
      exact ⟨_, rfl, Kd.R_nil _ _ _ _ _, Below.refl _ _⟩
    | some ad =>
      have hnil : ∀ (W : World) (n c : Nat), (binOp .eql 34 (.slice (some ad) n c) (.slice none 0 0)).run Try.prog W = .ok (.bool false) W := fun W n c => Lib.run_eql_slice_nil W 34 77 (some ad) n c 0 0 Try.underlying34
      have HR := Aside0.mk hr0
      have HL := Aside0.mk hl
      clear hr0 h hl
      go_enter Try.func139, Try.ntmps139
      go_wp2_with (first | ((with_reducible refine gate_dst (N := 5) rfl ?_); refine Kd.R_lit k77 _ 77 ?hg (N := 5) ?hd (xs := ([] : List (S77))) (inner := []) (ok := fun _ => True) (okp := fun _ => True) ?hr ?hp (fun _ hk => hk) trivial (Below.refl _ _) (Nat.le_refl _) (by simp) ?_; (case hd => rfl); (case hg => rfl); (case hr => first | (go_simp; done) | (go_simp; rfl)); (case hp => exact (Reps.none _ _)); intro v132 w10 ho11 hb hg_ hnew_; clear hg_ hnew_; have HO := Aside0.mk ho11; have HB := Aside0.mk hb; clear hb ho11) | ((with_reducible refine gate_builtin (b := .append) (xs := #[.tmp 5, .tmp 6]) rfl ?_); at_builtin; refine Kd.R_append_rows k77 (w0 := w) w.heap.size rfl (.tmp 5) (.tmp 6) 34 77 (.agg #[(.int .i64 0), (.int .i64 0), (.int .i64 0)]) 24 rfl Try.underlying34 info77 rfl (by decide) (by omega) v132 [] l0 _ _ _ (fun _ => True) (fun _ => False) rfl rfl ?aO ?aR (fun _ _ h => h) (fun _ h => h.elim) ?aF ?aB ?aS ?aL ?_; (case aR => exact Kd.C_below HR.out HB.out); (case aB => exact HB.out); (case aF => exact (fun _ _ => trivial)); (case aO => exact HO.out); (case aS => exact below_size HB.out); (case aL => have := HL.out; simp only [List.length_nil]; omega); intro v135 w12 ho hb hg hat; have HO2 := Aside0.mk ho; have HB2 := Aside0.mk hb; clear ho hb hg hat))
      go_ret
      exact ⟨_, rfl, by have h_ := HO2.out; rwa [List.nil_append] at h_, HB2.out⟩
  · rw [if_neg hl] at h
    exact absurd h (by simp)

/-! ### impl_copyWarp: function 118 -/
def impl_copyWarp.f (a0_0 : Int) (l0_1 : List (S77)) (l0_2 : List Int) : Option (Int × (List (S77)) × List Int) := (impl_Frame.f l0_1).bind fun t204 => ((slices_Clone_int_int.f l0_2).bind fun t207 => (some (a0_0, t204, t207)))
def impl_copyWarp.T1 : Bool × List (List Nat × List Nat) := (true, [([], []), ([0], [0]), ([1], [1]), ([], []), ([3], [3]), ([4, 2], [4]), ([0, 1, 2, 3, 4], []), ([6, 2, 5, 0, 1, 2, 3, 4], [2, 6]), ([0, 1, 2, 3, 4, 5, 6, 7], []), ([8, 5, 7, 0, 1, 2, 3, 4, 5, 6, 7], [5, 8])])
def impl_copyWarp.B1 : List Nat := [0, 1, 3, 0, 8, 31, 31, 127, 255, 511]
theorem impl_copyWarp.tab1 : rtab .any (opsOf Try.f118 1) = impl_copyWarp.T1 := by kernel_rfl
theorem impl_copyWarp.bits1 : waitsOk impl_copyWarp.T1.2 impl_copyWarp.B1 = true := by kernel_rfl
set_option maxHeartbeats 8000000 in
set_option maxRecDepth 100000 in
theorem impl_copyWarp.calls (a0_0 : Int) (A0_1 : Option Addr) (c0_1 : Nat) (l0_1 : List (S77)) (A0_2 : Option Addr) (c0_2 : Nat) (l0_2 : List Int) (r1 : Int) (r2 : List (S77)) (r3 : List Int) (w : World) (hr0_1 : Kd.C k77 w A0_1 l0_1.length l0_1) (hc0_1 : l0_1.length ≤ c0_1) (hr0_2 : Kd.C (Kd.int .i64) w A0_2 l0_2.length l0_2) (hc0_2 : l0_2.length ≤ c0_2) (h : impl_copyWarp.f a0_0 l0_1 l0_2 = some (r1, r2, r3)) :
  Calls Try.prog 118 #[.agg #[.int .i64 a0_0, .slice A0_1 l0_1.length c0_1, .slice A0_2 l0_2.length c0_2]] w fun e w' => ∃ v1_ v2_ : Value, e = .returned (.agg #[.int .i64 r1, v1_, v2_]) ∧ Kd.R k77 77 w' w.heap.size (fun _ => True) v1_ r2 ∧ Kd.R (Kd.int .i64) 3 w' w.heap.size (fun _ => True) v2_ r3 ∧ Below w.heap.size w w' := by
 have hu36 := Try.underlying36
 have HR0_1 := Aside0.mk hr0_1
 have HC0_1 := Aside0.mk hc0_1
 clear hr0_1 hc0_1
 have HR0_2 := Aside0.mk hr0_2
 have HC0_2 := Aside0.mk hc0_2
 clear hr0_2 hc0_2
 have HB := Aside0.mk (Below.refl w.heap.size w)
 have H : ((impl_Frame.f l0_1).bind fun t204 => ((slices_Clone_int_int.f l0_2).bind fun t207 => (some (a0_0, t204, t207)))) = some (r1, r2, r3) := h
 clear h
 replace H := Option.bind_eq_some_iff.mp H
 obtain ⟨t204, A20, H⟩ := H
 replace H : ((slices_Clone_int_int.f l0_2).bind fun t207 => (some (a0_0, t204, t207))) = some (r1, r2, r3) := H
 have A2 := Aside0.mk A20
 clear A20
 replace H := Option.bind_eq_some_iff.mp H
 obtain ⟨t207, A30, H⟩ := H
 replace H : (some (a0_0, t204, t207)) = some (r1, r2, r3) := H
 have A3 := Aside0.mk A30
 clear A30
 simp only [Option.some.injEq, Prod.mk.injEq] at H
 obtain ⟨rfl, rfl, rfl⟩ := H
 go_enter Try.func118, Try.ntmps118
 try go_wp2_with (first | ((with_reducible refine gate_dst (N := 1) rfl ?_); refine box_event ?hg (N := 1) ?hd (cs := #[.int .i64 a0_0, .slice A0_1 l0_1.length c0_1, .slice A0_2 l0_2.length c0_2]) (t := 36) ?hr ?_; (case hd => rfl); (case hg => rfl); (case hr => first | (go_simp; done) | (go_simp; rfl)); intro gb202 hg w4 hbox hb; have BK202 := Aside0.mk (hbox); have GW202 := Aside0.mk ((by rw [hg]; exact (below_size bw) : w.heap.size ≤ gb202)); have GE202 := Aside0.mk ((by rw [hg]; exact (below_size bw) : w.heap.size ≤ gb202)); replace HB := Aside0.mk (below_step bw hb); clear hb hbox hg) | ((with_reducible refine gate_dst (N := 2) rfl ?_); refine box_event ?hg (N := 2) ?hd (cs := #[.int .i64 0, .slice none 0 0, .slice none 0 0]) (t := 36) ?hr ?_; (case hd => rfl); (case hg => rfl); (case hr => first | (go_simp; done) | (go_simp; rfl)); intro gb203 hg w5 hbox hb; have BK203 := Aside0.mk (hbox); have GW203 := Aside0.mk ((by rw [hg]; exact (below_size bx) : w.heap.size ≤ gb203)); have GE203 := Aside0.mk ((by rw [hg]; exact (below_size bx) : w.heap.size ≤ gb203)); replace HB := Aside0.mk (below_step bx hb); have NB202_203 := Aside0.mk ((by rw [hg]; exact Nat.ne_of_lt (blk_lt (g := gb202) (o := .cells #[.int .i64 a0_0, .slice A0_1 l0_1.length c0_1, .slice A0_2 l0_2.length c0_2] 36 (0, 0)) (bS BK202.out)) : gb202 ≠ gb203)); have NB203_202 := Aside0.mk ((by rw [hg]; exact Nat.ne_of_gt (blk_lt (g := gb202) (o := .cells #[.int .i64 a0_0, .slice A0_1 l0_1.length c0_1, .slice A0_2 l0_2.length c0_2] 36 (0, 0)) (bS BK202.out)) : gb203 ≠ gb202)); replace BK202 := Aside0.mk (blk_below (g := gb202) (o := .cells #[.int .i64 a0_0, .slice A0_1 l0_1.length c0_1, .slice A0_2 l0_2.length c0_2] 36 (0, 0)) (bS BK202.out) hb); clear hb hbox hg))
 replace BK202 := Aside0.mk (blk_drew BK202.out)
 replace BK203 := Aside0.mk (blk_drew BK203.out)
 replace HB := Aside0.mk (below_drew1 HB.out)
 refine start_ (n := 10) (S := fun w' => w'.cell? ⟨gb202, 0, none⟩ = some (.int .i64 a0_0) ∧ w'.cell? ⟨gb202, 1, none⟩ = some (.slice A0_1 l0_1.length c0_1) ∧ w'.cell? ⟨gb202, 2, none⟩ = some (.slice A0_2 l0_2.length c0_2)) (ds := [7, 9]) #[false,false,false,false,false,false,false,false,false,false] (by kernel_rfl) rfl rfl ⟨(blk_cell BK202.out 0).trans rfl, (blk_cell BK202.out 1).trans rfl, (blk_cell BK202.out 2).trans rfl⟩ (fun hHeld => ?_); refine with_tabW impl_copyWarp.tab1 impl_copyWarp.bits1 (fun HT_ HW_ => ?_)
 generalize w5.drew = w6 at BK202 BK203 HB hHeld ⊢
 refine pU 0 3 (v := ?_) (a' := ?_) #[true,false,false,false,false,false,false,false,false,false] HT_ rfl rfl (by kernel_rfl) ?_ ?_ ?_;rotate_left;(intro w';go_simp;with_reducible rfl);rotate_left;(simp only [Act.put, List.setIfInBounds_toArray, List.set_cons_zero, List.set_cons_succ, i64_w, i32_w];rfl)
 refine pU 3 6 (v := ?_) (a' := ?_) #[true,false,false,true,false,false,false,false,false,false] HT_ rfl rfl (by kernel_rfl) ?_ ?_ ?_;rotate_left;(intro w';go_simp;with_reducible rfl);rotate_left;(simp only [Act.put, List.setIfInBounds_toArray, List.set_cons_zero, List.set_cons_succ, i64_w, i32_w];rfl)
 refine take_ (i := 1) (N := some 4) (v := ?_) (a' := ?_) #[true,true,false,true,false,false,false,false,false,false] rfl rfl (take_ofW HT_.out HW_.out (by kernel_rfl)) (fun _ _ _ h => h) (Or.inl ⟨by rfl, ?_⟩) hHeld ?_ ?_
 rotate_left
 ·rintro w' ⟨s0, s1, s2⟩
  go_simp
  with_reducible rfl
 rotate_left
 ·simp only [Act.put, List.setIfInBounds_toArray, List.set_cons_zero, List.set_cons_succ, i64_w, i32_w]
  rfl
 refine take_ (i := 4) (N := some 7) (v := ?_) (a' := ?_) #[true,true,false,true,true,false,false,false,false,false] rfl rfl (take_ofW HT_.out HW_.out (by kernel_rfl)) (fun _ _ _ h => h) (Or.inl ⟨by rfl, ?_⟩) hHeld ?_ ?_
 rotate_left
 ·rintro w' ⟨s0, s1, s2⟩
  go_simp
  with_reducible rfl
 rotate_left
 ·simp only [Act.put, List.setIfInBounds_toArray, List.set_cons_zero, List.set_cons_succ, i64_w, i32_w]
  rfl
 refine one_ (i := 2) (N := some 5) #[true,true,true,true,true,false,false,false,false,false] rfl rfl (one_of HT_.out (by kernel_rfl)) (by decide) (fun K hK => ?_)
 refine goes_ Try.func139 (by kernel_rfl) rfl #[.slice A0_1 l0_1.length c0_1] (by rfl) rfl rfl bz ?_
 with_reducible refine (impl_Frame.calls _ _ l0_1 t204 _ ?side1 ?side2 A2.out).mono ?_
 (case side1 => repeat (first | exact (Kd.C_below HR0_1.out HB.out) | (with_reducible refine Kd.C_alloc ?_ _) | (with_reducible refine Kd.C_drewN ?_ _) | (with_reducible refine Kd.C_drew ?_)))
 (case side2 => exact HC0_1.out)
 rintro e w7 ⟨v205, rfl, ho0, hb⟩
 refine ⟨_, rfl, ?_⟩
 have HO206 := Aside0.mk (Kd.R_lower ho0 (below_size bx))
 replace BK202 := Aside0.mk (blk_below (g := gb202) (o := .cells #[.int .i64 a0_0, .slice A0_1 l0_1.length c0_1, .slice A0_2 l0_2.length c0_2] 36 (0, 0)) (bS BK202.out) hb)
 replace BK203 := Aside0.mk (blk_below (g := gb203) (o := .cells #[.int .i64 0, .slice none 0 0, .slice none 0 0] 36 (0, 0)) (bS BK203.out) hb)
 replace HB := Aside0.mk (below_step bx hb)
 (try clear hb)
 (try clear hb2)
 (try clear hk)
 (try clear hi)
 (try clear ho0)
 refine hK.out _ _ ⟨(blk_cell BK202.out 0).trans rfl, (blk_cell BK202.out 1).trans rfl, (blk_cell BK202.out 2).trans rfl⟩ (fun hHeld => ?_)
 clear hK K
 refine norm_ (a' := ?_) ?_ ?_
 rotate_left
 ·show Act.put _ (some 5) _ = _
  simp only [Act.put, List.setIfInBounds_toArray, List.set_cons_zero, List.set_cons_succ, i64_w, i32_w]
  rfl
 refine pU 6 9 (v := ?_) (a' := ?_) #[true,true,true,true,true,false,true,false,false,false] HT_ rfl rfl (by kernel_rfl) ?_ ?_ ?_;rotate_left;(intro w';go_simp;with_reducible rfl);rotate_left;(simp only [Act.put, List.setIfInBounds_toArray, List.set_cons_zero, List.set_cons_succ, i64_w, i32_w];rfl)
 refine one_ (i := 5) (N := some 8) #[true,true,true,true,true,true,true,false,false,false] rfl rfl (one_of HT_.out (by kernel_rfl)) (by decide) (fun K hK => ?_)
 refine goes_ Try.func105 (by kernel_rfl) rfl #[.slice A0_2 l0_2.length c0_2] (by rfl) rfl rfl bz ?_
 with_reducible refine (slices_Clone_int_int.calls _ _ l0_2 t207 _ ?side1 ?side2 A3.out).mono ?_
 (case side1 => repeat (first | exact (Kd.C_below HR0_2.out HB.out) | (with_reducible refine Kd.C_alloc ?_ _) | (with_reducible refine Kd.C_drewN ?_ _) | (with_reducible refine Kd.C_drew ?_)))
 (case side2 => exact HC0_2.out)
 rintro e w8 ⟨v208, rfl, ho0, hb⟩
 refine ⟨_, rfl, ?_⟩
 replace HO206 := Aside0.mk (Kd.R_below (rS HO206.out) hb)
 have HO209 := Aside0.mk (Kd.R_lower ho0 (below_size bx))
 replace BK202 := Aside0.mk (blk_below (g := gb202) (o := .cells #[.int .i64 a0_0, .slice A0_1 l0_1.length c0_1, .slice A0_2 l0_2.length c0_2] 36 (0, 0)) (bS BK202.out) hb)
 replace BK203 := Aside0.mk (blk_below (g := gb203) (o := .cells #[.int .i64 0, .slice none 0 0, .slice none 0 0] 36 (0, 0)) (bS BK203.out) hb)
 replace HB := Aside0.mk (below_step bx hb)
 (try clear hb)
 (try clear hb2)
 (try clear hk)
 (try clear hi)
 (try clear ho0)
 obtain ⟨Ao9, co9, eo9⟩ := Kd.R_slice HO206.out
 (first | subst eo9 | (injection eo9 with f1_ f2_ f3_; have f4_ := f1_.symm; have f5_ := f3_.symm; clear f1_ f2_ f3_; subst f4_; subst f5_))
 obtain ⟨Ao11, co11, eo11⟩ := Kd.R_slice HO209.out
 (first | subst eo11 | (injection eo11 with f1_ f2_ f3_; have f4_ := f1_.symm; have f5_ := f3_.symm; clear f1_ f2_ f3_; subst f4_; subst f5_))
 refine hK.out _ _ ⟨(blk_cell BK202.out 0).trans rfl, (blk_cell BK202.out 1).trans rfl, (blk_cell BK202.out 2).trans rfl⟩ (fun hHeld => ?_)
 clear hK K
 refine norm_ (a' := ?_) ?_ ?_
 rotate_left
 ·show Act.put _ (some 8) _ = _
  simp only [Act.put, List.setIfInBounds_toArray, List.set_cons_zero, List.set_cons_succ, i64_w, i32_w]
  rfl
 refine last_ (i := 7) (N := none) #[true,true,true,true,true,true,true,true,false,false] rfl rfl (one_of HT_.out (by kernel_rfl)) (by decide) (fun K hK => ?_)
 have hs10 : w8.cell? ⟨gb202, 1, none⟩ = some (.slice A0_1 l0_1.length c0_1) := (blk_cell BK202.out 1).trans rfl
 have hfs10 := blk_frozen BK202.out 1
 have hns10_1 := NB203_202.out
 have hms10_1 := NB202_203.out
 refine skip_ (w1 := ?_) (by rfl) rfl ?_ ?_
 rotate_left
 ·go_simp
  rfl
 refine hK.out _ _ ?_
 clear hK K
 refine pU 8 10 (v := ?_) (a' := ?_) #[true,true,true,true,true,true,true,true,true,false] HT_ rfl rfl (by kernel_rfl) ?_ ?_ ?_;rotate_left;(intro w';go_simp;with_reducible rfl);rotate_left;(simp only [Act.put, List.setIfInBounds_toArray, List.set_cons_zero, List.set_cons_succ, i64_w, i32_w];rfl)
 refine last_ (i := 9) (N := none) #[true,true,true,true,true,true,true,true,true,true] rfl rfl (one_of HT_.out (by kernel_rfl)) (by decide) (fun K hK => ?_)
 have hs12 : w8.cell? ⟨gb202, 2, none⟩ = some (.slice A0_2 l0_2.length c0_2) := (blk_cell BK202.out 2).trans rfl
 have hfs12 := blk_frozen BK202.out 2
 have hns12_1 := NB203_202.out
 have hms12_1 := NB202_203.out
 refine skip_ (w1 := ?_) (by rfl) rfl ?_ ?_
 rotate_left
 ·go_simp
  rfl
 refine hK.out _ _ ?_
 clear hK K
 refine done_ (done_of HT_.out (by kernel_rfl)) ?_
 have hnb13 := NB202_203.out
 have hnc13 := NB203_202.out
 have hcz14_0 : w8.cell? ⟨gb202, 0, none⟩ = some (.int .i64 a0_0) := (blk_cell BK202.out 0).trans rfl
 have hcz14_1 : w8.cell? ⟨gb202, 1, none⟩ = some (.slice A0_1 l0_1.length c0_1) := (blk_cell BK202.out 1).trans rfl
 have hcz14_2 : w8.cell? ⟨gb202, 2, none⟩ = some (.slice A0_2 l0_2.length c0_2) := (blk_cell BK202.out 2).trans rfl
 have hfz14_0 := blk_frozen BK202.out 0
 have hfz14_1 := blk_frozen BK202.out 1
 have hfz14_2 := blk_frozen BK202.out 2
 have hcz15_0 : w8.cell? ⟨gb203, 0, none⟩ = some (.int .i64 0) := (blk_cell BK203.out 0).trans rfl
 have hcz15_1 : w8.cell? ⟨gb203, 1, none⟩ = some (.slice none 0 0) := (blk_cell BK203.out 1).trans rfl
 have hcz15_2 : w8.cell? ⟨gb203, 2, none⟩ = some (.slice none 0 0) := (blk_cell BK203.out 2).trans rfl
 have hfz15_0 := blk_frozen BK203.out 0
 have hfz15_1 := blk_frozen BK203.out 1
 have hfz15_2 := blk_frozen BK203.out 2
 try go_wp2
 refine bodyPost_ret (results_cell_row rfl _ _ gb203 36 #[.int .i64 a0_0, .slice Ao9 t204.length co9, .slice Ao11 t207.length co11] (0, 0) _ rfl (by (with_reducible repeat (first | refine blk_drewN ?_ _ | refine blk_drew ?_ | refine blk_alloc ?_ _)); refine blk_put (cs := #[.int .i64 a0_0, .slice Ao9 t204.length co9, .slice none 0 0]) ?_ 2 _ rfl; (with_reducible repeat (first | refine blk_drewN ?_ _ | refine blk_drew ?_ | refine blk_alloc ?_ _)); refine blk_put (cs := #[.int .i64 a0_0, .slice none 0 0, .slice none 0 0]) ?_ 1 _ rfl; (with_reducible repeat (first | refine blk_drewN ?_ _ | refine blk_drew ?_ | refine blk_alloc ?_ _)); refine blk_put (cs := #[.int .i64 0, .slice none 0 0, .slice none 0 0]) ?_ 0 _ rfl; (with_reducible repeat (first | refine blk_drewN ?_ _ | refine blk_drew ?_ | refine blk_alloc ?_ _)); refine blk_far ?_ NB203_202.out _; (with_reducible repeat (first | refine blk_drewN ?_ _ | refine blk_drew ?_ | refine blk_alloc ?_ _)); refine blk_far ?_ NB203_202.out _; (with_reducible repeat (first | refine blk_drewN ?_ _ | refine blk_drew ?_ | refine blk_alloc ?_ _)); exact BK203.out) Try.underlying36 rfl (by kernel_rfl)) rfl ?_
 exact ⟨_, _, eR, by (with_reducible repeat (first | apply Kd.R_alloc | apply Kd.R_drewN | apply Kd.R_drew)); exact Kd.R_mono (Kd.R_far (p := ⟨gb203, 2, none⟩) (Kd.R_far (p := ⟨gb203, 1, none⟩) (Kd.R_far (p := ⟨gb203, 0, none⟩) (Kd.R_far (p := ⟨gb202, 2, none⟩) (Kd.R_far (p := ⟨gb202, 1, none⟩) (Kd.R_types (Kd.R_types HO206.out BK202.out (by decide)) BK203.out (by decide)) (fun _ hk => hk.1.2) (.slice Ao9 t204.length co9)) (fun _ hk => hk.1.2) (.slice Ao11 t207.length co11)) (fun _ hk => hk.2) (.int .i64 a0_0)) (fun _ hk => hk.2) (.slice Ao9 t204.length co9)) (fun _ hk => hk.2) (.slice Ao11 t207.length co11)) (fun _ hk => trivial), by (with_reducible repeat (first | apply Kd.R_alloc | apply Kd.R_drewN | apply Kd.R_drew)); exact Kd.R_mono (Kd.R_far (p := ⟨gb203, 2, none⟩) (Kd.R_far (p := ⟨gb203, 1, none⟩) (Kd.R_far (p := ⟨gb203, 0, none⟩) (Kd.R_far (p := ⟨gb202, 2, none⟩) (Kd.R_far (p := ⟨gb202, 1, none⟩) (Kd.R_types (Kd.R_types HO209.out BK202.out (by decide)) BK203.out (by decide)) (fun _ hk => hk.1.2) (.slice Ao9 t204.length co9)) (fun _ hk => hk.1.2) (.slice Ao11 t207.length co11)) (fun _ hk => hk.2) (.int .i64 a0_0)) (fun _ hk => hk.2) (.slice Ao9 t204.length co9)) (fun _ hk => hk.2) (.slice Ao11 t207.length co11)) (fun _ hk => trivial), bx⟩

/-! ### impl_Warp_drop: function 119 -/
def endsAt (n : Int) (x : S77) : Bool := x.f0 == x.f1 || x.f0 == n
def dropN (n : Int) (l : List S77) : Nat → Nat
  | 0 => 0
  | m + 1 => if endsAt n (rd_T77 l (m : Int)) = true then dropN n l m else m + 1
set_option maxHeartbeats 4000000 in
set_option maxRecDepth 100000 in
theorem drop_fn (g : Nat) (a0 n : Int) (A1 : Option Addr) (c1 : Nat) (l1 : List S77) (v2 : Value) (w : World)
    (hg : w.heap[g]? = some (.cells #[.int .i64 a0, .slice A1 l1.length c1, v2] 36 (0, 0))) (hr : Kd.C k77 w A1 l1.length l1) (hne : ∀ ad, A1 = some ad → 0 < l1.length → ad.block ≠ g) (hc : l1.length ≤ c1) :
    Calls Try.prog 119 #[.pointer (some ⟨g, 0, none⟩), .int .i64 n] w fun e w' => e = .returned (.tuple #[]) ∧ w'.heap[g]? = some (.cells #[.int .i64 a0, .slice A1 (dropN n l1 l1.length) c1, v2] 36 (0, 0)) ∧ KeepBut w w' g none ∧ Below g w w' := by
  have hbig := hr.2.1
  have HR := Aside0.mk hr
  have HN := Aside0.mk hne
  have HC := Aside0.mk hc
  have hlt := blk_lt hg
  have HG := Aside0.mk hg
  have hu77 := Try.underlying77
  have hu34 := Try.underlying34
  have hu36 := Try.underlying36
  clear hr hne hg hc
  go_enter Try.func119, Try.ntmps119
  go_wp2
  go_loopg [4] l1.length (fun gg _ wr => ∃ m : Nat, m ≤ l1.length ∧ m ≤ gg ∧ Aside0 (dropN n l1 m = dropN n l1 l1.length) ∧ Aside0 (wr.heap[g]? = some (.cells #[.int .i64 a0, .slice A1 m c1, v2] 36 (0, 0))) ∧ Aside0 (KeepBut w wr g none) ∧ Aside0 (Below g w wr))
  case atStart => exact ⟨l1.length, Nat.le_refl _, Nat.le_refl _, ⟨rfl⟩, ⟨HG.out⟩, ⟨KeepBut.refl _ _ _⟩, ⟨Below.refl _ _⟩⟩
  case round =>
    obtain ⟨m, hm, hgg, HD, HX, HK, HW⟩ := hrel
    have hc0 : wr.cell? ⟨g, 0, none⟩ = some (.int .i64 a0) := (blk_cell HX.out 0).trans rfl
    have hc1 : wr.cell? ⟨g, 1, none⟩ = some (.slice A1 m c1) := (blk_cell HX.out 1).trans rfl
    have hf1 : wr.frozen? ⟨g, 1, none⟩ = false := blk_frozen HX.out 1
    have hglt : g < wr.heap.size := blk_lt HX.out
    cases m with
    | zero =>
      go_wp2
      first | go_end0 | ((try simp only [Exit.inBlock, Exit.then]); refine bodyPost_ret (results_none rfl _ _ _) rfl ?_)
      exact ⟨rfl, by rw [← HD.out]; exact HX.out, HK.out, HW.out⟩
    | succ m =>
      have hml : m < l1.length := by omega
      obtain ⟨ad, ea, hx0, hx1, hx2⟩ := at_T77 HR.out (m : Int) (by omega) (by omega)
      subst ea
      rw [Int.toNat_natCast] at hx0 hx1 hx2
      have HB := Aside0.mk (HN.out ad rfl (by omega))
      have hy0 := keep_cell HK.out hx0 (by rw [add_block]; exact HB.out)
      have hy1 := keep_cell HK.out hx1 (by show (ad.add (m * 3)).block ≠ g; rw [add_block]; exact HB.out)
      have hy2 := keep_cell HK.out hx2 (by show (ad.add (m * 3)).block ≠ g; rw [add_block]; exact HB.out)
      clear hx0 hx1 hx2
      generalize hq : rd_T77 l1 (m : Int) = y at hy0 hy1 hy2
      have HQ := Aside0.mk hq
      clear hq
      have hwr : IntKind.i64.wrap ((m : Int) + 1 - 1) = (m : Int) := by rw [i64_w]; unfold wrap64; omega
      have q1 : decide (0 ≤ (m : Int)) = true := decide_eq_true (by omega)
      have q2 : (m : Int) < (m : Int) + 1 := by omega
      have U1 : ∀ (o : Obj) (a : Addr) (v : Value), wr.cell? a = some v → (wr.alloc o).cell? a = some v := fun o a v hh => (World.cell?_alloc_lt wr o a (World.block_lt_of_cell? wr a hh)).trans hh
      have f0 := fun o => U1 o _ _ hy0
      have f1 := fun o => U1 o _ _ hy1
      have f2 := fun o => U1 o _ _ hy2
      have f3 := fun o => U1 o _ _ hc1
      clear U1
      go_wp2
      go_region
      have n1 := Aside0.mk (blk_drew (blk_alloc HX.out (.cells #[.int .i64 y.f0, .int .i64 y.f1, .int .i64 y.f2] 77)))
      have n2 := Aside0.mk (keep_drew (keep_alloc HK.out (.cells #[.int .i64 y.f0, .int .i64 y.f1, .int .i64 y.f2] 77)))
      have n3 := Aside0.mk (below_drew1 (HW.out.alloc (Nat.le_of_lt hglt) (.cells #[.int .i64 y.f0, .int .i64 y.f1, .int .i64 y.f2] 77)))
      have z0 : ((wr.alloc (.cells #[.int .i64 y.f0, .int .i64 y.f1, .int .i64 y.f2] 77)).drew).cell? ⟨wr.heap.size, 0, none⟩ = some (.int .i64 y.f0) := (blk_cell (blk_drew (heap_alloc_new wr (.cells #[.int .i64 y.f0, .int .i64 y.f1, .int .i64 y.f2] 77))) 0).trans rfl
      have z1 : ((wr.alloc (.cells #[.int .i64 y.f0, .int .i64 y.f1, .int .i64 y.f2] 77)).drew).cell? ⟨wr.heap.size, 1, none⟩ = some (.int .i64 y.f1) := (blk_cell (blk_drew (heap_alloc_new wr (.cells #[.int .i64 y.f0, .int .i64 y.f1, .int .i64 y.f2] 77))) 1).trans rfl
      clear f0 f1 f2 f3 hy0 hy1 hy2 hc0 hc1 hf1
      generalize ((wr.alloc (.cells #[.int .i64 y.f0, .int .i64 y.f1, .int .i64 y.f2] 77)).drew) = W1 at n1 n2 n3 z0 z1 ⊢
      generalize wr.heap.size = g2 at z0 z1 ⊢
      have hc1 : W1.cell? ⟨g, 1, none⟩ = some (.slice (some ad) (m + 1) c1) := (blk_cell n1.out 1).trans rfl
      have hf1 : W1.frozen? ⟨g, 1, none⟩ = false := blk_frozen n1.out 1
      have hmc : m ≤ c1 := by have := HC.out; omega
      by_cases e1 : y.f0 = y.f1
      · have HS := Aside0.mk (show dropN n l1 m = dropN n l1 l1.length by rw [← HD.out, dropN, HQ.out, if_pos (by unfold endsAt; simp [e1])])
        have b1 : (y.f0 != y.f1) = false := by simpa using e1
        clear e1
        go_wp2
        go_region
        go_wp2
        go_roundg m
        case measure => omega
        case rel => exact ⟨m, by omega, Nat.le_refl _, ⟨HS.out⟩, ⟨by repeat (first | apply blk_drew | apply blk_drewN); exact blk_put n1.out 1 _ rfl⟩, ⟨by repeat (first | apply keep_drew | apply keep_drewN); exact KeepBut.set_ n2.out 1 _⟩, ⟨by repeat (first | apply below_drew1 | apply pw_below_drewN); exact n3.out.setCell (Nat.le_refl _) _⟩⟩
      · have b1 : (y.f0 != y.f1) = true := by simpa using e1
        by_cases e2 : y.f0 = n
        · have HS := Aside0.mk (show dropN n l1 m = dropN n l1 l1.length by rw [← HD.out, dropN, HQ.out, if_pos (by unfold endsAt; simp [e2])])
          have b2 : (y.f0 != n) = false := by simpa using e2
          clear e1 e2
          go_wp2
          go_region
          go_wp2
          go_roundg m
          case measure => omega
          case rel => exact ⟨m, by omega, Nat.le_refl _, ⟨HS.out⟩, ⟨by repeat (first | apply blk_drew | apply blk_drewN); exact blk_put n1.out 1 _ rfl⟩, ⟨by repeat (first | apply keep_drew | apply keep_drewN); exact KeepBut.set_ n2.out 1 _⟩, ⟨by repeat (first | apply below_drew1 | apply pw_below_drewN); exact n3.out.setCell (Nat.le_refl _) _⟩⟩
        · have HS := Aside0.mk (show m + 1 = dropN n l1 l1.length by rw [← HD.out, dropN, HQ.out, if_neg (by unfold endsAt; simp [e1, e2])])
          have b2 : (y.f0 != n) = true := by simpa using e2
          clear e1 e2
          go_wp2
          first | go_end0 | ((try simp only [Exit.inBlock, Exit.then]); refine bodyPost_ret (results_none rfl _ _ _) rfl ?_)
          exact ⟨rfl, by rw [← HS.out]; exact n1.out, n2.out, n3.out⟩

/-! ### impl_DropFrames: function 68 -/
def impl_DropFrames.f (l0 : List S94) (a1_0 : Int) (l1_1 : List S77) (l1_2 : List Int) : Option (Int × (List S77) × List Int) := (impl_copyWarp.f a1_0 l1_1 l1_2).bind fun t => some (t.1, t.2.1.take (dropN (l0.length : Int) t.2.1 t.2.1.length), t.2.2)
theorem dropN_le (n : Int) (l : List S77) : ∀ m, dropN n l m ≤ m
  | 0 => Nat.le_refl _
  | m + 1 => by
    rw [dropN]
    split
    · exact Nat.le_succ_of_le (dropN_le n l m)
    · exact Nat.le_refl _
set_option maxHeartbeats 4000000 in
set_option maxRecDepth 100000 in
theorem impl_DropFrames.calls (A0 : Option Addr) (c0 : Nat) (l0 : List S94) (a1_0 : Int) (A1_1 : Option Addr) (c1_1 : Nat) (l1_1 : List S77) (A1_2 : Option Addr) (c1_2 : Nat) (l1_2 : List Int) (r1 : Int) (r2 : List S77) (r3 : List Int) (w : World) (hr0 : Kd.C k94 w A0 l0.length l0) (hc0 : l0.length ≤ c0) (hr1_1 : Kd.C k77 w A1_1 l1_1.length l1_1) (hc1_1 : l1_1.length ≤ c1_1) (hr1_2 : Kd.C (Kd.int .i64) w A1_2 l1_2.length l1_2) (hc1_2 : l1_2.length ≤ c1_2) (h : impl_DropFrames.f l0 a1_0 l1_1 l1_2 = some (r1, r2, r3)) :
    Calls Try.prog 68 #[.slice A0 l0.length c0, .agg #[.int .i64 a1_0, .slice A1_1 l1_1.length c1_1, .slice A1_2 l1_2.length c1_2]] w fun e w' => ∃ v1_ v2_ : Value, e = .returned (.agg #[.int .i64 r1, v1_, v2_]) ∧ Kd.R k77 77 w' w.heap.size (fun _ => True) v1_ r2 ∧ Kd.R (Kd.int .i64) 3 w' w.heap.size (fun _ => True) v2_ r3 ∧ Below w.heap.size w w' := by
  have hu36 := Try.underlying36
  obtain ⟨⟨s1, s2, s3⟩, hs, h⟩ := Option.bind_eq_some_iff.mp h
  simp only [Option.some.injEq, Prod.mk.injEq] at h
  obtain ⟨rfl, rfl, rfl⟩ := h
  have HS := Aside0.mk hs
  have HR1 := Aside0.mk hr1_1
  have HC1 := Aside0.mk hc1_1
  have HR2 := Aside0.mk hr1_2
  have HC2 := Aside0.mk hc1_2
  clear hs hr0 hc0 hr1_1 hc1_1 hr1_2 hc1_2
  go_enter Try.func68, Try.ntmps68
  go_wp2_with (first
    | ((with_reducible refine gate_dst (N := 3) rfl ?_); refine box_event ?hg (N := 3) ?hd (cs := #[.int .i64 a1_0, .slice A1_1 l1_1.length c1_1, .slice A1_2 l1_2.length c1_2]) (t := 36) ?hr ?_; (case hd => rfl); (case hg => rfl); (case hr => first | (go_simp; done) | (go_simp; rfl)); intro gb3 hgb w1 hbox hb; have HB1 := Aside0.mk hb; have BK3 := Aside0.mk hbox; clear hgb hb hbox)
    | ((with_reducible refine gate_dst (N := 4) rfl ?_); refine box_event ?hg (N := 4) ?hd (cs := #[.int .i64 0, .slice none 0 0, .slice none 0 0]) (t := 36) ?hr ?_; (case hd => rfl); (case hg => rfl); (case hr => first | (go_simp; done) | (go_simp; rfl)); intro gb4 hgb w2 hbox hb; have GE4 := Aside0.mk (show w.heap.size ≤ gb4 by rw [hgb]; exact below_size HB1.out); have HB2 := Aside0.mk (below_step HB1.out hb); have BK4 := Aside0.mk hbox; have z3 := blk_below BK3.out hb; have hz0 : w2.cell? ⟨gb3, 0, none⟩ = some (.int .i64 a1_0) := (blk_cell z3 0).trans rfl; have hz1 : w2.cell? ⟨gb3, 1, none⟩ = some (.slice A1_1 l1_1.length c1_1) := (blk_cell z3 1).trans rfl; have hz2 : w2.cell? ⟨gb3, 2, none⟩ = some (.slice A1_2 l1_2.length c1_2) := (blk_cell z3 2).trans rfl; clear hgb hb hbox z3)
    | (go_at_call 118; (with_reducible refine (impl_copyWarp.calls a1_0 A1_1 c1_1 l1_1 A1_2 c1_2 l1_2 s1 s2 s3 _ (Kd.C_below HR1.out HB2.out) HC1.out (Kd.C_below HR2.out HB2.out) HC2.out HS.out).mono ?_); rintro e w3 ⟨v1, v2, rfl, ho1, ho2, hb⟩; have HO1 := Aside0.mk (Kd.R_lower ho1 (below_size HB2.out)); have HO2 := Aside0.mk (Kd.R_lower ho2 (below_size HB2.out)); have HB3 := Aside0.mk (below_step HB2.out hb); have BK43 := Aside0.mk (blk_below BK4.out hb); obtain ⟨Ao, co, eo⟩ := Kd.R_slice ho1; subst eo; obtain ⟨Ap, cp, ep⟩ := Kd.R_slice ho2; subst ep; clear ho1 ho2 hb)
    | ((with_reducible refine gate_dst (N := 5) rfl ?_); refine box_event ?hg (N := 5) ?hd (cs := #[.int .i64 0, .slice none 0 0, .slice none 0 0]) (t := 36) ?hr ?_; (case hd => rfl); (case hg => rfl); (case hr => first | (go_simp; done) | (go_simp; rfl)); intro gb5 hgb w4 hbox hb; have GE5 := Aside0.mk (show w.heap.size ≤ gb5 by rw [hgb]; exact below_size HB3.out); have NE := Aside0.mk (show gb4 ≠ gb5 by rw [hgb]; exact Nat.ne_of_lt (blk_lt BK43.out)); have HB4 := Aside0.mk (below_step HB3.out hb); have BK44 := Aside0.mk (blk_below BK43.out hb); have BK5 := Aside0.mk hbox; have HO14 := Aside0.mk (Kd.R_below HO1.out hb); have HO24 := Aside0.mk (Kd.R_below HO2.out hb); have hz50 : w4.cell? ⟨gb5, 0, none⟩ = some (.int .i64 0) := (blk_cell hbox 0).trans rfl; have hz51 : w4.cell? ⟨gb5, 1, none⟩ = some (.slice none 0 0) := (blk_cell hbox 1).trans rfl; have hz52 : w4.cell? ⟨gb5, 2, none⟩ = some (.slice none 0 0) := (blk_cell hbox 2).trans rfl; have hf50 := blk_frozen hbox 0; have hf51 := blk_frozen hbox 1; have hf52 := blk_frozen hbox 2; clear hgb hb hbox))
  have HTY := Aside0.mk (show ∀ q, q ∈ 77 :: k77.E → q ≠ 36 by decide)
  have HTZ := Aside0.mk (show ∀ q, q ∈ 3 :: (Kd.int .i64).E → q ≠ 36 by decide)
  have b0 := blk_put BK5.out 0 (.int .i64 s1) rfl
  have b1 := blk_put b0 1 (.slice Ao s2.length co) rfl
  have b2 := Aside0.mk (blk_put b1 2 (.slice Ap s3.length cp) rfl)
  have HO15 := Aside0.mk (Kd.R_set (Kd.R_set (Kd.R_set HO14.out BK5.out HTY.out 0 (.int .i64 s1)) b0 HTY.out 1 (.slice Ao s2.length co)) b1 HTY.out 2 (.slice Ap s3.length cp))
  have HO25 := Aside0.mk (Kd.R_set (Kd.R_set (Kd.R_set HO24.out BK5.out HTZ.out 0 (.int .i64 s1)) b0 HTZ.out 1 (.slice Ao s2.length co)) b1 HTZ.out 2 (.slice Ap s3.length cp))
  have HB5 := Aside0.mk (below_set (j := 2) (v := .slice Ap s3.length cp) (below_set (j := 1) (v := .slice Ao s2.length co) (below_set (j := 0) (v := .int .i64 s1) HB4.out GE5.out) GE5.out) GE5.out)
  have BK45 := Aside0.mk (blk_far (p := ⟨gb5, 2, none⟩) (blk_far (p := ⟨gb5, 1, none⟩) (blk_far (p := ⟨gb5, 0, none⟩) BK44.out NE.out (.int .i64 s1)) NE.out (.slice Ao s2.length co)) NE.out (.slice Ap s3.length cp))
  clear b0 b1 hz50 hz51 hz52 hf50 hf51 hf52 BK5 BK44 HO14 HO24 HB4
  generalize (((w4.setCell ⟨gb5, 0, none⟩ (.int .i64 s1)).setCell ⟨gb5, 1, none⟩ (.slice Ao s2.length co)).setCell ⟨gb5, 2, none⟩ (.slice Ap s3.length cp)) = w5 at b2 HO15 HO25 HB5 BK45 ⊢
  have NE1 := Aside0.mk (Kd.R_ne HO15.out b2.out (by decide))
  have NE2 := Aside0.mk (Kd.R_ne HO25.out b2.out (by decide))
  refine (drop_fn gb5 s1 (l0.length : Int) Ao co s2 (.slice Ap s3.length cp) w5 b2.out (Kd.R_reads' HO15.out).2.2 (fun ad e _ hb => NE1.out (by rw [e, ← hb]; simp [Value.ownBlock])) (Kd.R_reads' HO15.out).2.1).mono ?_
  rintro e w6 ⟨rfl, hg6, hk6, hb6⟩
  have HO16 := Aside0.mk (Kd.R_mono (ok' := fun _ => True) (Kd.R_keep (Kd.R_tight rfl HO15.out) hk6 (fun k hk e => NE1.out (by rw [← e]; exact hk))) (fun _ _ => trivial))
  have HO26 := Aside0.mk (Kd.R_mono (ok' := fun _ => True) (Kd.R_keep (Kd.R_tight rfl HO25.out) hk6 (fun k hk e => NE2.out (by rw [← e]; exact hk))) (fun _ _ => trivial))
  have HB6 := Aside0.mk (HB5.out.trans (hb6.mono GE5.out))
  have BK46 := Aside0.mk (KeepBut.blk hk6 BK45.out NE.out (by simp))
  have BK6 := Aside0.mk hg6
  clear hg6 hk6 hb6 HO15 HO25 HB5 BK45 b2
  have hz60 : w6.cell? ⟨gb5, 0, none⟩ = some (.int .i64 s1) := (blk_cell BK6.out 0).trans rfl
  have hz61 : w6.cell? ⟨gb5, 1, none⟩ = some (.slice Ao (dropN (l0.length : Int) s2 s2.length) co) := (blk_cell BK6.out 1).trans rfl
  have hz62 : w6.cell? ⟨gb5, 2, none⟩ = some (.slice Ap s3.length cp) := (blk_cell BK6.out 2).trans rfl
  have hz40 : w6.cell? ⟨gb4, 0, none⟩ = some (.int .i64 0) := (blk_cell BK46.out 0).trans rfl
  have hz41 : w6.cell? ⟨gb4, 1, none⟩ = some (.slice none 0 0) := (blk_cell BK46.out 1).trans rfl
  have hz42 : w6.cell? ⟨gb4, 2, none⟩ = some (.slice none 0 0) := (blk_cell BK46.out 2).trans rfl
  have hf40 := blk_frozen BK46.out 0
  have hf41 := blk_frozen BK46.out 1
  have hf42 := blk_frozen BK46.out 2
  go_wp2
  generalize hm : dropN (l0.length : Int) s2 s2.length = m at *
  have HM := Aside0.mk (show m ≤ s2.length by rw [← hm]; exact dropN_le _ _ _)
  clear hm
  have b0 := blk_put BK46.out 0 (.int .i64 s1) rfl
  have b1 := blk_put b0 1 (.slice Ao m co) rfl
  have b2 := Aside0.mk (blk_put b1 2 (.slice Ap s3.length cp) rfl)
  have HO17 := Aside0.mk (Kd.R_set (Kd.R_set (Kd.R_set HO16.out BK46.out HTY.out 0 (.int .i64 s1)) b0 HTY.out 1 (.slice Ao m co)) b1 HTY.out 2 (.slice Ap s3.length cp))
  have HO27 := Aside0.mk (Kd.R_set (Kd.R_set (Kd.R_set HO26.out BK46.out HTZ.out 0 (.int .i64 s1)) b0 HTZ.out 1 (.slice Ao m co)) b1 HTZ.out 2 (.slice Ap s3.length cp))
  have HB7 := Aside0.mk (below_set (j := 2) (v := .slice Ap s3.length cp) (below_set (j := 1) (v := .slice Ao m co) (below_set (j := 0) (v := .int .i64 s1) HB6.out GE4.out) GE4.out) GE4.out)
  clear b0 b1 hz60 hz61 hz62 hz40 hz41 hz42 hf40 hf41 hf42 BK6 BK46 HO16 HO26 HB6
  generalize (((w6.setCell ⟨gb4, 0, none⟩ (.int .i64 s1)).setCell ⟨gb4, 1, none⟩ (.slice Ao m co)).setCell ⟨gb4, 2, none⟩ (.slice Ap s3.length cp)) = w7 at b2 HO17 HO27 HB7 ⊢
  have hz70 : w7.cell? ⟨gb4, 0, none⟩ = some (.int .i64 s1) := (blk_cell b2.out 0).trans rfl
  have hz71 : w7.cell? ⟨gb4, 1, none⟩ = some (.slice Ao m co) := (blk_cell b2.out 1).trans rfl
  have hz72 : w7.cell? ⟨gb4, 2, none⟩ = some (.slice Ap s3.length cp) := (blk_cell b2.out 2).trans rfl
  refine bodyPost_ret (results_cell_row rfl _ _ gb4 36 #[.int .i64 s1, .slice Ao m co, .slice Ap s3.length cp] (0, 0) _ rfl b2.out hu36 rfl (by kernel_rfl)) rfl ?_
  exact ⟨_, _, rfl, Kd.R_take HO17.out HM.out, HO27.out, HB7.out⟩

/-! ### laws_heldIntS: function 54 -/
def laws_heldIntS.l0 : Nat → List Int → Int → Int → Option (Int)
 | 0, _, _, _ => none
 | k + 1, x0, x1, x5 => if x5 < (x0.length : Int) then (if 0 ≤ x5 then (if (rd x0 x5) = x1 then (laws_heldIntS.l0 k x0 (wrap64 (x1 + 1)) (wrap64 (x5 + 1))) else (some (-1))) else (none)) else (some x1)
def laws_heldIntS.f (k : Nat) (l0 : List Int) (a1 : Int) : Option (Int) := laws_heldIntS.l0 k l0 a1 0
theorem laws_heldIntS.mono_l : ∀ k, (∀ y0 y1 y2, LeO (laws_heldIntS.l0 k y0 y1 y2) (laws_heldIntS.l0 (k + 1) y0 y1 y2))
 | 0 => fun _ _ _ r h => by simp [laws_heldIntS.l0] at h
 | k + 1 => by
  have ih0 := laws_heldIntS.mono_l k
  ·intro y0 y1 y2
   unfold laws_heldIntS.l0
   repeat' first
   | (with_reducible exact ih0 _ _ _)
   | (with_reducible exact LeO.refl _)
   | (with_reducible exact LeO.none _)
   | (with_reducible refine LeO.ite ?_ ?_)
   | (with_reducible refine LeO.bind ?_ (fun _ => ?_))
   | exact ih0 _ _ _
   | exact LeO.none _
   | refine LeO.ite ?_ ?_
   | refine LeO.bind ?_ (fun _ => ?_)
theorem laws_heldIntS.mono : ∀ a0 a1 k, LeO (laws_heldIntS.f k a0 a1) (laws_heldIntS.f (k + 1) a0 a1) := by
 intro a0 a1 k
 have ih0 := laws_heldIntS.mono_l k
 unfold laws_heldIntS.f
 repeat' first
   | (with_reducible exact ih0 _ _ _)
   | (with_reducible exact LeO.refl _)
   | (with_reducible exact LeO.none _)
   | (with_reducible refine LeO.ite ?_ ?_)
   | (with_reducible refine LeO.bind ?_ (fun _ => ?_))
   | exact ih0 _ _ _
   | exact LeO.none _
   | refine LeO.ite ?_ ?_
   | refine LeO.bind ?_ (fun _ => ?_)
set_option maxHeartbeats 8000000 in
set_option maxRecDepth 100000 in
theorem laws_heldIntS.calls (k : Nat) (A0 : Option Addr) (c0 : Nat) (l0 : List Int) (a1 : Int) (r : Int) (w : World) (hr0 : Kd.C (Kd.int .i64) w A0 l0.length l0) (hc0 : l0.length ≤ c0) (h : laws_heldIntS.f k l0 a1 = some r) :
  Calls Try.prog 54 #[.slice A0 l0.length c0, .int .i64 a1] w fun e w' => e = .returned (.int .i64 r) ∧ Drawn0 w w' := by
 have HR0 := Aside0.mk hr0
 have HC0 := Aside0.mk hc0
 clear hr0 hc0
 have H : (laws_heldIntS.l0 k l0 a1 0) = some r := h
 clear h
 have H' := Aside0.mk H
 clear H
 go_enter Try.func54, Try.ntmps54
 go_wp2
 go_loopg [1, 5] k (fun kq v1 v5 w' => ∃ (x1_1 : Int) (x5_1 : Int), v1 = .int .i64 x1_1 ∧ v5 = .int .i64 x5_1 ∧ Aside0 (laws_heldIntS.l0 kq l0 x1_1 x5_1 = some r) ∧ Aside0 (kq ≤ k) ∧ Drawn0 w w')
 case atStart => exact ⟨(a1), (0), tR, tR, H', ⟨Nat.le_refl _⟩, by repeat (first | exact Drawn0.refl _ | apply Drawn0.step)⟩
 case round =>
  clear H'
  try clear p2
  obtain ⟨x1_1, x5_1, rfl, rfl, HA, HK1, ⟨m1, rfl⟩⟩ := hrel
  cases gk with
  | zero => exact absurd HA.out (by simp [laws_heldIntS.l0])
  | succ k1 =>
   have H := HA.out
   clear HA
   simp only [laws_heldIntS.l0] at H
   by_cases c3 : x5_1 < (l0.length : Int)
   ·rw [if_pos c3] at H
    have c3b0 : decide (x5_1 < (l0.length : Int)) = true := decide_eq_true c3
    clear c3
    by_cases c4 : 0 ≤ x5_1
    ·rw [if_pos c4] at H
     have c4b0 : decide (0 ≤ x5_1) = true := decide_eq_true c4
     clear c4
     by_cases c5 : (rd l0 x5_1) = x1_1
     ·rw [if_pos c5] at H
      have c5b0 : ((rd l0 x5_1) == x1_1) = true := beq_iff_eq.mpr c5
      have c5b1 : ((rd l0 x5_1) != x1_1) = false := bne_eq_false_iff_eq.mpr c5
      clear c5
      have H' := Aside0.mk H
      clear H
      have p210 : 0 ≤ (x5_1 : Int) := dT
      have q210 : x5_1 < (l0.length : Int) := dT
      obtain ⟨ad210, e210, hx210_0⟩ := Kd.at_int HR0.out x5_1 p210 q210
      cases e210
      replace p210 := eq_true p210
      replace q210 := eq_true q210
      go_wp2
      go_roundg k1
      case measure => have := HK1.out; omega
      case rel => exact ⟨(wrap64 (x1_1 + 1)), (wrap64 (x5_1 + 1)), tR, tR, H', ⟨by have := HK1.out; omega⟩, by repeat (first | exact Drawn0.refl _ | apply Drawn0.step)⟩
     ·rw [if_neg c5] at H
      have c5b0 : ((rd l0 x5_1) == x1_1) = false := beq_eq_false_iff_ne.mpr c5
      have c5b1 : ((rd l0 x5_1) != x1_1) = true := bne_iff_ne.mpr c5
      obtain rfl := Option.some.inj H
      have p210 : 0 ≤ (x5_1 : Int) := dT
      have q210 : x5_1 < (l0.length : Int) := dT
      obtain ⟨ad210, e210, hx210_0⟩ := Kd.at_int HR0.out x5_1 p210 q210
      cases e210
      replace p210 := eq_true p210
      replace q210 := eq_true q210
      go_wp2
      go_ret
      exact ⟨by first | rfl | (simp; done) | (simp [*]; done), by repeat (first | exact Drawn0.refl _ | apply Drawn0.step)⟩
    ·rw [if_neg c4] at H
     exact absurd H (by simp)
   ·rw [if_neg c3] at H
    have c3b0 : decide (x5_1 < (l0.length : Int)) = false := decide_eq_false c3
    clear c3
    obtain rfl := Option.some.inj H
    go_wp2
    go_ret
    exact ⟨by first | rfl | (simp; done) | (simp [*]; done), by repeat (first | exact Drawn0.refl _ | apply Drawn0.step)⟩

end Go.Proofs.Ytcmimgoghmeliaa.PFnExactDropFrames
