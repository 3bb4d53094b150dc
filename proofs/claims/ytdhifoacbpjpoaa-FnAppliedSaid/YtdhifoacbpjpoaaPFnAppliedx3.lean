-- Written by myprint.py (a program of this session, over the kit's print): not trusted, Lean checks it.
import Derived.Test.YtdhifoacbpjpoaaPFnAppliedx0
import Derived.Test.YtdhifoacbpjpoaaPFnAppliedx2
namespace Go.Proofs.Ytdhifoacbpjpoaa.PFnApplied
open Go.RowKit Go.Proofs.YtdhifoacbpjpoaaW.PrintWords Go.Proofs.YtdhifoacbpjpoaaW.PrintLast Go.Proofs.YtdhifoacbpjpoaaW.PrintMore
attribute [local go_sem] max2_int min2_int max_two min_two max_three min_three max_four min_four   -- for this text's walks alone
set_option linter.unusedVariables false
set_option linter.unusedSimpArgs false

/-! ### impl_apply: function 68 -/
def impl_apply.f (a0_0 : Int) (a0_1 : Int) (a0_2 : Int) (a0_3 : Int) (a1 : Int) (l2 : List Int) : Option (List Int) := if a0_0 = 1 then (if 0 ≤ a0_1 then (if a0_1 < (l2.length : Int) then (some (l2.set (a0_1 : Int).toNat a0_2)) else (none)) else (none)) else (if a0_0 = 2 then (if 0 ≤ a0_2 then (if a0_2 < (l2.length : Int) then (if 0 ≤ a0_1 then (if a0_1 < (l2.length : Int) then (some (l2.set (a0_1 : Int).toNat (rd l2 a0_2))) else (none)) else (none)) else (none)) else (none)) else (if a0_0 = 3 then (if 0 ≤ a0_2 then (if a0_2 < (l2.length : Int) then (if 0 ≤ a0_3 then (if a0_3 < (l2.length : Int) then ((impl_AddWords.f (rd l2 a0_2) (rd l2 a0_3)).bind fun t159 => (if 0 ≤ a0_1 then (if a0_1 < (l2.length : Int) then (some (l2.set (a0_1 : Int).toNat t159)) else (none)) else (none))) else (none)) else (none)) else (none)) else (none)) else (if a0_0 = 4 then (if 0 ≤ a0_2 then (if a0_2 < (l2.length : Int) then (if 0 ≤ a0_3 then (if a0_3 < (l2.length : Int) then ((impl_SubWords.f (rd l2 a0_2) (rd l2 a0_3)).bind fun t163 => (if 0 ≤ a0_1 then (if a0_1 < (l2.length : Int) then (some (l2.set (a0_1 : Int).toNat t163)) else (none)) else (none))) else (none)) else (none)) else (none)) else (none)) else (if a0_0 = 5 then (if 0 ≤ a0_2 then (if a0_2 < (l2.length : Int) then (if 0 ≤ a0_3 then (if a0_3 < (l2.length : Int) then ((impl_MulWords.f (rd l2 a0_2) (rd l2 a0_3)).bind fun t167 => (if 0 ≤ a0_1 then (if a0_1 < (l2.length : Int) then (some (l2.set (a0_1 : Int).toNat t167)) else (none)) else (none))) else (none)) else (none)) else (none)) else (none)) else (if a0_0 = 6 then (if 0 ≤ a0_2 then (if a0_2 < (l2.length : Int) then (if 0 ≤ a0_3 then (if a0_3 < (l2.length : Int) then (if 0 ≤ a0_1 then (if a0_1 < (l2.length : Int) then (some (l2.set (a0_1 : Int).toNat (Go.bits .xor .i64 (rd l2 a0_2) (rd l2 a0_3)))) else (none)) else (none)) else (none)) else (none)) else (none)) else (none)) else (if a0_0 = 7 then (if 0 ≤ a0_2 then (if a0_2 < (l2.length : Int) then (if 0 ≤ a0_3 then (if a0_3 < (l2.length : Int) then ((impl_LessWords.f (rd l2 a0_2) (rd l2 a0_3)).bind fun t174 => (if 0 ≤ a0_1 then (if a0_1 < (l2.length : Int) then (some (l2.set (a0_1 : Int).toNat t174)) else (none)) else (none))) else (none)) else (none)) else (none)) else (none)) else (if a0_0 = 8 then (if 0 ≤ a0_1 then (if a0_1 < (l2.length : Int) then (some (l2.set (a0_1 : Int).toNat a1)) else (none)) else (none)) else (if a0_0 = 9 then (if 0 ≤ a0_3 then (if a0_3 < (l2.length : Int) then (if (rd l2 a0_3) = 0 then (some l2) else (if 0 ≤ a0_2 then (if a0_2 < (l2.length : Int) then (if 0 ≤ a0_1 then (if a0_1 < (l2.length : Int) then (some (l2.set (a0_1 : Int).toNat (rd l2 a0_2))) else (none)) else (none)) else (none)) else (none))) else (none)) else (none)) else (some l2)))))))))
def impl_apply.T5 : Bool × List (List Nat × List Nat) := (true, [([], []), ([], []), ([1], [1]), ([], []), ([], []), ([4], [4]), ([3, 5], [3, 5]), ([6], [6]), ([0, 2, 0, 1, 2, 3, 4, 5, 6, 7], [0, 2]), ([8, 7, 0, 1, 2, 3, 4, 5, 6, 7], [7, 8])])
def impl_apply.B5 : List Nat := [0, 0, 2, 0, 0, 16, 56, 120, 255, 511]
theorem impl_apply.tab5 : rtab .any (opsOf Try.f68 5) = impl_apply.T5 := by kernel_rfl
theorem impl_apply.bits5 : waitsOk impl_apply.T5.2 impl_apply.B5 = true := by kernel_rfl
def impl_apply.T7 : Bool × List (List Nat × List Nat) := (true, [([], []), ([], []), ([1], [1]), ([], []), ([], []), ([4], [4]), ([3, 5], [3, 5]), ([6], [6]), ([], []), ([], []), ([9], [9]), ([8, 10], [8, 10]), ([11], [11]), ([7, 12], [7, 12]), ([0, 2, 0, 1, 2, 3, 4, 5, 6, 7, 8, 9, 10, 11, 12, 13], [0, 2]), ([14, 13, 13, 0, 1, 2, 3, 4, 5, 6, 7, 8, 9, 10, 11, 12, 13], [13, 14])])
def impl_apply.B7 : List Nat := [0, 0, 2, 0, 0, 16, 56, 120, 0, 0, 512, 1792, 3840, 8184, 16383, 32767]
theorem impl_apply.tab7 : rtab .any (opsOf Try.f68 7) = impl_apply.T7 := by kernel_rfl
theorem impl_apply.bits7 : waitsOk impl_apply.T7.2 impl_apply.B7 = true := by kernel_rfl
def impl_apply.T9 : Bool × List (List Nat × List Nat) := (true, [([], []), ([], []), ([1], [1]), ([], []), ([], []), ([4], [4]), ([3, 5], [3, 5]), ([6], [6]), ([], []), ([], []), ([9], [9]), ([8, 10], [8, 10]), ([11], [11]), ([7, 12], [7, 12]), ([0, 2, 0, 1, 2, 3, 4, 5, 6, 7, 8, 9, 10, 11, 12, 13], [0, 2]), ([14, 13, 13, 0, 1, 2, 3, 4, 5, 6, 7, 8, 9, 10, 11, 12, 13], [13, 14])])
def impl_apply.B9 : List Nat := [0, 0, 2, 0, 0, 16, 56, 120, 0, 0, 512, 1792, 3840, 8184, 16383, 32767]
theorem impl_apply.tab9 : rtab .any (opsOf Try.f68 9) = impl_apply.T9 := by kernel_rfl
theorem impl_apply.bits9 : waitsOk impl_apply.T9.2 impl_apply.B9 = true := by kernel_rfl
def impl_apply.T11 : Bool × List (List Nat × List Nat) := (true, [([], []), ([], []), ([1], [1]), ([], []), ([], []), ([4], [4]), ([3, 5], [3, 5]), ([6], [6]), ([], []), ([], []), ([9], [9]), ([8, 10], [8, 10]), ([11], [11]), ([7, 12], [7, 12]), ([0, 2, 0, 1, 2, 3, 4, 5, 6, 7, 8, 9, 10, 11, 12, 13], [0, 2]), ([14, 13, 13, 0, 1, 2, 3, 4, 5, 6, 7, 8, 9, 10, 11, 12, 13], [13, 14])])
def impl_apply.B11 : List Nat := [0, 0, 2, 0, 0, 16, 56, 120, 0, 0, 512, 1792, 3840, 8184, 16383, 32767]
theorem impl_apply.tab11 : rtab .any (opsOf Try.f68 11) = impl_apply.T11 := by kernel_rfl
theorem impl_apply.bits11 : waitsOk impl_apply.T11.2 impl_apply.B11 = true := by kernel_rfl
def impl_apply.T13 : Bool × List (List Nat × List Nat) := (true, [([], []), ([], []), ([1], [1]), ([], []), ([], []), ([4], [4]), ([3, 5], [3, 5]), ([6], [6]), ([], []), ([], []), ([9], [9]), ([8, 10], [8, 10]), ([11], [11]), ([7, 12], [7, 12]), ([0, 2, 0, 1, 2, 3, 4, 5, 6, 7, 8, 9, 10, 11, 12, 13], [0, 2]), ([14, 13, 0, 1, 2, 3, 4, 5, 6, 7, 8, 9, 10, 11, 12, 13], [13, 14])])
def impl_apply.B13 : List Nat := [0, 0, 2, 0, 0, 16, 56, 120, 0, 0, 512, 1792, 3840, 8184, 16383, 32767]
theorem impl_apply.tab13 : rtab .any (opsOf Try.f68 13) = impl_apply.T13 := by kernel_rfl
theorem impl_apply.bits13 : waitsOk impl_apply.T13.2 impl_apply.B13 = true := by kernel_rfl
def impl_apply.T15 : Bool × List (List Nat × List Nat) := (true, [([], []), ([], []), ([1], [1]), ([], []), ([], []), ([4], [4]), ([3, 5], [3, 5]), ([6], [6]), ([], []), ([], []), ([9], [9]), ([8, 10], [8, 10]), ([11], [11]), ([7, 12], [7, 12]), ([0, 2, 0, 1, 2, 3, 4, 5, 6, 7, 8, 9, 10, 11, 12, 13], [0, 2]), ([14, 13, 13, 0, 1, 2, 3, 4, 5, 6, 7, 8, 9, 10, 11, 12, 13], [13, 14])])
def impl_apply.B15 : List Nat := [0, 0, 2, 0, 0, 16, 56, 120, 0, 0, 512, 1792, 3840, 8184, 16383, 32767]
theorem impl_apply.tab15 : rtab .any (opsOf Try.f68 15) = impl_apply.T15 := by kernel_rfl
theorem impl_apply.bits15 : waitsOk impl_apply.T15.2 impl_apply.B15 = true := by kernel_rfl
def impl_apply.T20 : Bool × List (List Nat × List Nat) := (true, [([], []), ([], []), ([1], [1]), ([], []), ([], []), ([4], [4]), ([3, 5], [3, 5]), ([6], [6]), ([0, 2, 0, 1, 2, 3, 4, 5, 6, 7], [0, 2]), ([8, 7, 0, 1, 2, 3, 4, 5, 6, 7], [7, 8])])
def impl_apply.B20 : List Nat := [0, 0, 2, 0, 0, 16, 56, 120, 255, 511]
theorem impl_apply.tab20 : rtab .any (opsOf Try.f68 20) = impl_apply.T20 := by kernel_rfl
theorem impl_apply.bits20 : waitsOk impl_apply.T20.2 impl_apply.B20 = true := by kernel_rfl
set_option maxHeartbeats 8000000 in
set_option maxRecDepth 100000 in
theorem impl_apply.calls (a0_0 : Int) (a0_1 : Int) (a0_2 : Int) (a0_3 : Int) (a1 : Int) (P2_ : Nat → Prop) (u9000_ : Value) (l2 : List Int) (r : List Int) (w0 w : World) (hB : Below w0.heap.size w0 w) (ho2 : Kd.R (Kd.int .i64) 3 w w0.heap.size P2_ u9000_ l2) (h : impl_apply.f a0_0 a0_1 a0_2 a0_3 a1 l2 = some r) :
  Calls Try.prog 68 #[.agg #[.int .i64 a0_0, .int .i64 a0_1, .int .i64 a0_2, .int .i64 a0_3], .int .i64 a1, u9000_] w fun e w' => e = .returned (.tuple #[]) ∧ Kd.R (Kd.int .i64) 3 w' w0.heap.size (fun k_ => (P2_ k_ ∨ w.heap.size ≤ k_)) u9000_ r ∧ Below w0.heap.size w0 w' ∧ Kept w w' (fun k_ => P2_ k_) := by
 have hu43 := Try.underlying43
 have HO2 := Aside0.mk (show Kd.R (Kd.int .i64) 3 w w0.heap.size (fun k_ => (P2_ k_ ∨ w.heap.size ≤ k_)) u9000_ l2 from Kd.R_mono ho2 (fun k_ hk => (.inl hk)))
 have HK := Aside0.mk (Kept.refl w (fun k_ => P2_ k_))
 have HW0 := Aside0.mk hB.size
 have HB := Aside0.mk hB
 clear hB
 have H : (if a0_0 = 1 then (if 0 ≤ a0_1 then (if a0_1 < (l2.length : Int) then (some (l2.set (a0_1 : Int).toNat a0_2)) else (none)) else (none)) else (if a0_0 = 2 then (if 0 ≤ a0_2 then (if a0_2 < (l2.length : Int) then (if 0 ≤ a0_1 then (if a0_1 < (l2.length : Int) then (some (l2.set (a0_1 : Int).toNat (rd l2 a0_2))) else (none)) else (none)) else (none)) else (none)) else (if a0_0 = 3 then (if 0 ≤ a0_2 then (if a0_2 < (l2.length : Int) then (if 0 ≤ a0_3 then (if a0_3 < (l2.length : Int) then ((impl_AddWords.f (rd l2 a0_2) (rd l2 a0_3)).bind fun t159 => (if 0 ≤ a0_1 then (if a0_1 < (l2.length : Int) then (some (l2.set (a0_1 : Int).toNat t159)) else (none)) else (none))) else (none)) else (none)) else (none)) else (none)) else (if a0_0 = 4 then (if 0 ≤ a0_2 then (if a0_2 < (l2.length : Int) then (if 0 ≤ a0_3 then (if a0_3 < (l2.length : Int) then ((impl_SubWords.f (rd l2 a0_2) (rd l2 a0_3)).bind fun t163 => (if 0 ≤ a0_1 then (if a0_1 < (l2.length : Int) then (some (l2.set (a0_1 : Int).toNat t163)) else (none)) else (none))) else (none)) else (none)) else (none)) else (none)) else (if a0_0 = 5 then (if 0 ≤ a0_2 then (if a0_2 < (l2.length : Int) then (if 0 ≤ a0_3 then (if a0_3 < (l2.length : Int) then ((impl_MulWords.f (rd l2 a0_2) (rd l2 a0_3)).bind fun t167 => (if 0 ≤ a0_1 then (if a0_1 < (l2.length : Int) then (some (l2.set (a0_1 : Int).toNat t167)) else (none)) else (none))) else (none)) else (none)) else (none)) else (none)) else (if a0_0 = 6 then (if 0 ≤ a0_2 then (if a0_2 < (l2.length : Int) then (if 0 ≤ a0_3 then (if a0_3 < (l2.length : Int) then (if 0 ≤ a0_1 then (if a0_1 < (l2.length : Int) then (some (l2.set (a0_1 : Int).toNat (Go.bits .xor .i64 (rd l2 a0_2) (rd l2 a0_3)))) else (none)) else (none)) else (none)) else (none)) else (none)) else (none)) else (if a0_0 = 7 then (if 0 ≤ a0_2 then (if a0_2 < (l2.length : Int) then (if 0 ≤ a0_3 then (if a0_3 < (l2.length : Int) then ((impl_LessWords.f (rd l2 a0_2) (rd l2 a0_3)).bind fun t174 => (if 0 ≤ a0_1 then (if a0_1 < (l2.length : Int) then (some (l2.set (a0_1 : Int).toNat t174)) else (none)) else (none))) else (none)) else (none)) else (none)) else (none)) else (if a0_0 = 8 then (if 0 ≤ a0_1 then (if a0_1 < (l2.length : Int) then (some (l2.set (a0_1 : Int).toNat a1)) else (none)) else (none)) else (if a0_0 = 9 then (if 0 ≤ a0_3 then (if a0_3 < (l2.length : Int) then (if (rd l2 a0_3) = 0 then (some l2) else (if 0 ≤ a0_2 then (if a0_2 < (l2.length : Int) then (if 0 ≤ a0_1 then (if a0_1 < (l2.length : Int) then (some (l2.set (a0_1 : Int).toNat (rd l2 a0_2))) else (none)) else (none)) else (none)) else (none))) else (none)) else (none)) else (some l2)))))))))) = some r := h
 clear h
 by_cases c4 : a0_0 = 1
 ·rw [if_pos c4] at H
  have c4b0 : (a0_0 == 1) = true := beq_iff_eq.mpr c4
  have c4b1 : (a0_0 != 1) = false := bne_eq_false_iff_eq.mpr c4
  clear c4
  by_cases c5 : 0 ≤ a0_1
  ·rw [if_pos c5] at H
   have c5b0 : decide (0 ≤ a0_1) = true := decide_eq_true c5
   clear c5
   by_cases c6 : a0_1 < (l2.length : Int)
   ·rw [if_pos c6] at H
    have c6b0 : decide (a0_1 < (l2.length : Int)) = true := decide_eq_true c6
    clear c6
    obtain ⟨y154, hy154⟩ : ∃ y_ : List Int, y_ = (l2.set (a0_1 : Int).toNat a0_2) := ⟨_, rfl⟩
    replace H : (some y154) = some r := rP hy154 H
    have Ny154 := Aside0.mk hy154
    clear hy154
    obtain rfl := Option.some.inj H
    go_enter Try.func68, Try.ntmps68
    go_wp2_with (first | ((with_reducible refine gate_dst (N := 3) rfl ?_); refine box_event ?hg (N := 3) ?hd (cs := #[.int .i64 a0_0, .int .i64 a0_1, .int .i64 a0_2, .int .i64 a0_3]) (t := 43) ?hr ?_; (case hd => rfl); (case hg => rfl); (case hr => first | (go_simp; done) | (go_simp; rfl)); intro gb153 hg w8 hbox hb; replace HO2 := Aside0.mk (Kd.R_below (rS HO2.out) hb); have BK153 := Aside0.mk (hbox); have GW153 := Aside0.mk ((by rw [hg]; exact (by first | exact HK.out.1 | exact (show Kept w _ (fun k_ => P2_ k_) from by repeat (first | (with_reducible first | exact HK.out | apply Kept.alloc | apply Kept.drewN | apply Kept.drew) | exact HK.out)).1) : w.heap.size ≤ gb153)); replace HK := Aside0.mk (Kept.below (S := (fun k_ => P2_ k_)) (by repeat (first | (with_reducible first | exact HK.out | apply Kept.alloc | apply Kept.drewN | apply Kept.drew) | exact HK.out)) hb); have GE153 := Aside0.mk ((by rw [hg]; exact (below_size bw) : w0.heap.size ≤ gb153)); replace HB := Aside0.mk (below_step bw hb); clear hb hbox hg; have hcz9_0 : w8.cell? ⟨gb153, 0, none⟩ = some (.int .i64 a0_0) := (blk_cell BK153.out 0).trans rfl; have hcz9_1 : w8.cell? ⟨gb153, 1, none⟩ = some (.int .i64 a0_1) := (blk_cell BK153.out 1).trans rfl; have hcz9_2 : w8.cell? ⟨gb153, 2, none⟩ = some (.int .i64 a0_2) := (blk_cell BK153.out 2).trans rfl; have hcz9_3 : w8.cell? ⟨gb153, 3, none⟩ = some (.int .i64 a0_3) := (blk_cell BK153.out 3).trans rfl; have hfz9_0 := blk_frozen BK153.out 0; have hfz9_1 := blk_frozen BK153.out 1; have hfz9_2 := blk_frozen BK153.out 2; have hfz9_3 := blk_frozen BK153.out 3; have p7 : 0 ≤ (a0_1 : Int) := dT; have q7 : (a0_1 : Int) < ((l2.length : Int) : Int) := dT; obtain ⟨go7, co7, eo7, gb7, gl7, cl7, HG7⟩ := Kd.R_form HO2.out (by omega); (first | cases eo7 | (injection eo7 with ea_ en_ ec_; (first | subst ea_ | (injection ea_ with ea_; subst ea_)); subst ec_; clear en_)); have GB7 := Aside0.mk gb7; have GG7 := Aside0.mk HG7; clear gb7 gl7 HG7; have HMgo7 := Aside0.mk (show (P2_ go7 ∨ w.heap.size ≤ go7) from (HO2.out.1 _ rfl)); obtain ⟨hx7_0, hf7_0⟩ := Kd.R_celln 0 HO2.out (a0_1 : Int) p7 q7; replace p7 := eq_true p7; replace q7 := eq_true q7; obtain ⟨hy10_, hz10_⟩ := Kd.R_celln 0 HO2.out (a0_1 : Int) (dT) (dT); have HP10 := Kd.R_putg HO2.out (a0_1 : Int) a0_2) | ((with_reducible refine gate_store (t := 3) (p := 15) rfl ?_); refine store_event (t := 3) (p := 15) (v := ?vo_w11) (w1 := (w8.setCell ⟨go7, (a0_1 : Int).toNat, none⟩ (.int .i64 a0_2))) ?hg ?ho ?hn ?hr ?_; (case ho => rfl); (case hg => rfl); (case hn => rfl); (case hr => first | (go_simp; done) | (go_simp; rfl)); intro w11 hw; have hg : w8.grownBy w11 (some go7) := (by rw [hw]; exact HP10.2); have hp_ : Kd.R (Kd.int .i64) 3 w11 w0.heap.size (fun k_ => (P2_ k_ ∨ w.heap.size ≤ k_)) (.slice (some ⟨go7, 0, none⟩) l2.length co7) y154 := (by rw [hw, Ny154.out]; exact HP10.1); clear HP10; replace BK153 := Aside0.mk (blk_grown (g := gb153) (o := .cells #[.int .i64 a0_0, .int .i64 a0_1, .int .i64 a0_2, .int .i64 a0_3] 43 (0, 0)) (bS BK153.out) hg (Kd.R_ne HO2.out BK153.out (by decide))); replace HB := Aside0.mk ((by rw [hw]; exact below_set (HB.out) GB7.out : Below w0.heap.size w0 w11)); replace HK := Aside0.mk (Kept.of_grown (S := (fun k_ => P2_ k_)) hg (by repeat (first | (with_reducible first | exact HK.out | apply Kept.alloc | apply Kept.drewN | apply Kept.drew | refine Kept.setCell ?_ (.inr GW153.out) _) | exact HK.out)) (fun k_ e_ => (HO2.out.1 k_ e_))); replace HO2 := Aside0.mk (hp_); clear hg hw hp_))
    first | go_end0 | ((try simp only [Exit.inBlock, Exit.then]); refine bodyPost_ret (results_none rfl _ _ _) rfl ?_)
    exact ⟨eR, rS HO2.out, bx, by repeat (first | (with_reducible first | exact HK.out | apply Kept.alloc | apply Kept.drewN | apply Kept.drew | refine Kept.setCell ?_ (.inr GW153.out) _) | exact HK.out)⟩
   ·rw [if_neg c6] at H
    exact absurd H (by simp)
  ·rw [if_neg c5] at H
   exact absurd H (by simp)
 ·rw [if_neg c4] at H
  have c4b0 : (a0_0 == 1) = false := beq_eq_false_iff_ne.mpr c4
  have c4b1 : (a0_0 != 1) = true := bne_iff_ne.mpr c4
  by_cases c12 : a0_0 = 2
  ·rw [if_pos c12] at H
   have c12b0 : (a0_0 == 2) = true := beq_iff_eq.mpr c12
   have c12b1 : (a0_0 != 2) = false := bne_eq_false_iff_eq.mpr c12
   clear c12
   by_cases c13 : 0 ≤ a0_2
   ·rw [if_pos c13] at H
    have c13b0 : decide (0 ≤ a0_2) = true := decide_eq_true c13
    clear c13
    by_cases c14 : a0_2 < (l2.length : Int)
    ·rw [if_pos c14] at H
     have c14b0 : decide (a0_2 < (l2.length : Int)) = true := decide_eq_true c14
     clear c14
     by_cases c15 : 0 ≤ a0_1
     ·rw [if_pos c15] at H
      have c15b0 : decide (0 ≤ a0_1) = true := decide_eq_true c15
      clear c15
      by_cases c16 : a0_1 < (l2.length : Int)
      ·rw [if_pos c16] at H
       have c16b0 : decide (a0_1 < (l2.length : Int)) = true := decide_eq_true c16
       clear c16
       obtain ⟨y156, hy156⟩ : ∃ y_ : List Int, y_ = (l2.set (a0_1 : Int).toNat (rd l2 a0_2)) := ⟨_, rfl⟩
       replace H : (some y156) = some r := rP hy156 H
       have Ny156 := Aside0.mk hy156
       clear hy156
       obtain rfl := Option.some.inj H
       go_enter Try.func68, Try.ntmps68
       try go_wp2_with (first | ((with_reducible refine gate_dst (N := 3) rfl ?_); refine box_event ?hg (N := 3) ?hd (cs := #[.int .i64 a0_0, .int .i64 a0_1, .int .i64 a0_2, .int .i64 a0_3]) (t := 43) ?hr ?_; (case hd => rfl); (case hg => rfl); (case hr => first | (go_simp; done) | (go_simp; rfl)); intro gb153 hg w18 hbox hb; replace HO2 := Aside0.mk (Kd.R_below (rS HO2.out) hb); have BK153 := Aside0.mk (hbox); have GW153 := Aside0.mk ((by rw [hg]; exact (by first | exact HK.out.1 | exact (show Kept w _ (fun k_ => P2_ k_) from by repeat (first | (with_reducible first | exact HK.out | apply Kept.alloc | apply Kept.drewN | apply Kept.drew) | exact HK.out)).1) : w.heap.size ≤ gb153)); replace HK := Aside0.mk (Kept.below (S := (fun k_ => P2_ k_)) (by repeat (first | (with_reducible first | exact HK.out | apply Kept.alloc | apply Kept.drewN | apply Kept.drew) | exact HK.out)) hb); have GE153 := Aside0.mk ((by rw [hg]; exact (below_size bw) : w0.heap.size ≤ gb153)); replace HB := Aside0.mk (below_step bw hb); clear hb hbox hg; have hcz19_0 : w18.cell? ⟨gb153, 0, none⟩ = some (.int .i64 a0_0) := (blk_cell BK153.out 0).trans rfl; have hcz19_1 : w18.cell? ⟨gb153, 1, none⟩ = some (.int .i64 a0_1) := (blk_cell BK153.out 1).trans rfl; have hcz19_2 : w18.cell? ⟨gb153, 2, none⟩ = some (.int .i64 a0_2) := (blk_cell BK153.out 2).trans rfl; have hcz19_3 : w18.cell? ⟨gb153, 3, none⟩ = some (.int .i64 a0_3) := (blk_cell BK153.out 3).trans rfl; have hfz19_0 := blk_frozen BK153.out 0; have hfz19_1 := blk_frozen BK153.out 1; have hfz19_2 := blk_frozen BK153.out 2; have hfz19_3 := blk_frozen BK153.out 3))
       replace HO2 := Aside0.mk (Kd.R_drew HO2.out)
       replace BK153 := Aside0.mk (blk_drew BK153.out)
       replace HK := Aside0.mk (Kept.drew HK.out)
       replace HB := Aside0.mk (below_drew1 HB.out)
       obtain ⟨Ao21, co21, eo21⟩ := Kd.R_slice HO2.out
       (first | subst eo21 | (injection eo21 with f1_ f2_ f3_; have f4_ := f1_.symm; have f5_ := f3_.symm; clear f1_ f2_ f3_; subst f4_; subst f5_))
       have p155 : 0 ≤ (a0_2 : Int) := dT
       have q155 : a0_2 < (l2.length : Int) := dT
       obtain ⟨ad155, e155, hx155_0⟩ := Kd.at_int (Kd.R_reads' HO2.out).2.2 a0_2 p155 q155
       cases e155
       replace p155 := eq_true p155
       replace q155 := eq_true q155
       have p17 : 0 ≤ (a0_1 : Int) := dT
       have q17 : (a0_1 : Int) < ((l2.length : Int) : Int) := dT
       obtain ⟨go17, co17, eo17, gb17, gl17, cl17, HG17⟩ := Kd.R_form HO2.out (by omega)
       (first | cases eo17 | (injection eo17 with ea_ en_ ec_; (first | subst ea_ | (injection ea_ with ea_; subst ea_)); subst ec_; clear en_))
       have GB17 := Aside0.mk gb17
       have GG17 := Aside0.mk HG17
       clear gb17 gl17 HG17
       have HMgo17 := Aside0.mk (show (P2_ go17 ∨ w.heap.size ≤ go17) from (HO2.out.1 _ rfl))
       (first | simp only [add_plain] at hx155_0 | skip)
       obtain ⟨hx17_0, hf17_0⟩ := Kd.R_celln 0 HO2.out (a0_1 : Int) p17 q17
       replace p17 := eq_true p17
       replace q17 := eq_true q17
       have HP22 := Kd.R_putn HO2.out (a0_1 : Int) (rd l2 a0_2)
       rw [← Ny156.out] at HP22
       have HQ22 := Aside0.mk HP22
       clear HP22
       refine start_ (n := 10) (S := fun w' => w'.cell? ⟨gb153, 0, none⟩ = some (.int .i64 a0_0) ∧ w'.cell? ⟨gb153, 1, none⟩ = some (.int .i64 a0_1) ∧ w'.cell? ⟨gb153, 2, none⟩ = some (.int .i64 a0_2) ∧ w'.cell? ⟨gb153, 3, none⟩ = some (.int .i64 a0_3) ∧ w'.cell? ⟨go17, (a0_2).toNat, none⟩ = some (.int .i64 (rd l2 a0_2))) (ds := [9]) #[false,false,false,false,false,false,false,false,false,false] (by kernel_rfl) rfl rfl ⟨(blk_cell BK153.out 0).trans rfl, (blk_cell BK153.out 1).trans rfl, (blk_cell BK153.out 2).trans rfl, (blk_cell BK153.out 3).trans rfl, hx155_0⟩ (fun hHeld => ?_); refine with_tabW impl_apply.tab5 impl_apply.bits5 (fun HT_ HW_ => ?_)
       generalize w18.drew = w20 at HO2 BK153 HK HB GG17 HQ22 hf17_0 hx155_0 hx17_0 hHeld ⊢
       refine pU 0 18 (v := ?_) (a' := ?_) #[Y,Z,Z,Z,Z,Z,Z,Z,Z,Z] HT_ rfl rfl (by kernel_rfl) ?_ ?_ ?_;rotate_left;(intro w';go_simp;with_reducible rfl);rotate_left;(simp only [Act.put, sA, s0, sN, i64_w, i32_w];rfl)
       refine pU 1 19 (v := ?_) (a' := ?_) #[Y,Y,Z,Z,Z,Z,Z,Z,Z,Z] HT_ rfl rfl (by kernel_rfl) ?_ ?_ ?_;rotate_left;(intro w';go_simp;with_reducible rfl);rotate_left;(simp only [Act.put, sA, s0, sN, i64_w, i32_w];rfl)
       refine pU 3 21 (v := ?_) (a' := ?_) #[Y,Y,Z,Y,Z,Z,Z,Z,Z,Z] HT_ rfl rfl (by kernel_rfl) ?_ ?_ ?_;rotate_left;(intro w';go_simp;with_reducible rfl);rotate_left;(simp only [Act.put, sA, s0, sN, i64_w, i32_w];rfl)
       refine pU 4 22 (v := ?_) (a' := ?_) #[Y,Y,Z,Y,Y,Z,Z,Z,Z,Z] HT_ rfl rfl (by kernel_rfl) ?_ ?_ ?_;rotate_left;(intro w';go_simp;with_reducible rfl);rotate_left;(simp only [Act.put, sA, s0, sN, i64_w, i32_w];rfl)
       refine take_ (i := 2) (N := some 20) (v := ?_) (a' := ?_) #[Y,Y,Y,Y,Y,Z,Z,Z,Z,Z] rfl rfl (take_ofW HT_.out HW_.out (by kernel_rfl)) (fun _ _ _ h => h) (Or.inl ⟨by rfl, ?_⟩) hHeld ?_ ?_
       rotate_left
       ·rintro w' ⟨s0, s1, s2, s3, s4⟩
        go_simp
        with_reducible rfl
       rotate_left
       ·simp only [Act.put, sA, s0, sN, i64_w, i32_w]
        rfl
       refine take_ (i := 5) (N := some 23) (v := ?_) (a' := ?_) #[Y,Y,Y,Y,Y,Y,Z,Z,Z,Z] rfl rfl (take_ofW HT_.out HW_.out (by kernel_rfl)) (fun _ _ _ h => h) (Or.inl ⟨by rfl, ?_⟩) hHeld ?_ ?_
       rotate_left
       ·rintro w' ⟨s0, s1, s2, s3, s4⟩
        go_simp
        with_reducible rfl
       rotate_left
       ·simp only [Act.put, sA, s0, sN, i64_w, i32_w]
        rfl
       refine pU 6 24 (v := ?_) (a' := ?_) #[Y,Y,Y,Y,Y,Y,Y,Z,Z,Z] HT_ rfl rfl (by kernel_rfl) ?_ ?_ ?_;rotate_left;(intro w';go_simp;with_reducible rfl);rotate_left;(simp only [Act.put, sA, s0, sN, i64_w, i32_w];rfl)
       refine take_ (i := 7) (N := some 25) (v := ?_) (a' := ?_) #[Y,Y,Y,Y,Y,Y,Y,Y,Z,Z] rfl rfl (take_ofW HT_.out HW_.out (by kernel_rfl)) (fun _ _ _ h => h) (Or.inl ⟨by rfl, ?_⟩) hHeld ?_ ?_
       rotate_left
       ·rintro w' ⟨s0, s1, s2, s3, s4⟩
        go_simp
        with_reducible rfl
       rotate_left
       ·simp only [Act.put, sA, s0, sN, i64_w, i32_w]
        rfl
       refine pU 8 26 (v := ?_) (a' := ?_) #[Y,Y,Y,Y,Y,Y,Y,Y,Y,Z] HT_ rfl rfl (by kernel_rfl) ?_ ?_ ?_;rotate_left;(intro w';go_simp;with_reducible rfl);rotate_left;(simp only [Act.put, sA, s0, sN, i64_w, i32_w];rfl)
       refine last_ (i := 9) (N := none) #[Y,Y,Y,Y,Y,Y,Y,Y,Y,Y] rfl rfl (one_of HT_.out (by kernel_rfl)) (by decide) (fun K hK => ?_)
       refine skip_ (w1 := ?_) (by rfl) rfl ?_ ?_
       rotate_left
       ·go_simp
        rfl
       refine hK.out _ _ ?_
       clear hK K
       refine done_ (done_of HT_.out (by kernel_rfl)) ?_
       try go_wp2
       first | go_end0 | ((try simp only [Exit.inBlock, Exit.then]); refine bodyPost_ret (results_none rfl _ _ _) rfl ?_)
       exact ⟨eR, rS HQ22.out, bx, by repeat (first | (with_reducible first | exact HK.out | apply Kept.alloc | apply Kept.drewN | apply Kept.drew | refine Kept.setCell ?_ HMgo17.out _ | refine Kept.setCell ?_ (.inr GW153.out) _) | exact HK.out)⟩
      ·rw [if_neg c16] at H
       exact absurd H (by simp)
     ·rw [if_neg c15] at H
      exact absurd H (by simp)
    ·rw [if_neg c14] at H
     exact absurd H (by simp)
   ·rw [if_neg c13] at H
    exact absurd H (by simp)
  ·rw [if_neg c12] at H
   have c12b0 : (a0_0 == 2) = false := beq_eq_false_iff_ne.mpr c12
   have c12b1 : (a0_0 != 2) = true := bne_iff_ne.mpr c12
   by_cases c23 : a0_0 = 3
   ·rw [if_pos c23] at H
    have c23b0 : (a0_0 == 3) = true := beq_iff_eq.mpr c23
    have c23b1 : (a0_0 != 3) = false := bne_eq_false_iff_eq.mpr c23
    clear c23
    by_cases c24 : 0 ≤ a0_2
    ·rw [if_pos c24] at H
     have c24b0 : decide (0 ≤ a0_2) = true := decide_eq_true c24
     clear c24
     by_cases c25 : a0_2 < (l2.length : Int)
     ·rw [if_pos c25] at H
      have c25b0 : decide (a0_2 < (l2.length : Int)) = true := decide_eq_true c25
      clear c25
      by_cases c26 : 0 ≤ a0_3
      ·rw [if_pos c26] at H
       have c26b0 : decide (0 ≤ a0_3) = true := decide_eq_true c26
       clear c26
       by_cases c27 : a0_3 < (l2.length : Int)
       ·rw [if_pos c27] at H
        have c27b0 : decide (a0_3 < (l2.length : Int)) = true := decide_eq_true c27
        clear c27
        replace H := Option.bind_eq_some_iff.mp H
        obtain ⟨t159, A280, H⟩ := H
        replace H : (if 0 ≤ a0_1 then (if a0_1 < (l2.length : Int) then (some (l2.set (a0_1 : Int).toNat t159)) else (none)) else (none)) = some r := H
        have A28 := Aside0.mk A280
        clear A280
        by_cases c29 : 0 ≤ a0_1
        ·rw [if_pos c29] at H
         have c29b0 : decide (0 ≤ a0_1) = true := decide_eq_true c29
         clear c29
         by_cases c30 : a0_1 < (l2.length : Int)
         ·rw [if_pos c30] at H
          have c30b0 : decide (a0_1 < (l2.length : Int)) = true := decide_eq_true c30
          clear c30
          obtain ⟨y160, hy160⟩ : ∃ y_ : List Int, y_ = (l2.set (a0_1 : Int).toNat t159) := ⟨_, rfl⟩
          replace H : (some y160) = some r := rP hy160 H
          have Ny160 := Aside0.mk hy160
          clear hy160
          obtain rfl := Option.some.inj H
          go_enter Try.func68, Try.ntmps68
          try go_wp2_with (first | ((with_reducible refine gate_dst (N := 3) rfl ?_); refine box_event ?hg (N := 3) ?hd (cs := #[.int .i64 a0_0, .int .i64 a0_1, .int .i64 a0_2, .int .i64 a0_3]) (t := 43) ?hr ?_; (case hd => rfl); (case hg => rfl); (case hr => first | (go_simp; done) | (go_simp; rfl)); intro gb153 hg w32 hbox hb; replace HO2 := Aside0.mk (Kd.R_below (rS HO2.out) hb); have BK153 := Aside0.mk (hbox); have GW153 := Aside0.mk ((by rw [hg]; exact (by first | exact HK.out.1 | exact (show Kept w _ (fun k_ => P2_ k_) from by repeat (first | (with_reducible first | exact HK.out | apply Kept.alloc | apply Kept.drewN | apply Kept.drew) | exact HK.out)).1) : w.heap.size ≤ gb153)); replace HK := Aside0.mk (Kept.below (S := (fun k_ => P2_ k_)) (by repeat (first | (with_reducible first | exact HK.out | apply Kept.alloc | apply Kept.drewN | apply Kept.drew) | exact HK.out)) hb); have GE153 := Aside0.mk ((by rw [hg]; exact (below_size bw) : w0.heap.size ≤ gb153)); replace HB := Aside0.mk (below_step bw hb); clear hb hbox hg; have hcz33_0 : w32.cell? ⟨gb153, 0, none⟩ = some (.int .i64 a0_0) := (blk_cell BK153.out 0).trans rfl; have hcz33_1 : w32.cell? ⟨gb153, 1, none⟩ = some (.int .i64 a0_1) := (blk_cell BK153.out 1).trans rfl; have hcz33_2 : w32.cell? ⟨gb153, 2, none⟩ = some (.int .i64 a0_2) := (blk_cell BK153.out 2).trans rfl; have hcz33_3 : w32.cell? ⟨gb153, 3, none⟩ = some (.int .i64 a0_3) := (blk_cell BK153.out 3).trans rfl; have hfz33_0 := blk_frozen BK153.out 0; have hfz33_1 := blk_frozen BK153.out 1; have hfz33_2 := blk_frozen BK153.out 2; have hfz33_3 := blk_frozen BK153.out 3))
          replace HO2 := Aside0.mk (Kd.R_drew HO2.out)
          replace BK153 := Aside0.mk (blk_drew BK153.out)
          replace HK := Aside0.mk (Kept.drew HK.out)
          replace HB := Aside0.mk (below_drew1 HB.out)
          obtain ⟨Ao35, co35, eo35⟩ := Kd.R_slice HO2.out
          (first | subst eo35 | (injection eo35 with f1_ f2_ f3_; have f4_ := f1_.symm; have f5_ := f3_.symm; clear f1_ f2_ f3_; subst f4_; subst f5_))
          have p157 : 0 ≤ (a0_2 : Int) := dT
          have q157 : a0_2 < (l2.length : Int) := dT
          obtain ⟨ad157, e157, hx157_0⟩ := Kd.at_int (Kd.R_reads' HO2.out).2.2 a0_2 p157 q157
          cases e157
          replace p157 := eq_true p157
          replace q157 := eq_true q157
          have p158 : 0 ≤ (a0_3 : Int) := dT
          have q158 : a0_3 < (l2.length : Int) := dT
          obtain ⟨ad158, e158, hx158_0⟩ := Kd.at_int (Kd.R_reads' HO2.out).2.2 a0_3 p158 q158
          obtain rfl : ad157 = ad158 := (by injection e158)
          replace p158 := eq_true p158
          replace q158 := eq_true q158
          refine start_ (n := 16) (S := fun w' => w'.cell? ⟨gb153, 0, none⟩ = some (.int .i64 a0_0) ∧ w'.cell? ⟨gb153, 1, none⟩ = some (.int .i64 a0_1) ∧ w'.cell? ⟨gb153, 2, none⟩ = some (.int .i64 a0_2) ∧ w'.cell? ⟨gb153, 3, none⟩ = some (.int .i64 a0_3) ∧ w'.cell? (ad157.add (a0_2).toNat) = some (.int .i64 (rd l2 a0_2)) ∧ w'.cell? (ad157.add (a0_3).toNat) = some (.int .i64 (rd l2 a0_3))) (ds := [15]) #[false,false,false,false,false,false,false,false,false,false,false,false,false,false,false,false] (by kernel_rfl) rfl rfl ⟨(blk_cell BK153.out 0).trans rfl, (blk_cell BK153.out 1).trans rfl, (blk_cell BK153.out 2).trans rfl, (blk_cell BK153.out 3).trans rfl, hx157_0, hx158_0⟩ (fun hHeld => ?_); refine with_tabW impl_apply.tab7 impl_apply.bits7 (fun HT_ HW_ => ?_)
          generalize w32.drew = w34 at HO2 BK153 HK HB hx157_0 hx158_0 hHeld ⊢
          refine pU 0 29 (v := ?_) (a' := ?_) #[Y,Z,Z,Z,Z,Z,Z,Z,Z,Z,Z,Z,Z,Z,Z,Z] HT_ rfl rfl (by kernel_rfl) ?_ ?_ ?_;rotate_left;(intro w';go_simp;with_reducible rfl);rotate_left;(simp only [Act.put, sA, s0, sN, i64_w, i32_w];rfl)
          refine pU 1 30 (v := ?_) (a' := ?_) #[Y,Y,Z,Z,Z,Z,Z,Z,Z,Z,Z,Z,Z,Z,Z,Z] HT_ rfl rfl (by kernel_rfl) ?_ ?_ ?_;rotate_left;(intro w';go_simp;with_reducible rfl);rotate_left;(simp only [Act.put, sA, s0, sN, i64_w, i32_w];rfl)
          refine pU 3 32 (v := ?_) (a' := ?_) #[Y,Y,Z,Y,Z,Z,Z,Z,Z,Z,Z,Z,Z,Z,Z,Z] HT_ rfl rfl (by kernel_rfl) ?_ ?_ ?_;rotate_left;(intro w';go_simp;with_reducible rfl);rotate_left;(simp only [Act.put, sA, s0, sN, i64_w, i32_w];rfl)
          refine pU 4 33 (v := ?_) (a' := ?_) #[Y,Y,Z,Y,Y,Z,Z,Z,Z,Z,Z,Z,Z,Z,Z,Z] HT_ rfl rfl (by kernel_rfl) ?_ ?_ ?_;rotate_left;(intro w';go_simp;with_reducible rfl);rotate_left;(simp only [Act.put, sA, s0, sN, i64_w, i32_w];rfl)
          refine pU 8 37 (v := ?_) (a' := ?_) #[Y,Y,Z,Y,Y,Z,Z,Z,Y,Z,Z,Z,Z,Z,Z,Z] HT_ rfl rfl (by kernel_rfl) ?_ ?_ ?_;rotate_left;(intro w';go_simp;with_reducible rfl);rotate_left;(simp only [Act.put, sA, s0, sN, i64_w, i32_w];rfl)
          refine pU 9 38 (v := ?_) (a' := ?_) #[Y,Y,Z,Y,Y,Z,Z,Z,Y,Y,Z,Z,Z,Z,Z,Z] HT_ rfl rfl (by kernel_rfl) ?_ ?_ ?_;rotate_left;(intro w';go_simp;with_reducible rfl);rotate_left;(simp only [Act.put, sA, s0, sN, i64_w, i32_w];rfl)
          refine take_ (i := 2) (N := some 31) (v := ?_) (a' := ?_) #[Y,Y,Y,Y,Y,Z,Z,Z,Y,Y,Z,Z,Z,Z,Z,Z] rfl rfl (take_ofW HT_.out HW_.out (by kernel_rfl)) (fun _ _ _ h => h) (Or.inl ⟨by rfl, ?_⟩) hHeld ?_ ?_
          rotate_left
          ·rintro w' ⟨s0, s1, s2, s3, s4, s5⟩
           go_simp
           with_reducible rfl
          rotate_left
          ·simp only [Act.put, sA, s0, sN, i64_w, i32_w]
           rfl
          refine take_ (i := 5) (N := some 34) (v := ?_) (a' := ?_) #[Y,Y,Y,Y,Y,Y,Z,Z,Y,Y,Z,Z,Z,Z,Z,Z] rfl rfl (take_ofW HT_.out HW_.out (by kernel_rfl)) (fun _ _ _ h => h) (Or.inl ⟨by rfl, ?_⟩) hHeld ?_ ?_
          rotate_left
          ·rintro w' ⟨s0, s1, s2, s3, s4, s5⟩
           go_simp
           with_reducible rfl
          rotate_left
          ·simp only [Act.put, sA, s0, sN, i64_w, i32_w]
           rfl
          refine pU 6 35 (v := ?_) (a' := ?_) #[Y,Y,Y,Y,Y,Y,Y,Z,Y,Y,Z,Z,Z,Z,Z,Z] HT_ rfl rfl (by kernel_rfl) ?_ ?_ ?_;rotate_left;(intro w';go_simp;with_reducible rfl);rotate_left;(simp only [Act.put, sA, s0, sN, i64_w, i32_w];rfl)
          refine take_ (i := 7) (N := some 36) (v := ?_) (a' := ?_) #[Y,Y,Y,Y,Y,Y,Y,Y,Y,Y,Z,Z,Z,Z,Z,Z] rfl rfl (take_ofW HT_.out HW_.out (by kernel_rfl)) (fun _ _ _ h => h) (Or.inl ⟨by rfl, ?_⟩) hHeld ?_ ?_
          rotate_left
          ·rintro w' ⟨s0, s1, s2, s3, s4, s5⟩
           go_simp
           with_reducible rfl
          rotate_left
          ·simp only [Act.put, sA, s0, sN, i64_w, i32_w]
           rfl
          refine take_ (i := 10) (N := some 39) (v := ?_) (a' := ?_) #[Y,Y,Y,Y,Y,Y,Y,Y,Y,Y,Y,Z,Z,Z,Z,Z] rfl rfl (take_ofW HT_.out HW_.out (by kernel_rfl)) (fun _ _ _ h => h) (Or.inl ⟨by rfl, ?_⟩) hHeld ?_ ?_
          rotate_left
          ·rintro w' ⟨s0, s1, s2, s3, s4, s5⟩
           go_simp
           with_reducible rfl
          rotate_left
          ·simp only [Act.put, sA, s0, sN, i64_w, i32_w]
           rfl
          refine pU 11 40 (v := ?_) (a' := ?_) #[Y,Y,Y,Y,Y,Y,Y,Y,Y,Y,Y,Y,Z,Z,Z,Z] HT_ rfl rfl (by kernel_rfl) ?_ ?_ ?_;rotate_left;(intro w';go_simp;with_reducible rfl);rotate_left;(simp only [Act.put, sA, s0, sN, i64_w, i32_w];rfl)
          refine take_ (i := 12) (N := some 41) (v := ?_) (a' := ?_) #[Y,Y,Y,Y,Y,Y,Y,Y,Y,Y,Y,Y,Y,Z,Z,Z] rfl rfl (take_ofW HT_.out HW_.out (by kernel_rfl)) (fun _ _ _ h => h) (Or.inl ⟨by rfl, ?_⟩) hHeld ?_ ?_
          rotate_left
          ·rintro w' ⟨s0, s1, s2, s3, s4, s5⟩
           go_simp
           with_reducible rfl
          rotate_left
          ·simp only [Act.put, sA, s0, sN, i64_w, i32_w]
           rfl
          refine one_ (i := 13) (N := some 42) #[Y,Y,Y,Y,Y,Y,Y,Y,Y,Y,Y,Y,Y,Y,Z,Z] rfl rfl (one_of HT_.out (by kernel_rfl)) (by decide) (fun K hK => ?_)
          refine goes_ Try.func107 (by kernel_rfl) rfl #[.int .i64 (rd l2 a0_2), .int .i64 (rd l2 a0_3)] (by rfl) rfl rfl bz ?_
          with_reducible refine (impl_AddWords.calls (rd l2 a0_2) (rd l2 a0_3) t159 _ A28.out).mono ?_
          rintro e w' ⟨rfl, ⟨nd, rfl⟩⟩
          refine ⟨_, rfl, ?_⟩
          have p31 : 0 ≤ (a0_1 : Int) := dT
          have q31 : (a0_1 : Int) < ((l2.length : Int) : Int) := dT
          obtain ⟨go31, co31, eo31, gb31, gl31, cl31, HG31⟩ := Kd.R_form HO2.out (by omega)
          (first | cases eo31 | (injection eo31 with ea_ en_ ec_; (first | subst ea_ | (injection ea_ with ea_; subst ea_)); subst ec_; clear en_))
          have GB31 := Aside0.mk gb31
          have GG31 := Aside0.mk HG31
          clear gb31 gl31 HG31
          have HMgo31 := Aside0.mk (show (P2_ go31 ∨ w.heap.size ≤ go31) from (HO2.out.1 _ rfl))
          (first | simp only [add_plain] at hx157_0 | skip)
          (first | simp only [add_plain] at hx158_0 | skip)
          obtain ⟨hx31_0, hf31_0⟩ := Kd.R_celln 0 HO2.out (a0_1 : Int) p31 q31
          replace p31 := eq_true p31
          replace q31 := eq_true q31
          have HP36 := Kd.R_putn HO2.out (a0_1 : Int) t159
          rw [← Ny160.out] at HP36
          have HQ36 := Aside0.mk HP36
          clear HP36
          refine hK.out _ _ ⟨(blk_cell BK153.out 0).trans rfl, (blk_cell BK153.out 1).trans rfl, (blk_cell BK153.out 2).trans rfl, (blk_cell BK153.out 3).trans rfl, hHeld.2.2.2.2.1, hHeld.2.2.2.2.2⟩ (fun hHeld => ?_)
          clear hK K
          refine norm_ (a' := ?_) ?_ ?_
          rotate_left
          ·show Act.put _ (some 42) _ = _
           simp only [Act.put, sA, s0, sN, i64_w, i32_w]
           rfl
          refine pU 14 43 (v := ?_) (a' := ?_) #[Y,Y,Y,Y,Y,Y,Y,Y,Y,Y,Y,Y,Y,Y,Y,Z] HT_ rfl rfl (by kernel_rfl) ?_ ?_ ?_;rotate_left;(intro w';go_simp;with_reducible rfl);rotate_left;(simp only [Act.put, sA, s0, sN, i64_w, i32_w];rfl)
          refine last_ (i := 15) (N := none) #[Y,Y,Y,Y,Y,Y,Y,Y,Y,Y,Y,Y,Y,Y,Y,Y] rfl rfl (one_of HT_.out (by kernel_rfl)) (by decide) (fun K hK => ?_)
          refine skip_ (w1 := ?_) (by rfl) rfl ?_ ?_
          rotate_left
          ·go_simp
           rfl
          refine hK.out _ _ ?_
          clear hK K
          refine done_ (done_of HT_.out (by kernel_rfl)) ?_
          try go_wp2
          first | go_end0 | ((try simp only [Exit.inBlock, Exit.then]); refine bodyPost_ret (results_none rfl _ _ _) rfl ?_)
          exact ⟨eR, rS HQ36.out, bx, by repeat (first | (with_reducible first | exact HK.out | apply Kept.alloc | apply Kept.drewN | apply Kept.drew | refine Kept.setCell ?_ HMgo31.out _ | refine Kept.setCell ?_ (.inr GW153.out) _) | exact HK.out)⟩
         ·rw [if_neg c30] at H
          exact absurd H (by simp)
        ·rw [if_neg c29] at H
         exact absurd H (by simp)
       ·rw [if_neg c27] at H
        exact absurd H (by simp)
      ·rw [if_neg c26] at H
       exact absurd H (by simp)
     ·rw [if_neg c25] at H
      exact absurd H (by simp)
    ·rw [if_neg c24] at H
     exact absurd H (by simp)
   ·rw [if_neg c23] at H
    have c23b0 : (a0_0 == 3) = false := beq_eq_false_iff_ne.mpr c23
    have c23b1 : (a0_0 != 3) = true := bne_iff_ne.mpr c23
    by_cases c37 : a0_0 = 4
    ·rw [if_pos c37] at H
     have c37b0 : (a0_0 == 4) = true := beq_iff_eq.mpr c37
     have c37b1 : (a0_0 != 4) = false := bne_eq_false_iff_eq.mpr c37
     clear c37
     by_cases c38 : 0 ≤ a0_2
     ·rw [if_pos c38] at H
      have c38b0 : decide (0 ≤ a0_2) = true := decide_eq_true c38
      clear c38
      by_cases c39 : a0_2 < (l2.length : Int)
      ·rw [if_pos c39] at H
       have c39b0 : decide (a0_2 < (l2.length : Int)) = true := decide_eq_true c39
       clear c39
       by_cases c40 : 0 ≤ a0_3
       ·rw [if_pos c40] at H
        have c40b0 : decide (0 ≤ a0_3) = true := decide_eq_true c40
        clear c40
        by_cases c41 : a0_3 < (l2.length : Int)
        ·rw [if_pos c41] at H
         have c41b0 : decide (a0_3 < (l2.length : Int)) = true := decide_eq_true c41
         clear c41
         replace H := Option.bind_eq_some_iff.mp H
         obtain ⟨t163, A420, H⟩ := H
         replace H : (if 0 ≤ a0_1 then (if a0_1 < (l2.length : Int) then (some (l2.set (a0_1 : Int).toNat t163)) else (none)) else (none)) = some r := H
         have A42 := Aside0.mk A420
         clear A420
         by_cases c43 : 0 ≤ a0_1
         ·rw [if_pos c43] at H
          have c43b0 : decide (0 ≤ a0_1) = true := decide_eq_true c43
          clear c43
          by_cases c44 : a0_1 < (l2.length : Int)
          ·rw [if_pos c44] at H
           have c44b0 : decide (a0_1 < (l2.length : Int)) = true := decide_eq_true c44
           clear c44
           obtain ⟨y164, hy164⟩ : ∃ y_ : List Int, y_ = (l2.set (a0_1 : Int).toNat t163) := ⟨_, rfl⟩
           replace H : (some y164) = some r := rP hy164 H
           have Ny164 := Aside0.mk hy164
           clear hy164
           obtain rfl := Option.some.inj H
           go_enter Try.func68, Try.ntmps68
           try go_wp2_with (first | ((with_reducible refine gate_dst (N := 3) rfl ?_); refine box_event ?hg (N := 3) ?hd (cs := #[.int .i64 a0_0, .int .i64 a0_1, .int .i64 a0_2, .int .i64 a0_3]) (t := 43) ?hr ?_; (case hd => rfl); (case hg => rfl); (case hr => first | (go_simp; done) | (go_simp; rfl)); intro gb153 hg w46 hbox hb; replace HO2 := Aside0.mk (Kd.R_below (rS HO2.out) hb); have BK153 := Aside0.mk (hbox); have GW153 := Aside0.mk ((by rw [hg]; exact (by first | exact HK.out.1 | exact (show Kept w _ (fun k_ => P2_ k_) from by repeat (first | (with_reducible first | exact HK.out | apply Kept.alloc | apply Kept.drewN | apply Kept.drew) | exact HK.out)).1) : w.heap.size ≤ gb153)); replace HK := Aside0.mk (Kept.below (S := (fun k_ => P2_ k_)) (by repeat (first | (with_reducible first | exact HK.out | apply Kept.alloc | apply Kept.drewN | apply Kept.drew) | exact HK.out)) hb); have GE153 := Aside0.mk ((by rw [hg]; exact (below_size bw) : w0.heap.size ≤ gb153)); replace HB := Aside0.mk (below_step bw hb); clear hb hbox hg; have hcz47_0 : w46.cell? ⟨gb153, 0, none⟩ = some (.int .i64 a0_0) := (blk_cell BK153.out 0).trans rfl; have hcz47_1 : w46.cell? ⟨gb153, 1, none⟩ = some (.int .i64 a0_1) := (blk_cell BK153.out 1).trans rfl; have hcz47_2 : w46.cell? ⟨gb153, 2, none⟩ = some (.int .i64 a0_2) := (blk_cell BK153.out 2).trans rfl; have hcz47_3 : w46.cell? ⟨gb153, 3, none⟩ = some (.int .i64 a0_3) := (blk_cell BK153.out 3).trans rfl; have hfz47_0 := blk_frozen BK153.out 0; have hfz47_1 := blk_frozen BK153.out 1; have hfz47_2 := blk_frozen BK153.out 2; have hfz47_3 := blk_frozen BK153.out 3))
           replace HO2 := Aside0.mk (Kd.R_drew HO2.out)
           replace BK153 := Aside0.mk (blk_drew BK153.out)
           replace HK := Aside0.mk (Kept.drew HK.out)
           replace HB := Aside0.mk (below_drew1 HB.out)
           obtain ⟨Ao49, co49, eo49⟩ := Kd.R_slice HO2.out
           (first | subst eo49 | (injection eo49 with f1_ f2_ f3_; have f4_ := f1_.symm; have f5_ := f3_.symm; clear f1_ f2_ f3_; subst f4_; subst f5_))
           have p161 : 0 ≤ (a0_2 : Int) := dT
           have q161 : a0_2 < (l2.length : Int) := dT
           obtain ⟨ad161, e161, hx161_0⟩ := Kd.at_int (Kd.R_reads' HO2.out).2.2 a0_2 p161 q161
           cases e161
           replace p161 := eq_true p161
           replace q161 := eq_true q161
           have p162 : 0 ≤ (a0_3 : Int) := dT
           have q162 : a0_3 < (l2.length : Int) := dT
           obtain ⟨ad162, e162, hx162_0⟩ := Kd.at_int (Kd.R_reads' HO2.out).2.2 a0_3 p162 q162
           obtain rfl : ad161 = ad162 := (by injection e162)
           replace p162 := eq_true p162
           replace q162 := eq_true q162
           refine start_ (n := 16) (S := fun w' => w'.cell? ⟨gb153, 0, none⟩ = some (.int .i64 a0_0) ∧ w'.cell? ⟨gb153, 1, none⟩ = some (.int .i64 a0_1) ∧ w'.cell? ⟨gb153, 2, none⟩ = some (.int .i64 a0_2) ∧ w'.cell? ⟨gb153, 3, none⟩ = some (.int .i64 a0_3) ∧ w'.cell? (ad161.add (a0_2).toNat) = some (.int .i64 (rd l2 a0_2)) ∧ w'.cell? (ad161.add (a0_3).toNat) = some (.int .i64 (rd l2 a0_3))) (ds := [15]) #[false,false,false,false,false,false,false,false,false,false,false,false,false,false,false,false] (by kernel_rfl) rfl rfl ⟨(blk_cell BK153.out 0).trans rfl, (blk_cell BK153.out 1).trans rfl, (blk_cell BK153.out 2).trans rfl, (blk_cell BK153.out 3).trans rfl, hx161_0, hx162_0⟩ (fun hHeld => ?_); refine with_tabW impl_apply.tab9 impl_apply.bits9 (fun HT_ HW_ => ?_)
           generalize w46.drew = w48 at HO2 BK153 HK HB hx161_0 hx162_0 hHeld ⊢
           refine pU 0 46 (v := ?_) (a' := ?_) #[Y,Z,Z,Z,Z,Z,Z,Z,Z,Z,Z,Z,Z,Z,Z,Z] HT_ rfl rfl (by kernel_rfl) ?_ ?_ ?_;rotate_left;(intro w';go_simp;with_reducible rfl);rotate_left;(simp only [Act.put, sA, s0, sN, i64_w, i32_w];rfl)
           refine pU 1 47 (v := ?_) (a' := ?_) #[Y,Y,Z,Z,Z,Z,Z,Z,Z,Z,Z,Z,Z,Z,Z,Z] HT_ rfl rfl (by kernel_rfl) ?_ ?_ ?_;rotate_left;(intro w';go_simp;with_reducible rfl);rotate_left;(simp only [Act.put, sA, s0, sN, i64_w, i32_w];rfl)
           refine pU 3 49 (v := ?_) (a' := ?_) #[Y,Y,Z,Y,Z,Z,Z,Z,Z,Z,Z,Z,Z,Z,Z,Z] HT_ rfl rfl (by kernel_rfl) ?_ ?_ ?_;rotate_left;(intro w';go_simp;with_reducible rfl);rotate_left;(simp only [Act.put, sA, s0, sN, i64_w, i32_w];rfl)
           refine pU 4 50 (v := ?_) (a' := ?_) #[Y,Y,Z,Y,Y,Z,Z,Z,Z,Z,Z,Z,Z,Z,Z,Z] HT_ rfl rfl (by kernel_rfl) ?_ ?_ ?_;rotate_left;(intro w';go_simp;with_reducible rfl);rotate_left;(simp only [Act.put, sA, s0, sN, i64_w, i32_w];rfl)
           refine pU 8 54 (v := ?_) (a' := ?_) #[Y,Y,Z,Y,Y,Z,Z,Z,Y,Z,Z,Z,Z,Z,Z,Z] HT_ rfl rfl (by kernel_rfl) ?_ ?_ ?_;rotate_left;(intro w';go_simp;with_reducible rfl);rotate_left;(simp only [Act.put, sA, s0, sN, i64_w, i32_w];rfl)
           refine pU 9 55 (v := ?_) (a' := ?_) #[Y,Y,Z,Y,Y,Z,Z,Z,Y,Y,Z,Z,Z,Z,Z,Z] HT_ rfl rfl (by kernel_rfl) ?_ ?_ ?_;rotate_left;(intro w';go_simp;with_reducible rfl);rotate_left;(simp only [Act.put, sA, s0, sN, i64_w, i32_w];rfl)
           refine take_ (i := 2) (N := some 48) (v := ?_) (a' := ?_) #[Y,Y,Y,Y,Y,Z,Z,Z,Y,Y,Z,Z,Z,Z,Z,Z] rfl rfl (take_ofW HT_.out HW_.out (by kernel_rfl)) (fun _ _ _ h => h) (Or.inl ⟨by rfl, ?_⟩) hHeld ?_ ?_
           rotate_left
           ·rintro w' ⟨s0, s1, s2, s3, s4, s5⟩
            go_simp
            with_reducible rfl
           rotate_left
           ·simp only [Act.put, sA, s0, sN, i64_w, i32_w]
            rfl
           refine take_ (i := 5) (N := some 51) (v := ?_) (a' := ?_) #[Y,Y,Y,Y,Y,Y,Z,Z,Y,Y,Z,Z,Z,Z,Z,Z] rfl rfl (take_ofW HT_.out HW_.out (by kernel_rfl)) (fun _ _ _ h => h) (Or.inl ⟨by rfl, ?_⟩) hHeld ?_ ?_
           rotate_left
           ·rintro w' ⟨s0, s1, s2, s3, s4, s5⟩
            go_simp
            with_reducible rfl
           rotate_left
           ·simp only [Act.put, sA, s0, sN, i64_w, i32_w]
            rfl
           refine pU 6 52 (v := ?_) (a' := ?_) #[Y,Y,Y,Y,Y,Y,Y,Z,Y,Y,Z,Z,Z,Z,Z,Z] HT_ rfl rfl (by kernel_rfl) ?_ ?_ ?_;rotate_left;(intro w';go_simp;with_reducible rfl);rotate_left;(simp only [Act.put, sA, s0, sN, i64_w, i32_w];rfl)
           refine take_ (i := 7) (N := some 53) (v := ?_) (a' := ?_) #[Y,Y,Y,Y,Y,Y,Y,Y,Y,Y,Z,Z,Z,Z,Z,Z] rfl rfl (take_ofW HT_.out HW_.out (by kernel_rfl)) (fun _ _ _ h => h) (Or.inl ⟨by rfl, ?_⟩) hHeld ?_ ?_
           rotate_left
           ·rintro w' ⟨s0, s1, s2, s3, s4, s5⟩
            go_simp
            with_reducible rfl
           rotate_left
           ·simp only [Act.put, sA, s0, sN, i64_w, i32_w]
            rfl
           refine take_ (i := 10) (N := some 56) (v := ?_) (a' := ?_) #[Y,Y,Y,Y,Y,Y,Y,Y,Y,Y,Y,Z,Z,Z,Z,Z] rfl rfl (take_ofW HT_.out HW_.out (by kernel_rfl)) (fun _ _ _ h => h) (Or.inl ⟨by rfl, ?_⟩) hHeld ?_ ?_
           rotate_left
           ·rintro w' ⟨s0, s1, s2, s3, s4, s5⟩
            go_simp
            with_reducible rfl
           rotate_left
           ·simp only [Act.put, sA, s0, sN, i64_w, i32_w]
            rfl
           refine pU 11 57 (v := ?_) (a' := ?_) #[Y,Y,Y,Y,Y,Y,Y,Y,Y,Y,Y,Y,Z,Z,Z,Z] HT_ rfl rfl (by kernel_rfl) ?_ ?_ ?_;rotate_left;(intro w';go_simp;with_reducible rfl);rotate_left;(simp only [Act.put, sA, s0, sN, i64_w, i32_w];rfl)
           refine take_ (i := 12) (N := some 58) (v := ?_) (a' := ?_) #[Y,Y,Y,Y,Y,Y,Y,Y,Y,Y,Y,Y,Y,Z,Z,Z] rfl rfl (take_ofW HT_.out HW_.out (by kernel_rfl)) (fun _ _ _ h => h) (Or.inl ⟨by rfl, ?_⟩) hHeld ?_ ?_
           rotate_left
           ·rintro w' ⟨s0, s1, s2, s3, s4, s5⟩
            go_simp
            with_reducible rfl
           rotate_left
           ·simp only [Act.put, sA, s0, sN, i64_w, i32_w]
            rfl
           refine one_ (i := 13) (N := some 59) #[Y,Y,Y,Y,Y,Y,Y,Y,Y,Y,Y,Y,Y,Y,Z,Z] rfl rfl (one_of HT_.out (by kernel_rfl)) (by decide) (fun K hK => ?_)
           refine goes_ Try.func108 (by kernel_rfl) rfl #[.int .i64 (rd l2 a0_2), .int .i64 (rd l2 a0_3)] (by rfl) rfl rfl bz ?_
           with_reducible refine (impl_SubWords.calls (rd l2 a0_2) (rd l2 a0_3) t163 _ A42.out).mono ?_
           rintro e w' ⟨rfl, ⟨nd, rfl⟩⟩
           refine ⟨_, rfl, ?_⟩
           have p45 : 0 ≤ (a0_1 : Int) := dT
           have q45 : (a0_1 : Int) < ((l2.length : Int) : Int) := dT
           obtain ⟨go45, co45, eo45, gb45, gl45, cl45, HG45⟩ := Kd.R_form HO2.out (by omega)
           (first | cases eo45 | (injection eo45 with ea_ en_ ec_; (first | subst ea_ | (injection ea_ with ea_; subst ea_)); subst ec_; clear en_))
           have GB45 := Aside0.mk gb45
           have GG45 := Aside0.mk HG45
           clear gb45 gl45 HG45
           have HMgo45 := Aside0.mk (show (P2_ go45 ∨ w.heap.size ≤ go45) from (HO2.out.1 _ rfl))
           (first | simp only [add_plain] at hx161_0 | skip)
           (first | simp only [add_plain] at hx162_0 | skip)
           obtain ⟨hx45_0, hf45_0⟩ := Kd.R_celln 0 HO2.out (a0_1 : Int) p45 q45
           replace p45 := eq_true p45
           replace q45 := eq_true q45
           have HP50 := Kd.R_putn HO2.out (a0_1 : Int) t163
           rw [← Ny164.out] at HP50
           have HQ50 := Aside0.mk HP50
           clear HP50
           refine hK.out _ _ ⟨(blk_cell BK153.out 0).trans rfl, (blk_cell BK153.out 1).trans rfl, (blk_cell BK153.out 2).trans rfl, (blk_cell BK153.out 3).trans rfl, hHeld.2.2.2.2.1, hHeld.2.2.2.2.2⟩ (fun hHeld => ?_)
           clear hK K
           refine norm_ (a' := ?_) ?_ ?_
           rotate_left
           ·show Act.put _ (some 59) _ = _
            simp only [Act.put, sA, s0, sN, i64_w, i32_w]
            rfl
           refine pU 14 60 (v := ?_) (a' := ?_) #[Y,Y,Y,Y,Y,Y,Y,Y,Y,Y,Y,Y,Y,Y,Y,Z] HT_ rfl rfl (by kernel_rfl) ?_ ?_ ?_;rotate_left;(intro w';go_simp;with_reducible rfl);rotate_left;(simp only [Act.put, sA, s0, sN, i64_w, i32_w];rfl)
           refine last_ (i := 15) (N := none) #[Y,Y,Y,Y,Y,Y,Y,Y,Y,Y,Y,Y,Y,Y,Y,Y] rfl rfl (one_of HT_.out (by kernel_rfl)) (by decide) (fun K hK => ?_)
           refine skip_ (w1 := ?_) (by rfl) rfl ?_ ?_
           rotate_left
           ·go_simp
            rfl
           refine hK.out _ _ ?_
           clear hK K
           refine done_ (done_of HT_.out (by kernel_rfl)) ?_
           try go_wp2
           first | go_end0 | ((try simp only [Exit.inBlock, Exit.then]); refine bodyPost_ret (results_none rfl _ _ _) rfl ?_)
           exact ⟨eR, rS HQ50.out, bx, by repeat (first | (with_reducible first | exact HK.out | apply Kept.alloc | apply Kept.drewN | apply Kept.drew | refine Kept.setCell ?_ HMgo45.out _ | refine Kept.setCell ?_ (.inr GW153.out) _) | exact HK.out)⟩
          ·rw [if_neg c44] at H
           exact absurd H (by simp)
         ·rw [if_neg c43] at H
          exact absurd H (by simp)
        ·rw [if_neg c41] at H
         exact absurd H (by simp)
       ·rw [if_neg c40] at H
        exact absurd H (by simp)
      ·rw [if_neg c39] at H
       exact absurd H (by simp)
     ·rw [if_neg c38] at H
      exact absurd H (by simp)
    ·rw [if_neg c37] at H
     have c37b0 : (a0_0 == 4) = false := beq_eq_false_iff_ne.mpr c37
     have c37b1 : (a0_0 != 4) = true := bne_iff_ne.mpr c37
     by_cases c51 : a0_0 = 5
     ·rw [if_pos c51] at H
      have c51b0 : (a0_0 == 5) = true := beq_iff_eq.mpr c51
      have c51b1 : (a0_0 != 5) = false := bne_eq_false_iff_eq.mpr c51
      clear c51
      by_cases c52 : 0 ≤ a0_2
      ·rw [if_pos c52] at H
       have c52b0 : decide (0 ≤ a0_2) = true := decide_eq_true c52
       clear c52
       by_cases c53 : a0_2 < (l2.length : Int)
       ·rw [if_pos c53] at H
        have c53b0 : decide (a0_2 < (l2.length : Int)) = true := decide_eq_true c53
        clear c53
        by_cases c54 : 0 ≤ a0_3
        ·rw [if_pos c54] at H
         have c54b0 : decide (0 ≤ a0_3) = true := decide_eq_true c54
         clear c54
         by_cases c55 : a0_3 < (l2.length : Int)
         ·rw [if_pos c55] at H
          have c55b0 : decide (a0_3 < (l2.length : Int)) = true := decide_eq_true c55
          clear c55
          replace H := Option.bind_eq_some_iff.mp H
          obtain ⟨t167, A560, H⟩ := H
          replace H : (if 0 ≤ a0_1 then (if a0_1 < (l2.length : Int) then (some (l2.set (a0_1 : Int).toNat t167)) else (none)) else (none)) = some r := H
          have A56 := Aside0.mk A560
          clear A560
          by_cases c57 : 0 ≤ a0_1
          ·rw [if_pos c57] at H
           have c57b0 : decide (0 ≤ a0_1) = true := decide_eq_true c57
           clear c57
           by_cases c58 : a0_1 < (l2.length : Int)
           ·rw [if_pos c58] at H
            have c58b0 : decide (a0_1 < (l2.length : Int)) = true := decide_eq_true c58
            clear c58
            obtain ⟨y168, hy168⟩ : ∃ y_ : List Int, y_ = (l2.set (a0_1 : Int).toNat t167) := ⟨_, rfl⟩
            replace H : (some y168) = some r := rP hy168 H
            have Ny168 := Aside0.mk hy168
            clear hy168
            obtain rfl := Option.some.inj H
            go_enter Try.func68, Try.ntmps68
            try go_wp2_with (first | ((with_reducible refine gate_dst (N := 3) rfl ?_); refine box_event ?hg (N := 3) ?hd (cs := #[.int .i64 a0_0, .int .i64 a0_1, .int .i64 a0_2, .int .i64 a0_3]) (t := 43) ?hr ?_; (case hd => rfl); (case hg => rfl); (case hr => first | (go_simp; done) | (go_simp; rfl)); intro gb153 hg w60 hbox hb; replace HO2 := Aside0.mk (Kd.R_below (rS HO2.out) hb); have BK153 := Aside0.mk (hbox); have GW153 := Aside0.mk ((by rw [hg]; exact (by first | exact HK.out.1 | exact (show Kept w _ (fun k_ => P2_ k_) from by repeat (first | (with_reducible first | exact HK.out | apply Kept.alloc | apply Kept.drewN | apply Kept.drew) | exact HK.out)).1) : w.heap.size ≤ gb153)); replace HK := Aside0.mk (Kept.below (S := (fun k_ => P2_ k_)) (by repeat (first | (with_reducible first | exact HK.out | apply Kept.alloc | apply Kept.drewN | apply Kept.drew) | exact HK.out)) hb); have GE153 := Aside0.mk ((by rw [hg]; exact (below_size bw) : w0.heap.size ≤ gb153)); replace HB := Aside0.mk (below_step bw hb); clear hb hbox hg; have hcz61_0 : w60.cell? ⟨gb153, 0, none⟩ = some (.int .i64 a0_0) := (blk_cell BK153.out 0).trans rfl; have hcz61_1 : w60.cell? ⟨gb153, 1, none⟩ = some (.int .i64 a0_1) := (blk_cell BK153.out 1).trans rfl; have hcz61_2 : w60.cell? ⟨gb153, 2, none⟩ = some (.int .i64 a0_2) := (blk_cell BK153.out 2).trans rfl; have hcz61_3 : w60.cell? ⟨gb153, 3, none⟩ = some (.int .i64 a0_3) := (blk_cell BK153.out 3).trans rfl; have hfz61_0 := blk_frozen BK153.out 0; have hfz61_1 := blk_frozen BK153.out 1; have hfz61_2 := blk_frozen BK153.out 2; have hfz61_3 := blk_frozen BK153.out 3))
            replace HO2 := Aside0.mk (Kd.R_drew HO2.out)
            replace BK153 := Aside0.mk (blk_drew BK153.out)
            replace HK := Aside0.mk (Kept.drew HK.out)
            replace HB := Aside0.mk (below_drew1 HB.out)
            obtain ⟨Ao63, co63, eo63⟩ := Kd.R_slice HO2.out
            (first | subst eo63 | (injection eo63 with f1_ f2_ f3_; have f4_ := f1_.symm; have f5_ := f3_.symm; clear f1_ f2_ f3_; subst f4_; subst f5_))
            have p165 : 0 ≤ (a0_2 : Int) := dT
            have q165 : a0_2 < (l2.length : Int) := dT
            obtain ⟨ad165, e165, hx165_0⟩ := Kd.at_int (Kd.R_reads' HO2.out).2.2 a0_2 p165 q165
            cases e165
            replace p165 := eq_true p165
            replace q165 := eq_true q165
            have p166 : 0 ≤ (a0_3 : Int) := dT
            have q166 : a0_3 < (l2.length : Int) := dT
            obtain ⟨ad166, e166, hx166_0⟩ := Kd.at_int (Kd.R_reads' HO2.out).2.2 a0_3 p166 q166
            obtain rfl : ad165 = ad166 := (by injection e166)
            replace p166 := eq_true p166
            replace q166 := eq_true q166
            refine start_ (n := 16) (S := fun w' => w'.cell? ⟨gb153, 0, none⟩ = some (.int .i64 a0_0) ∧ w'.cell? ⟨gb153, 1, none⟩ = some (.int .i64 a0_1) ∧ w'.cell? ⟨gb153, 2, none⟩ = some (.int .i64 a0_2) ∧ w'.cell? ⟨gb153, 3, none⟩ = some (.int .i64 a0_3) ∧ w'.cell? (ad165.add (a0_2).toNat) = some (.int .i64 (rd l2 a0_2)) ∧ w'.cell? (ad165.add (a0_3).toNat) = some (.int .i64 (rd l2 a0_3))) (ds := [15]) #[false,false,false,false,false,false,false,false,false,false,false,false,false,false,false,false] (by kernel_rfl) rfl rfl ⟨(blk_cell BK153.out 0).trans rfl, (blk_cell BK153.out 1).trans rfl, (blk_cell BK153.out 2).trans rfl, (blk_cell BK153.out 3).trans rfl, hx165_0, hx166_0⟩ (fun hHeld => ?_); refine with_tabW impl_apply.tab11 impl_apply.bits11 (fun HT_ HW_ => ?_)
            generalize w60.drew = w62 at HO2 BK153 HK HB hx165_0 hx166_0 hHeld ⊢
            refine pU 0 63 (v := ?_) (a' := ?_) #[Y,Z,Z,Z,Z,Z,Z,Z,Z,Z,Z,Z,Z,Z,Z,Z] HT_ rfl rfl (by kernel_rfl) ?_ ?_ ?_;rotate_left;(intro w';go_simp;with_reducible rfl);rotate_left;(simp only [Act.put, sA, s0, sN, i64_w, i32_w];rfl)
            refine pU 1 64 (v := ?_) (a' := ?_) #[Y,Y,Z,Z,Z,Z,Z,Z,Z,Z,Z,Z,Z,Z,Z,Z] HT_ rfl rfl (by kernel_rfl) ?_ ?_ ?_;rotate_left;(intro w';go_simp;with_reducible rfl);rotate_left;(simp only [Act.put, sA, s0, sN, i64_w, i32_w];rfl)
            refine pU 3 66 (v := ?_) (a' := ?_) #[Y,Y,Z,Y,Z,Z,Z,Z,Z,Z,Z,Z,Z,Z,Z,Z] HT_ rfl rfl (by kernel_rfl) ?_ ?_ ?_;rotate_left;(intro w';go_simp;with_reducible rfl);rotate_left;(simp only [Act.put, sA, s0, sN, i64_w, i32_w];rfl)
            refine pU 4 67 (v := ?_) (a' := ?_) #[Y,Y,Z,Y,Y,Z,Z,Z,Z,Z,Z,Z,Z,Z,Z,Z] HT_ rfl rfl (by kernel_rfl) ?_ ?_ ?_;rotate_left;(intro w';go_simp;with_reducible rfl);rotate_left;(simp only [Act.put, sA, s0, sN, i64_w, i32_w];rfl)
            refine pU 8 71 (v := ?_) (a' := ?_) #[Y,Y,Z,Y,Y,Z,Z,Z,Y,Z,Z,Z,Z,Z,Z,Z] HT_ rfl rfl (by kernel_rfl) ?_ ?_ ?_;rotate_left;(intro w';go_simp;with_reducible rfl);rotate_left;(simp only [Act.put, sA, s0, sN, i64_w, i32_w];rfl)
            refine pU 9 72 (v := ?_) (a' := ?_) #[Y,Y,Z,Y,Y,Z,Z,Z,Y,Y,Z,Z,Z,Z,Z,Z] HT_ rfl rfl (by kernel_rfl) ?_ ?_ ?_;rotate_left;(intro w';go_simp;with_reducible rfl);rotate_left;(simp only [Act.put, sA, s0, sN, i64_w, i32_w];rfl)
            refine take_ (i := 2) (N := some 65) (v := ?_) (a' := ?_) #[Y,Y,Y,Y,Y,Z,Z,Z,Y,Y,Z,Z,Z,Z,Z,Z] rfl rfl (take_ofW HT_.out HW_.out (by kernel_rfl)) (fun _ _ _ h => h) (Or.inl ⟨by rfl, ?_⟩) hHeld ?_ ?_
            rotate_left
            ·rintro w' ⟨s0, s1, s2, s3, s4, s5⟩
             go_simp
             with_reducible rfl
            rotate_left
            ·simp only [Act.put, sA, s0, sN, i64_w, i32_w]
             rfl
            refine take_ (i := 5) (N := some 68) (v := ?_) (a' := ?_) #[Y,Y,Y,Y,Y,Y,Z,Z,Y,Y,Z,Z,Z,Z,Z,Z] rfl rfl (take_ofW HT_.out HW_.out (by kernel_rfl)) (fun _ _ _ h => h) (Or.inl ⟨by rfl, ?_⟩) hHeld ?_ ?_
            rotate_left
            ·rintro w' ⟨s0, s1, s2, s3, s4, s5⟩
             go_simp
             with_reducible rfl
            rotate_left
            ·simp only [Act.put, sA, s0, sN, i64_w, i32_w]
             rfl
            refine pU 6 69 (v := ?_) (a' := ?_) #[Y,Y,Y,Y,Y,Y,Y,Z,Y,Y,Z,Z,Z,Z,Z,Z] HT_ rfl rfl (by kernel_rfl) ?_ ?_ ?_;rotate_left;(intro w';go_simp;with_reducible rfl);rotate_left;(simp only [Act.put, sA, s0, sN, i64_w, i32_w];rfl)
            refine take_ (i := 7) (N := some 70) (v := ?_) (a' := ?_) #[Y,Y,Y,Y,Y,Y,Y,Y,Y,Y,Z,Z,Z,Z,Z,Z] rfl rfl (take_ofW HT_.out HW_.out (by kernel_rfl)) (fun _ _ _ h => h) (Or.inl ⟨by rfl, ?_⟩) hHeld ?_ ?_
            rotate_left
            ·rintro w' ⟨s0, s1, s2, s3, s4, s5⟩
             go_simp
             with_reducible rfl
            rotate_left
            ·simp only [Act.put, sA, s0, sN, i64_w, i32_w]
             rfl
            refine take_ (i := 10) (N := some 73) (v := ?_) (a' := ?_) #[Y,Y,Y,Y,Y,Y,Y,Y,Y,Y,Y,Z,Z,Z,Z,Z] rfl rfl (take_ofW HT_.out HW_.out (by kernel_rfl)) (fun _ _ _ h => h) (Or.inl ⟨by rfl, ?_⟩) hHeld ?_ ?_
            rotate_left
            ·rintro w' ⟨s0, s1, s2, s3, s4, s5⟩
             go_simp
             with_reducible rfl
            rotate_left
            ·simp only [Act.put, sA, s0, sN, i64_w, i32_w]
             rfl
            refine pU 11 74 (v := ?_) (a' := ?_) #[Y,Y,Y,Y,Y,Y,Y,Y,Y,Y,Y,Y,Z,Z,Z,Z] HT_ rfl rfl (by kernel_rfl) ?_ ?_ ?_;rotate_left;(intro w';go_simp;with_reducible rfl);rotate_left;(simp only [Act.put, sA, s0, sN, i64_w, i32_w];rfl)
            refine take_ (i := 12) (N := some 75) (v := ?_) (a' := ?_) #[Y,Y,Y,Y,Y,Y,Y,Y,Y,Y,Y,Y,Y,Z,Z,Z] rfl rfl (take_ofW HT_.out HW_.out (by kernel_rfl)) (fun _ _ _ h => h) (Or.inl ⟨by rfl, ?_⟩) hHeld ?_ ?_
            rotate_left
            ·rintro w' ⟨s0, s1, s2, s3, s4, s5⟩
             go_simp
             with_reducible rfl
            rotate_left
            ·simp only [Act.put, sA, s0, sN, i64_w, i32_w]
             rfl
            refine one_ (i := 13) (N := some 76) #[Y,Y,Y,Y,Y,Y,Y,Y,Y,Y,Y,Y,Y,Y,Z,Z] rfl rfl (one_of HT_.out (by kernel_rfl)) (by decide) (fun K hK => ?_)
            refine goes_ Try.func109 (by kernel_rfl) rfl #[.int .i64 (rd l2 a0_2), .int .i64 (rd l2 a0_3)] (by rfl) rfl rfl bz ?_
            with_reducible refine (impl_MulWords.calls (rd l2 a0_2) (rd l2 a0_3) t167 _ A56.out).mono ?_
            rintro e w' ⟨rfl, ⟨nd, rfl⟩⟩
            refine ⟨_, rfl, ?_⟩
            have p59 : 0 ≤ (a0_1 : Int) := dT
            have q59 : (a0_1 : Int) < ((l2.length : Int) : Int) := dT
            obtain ⟨go59, co59, eo59, gb59, gl59, cl59, HG59⟩ := Kd.R_form HO2.out (by omega)
            (first | cases eo59 | (injection eo59 with ea_ en_ ec_; (first | subst ea_ | (injection ea_ with ea_; subst ea_)); subst ec_; clear en_))
            have GB59 := Aside0.mk gb59
            have GG59 := Aside0.mk HG59
            clear gb59 gl59 HG59
            have HMgo59 := Aside0.mk (show (P2_ go59 ∨ w.heap.size ≤ go59) from (HO2.out.1 _ rfl))
            (first | simp only [add_plain] at hx165_0 | skip)
            (first | simp only [add_plain] at hx166_0 | skip)
            obtain ⟨hx59_0, hf59_0⟩ := Kd.R_celln 0 HO2.out (a0_1 : Int) p59 q59
            replace p59 := eq_true p59
            replace q59 := eq_true q59
            have HP64 := Kd.R_putn HO2.out (a0_1 : Int) t167
            rw [← Ny168.out] at HP64
            have HQ64 := Aside0.mk HP64
            clear HP64
            refine hK.out _ _ ⟨(blk_cell BK153.out 0).trans rfl, (blk_cell BK153.out 1).trans rfl, (blk_cell BK153.out 2).trans rfl, (blk_cell BK153.out 3).trans rfl, hHeld.2.2.2.2.1, hHeld.2.2.2.2.2⟩ (fun hHeld => ?_)
            clear hK K
            refine norm_ (a' := ?_) ?_ ?_
            rotate_left
            ·show Act.put _ (some 76) _ = _
             simp only [Act.put, sA, s0, sN, i64_w, i32_w]
             rfl
            refine pU 14 77 (v := ?_) (a' := ?_) #[Y,Y,Y,Y,Y,Y,Y,Y,Y,Y,Y,Y,Y,Y,Y,Z] HT_ rfl rfl (by kernel_rfl) ?_ ?_ ?_;rotate_left;(intro w';go_simp;with_reducible rfl);rotate_left;(simp only [Act.put, sA, s0, sN, i64_w, i32_w];rfl)
            refine last_ (i := 15) (N := none) #[Y,Y,Y,Y,Y,Y,Y,Y,Y,Y,Y,Y,Y,Y,Y,Y] rfl rfl (one_of HT_.out (by kernel_rfl)) (by decide) (fun K hK => ?_)
            refine skip_ (w1 := ?_) (by rfl) rfl ?_ ?_
            rotate_left
            ·go_simp
             rfl
            refine hK.out _ _ ?_
            clear hK K
            refine done_ (done_of HT_.out (by kernel_rfl)) ?_
            try go_wp2
            first | go_end0 | ((try simp only [Exit.inBlock, Exit.then]); refine bodyPost_ret (results_none rfl _ _ _) rfl ?_)
            exact ⟨eR, rS HQ64.out, bx, by repeat (first | (with_reducible first | exact HK.out | apply Kept.alloc | apply Kept.drewN | apply Kept.drew | refine Kept.setCell ?_ HMgo59.out _ | refine Kept.setCell ?_ (.inr GW153.out) _) | exact HK.out)⟩
           ·rw [if_neg c58] at H
            exact absurd H (by simp)
          ·rw [if_neg c57] at H
           exact absurd H (by simp)
         ·rw [if_neg c55] at H
          exact absurd H (by simp)
        ·rw [if_neg c54] at H
         exact absurd H (by simp)
       ·rw [if_neg c53] at H
        exact absurd H (by simp)
      ·rw [if_neg c52] at H
       exact absurd H (by simp)
     ·rw [if_neg c51] at H
      have c51b0 : (a0_0 == 5) = false := beq_eq_false_iff_ne.mpr c51
      have c51b1 : (a0_0 != 5) = true := bne_iff_ne.mpr c51
      by_cases c65 : a0_0 = 6
      ·rw [if_pos c65] at H
       have c65b0 : (a0_0 == 6) = true := beq_iff_eq.mpr c65
       have c65b1 : (a0_0 != 6) = false := bne_eq_false_iff_eq.mpr c65
       clear c65
       by_cases c66 : 0 ≤ a0_2
       ·rw [if_pos c66] at H
        have c66b0 : decide (0 ≤ a0_2) = true := decide_eq_true c66
        clear c66
        by_cases c67 : a0_2 < (l2.length : Int)
        ·rw [if_pos c67] at H
         have c67b0 : decide (a0_2 < (l2.length : Int)) = true := decide_eq_true c67
         clear c67
         by_cases c68 : 0 ≤ a0_3
         ·rw [if_pos c68] at H
          have c68b0 : decide (0 ≤ a0_3) = true := decide_eq_true c68
          clear c68
          by_cases c69 : a0_3 < (l2.length : Int)
          ·rw [if_pos c69] at H
           have c69b0 : decide (a0_3 < (l2.length : Int)) = true := decide_eq_true c69
           clear c69
           by_cases c70 : 0 ≤ a0_1
           ·rw [if_pos c70] at H
            have c70b0 : decide (0 ≤ a0_1) = true := decide_eq_true c70
            clear c70
            by_cases c71 : a0_1 < (l2.length : Int)
            ·rw [if_pos c71] at H
             have c71b0 : decide (a0_1 < (l2.length : Int)) = true := decide_eq_true c71
             clear c71
             obtain ⟨y171, hy171⟩ : ∃ y_ : List Int, y_ = (l2.set (a0_1 : Int).toNat (Go.bits .xor .i64 (rd l2 a0_2) (rd l2 a0_3))) := ⟨_, rfl⟩
             replace H : (some y171) = some r := rP hy171 H
             have Ny171 := Aside0.mk hy171
             clear hy171
             obtain rfl := Option.some.inj H
             go_enter Try.func68, Try.ntmps68
             try go_wp2_with (first | ((with_reducible refine gate_dst (N := 3) rfl ?_); refine box_event ?hg (N := 3) ?hd (cs := #[.int .i64 a0_0, .int .i64 a0_1, .int .i64 a0_2, .int .i64 a0_3]) (t := 43) ?hr ?_; (case hd => rfl); (case hg => rfl); (case hr => first | (go_simp; done) | (go_simp; rfl)); intro gb153 hg w73 hbox hb; replace HO2 := Aside0.mk (Kd.R_below (rS HO2.out) hb); have BK153 := Aside0.mk (hbox); have GW153 := Aside0.mk ((by rw [hg]; exact (by first | exact HK.out.1 | exact (show Kept w _ (fun k_ => P2_ k_) from by repeat (first | (with_reducible first | exact HK.out | apply Kept.alloc | apply Kept.drewN | apply Kept.drew) | exact HK.out)).1) : w.heap.size ≤ gb153)); replace HK := Aside0.mk (Kept.below (S := (fun k_ => P2_ k_)) (by repeat (first | (with_reducible first | exact HK.out | apply Kept.alloc | apply Kept.drewN | apply Kept.drew) | exact HK.out)) hb); have GE153 := Aside0.mk ((by rw [hg]; exact (below_size bw) : w0.heap.size ≤ gb153)); replace HB := Aside0.mk (below_step bw hb); clear hb hbox hg; have hcz74_0 : w73.cell? ⟨gb153, 0, none⟩ = some (.int .i64 a0_0) := (blk_cell BK153.out 0).trans rfl; have hcz74_1 : w73.cell? ⟨gb153, 1, none⟩ = some (.int .i64 a0_1) := (blk_cell BK153.out 1).trans rfl; have hcz74_2 : w73.cell? ⟨gb153, 2, none⟩ = some (.int .i64 a0_2) := (blk_cell BK153.out 2).trans rfl; have hcz74_3 : w73.cell? ⟨gb153, 3, none⟩ = some (.int .i64 a0_3) := (blk_cell BK153.out 3).trans rfl; have hfz74_0 := blk_frozen BK153.out 0; have hfz74_1 := blk_frozen BK153.out 1; have hfz74_2 := blk_frozen BK153.out 2; have hfz74_3 := blk_frozen BK153.out 3))
             replace HO2 := Aside0.mk (Kd.R_drew HO2.out)
             replace BK153 := Aside0.mk (blk_drew BK153.out)
             replace HK := Aside0.mk (Kept.drew HK.out)
             replace HB := Aside0.mk (below_drew1 HB.out)
             obtain ⟨Ao76, co76, eo76⟩ := Kd.R_slice HO2.out
             (first | subst eo76 | (injection eo76 with f1_ f2_ f3_; have f4_ := f1_.symm; have f5_ := f3_.symm; clear f1_ f2_ f3_; subst f4_; subst f5_))
             have p169 : 0 ≤ (a0_2 : Int) := dT
             have q169 : a0_2 < (l2.length : Int) := dT
             obtain ⟨ad169, e169, hx169_0⟩ := Kd.at_int (Kd.R_reads' HO2.out).2.2 a0_2 p169 q169
             cases e169
             replace p169 := eq_true p169
             replace q169 := eq_true q169
             have p170 : 0 ≤ (a0_3 : Int) := dT
             have q170 : a0_3 < (l2.length : Int) := dT
             obtain ⟨ad170, e170, hx170_0⟩ := Kd.at_int (Kd.R_reads' HO2.out).2.2 a0_3 p170 q170
             obtain rfl : ad169 = ad170 := (by injection e170)
             replace p170 := eq_true p170
             replace q170 := eq_true q170
             have p72 : 0 ≤ (a0_1 : Int) := dT
             have q72 : (a0_1 : Int) < ((l2.length : Int) : Int) := dT
             obtain ⟨go72, co72, eo72, gb72, gl72, cl72, HG72⟩ := Kd.R_form HO2.out (by omega)
             (first | cases eo72 | (injection eo72 with ea_ en_ ec_; (first | subst ea_ | (injection ea_ with ea_; subst ea_)); subst ec_; clear en_))
             have GB72 := Aside0.mk gb72
             have GG72 := Aside0.mk HG72
             clear gb72 gl72 HG72
             have HMgo72 := Aside0.mk (show (P2_ go72 ∨ w.heap.size ≤ go72) from (HO2.out.1 _ rfl))
             (first | simp only [add_plain] at hx169_0 | skip)
             (first | simp only [add_plain] at hx170_0 | skip)
             obtain ⟨hx72_0, hf72_0⟩ := Kd.R_celln 0 HO2.out (a0_1 : Int) p72 q72
             replace p72 := eq_true p72
             replace q72 := eq_true q72
             have HP77 := Kd.R_putn HO2.out (a0_1 : Int) (Go.bits .xor .i64 (rd l2 a0_2) (rd l2 a0_3))
             rw [← Ny171.out] at HP77
             have HQ77 := Aside0.mk HP77
             clear HP77
             refine start_ (n := 16) (S := fun w' => w'.cell? ⟨gb153, 0, none⟩ = some (.int .i64 a0_0) ∧ w'.cell? ⟨gb153, 1, none⟩ = some (.int .i64 a0_1) ∧ w'.cell? ⟨gb153, 2, none⟩ = some (.int .i64 a0_2) ∧ w'.cell? ⟨gb153, 3, none⟩ = some (.int .i64 a0_3) ∧ w'.cell? ⟨go72, (a0_2).toNat, none⟩ = some (.int .i64 (rd l2 a0_2)) ∧ w'.cell? ⟨go72, (a0_3).toNat, none⟩ = some (.int .i64 (rd l2 a0_3))) (ds := [15]) #[false,false,false,false,false,false,false,false,false,false,false,false,false,false,false,false] (by kernel_rfl) rfl rfl ⟨(blk_cell BK153.out 0).trans rfl, (blk_cell BK153.out 1).trans rfl, (blk_cell BK153.out 2).trans rfl, (blk_cell BK153.out 3).trans rfl, hx169_0, hx170_0⟩ (fun hHeld => ?_); refine with_tabW impl_apply.tab13 impl_apply.bits13 (fun HT_ HW_ => ?_)
             generalize w73.drew = w75 at HO2 BK153 HK HB GG72 HQ77 hf72_0 hx169_0 hx170_0 hx72_0 hHeld ⊢
             refine pU 0 80 (v := ?_) (a' := ?_) #[Y,Z,Z,Z,Z,Z,Z,Z,Z,Z,Z,Z,Z,Z,Z,Z] HT_ rfl rfl (by kernel_rfl) ?_ ?_ ?_;rotate_left;(intro w';go_simp;with_reducible rfl);rotate_left;(simp only [Act.put, sA, s0, sN, i64_w, i32_w];rfl)
             refine pU 1 81 (v := ?_) (a' := ?_) #[Y,Y,Z,Z,Z,Z,Z,Z,Z,Z,Z,Z,Z,Z,Z,Z] HT_ rfl rfl (by kernel_rfl) ?_ ?_ ?_;rotate_left;(intro w';go_simp;with_reducible rfl);rotate_left;(simp only [Act.put, sA, s0, sN, i64_w, i32_w];rfl)
             refine pU 3 83 (v := ?_) (a' := ?_) #[Y,Y,Z,Y,Z,Z,Z,Z,Z,Z,Z,Z,Z,Z,Z,Z] HT_ rfl rfl (by kernel_rfl) ?_ ?_ ?_;rotate_left;(intro w';go_simp;with_reducible rfl);rotate_left;(simp only [Act.put, sA, s0, sN, i64_w, i32_w];rfl)
             refine pU 4 84 (v := ?_) (a' := ?_) #[Y,Y,Z,Y,Y,Z,Z,Z,Z,Z,Z,Z,Z,Z,Z,Z] HT_ rfl rfl (by kernel_rfl) ?_ ?_ ?_;rotate_left;(intro w';go_simp;with_reducible rfl);rotate_left;(simp only [Act.put, sA, s0, sN, i64_w, i32_w];rfl)
             refine pU 8 88 (v := ?_) (a' := ?_) #[Y,Y,Z,Y,Y,Z,Z,Z,Y,Z,Z,Z,Z,Z,Z,Z] HT_ rfl rfl (by kernel_rfl) ?_ ?_ ?_;rotate_left;(intro w';go_simp;with_reducible rfl);rotate_left;(simp only [Act.put, sA, s0, sN, i64_w, i32_w];rfl)
             refine pU 9 89 (v := ?_) (a' := ?_) #[Y,Y,Z,Y,Y,Z,Z,Z,Y,Y,Z,Z,Z,Z,Z,Z] HT_ rfl rfl (by kernel_rfl) ?_ ?_ ?_;rotate_left;(intro w';go_simp;with_reducible rfl);rotate_left;(simp only [Act.put, sA, s0, sN, i64_w, i32_w];rfl)
             refine take_ (i := 2) (N := some 82) (v := ?_) (a' := ?_) #[Y,Y,Y,Y,Y,Z,Z,Z,Y,Y,Z,Z,Z,Z,Z,Z] rfl rfl (take_ofW HT_.out HW_.out (by kernel_rfl)) (fun _ _ _ h => h) (Or.inl ⟨by rfl, ?_⟩) hHeld ?_ ?_
             rotate_left
             ·rintro w' ⟨s0, s1, s2, s3, s4, s5⟩
              go_simp
              with_reducible rfl
             rotate_left
             ·simp only [Act.put, sA, s0, sN, i64_w, i32_w]
              rfl
             refine take_ (i := 5) (N := some 85) (v := ?_) (a' := ?_) #[Y,Y,Y,Y,Y,Y,Z,Z,Y,Y,Z,Z,Z,Z,Z,Z] rfl rfl (take_ofW HT_.out HW_.out (by kernel_rfl)) (fun _ _ _ h => h) (Or.inl ⟨by rfl, ?_⟩) hHeld ?_ ?_
             rotate_left
             ·rintro w' ⟨s0, s1, s2, s3, s4, s5⟩
              go_simp
              with_reducible rfl
             rotate_left
             ·simp only [Act.put, sA, s0, sN, i64_w, i32_w]
              rfl
             refine pU 6 86 (v := ?_) (a' := ?_) #[Y,Y,Y,Y,Y,Y,Y,Z,Y,Y,Z,Z,Z,Z,Z,Z] HT_ rfl rfl (by kernel_rfl) ?_ ?_ ?_;rotate_left;(intro w';go_simp;with_reducible rfl);rotate_left;(simp only [Act.put, sA, s0, sN, i64_w, i32_w];rfl)
             refine take_ (i := 7) (N := some 87) (v := ?_) (a' := ?_) #[Y,Y,Y,Y,Y,Y,Y,Y,Y,Y,Z,Z,Z,Z,Z,Z] rfl rfl (take_ofW HT_.out HW_.out (by kernel_rfl)) (fun _ _ _ h => h) (Or.inl ⟨by rfl, ?_⟩) hHeld ?_ ?_
             rotate_left
             ·rintro w' ⟨s0, s1, s2, s3, s4, s5⟩
              go_simp
              with_reducible rfl
             rotate_left
             ·simp only [Act.put, sA, s0, sN, i64_w, i32_w]
              rfl
             refine take_ (i := 10) (N := some 90) (v := ?_) (a' := ?_) #[Y,Y,Y,Y,Y,Y,Y,Y,Y,Y,Y,Z,Z,Z,Z,Z] rfl rfl (take_ofW HT_.out HW_.out (by kernel_rfl)) (fun _ _ _ h => h) (Or.inl ⟨by rfl, ?_⟩) hHeld ?_ ?_
             rotate_left
             ·rintro w' ⟨s0, s1, s2, s3, s4, s5⟩
              go_simp
              with_reducible rfl
             rotate_left
             ·simp only [Act.put, sA, s0, sN, i64_w, i32_w]
              rfl
             refine pU 11 91 (v := ?_) (a' := ?_) #[Y,Y,Y,Y,Y,Y,Y,Y,Y,Y,Y,Y,Z,Z,Z,Z] HT_ rfl rfl (by kernel_rfl) ?_ ?_ ?_;rotate_left;(intro w';go_simp;with_reducible rfl);rotate_left;(simp only [Act.put, sA, s0, sN, i64_w, i32_w];rfl)
             refine take_ (i := 12) (N := some 92) (v := ?_) (a' := ?_) #[Y,Y,Y,Y,Y,Y,Y,Y,Y,Y,Y,Y,Y,Z,Z,Z] rfl rfl (take_ofW HT_.out HW_.out (by kernel_rfl)) (fun _ _ _ h => h) (Or.inl ⟨by rfl, ?_⟩) hHeld ?_ ?_
             rotate_left
             ·rintro w' ⟨s0, s1, s2, s3, s4, s5⟩
              go_simp
              with_reducible rfl
             rotate_left
             ·simp only [Act.put, sA, s0, sN, i64_w, i32_w]
              rfl
             refine pU 13 93 (v := ?_) (a' := ?_) #[Y,Y,Y,Y,Y,Y,Y,Y,Y,Y,Y,Y,Y,Y,Z,Z] HT_ rfl rfl (by kernel_rfl) ?_ ?_ ?_;rotate_left;(intro w';go_simp;with_reducible rfl);rotate_left;(simp only [Act.put, sA, s0, sN, i64_w, i32_w];rfl)
             refine pU 14 94 (v := ?_) (a' := ?_) #[Y,Y,Y,Y,Y,Y,Y,Y,Y,Y,Y,Y,Y,Y,Y,Z] HT_ rfl rfl (by kernel_rfl) ?_ ?_ ?_;rotate_left;(intro w';go_simp;with_reducible rfl);rotate_left;(simp only [Act.put, sA, s0, sN, i64_w, i32_w];rfl)
             refine last_ (i := 15) (N := none) #[Y,Y,Y,Y,Y,Y,Y,Y,Y,Y,Y,Y,Y,Y,Y,Y] rfl rfl (one_of HT_.out (by kernel_rfl)) (by decide) (fun K hK => ?_)
             refine skip_ (w1 := ?_) (by rfl) rfl ?_ ?_
             rotate_left
             ·go_simp
              rfl
             refine hK.out _ _ ?_
             clear hK K
             refine done_ (done_of HT_.out (by kernel_rfl)) ?_
             try go_wp2
             first | go_end0 | ((try simp only [Exit.inBlock, Exit.then]); refine bodyPost_ret (results_none rfl _ _ _) rfl ?_)
             exact ⟨eR, rS HQ77.out, bx, by repeat (first | (with_reducible first | exact HK.out | apply Kept.alloc | apply Kept.drewN | apply Kept.drew | refine Kept.setCell ?_ HMgo72.out _ | refine Kept.setCell ?_ (.inr GW153.out) _) | exact HK.out)⟩
            ·rw [if_neg c71] at H
             exact absurd H (by simp)
           ·rw [if_neg c70] at H
            exact absurd H (by simp)
          ·rw [if_neg c69] at H
           exact absurd H (by simp)
         ·rw [if_neg c68] at H
          exact absurd H (by simp)
        ·rw [if_neg c67] at H
         exact absurd H (by simp)
       ·rw [if_neg c66] at H
        exact absurd H (by simp)
      ·rw [if_neg c65] at H
       have c65b0 : (a0_0 == 6) = false := beq_eq_false_iff_ne.mpr c65
       have c65b1 : (a0_0 != 6) = true := bne_iff_ne.mpr c65
       by_cases c78 : a0_0 = 7
       ·rw [if_pos c78] at H
        have c78b0 : (a0_0 == 7) = true := beq_iff_eq.mpr c78
        have c78b1 : (a0_0 != 7) = false := bne_eq_false_iff_eq.mpr c78
        clear c78
        by_cases c79 : 0 ≤ a0_2
        ·rw [if_pos c79] at H
         have c79b0 : decide (0 ≤ a0_2) = true := decide_eq_true c79
         clear c79
         by_cases c80 : a0_2 < (l2.length : Int)
         ·rw [if_pos c80] at H
          have c80b0 : decide (a0_2 < (l2.length : Int)) = true := decide_eq_true c80
          clear c80
          by_cases c81 : 0 ≤ a0_3
          ·rw [if_pos c81] at H
           have c81b0 : decide (0 ≤ a0_3) = true := decide_eq_true c81
           clear c81
           by_cases c82 : a0_3 < (l2.length : Int)
           ·rw [if_pos c82] at H
            have c82b0 : decide (a0_3 < (l2.length : Int)) = true := decide_eq_true c82
            clear c82
            replace H := Option.bind_eq_some_iff.mp H
            obtain ⟨t174, A830, H⟩ := H
            replace H : (if 0 ≤ a0_1 then (if a0_1 < (l2.length : Int) then (some (l2.set (a0_1 : Int).toNat t174)) else (none)) else (none)) = some r := H
            have A83 := Aside0.mk A830
            clear A830
            by_cases c84 : 0 ≤ a0_1
            ·rw [if_pos c84] at H
             have c84b0 : decide (0 ≤ a0_1) = true := decide_eq_true c84
             clear c84
             by_cases c85 : a0_1 < (l2.length : Int)
             ·rw [if_pos c85] at H
              have c85b0 : decide (a0_1 < (l2.length : Int)) = true := decide_eq_true c85
              clear c85
              obtain ⟨y175, hy175⟩ : ∃ y_ : List Int, y_ = (l2.set (a0_1 : Int).toNat t174) := ⟨_, rfl⟩
              replace H : (some y175) = some r := rP hy175 H
              have Ny175 := Aside0.mk hy175
              clear hy175
              obtain rfl := Option.some.inj H
              go_enter Try.func68, Try.ntmps68
              try go_wp2_with (first | ((with_reducible refine gate_dst (N := 3) rfl ?_); refine box_event ?hg (N := 3) ?hd (cs := #[.int .i64 a0_0, .int .i64 a0_1, .int .i64 a0_2, .int .i64 a0_3]) (t := 43) ?hr ?_; (case hd => rfl); (case hg => rfl); (case hr => first | (go_simp; done) | (go_simp; rfl)); intro gb153 hg w87 hbox hb; replace HO2 := Aside0.mk (Kd.R_below (rS HO2.out) hb); have BK153 := Aside0.mk (hbox); have GW153 := Aside0.mk ((by rw [hg]; exact (by first | exact HK.out.1 | exact (show Kept w _ (fun k_ => P2_ k_) from by repeat (first | (with_reducible first | exact HK.out | apply Kept.alloc | apply Kept.drewN | apply Kept.drew) | exact HK.out)).1) : w.heap.size ≤ gb153)); replace HK := Aside0.mk (Kept.below (S := (fun k_ => P2_ k_)) (by repeat (first | (with_reducible first | exact HK.out | apply Kept.alloc | apply Kept.drewN | apply Kept.drew) | exact HK.out)) hb); have GE153 := Aside0.mk ((by rw [hg]; exact (below_size bw) : w0.heap.size ≤ gb153)); replace HB := Aside0.mk (below_step bw hb); clear hb hbox hg; have hcz88_0 : w87.cell? ⟨gb153, 0, none⟩ = some (.int .i64 a0_0) := (blk_cell BK153.out 0).trans rfl; have hcz88_1 : w87.cell? ⟨gb153, 1, none⟩ = some (.int .i64 a0_1) := (blk_cell BK153.out 1).trans rfl; have hcz88_2 : w87.cell? ⟨gb153, 2, none⟩ = some (.int .i64 a0_2) := (blk_cell BK153.out 2).trans rfl; have hcz88_3 : w87.cell? ⟨gb153, 3, none⟩ = some (.int .i64 a0_3) := (blk_cell BK153.out 3).trans rfl; have hfz88_0 := blk_frozen BK153.out 0; have hfz88_1 := blk_frozen BK153.out 1; have hfz88_2 := blk_frozen BK153.out 2; have hfz88_3 := blk_frozen BK153.out 3))
              replace HO2 := Aside0.mk (Kd.R_drew HO2.out)
              replace BK153 := Aside0.mk (blk_drew BK153.out)
              replace HK := Aside0.mk (Kept.drew HK.out)
              replace HB := Aside0.mk (below_drew1 HB.out)
              obtain ⟨Ao90, co90, eo90⟩ := Kd.R_slice HO2.out
              (first | subst eo90 | (injection eo90 with f1_ f2_ f3_; have f4_ := f1_.symm; have f5_ := f3_.symm; clear f1_ f2_ f3_; subst f4_; subst f5_))
              have p172 : 0 ≤ (a0_2 : Int) := dT
              have q172 : a0_2 < (l2.length : Int) := dT
              obtain ⟨ad172, e172, hx172_0⟩ := Kd.at_int (Kd.R_reads' HO2.out).2.2 a0_2 p172 q172
              cases e172
              replace p172 := eq_true p172
              replace q172 := eq_true q172
              have p173 : 0 ≤ (a0_3 : Int) := dT
              have q173 : a0_3 < (l2.length : Int) := dT
              obtain ⟨ad173, e173, hx173_0⟩ := Kd.at_int (Kd.R_reads' HO2.out).2.2 a0_3 p173 q173
              obtain rfl : ad172 = ad173 := (by injection e173)
              replace p173 := eq_true p173
              replace q173 := eq_true q173
              refine start_ (n := 16) (S := fun w' => w'.cell? ⟨gb153, 0, none⟩ = some (.int .i64 a0_0) ∧ w'.cell? ⟨gb153, 1, none⟩ = some (.int .i64 a0_1) ∧ w'.cell? ⟨gb153, 2, none⟩ = some (.int .i64 a0_2) ∧ w'.cell? ⟨gb153, 3, none⟩ = some (.int .i64 a0_3) ∧ w'.cell? (ad172.add (a0_2).toNat) = some (.int .i64 (rd l2 a0_2)) ∧ w'.cell? (ad172.add (a0_3).toNat) = some (.int .i64 (rd l2 a0_3))) (ds := [15]) #[false,false,false,false,false,false,false,false,false,false,false,false,false,false,false,false] (by kernel_rfl) rfl rfl ⟨(blk_cell BK153.out 0).trans rfl, (blk_cell BK153.out 1).trans rfl, (blk_cell BK153.out 2).trans rfl, (blk_cell BK153.out 3).trans rfl, hx172_0, hx173_0⟩ (fun hHeld => ?_); refine with_tabW impl_apply.tab15 impl_apply.bits15 (fun HT_ HW_ => ?_)
              generalize w87.drew = w89 at HO2 BK153 HK HB hx172_0 hx173_0 hHeld ⊢
              refine pU 0 97 (v := ?_) (a' := ?_) #[Y,Z,Z,Z,Z,Z,Z,Z,Z,Z,Z,Z,Z,Z,Z,Z] HT_ rfl rfl (by kernel_rfl) ?_ ?_ ?_;rotate_left;(intro w';go_simp;with_reducible rfl);rotate_left;(simp only [Act.put, sA, s0, sN, i64_w, i32_w];rfl)
              refine pU 1 98 (v := ?_) (a' := ?_) #[Y,Y,Z,Z,Z,Z,Z,Z,Z,Z,Z,Z,Z,Z,Z,Z] HT_ rfl rfl (by kernel_rfl) ?_ ?_ ?_;rotate_left;(intro w';go_simp;with_reducible rfl);rotate_left;(simp only [Act.put, sA, s0, sN, i64_w, i32_w];rfl)
              refine pU 3 100 (v := ?_) (a' := ?_) #[Y,Y,Z,Y,Z,Z,Z,Z,Z,Z,Z,Z,Z,Z,Z,Z] HT_ rfl rfl (by kernel_rfl) ?_ ?_ ?_;rotate_left;(intro w';go_simp;with_reducible rfl);rotate_left;(simp only [Act.put, sA, s0, sN, i64_w, i32_w];rfl)
              refine pU 4 101 (v := ?_) (a' := ?_) #[Y,Y,Z,Y,Y,Z,Z,Z,Z,Z,Z,Z,Z,Z,Z,Z] HT_ rfl rfl (by kernel_rfl) ?_ ?_ ?_;rotate_left;(intro w';go_simp;with_reducible rfl);rotate_left;(simp only [Act.put, sA, s0, sN, i64_w, i32_w];rfl)
              refine pU 8 105 (v := ?_) (a' := ?_) #[Y,Y,Z,Y,Y,Z,Z,Z,Y,Z,Z,Z,Z,Z,Z,Z] HT_ rfl rfl (by kernel_rfl) ?_ ?_ ?_;rotate_left;(intro w';go_simp;with_reducible rfl);rotate_left;(simp only [Act.put, sA, s0, sN, i64_w, i32_w];rfl)
              refine pU 9 106 (v := ?_) (a' := ?_) #[Y,Y,Z,Y,Y,Z,Z,Z,Y,Y,Z,Z,Z,Z,Z,Z] HT_ rfl rfl (by kernel_rfl) ?_ ?_ ?_;rotate_left;(intro w';go_simp;with_reducible rfl);rotate_left;(simp only [Act.put, sA, s0, sN, i64_w, i32_w];rfl)
              refine take_ (i := 2) (N := some 99) (v := ?_) (a' := ?_) #[Y,Y,Y,Y,Y,Z,Z,Z,Y,Y,Z,Z,Z,Z,Z,Z] rfl rfl (take_ofW HT_.out HW_.out (by kernel_rfl)) (fun _ _ _ h => h) (Or.inl ⟨by rfl, ?_⟩) hHeld ?_ ?_
              rotate_left
              ·rintro w' ⟨s0, s1, s2, s3, s4, s5⟩
               go_simp
               with_reducible rfl
              rotate_left
              ·simp only [Act.put, sA, s0, sN, i64_w, i32_w]
               rfl
              refine take_ (i := 5) (N := some 102) (v := ?_) (a' := ?_) #[Y,Y,Y,Y,Y,Y,Z,Z,Y,Y,Z,Z,Z,Z,Z,Z] rfl rfl (take_ofW HT_.out HW_.out (by kernel_rfl)) (fun _ _ _ h => h) (Or.inl ⟨by rfl, ?_⟩) hHeld ?_ ?_
              rotate_left
              ·rintro w' ⟨s0, s1, s2, s3, s4, s5⟩
               go_simp
               with_reducible rfl
              rotate_left
              ·simp only [Act.put, sA, s0, sN, i64_w, i32_w]
               rfl
              refine pU 6 103 (v := ?_) (a' := ?_) #[Y,Y,Y,Y,Y,Y,Y,Z,Y,Y,Z,Z,Z,Z,Z,Z] HT_ rfl rfl (by kernel_rfl) ?_ ?_ ?_;rotate_left;(intro w';go_simp;with_reducible rfl);rotate_left;(simp only [Act.put, sA, s0, sN, i64_w, i32_w];rfl)
              refine take_ (i := 7) (N := some 104) (v := ?_) (a' := ?_) #[Y,Y,Y,Y,Y,Y,Y,Y,Y,Y,Z,Z,Z,Z,Z,Z] rfl rfl (take_ofW HT_.out HW_.out (by kernel_rfl)) (fun _ _ _ h => h) (Or.inl ⟨by rfl, ?_⟩) hHeld ?_ ?_
              rotate_left
              ·rintro w' ⟨s0, s1, s2, s3, s4, s5⟩
               go_simp
               with_reducible rfl
              rotate_left
              ·simp only [Act.put, sA, s0, sN, i64_w, i32_w]
               rfl
              refine take_ (i := 10) (N := some 107) (v := ?_) (a' := ?_) #[Y,Y,Y,Y,Y,Y,Y,Y,Y,Y,Y,Z,Z,Z,Z,Z] rfl rfl (take_ofW HT_.out HW_.out (by kernel_rfl)) (fun _ _ _ h => h) (Or.inl ⟨by rfl, ?_⟩) hHeld ?_ ?_
              rotate_left
              ·rintro w' ⟨s0, s1, s2, s3, s4, s5⟩
               go_simp
               with_reducible rfl
              rotate_left
              ·simp only [Act.put, sA, s0, sN, i64_w, i32_w]
               rfl
              refine pU 11 108 (v := ?_) (a' := ?_) #[Y,Y,Y,Y,Y,Y,Y,Y,Y,Y,Y,Y,Z,Z,Z,Z] HT_ rfl rfl (by kernel_rfl) ?_ ?_ ?_;rotate_left;(intro w';go_simp;with_reducible rfl);rotate_left;(simp only [Act.put, sA, s0, sN, i64_w, i32_w];rfl)
              refine take_ (i := 12) (N := some 109) (v := ?_) (a' := ?_) #[Y,Y,Y,Y,Y,Y,Y,Y,Y,Y,Y,Y,Y,Z,Z,Z] rfl rfl (take_ofW HT_.out HW_.out (by kernel_rfl)) (fun _ _ _ h => h) (Or.inl ⟨by rfl, ?_⟩) hHeld ?_ ?_
              rotate_left
              ·rintro w' ⟨s0, s1, s2, s3, s4, s5⟩
               go_simp
               with_reducible rfl
              rotate_left
              ·simp only [Act.put, sA, s0, sN, i64_w, i32_w]
               rfl
              refine one_ (i := 13) (N := some 110) #[Y,Y,Y,Y,Y,Y,Y,Y,Y,Y,Y,Y,Y,Y,Z,Z] rfl rfl (one_of HT_.out (by kernel_rfl)) (by decide) (fun K hK => ?_)
              refine goes_ Try.func110 (by kernel_rfl) rfl #[.int .i64 (rd l2 a0_2), .int .i64 (rd l2 a0_3)] (by rfl) rfl rfl bz ?_
              with_reducible refine (impl_LessWords.calls (rd l2 a0_2) (rd l2 a0_3) t174 _ A83.out).mono ?_
              rintro e w' ⟨rfl, ⟨nd, rfl⟩⟩
              refine ⟨_, rfl, ?_⟩
              have p86 : 0 ≤ (a0_1 : Int) := dT
              have q86 : (a0_1 : Int) < ((l2.length : Int) : Int) := dT
              obtain ⟨go86, co86, eo86, gb86, gl86, cl86, HG86⟩ := Kd.R_form HO2.out (by omega)
              (first | cases eo86 | (injection eo86 with ea_ en_ ec_; (first | subst ea_ | (injection ea_ with ea_; subst ea_)); subst ec_; clear en_))
              have GB86 := Aside0.mk gb86
              have GG86 := Aside0.mk HG86
              clear gb86 gl86 HG86
              have HMgo86 := Aside0.mk (show (P2_ go86 ∨ w.heap.size ≤ go86) from (HO2.out.1 _ rfl))
              (first | simp only [add_plain] at hx172_0 | skip)
              (first | simp only [add_plain] at hx173_0 | skip)
              obtain ⟨hx86_0, hf86_0⟩ := Kd.R_celln 0 HO2.out (a0_1 : Int) p86 q86
              replace p86 := eq_true p86
              replace q86 := eq_true q86
              have HP91 := Kd.R_putn HO2.out (a0_1 : Int) t174
              rw [← Ny175.out] at HP91
              have HQ91 := Aside0.mk HP91
              clear HP91
              refine hK.out _ _ ⟨(blk_cell BK153.out 0).trans rfl, (blk_cell BK153.out 1).trans rfl, (blk_cell BK153.out 2).trans rfl, (blk_cell BK153.out 3).trans rfl, hHeld.2.2.2.2.1, hHeld.2.2.2.2.2⟩ (fun hHeld => ?_)
              clear hK K
              refine norm_ (a' := ?_) ?_ ?_
              rotate_left
              ·show Act.put _ (some 110) _ = _
               simp only [Act.put, sA, s0, sN, i64_w, i32_w]
               rfl
              refine pU 14 111 (v := ?_) (a' := ?_) #[Y,Y,Y,Y,Y,Y,Y,Y,Y,Y,Y,Y,Y,Y,Y,Z] HT_ rfl rfl (by kernel_rfl) ?_ ?_ ?_;rotate_left;(intro w';go_simp;with_reducible rfl);rotate_left;(simp only [Act.put, sA, s0, sN, i64_w, i32_w];rfl)
              refine last_ (i := 15) (N := none) #[Y,Y,Y,Y,Y,Y,Y,Y,Y,Y,Y,Y,Y,Y,Y,Y] rfl rfl (one_of HT_.out (by kernel_rfl)) (by decide) (fun K hK => ?_)
              refine skip_ (w1 := ?_) (by rfl) rfl ?_ ?_
              rotate_left
              ·go_simp
               rfl
              refine hK.out _ _ ?_
              clear hK K
              refine done_ (done_of HT_.out (by kernel_rfl)) ?_
              try go_wp2
              first | go_end0 | ((try simp only [Exit.inBlock, Exit.then]); refine bodyPost_ret (results_none rfl _ _ _) rfl ?_)
              exact ⟨eR, rS HQ91.out, bx, by repeat (first | (with_reducible first | exact HK.out | apply Kept.alloc | apply Kept.drewN | apply Kept.drew | refine Kept.setCell ?_ HMgo86.out _ | refine Kept.setCell ?_ (.inr GW153.out) _) | exact HK.out)⟩
             ·rw [if_neg c85] at H
              exact absurd H (by simp)
            ·rw [if_neg c84] at H
             exact absurd H (by simp)
           ·rw [if_neg c82] at H
            exact absurd H (by simp)
          ·rw [if_neg c81] at H
           exact absurd H (by simp)
         ·rw [if_neg c80] at H
          exact absurd H (by simp)
        ·rw [if_neg c79] at H
         exact absurd H (by simp)
       ·rw [if_neg c78] at H
        have c78b0 : (a0_0 == 7) = false := beq_eq_false_iff_ne.mpr c78
        have c78b1 : (a0_0 != 7) = true := bne_iff_ne.mpr c78
        by_cases c92 : a0_0 = 8
        ·rw [if_pos c92] at H
         have c92b0 : (a0_0 == 8) = true := beq_iff_eq.mpr c92
         have c92b1 : (a0_0 != 8) = false := bne_eq_false_iff_eq.mpr c92
         clear c92
         by_cases c93 : 0 ≤ a0_1
         ·rw [if_pos c93] at H
          have c93b0 : decide (0 ≤ a0_1) = true := decide_eq_true c93
          clear c93
          by_cases c94 : a0_1 < (l2.length : Int)
          ·rw [if_pos c94] at H
           have c94b0 : decide (a0_1 < (l2.length : Int)) = true := decide_eq_true c94
           clear c94
           obtain ⟨y176, hy176⟩ : ∃ y_ : List Int, y_ = (l2.set (a0_1 : Int).toNat a1) := ⟨_, rfl⟩
           replace H : (some y176) = some r := rP hy176 H
           have Ny176 := Aside0.mk hy176
           clear hy176
           obtain rfl := Option.some.inj H
           go_enter Try.func68, Try.ntmps68
           go_wp2_with (first | ((with_reducible refine gate_dst (N := 3) rfl ?_); refine box_event ?hg (N := 3) ?hd (cs := #[.int .i64 a0_0, .int .i64 a0_1, .int .i64 a0_2, .int .i64 a0_3]) (t := 43) ?hr ?_; (case hd => rfl); (case hg => rfl); (case hr => first | (go_simp; done) | (go_simp; rfl)); intro gb153 hg w96 hbox hb; replace HO2 := Aside0.mk (Kd.R_below (rS HO2.out) hb); have BK153 := Aside0.mk (hbox); have GW153 := Aside0.mk ((by rw [hg]; exact (by first | exact HK.out.1 | exact (show Kept w _ (fun k_ => P2_ k_) from by repeat (first | (with_reducible first | exact HK.out | apply Kept.alloc | apply Kept.drewN | apply Kept.drew) | exact HK.out)).1) : w.heap.size ≤ gb153)); replace HK := Aside0.mk (Kept.below (S := (fun k_ => P2_ k_)) (by repeat (first | (with_reducible first | exact HK.out | apply Kept.alloc | apply Kept.drewN | apply Kept.drew) | exact HK.out)) hb); have GE153 := Aside0.mk ((by rw [hg]; exact (below_size bw) : w0.heap.size ≤ gb153)); replace HB := Aside0.mk (below_step bw hb); clear hb hbox hg; have hcz97_0 : w96.cell? ⟨gb153, 0, none⟩ = some (.int .i64 a0_0) := (blk_cell BK153.out 0).trans rfl; have hcz97_1 : w96.cell? ⟨gb153, 1, none⟩ = some (.int .i64 a0_1) := (blk_cell BK153.out 1).trans rfl; have hcz97_2 : w96.cell? ⟨gb153, 2, none⟩ = some (.int .i64 a0_2) := (blk_cell BK153.out 2).trans rfl; have hcz97_3 : w96.cell? ⟨gb153, 3, none⟩ = some (.int .i64 a0_3) := (blk_cell BK153.out 3).trans rfl; have hfz97_0 := blk_frozen BK153.out 0; have hfz97_1 := blk_frozen BK153.out 1; have hfz97_2 := blk_frozen BK153.out 2; have hfz97_3 := blk_frozen BK153.out 3; have p95 : 0 ≤ (a0_1 : Int) := dT; have q95 : (a0_1 : Int) < ((l2.length : Int) : Int) := dT; obtain ⟨go95, co95, eo95, gb95, gl95, cl95, HG95⟩ := Kd.R_form HO2.out (by omega); (first | cases eo95 | (injection eo95 with ea_ en_ ec_; (first | subst ea_ | (injection ea_ with ea_; subst ea_)); subst ec_; clear en_)); have GB95 := Aside0.mk gb95; have GG95 := Aside0.mk HG95; clear gb95 gl95 HG95; have HMgo95 := Aside0.mk (show (P2_ go95 ∨ w.heap.size ≤ go95) from (HO2.out.1 _ rfl)); obtain ⟨hx95_0, hf95_0⟩ := Kd.R_celln 0 HO2.out (a0_1 : Int) p95 q95; replace p95 := eq_true p95; replace q95 := eq_true q95; obtain ⟨hy98_, hz98_⟩ := Kd.R_celln 0 HO2.out (a0_1 : Int) (dT) (dT); have HP98 := Kd.R_putg HO2.out (a0_1 : Int) a1) | ((with_reducible refine gate_store (t := 3) (p := 118) rfl ?_); refine store_event (t := 3) (p := 118) (v := ?vo_w99) (w1 := (w96.setCell ⟨go95, (a0_1 : Int).toNat, none⟩ (.int .i64 a1))) ?hg ?ho ?hn ?hr ?_; (case ho => rfl); (case hg => rfl); (case hn => rfl); (case hr => first | (go_simp; done) | (go_simp; rfl)); intro w99 hw; have hg : w96.grownBy w99 (some go95) := (by rw [hw]; exact HP98.2); have hp_ : Kd.R (Kd.int .i64) 3 w99 w0.heap.size (fun k_ => (P2_ k_ ∨ w.heap.size ≤ k_)) (.slice (some ⟨go95, 0, none⟩) l2.length co95) y176 := (by rw [hw, Ny176.out]; exact HP98.1); clear HP98; replace BK153 := Aside0.mk (blk_grown (g := gb153) (o := .cells #[.int .i64 a0_0, .int .i64 a0_1, .int .i64 a0_2, .int .i64 a0_3] 43 (0, 0)) (bS BK153.out) hg (Kd.R_ne HO2.out BK153.out (by decide))); replace HB := Aside0.mk ((by rw [hw]; exact below_set (HB.out) GB95.out : Below w0.heap.size w0 w99)); replace HK := Aside0.mk (Kept.of_grown (S := (fun k_ => P2_ k_)) hg (by repeat (first | (with_reducible first | exact HK.out | apply Kept.alloc | apply Kept.drewN | apply Kept.drew | refine Kept.setCell ?_ (.inr GW153.out) _) | exact HK.out)) (fun k_ e_ => (HO2.out.1 k_ e_))); replace HO2 := Aside0.mk (hp_); clear hg hw hp_))
           first | go_end0 | ((try simp only [Exit.inBlock, Exit.then]); refine bodyPost_ret (results_none rfl _ _ _) rfl ?_)
           exact ⟨eR, rS HO2.out, bx, by repeat (first | (with_reducible first | exact HK.out | apply Kept.alloc | apply Kept.drewN | apply Kept.drew | refine Kept.setCell ?_ (.inr GW153.out) _) | exact HK.out)⟩
          ·rw [if_neg c94] at H
           exact absurd H (by simp)
         ·rw [if_neg c93] at H
          exact absurd H (by simp)
        ·rw [if_neg c92] at H
         have c92b0 : (a0_0 == 8) = false := beq_eq_false_iff_ne.mpr c92
         have c92b1 : (a0_0 != 8) = true := bne_iff_ne.mpr c92
         by_cases c100 : a0_0 = 9
         ·rw [if_pos c100] at H
          have c100b0 : (a0_0 == 9) = true := beq_iff_eq.mpr c100
          have c100b1 : (a0_0 != 9) = false := bne_eq_false_iff_eq.mpr c100
          clear c100
          by_cases c101 : 0 ≤ a0_3
          ·rw [if_pos c101] at H
           have c101b0 : decide (0 ≤ a0_3) = true := decide_eq_true c101
           clear c101
           by_cases c102 : a0_3 < (l2.length : Int)
           ·rw [if_pos c102] at H
            have c102b0 : decide (a0_3 < (l2.length : Int)) = true := decide_eq_true c102
            clear c102
            by_cases c103 : (rd l2 a0_3) = 0
            ·rw [if_pos c103] at H
             have c103b0 : ((rd l2 a0_3) == 0) = true := beq_iff_eq.mpr c103
             have c103b1 : ((rd l2 a0_3) != 0) = false := bne_eq_false_iff_eq.mpr c103
             clear c103
             obtain rfl := Option.some.inj H
             go_enter Try.func68, Try.ntmps68
             go_wp2_with (first | ((with_reducible refine gate_dst (N := 3) rfl ?_); refine box_event ?hg (N := 3) ?hd (cs := #[.int .i64 a0_0, .int .i64 a0_1, .int .i64 a0_2, .int .i64 a0_3]) (t := 43) ?hr ?_; (case hd => rfl); (case hg => rfl); (case hr => first | (go_simp; done) | (go_simp; rfl)); intro gb153 hg w104 hbox hb; replace HO2 := Aside0.mk (Kd.R_below (rS HO2.out) hb); have BK153 := Aside0.mk (hbox); have GW153 := Aside0.mk ((by rw [hg]; exact (by first | exact HK.out.1 | exact (show Kept w _ (fun k_ => P2_ k_) from by repeat (first | (with_reducible first | exact HK.out | apply Kept.alloc | apply Kept.drewN | apply Kept.drew) | exact HK.out)).1) : w.heap.size ≤ gb153)); replace HK := Aside0.mk (Kept.below (S := (fun k_ => P2_ k_)) (by repeat (first | (with_reducible first | exact HK.out | apply Kept.alloc | apply Kept.drewN | apply Kept.drew) | exact HK.out)) hb); have GE153 := Aside0.mk ((by rw [hg]; exact (below_size bw) : w0.heap.size ≤ gb153)); replace HB := Aside0.mk (below_step bw hb); clear hb hbox hg; have hcz105_0 : w104.cell? ⟨gb153, 0, none⟩ = some (.int .i64 a0_0) := (blk_cell BK153.out 0).trans rfl; have hcz105_1 : w104.cell? ⟨gb153, 1, none⟩ = some (.int .i64 a0_1) := (blk_cell BK153.out 1).trans rfl; have hcz105_2 : w104.cell? ⟨gb153, 2, none⟩ = some (.int .i64 a0_2) := (blk_cell BK153.out 2).trans rfl; have hcz105_3 : w104.cell? ⟨gb153, 3, none⟩ = some (.int .i64 a0_3) := (blk_cell BK153.out 3).trans rfl; have hfz105_0 := blk_frozen BK153.out 0; have hfz105_1 := blk_frozen BK153.out 1; have hfz105_2 := blk_frozen BK153.out 2; have hfz105_3 := blk_frozen BK153.out 3; obtain ⟨Ao106, co106, eo106⟩ := Kd.R_slice HO2.out; subst eo106; have p177 : 0 ≤ (a0_3 : Int) := dT; have q177 : a0_3 < (l2.length : Int) := dT; obtain ⟨ad177, e177, hx177_0⟩ := Kd.at_int (Kd.R_reads' HO2.out).2.2 a0_3 p177 q177; cases e177; replace p177 := eq_true p177; replace q177 := eq_true q177))
             first | go_end0 | ((try simp only [Exit.inBlock, Exit.then]); refine bodyPost_ret (results_none rfl _ _ _) rfl ?_)
             exact ⟨eR, rS HO2.out, bx, by repeat (first | (with_reducible first | exact HK.out | apply Kept.alloc | apply Kept.drewN | apply Kept.drew | refine Kept.setCell ?_ (.inr GW153.out) _) | exact HK.out)⟩
            ·rw [if_neg c103] at H
             have c103b0 : ((rd l2 a0_3) == 0) = false := beq_eq_false_iff_ne.mpr c103
             have c103b1 : ((rd l2 a0_3) != 0) = true := bne_iff_ne.mpr c103
             by_cases c107 : 0 ≤ a0_2
             ·rw [if_pos c107] at H
              have c107b0 : decide (0 ≤ a0_2) = true := decide_eq_true c107
              clear c107
              by_cases c108 : a0_2 < (l2.length : Int)
              ·rw [if_pos c108] at H
               have c108b0 : decide (a0_2 < (l2.length : Int)) = true := decide_eq_true c108
               clear c108
               by_cases c109 : 0 ≤ a0_1
               ·rw [if_pos c109] at H
                have c109b0 : decide (0 ≤ a0_1) = true := decide_eq_true c109
                clear c109
                by_cases c110 : a0_1 < (l2.length : Int)
                ·rw [if_pos c110] at H
                 have c110b0 : decide (a0_1 < (l2.length : Int)) = true := decide_eq_true c110
                 clear c110
                 obtain ⟨y179, hy179⟩ : ∃ y_ : List Int, y_ = (l2.set (a0_1 : Int).toNat (rd l2 a0_2)) := ⟨_, rfl⟩
                 replace H : (some y179) = some r := rP hy179 H
                 have Ny179 := Aside0.mk hy179
                 clear hy179
                 obtain rfl := Option.some.inj H
                 go_enter Try.func68, Try.ntmps68
                 try go_wp2_with (first | ((with_reducible refine gate_dst (N := 3) rfl ?_); refine box_event ?hg (N := 3) ?hd (cs := #[.int .i64 a0_0, .int .i64 a0_1, .int .i64 a0_2, .int .i64 a0_3]) (t := 43) ?hr ?_; (case hd => rfl); (case hg => rfl); (case hr => first | (go_simp; done) | (go_simp; rfl)); intro gb153 hg w112 hbox hb; replace HO2 := Aside0.mk (Kd.R_below (rS HO2.out) hb); have BK153 := Aside0.mk (hbox); have GW153 := Aside0.mk ((by rw [hg]; exact (by first | exact HK.out.1 | exact (show Kept w _ (fun k_ => P2_ k_) from by repeat (first | (with_reducible first | exact HK.out | apply Kept.alloc | apply Kept.drewN | apply Kept.drew) | exact HK.out)).1) : w.heap.size ≤ gb153)); replace HK := Aside0.mk (Kept.below (S := (fun k_ => P2_ k_)) (by repeat (first | (with_reducible first | exact HK.out | apply Kept.alloc | apply Kept.drewN | apply Kept.drew) | exact HK.out)) hb); have GE153 := Aside0.mk ((by rw [hg]; exact (below_size bw) : w0.heap.size ≤ gb153)); replace HB := Aside0.mk (below_step bw hb); clear hb hbox hg; have hcz113_0 : w112.cell? ⟨gb153, 0, none⟩ = some (.int .i64 a0_0) := (blk_cell BK153.out 0).trans rfl; have hcz113_1 : w112.cell? ⟨gb153, 1, none⟩ = some (.int .i64 a0_1) := (blk_cell BK153.out 1).trans rfl; have hcz113_2 : w112.cell? ⟨gb153, 2, none⟩ = some (.int .i64 a0_2) := (blk_cell BK153.out 2).trans rfl; have hcz113_3 : w112.cell? ⟨gb153, 3, none⟩ = some (.int .i64 a0_3) := (blk_cell BK153.out 3).trans rfl; have hfz113_0 := blk_frozen BK153.out 0; have hfz113_1 := blk_frozen BK153.out 1; have hfz113_2 := blk_frozen BK153.out 2; have hfz113_3 := blk_frozen BK153.out 3; obtain ⟨Ao114, co114, eo114⟩ := Kd.R_slice HO2.out; subst eo114; have p177 : 0 ≤ (a0_3 : Int) := dT; have q177 : a0_3 < (l2.length : Int) := dT; obtain ⟨ad177, e177, hx177_0⟩ := Kd.at_int (Kd.R_reads' HO2.out).2.2 a0_3 p177 q177; cases e177; replace p177 := eq_true p177; replace q177 := eq_true q177))
                 replace HO2 := Aside0.mk (Kd.R_drew HO2.out)
                 replace BK153 := Aside0.mk (blk_drew BK153.out)
                 replace HK := Aside0.mk (Kept.drew HK.out)
                 replace HB := Aside0.mk (below_drew1 HB.out)
                 have p178 : 0 ≤ (a0_2 : Int) := dT
                 have q178 : a0_2 < (l2.length : Int) := dT
                 obtain ⟨ad178, e178, hx178_0⟩ := Kd.at_int (Kd.R_reads' HO2.out).2.2 a0_2 p178 q178
                 obtain rfl : ad177 = ad178 := (by injection e178)
                 replace p178 := eq_true p178
                 replace q178 := eq_true q178
                 have p111 : 0 ≤ (a0_1 : Int) := dT
                 have q111 : (a0_1 : Int) < ((l2.length : Int) : Int) := dT
                 obtain ⟨go111, co111, eo111, gb111, gl111, cl111, HG111⟩ := Kd.R_form HO2.out (by omega)
                 (first | cases eo111 | (injection eo111 with ea_ en_ ec_; (first | subst ea_ | (injection ea_ with ea_; subst ea_)); subst ec_; clear en_))
                 have GB111 := Aside0.mk gb111
                 have GG111 := Aside0.mk HG111
                 clear gb111 gl111 HG111
                 have HMgo111 := Aside0.mk (show (P2_ go111 ∨ w.heap.size ≤ go111) from (HO2.out.1 _ rfl))
                 (first | simp only [add_plain] at hx177_0 | skip)
                 (first | simp only [add_plain] at hx178_0 | skip)
                 obtain ⟨hx111_0, hf111_0⟩ := Kd.R_celln 0 HO2.out (a0_1 : Int) p111 q111
                 replace p111 := eq_true p111
                 replace q111 := eq_true q111
                 have HP116 := Kd.R_putn HO2.out (a0_1 : Int) (rd l2 a0_2)
                 rw [← Ny179.out] at HP116
                 have HQ116 := Aside0.mk HP116
                 clear HP116
                 refine start_ (n := 10) (S := fun w' => w'.cell? ⟨gb153, 0, none⟩ = some (.int .i64 a0_0) ∧ w'.cell? ⟨gb153, 1, none⟩ = some (.int .i64 a0_1) ∧ w'.cell? ⟨gb153, 2, none⟩ = some (.int .i64 a0_2) ∧ w'.cell? ⟨gb153, 3, none⟩ = some (.int .i64 a0_3) ∧ w'.cell? ⟨go111, (a0_2).toNat, none⟩ = some (.int .i64 (rd l2 a0_2))) (ds := [9]) #[false,false,false,false,false,false,false,false,false,false] (by kernel_rfl) rfl rfl ⟨(blk_cell BK153.out 0).trans rfl, (blk_cell BK153.out 1).trans rfl, (blk_cell BK153.out 2).trans rfl, (blk_cell BK153.out 3).trans rfl, hx178_0⟩ (fun hHeld => ?_); refine with_tabW impl_apply.tab20 impl_apply.bits20 (fun HT_ HW_ => ?_)
                 generalize w112.drew = w115 at HO2 BK153 HK HB GG111 HQ116 hf111_0 hx111_0 hx177_0 hx178_0 hHeld ⊢
                 refine pU 0 127 (v := ?_) (a' := ?_) #[Y,Z,Z,Z,Z,Z,Z,Z,Z,Z] HT_ rfl rfl (by kernel_rfl) ?_ ?_ ?_;rotate_left;(intro w';go_simp;with_reducible rfl);rotate_left;(simp only [Act.put, sA, s0, sN, i64_w, i32_w];rfl)
                 refine pU 1 128 (v := ?_) (a' := ?_) #[Y,Y,Z,Z,Z,Z,Z,Z,Z,Z] HT_ rfl rfl (by kernel_rfl) ?_ ?_ ?_;rotate_left;(intro w';go_simp;with_reducible rfl);rotate_left;(simp only [Act.put, sA, s0, sN, i64_w, i32_w];rfl)
                 refine pU 3 130 (v := ?_) (a' := ?_) #[Y,Y,Z,Y,Z,Z,Z,Z,Z,Z] HT_ rfl rfl (by kernel_rfl) ?_ ?_ ?_;rotate_left;(intro w';go_simp;with_reducible rfl);rotate_left;(simp only [Act.put, sA, s0, sN, i64_w, i32_w];rfl)
                 refine pU 4 131 (v := ?_) (a' := ?_) #[Y,Y,Z,Y,Y,Z,Z,Z,Z,Z] HT_ rfl rfl (by kernel_rfl) ?_ ?_ ?_;rotate_left;(intro w';go_simp;with_reducible rfl);rotate_left;(simp only [Act.put, sA, s0, sN, i64_w, i32_w];rfl)
                 refine take_ (i := 2) (N := some 129) (v := ?_) (a' := ?_) #[Y,Y,Y,Y,Y,Z,Z,Z,Z,Z] rfl rfl (take_ofW HT_.out HW_.out (by kernel_rfl)) (fun _ _ _ h => h) (Or.inl ⟨by rfl, ?_⟩) hHeld ?_ ?_
                 rotate_left
                 ·rintro w' ⟨s0, s1, s2, s3, s4⟩
                  go_simp
                  with_reducible rfl
                 rotate_left
                 ·simp only [Act.put, sA, s0, sN, i64_w, i32_w]
                  rfl
                 refine take_ (i := 5) (N := some 132) (v := ?_) (a' := ?_) #[Y,Y,Y,Y,Y,Y,Z,Z,Z,Z] rfl rfl (take_ofW HT_.out HW_.out (by kernel_rfl)) (fun _ _ _ h => h) (Or.inl ⟨by rfl, ?_⟩) hHeld ?_ ?_
                 rotate_left
                 ·rintro w' ⟨s0, s1, s2, s3, s4⟩
                  go_simp
                  with_reducible rfl
                 rotate_left
                 ·simp only [Act.put, sA, s0, sN, i64_w, i32_w]
                  rfl
                 refine pU 6 133 (v := ?_) (a' := ?_) #[Y,Y,Y,Y,Y,Y,Y,Z,Z,Z] HT_ rfl rfl (by kernel_rfl) ?_ ?_ ?_;rotate_left;(intro w';go_simp;with_reducible rfl);rotate_left;(simp only [Act.put, sA, s0, sN, i64_w, i32_w];rfl)
                 refine take_ (i := 7) (N := some 134) (v := ?_) (a' := ?_) #[Y,Y,Y,Y,Y,Y,Y,Y,Z,Z] rfl rfl (take_ofW HT_.out HW_.out (by kernel_rfl)) (fun _ _ _ h => h) (Or.inl ⟨by rfl, ?_⟩) hHeld ?_ ?_
                 rotate_left
                 ·rintro w' ⟨s0, s1, s2, s3, s4⟩
                  go_simp
                  with_reducible rfl
                 rotate_left
                 ·simp only [Act.put, sA, s0, sN, i64_w, i32_w]
                  rfl
                 refine pU 8 135 (v := ?_) (a' := ?_) #[Y,Y,Y,Y,Y,Y,Y,Y,Y,Z] HT_ rfl rfl (by kernel_rfl) ?_ ?_ ?_;rotate_left;(intro w';go_simp;with_reducible rfl);rotate_left;(simp only [Act.put, sA, s0, sN, i64_w, i32_w];rfl)
                 refine last_ (i := 9) (N := none) #[Y,Y,Y,Y,Y,Y,Y,Y,Y,Y] rfl rfl (one_of HT_.out (by kernel_rfl)) (by decide) (fun K hK => ?_)
                 refine skip_ (w1 := ?_) (by rfl) rfl ?_ ?_
                 rotate_left
                 ·go_simp
                  rfl
                 refine hK.out _ _ ?_
                 clear hK K
                 refine done_ (done_of HT_.out (by kernel_rfl)) ?_
                 try go_wp2
                 first | go_end0 | ((try simp only [Exit.inBlock, Exit.then]); refine bodyPost_ret (results_none rfl _ _ _) rfl ?_)
                 exact ⟨eR, rS HQ116.out, bx, by repeat (first | (with_reducible first | exact HK.out | apply Kept.alloc | apply Kept.drewN | apply Kept.drew | refine Kept.setCell ?_ HMgo111.out _ | refine Kept.setCell ?_ (.inr GW153.out) _) | exact HK.out)⟩
                ·rw [if_neg c110] at H
                 exact absurd H (by simp)
               ·rw [if_neg c109] at H
                exact absurd H (by simp)
              ·rw [if_neg c108] at H
               exact absurd H (by simp)
             ·rw [if_neg c107] at H
              exact absurd H (by simp)
           ·rw [if_neg c102] at H
            exact absurd H (by simp)
          ·rw [if_neg c101] at H
           exact absurd H (by simp)
         ·rw [if_neg c100] at H
          have c100b0 : (a0_0 == 9) = false := beq_eq_false_iff_ne.mpr c100
          have c100b1 : (a0_0 != 9) = true := bne_iff_ne.mpr c100
          obtain rfl := Option.some.inj H
          go_enter Try.func68, Try.ntmps68
          go_wp2_with (first | ((with_reducible refine gate_dst (N := 3) rfl ?_); refine box_event ?hg (N := 3) ?hd (cs := #[.int .i64 a0_0, .int .i64 a0_1, .int .i64 a0_2, .int .i64 a0_3]) (t := 43) ?hr ?_; (case hd => rfl); (case hg => rfl); (case hr => first | (go_simp; done) | (go_simp; rfl)); intro gb153 hg w117 hbox hb; replace HO2 := Aside0.mk (Kd.R_below (rS HO2.out) hb); have BK153 := Aside0.mk (hbox); have GW153 := Aside0.mk ((by rw [hg]; exact (by first | exact HK.out.1 | exact (show Kept w _ (fun k_ => P2_ k_) from by repeat (first | (with_reducible first | exact HK.out | apply Kept.alloc | apply Kept.drewN | apply Kept.drew) | exact HK.out)).1) : w.heap.size ≤ gb153)); replace HK := Aside0.mk (Kept.below (S := (fun k_ => P2_ k_)) (by repeat (first | (with_reducible first | exact HK.out | apply Kept.alloc | apply Kept.drewN | apply Kept.drew) | exact HK.out)) hb); have GE153 := Aside0.mk ((by rw [hg]; exact (below_size bw) : w0.heap.size ≤ gb153)); replace HB := Aside0.mk (below_step bw hb); clear hb hbox hg; have hcz118_0 : w117.cell? ⟨gb153, 0, none⟩ = some (.int .i64 a0_0) := (blk_cell BK153.out 0).trans rfl; have hcz118_1 : w117.cell? ⟨gb153, 1, none⟩ = some (.int .i64 a0_1) := (blk_cell BK153.out 1).trans rfl; have hcz118_2 : w117.cell? ⟨gb153, 2, none⟩ = some (.int .i64 a0_2) := (blk_cell BK153.out 2).trans rfl; have hcz118_3 : w117.cell? ⟨gb153, 3, none⟩ = some (.int .i64 a0_3) := (blk_cell BK153.out 3).trans rfl; have hfz118_0 := blk_frozen BK153.out 0; have hfz118_1 := blk_frozen BK153.out 1; have hfz118_2 := blk_frozen BK153.out 2; have hfz118_3 := blk_frozen BK153.out 3))
          first | go_end0 | ((try simp only [Exit.inBlock, Exit.then]); refine bodyPost_ret (results_none rfl _ _ _) rfl ?_)
          exact ⟨eR, rS HO2.out, bx, by repeat (first | (with_reducible first | exact HK.out | apply Kept.alloc | apply Kept.drewN | apply Kept.drew | refine Kept.setCell ?_ (.inr GW153.out) _) | exact HK.out)⟩

end Go.Proofs.Ytdhifoacbpjpoaa.PFnApplied
