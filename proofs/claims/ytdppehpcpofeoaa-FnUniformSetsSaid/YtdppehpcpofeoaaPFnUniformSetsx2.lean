-- Written by myprint.py (a program of this session, over the kit's print): not trusted, Lean checks it.
import Derived.Test.YtdppehpcpofeoaaPFnUniformSetsx0
import Derived.Test.YtdppehpcpofeoaaPFnUniformSetsx1
namespace Go.Proofs.Ytdppehpcpofeoaa.PFnUniformSets
open Go.RowKit Go.Proofs.YtdppehpcpofeoaaW.PrintWords Go.Proofs.YtdppehpcpofeoaaW.PrintLast Go.Proofs.YtdppehpcpofeoaaW.PrintMore
attribute [local go_sem] max2_int min2_int max_two min_two max_three min_three max_four min_four   -- for this text's walks alone
set_option linter.unusedVariables false
set_option linter.unusedSimpArgs false

/-! ### spec_l05Quiet: function 9 -/
def spec_l05Quiet.j0 : Nat → List (S30) → List Int → Int → Int → Option ((List (S30)) × Int × Int)
 | 0, _, _, _, _ => none
 | k + 1, x3, x1000, x1001, x1002 => (spec_l05Body.f k x1000 x1001 x1002 x3 2).bind fun bt208 => ((spec_l01Once.f x1000 bt208.2.1 bt208.2.2 6).bind fun bt213 => (if bt213.1 = true then (if (bt208.1.length : Int) > 1 then ((spec_l01Below.f x1000 bt213.2.1 bt213.2.2 (bt208.1.length : Int)).bind fun bt216 => (if 0 ≤ bt216.1 then (if bt216.1 < (bt208.1.length : Int) then (some ((bt208.1.set (bt216.1 : Int).toNat (⟨12, 0, 0, 0⟩ : S30)), bt216.2.1, bt216.2.2)) else (none)) else (none))) else (some (bt208.1, bt213.2.1, bt213.2.2))) else (some (bt208.1, bt213.2.1, bt213.2.2))))
def spec_l05Quiet.f (k : Nat) (s0_0 : List Int) (s0_1 : Int) (s0_2 : Int) : Option ((List (S30)) × Int × Int) := (some (([] : List (S30)) : List (S30))).bind fun y196 => ((spec_l01Once.f s0_0 s0_1 s0_2 4).bind fun bt199 => (if bt199.1 = true then (spec_l05Quiet.j0 k y196 s0_0 bt199.2.1 bt199.2.2) else ((spec_l01Below.f s0_0 bt199.2.1 bt199.2.2 2).bind fun bt202 => (if y196.length < 4398046511104 then (spec_l05Quiet.j0 k (y196 ++ [(⟨8, bt202.1, 0, 0⟩ : S30)]) s0_0 bt202.2.1 bt202.2.2) else (none)))))
theorem spec_l05Quiet.mono_l : ∀ k, (∀ y0 y1 y2 y3, LeO (spec_l05Quiet.j0 k y0 y1 y2 y3) (spec_l05Quiet.j0 (k + 1) y0 y1 y2 y3))
 | 0 => fun _ _ _ _ r h => by simp [spec_l05Quiet.j0] at h
 | k + 1 => by
  have ih0 := spec_l05Quiet.mono_l k
  ·intro y0 y1 y2 y3
   unfold spec_l05Quiet.j0
   repeat' first
   | (with_reducible exact ih0 _ _ _ _)
   | (with_reducible exact spec_l05Body.mono _ _ _ _ _ _)
   | (with_reducible exact LeO.refl _)
   | (with_reducible exact LeO.none _)
   | (with_reducible refine LeO.ite ?_ ?_)
   | (with_reducible refine LeO.bind ?_ (fun _ => ?_))
   | exact ih0 _ _ _ _
   | exact spec_l05Body.mono _ _ _ _ _ _
   | exact LeO.none _
   | refine LeO.ite ?_ ?_
   | refine LeO.bind ?_ (fun _ => ?_)
theorem spec_l05Quiet.mono : ∀ a0 a1 a2 k, LeO (spec_l05Quiet.f k a0 a1 a2) (spec_l05Quiet.f (k + 1) a0 a1 a2) := by
 intro a0 a1 a2 k
 have ih0 := spec_l05Quiet.mono_l k
 unfold spec_l05Quiet.f
 repeat' first
   | (with_reducible exact ih0 _ _ _ _)
   | (with_reducible exact spec_l05Body.mono _ _ _ _ _ _)
   | (with_reducible exact LeO.refl _)
   | (with_reducible exact LeO.none _)
   | (with_reducible refine LeO.ite ?_ ?_)
   | (with_reducible refine LeO.bind ?_ (fun _ => ?_))
   | exact ih0 _ _ _ _
   | exact spec_l05Body.mono _ _ _ _ _ _
   | exact LeO.none _
   | refine LeO.ite ?_ ?_
   | refine LeO.bind ?_ (fun _ => ?_)
set_option maxHeartbeats 8000000 in
set_option maxRecDepth 100000 in
theorem spec_l05Quiet.calls (k : Nat) (g : Nat) (s0_0 : List Int) (s0_1 : Int) (s0_2 : Int) (r1 : List (S30)) (r2 : Int) (r3 : Int) (w0 w : World) (hI : IsS48 w0 w g s0_0 s0_1 s0_2) (hB : Below w0.heap.size w0 w) (h : spec_l05Quiet.f k s0_0 s0_1 s0_2 = some (r1, r2, r3)) :
  Calls Try.prog 9 #[.pointer (some ⟨g, 0, none⟩)] w fun e w' => ∃ v0_ : Value, e = .returned (v0_) ∧ Kd.R k30 30 w' w.heap.size (fun _ => True) v0_ r1 ∧ IsS48 w0 w' g s0_0 r2 r3 ∧ Below w0.heap.size w0 w' ∧ KeepBut w w' g none := by
 have hu30 := Try.underlying30
 have HI0 := Aside0.mk hI
 have HK := Aside0.mk (KeepBut.refl w g none)
 have HL := Aside0.mk hB.size
 clear hI
 have HW0 := Aside0.mk hB.size
 have HB := Aside0.mk hB
 clear hB
 have H : ((some (([] : List (S30)) : List (S30))).bind fun y196 => ((spec_l01Once.f s0_0 s0_1 s0_2 4).bind fun bt199 => (if bt199.1 = true then (spec_l05Quiet.j0 k y196 s0_0 bt199.2.1 bt199.2.2) else ((spec_l01Below.f s0_0 bt199.2.1 bt199.2.2 2).bind fun bt202 => (if y196.length < 4398046511104 then (spec_l05Quiet.j0 k (y196 ++ [(⟨8, bt202.1, 0, 0⟩ : S30)]) s0_0 bt202.2.1 bt202.2.2) else (none)))))) = some (r1, r2, r3) := h
 clear h
 obtain ⟨y196, hy196⟩ : ∃ y_ : List (S30), y_ = (([] : List (S30))) := ⟨_, rfl⟩
 replace H : ((spec_l01Once.f s0_0 s0_1 s0_2 4).bind fun bt199 => (if bt199.1 = true then (spec_l05Quiet.j0 k y196 s0_0 bt199.2.1 bt199.2.2) else ((spec_l01Below.f s0_0 bt199.2.1 bt199.2.2 2).bind fun bt202 => (if y196.length < 4398046511104 then (spec_l05Quiet.j0 k (y196 ++ [(⟨8, bt202.1, 0, 0⟩ : S30)]) s0_0 bt202.2.1 bt202.2.2) else (none))))) = some (r1, r2, r3) := by first | (rw [hy196]; with_reducible exact H) | (have H2_ := (Option.bind_some _ _).symm.trans H; rw [hy196]; with_reducible exact H2_) | (have H2_ := (Option.bind_some _ _).symm.trans H; with_reducible exact H2_) | with_reducible exact H | (rw [hy196]; exact H) | exact H
 have Ny196 := Aside0.mk hy196
 clear hy196
 replace H := Option.bind_eq_some_iff.mp H
 obtain ⟨⟨t199, t200, t201⟩, A20, H⟩ := H
 replace H : (if t199 = true then (spec_l05Quiet.j0 k y196 s0_0 t200 t201) else ((spec_l01Below.f s0_0 t200 t201 2).bind fun bt202 => (if y196.length < 4398046511104 then (spec_l05Quiet.j0 k (y196 ++ [(⟨8, bt202.1, 0, 0⟩ : S30)]) s0_0 bt202.2.1 bt202.2.2) else (none)))) = some (r1, r2, r3) := H
 have A2 := Aside0.mk A20
 clear A20
 have HC3 := Aside0.mk H
 clear H
 go_enter Try.func9, Try.ntmps9
 go_upto_if 7 with (first | ((with_reducible refine gate_dst (N := 4) rfl ?_); (try (refine gate_guard (by rfl) ?_; dsimp only)); refine Kd.R_lit k30 _ 30 ?hg (N := 4) ?hd (xs := ([] : List (S30))) (inner := []) (ok := fun _ => True) (okp := fun _ => True) ?hr ?hp (fun _ hk => hk) trivial (Below.refl _ _) (Nat.le_refl _) (by simp) ?_; (case hd => rfl); (case hg => rfl); (case hr => first | (go_simp; done) | (go_simp; rfl)); (case hp => exact (Reps.none _ _)); intro v197 w4 ho5 hb hg_ hnew_; clear hg_ hnew_; (first | rw [← Ny196.out] at ho5 | (simp only [Int.reduceToNat] at ho5; rw [← Ny196.out] at ho5)); have n0_ := Aside0.mk (Kd.R_lower ho5 (keep_size (w := w) (g := g) (row := none) (by repeat (first | (with_reducible first | exact HK.out | apply KeepBut.set_ | apply keep_drewN | apply keep_drew | apply keep_alloc) | exact HK.out)))); have n1_ := Aside0.mk (IsS48.below (by repeat (first | (with_reducible first | exact HI0.out | apply IsS48.alloc | apply IsS48.drewN | apply IsS48.drew | apply IsS48.set_1 | apply IsS48.set_2) | exact HI0.out)) hb); have n2_ := Aside0.mk (KeepBut.trans (by repeat (first | (with_reducible first | exact HK.out | apply KeepBut.set_ | apply keep_drewN | apply keep_drew | apply keep_alloc) | exact HK.out)) (KeepBut.of_below hb g none) (.inl rfl)); have n3_ := Aside0.mk (below_step (by repeat (first | (with_reducible first | exact HB.out | apply below_alloc | apply pw_below_drewN | apply below_drew1 | refine below_set ?_ (IsS48.ge HI0.out)) | exact HB.out)) hb); clear HI0; clear HK; clear HB; have HO198 := n0_; have HI0 := n1_; have HK := n2_; have HB := n3_; clear n0_ n1_ n2_ n3_; clear hb ho5) | ((with_reducible refine gate_callee (f := 24) rfl ?_); refine goesL_ (some 6) rfl rfl Try.func24 (by kernel_rfl) rfl #[.pointer (some ⟨g, 0, none⟩), .int .i64 4] rfl (by (try simp only [List.map_toArray, List.map_cons, List.map_nil]); first | done | rfl | (simp only [List.length_drop, List.length_take]; rfl)) ?_; (with_reducible refine (spec_l01Once.calls g s0_0 s0_1 s0_2 4 t199 t200 t201 w0 _ ?side1 ?side2 A2.out).mono ?_); (case side1 => repeat (first | (with_reducible first | exact HI0.out | apply IsS48.alloc | apply IsS48.drewN | apply IsS48.drew | apply IsS48.set_1 | apply IsS48.set_2) | exact HI0.out)); (case side2 => repeat (first | (with_reducible first | exact HB.out | apply below_alloc | apply pw_below_drewN | apply below_drew1 | refine below_set ?_ (IsS48.ge HI0.out)) | exact HB.out)); rintro e w6 ⟨rfl, hi, hb, hk⟩; refine ⟨_, rfl, ?_⟩; have n0_ := Aside0.mk (Kd.R_mono (Kd.R_keep (IsS48.apart (show IsS48 w0 _ g s0_0 s0_1 s0_2 from by repeat (first | (with_reducible first | exact HI0.out | apply IsS48.alloc | apply IsS48.drewN | apply IsS48.drew | apply IsS48.set_1 | apply IsS48.set_2) | exact HI0.out)) (by (with_reducible repeat (first | apply Kd.R_alloc | apply Kd.R_drewN | apply Kd.R_drew)); exact HO198.out) (by decide)) hk (fun _ h => h.2)) (fun _ h => h.1)); have n1_ := Aside0.mk (KeepBut.trans (by repeat (first | (with_reducible first | exact HK.out | apply KeepBut.set_ | apply keep_drewN | apply keep_drew | apply keep_alloc) | exact HK.out)) hk (.inl rfl)); have n2_ := Aside0.mk (hb); have n3_ := Aside0.mk (hi); clear HO198; clear HK; clear HB; clear HI0; have HO198 := n0_; have HK := n1_; have HB := n2_; have HI0 := n3_; clear n0_ n1_ n2_ n3_; (try clear hb); (try clear hb2); (try clear hk); (try clear hi)))
 (try simp only [Act.put, List.setIfInBounds_toArray, List.set_cons_zero, List.set_cons_succ])
 go_cut [3] (fun v3 wc => ∃ (kq : Nat) (x3_2 : List (S30)) (x1001_2 : Int) (x1002_2 : Int), Aside0 (spec_l05Quiet.j0 kq x3_2 s0_0 x1001_2 x1002_2 = some (r1, r2, r3)) ∧ Aside0 (kq ≤ k) ∧ Aside0 (Kd.R k30 30 wc w.heap.size (fun _ => True) v3 x3_2) ∧ Aside0 (IsS48 w0 wc g s0_0 x1001_2 x1002_2) ∧ Aside0 (KeepBut w wc g none) ∧ Aside0 (Below w0.heap.size w0 wc))
 case first =>
  have H := HC3.out
  clear HC3
  by_cases c7 : t199 = true
  ·subst c7
   have H1 : (spec_l05Quiet.j0 k y196 s0_0 t200 t201) = some (r1, r2, r3) := by rw [if_pos rfl] at H; exact H
   clear H
   have H := H1
   clear H1
   have H' := Aside0.mk H
   clear H
   go_wp2
   go_meet
   case rel => exact ⟨_, (y196), (t200), (t201), H', ⟨by first | omega | exact Nat.le_refl _⟩, ⟨by (with_reducible repeat (first | apply Kd.R_alloc | apply Kd.R_drewN | apply Kd.R_drew)); exact HO198.out⟩, ⟨by repeat (first | (with_reducible first | exact HI0.out | apply IsS48.alloc | apply IsS48.drewN | apply IsS48.drew | apply IsS48.set_1 | apply IsS48.set_2) | exact HI0.out)⟩, ⟨by repeat (first | (with_reducible first | exact HK.out | apply KeepBut.set_ | apply keep_drewN | apply keep_drew | apply keep_alloc) | exact HK.out)⟩, ⟨by repeat (first | (with_reducible first | exact HB.out | apply below_alloc | apply pw_below_drewN | apply below_drew1 | refine below_set ?_ (IsS48.ge HI0.out)) | exact HB.out)⟩⟩
  ·replace c7 := Bool.eq_false_iff.mpr c7
   subst c7
   have H1 : ((spec_l01Below.f s0_0 t200 t201 2).bind fun bt202 => (if y196.length < 4398046511104 then (spec_l05Quiet.j0 k (y196 ++ [(⟨8, bt202.1, 0, 0⟩ : S30)]) s0_0 bt202.2.1 bt202.2.2) else (none))) = some (r1, r2, r3) := by rw [if_neg (show ¬ (false = true) by decide)] at H; exact H
   clear H
   have H := H1
   clear H1
   replace H := Option.bind_eq_some_iff.mp H
   obtain ⟨⟨t202, t203, t204⟩, A80, H⟩ := H
   replace H : (if y196.length < 4398046511104 then (spec_l05Quiet.j0 k (y196 ++ [(⟨8, t202, 0, 0⟩ : S30)]) s0_0 t203 t204) else (none)) = some (r1, r2, r3) := H
   have A8 := Aside0.mk A80
   clear A80
   by_cases c9 : y196.length < 4398046511104
   ·rw [if_pos c9] at H
    have LMc9 := Aside0.mk c9
    clear c9
    obtain ⟨y205, hy205⟩ : ∃ y_ : List (S30), y_ = (y196 ++ [(⟨8, t202, 0, 0⟩ : S30)]) := ⟨_, rfl⟩
    replace H : (spec_l05Quiet.j0 k y205 s0_0 t203 t204) = some (r1, r2, r3) := by first | (rw [hy205]; with_reducible exact H) | (have H2_ := (Option.bind_some _ _).symm.trans H; rw [hy205]; with_reducible exact H2_) | (have H2_ := (Option.bind_some _ _).symm.trans H; with_reducible exact H2_) | with_reducible exact H | (rw [hy205]; exact H) | exact H
    have Ny205 := Aside0.mk hy205
    clear hy205
    have H' := Aside0.mk H
    clear H
    go_wp2_with (first | ((with_reducible refine gate_callee (f := 25) rfl ?_); refine goesL_ (some 10) rfl rfl Try.func25 (by kernel_rfl) rfl #[.pointer (some ⟨g, 0, none⟩), .int .i64 2] rfl (by (try simp only [List.map_toArray, List.map_cons, List.map_nil]); first | done | rfl | (simp only [List.length_drop, List.length_take]; rfl)) ?_; (with_reducible refine (spec_l01Below.calls g s0_0 t200 t201 2 t202 t203 t204 w0 _ ?side1 ?side2 A8.out).mono ?_); (case side1 => repeat (first | (with_reducible first | exact HI0.out | apply IsS48.alloc | apply IsS48.drewN | apply IsS48.drew | apply IsS48.set_1 | apply IsS48.set_2) | exact HI0.out)); (case side2 => repeat (first | (with_reducible first | exact HB.out | apply below_alloc | apply pw_below_drewN | apply below_drew1 | refine below_set ?_ (IsS48.ge HI0.out)) | exact HB.out)); rintro e w10 ⟨rfl, hi, hb, hk⟩; refine ⟨_, rfl, ?_⟩; have n0_ := Aside0.mk (Kd.R_mono (Kd.R_keep (IsS48.apart (show IsS48 w0 _ g s0_0 t200 t201 from by repeat (first | (with_reducible first | exact HI0.out | apply IsS48.alloc | apply IsS48.drewN | apply IsS48.drew | apply IsS48.set_1 | apply IsS48.set_2) | exact HI0.out)) (by (with_reducible repeat (first | apply Kd.R_alloc | apply Kd.R_drewN | apply Kd.R_drew)); exact HO198.out) (by decide)) hk (fun _ h => h.2)) (fun _ h => h.1)); have n1_ := Aside0.mk (KeepBut.trans (by repeat (first | (with_reducible first | exact HK.out | apply KeepBut.set_ | apply keep_drewN | apply keep_drew | apply keep_alloc) | exact HK.out)) hk (.inl rfl)); have n2_ := Aside0.mk (hb); have n3_ := Aside0.mk (hi); clear HO198; clear HK; clear HB; clear HI0; have HO198 := n0_; have HK := n1_; have HB := n2_; have HI0 := n3_; clear n0_ n1_ n2_ n3_; (try clear hb); (try clear hb2); (try clear hk); (try clear hi)) | ((with_reducible refine gate_builtin (b := .append) (xs := #[.tmp 8, .tmp 12]) rfl ?_); (try (refine gate_guard (by rfl) ?_; dsimp only)); at_builtin; refine Kd.R_append k30 w.heap.size rfl (.tmp 8) (.tmp 12) 24 30 (.agg #[(.int .i64 0), (.int .i64 0), (.int .i64 0), (.int .i64 0)]) 32 rfl Try.underlying24 info30 rfl (by decide) (by omega) v197 y196 (⟨8, t202, 0, 0⟩ : S30) [.int .i64 8, .int .i64 t202, .int .i64 0, .int .i64 0] (fun _ => True) (fun _ => False) rfl rfl ?aP (fun _ hk => hk.elim) ?aF ?aO (Below.refl _ _) ?aS ?aL ?_; (case aP => exact k30_mkM _ _ _ (⟨8, t202, 0, 0⟩ : S30)); (case aF => exact (fun _ _ => trivial)); (case aO => exact (by (with_reducible repeat (first | apply Kd.R_alloc | apply Kd.R_drewN | apply Kd.R_drew)); exact HO198.out)); (case aS => exact (keep_size (w := w) (g := g) (row := none) (by repeat (first | (with_reducible first | exact HK.out | apply KeepBut.set_ | apply keep_drewN | apply keep_drew | apply keep_alloc) | exact HK.out)))); (case aL => have := LMc9.out; omega); intro v206 w11 ho hb hg hat; rw [← Ny205.out] at ho; have n0_ := Aside0.mk (IsS48.grown (by repeat (first | (with_reducible first | exact HI0.out | apply IsS48.alloc | apply IsS48.drewN | apply IsS48.drew | apply IsS48.set_1 | apply IsS48.set_2) | exact HI0.out)) hg (IsS48.own_ne HI0.out HO198.out (by decide))); have n1_ := Aside0.mk (below_weaken (by repeat (first | (with_reducible first | exact HB.out | apply below_alloc | apply pw_below_drewN | apply below_drew1 | refine below_set ?_ (IsS48.ge HI0.out)) | exact HB.out)) HL.out hb); have n2_ := Aside0.mk (KeepBut.trans (by repeat (first | (with_reducible first | exact HK.out | apply KeepBut.set_ | apply keep_drewN | apply keep_drew | apply keep_alloc) | exact HK.out)) (KeepBut.of_grown hg g) (Kd.R_base2 HO198.out)); have n3_ := Aside0.mk (ho); clear HI0; clear HB; clear HK; clear HO198; have HI0 := n0_; have HB := n1_; have HK := n2_; have HO207 := n3_; clear n0_ n1_ n2_ n3_; clear ho hb hg hat))
    go_meet
    case rel => exact ⟨_, (y205), (t203), (t204), H', ⟨by first | omega | exact Nat.le_refl _⟩, ⟨by (with_reducible repeat (first | apply Kd.R_alloc | apply Kd.R_drewN | apply Kd.R_drew)); exact HO207.out⟩, ⟨by repeat (first | (with_reducible first | exact HI0.out | apply IsS48.alloc | apply IsS48.drewN | apply IsS48.drew | apply IsS48.set_1 | apply IsS48.set_2) | exact HI0.out)⟩, ⟨by repeat (first | (with_reducible first | exact HK.out | apply KeepBut.set_ | apply keep_drewN | apply keep_drew | apply keep_alloc) | exact HK.out)⟩, ⟨by repeat (first | (with_reducible first | exact HB.out | apply below_alloc | apply pw_below_drewN | apply below_drew1 | refine below_set ?_ (IsS48.ge HI0.out)) | exact HB.out)⟩⟩
   ·rw [if_neg c9] at H
    exact absurd H (by simp)
 case rest =>
  clear HC3
  try clear c2
  try clear p2
  try clear c7
  try clear c9
  obtain ⟨kq, x3_2, x1001_2, x1002_2, HA, HJ2, HO_3, HI0, HK, HB⟩ := hcut
  cases kq with
  | zero => exact absurd HA.out (by simp [spec_l05Quiet.j0])
  | succ kj2 =>
   have H := HA.out
   clear HA
   simp only [spec_l05Quiet.j0] at H
   replace H := Option.bind_eq_some_iff.mp H
   obtain ⟨⟨t208, t211, t212⟩, A120, H⟩ := H
   replace H : ((spec_l01Once.f s0_0 t211 t212 6).bind fun bt213 => (if bt213.1 = true then (if (t208.length : Int) > 1 then ((spec_l01Below.f s0_0 bt213.2.1 bt213.2.2 (t208.length : Int)).bind fun bt216 => (if 0 ≤ bt216.1 then (if bt216.1 < (t208.length : Int) then (some ((t208.set (bt216.1 : Int).toNat (⟨12, 0, 0, 0⟩ : S30)), bt216.2.1, bt216.2.2)) else (none)) else (none))) else (some (t208, bt213.2.1, bt213.2.2))) else (some (t208, bt213.2.1, bt213.2.2)))) = some (r1, r2, r3) := H
   have A12 := Aside0.mk A120
   clear A120
   replace H := Option.bind_eq_some_iff.mp H
   obtain ⟨⟨t213, t214, t215⟩, A130, H⟩ := H
   replace H : (if t213 = true then (if (t208.length : Int) > 1 then ((spec_l01Below.f s0_0 t214 t215 (t208.length : Int)).bind fun bt216 => (if 0 ≤ bt216.1 then (if bt216.1 < (t208.length : Int) then (some ((t208.set (bt216.1 : Int).toNat (⟨12, 0, 0, 0⟩ : S30)), bt216.2.1, bt216.2.2)) else (none)) else (none))) else (some (t208, t214, t215))) else (some (t208, t214, t215))) = some (r1, r2, r3) := H
   have A13 := Aside0.mk A130
   clear A130
   by_cases c14 : t213 = true
   ·subst c14
    have H1 : (if (t208.length : Int) > 1 then ((spec_l01Below.f s0_0 t214 t215 (t208.length : Int)).bind fun bt216 => (if 0 ≤ bt216.1 then (if bt216.1 < (t208.length : Int) then (some ((t208.set (bt216.1 : Int).toNat (⟨12, 0, 0, 0⟩ : S30)), bt216.2.1, bt216.2.2)) else (none)) else (none))) else (some (t208, t214, t215))) = some (r1, r2, r3) := by rw [if_pos rfl] at H; exact H
    clear H
    have H := H1
    clear H1
    by_cases c15 : (t208.length : Int) > 1
    ·rw [if_pos c15] at H
     have c15b0 : decide (1 < (t208.length : Int)) = true := decide_eq_true c15
     have c15b1 : decide (1 < t208.length) = true := decide_eq_true (by omega)
     clear c15
     replace H := Option.bind_eq_some_iff.mp H
     obtain ⟨⟨t216, t217, t218⟩, A160, H⟩ := H
     replace H : (if 0 ≤ t216 then (if t216 < (t208.length : Int) then (some ((t208.set (t216 : Int).toNat (⟨12, 0, 0, 0⟩ : S30)), t217, t218)) else (none)) else (none)) = some (r1, r2, r3) := H
     have A16 := Aside0.mk A160
     clear A160
     by_cases c17 : 0 ≤ t216
     ·rw [if_pos c17] at H
      have c17b0 : decide (0 ≤ t216) = true := decide_eq_true c17
      clear c17
      by_cases c18 : t216 < (t208.length : Int)
      ·rw [if_pos c18] at H
       have c18b0 : decide (t216 < (t208.length : Int)) = true := decide_eq_true c18
       clear c18
       obtain ⟨y219, hy219⟩ : ∃ y_ : List (S30), y_ = (t208.set (t216 : Int).toNat (⟨12, 0, 0, 0⟩ : S30)) := ⟨_, rfl⟩
       replace H : (some (y219, t217, t218)) = some (r1, r2, r3) := by first | (rw [hy219]; with_reducible exact H) | (have H2_ := (Option.bind_some _ _).symm.trans H; rw [hy219]; with_reducible exact H2_) | (have H2_ := (Option.bind_some _ _).symm.trans H; with_reducible exact H2_) | with_reducible exact H | (rw [hy219]; exact H) | exact H
       have Ny219 := Aside0.mk hy219
       clear hy219
       simp only [Option.some.injEq, Prod.mk.injEq] at H
       obtain ⟨rfl, rfl, rfl⟩ := H
       obtain ⟨Ao20, co20, eo20⟩ := Kd.R_slice HO_3.out
       subst eo20
       go_wp2_with (first | ((with_reducible refine gate_callee (f := 26) rfl ?_); refine goesL_ (some 16) rfl rfl Try.func26 (by kernel_rfl) rfl #[.pointer (some ⟨g, 0, none⟩), .slice Ao20 x3_2.length co20, .int .i64 2] rfl (by (try simp only [List.map_toArray, List.map_cons, List.map_nil]); first | done | rfl | (simp only [List.length_drop, List.length_take]; rfl)) ?_; (with_reducible refine (spec_l05Body.calls kj2 g s0_0 x1001_2 x1002_2 (fun k_ => some k_ = (.slice Ao20 x3_2.length co20 : Value).ownBlock) (.slice Ao20 x3_2.length co20) x3_2 2 t208 t211 t212 w0 _ ?side1 ?side2 ?side3 A12.out).mono ?_); (case side1 => repeat (first | (with_reducible first | exact HI0.out | apply IsS48.alloc | apply IsS48.drewN | apply IsS48.drew | apply IsS48.set_1 | apply IsS48.set_2) | exact HI0.out)); (case side2 => repeat (first | (with_reducible first | exact HB.out | apply below_alloc | apply pw_below_drewN | apply below_drew1 | refine below_set ?_ (IsS48.ge HI0.out)) | exact HB.out)); (case side3 => exact Kd.R_lower (Kd.R_tight rfl HO_3.out) HL.out); rintro e w21 ⟨v209, rfl, ho0, hi, hb, hkp⟩; refine ⟨_, rfl, ?_⟩; have n0_ := Aside0.mk (hi); have n1_ := Aside0.mk (Kd.R_mono (ok' := fun k_ => True) (Kd.R_raise (d := k30) (b := w0.heap.size) (b' := w.heap.size) (fun _ _ _ _ h_ => h_) ho0 (fun k_ e_ => Or.elim (ho0.1 k_ e_) (fun hs_ => (fun e_ => Kd.R_base HO_3.out k_ e_.symm) hs_) (fun hn_ => Nat.le_trans (keep_size (w := w) (g := g) (row := none) (by repeat (first | (with_reducible first | exact HK.out | apply KeepBut.set_ | apply keep_drewN | apply keep_drew | apply keep_alloc) | exact HK.out))) hn_))) (fun k_ hk_ => trivial)); have n2_ := Aside0.mk (Kept.keepG (by repeat (first | (with_reducible first | exact HK.out | apply KeepBut.set_ | apply keep_drewN | apply keep_drew | apply keep_alloc) | exact HK.out)) hkp (fun k_ hs_ => Or.elim hs_ (fun hs_ => (fun e_ => .inr (Kd.R_base HO_3.out k_ e_.symm)) hs_) (fun e_ => .inl e_))); have n3_ := Aside0.mk (hb); clear HI0; clear HK; clear HB; clear HO_3; have HI0 := n0_; have HO210 := n1_; have HK := n2_; have HB := n3_; clear n0_ n1_ n2_ n3_; (try clear hb); (try clear hkp); (try clear ho0)) | ((with_reducible refine gate_callee (f := 24) rfl ?_); refine goesL_ (some 18) rfl rfl Try.func24 (by kernel_rfl) rfl #[.pointer (some ⟨g, 0, none⟩), .int .i64 6] rfl (by (try simp only [List.map_toArray, List.map_cons, List.map_nil]); first | done | rfl | (simp only [List.length_drop, List.length_take]; rfl)) ?_; (with_reducible refine (spec_l01Once.calls g s0_0 t211 t212 6 true t214 t215 w0 _ ?side1 ?side2 A13.out).mono ?_); (case side1 => repeat (first | (with_reducible first | exact HI0.out | apply IsS48.alloc | apply IsS48.drewN | apply IsS48.drew | apply IsS48.set_1 | apply IsS48.set_2) | exact HI0.out)); (case side2 => repeat (first | (with_reducible first | exact HB.out | apply below_alloc | apply pw_below_drewN | apply below_drew1 | refine below_set ?_ (IsS48.ge HI0.out)) | exact HB.out)); rintro e w22 ⟨rfl, hi, hb, hk⟩; refine ⟨_, rfl, ?_⟩; have n0_ := Aside0.mk (Kd.R_mono (Kd.R_keep (IsS48.apart (show IsS48 w0 _ g s0_0 t211 t212 from by repeat (first | (with_reducible first | exact HI0.out | apply IsS48.alloc | apply IsS48.drewN | apply IsS48.drew | apply IsS48.set_1 | apply IsS48.set_2) | exact HI0.out)) (by (with_reducible repeat (first | apply Kd.R_alloc | apply Kd.R_drewN | apply Kd.R_drew)); exact HO210.out) (by decide)) hk (fun _ h => h.2)) (fun _ h => h.1)); have n1_ := Aside0.mk (KeepBut.trans (by repeat (first | (with_reducible first | exact HK.out | apply KeepBut.set_ | apply keep_drewN | apply keep_drew | apply keep_alloc) | exact HK.out)) hk (.inl rfl)); have n2_ := Aside0.mk (hb); have n3_ := Aside0.mk (hi); clear HO210; clear HK; clear HB; clear HI0; have HO210 := n0_; have HK := n1_; have HB := n2_; have HI0 := n3_; clear n0_ n1_ n2_ n3_; (try clear hb); (try clear hb2); (try clear hk); (try clear hi); obtain ⟨Ao23, co23, eo23⟩ := Kd.R_slice HO210.out; subst eo23) | ((with_reducible refine gate_callee (f := 25) rfl ?_); refine goesL_ (some 28) rfl rfl Try.func25 (by kernel_rfl) rfl #[.pointer (some ⟨g, 0, none⟩), .int .i64 (t208.length : Int)] rfl (by (try simp only [List.map_toArray, List.map_cons, List.map_nil]); first | done | rfl | (simp only [List.length_drop, List.length_take]; rfl)) ?_; (with_reducible refine (spec_l01Below.calls g s0_0 t214 t215 (t208.length : Int) t216 t217 t218 w0 _ ?side1 ?side2 A16.out).mono ?_); (case side1 => repeat (first | (with_reducible first | exact HI0.out | apply IsS48.alloc | apply IsS48.drewN | apply IsS48.drew | apply IsS48.set_1 | apply IsS48.set_2) | exact HI0.out)); (case side2 => repeat (first | (with_reducible first | exact HB.out | apply below_alloc | apply pw_below_drewN | apply below_drew1 | refine below_set ?_ (IsS48.ge HI0.out)) | exact HB.out)); rintro e w24 ⟨rfl, hi, hb, hk⟩; refine ⟨_, rfl, ?_⟩; have n0_ := Aside0.mk (Kd.R_mono (Kd.R_keep (IsS48.apart (show IsS48 w0 _ g s0_0 t214 t215 from by repeat (first | (with_reducible first | exact HI0.out | apply IsS48.alloc | apply IsS48.drewN | apply IsS48.drew | apply IsS48.set_1 | apply IsS48.set_2) | exact HI0.out)) (by (with_reducible repeat (first | apply Kd.R_alloc | apply Kd.R_drewN | apply Kd.R_drew)); exact HO210.out) (by decide)) hk (fun _ h => h.2)) (fun _ h => h.1)); have n1_ := Aside0.mk (KeepBut.trans (by repeat (first | (with_reducible first | exact HK.out | apply KeepBut.set_ | apply keep_drewN | apply keep_drew | apply keep_alloc) | exact HK.out)) hk (.inl rfl)); have n2_ := Aside0.mk (hb); have n3_ := Aside0.mk (hi); clear HO210; clear HK; clear HB; clear HI0; have HO210 := n0_; have HK := n1_; have HB := n2_; have HI0 := n3_; clear n0_ n1_ n2_ n3_; (try clear hb); (try clear hb2); (try clear hk); (try clear hi); have p19 : 0 ≤ (t216 : Int) := of_decide_eq_true (by first | (with_reducible assumption) | assumption); have q19 : (t216 : Int) < ((t208.length : Int) : Int) := of_decide_eq_true (by first | (with_reducible assumption) | assumption); obtain ⟨go19, co19, eo19, gb19, gl19, cl19, HG19⟩ := Kd.R_form HO210.out (by omega); (first | cases eo19 | (injection eo19 with ea_ en_ ec_; (first | subst ea_ | (injection ea_ with ea_; subst ea_)); subst ec_; clear en_)); have GB19 := Aside0.mk gb19; have GG19 := Aside0.mk HG19; clear gb19 gl19 HG19; obtain ⟨ce19, hcl19, hM19, hcc19, hfr19⟩ := Kd.R_elem HO210.out z30 (t216 : Int) p19 q19; obtain rfl := k30_openM hM19; have hx19_0 : w24.cell? ⟨go19, (t216 : Int).toNat * 4, none⟩ = some (.int .i64 ((rd_T30 t208 t216).f0)) := hcc19 0 _ rfl; have hx19_1 : w24.cell? ⟨go19, (t216 : Int).toNat * 4 + 1, none⟩ = some (.int .i64 ((rd_T30 t208 t216).f1)) := hcc19 1 _ rfl; have hx19_2 : w24.cell? ⟨go19, (t216 : Int).toNat * 4 + 2, none⟩ = some (.int .i64 ((rd_T30 t208 t216).f2)) := hcc19 2 _ rfl; have hx19_3 : w24.cell? ⟨go19, (t216 : Int).toNat * 4 + 3, none⟩ = some (.int .i64 ((rd_T30 t208 t216).f3)) := hcc19 3 _ rfl; have hf19_0 : w24.frozen? ⟨go19, (t216 : Int).toNat * 4, none⟩ = false := hfr19 0; have hf19_1 : w24.frozen? ⟨go19, (t216 : Int).toNat * 4 + 1, none⟩ = false := hfr19 1; have hf19_2 : w24.frozen? ⟨go19, (t216 : Int).toNat * 4 + 2, none⟩ = false := hfr19 2; have hf19_3 : w24.frozen? ⟨go19, (t216 : Int).toNat * 4 + 3, none⟩ = false := hfr19 3; clear hcl19 hcc19 hfr19 hM19; replace p19 := eq_true p19; replace q19 := eq_true q19; have HX25 := Aside0.mk (show Kd.R k30 30 w24 w.heap.size (fun _ => True) (.slice (some ⟨go19, 0, none⟩) t208.length co23) t208 from (by (with_reducible repeat (first | apply Kd.R_alloc | apply Kd.R_drewN | apply Kd.R_drew)); exact HO210.out)); obtain ⟨ce25, hcl25, hM25, hcc25, hfr25⟩ := Kd.R_elem HX25.out z30 (t216 : Int) (of_decide_eq_true (by first | (with_reducible assumption) | assumption)) (by have h_ : (t216 : Int) < ((t208.length : Int) : Int) := of_decide_eq_true (by first | (with_reducible assumption) | assumption); first | exact h_ | (have e_ := (Kd.R_reads' HO210.out).1; omega) | simpa using h_); obtain rfl := k30_openM hM25; have HP25 := Kd.R_seg HX25.out (t216 : Int) (of_decide_eq_true (by first | (with_reducible assumption) | assumption)) (by have h_ : (t216 : Int) < ((t208.length : Int) : Int) := of_decide_eq_true (by first | (with_reducible assumption) | assumption); first | exact h_ | (have e_ := (Kd.R_reads' HO210.out).1; omega) | simpa using h_) (seg := [.int .i64 12, .int .i64 0, .int .i64 0, .int .i64 0]) (j := 0) hcl25 hcc25 (show 4 ≤ 4 from by decide) (x' := (⟨12, 0, 0, 0⟩ : S30)) (k30_mkM _ _ _ (⟨12, 0, 0, 0⟩ : S30) ) (fun _ hk => hk); have hx25_0 := hcc25 0 _ rfl; (try simp only [show (k30).sz = 4 from rfl, Nat.mul_one, Nat.add_zero] at hx25_0); have hf25_0 := hfr25 0; (try simp only [show (k30).sz = 4 from rfl, Nat.mul_one, Nat.add_zero] at hf25_0); have hx25_1 := hcc25 1 _ rfl; (try simp only [show (k30).sz = 4 from rfl, Nat.mul_one, Nat.add_zero] at hx25_1); have hf25_1 := hfr25 1; (try simp only [show (k30).sz = 4 from rfl, Nat.mul_one, Nat.add_zero] at hf25_1); have hx25_2 := hcc25 2 _ rfl; (try simp only [show (k30).sz = 4 from rfl, Nat.mul_one, Nat.add_zero] at hx25_2); have hf25_2 := hfr25 2; (try simp only [show (k30).sz = 4 from rfl, Nat.mul_one, Nat.add_zero] at hf25_2); have hx25_3 := hcc25 3 _ rfl; (try simp only [show (k30).sz = 4 from rfl, Nat.mul_one, Nat.add_zero] at hx25_3); have hf25_3 := hfr25 3; (try simp only [show (k30).sz = 4 from rfl, Nat.mul_one, Nat.add_zero] at hf25_3); clear hcl25 hcc25 hfr25 hM25) | ((with_reducible refine gate_store (t := 30) (p := 30) rfl ?_); refine store_event (t := 30) (p := 30) (v := ?vo_w26) (w1 := ((((w24.setCell ⟨go19, (t216 : Int).toNat * 4, none⟩ (.int .i64 12)).setCell ⟨go19, (t216 : Int).toNat * 4 + 1, none⟩ (.int .i64 0)).setCell ⟨go19, (t216 : Int).toNat * 4 + 2, none⟩ (.int .i64 0)).setCell ⟨go19, (t216 : Int).toNat * 4 + 3, none⟩ (.int .i64 0))) ?hg ?ho ?hn ?hr ?_; (case ho => rfl); (case hg => rfl); (case hn => rfl); (case hr => first | (go_simp; done) | (go_simp; rfl)); intro w26 hw; have hg : w24.grownBy w26 (some go19) := (by rw [hw]; exact HP25.2); have hp_ : Kd.R k30 30 w26 w.heap.size (fun _ => True) (.slice (some ⟨go19, 0, none⟩) t208.length co23) y219 := (by rw [hw, Ny219.out]; exact HP25.1); clear HP25; have n0_ := Aside0.mk (IsS48.grown (by repeat (first | (with_reducible first | exact HI0.out | apply IsS48.alloc | apply IsS48.drewN | apply IsS48.drew | apply IsS48.set_1 | apply IsS48.set_2) | exact HI0.out)) hg (IsS48.own_ne HI0.out HO210.out (by decide))); have n1_ := Aside0.mk (hp_); have n2_ := Aside0.mk ((by rw [hw]; exact below_set (below_set (below_set (below_set (HB.out) (Nat.le_trans HL.out GB19.out)) (Nat.le_trans HL.out GB19.out)) (Nat.le_trans HL.out GB19.out)) (Nat.le_trans HL.out GB19.out) : Below w0.heap.size w0 w26)); have n3_ := Aside0.mk (KeepBut.trans (by repeat (first | (with_reducible first | exact HK.out | apply KeepBut.set_ | apply keep_drewN | apply keep_drew | apply keep_alloc) | exact HK.out)) (KeepBut.of_grown hg g) (Kd.R_base2 HO210.out)); clear HI0; clear HO210; clear HB; clear HK; have HI0 := n0_; have HO210 := n1_; have HB := n2_; have HK := n3_; clear n0_ n1_ n2_ n3_; clear hg hw hp_))
       go_ret
       exact ⟨_, by first | rfl | (simp [errW_none, errW_some] <;> rfl) | (simp [*, errW_none, errW_some] <;> rfl), by (with_reducible repeat (first | apply Kd.R_alloc | apply Kd.R_drewN | apply Kd.R_drew)); exact HO210.out, by repeat (first | (with_reducible first | exact HI0.out | apply IsS48.alloc | apply IsS48.drewN | apply IsS48.drew | apply IsS48.set_1 | apply IsS48.set_2) | exact HI0.out), by repeat (first | (with_reducible first | exact HB.out | apply below_alloc | apply pw_below_drewN | apply below_drew1 | refine below_set ?_ (IsS48.ge HI0.out)) | exact HB.out), by repeat (first | (with_reducible first | exact HK.out | apply KeepBut.set_ | apply keep_drewN | apply keep_drew | apply keep_alloc) | exact HK.out)⟩
      ·rw [if_neg c18] at H
       exact absurd H (by simp)
     ·rw [if_neg c17] at H
      exact absurd H (by simp)
    ·rw [if_neg c15] at H
     have c15b0 : decide (1 < (t208.length : Int)) = false := decide_eq_false c15
     have c15b1 : decide (1 < t208.length) = false := decide_eq_false (by omega)
     clear c15
     simp only [Option.some.injEq, Prod.mk.injEq] at H
     obtain ⟨rfl, rfl, rfl⟩ := H
     obtain ⟨Ao27, co27, eo27⟩ := Kd.R_slice HO_3.out
     subst eo27
     go_wp2_with (first | ((with_reducible refine gate_callee (f := 26) rfl ?_); refine goesL_ (some 16) rfl rfl Try.func26 (by kernel_rfl) rfl #[.pointer (some ⟨g, 0, none⟩), .slice Ao27 x3_2.length co27, .int .i64 2] rfl (by (try simp only [List.map_toArray, List.map_cons, List.map_nil]); first | done | rfl | (simp only [List.length_drop, List.length_take]; rfl)) ?_; (with_reducible refine (spec_l05Body.calls kj2 g s0_0 x1001_2 x1002_2 (fun k_ => some k_ = (.slice Ao27 x3_2.length co27 : Value).ownBlock) (.slice Ao27 x3_2.length co27) x3_2 2 t208 t211 t212 w0 _ ?side1 ?side2 ?side3 A12.out).mono ?_); (case side1 => repeat (first | (with_reducible first | exact HI0.out | apply IsS48.alloc | apply IsS48.drewN | apply IsS48.drew | apply IsS48.set_1 | apply IsS48.set_2) | exact HI0.out)); (case side2 => repeat (first | (with_reducible first | exact HB.out | apply below_alloc | apply pw_below_drewN | apply below_drew1 | refine below_set ?_ (IsS48.ge HI0.out)) | exact HB.out)); (case side3 => exact Kd.R_lower (Kd.R_tight rfl HO_3.out) HL.out); rintro e w28 ⟨v209, rfl, ho0, hi, hb, hkp⟩; refine ⟨_, rfl, ?_⟩; have n0_ := Aside0.mk (hi); have n1_ := Aside0.mk (Kd.R_mono (ok' := fun k_ => True) (Kd.R_raise (d := k30) (b := w0.heap.size) (b' := w.heap.size) (fun _ _ _ _ h_ => h_) ho0 (fun k_ e_ => Or.elim (ho0.1 k_ e_) (fun hs_ => (fun e_ => Kd.R_base HO_3.out k_ e_.symm) hs_) (fun hn_ => Nat.le_trans (keep_size (w := w) (g := g) (row := none) (by repeat (first | (with_reducible first | exact HK.out | apply KeepBut.set_ | apply keep_drewN | apply keep_drew | apply keep_alloc) | exact HK.out))) hn_))) (fun k_ hk_ => trivial)); have n2_ := Aside0.mk (Kept.keepG (by repeat (first | (with_reducible first | exact HK.out | apply KeepBut.set_ | apply keep_drewN | apply keep_drew | apply keep_alloc) | exact HK.out)) hkp (fun k_ hs_ => Or.elim hs_ (fun hs_ => (fun e_ => .inr (Kd.R_base HO_3.out k_ e_.symm)) hs_) (fun e_ => .inl e_))); have n3_ := Aside0.mk (hb); clear HI0; clear HK; clear HB; clear HO_3; have HI0 := n0_; have HO210 := n1_; have HK := n2_; have HB := n3_; clear n0_ n1_ n2_ n3_; (try clear hb); (try clear hkp); (try clear ho0)) | ((with_reducible refine gate_callee (f := 24) rfl ?_); refine goesL_ (some 18) rfl rfl Try.func24 (by kernel_rfl) rfl #[.pointer (some ⟨g, 0, none⟩), .int .i64 6] rfl (by (try simp only [List.map_toArray, List.map_cons, List.map_nil]); first | done | rfl | (simp only [List.length_drop, List.length_take]; rfl)) ?_; (with_reducible refine (spec_l01Once.calls g s0_0 t211 t212 6 true t214 t215 w0 _ ?side1 ?side2 A13.out).mono ?_); (case side1 => repeat (first | (with_reducible first | exact HI0.out | apply IsS48.alloc | apply IsS48.drewN | apply IsS48.drew | apply IsS48.set_1 | apply IsS48.set_2) | exact HI0.out)); (case side2 => repeat (first | (with_reducible first | exact HB.out | apply below_alloc | apply pw_below_drewN | apply below_drew1 | refine below_set ?_ (IsS48.ge HI0.out)) | exact HB.out)); rintro e w29 ⟨rfl, hi, hb, hk⟩; refine ⟨_, rfl, ?_⟩; have n0_ := Aside0.mk (Kd.R_mono (Kd.R_keep (IsS48.apart (show IsS48 w0 _ g s0_0 t211 t212 from by repeat (first | (with_reducible first | exact HI0.out | apply IsS48.alloc | apply IsS48.drewN | apply IsS48.drew | apply IsS48.set_1 | apply IsS48.set_2) | exact HI0.out)) (by (with_reducible repeat (first | apply Kd.R_alloc | apply Kd.R_drewN | apply Kd.R_drew)); exact HO210.out) (by decide)) hk (fun _ h => h.2)) (fun _ h => h.1)); have n1_ := Aside0.mk (KeepBut.trans (by repeat (first | (with_reducible first | exact HK.out | apply KeepBut.set_ | apply keep_drewN | apply keep_drew | apply keep_alloc) | exact HK.out)) hk (.inl rfl)); have n2_ := Aside0.mk (hb); have n3_ := Aside0.mk (hi); clear HO210; clear HK; clear HB; clear HI0; have HO210 := n0_; have HK := n1_; have HB := n2_; have HI0 := n3_; clear n0_ n1_ n2_ n3_; (try clear hb); (try clear hb2); (try clear hk); (try clear hi); obtain ⟨Ao30, co30, eo30⟩ := Kd.R_slice HO210.out; subst eo30))
     go_ret
     exact ⟨_, by first | rfl | (simp [errW_none, errW_some] <;> rfl) | (simp [*, errW_none, errW_some] <;> rfl), by (with_reducible repeat (first | apply Kd.R_alloc | apply Kd.R_drewN | apply Kd.R_drew)); exact HO210.out, by repeat (first | (with_reducible first | exact HI0.out | apply IsS48.alloc | apply IsS48.drewN | apply IsS48.drew | apply IsS48.set_1 | apply IsS48.set_2) | exact HI0.out), by repeat (first | (with_reducible first | exact HB.out | apply below_alloc | apply pw_below_drewN | apply below_drew1 | refine below_set ?_ (IsS48.ge HI0.out)) | exact HB.out), by repeat (first | (with_reducible first | exact HK.out | apply KeepBut.set_ | apply keep_drewN | apply keep_drew | apply keep_alloc) | exact HK.out)⟩
   ·replace c14 := Bool.eq_false_iff.mpr c14
    subst c14
    have H1 : (some (t208, t214, t215)) = some (r1, r2, r3) := by rw [if_neg (show ¬ (false = true) by decide)] at H; exact H
    clear H
    have H := H1
    clear H1
    simp only [Option.some.injEq, Prod.mk.injEq] at H
    obtain ⟨rfl, rfl, rfl⟩ := H
    obtain ⟨Ao31, co31, eo31⟩ := Kd.R_slice HO_3.out
    subst eo31
    go_wp2_with (first | ((with_reducible refine gate_callee (f := 26) rfl ?_); refine goesL_ (some 16) rfl rfl Try.func26 (by kernel_rfl) rfl #[.pointer (some ⟨g, 0, none⟩), .slice Ao31 x3_2.length co31, .int .i64 2] rfl (by (try simp only [List.map_toArray, List.map_cons, List.map_nil]); first | done | rfl | (simp only [List.length_drop, List.length_take]; rfl)) ?_; (with_reducible refine (spec_l05Body.calls kj2 g s0_0 x1001_2 x1002_2 (fun k_ => some k_ = (.slice Ao31 x3_2.length co31 : Value).ownBlock) (.slice Ao31 x3_2.length co31) x3_2 2 t208 t211 t212 w0 _ ?side1 ?side2 ?side3 A12.out).mono ?_); (case side1 => repeat (first | (with_reducible first | exact HI0.out | apply IsS48.alloc | apply IsS48.drewN | apply IsS48.drew | apply IsS48.set_1 | apply IsS48.set_2) | exact HI0.out)); (case side2 => repeat (first | (with_reducible first | exact HB.out | apply below_alloc | apply pw_below_drewN | apply below_drew1 | refine below_set ?_ (IsS48.ge HI0.out)) | exact HB.out)); (case side3 => exact Kd.R_lower (Kd.R_tight rfl HO_3.out) HL.out); rintro e w32 ⟨v209, rfl, ho0, hi, hb, hkp⟩; refine ⟨_, rfl, ?_⟩; have n0_ := Aside0.mk (hi); have n1_ := Aside0.mk (Kd.R_mono (ok' := fun k_ => True) (Kd.R_raise (d := k30) (b := w0.heap.size) (b' := w.heap.size) (fun _ _ _ _ h_ => h_) ho0 (fun k_ e_ => Or.elim (ho0.1 k_ e_) (fun hs_ => (fun e_ => Kd.R_base HO_3.out k_ e_.symm) hs_) (fun hn_ => Nat.le_trans (keep_size (w := w) (g := g) (row := none) (by repeat (first | (with_reducible first | exact HK.out | apply KeepBut.set_ | apply keep_drewN | apply keep_drew | apply keep_alloc) | exact HK.out))) hn_))) (fun k_ hk_ => trivial)); have n2_ := Aside0.mk (Kept.keepG (by repeat (first | (with_reducible first | exact HK.out | apply KeepBut.set_ | apply keep_drewN | apply keep_drew | apply keep_alloc) | exact HK.out)) hkp (fun k_ hs_ => Or.elim hs_ (fun hs_ => (fun e_ => .inr (Kd.R_base HO_3.out k_ e_.symm)) hs_) (fun e_ => .inl e_))); have n3_ := Aside0.mk (hb); clear HI0; clear HK; clear HB; clear HO_3; have HI0 := n0_; have HO210 := n1_; have HK := n2_; have HB := n3_; clear n0_ n1_ n2_ n3_; (try clear hb); (try clear hkp); (try clear ho0)) | ((with_reducible refine gate_callee (f := 24) rfl ?_); refine goesL_ (some 18) rfl rfl Try.func24 (by kernel_rfl) rfl #[.pointer (some ⟨g, 0, none⟩), .int .i64 6] rfl (by (try simp only [List.map_toArray, List.map_cons, List.map_nil]); first | done | rfl | (simp only [List.length_drop, List.length_take]; rfl)) ?_; (with_reducible refine (spec_l01Once.calls g s0_0 t211 t212 6 false t214 t215 w0 _ ?side1 ?side2 A13.out).mono ?_); (case side1 => repeat (first | (with_reducible first | exact HI0.out | apply IsS48.alloc | apply IsS48.drewN | apply IsS48.drew | apply IsS48.set_1 | apply IsS48.set_2) | exact HI0.out)); (case side2 => repeat (first | (with_reducible first | exact HB.out | apply below_alloc | apply pw_below_drewN | apply below_drew1 | refine below_set ?_ (IsS48.ge HI0.out)) | exact HB.out)); rintro e w33 ⟨rfl, hi, hb, hk⟩; refine ⟨_, rfl, ?_⟩; have n0_ := Aside0.mk (Kd.R_mono (Kd.R_keep (IsS48.apart (show IsS48 w0 _ g s0_0 t211 t212 from by repeat (first | (with_reducible first | exact HI0.out | apply IsS48.alloc | apply IsS48.drewN | apply IsS48.drew | apply IsS48.set_1 | apply IsS48.set_2) | exact HI0.out)) (by (with_reducible repeat (first | apply Kd.R_alloc | apply Kd.R_drewN | apply Kd.R_drew)); exact HO210.out) (by decide)) hk (fun _ h => h.2)) (fun _ h => h.1)); have n1_ := Aside0.mk (KeepBut.trans (by repeat (first | (with_reducible first | exact HK.out | apply KeepBut.set_ | apply keep_drewN | apply keep_drew | apply keep_alloc) | exact HK.out)) hk (.inl rfl)); have n2_ := Aside0.mk (hb); have n3_ := Aside0.mk (hi); clear HO210; clear HK; clear HB; clear HI0; have HO210 := n0_; have HK := n1_; have HB := n2_; have HI0 := n3_; clear n0_ n1_ n2_ n3_; (try clear hb); (try clear hb2); (try clear hk); (try clear hi)))
    go_ret
    exact ⟨_, by first | rfl | (simp [errW_none, errW_some] <;> rfl) | (simp [*, errW_none, errW_some] <;> rfl), by (with_reducible repeat (first | apply Kd.R_alloc | apply Kd.R_drewN | apply Kd.R_drew)); exact HO210.out, by repeat (first | (with_reducible first | exact HI0.out | apply IsS48.alloc | apply IsS48.drewN | apply IsS48.drew | apply IsS48.set_1 | apply IsS48.set_2) | exact HI0.out), by repeat (first | (with_reducible first | exact HB.out | apply below_alloc | apply pw_below_drewN | apply below_drew1 | refine below_set ?_ (IsS48.ge HI0.out)) | exact HB.out), by repeat (first | (with_reducible first | exact HK.out | apply KeepBut.set_ | apply keep_drewN | apply keep_drew | apply keep_alloc) | exact HK.out)⟩

/-! ### spec_l01New: function 10 -/
def spec_l01New.l0 : Nat → List Int → Int → Int → Option (List Int × Int × Int)
  | 0, _, _, _ => none
  | k + 1, x0, x3, x4 => if x4 < (x0.length : Int) then (if x4 < 4000 then (if 0 ≤ x4 then (spec_l01New.l0 k x0 (Go.bits .and .i64 (wrap64 ((wrap64 ((wrap64 (x3 * 131)) + (wrap64 (rd x0 x4)))) + 7)) 1073741823) (wrap64 (x4 + 1))) else (none)) else (some (x0, 0, x3))) else (some (x0, 0, x3))
def spec_l01New.f (k : Nat) (l0 : List Int) : Option (List Int × Int × Int) := spec_l01New.l0 k l0 (wrap64 (98561 + (l0.length : Int))) 0
theorem spec_l01New.mono_l : ∀ k, (∀ y0 y1 y2, LeO (spec_l01New.l0 k y0 y1 y2) (spec_l01New.l0 (k + 1) y0 y1 y2))
  | 0 => fun _ _ _ r h => by simp [spec_l01New.l0] at h
  | k + 1 => by
    have ih0 := spec_l01New.mono_l k
    · intro y0 y1 y2
      unfold spec_l01New.l0
      repeat' first
      | (with_reducible exact ih0 _ _ _)
      | (with_reducible exact LeO.refl _)
      | (with_reducible exact LeO.none _)
      | (with_reducible refine LeO.ite ?_ ?_)
      | (with_reducible refine LeO.bind ?_ (fun _ => ?_))
      | exact ih0 _ _ _
      | exact LeO.none _
      | refine LeO.ite ?_ ?_
      | refine LeO.bind ?_ (fun _ => ?_)
theorem spec_l01New.mono : ∀ a0 k, LeO (spec_l01New.f k a0) (spec_l01New.f (k + 1) a0) := by
  intro a0 k
  have ih0 := spec_l01New.mono_l k
  unfold spec_l01New.f
  repeat' first
      | (with_reducible exact ih0 _ _ _)
      | (with_reducible exact LeO.refl _)
      | (with_reducible exact LeO.none _)
      | (with_reducible refine LeO.ite ?_ ?_)
      | (with_reducible refine LeO.bind ?_ (fun _ => ?_))
      | exact ih0 _ _ _
      | exact LeO.none _
      | refine LeO.ite ?_ ?_
      | refine LeO.bind ?_ (fun _ => ?_)
set_option maxHeartbeats 8000000 in
set_option maxRecDepth 100000 in
theorem spec_l01New.calls (k : Nat) (A0 : Option Addr) (c0 : Nat) (l0 : List Int) (r1 : List Int) (r2 : Int) (r3 : Int) (w0 w : World) (hB : Below w0.heap.size w0 w) (hr0 : Kd.C (Kd.int .u8) w0 A0 l0.length l0) (hc0 : l0.length ≤ c0) (h : spec_l01New.f k l0 = some (r1, r2, r3)) :
    Calls Try.prog 10 #[.slice A0 l0.length c0] w fun e w' => ∃ g_ : Nat, e = .returned (.pointer (some ⟨g_, 0, none⟩)) ∧ IsS48 w0 w' g_ r1 r2 r3 ∧ Below w0.heap.size w0 w' ∧ Below w.heap.size w w' := by
  have hu48 := Try.underlying48
  have HR0 := Aside0.mk hr0
  have HC0 := Aside0.mk hc0
  clear hr0 hc0
  have HBW := Aside0.mk (Below.refl w.heap.size w)
  have HW0 := Aside0.mk hB.size
  have HB := Aside0.mk hB
  clear hB
  have H : (spec_l01New.l0 k l0 (wrap64 (98561 + (l0.length : Int))) 0) = some (r1, r2, r3) := h
  clear h
  have H' := Aside0.mk H
  clear H
  go_enter Try.func10, Try.ntmps10
  go_wp2
  go_loopg [3, 4] k (fun kq v3 v4 w' => ∃ (x3_1 : Int) (x4_1 : Int), v3 = .int .i64 x3_1 ∧ v4 = .int .i64 x4_1 ∧ Aside0 (spec_l01New.l0 kq l0 x3_1 x4_1 = some (r1, r2, r3)) ∧ Aside0 (kq ≤ k) ∧ Aside0 (Below w0.heap.size w0 w') ∧ Aside0 (Below w.heap.size w w'))
  case atStart => exact ⟨(wrap64 (98561 + (l0.length : Int))), (0), (by first | rfl | (simp; done) | (simp [*]; done)), (by first | rfl | (simp; done) | (simp [*]; done)), H', ⟨Nat.le_refl _⟩, ⟨by repeat (first | (with_reducible first | exact HB.out | apply below_alloc | apply pw_below_drewN | apply below_drew1) | exact HB.out)⟩, ⟨by repeat (first | exact HBW.out | apply below_alloc | apply pw_below_drewN | apply below_drew1)⟩⟩
  case round =>
    clear H'
    try clear c1
    obtain ⟨x3_1, x4_1, rfl, rfl, HA, HK1, HB, HBW⟩ := hrel
    cases gk with
    | zero => exact absurd HA.out (by simp [spec_l01New.l0])
    | succ k1 =>
      have H := HA.out
      clear HA
      simp only [spec_l01New.l0] at H
      by_cases c2 : x4_1 < (l0.length : Int)
      · rw [if_pos c2] at H
        have c2b0 : decide (x4_1 < (l0.length : Int)) = true := decide_eq_true c2
        clear c2
        by_cases c3 : x4_1 < 4000
        · rw [if_pos c3] at H
          have c3b0 : decide (x4_1 < 4000) = true := decide_eq_true c3
          clear c3
          by_cases c4 : 0 ≤ x4_1
          · rw [if_pos c4] at H
            have c4b0 : decide (0 ≤ x4_1) = true := decide_eq_true c4
            clear c4
            have H' := Aside0.mk H
            clear H
            have p220 : 0 ≤ (x4_1 : Int) := of_decide_eq_true (by first | (with_reducible assumption) | assumption)
            have q220 : x4_1 < (l0.length : Int) := of_decide_eq_true (by first | (with_reducible assumption) | assumption)
            obtain ⟨ad220, e220, hx220_0⟩ := Kd.at_int HR0.out x4_1 p220 q220
            cases e220
            replace hx220_0 := pw_cell_below HB.out hx220_0
            replace p220 := eq_true p220
            replace q220 := eq_true q220
            go_wp2
            go_roundg k1
            case measure => have := HK1.out; omega
            case rel => exact ⟨(Go.bits .and .i64 (wrap64 ((wrap64 ((wrap64 (x3_1 * 131)) + (wrap64 (rd l0 x4_1)))) + 7)) 1073741823), (wrap64 (x4_1 + 1)), (by first | rfl | (simp; done) | (simp [*]; done)), (by first | rfl | (simp; done) | (simp [*]; done)), H', ⟨by have := HK1.out; omega⟩, ⟨by repeat (first | (with_reducible first | exact HB.out | apply below_alloc | apply pw_below_drewN | apply below_drew1) | exact HB.out)⟩, ⟨by repeat (first | exact HBW.out | apply below_alloc | apply pw_below_drewN | apply below_drew1)⟩⟩
          · rw [if_neg c4] at H
            exact absurd H (by simp)
        · rw [if_neg c3] at H
          have c3b0 : decide (x4_1 < 4000) = false := decide_eq_false c3
          clear c3
          simp only [Option.some.injEq, Prod.mk.injEq] at H
          obtain ⟨rfl, rfl, rfl⟩ := H
          go_wp2_with (first | ((with_reducible refine gate_dst (N := 31) rfl ?_); refine box_event ?hg (N := 31) ?hd (cs := #[.slice A0 l0.length c0, .int .i64 0, .int .i64 x3_1]) (t := 48) ?hr ?_; (case hd => rfl); (case hg => rfl); (case hr => first | (go_simp; done) | (go_simp; rfl)); intro gb221 hg w5 hbox hb; have n0_ := Aside0.mk (below_step HBW.out hb); have n1_ := Aside0.mk (below_step (by repeat (first | (with_reducible first | exact HB.out | apply below_alloc | apply pw_below_drewN | apply below_drew1) | exact HB.out)) hb); have n2_ := Aside0.mk (hbox); have n3_ := Aside0.mk ((by rw [hg]; exact (below_size (by repeat (first | (with_reducible first | exact HBW.out | apply below_alloc | apply pw_below_drewN | apply below_drew1) | exact HBW.out))) : w.heap.size ≤ gb221)); have n4_ := Aside0.mk ((Nat.le_trans HW0.out (by rw [hg]; exact (below_size (by repeat (first | (with_reducible first | exact HBW.out | apply below_alloc | apply pw_below_drewN | apply below_drew1) | exact HBW.out))) : w.heap.size ≤ gb221) : w0.heap.size ≤ gb221)); clear HBW; clear HB; have HBW := n0_; have HB := n1_; have BK221 := n2_; have GW221 := n3_; have GE221 := n4_; clear n0_ n1_ n2_ n3_ n4_; clear hb hbox hg))
          go_ret
          exact ⟨_, rfl, (show IsS48 w0 _ gb221 l0 0 x3_1 from ⟨_, _, by (with_reducible repeat (first | refine blk_drewN ?_ _ | refine blk_drew ?_ | refine blk_alloc ?_ _)); exact BK221.out, GE221.out, HR0.out⟩), by repeat (first | (with_reducible first | exact HB.out | apply below_alloc | apply pw_below_drewN | apply below_drew1 | refine below_set ?_ GE221.out) | exact HB.out), by repeat (first | (with_reducible first | exact HBW.out | apply below_alloc | apply pw_below_drewN | apply below_drew1 | refine below_set ?_ GW221.out) | exact HBW.out)⟩
      · rw [if_neg c2] at H
        have c2b0 : decide (x4_1 < (l0.length : Int)) = false := decide_eq_false c2
        clear c2
        simp only [Option.some.injEq, Prod.mk.injEq] at H
        obtain ⟨rfl, rfl, rfl⟩ := H
        go_wp2_with (first | ((with_reducible refine gate_dst (N := 31) rfl ?_); refine box_event ?hg (N := 31) ?hd (cs := #[.slice A0 l0.length c0, .int .i64 0, .int .i64 x3_1]) (t := 48) ?hr ?_; (case hd => rfl); (case hg => rfl); (case hr => first | (go_simp; done) | (go_simp; rfl)); intro gb222 hg w6 hbox hb; have n0_ := Aside0.mk (below_step HBW.out hb); have n1_ := Aside0.mk (below_step (by repeat (first | (with_reducible first | exact HB.out | apply below_alloc | apply pw_below_drewN | apply below_drew1) | exact HB.out)) hb); have n2_ := Aside0.mk (hbox); have n3_ := Aside0.mk ((by rw [hg]; exact (below_size (by repeat (first | (with_reducible first | exact HBW.out | apply below_alloc | apply pw_below_drewN | apply below_drew1) | exact HBW.out))) : w.heap.size ≤ gb222)); have n4_ := Aside0.mk ((Nat.le_trans HW0.out (by rw [hg]; exact (below_size (by repeat (first | (with_reducible first | exact HBW.out | apply below_alloc | apply pw_below_drewN | apply below_drew1) | exact HBW.out))) : w.heap.size ≤ gb222) : w0.heap.size ≤ gb222)); clear HBW; clear HB; have HBW := n0_; have HB := n1_; have BK222 := n2_; have GW222 := n3_; have GE222 := n4_; clear n0_ n1_ n2_ n3_ n4_; clear hb hbox hg))
        go_ret
        exact ⟨_, rfl, (show IsS48 w0 _ gb222 l0 0 x3_1 from ⟨_, _, by (with_reducible repeat (first | refine blk_drewN ?_ _ | refine blk_drew ?_ | refine blk_alloc ?_ _)); exact BK222.out, GE222.out, HR0.out⟩), by repeat (first | (with_reducible first | exact HB.out | apply below_alloc | apply pw_below_drewN | apply below_drew1 | refine below_set ?_ GE222.out) | exact HB.out), by repeat (first | (with_reducible first | exact HBW.out | apply below_alloc | apply pw_below_drewN | apply below_drew1 | refine below_set ?_ GW222.out) | exact HBW.out)⟩

/-! ### spec_DrawQuiet: function 5 -/
def spec_DrawQuiet.f (k : Nat) (l0 : List Int) : Option ((List (S30))) := (spec_l01New.f k l0).bind fun bt223 => ((spec_l05Quiet.f k bt223.1 bt223.2.1 bt223.2.2).bind fun bt227 => (some bt227.1))
theorem spec_DrawQuiet.mono : ∀ a0 k, LeO (spec_DrawQuiet.f k a0) (spec_DrawQuiet.f (k + 1) a0) := by
  intro a0 k
  unfold spec_DrawQuiet.f
  repeat' first
      | (with_reducible exact spec_l01New.mono _ _)
      | (with_reducible exact spec_l05Quiet.mono _ _ _ _)
      | (with_reducible exact LeO.refl _)
      | (with_reducible exact LeO.none _)
      | (with_reducible refine LeO.ite ?_ ?_)
      | (with_reducible refine LeO.bind ?_ (fun _ => ?_))
      | exact spec_l01New.mono _ _
      | exact spec_l05Quiet.mono _ _ _ _
      | exact LeO.none _
      | refine LeO.ite ?_ ?_
      | refine LeO.bind ?_ (fun _ => ?_)
set_option maxHeartbeats 8000000 in
set_option maxRecDepth 100000 in
theorem spec_DrawQuiet.calls (k : Nat) (A0 : Option Addr) (c0 : Nat) (l0 : List Int) (r : List (S30)) (w : World) (hr0 : Kd.C (Kd.int .u8) w A0 l0.length l0) (hc0 : l0.length ≤ c0) (h : spec_DrawQuiet.f k l0 = some r) :
    Calls Try.prog 5 #[.slice A0 l0.length c0] w fun e w' => ∃ v0_ : Value, e = .returned (v0_) ∧ Kd.R k30 30 w' w.heap.size (fun _ => True) v0_ r ∧ Below w.heap.size w w' := by
  have HR0 := Aside0.mk hr0
  have HC0 := Aside0.mk hc0
  clear hr0 hc0
  have HB := Aside0.mk (Below.refl w.heap.size w)
  have H : ((spec_l01New.f k l0).bind fun bt223 => ((spec_l05Quiet.f k bt223.1 bt223.2.1 bt223.2.2).bind fun bt227 => (some bt227.1))) = some r := h
  clear h
  replace H := Option.bind_eq_some_iff.mp H
  obtain ⟨⟨t223, t224, t225⟩, A20, H⟩ := H
  replace H : ((spec_l05Quiet.f k t223 t224 t225).bind fun bt227 => (some bt227.1)) = some r := H
  have A2 := Aside0.mk A20
  clear A20
  replace H := Option.bind_eq_some_iff.mp H
  obtain ⟨⟨t227, t230, t231⟩, A30, H⟩ := H
  replace H : (some t227) = some r := H
  have A3 := Aside0.mk A30
  clear A30
  obtain rfl := Option.some.inj H
  go_enter Try.func5, Try.ntmps5
  go_wp2_with (first | ((with_reducible refine gate_callee (f := 10) rfl ?_); refine goesL_ (some 4) rfl rfl Try.func10 (by kernel_rfl) rfl #[.slice A0 l0.length c0] rfl (by (try simp only [List.map_toArray, List.map_cons, List.map_nil]); first | done | rfl | (simp only [List.length_drop, List.length_take]; rfl)) ?_; (with_reducible refine (spec_l01New.calls k _ _ l0 t223 t224 t225 w _ ?side1 ?side2 ?side3 A2.out).mono ?_); (case side1 => repeat (first | (with_reducible first | exact HB.out | apply below_alloc | apply pw_below_drewN | apply below_drew1) | exact HB.out)); (case side2 => exact HR0.out); (case side3 => exact HC0.out); rintro e w4 ⟨g226, rfl, hi, hb, hb2⟩; refine ⟨_, rfl, ?_⟩; have n0_ := Aside0.mk (hb); have n1_ := Aside0.mk (hi); clear HB; have HB := n0_; have HI226 := n1_; clear n0_ n1_; (try clear hb); (try clear hb2); (try clear hk); (try clear hi)) | ((with_reducible refine gate_callee (f := 9) rfl ?_); refine goesL_ (some 5) rfl rfl Try.func9 (by kernel_rfl) rfl #[.pointer (some ⟨g226, 0, none⟩)] rfl (by (try simp only [List.map_toArray, List.map_cons, List.map_nil]); first | done | rfl | (simp only [List.length_drop, List.length_take]; rfl)) ?_; (with_reducible refine (spec_l05Quiet.calls k g226 t223 t224 t225 t227 t230 t231 w _ ?side1 ?side2 A3.out).mono ?_); (case side1 => repeat (first | (with_reducible first | exact HI226.out | apply IsS48.alloc | apply IsS48.drewN | apply IsS48.drew | apply IsS48.set_1 | apply IsS48.set_2) | exact HI226.out)); (case side2 => repeat (first | (with_reducible first | exact HB.out | apply below_alloc | apply pw_below_drewN | apply below_drew1 | refine below_set ?_ (IsS48.ge HI226.out)) | exact HB.out)); rintro e w5 ⟨v228, rfl, ho0, hi, hb, hk⟩; refine ⟨_, rfl, ?_⟩; have n0_ := Aside0.mk (Kd.R_lower ho0 (below_size (by repeat (first | (with_reducible first | exact HB.out | apply below_alloc | apply pw_below_drewN | apply below_drew1 | refine below_set ?_ (IsS48.ge HI226.out)) | exact HB.out)))); have n1_ := Aside0.mk (hb); have n2_ := Aside0.mk (hi); clear HB; clear HI226; have HO229 := n0_; have HB := n1_; have HI226 := n2_; clear n0_ n1_ n2_; (try clear hb); (try clear hb2); (try clear hk); (try clear hi); (try clear ho0)))
  go_ret
  exact ⟨_, by first | rfl | (simp [errW_none, errW_some] <;> rfl) | (simp [*, errW_none, errW_some] <;> rfl), by (with_reducible repeat (first | apply Kd.R_alloc | apply Kd.R_drewN | apply Kd.R_drew)); exact HO229.out, by repeat (first | (with_reducible first | exact HB.out | apply below_alloc | apply pw_below_drewN | apply below_drew1 | refine below_set ?_ (IsS48.ge HI226.out)) | exact HB.out)⟩

/-! ### impl_within: function 21 -/
def impl_within.f (a0 : Int) (a1 : Int) (a2 : Int) : Option (Bool) := if a0 ≥ a1 then (some (decide (a0 ≤ a2))) else (some false)
set_option maxHeartbeats 8000000 in
set_option maxRecDepth 100000 in
theorem impl_within.calls (a0 : Int) (a1 : Int) (a2 : Int) (r : Bool) (w : World) (h : impl_within.f a0 a1 a2 = some r) :
    Calls Try.prog 21 #[.int .i64 a0, .int .i64 a1, .int .i64 a2] w fun e w' => e = .returned (.bool r) ∧ Drawn0 w w' := by
  have H : (if a0 ≥ a1 then (some (decide (a0 ≤ a2))) else (some false)) = some r := h
  clear h
  by_cases c4 : a0 ≥ a1
  · rw [if_pos c4] at H
    have c4b0 : decide (a1 ≤ a0) = true := decide_eq_true c4
    clear c4
    obtain rfl := Option.some.inj H
    go_enter Try.func21, Try.ntmps21
    go_wp2
    go_ret
    exact ⟨by first | rfl | (simp; done) | (simp [*]; done), by repeat (first | exact Drawn0.refl _ | apply Drawn0.step)⟩
  · rw [if_neg c4] at H
    have c4b0 : decide (a1 ≤ a0) = false := decide_eq_false c4
    clear c4
    obtain rfl := Option.some.inj H
    go_enter Try.func21, Try.ntmps21
    go_wp2
    go_ret
    exact ⟨by first | rfl | (simp; done) | (simp [*]; done), by repeat (first | exact Drawn0.refl _ | apply Drawn0.step)⟩

/-! ### impl_formOf: function 43 -/
def impl_formOf.f (a0 : Int) : Option (ByteArray) := (impl_within.f a0 0 16).bind fun t232 => (if t232 = true then ((some (([(⟨#[45, 45, 45]⟩ : ByteArray), (⟨#[82, 87, 45]⟩ : ByteArray), (⟨#[82, 82, 45]⟩ : ByteArray), (⟨#[82, 82, 82]⟩ : ByteArray), (⟨#[82, 82, 82]⟩ : ByteArray), (⟨#[82, 82, 82]⟩ : ByteArray), (⟨#[82, 82, 82]⟩ : ByteArray), (⟨#[82, 82, 82]⟩ : ByteArray), (⟨#[82, 45, 45]⟩ : ByteArray), (⟨#[82, 82, 82]⟩ : ByteArray), (⟨#[82, 84, 45]⟩ : ByteArray), (⟨#[45, 84, 45]⟩ : ByteArray), (⟨#[45, 45, 45]⟩ : ByteArray), (⟨#[82, 82, 45]⟩ : ByteArray), (⟨#[82, 82, 45]⟩ : ByteArray), (⟨#[82, 82, 45]⟩ : ByteArray), (⟨#[45, 45, 45]⟩ : ByteArray)] : List ByteArray) : List ByteArray)).bind fun y233 => (if 0 ≤ a0 then (if a0 < (y233.length : Int) then (some (rdOf ByteArray.empty y233 a0)) else (none)) else (none))) else (some (⟨#[]⟩ : ByteArray)))
set_option maxHeartbeats 8000000 in
set_option maxRecDepth 100000 in
theorem impl_formOf.calls (a0 : Int) (r : ByteArray) (w : World) (h : impl_formOf.f a0 = some r) :
    Calls Try.prog 43 #[.int .i64 a0] w fun e w' => e = .returned (.string r) ∧ Below w.heap.size w w' := by
  have HB := Aside0.mk (Below.refl w.heap.size w)
  have H : ((impl_within.f a0 0 16).bind fun t232 => (if t232 = true then ((some (([(⟨#[45, 45, 45]⟩ : ByteArray), (⟨#[82, 87, 45]⟩ : ByteArray), (⟨#[82, 82, 45]⟩ : ByteArray), (⟨#[82, 82, 82]⟩ : ByteArray), (⟨#[82, 82, 82]⟩ : ByteArray), (⟨#[82, 82, 82]⟩ : ByteArray), (⟨#[82, 82, 82]⟩ : ByteArray), (⟨#[82, 82, 82]⟩ : ByteArray), (⟨#[82, 45, 45]⟩ : ByteArray), (⟨#[82, 82, 82]⟩ : ByteArray), (⟨#[82, 84, 45]⟩ : ByteArray), (⟨#[45, 84, 45]⟩ : ByteArray), (⟨#[45, 45, 45]⟩ : ByteArray), (⟨#[82, 82, 45]⟩ : ByteArray), (⟨#[82, 82, 45]⟩ : ByteArray), (⟨#[82, 82, 45]⟩ : ByteArray), (⟨#[45, 45, 45]⟩ : ByteArray)] : List ByteArray) : List ByteArray)).bind fun y233 => (if 0 ≤ a0 then (if a0 < (y233.length : Int) then (some (rdOf ByteArray.empty y233 a0)) else (none)) else (none))) else (some (⟨#[]⟩ : ByteArray)))) = some r := h
  clear h
  replace H := Option.bind_eq_some_iff.mp H
  obtain ⟨t232, A20, H⟩ := H
  replace H : (if t232 = true then ((some (([(⟨#[45, 45, 45]⟩ : ByteArray), (⟨#[82, 87, 45]⟩ : ByteArray), (⟨#[82, 82, 45]⟩ : ByteArray), (⟨#[82, 82, 82]⟩ : ByteArray), (⟨#[82, 82, 82]⟩ : ByteArray), (⟨#[82, 82, 82]⟩ : ByteArray), (⟨#[82, 82, 82]⟩ : ByteArray), (⟨#[82, 82, 82]⟩ : ByteArray), (⟨#[82, 45, 45]⟩ : ByteArray), (⟨#[82, 82, 82]⟩ : ByteArray), (⟨#[82, 84, 45]⟩ : ByteArray), (⟨#[45, 84, 45]⟩ : ByteArray), (⟨#[45, 45, 45]⟩ : ByteArray), (⟨#[82, 82, 45]⟩ : ByteArray), (⟨#[82, 82, 45]⟩ : ByteArray), (⟨#[82, 82, 45]⟩ : ByteArray), (⟨#[45, 45, 45]⟩ : ByteArray)] : List ByteArray) : List ByteArray)).bind fun y233 => (if 0 ≤ a0 then (if a0 < (y233.length : Int) then (some (rdOf ByteArray.empty y233 a0)) else (none)) else (none))) else (some (⟨#[]⟩ : ByteArray))) = some r := H
  have A2 := Aside0.mk A20
  clear A20
  by_cases c3 : t232 = true
  · subst c3
    have H1 : ((some (([(⟨#[45, 45, 45]⟩ : ByteArray), (⟨#[82, 87, 45]⟩ : ByteArray), (⟨#[82, 82, 45]⟩ : ByteArray), (⟨#[82, 82, 82]⟩ : ByteArray), (⟨#[82, 82, 82]⟩ : ByteArray), (⟨#[82, 82, 82]⟩ : ByteArray), (⟨#[82, 82, 82]⟩ : ByteArray), (⟨#[82, 82, 82]⟩ : ByteArray), (⟨#[82, 45, 45]⟩ : ByteArray), (⟨#[82, 82, 82]⟩ : ByteArray), (⟨#[82, 84, 45]⟩ : ByteArray), (⟨#[45, 84, 45]⟩ : ByteArray), (⟨#[45, 45, 45]⟩ : ByteArray), (⟨#[82, 82, 45]⟩ : ByteArray), (⟨#[82, 82, 45]⟩ : ByteArray), (⟨#[82, 82, 45]⟩ : ByteArray), (⟨#[45, 45, 45]⟩ : ByteArray)] : List ByteArray) : List ByteArray)).bind fun y233 => (if 0 ≤ a0 then (if a0 < (y233.length : Int) then (some (rdOf ByteArray.empty y233 a0)) else (none)) else (none))) = some r := by rw [if_pos rfl] at H; exact H
    clear H
    have H := H1
    clear H1
    obtain ⟨y233, hy233⟩ : ∃ y_ : List ByteArray, y_ = (([(⟨#[45, 45, 45]⟩ : ByteArray), (⟨#[82, 87, 45]⟩ : ByteArray), (⟨#[82, 82, 45]⟩ : ByteArray), (⟨#[82, 82, 82]⟩ : ByteArray), (⟨#[82, 82, 82]⟩ : ByteArray), (⟨#[82, 82, 82]⟩ : ByteArray), (⟨#[82, 82, 82]⟩ : ByteArray), (⟨#[82, 82, 82]⟩ : ByteArray), (⟨#[82, 45, 45]⟩ : ByteArray), (⟨#[82, 82, 82]⟩ : ByteArray), (⟨#[82, 84, 45]⟩ : ByteArray), (⟨#[45, 84, 45]⟩ : ByteArray), (⟨#[45, 45, 45]⟩ : ByteArray), (⟨#[82, 82, 45]⟩ : ByteArray), (⟨#[82, 82, 45]⟩ : ByteArray), (⟨#[82, 82, 45]⟩ : ByteArray), (⟨#[45, 45, 45]⟩ : ByteArray)] : List ByteArray)) := ⟨_, rfl⟩
    replace H : (if 0 ≤ a0 then (if a0 < (y233.length : Int) then (some (rdOf ByteArray.empty y233 a0)) else (none)) else (none)) = some r := by first | (rw [hy233]; with_reducible exact H) | (have H2_ := (Option.bind_some _ _).symm.trans H; rw [hy233]; with_reducible exact H2_) | (have H2_ := (Option.bind_some _ _).symm.trans H; with_reducible exact H2_) | with_reducible exact H | (rw [hy233]; exact H) | exact H
    have Ny233 := Aside0.mk hy233
    clear hy233
    by_cases c4 : 0 ≤ a0
    · rw [if_pos c4] at H
      have c4b0 : decide (0 ≤ a0) = true := decide_eq_true c4
      clear c4
      by_cases c5 : a0 < (y233.length : Int)
      · rw [if_pos c5] at H
        have c5b0 : decide (a0 < (y233.length : Int)) = true := decide_eq_true c5
        clear c5
        obtain rfl := Option.some.inj H
        go_enter Try.func43, Try.ntmps43
        go_wp2_with (first | ((with_reducible refine gate_callee (f := 21) rfl ?_); refine goesL_ (some 4) rfl rfl Try.func21 (by kernel_rfl) rfl #[.int .i64 a0, .int .i64 0, .int .i64 16] rfl (by (try simp only [List.map_toArray, List.map_cons, List.map_nil]); first | done | rfl | (simp only [List.length_drop, List.length_take]; rfl)) ?_; (with_reducible refine (impl_within.calls a0 0 16 true _ A2.out).mono ?_); rintro e w' ⟨rfl, ⟨nd, rfl⟩⟩; refine ⟨_, rfl, ?_⟩) | ((with_reducible refine gate_dst (N := 6) rfl ?_); refine Kd.R_lit Kd.string _ 9 ?hg (N := 6) ?hd (xs := ([(⟨#[45, 45, 45]⟩ : ByteArray), (⟨#[82, 87, 45]⟩ : ByteArray), (⟨#[82, 82, 45]⟩ : ByteArray), (⟨#[82, 82, 82]⟩ : ByteArray), (⟨#[82, 82, 82]⟩ : ByteArray), (⟨#[82, 82, 82]⟩ : ByteArray), (⟨#[82, 82, 82]⟩ : ByteArray), (⟨#[82, 82, 82]⟩ : ByteArray), (⟨#[82, 45, 45]⟩ : ByteArray), (⟨#[82, 82, 82]⟩ : ByteArray), (⟨#[82, 84, 45]⟩ : ByteArray), (⟨#[45, 84, 45]⟩ : ByteArray), (⟨#[45, 45, 45]⟩ : ByteArray), (⟨#[82, 82, 45]⟩ : ByteArray), (⟨#[82, 82, 45]⟩ : ByteArray), (⟨#[82, 82, 45]⟩ : ByteArray), (⟨#[45, 45, 45]⟩ : ByteArray)] : List ByteArray)) (inner := [.string (⟨#[45, 45, 45]⟩ : ByteArray), .string (⟨#[82, 87, 45]⟩ : ByteArray), .string (⟨#[82, 82, 45]⟩ : ByteArray), .string (⟨#[82, 82, 82]⟩ : ByteArray), .string (⟨#[82, 82, 82]⟩ : ByteArray), .string (⟨#[82, 82, 82]⟩ : ByteArray), .string (⟨#[82, 82, 82]⟩ : ByteArray), .string (⟨#[82, 82, 82]⟩ : ByteArray), .string (⟨#[82, 45, 45]⟩ : ByteArray), .string (⟨#[82, 82, 82]⟩ : ByteArray), .string (⟨#[82, 84, 45]⟩ : ByteArray), .string (⟨#[45, 84, 45]⟩ : ByteArray), .string (⟨#[45, 45, 45]⟩ : ByteArray), .string (⟨#[82, 82, 45]⟩ : ByteArray), .string (⟨#[82, 82, 45]⟩ : ByteArray), .string (⟨#[82, 82, 45]⟩ : ByteArray), .string (⟨#[45, 45, 45]⟩ : ByteArray)]) (ok := fun _ => True) (okp := fun _ => True) ?hr ?hp (fun _ hk => hk) trivial (Below.refl _ _) (Nat.le_refl _) (by simp) ?_; (case hd => rfl); (case hg => rfl); (case hr => first | (go_simp; done) | (go_simp; rfl)); (case hp => exact (Reps.one (show Kd.M Kd.string _ _ _ (⟨#[45, 45, 45]⟩ : ByteArray) [.string (⟨#[45, 45, 45]⟩ : ByteArray)] from rfl) (Reps.one (show Kd.M Kd.string _ _ _ (⟨#[82, 87, 45]⟩ : ByteArray) [.string (⟨#[82, 87, 45]⟩ : ByteArray)] from rfl) (Reps.one (show Kd.M Kd.string _ _ _ (⟨#[82, 82, 45]⟩ : ByteArray) [.string (⟨#[82, 82, 45]⟩ : ByteArray)] from rfl) (Reps.one (show Kd.M Kd.string _ _ _ (⟨#[82, 82, 82]⟩ : ByteArray) [.string (⟨#[82, 82, 82]⟩ : ByteArray)] from rfl) (Reps.one (show Kd.M Kd.string _ _ _ (⟨#[82, 82, 82]⟩ : ByteArray) [.string (⟨#[82, 82, 82]⟩ : ByteArray)] from rfl) (Reps.one (show Kd.M Kd.string _ _ _ (⟨#[82, 82, 82]⟩ : ByteArray) [.string (⟨#[82, 82, 82]⟩ : ByteArray)] from rfl) (Reps.one (show Kd.M Kd.string _ _ _ (⟨#[82, 82, 82]⟩ : ByteArray) [.string (⟨#[82, 82, 82]⟩ : ByteArray)] from rfl) (Reps.one (show Kd.M Kd.string _ _ _ (⟨#[82, 82, 82]⟩ : ByteArray) [.string (⟨#[82, 82, 82]⟩ : ByteArray)] from rfl) (Reps.one (show Kd.M Kd.string _ _ _ (⟨#[82, 45, 45]⟩ : ByteArray) [.string (⟨#[82, 45, 45]⟩ : ByteArray)] from rfl) (Reps.one (show Kd.M Kd.string _ _ _ (⟨#[82, 82, 82]⟩ : ByteArray) [.string (⟨#[82, 82, 82]⟩ : ByteArray)] from rfl) (Reps.one (show Kd.M Kd.string _ _ _ (⟨#[82, 84, 45]⟩ : ByteArray) [.string (⟨#[82, 84, 45]⟩ : ByteArray)] from rfl) (Reps.one (show Kd.M Kd.string _ _ _ (⟨#[45, 84, 45]⟩ : ByteArray) [.string (⟨#[45, 84, 45]⟩ : ByteArray)] from rfl) (Reps.one (show Kd.M Kd.string _ _ _ (⟨#[45, 45, 45]⟩ : ByteArray) [.string (⟨#[45, 45, 45]⟩ : ByteArray)] from rfl) (Reps.one (show Kd.M Kd.string _ _ _ (⟨#[82, 82, 45]⟩ : ByteArray) [.string (⟨#[82, 82, 45]⟩ : ByteArray)] from rfl) (Reps.one (show Kd.M Kd.string _ _ _ (⟨#[82, 82, 45]⟩ : ByteArray) [.string (⟨#[82, 82, 45]⟩ : ByteArray)] from rfl) (Reps.one (show Kd.M Kd.string _ _ _ (⟨#[82, 82, 45]⟩ : ByteArray) [.string (⟨#[82, 82, 45]⟩ : ByteArray)] from rfl) (Reps.one (show Kd.M Kd.string _ _ _ (⟨#[45, 45, 45]⟩ : ByteArray) [.string (⟨#[45, 45, 45]⟩ : ByteArray)] from rfl) (Reps.none _ _))))))))))))))))))); intro v234 w6 ho7 hb hg_ hnew_; clear hg_ hnew_; (first | rw [← Ny233.out] at ho7 | (simp only [Int.reduceToNat] at ho7; rw [← Ny233.out] at ho7)); have n0_ := Aside0.mk (Kd.R_lower ho7 (below_size (by repeat (first | (with_reducible first | exact HB.out | apply below_alloc | apply pw_below_drewN | apply below_drew1) | exact HB.out)))); have n1_ := Aside0.mk (below_step (by repeat (first | (with_reducible first | exact HB.out | apply below_alloc | apply pw_below_drewN | apply below_drew1) | exact HB.out)) hb); clear HB; have HO235 := n0_; have HB := n1_; clear n0_ n1_; clear hb ho7; obtain ⟨Ao8, co8, eo8⟩ := Kd.R_slice HO235.out; subst eo8; have p236 : 0 ≤ (a0 : Int) := of_decide_eq_true (by first | (with_reducible assumption) | assumption); have q236 : a0 < (y233.length : Int) := of_decide_eq_true (by first | (with_reducible assumption) | assumption); obtain ⟨ad236, e236, hx236_0⟩ := Kd.at_string (Kd.R_reads' HO235.out).2.2 a0 p236 q236; cases e236; replace p236 := eq_true p236; replace q236 := eq_true q236))
        go_ret
        exact ⟨by first | rfl | (simp [errW_none, errW_some] <;> rfl) | (simp [*, errW_none, errW_some] <;> rfl), by repeat (first | (with_reducible first | exact HB.out | apply below_alloc | apply pw_below_drewN | apply below_drew1) | exact HB.out)⟩
      · rw [if_neg c5] at H
        exact absurd H (by simp)
    · rw [if_neg c4] at H
      exact absurd H (by simp)
  · replace c3 := Bool.eq_false_iff.mpr c3
    subst c3
    have H1 : (some (⟨#[]⟩ : ByteArray)) = some r := by rw [if_neg (show ¬ (false = true) by decide)] at H; exact H
    clear H
    have H := H1
    clear H1
    obtain rfl := Option.some.inj H
    go_enter Try.func43, Try.ntmps43
    go_wp2_with (first | ((with_reducible refine gate_callee (f := 21) rfl ?_); refine goesL_ (some 4) rfl rfl Try.func21 (by kernel_rfl) rfl #[.int .i64 a0, .int .i64 0, .int .i64 16] rfl (by (try simp only [List.map_toArray, List.map_cons, List.map_nil]); first | done | rfl | (simp only [List.length_drop, List.length_take]; rfl)) ?_; (with_reducible refine (impl_within.calls a0 0 16 false _ A2.out).mono ?_); rintro e w' ⟨rfl, ⟨nd, rfl⟩⟩; refine ⟨_, rfl, ?_⟩))
    go_ret
    exact ⟨by first | rfl | (simp [errW_none, errW_some] <;> rfl) | (simp [*, errW_none, errW_some] <;> rfl), by repeat (first | (with_reducible first | exact HB.out | apply below_alloc | apply pw_below_drewN | apply below_drew1) | exact HB.out)⟩

/-! ### impl_isReg: function 60 -/
def impl_isReg.f (a0 : Int) : Option (Bool) := (impl_within.f a0 0 3).bind fun t237 => (some t237)
set_option maxHeartbeats 8000000 in
set_option maxRecDepth 100000 in
theorem impl_isReg.calls (a0 : Int) (r : Bool) (w : World) (h : impl_isReg.f a0 = some r) :
    Calls Try.prog 60 #[.int .i64 a0] w fun e w' => e = .returned (.bool r) ∧ Drawn0 w w' := by
  have H : ((impl_within.f a0 0 3).bind fun t237 => (some t237)) = some r := h
  clear h
  replace H := Option.bind_eq_some_iff.mp H
  obtain ⟨t237, A20, H⟩ := H
  replace H : (some t237) = some r := H
  have A2 := Aside0.mk A20
  clear A20
  obtain rfl := Option.some.inj H
  go_enter Try.func60, Try.ntmps60
  go_wp2_with (first | ((with_reducible refine gate_callee (f := 21) rfl ?_); refine goesL_ (some 4) rfl rfl Try.func21 (by kernel_rfl) rfl #[.int .i64 a0, .int .i64 0, .int .i64 3] rfl (by (try simp only [List.map_toArray, List.map_cons, List.map_nil]); first | done | rfl | (simp only [List.length_drop, List.length_take]; rfl)) ?_; (with_reducible refine (impl_within.calls a0 0 3 t237 _ A2.out).mono ?_); rintro e w' ⟨rfl, ⟨nd, rfl⟩⟩; refine ⟨_, rfl, ?_⟩))
  go_ret
  exact ⟨by first | rfl | (simp; done) | (simp [*]; done), by repeat (first | exact Drawn0.refl _ | apply Drawn0.step)⟩

/-! ### impl_IsWord: function 61 -/
def impl_IsWord.f (a0 : Int) : Option (Bool) := (impl_within.f a0 0 65535).bind fun t238 => (some t238)
set_option maxHeartbeats 8000000 in
set_option maxRecDepth 100000 in
theorem impl_IsWord.calls (a0 : Int) (r : Bool) (w : World) (h : impl_IsWord.f a0 = some r) :
    Calls Try.prog 61 #[.int .i64 a0] w fun e w' => e = .returned (.bool r) ∧ Drawn0 w w' := by
  have H : ((impl_within.f a0 0 65535).bind fun t238 => (some t238)) = some r := h
  clear h
  replace H := Option.bind_eq_some_iff.mp H
  obtain ⟨t238, A20, H⟩ := H
  replace H : (some t238) = some r := H
  have A2 := Aside0.mk A20
  clear A20
  obtain rfl := Option.some.inj H
  go_enter Try.func61, Try.ntmps61
  go_wp2_with (first | ((with_reducible refine gate_callee (f := 21) rfl ?_); refine goesL_ (some 4) rfl rfl Try.func21 (by kernel_rfl) rfl #[.int .i64 a0, .int .i64 0, .int .i64 65535] rfl (by (try simp only [List.map_toArray, List.map_cons, List.map_nil]); first | done | rfl | (simp only [List.length_drop, List.length_take]; rfl)) ?_; (with_reducible refine (impl_within.calls a0 0 65535 t238 _ A2.out).mono ?_); rintro e w' ⟨rfl, ⟨nd, rfl⟩⟩; refine ⟨_, rfl, ?_⟩))
  go_ret
  exact ⟨by first | rfl | (simp; done) | (simp [*]; done), by repeat (first | exact Drawn0.refl _ | apply Drawn0.step)⟩

/-! ### impl_isField: function 44 -/
def impl_isField.f (a0 : Int) (a1 : Int) (a2 : Int) : Option (Bool) := if a0 = 82 then ((impl_isReg.f a1).bind fun t239 => (some t239)) else (if a0 = 87 then ((impl_IsWord.f a1).bind fun t240 => (some t240)) else (if a0 = 84 then ((impl_within.f a1 0 a2).bind fun t241 => (some t241)) else (some (a1 == 0))))
set_option maxHeartbeats 8000000 in
set_option maxRecDepth 100000 in
theorem impl_isField.calls (a0 : Int) (a1 : Int) (a2 : Int) (r : Bool) (w : World) (h : impl_isField.f a0 a1 a2 = some r) :
    Calls Try.prog 44 #[.int .u8 a0, .int .i64 a1, .int .i64 a2] w fun e w' => e = .returned (.bool r) ∧ Drawn0 w w' := by
  have H : (if a0 = 82 then ((impl_isReg.f a1).bind fun t239 => (some t239)) else (if a0 = 87 then ((impl_IsWord.f a1).bind fun t240 => (some t240)) else (if a0 = 84 then ((impl_within.f a1 0 a2).bind fun t241 => (some t241)) else (some (a1 == 0))))) = some r := h
  clear h
  by_cases c4 : a0 = 82
  · rw [if_pos c4] at H
    have c4b0 : (a0 == 82) = true := beq_iff_eq.mpr c4
    have c4b1 : (a0 != 82) = false := bne_eq_false_iff_eq.mpr c4
    clear c4
    replace H := Option.bind_eq_some_iff.mp H
    obtain ⟨t239, A50, H⟩ := H
    replace H : (some t239) = some r := H
    have A5 := Aside0.mk A50
    clear A50
    obtain rfl := Option.some.inj H
    go_enter Try.func44, Try.ntmps44
    go_wp2_with (first | ((with_reducible refine gate_callee (f := 60) rfl ?_); refine goesL_ (some 11) rfl rfl Try.func60 (by kernel_rfl) rfl #[.int .i64 a1] rfl (by (try simp only [List.map_toArray, List.map_cons, List.map_nil]); first | done | rfl | (simp only [List.length_drop, List.length_take]; rfl)) ?_; (with_reducible refine (impl_isReg.calls a1 t239 _ A5.out).mono ?_); rintro e w' ⟨rfl, ⟨nd, rfl⟩⟩; refine ⟨_, rfl, ?_⟩))
    go_ret
    exact ⟨by first | rfl | (simp; done) | (simp [*]; done), by repeat (first | exact Drawn0.refl _ | apply Drawn0.step)⟩
  · rw [if_neg c4] at H
    have c4b0 : (a0 == 82) = false := beq_eq_false_iff_ne.mpr c4
    have c4b1 : (a0 != 82) = true := bne_iff_ne.mpr c4
    by_cases c6 : a0 = 87
    · rw [if_pos c6] at H
      have c6b0 : (a0 == 87) = true := beq_iff_eq.mpr c6
      have c6b1 : (a0 != 87) = false := bne_eq_false_iff_eq.mpr c6
      clear c6
      replace H := Option.bind_eq_some_iff.mp H
      obtain ⟨t240, A70, H⟩ := H
      replace H : (some t240) = some r := H
      have A7 := Aside0.mk A70
      clear A70
      obtain rfl := Option.some.inj H
      go_enter Try.func44, Try.ntmps44
      go_wp2_with (first | ((with_reducible refine gate_callee (f := 61) rfl ?_); refine goesL_ (some 15) rfl rfl Try.func61 (by kernel_rfl) rfl #[.int .i64 a1] rfl (by (try simp only [List.map_toArray, List.map_cons, List.map_nil]); first | done | rfl | (simp only [List.length_drop, List.length_take]; rfl)) ?_; (with_reducible refine (impl_IsWord.calls a1 t240 _ A7.out).mono ?_); rintro e w' ⟨rfl, ⟨nd, rfl⟩⟩; refine ⟨_, rfl, ?_⟩))
      go_ret
      exact ⟨by first | rfl | (simp; done) | (simp [*]; done), by repeat (first | exact Drawn0.refl _ | apply Drawn0.step)⟩
    · rw [if_neg c6] at H
      have c6b0 : (a0 == 87) = false := beq_eq_false_iff_ne.mpr c6
      have c6b1 : (a0 != 87) = true := bne_iff_ne.mpr c6
      by_cases c8 : a0 = 84
      · rw [if_pos c8] at H
        have c8b0 : (a0 == 84) = true := beq_iff_eq.mpr c8
        have c8b1 : (a0 != 84) = false := bne_eq_false_iff_eq.mpr c8
        clear c8
        replace H := Option.bind_eq_some_iff.mp H
        obtain ⟨t241, A90, H⟩ := H
        replace H : (some t241) = some r := H
        have A9 := Aside0.mk A90
        clear A90
        obtain rfl := Option.some.inj H
        go_enter Try.func44, Try.ntmps44
        go_wp2_with (first | ((with_reducible refine gate_callee (f := 21) rfl ?_); refine goesL_ (some 20) rfl rfl Try.func21 (by kernel_rfl) rfl #[.int .i64 a1, .int .i64 0, .int .i64 a2] rfl (by (try simp only [List.map_toArray, List.map_cons, List.map_nil]); first | done | rfl | (simp only [List.length_drop, List.length_take]; rfl)) ?_; (with_reducible refine (impl_within.calls a1 0 a2 t241 _ A9.out).mono ?_); rintro e w' ⟨rfl, ⟨nd, rfl⟩⟩; refine ⟨_, rfl, ?_⟩))
        go_ret
        exact ⟨by first | rfl | (simp; done) | (simp [*]; done), by repeat (first | exact Drawn0.refl _ | apply Drawn0.step)⟩
      · rw [if_neg c8] at H
        have c8b0 : (a0 == 84) = false := beq_eq_false_iff_ne.mpr c8
        have c8b1 : (a0 != 84) = true := bne_iff_ne.mpr c8
        obtain rfl := Option.some.inj H
        go_enter Try.func44, Try.ntmps44
        go_wp2
        go_ret
        exact ⟨by first | rfl | (simp; done) | (simp [*]; done), by repeat (first | exact Drawn0.refl _ | apply Drawn0.step)⟩

/-! ### impl_InsOk: function 22 -/
def impl_InsOk.f (a0_0 : Int) (a0_1 : Int) (a0_2 : Int) (a0_3 : Int) (a1 : Int) : Option (Bool) := (impl_formOf.f a0_0).bind fun t => (if t.toList = ([] : List UInt8) then (some false) else ((impl_within.f a1 0 32).bind fun t213 => (if t213 = true then (if 0 < (t.size : Int) then ((impl_isField.f (bt t 0) a0_1 a1).bind fun t214 => (if t214 = true then (if 1 < (t.size : Int) then ((impl_isField.f (bt t 1) a0_2 a1).bind fun t215 => (if t215 = true then (if 2 < (t.size : Int) then ((impl_isField.f (bt t 2) a0_3 a1).bind fun t216 => (some t216)) else (none)) else (some false))) else (none)) else (some false))) else (none)) else (some false))))
theorem quiet_dr {P : Program} {f : FuncId} {args : Array Value} {w : World} {n : Nat} {v : Value} (h : Calls P f args (w.drewN n) fun e w' => e = .returned v ∧ Drawn0 (w.drewN n) w') :
    Calls P f args (w.drewN n) fun e w'' => e = .returned v ∧ ∃ m, w'' = w.drewN m :=
  h.mono fun _ _ ⟨he, hm⟩ => by
    obtain ⟨m, hm⟩ := hm.out
    exact ⟨he, n + m, by rw [hm, World.drewN_drewN]⟩
set_option maxHeartbeats 2000000 in
set_option maxRecDepth 100000 in
theorem impl_InsOk.w0 (a0_0 : Int) (a0_1 : Int) (a0_2 : Int) (a0_3 : Int) (a1 : Int) (t : ByteArray) (w : World) (HT : Aside0 (impl_formOf.f a0_0 = some t)) (hne : t.toList = []) :
    Calls Try.prog 22 #[.agg #[.int .i64 a0_0, .int .i64 a0_1, .int .i64 a0_2, .int .i64 a0_3], .int .i64 a1] w fun e w' => e = .returned (.bool false) ∧ Below w.heap.size w w' := by
  have hu43 := Try.underlying30
  have s1 : (t.toList == ([] : List UInt8)) = true := beq_iff_eq.mpr hne
  have s2 : (t.toList != ([] : List UInt8)) = false := bne_eq_false_iff_eq.mpr hne
  clear hne
  go_enter Try.func22, Try.ntmps22
  go_wp2_with (first | ((with_reducible refine gate_dst (N := 2) rfl ?_); refine box_event ?hg (N := 2) ?hd (cs := #[.int .i64 a0_0, .int .i64 a0_1, .int .i64 a0_2, .int .i64 a0_3]) (t := 30) ?hr ?_; (case hd => rfl); (case hg => rfl); (case hr => first | (go_simp; done) | (go_simp; rfl)); intro gb hgb w1 hbox hb; have HB := Aside0.mk hb; have BX := Aside0.mk hbox; have hz0 : w1.cell? ⟨gb, 0, none⟩ = some (.int .i64 a0_0) := (blk_cell hbox 0).trans rfl; clear hgb hb hbox) | (go_at_call 43; (with_reducible refine (impl_formOf.calls a0_0 t _ HT.out).mono ?_); rintro e w2 ⟨rfl, hb⟩; have HB2 := Aside0.mk (below_step HB.out hb); have z := blk_below BX.out hb; have z1 : w2.cell? ⟨gb, 1, none⟩ = some (.int .i64 a0_1) := (blk_cell z 1).trans rfl; have z2 : w2.cell? ⟨gb, 2, none⟩ = some (.int .i64 a0_2) := (blk_cell z 2).trans rfl; have z3 : w2.cell? ⟨gb, 3, none⟩ = some (.int .i64 a0_3) := (blk_cell z 3).trans rfl; clear hb z hz0))
  go_quiet (fail)
  go_wp2
  go_ret
  exact ⟨rfl, pw_below_drewN HB2.out _⟩
set_option maxHeartbeats 2000000 in
set_option maxRecDepth 100000 in
theorem impl_InsOk.w1 (a0_0 : Int) (a0_1 : Int) (a0_2 : Int) (a0_3 : Int) (a1 : Int) (t : ByteArray) (w : World) (HT : Aside0 (impl_formOf.f a0_0 = some t)) (hne : t.toList ≠ []) (HW : Aside0 (impl_within.f a1 0 32 = some false)) :
    Calls Try.prog 22 #[.agg #[.int .i64 a0_0, .int .i64 a0_1, .int .i64 a0_2, .int .i64 a0_3], .int .i64 a1] w fun e w' => e = .returned (.bool false) ∧ Below w.heap.size w w' := by
  have hu43 := Try.underlying30
  have s1 : (t.toList == ([] : List UInt8)) = false := beq_eq_false_iff_ne.mpr hne
  have s2 : (t.toList != ([] : List UInt8)) = true := bne_iff_ne.mpr hne
  clear hne
  go_enter Try.func22, Try.ntmps22
  go_wp2_with (first | ((with_reducible refine gate_dst (N := 2) rfl ?_); refine box_event ?hg (N := 2) ?hd (cs := #[.int .i64 a0_0, .int .i64 a0_1, .int .i64 a0_2, .int .i64 a0_3]) (t := 30) ?hr ?_; (case hd => rfl); (case hg => rfl); (case hr => first | (go_simp; done) | (go_simp; rfl)); intro gb hgb w1 hbox hb; have HB := Aside0.mk hb; have BX := Aside0.mk hbox; have hz0 : w1.cell? ⟨gb, 0, none⟩ = some (.int .i64 a0_0) := (blk_cell hbox 0).trans rfl; clear hgb hb hbox) | (go_at_call 43; (with_reducible refine (impl_formOf.calls a0_0 t _ HT.out).mono ?_); rintro e w2 ⟨rfl, hb⟩; have HB2 := Aside0.mk (below_step HB.out hb); have z := blk_below BX.out hb; have z1 : w2.cell? ⟨gb, 1, none⟩ = some (.int .i64 a0_1) := (blk_cell z 1).trans rfl; have z2 : w2.cell? ⟨gb, 2, none⟩ = some (.int .i64 a0_2) := (blk_cell z 2).trans rfl; have z3 : w2.cell? ⟨gb, 3, none⟩ = some (.int .i64 a0_3) := (blk_cell z 3).trans rfl; clear hb z hz0))
  go_quiet ((first | (go_at_call 21; with_reducible exact quiet_dr (impl_within.calls a1 0 32 _ _ HW.out))))
  go_wp2
  go_ret
  exact ⟨rfl, pw_below_drewN HB2.out _⟩
set_option maxHeartbeats 2000000 in
set_option maxRecDepth 100000 in
theorem impl_InsOk.w2 (a0_0 : Int) (a0_1 : Int) (a0_2 : Int) (a0_3 : Int) (a1 : Int) (t : ByteArray) (w : World) (HT : Aside0 (impl_formOf.f a0_0 = some t)) (hne : t.toList ≠ []) (HW : Aside0 (impl_within.f a1 0 32 = some true)) (H0 : Aside0 (impl_isField.f (bt t 0) a0_1 a1 = some false)) (hs : 0 < (t.size : Int)) :
    Calls Try.prog 22 #[.agg #[.int .i64 a0_0, .int .i64 a0_1, .int .i64 a0_2, .int .i64 a0_3], .int .i64 a1] w fun e w' => e = .returned (.bool false) ∧ Below w.heap.size w w' := by
  have hu43 := Try.underlying30
  have s1 : (t.toList == ([] : List UInt8)) = false := beq_eq_false_iff_ne.mpr hne
  have s2 : (t.toList != ([] : List UInt8)) = true := bne_iff_ne.mpr hne
  have p0 : decide (0 < (t.size : Int)) = true := decide_eq_true (by omega)
  have p0' : decide (0 < t.size) = true := decide_eq_true (by omega)
  have x0 : ∀ h : 0 < t.size, ((t[0]'h).toNat : Int) = bt t 0 := bt_at t 0
  have q0 : 0 < t.size := by omega
  clear hne hs
  go_enter Try.func22, Try.ntmps22
  go_wp2_with (first | ((with_reducible refine gate_dst (N := 2) rfl ?_); refine box_event ?hg (N := 2) ?hd (cs := #[.int .i64 a0_0, .int .i64 a0_1, .int .i64 a0_2, .int .i64 a0_3]) (t := 30) ?hr ?_; (case hd => rfl); (case hg => rfl); (case hr => first | (go_simp; done) | (go_simp; rfl)); intro gb hgb w1 hbox hb; have HB := Aside0.mk hb; have BX := Aside0.mk hbox; have hz0 : w1.cell? ⟨gb, 0, none⟩ = some (.int .i64 a0_0) := (blk_cell hbox 0).trans rfl; clear hgb hb hbox) | (go_at_call 43; (with_reducible refine (impl_formOf.calls a0_0 t _ HT.out).mono ?_); rintro e w2 ⟨rfl, hb⟩; have HB2 := Aside0.mk (below_step HB.out hb); have z := blk_below BX.out hb; have z1 : w2.cell? ⟨gb, 1, none⟩ = some (.int .i64 a0_1) := (blk_cell z 1).trans rfl; have z2 : w2.cell? ⟨gb, 2, none⟩ = some (.int .i64 a0_2) := (blk_cell z 2).trans rfl; have z3 : w2.cell? ⟨gb, 3, none⟩ = some (.int .i64 a0_3) := (blk_cell z 3).trans rfl; clear hb z hz0))
  go_quiet ((first | (go_at_call 21; with_reducible exact quiet_dr (impl_within.calls a1 0 32 _ _ HW.out)) | (go_at_call 44; with_reducible exact quiet_dr (impl_isField.calls (bt t 0) a0_1 a1 _ _ H0.out))))
  go_wp2
  go_ret
  exact ⟨rfl, pw_below_drewN HB2.out _⟩
set_option maxHeartbeats 2000000 in
set_option maxRecDepth 100000 in
theorem impl_InsOk.w3 (a0_0 : Int) (a0_1 : Int) (a0_2 : Int) (a0_3 : Int) (a1 : Int) (t : ByteArray) (w : World) (HT : Aside0 (impl_formOf.f a0_0 = some t)) (hne : t.toList ≠ []) (HW : Aside0 (impl_within.f a1 0 32 = some true)) (H0 : Aside0 (impl_isField.f (bt t 0) a0_1 a1 = some true)) (H1 : Aside0 (impl_isField.f (bt t 1) a0_2 a1 = some false)) (hs : 1 < (t.size : Int)) :
    Calls Try.prog 22 #[.agg #[.int .i64 a0_0, .int .i64 a0_1, .int .i64 a0_2, .int .i64 a0_3], .int .i64 a1] w fun e w' => e = .returned (.bool false) ∧ Below w.heap.size w w' := by
  have hu43 := Try.underlying30
  have s1 : (t.toList == ([] : List UInt8)) = false := beq_eq_false_iff_ne.mpr hne
  have s2 : (t.toList != ([] : List UInt8)) = true := bne_iff_ne.mpr hne
  have p0 : decide (0 < (t.size : Int)) = true := decide_eq_true (by omega)
  have p0' : decide (0 < t.size) = true := decide_eq_true (by omega)
  have x0 : ∀ h : 0 < t.size, ((t[0]'h).toNat : Int) = bt t 0 := bt_at t 0
  have q0 : 0 < t.size := by omega
  have p1 : decide (1 < (t.size : Int)) = true := decide_eq_true (by omega)
  have p1' : decide (1 < t.size) = true := decide_eq_true (by omega)
  have x1 : ∀ h : 1 < t.size, ((t[1]'h).toNat : Int) = bt t 1 := bt_at t 1
  have q1 : 1 < t.size := by omega
  clear hne hs
  go_enter Try.func22, Try.ntmps22
  go_wp2_with (first | ((with_reducible refine gate_dst (N := 2) rfl ?_); refine box_event ?hg (N := 2) ?hd (cs := #[.int .i64 a0_0, .int .i64 a0_1, .int .i64 a0_2, .int .i64 a0_3]) (t := 30) ?hr ?_; (case hd => rfl); (case hg => rfl); (case hr => first | (go_simp; done) | (go_simp; rfl)); intro gb hgb w1 hbox hb; have HB := Aside0.mk hb; have BX := Aside0.mk hbox; have hz0 : w1.cell? ⟨gb, 0, none⟩ = some (.int .i64 a0_0) := (blk_cell hbox 0).trans rfl; clear hgb hb hbox) | (go_at_call 43; (with_reducible refine (impl_formOf.calls a0_0 t _ HT.out).mono ?_); rintro e w2 ⟨rfl, hb⟩; have HB2 := Aside0.mk (below_step HB.out hb); have z := blk_below BX.out hb; have z1 : w2.cell? ⟨gb, 1, none⟩ = some (.int .i64 a0_1) := (blk_cell z 1).trans rfl; have z2 : w2.cell? ⟨gb, 2, none⟩ = some (.int .i64 a0_2) := (blk_cell z 2).trans rfl; have z3 : w2.cell? ⟨gb, 3, none⟩ = some (.int .i64 a0_3) := (blk_cell z 3).trans rfl; clear hb z hz0))
  go_quiet ((first | (go_at_call 21; with_reducible exact quiet_dr (impl_within.calls a1 0 32 _ _ HW.out)) | (go_at_call 44; with_reducible exact quiet_dr (impl_isField.calls (bt t 0) a0_1 a1 _ _ H0.out)) | (go_at_call 44; with_reducible exact quiet_dr (impl_isField.calls (bt t 1) a0_2 a1 _ _ H1.out))))
  go_wp2
  go_ret
  exact ⟨rfl, pw_below_drewN HB2.out _⟩
set_option maxHeartbeats 2000000 in
set_option maxRecDepth 100000 in
theorem impl_InsOk.w4 (a0_0 : Int) (a0_1 : Int) (a0_2 : Int) (a0_3 : Int) (a1 : Int) (t : ByteArray) (w : World) (HT : Aside0 (impl_formOf.f a0_0 = some t)) (hne : t.toList ≠ []) (HW : Aside0 (impl_within.f a1 0 32 = some true)) (H0 : Aside0 (impl_isField.f (bt t 0) a0_1 a1 = some true)) (H1 : Aside0 (impl_isField.f (bt t 1) a0_2 a1 = some true)) (r : Bool) (H2 : Aside0 (impl_isField.f (bt t 2) a0_3 a1 = some r)) (hs : 2 < (t.size : Int)) :
    Calls Try.prog 22 #[.agg #[.int .i64 a0_0, .int .i64 a0_1, .int .i64 a0_2, .int .i64 a0_3], .int .i64 a1] w fun e w' => e = .returned (.bool r) ∧ Below w.heap.size w w' := by
  have hu43 := Try.underlying30
  have s1 : (t.toList == ([] : List UInt8)) = false := beq_eq_false_iff_ne.mpr hne
  have s2 : (t.toList != ([] : List UInt8)) = true := bne_iff_ne.mpr hne
  have p0 : decide (0 < (t.size : Int)) = true := decide_eq_true (by omega)
  have p0' : decide (0 < t.size) = true := decide_eq_true (by omega)
  have x0 : ∀ h : 0 < t.size, ((t[0]'h).toNat : Int) = bt t 0 := bt_at t 0
  have q0 : 0 < t.size := by omega
  have p1 : decide (1 < (t.size : Int)) = true := decide_eq_true (by omega)
  have p1' : decide (1 < t.size) = true := decide_eq_true (by omega)
  have x1 : ∀ h : 1 < t.size, ((t[1]'h).toNat : Int) = bt t 1 := bt_at t 1
  have q1 : 1 < t.size := by omega
  have p2 : decide (2 < (t.size : Int)) = true := decide_eq_true (by omega)
  have p2' : decide (2 < t.size) = true := decide_eq_true (by omega)
  have x2 : ∀ h : 2 < t.size, ((t[2]'h).toNat : Int) = bt t 2 := bt_at t 2
  have q2 : 2 < t.size := by omega
  clear hne hs
  go_enter Try.func22, Try.ntmps22
  go_wp2_with (first | ((with_reducible refine gate_dst (N := 2) rfl ?_); refine box_event ?hg (N := 2) ?hd (cs := #[.int .i64 a0_0, .int .i64 a0_1, .int .i64 a0_2, .int .i64 a0_3]) (t := 30) ?hr ?_; (case hd => rfl); (case hg => rfl); (case hr => first | (go_simp; done) | (go_simp; rfl)); intro gb hgb w1 hbox hb; have HB := Aside0.mk hb; have BX := Aside0.mk hbox; have hz0 : w1.cell? ⟨gb, 0, none⟩ = some (.int .i64 a0_0) := (blk_cell hbox 0).trans rfl; clear hgb hb hbox) | (go_at_call 43; (with_reducible refine (impl_formOf.calls a0_0 t _ HT.out).mono ?_); rintro e w2 ⟨rfl, hb⟩; have HB2 := Aside0.mk (below_step HB.out hb); have z := blk_below BX.out hb; have z1 : w2.cell? ⟨gb, 1, none⟩ = some (.int .i64 a0_1) := (blk_cell z 1).trans rfl; have z2 : w2.cell? ⟨gb, 2, none⟩ = some (.int .i64 a0_2) := (blk_cell z 2).trans rfl; have z3 : w2.cell? ⟨gb, 3, none⟩ = some (.int .i64 a0_3) := (blk_cell z 3).trans rfl; clear hb z hz0))
  go_quiet ((first | (go_at_call 21; with_reducible exact quiet_dr (impl_within.calls a1 0 32 _ _ HW.out)) | (go_at_call 44; with_reducible exact quiet_dr (impl_isField.calls (bt t 0) a0_1 a1 _ _ H0.out)) | (go_at_call 44; with_reducible exact quiet_dr (impl_isField.calls (bt t 1) a0_2 a1 _ _ H1.out)) | (go_at_call 44; with_reducible exact quiet_dr (impl_isField.calls (bt t 2) a0_3 a1 _ _ H2.out))))
  go_wp2
  go_ret
  exact ⟨rfl, pw_below_drewN HB2.out _⟩
theorem impl_InsOk.calls (a0_0 : Int) (a0_1 : Int) (a0_2 : Int) (a0_3 : Int) (a1 : Int) (r : Bool) (w : World) (h : impl_InsOk.f a0_0 a0_1 a0_2 a0_3 a1 = some r) :
    Calls Try.prog 22 #[.agg #[.int .i64 a0_0, .int .i64 a0_1, .int .i64 a0_2, .int .i64 a0_3], .int .i64 a1] w fun e w' => e = .returned (.bool r) ∧ Below w.heap.size w w' := by
  unfold impl_InsOk.f at h
  obtain ⟨t, ht, h⟩ := Option.bind_eq_some_iff.mp h
  by_cases hne : t.toList = ([] : List UInt8)
  · rw [if_pos hne] at h
    obtain rfl := Option.some.inj h
    exact impl_InsOk.w0 a0_0 a0_1 a0_2 a0_3 a1 t w ⟨ht⟩ hne
  rw [if_neg hne] at h
  obtain ⟨b, hb, h⟩ := Option.bind_eq_some_iff.mp h
  cases b with
  | false =>
    obtain rfl := Option.some.inj ((if_neg (by decide)).symm.trans h)
    exact impl_InsOk.w1 a0_0 a0_1 a0_2 a0_3 a1 t w ⟨ht⟩ hne ⟨hb⟩
  | true =>
  rw [if_pos rfl] at h
  by_cases h0 : ¬ 0 < (t.size : Int)
  · rw [if_neg h0] at h; exact absurd h (by simp)
  replace h0 := Decidable.not_not.1 h0
  rw [if_pos h0] at h
  obtain ⟨b0, hb0, h⟩ := Option.bind_eq_some_iff.mp h
  cases b0 with
  | false =>
    obtain rfl := Option.some.inj ((if_neg (by decide)).symm.trans h)
    exact impl_InsOk.w2 a0_0 a0_1 a0_2 a0_3 a1 t w ⟨ht⟩ hne ⟨hb⟩ ⟨hb0⟩ h0
  | true =>
  rw [if_pos rfl] at h
  by_cases h1 : ¬ 1 < (t.size : Int)
  · rw [if_neg h1] at h; exact absurd h (by simp)
  replace h1 := Decidable.not_not.1 h1
  rw [if_pos h1] at h
  obtain ⟨b1, hb1, h⟩ := Option.bind_eq_some_iff.mp h
  cases b1 with
  | false =>
    obtain rfl := Option.some.inj ((if_neg (by decide)).symm.trans h)
    exact impl_InsOk.w3 a0_0 a0_1 a0_2 a0_3 a1 t w ⟨ht⟩ hne ⟨hb⟩ ⟨hb0⟩ ⟨hb1⟩ h1
  | true =>
  rw [if_pos rfl] at h
  by_cases h2 : ¬ 2 < (t.size : Int)
  · rw [if_neg h2] at h; exact absurd h (by simp)
  replace h2 := Decidable.not_not.1 h2
  rw [if_pos h2] at h
  obtain ⟨b2, hb2, h⟩ := Option.bind_eq_some_iff.mp h
  obtain rfl := Option.some.inj h
  exact impl_InsOk.w4 a0_0 a0_1 a0_2 a0_3 a1 t w ⟨ht⟩ hne ⟨hb⟩ ⟨hb0⟩ ⟨hb1⟩ b2 ⟨hb2⟩ h2

/-! ### impl_Ins_48: function 48 -/
def idxFI {α : Type} (p : α → Bool) : List α → Int → Int
  | [], _ => -1
  | x :: r, i => if p x = true then i else idxFI p r (i + 1)
theorem idxFI_any {α : Type} (p : α → Bool) : ∀ (l : List α) (i : Int), 0 ≤ i → decide (idxFI p l i ≥ 0) = l.any p
  | [], i, _ => by simp [idxFI]
  | x :: r, i, h => by
    rw [idxFI]
    by_cases hp : p x = true
    · rw [if_pos hp]; simp [hp, h]
    · rw [if_neg hp, idxFI_any p r (i + 1) (by omega)]; simp [hp]
theorem blk_underI {w1 W : World} {g : Nat} {o : Obj} (h : w1.heap[g]? = some o) (hb : Below w1.heap.size w1 W) : W.heap[g]? = some o := (hb.block g (blk_lt h)).trans h
theorem one_cellI {W : World} {g : Nat} {v : Value} {t : TypeId} (h : W.heap[g]? = some (.cells #[v] t (0, 0))) : W.cell? ⟨g, 0, none⟩ = some v := (blk_cell h 0).trans rfl
theorem not_any_notI {α : Type} (p : α → Bool) : ∀ l : List α, (!l.any fun x => !p x) = l.all p
  | [] => rfl
  | x :: r => by rw [List.any_cons, List.all_cons, ← not_any_notI p r]; cases p x <;> simp
theorem drop_rdT {l : List S30} {i : Nat} (h1 : i < l.length) : l.drop i = rd_T30 l i :: l.drop (i + 1) := by
  rw [List.drop_eq_getElem_cons h1]
  congr 1
  unfold rd_T30
  rw [Int.toNat_natCast, List.getD_eq_getElem?_getD, List.getElem?_eq_getElem h1]; rfl
theorem rd_memT {l : List S30} {i : Nat} (h1 : i < l.length) : rd_T30 l i ∈ l := by
  unfold rd_T30
  rw [Int.toNat_natCast, List.getD_eq_getElem?_getD, List.getElem?_eq_getElem h1]
  exact List.getElem_mem h1
set_option maxHeartbeats 2000000 in
/-- slices.IndexFunc at instructions: a function value that answers p x, and keeps R, at every element. -/
theorem indexFunc_ins (R : World → Prop) (g : Nat) (lb : Array Value) (eg : ∀ args w, (callFunc g args).run Try.prog w = .ok (.enter g args) w) (p : S30 → Bool) (A : Option Addr) (c : Nat) (l : List S30) (w : World)
    (hR : R w) (hr : ∀ W, R W → Kd.C k30 W A l.length l)
    (hp : ∀ x, x ∈ l → ∀ W, R W → Calls Try.prog g (#[.agg #[.int .i64 x.f0, .int .i64 x.f1, .int .i64 x.f2, .int .i64 x.f3]] ++ lb) W fun e W' => e = .returned (.bool (p x)) ∧ R W') :
    Calls Try.prog 48 #[.slice A l.length c, .func (.func g) #[] lb] w fun e w' => e = .returned (.int .i64 (idxFI p l 0)) ∧ R w' := by
  have hbig := (hr w hR).2.1
  have hu94 := Try.underlying30
  go_enter Try.func48, Try.ntmps48
  go_wp2
  go_loopg [5, 8] l.length (fun gg _ s8 wr => ∃ kk : Nat, kk ≤ l.length ∧ l.length - kk ≤ gg ∧ s8 = .int .i64 kk ∧ Aside0 (R wr) ∧ Aside0 (idxFI p (l.drop kk) kk = idxFI p l 0))
  case atStart => exact ⟨0, Nat.zero_le _, by omega, rfl, ⟨hR⟩, ⟨rfl⟩⟩
  case round =>
    obtain ⟨kk, hkk, hg, rfl, HR, HI⟩ := hrel
    by_cases hlt : kk < l.length
    · have hltz : (kk : Int) < (l.length : Int) := by omega
      obtain ⟨ad, ea, hx0, hx1, hx2, hx3⟩ := at_T30 (hr wr HR.out) kk (by omega) hltz
      cases ea
      rw [Int.toNat_natCast] at hx0 hx1 hx2 hx3
      have hcall := hp _ (rd_memT hlt) wr HR.out
      have HD := Aside0.mk (drop_rdT hlt)
      clear hr hp
      generalize hy : rd_T30 l (kk : Int) = y at hx0 hx1 hx2 hx3 hcall HD
      clear hy
      obtain ⟨y0, y1, y2, y3⟩ := y
      cases hq : p ⟨y0, y1, y2, y3⟩ with
      | true =>
        rw [hq] at hcall
        have HQ := Aside0.mk hq
        clear hq
        go_wp2_with (go_at_fn g; refine hcall.mono ?_; rintro e w' ⟨rfl, hb'⟩)
        go_ret
        refine ⟨?_, hb'⟩
        rw [← HI.out, HD.out, idxFI, if_pos HQ.out]
        rfl
      | false =>
        rw [hq] at hcall
        have HQ := Aside0.mk hq
        clear hq
        go_wp2_with (go_at_fn g; refine hcall.mono ?_; rintro e w' ⟨rfl, hb'⟩)
        go_roundg (l.length - (kk + 1))
        case measure => omega
        case rel =>
          refine ⟨kk + 1, by omega, by omega, by go_num, ⟨hb'⟩, ⟨?_⟩⟩
          rw [← HI.out, HD.out, idxFI, if_neg (by rw [HQ.out]; decide)]
          rfl
    · have hltz : ¬ (kk : Int) < (l.length : Int) := by omega
      go_wp2
      go_ret
      refine ⟨?_, HR.out⟩
      rw [← HI.out, List.drop_of_length_le (by omega)]; rfl

/-! ### impl_Ins_28: function 28 -/
set_option maxHeartbeats 2000000 in
/-- slices.ContainsFunc at instructions. -/
theorem containsFunc_ins (R : World → Prop) (g : Nat) (lb : Array Value) (eg : ∀ args w, (callFunc g args).run Try.prog w = .ok (.enter g args) w) (p : S30 → Bool) (A : Option Addr) (c : Nat) (l : List S30) (w : World)
    (hR : R w) (hr : ∀ W, R W → Kd.C k30 W A l.length l)
    (hp : ∀ x, x ∈ l → ∀ W, R W → Calls Try.prog g (#[.agg #[.int .i64 x.f0, .int .i64 x.f1, .int .i64 x.f2, .int .i64 x.f3]] ++ lb) W fun e W' => e = .returned (.bool (p x)) ∧ R W') :
    Calls Try.prog 28 #[.slice A l.length c, .func (.func g) #[] lb] w fun e w' => e = .returned (.bool (l.any p)) ∧ R w' := by
  rw [← idxFI_any p l 0 (by omega)]
  go_enter Try.func28, Try.ntmps28
  go_wp2_with (go_at_call 48; refine (indexFunc_ins R g lb eg p A c l _ hR hr hp).mono ?_; rintro e w' ⟨rfl, hb'⟩)
  go_ret
  exact ⟨rfl, hb'⟩

/-! ### impl_ProgramOk: function 27 -/
def insOkAt (n : Int) (x : S30) : Option Bool := impl_InsOk.f x.f0 x.f1 x.f2 x.f3 n
def impl_ProgramOk.f (l0 : List S30) : Option (Bool) := if (l0.all fun x => (insOkAt (l0.length : Int) x).isSome) = true then some (decide (l0.length ≤ 32) && l0.all fun x => insOkAt (l0.length : Int) x == some true) else none
set_option maxHeartbeats 2000000 in
theorem impl_ProgramOk.fn (A0 : Option Addr) (c0 : Nat) (l0 : List S30) (g : Nat) (x : S30) (w : World) (hg : w.heap[g]? = some (.cells #[.slice A0 l0.length c0] 24 (0, 0))) (hs : (insOkAt (l0.length : Int) x).isSome = true) :
    Calls Try.prog 47 #[.agg #[.int .i64 x.f0, .int .i64 x.f1, .int .i64 x.f2, .int .i64 x.f3], .pointer (some ⟨g, 0, none⟩)] w fun e w' => e = .returned (.bool (!(insOkAt (l0.length : Int) x == some true))) ∧ Below w.heap.size w w' := by
  obtain ⟨b, hb⟩ := Option.isSome_iff_exists.1 hs
  have e1 : (!(insOkAt (l0.length : Int) x == some true)) = !b := by rw [hb]; cases b <;> rfl
  rw [e1]
  have HG := Aside0.mk hg
  have HI := Aside0.mk (show impl_InsOk.f x.f0 x.f1 x.f2 x.f3 (l0.length : Int) = some b from hb)
  clear e1 hb hs hg
  have hu94 := Try.underlying30
  obtain ⟨y0, y1, y2, y3⟩ := x
  go_enter Try.func47, Try.ntmps47
  go_wp2_with (first | ((with_reducible refine gate_dst (N := 2) rfl ?_); refine box_event ?hg (N := 2) ?hd (cs := #[.int .i64 y0, .int .i64 y1, .int .i64 y2, .int .i64 y3]) (t := 30) ?hr ?_; (case hd => rfl); (case hg => rfl); (case hr => first | (go_simp; done) | (go_simp; rfl)); intro gb hgb w1 hbox hb; have HB := Aside0.mk hb; have hcap := one_cellI (blk_underI HG.out hb); have hz0 : w1.cell? ⟨gb, 0, none⟩ = some (.int .i64 y0) := (blk_cell hbox 0).trans rfl; have hz1 : w1.cell? ⟨gb, 1, none⟩ = some (.int .i64 y1) := (blk_cell hbox 1).trans rfl; have hz2 : w1.cell? ⟨gb, 2, none⟩ = some (.int .i64 y2) := (blk_cell hbox 2).trans rfl; have hz3 : w1.cell? ⟨gb, 3, none⟩ = some (.int .i64 y3) := (blk_cell hbox 3).trans rfl; clear hgb hb hbox) | (go_at_call 22; (with_reducible refine (impl_InsOk.calls y0 y1 y2 y3 (l0.length : Int) b _ HI.out).mono ?_); rintro e w' ⟨rfl, hb2⟩; have HB2 := Aside0.mk hb2; clear hb2))
  go_ret
  exact ⟨rfl, below_step HB.out HB2.out⟩
set_option maxHeartbeats 1000000 in
set_option maxRecDepth 100000 in
theorem impl_ProgramOk.calls (A0 : Option Addr) (c0 : Nat) (l0 : List S30) (r : Bool) (w : World) (hr0 : Kd.C k30 w A0 l0.length l0) (hc0 : l0.length ≤ c0) (h : impl_ProgramOk.f l0 = some r) :
    Calls Try.prog 27 #[.slice A0 l0.length c0] w fun e w' => e = .returned (.bool r) ∧ Below w.heap.size w w' := by
  unfold impl_ProgramOk.f at h
  by_cases hs : (l0.all fun x => (insOkAt (l0.length : Int) x).isSome) = true
  · rw [if_pos hs] at h
    obtain rfl := Option.some.inj h
    have HS := Aside0.mk (List.all_eq_true.1 hs)
    have HR := Aside0.mk hr0
    clear hs h hr0
    by_cases h32 : l0.length ≤ 32
    · have hd : decide ((l0.length : Int) ≤ 32) = true := decide_eq_true (by omega)
      have hd2 : decide (l0.length ≤ 32) = true := decide_eq_true h32
      have eg := enters_of Try.func47 (by kernel_rfl) rfl
      have HF := Aside0.mk (fun (gb : Nat) (w1 : World) (hb : Below w.heap.size w w1) (hx : w1.heap[gb]? = some (.cells #[.slice A0 l0.length c0] 24 (0, 0))) =>
        containsFunc_ins (Below w1.heap.size w1) 47 #[.pointer (some ⟨gb, 0, none⟩)] eg (fun x => !(insOkAt (l0.length : Int) x == some true)) A0 c0 l0 w1 (Below.refl _ _)
          (fun W hW => Kd.C_below HR.out (below_step hb hW)) (fun x hx1 W hW => (impl_ProgramOk.fn A0 c0 l0 gb x W (blk_underI hx hW) (HS.out x hx1)).mono fun e W' ⟨he, h2⟩ => ⟨he, below_step hW h2⟩))
      have HN := Aside0.mk (not_any_notI (fun x => insOkAt (l0.length : Int) x == some true) l0)
      clear eg
      rw [hd2, Bool.true_and]
      go_enter Try.func27, Try.ntmps27
      go_wp2_with (first | ((with_reducible refine gate_dst (N := 1) rfl ?_); refine box_event ?hg (N := 1) ?hd (cs := #[.slice A0 l0.length c0]) (t := 24) ?hr ?_; (case hd => rfl); (case hg => rfl); (case hr => first | (go_simp; done) | (go_simp; rfl)); intro gb hgb w1 hbox hb; have HB := Aside0.mk hb; have HX := Aside0.mk hbox; have hcell := one_cellI hbox; clear hgb hb hbox) | (go_at_call 28; refine (HF.out gb _ HB.out HX.out).mono ?_; rintro e w' ⟨rfl, hb2⟩; have HB2 := Aside0.mk hb2; clear hb2))
      go_ret
      exact ⟨by rw [← HN.out]; rfl, below_step HB.out HB2.out⟩
    · have hd : decide ((l0.length : Int) ≤ 32) = false := decide_eq_false (by omega)
      have hd2 : decide (l0.length ≤ 32) = false := decide_eq_false h32
      rw [hd2, Bool.false_and]
      go_enter Try.func27, Try.ntmps27
      go_wp2_with (first | ((with_reducible refine gate_dst (N := 1) rfl ?_); refine box_event ?hg (N := 1) ?hd (cs := #[.slice A0 l0.length c0]) (t := 24) ?hr ?_; (case hd => rfl); (case hg => rfl); (case hr => first | (go_simp; done) | (go_simp; rfl)); intro gb hgb w1 hbox hb; have HB := Aside0.mk hb; have HX := Aside0.mk hbox; have hcell := one_cellI hbox; clear hgb hb hbox))
      go_ret
      exact ⟨rfl, HB.out⟩
  · rw [if_neg hs] at h
    exact absurd h (by simp)

/-! ### impl_IsLocal: function 30 -/
def impl_IsLocal.f (a0_0 : Int) (a0_1 : Int) (a0_2 : Int) (a0_3 : Int) : Option (Bool) := (impl_within.f a0_0 0 12).bind fun t243 => (some t243)
set_option maxHeartbeats 8000000 in
set_option maxRecDepth 100000 in
theorem impl_IsLocal.calls (a0_0 : Int) (a0_1 : Int) (a0_2 : Int) (a0_3 : Int) (r : Bool) (w : World) (h : impl_IsLocal.f a0_0 a0_1 a0_2 a0_3 = some r) :
    Calls Try.prog 30 #[.agg #[.int .i64 a0_0, .int .i64 a0_1, .int .i64 a0_2, .int .i64 a0_3]] w fun e w' => e = .returned (.bool r) ∧ Below w.heap.size w w' := by
  have hu30 := Try.underlying30
  have HB := Aside0.mk (Below.refl w.heap.size w)
  have H : ((impl_within.f a0_0 0 12).bind fun t243 => (some t243)) = some r := h
  clear h
  replace H := Option.bind_eq_some_iff.mp H
  obtain ⟨t243, A20, H⟩ := H
  replace H : (some t243) = some r := H
  have A2 := Aside0.mk A20
  clear A20
  obtain rfl := Option.some.inj H
  go_enter Try.func30, Try.ntmps30
  go_wp2_with (first | ((with_reducible refine gate_dst (N := 1) rfl ?_); refine box_event ?hg (N := 1) ?hd (cs := #[.int .i64 a0_0, .int .i64 a0_1, .int .i64 a0_2, .int .i64 a0_3]) (t := 30) ?hr ?_; (case hd => rfl); (case hg => rfl); (case hr => first | (go_simp; done) | (go_simp; rfl)); intro gb242 hg w3 hbox hb; have n0_ := Aside0.mk (below_step (by repeat (first | (with_reducible first | exact HB.out | apply below_alloc | apply pw_below_drewN | apply below_drew1) | exact HB.out)) hb); have n1_ := Aside0.mk (hbox); have n2_ := Aside0.mk ((by rw [hg]; exact (below_size (by repeat (first | (with_reducible first | exact HB.out | apply below_alloc | apply pw_below_drewN | apply below_drew1) | exact HB.out))) : w.heap.size ≤ gb242)); have n3_ := Aside0.mk ((by rw [hg]; exact (below_size (by repeat (first | (with_reducible first | exact HB.out | apply below_alloc | apply pw_below_drewN | apply below_drew1) | exact HB.out))) : w.heap.size ≤ gb242)); clear HB; have HB := n0_; have BK242 := n1_; have GW242 := n2_; have GE242 := n3_; clear n0_ n1_ n2_ n3_; clear hb hbox hg; have hcz4_0 : w3.cell? ⟨gb242, 0, none⟩ = some (.int .i64 a0_0) := (blk_cell BK242.out 0).trans rfl; have hcz4_1 : w3.cell? ⟨gb242, 1, none⟩ = some (.int .i64 a0_1) := (blk_cell BK242.out 1).trans rfl; have hcz4_2 : w3.cell? ⟨gb242, 2, none⟩ = some (.int .i64 a0_2) := (blk_cell BK242.out 2).trans rfl; have hcz4_3 : w3.cell? ⟨gb242, 3, none⟩ = some (.int .i64 a0_3) := (blk_cell BK242.out 3).trans rfl; have hfz4_0 := blk_frozen BK242.out 0; have hfz4_1 := blk_frozen BK242.out 1; have hfz4_2 := blk_frozen BK242.out 2; have hfz4_3 := blk_frozen BK242.out 3) | ((with_reducible refine gate_callee (f := 21) rfl ?_); refine goesL_ (some 5) rfl rfl Try.func21 (by kernel_rfl) rfl #[.int .i64 a0_0, .int .i64 0, .int .i64 12] rfl (by (try simp only [List.map_toArray, List.map_cons, List.map_nil]); first | done | rfl | (simp only [List.length_drop, List.length_take]; rfl)) ?_; (with_reducible refine (impl_within.calls a0_0 0 12 t243 _ A2.out).mono ?_); rintro e w' ⟨rfl, ⟨nd, rfl⟩⟩; refine ⟨_, rfl, ?_⟩))
  go_ret
  exact ⟨by first | rfl | (simp [errW_none, errW_some] <;> rfl) | (simp [*, errW_none, errW_some] <;> rfl), by repeat (first | (with_reducible first | exact HB.out | apply below_alloc | apply pw_below_drewN | apply below_drew1 | refine below_set ?_ GE242.out) | exact HB.out)⟩

/-! ### impl_IsQuiet: function 11 -/
def isLocalAt (x : S30) : Option Bool := impl_IsLocal.f x.f0 x.f1 x.f2 x.f3
def impl_IsQuiet.f (l0 : List S30) : Option (Bool) := (impl_ProgramOk.f l0).bind fun t => if t = true then (if (l0.all fun x => (isLocalAt x).isSome) = true then some (l0.all fun x => isLocalAt x == some true) else none) else some false
set_option maxHeartbeats 2000000 in
theorem impl_IsQuiet.fn (x : S30) (w : World) (hs : (isLocalAt x).isSome = true) :
    Calls Try.prog 29 #[.agg #[.int .i64 x.f0, .int .i64 x.f1, .int .i64 x.f2, .int .i64 x.f3]] w fun e w' => e = .returned (.bool (!(isLocalAt x == some true))) ∧ Below w.heap.size w w' := by
  obtain ⟨b, hb⟩ := Option.isSome_iff_exists.1 hs
  have e1 : (!(isLocalAt x == some true)) = !b := by rw [hb]; cases b <;> rfl
  rw [e1]
  have HI := Aside0.mk (show impl_IsLocal.f x.f0 x.f1 x.f2 x.f3 = some b from hb)
  clear e1 hb hs
  have hu94 := Try.underlying30
  obtain ⟨y0, y1, y2, y3⟩ := x
  go_enter Try.func29, Try.ntmps29
  go_wp2_with (first | ((with_reducible refine gate_dst (N := 1) rfl ?_); refine box_event ?hg (N := 1) ?hd (cs := #[.int .i64 y0, .int .i64 y1, .int .i64 y2, .int .i64 y3]) (t := 30) ?hr ?_; (case hd => rfl); (case hg => rfl); (case hr => first | (go_simp; done) | (go_simp; rfl)); intro gb hgb w1 hbox hb; have HB := Aside0.mk hb; have hz0 : w1.cell? ⟨gb, 0, none⟩ = some (.int .i64 y0) := (blk_cell hbox 0).trans rfl; have hz1 : w1.cell? ⟨gb, 1, none⟩ = some (.int .i64 y1) := (blk_cell hbox 1).trans rfl; have hz2 : w1.cell? ⟨gb, 2, none⟩ = some (.int .i64 y2) := (blk_cell hbox 2).trans rfl; have hz3 : w1.cell? ⟨gb, 3, none⟩ = some (.int .i64 y3) := (blk_cell hbox 3).trans rfl; clear hgb hb hbox) | (go_at_call 30; (with_reducible refine (impl_IsLocal.calls y0 y1 y2 y3 b _ HI.out).mono ?_); rintro e w' ⟨rfl, hb2⟩; have HB2 := Aside0.mk hb2; clear hb2))
  go_ret
  exact ⟨rfl, below_step HB.out HB2.out⟩
set_option maxHeartbeats 1000000 in
set_option maxRecDepth 100000 in
theorem impl_IsQuiet.calls (A0 : Option Addr) (c0 : Nat) (l0 : List S30) (r : Bool) (w : World) (hr0 : Kd.C k30 w A0 l0.length l0) (hc0 : l0.length ≤ c0) (h : impl_IsQuiet.f l0 = some r) :
    Calls Try.prog 11 #[.slice A0 l0.length c0] w fun e w' => e = .returned (.bool r) ∧ Below w.heap.size w w' := by
  obtain ⟨t, ht, h⟩ := Option.bind_eq_some_iff.mp h
  have A1 := Aside0.mk ht
  have HR := Aside0.mk hr0
  have HC := Aside0.mk hc0
  clear ht hr0 hc0
  cases t with
  | false =>
    obtain rfl := Option.some.inj h
    go_enter Try.func11, Try.ntmps11
    go_wp2_with (go_at_call 27; (with_reducible refine (impl_ProgramOk.calls A0 c0 l0 false _ HR.out HC.out A1.out).mono ?_); rintro e w1 ⟨rfl, hb⟩; have HB := Aside0.mk hb; clear hb)
    go_ret
    exact ⟨rfl, HB.out⟩
  | true =>
    replace h := (if_pos rfl).symm.trans h
    by_cases hs : (l0.all fun x => (isLocalAt x).isSome) = true
    · rw [if_pos hs] at h
      obtain rfl := Option.some.inj h
      have HS := Aside0.mk (List.all_eq_true.1 hs)
      clear hs h
      have eg := enters_of Try.func29 (by kernel_rfl) rfl
      have HF := Aside0.mk (fun (w1 : World) (hb : Below w.heap.size w w1) =>
        containsFunc_ins (Below w1.heap.size w1) 29 #[] eg (fun x => !(isLocalAt x == some true)) A0 c0 l0 w1 (Below.refl _ _)
          (fun W hW => Kd.C_below HR.out (below_step hb hW)) (fun x hx1 W hW => (impl_IsQuiet.fn x W (HS.out x hx1)).mono fun e W' ⟨he, h2⟩ => ⟨he, below_step hW h2⟩))
      have HN := Aside0.mk (not_any_notI (fun x => isLocalAt x == some true) l0)
      clear eg
      go_enter Try.func11, Try.ntmps11
      go_wp2_with (first | (go_at_call 27; (with_reducible refine (impl_ProgramOk.calls A0 c0 l0 true _ HR.out HC.out A1.out).mono ?_); rintro e w1 ⟨rfl, hb⟩; have HB := Aside0.mk hb; clear hb) | (go_at_call 28; refine (HF.out _ HB.out).mono ?_; rintro e w' ⟨rfl, hb2⟩; have HB2 := Aside0.mk hb2; clear hb2))
      go_ret
      exact ⟨by rw [← HN.out]; rfl, below_step HB.out HB2.out⟩
    · rw [if_neg hs] at h
      exact absurd h (by simp)

/-! ### bits_Mul32: function 49 -/
def bits_Mul32.f (a0 : Int) (a1 : Int) : Option (Int × Int) := some (((IntKind.u64.wrap ((IntKind.u64.wrap (a0)) * (IntKind.u64.wrap (a1)))) / 4294967296) % 4294967296, (IntKind.u64.wrap ((IntKind.u64.wrap (a0)) * (IntKind.u64.wrap (a1)))) % 4294967296)
set_option maxHeartbeats 8000000 in
set_option maxRecDepth 100000 in
theorem bits_Mul32.calls (a0 : Int) (a1 : Int) (r1 : Int) (r2 : Int) (w : World) (h : bits_Mul32.f a0 a1 = some (r1, r2)) :
    Calls Try.prog 49 #[.int .u32 a0, .int .u32 a1] w fun e w' => e = .returned (.tuple #[.int .u32 r1, .int .u32 r2]) ∧ Drawn0 w w' := by
  have H : (some (((IntKind.u64.wrap ((IntKind.u64.wrap (a0)) * (IntKind.u64.wrap (a1)))) / 4294967296) % 4294967296, (IntKind.u64.wrap ((IntKind.u64.wrap (a0)) * (IntKind.u64.wrap (a1)))) % 4294967296)) = some (r1, r2) := h
  clear h
  simp only [Option.some.injEq, Prod.mk.injEq] at H
  obtain ⟨rfl, rfl⟩ := H
  go_enter Try.func49, Try.ntmps49
  go_wp2
  go_ret2
  exact ⟨by first | rfl | (simp; done) | (simp [*]; done), by repeat (first | exact Drawn0.refl _ | apply Drawn0.step)⟩

end Go.Proofs.Ytdppehpcpofeoaa.PFnUniformSets
