-- Written by myprint.py (a program of this session, over the kit's print): not trusted, Lean checks it.
import Derived.Test.YtcmimgoghmeliaaPFnExactDropFramesx0
import Derived.Test.YtcmimgoghmeliaaPFnExactDropFramesx1
import Derived.Test.YtcmimgoghmeliaaPFnExactDropFramesx2
import Derived.Test.YtcmimgoghmeliaaPFnExactDropFramesx3
import Derived.Test.YtcmimgoghmeliaaPFnExactDropFramesx4
import Derived.Test.YtcmimgoghmeliaaPFnExactDropFramesx5
namespace Go.Proofs.Ytcmimgoghmeliaa.PFnExactDropFrames
open Go.RowKit Go.Proofs.YtcmimgoghmeliaaW.PrintWords Go.Proofs.YtcmimgoghmeliaaW.PrintLast Go.Proofs.YtcmimgoghmeliaaW.PrintMore
attribute [local go_sem] max2_int min2_int max_two min_two max_three min_three max_four min_four   -- for this text's walks alone
set_option linter.unusedVariables false
set_option linter.unusedSimpArgs false

/-! ### laws_FnExactDropFrames: function 14 -/
def laws_FnExactDropFrames.j0 : Nat → List (S96) → Bool → Int → List (S105) → List Int → Int → List (S77) → List Int → Int → List (S77) → List Int → Option (Bool)
 | 0, _, _, _, _, _, _, _, _, _, _, _ => none
 | k + 1, x0, x63, x218000, x218001, x218002, x238000, x238001, x238002, x257000, x257001, x257002 => if x63 = true then (none) else ((laws_markWarp.f k x257000 x257001 x257002 1).bind fun bt276 => ((laws_heldWarp.f k x257000 bt276.2.1 bt276.2.2 1).bind fun t279 => (if t279 < 0 then (none) else (if t279 = bt276.1 then ((laws_toInsS.f k x0).bind fun t280 => ((laws_toWarp.f k x218000 x218001 x218002).bind fun bt283 => ((impl_DropFrames.f t280 bt283.1 bt283.2.1 bt283.2.2).bind fun bt290 => ((laws_eqWarp.f k bt290.1 bt290.2.1 bt290.2.2 x238000 x238001 x238002).bind fun t298 => (if t298 = true then ((laws_heldWarp.f k x257000 bt276.2.1 bt276.2.2 1).bind fun t299 => (if t299 < 0 then (none) else (if t299 = bt276.1 then (some true) else (none)))) else (none)))))) else (none)))))
def laws_FnExactDropFrames.f (k : Nat) (l0 : List (S96)) (a1_0 : Int) (l1_1 : List (S105)) (l1_2 : List Int) : Option (Bool) := (laws_szInsS.f l0 1048576).bind fun t218 => (if t218 < 0 then (some true) else ((laws_szWarp.f a1_0 l1_1 l1_2 t218).bind fun t219 => (if t219 < 0 then (some true) else ((laws_toInsS.f k l0).bind fun t220 => ((laws_toWarp.f k a1_0 l1_1 l1_2).bind fun bt223 => ((spec_DropFrames.f k t220 bt223.1 bt223.2.1 bt223.2.2).bind fun bt230 => ((laws_toInsS.f k l0).bind fun t238 => ((laws_toWarp.f k a1_0 l1_1 l1_2).bind fun bt241 => ((impl_DropFrames.f t238 bt241.1 bt241.2.1 bt241.2.2).bind fun bt249 => ((laws_eqWarp.f k bt249.1 bt249.2.1 bt249.2.2 bt230.1 bt230.2.1 bt230.2.2).bind fun t257 => (if t257 = true then ((laws_toInsS.f k l0).bind fun t258 => ((laws_eqInsS.f k t238 t258).bind fun t261 => (if t261 = true then ((laws_toWarp.f k a1_0 l1_1 l1_2).bind fun bt262 => ((laws_eqWarp.f k bt241.1 bt241.2.1 bt241.2.2 bt262.1 bt262.2.1 bt262.2.2).bind fun t269 => (if t269 = true then ((laws_markInsS.f k t238 1).bind fun bt270 => ((laws_markWarp.f k bt241.1 bt241.2.1 bt241.2.2 bt270.1).bind fun bt272 => (if bt272.1 < 0 then (laws_FnExactDropFrames.j0 k l0 true a1_0 l1_1 l1_2 bt230.1 bt230.2.1 bt230.2.2 bt249.1 bt249.2.1 bt249.2.2) else ((laws_eqWarp.f k bt249.1 bt249.2.1 bt249.2.2 bt230.1 bt230.2.1 bt230.2.2).bind fun t275 => (laws_FnExactDropFrames.j0 k l0 (!t275) a1_0 l1_1 l1_2 bt230.1 bt230.2.1 bt230.2.2 bt249.1 bt249.2.1 bt249.2.2))))) else (none)))) else (none)))) else (none))))))))))))
theorem laws_FnExactDropFrames.mono_l : ∀ k, (∀ y0 y1 y2 y3 y4 y5 y6 y7 y8 y9 y10, LeO (laws_FnExactDropFrames.j0 k y0 y1 y2 y3 y4 y5 y6 y7 y8 y9 y10) (laws_FnExactDropFrames.j0 (k + 1) y0 y1 y2 y3 y4 y5 y6 y7 y8 y9 y10))
 | 0 => fun _ _ _ _ _ _ _ _ _ _ _ r h => by simp [laws_FnExactDropFrames.j0] at h
 | k + 1 => by
  have ih0 := laws_FnExactDropFrames.mono_l k
  ·intro y0 y1 y2 y3 y4 y5 y6 y7 y8 y9 y10
   unfold laws_FnExactDropFrames.j0
   repeat' first
   | (with_reducible exact ih0 _ _ _ _ _ _ _ _ _ _ _)
   | (with_reducible exact laws_eqInsS.mono _ _ _)
   | (with_reducible exact laws_eqWarp.mono _ _ _ _ _ _ _)
   | (with_reducible exact laws_heldWarp.mono _ _ _ _ _)
   | (with_reducible exact laws_markInsS.mono _ _ _)
   | (with_reducible exact laws_markWarp.mono _ _ _ _ _)
   | (with_reducible exact laws_toInsS.mono _ _)
   | (with_reducible exact laws_toWarp.mono _ _ _ _)
   | (with_reducible exact spec_DropFrames.mono _ _ _ _ _)
   | (with_reducible exact LeO.refl _)
   | (with_reducible exact LeO.none _)
   | (with_reducible refine LeO.ite ?_ ?_)
   | (with_reducible refine LeO.bind ?_ (fun _ => ?_))
   | exact ih0 _ _ _ _ _ _ _ _ _ _ _
   | exact laws_eqInsS.mono _ _ _
   | exact laws_eqWarp.mono _ _ _ _ _ _ _
   | exact laws_heldWarp.mono _ _ _ _ _
   | exact laws_markInsS.mono _ _ _
   | exact laws_markWarp.mono _ _ _ _ _
   | exact laws_toInsS.mono _ _
   | exact laws_toWarp.mono _ _ _ _
   | exact spec_DropFrames.mono _ _ _ _ _
   | exact LeO.none _
   | refine LeO.ite ?_ ?_
   | refine LeO.bind ?_ (fun _ => ?_)
theorem laws_FnExactDropFrames.mono : ∀ a0 a1 a2 a3 k, LeO (laws_FnExactDropFrames.f k a0 a1 a2 a3) (laws_FnExactDropFrames.f (k + 1) a0 a1 a2 a3) := by
 intro a0 a1 a2 a3 k
 have ih0 := laws_FnExactDropFrames.mono_l k
 unfold laws_FnExactDropFrames.f
 repeat' first
   | (with_reducible exact ih0 _ _ _ _ _ _ _ _ _ _ _)
   | (with_reducible exact laws_eqInsS.mono _ _ _)
   | (with_reducible exact laws_eqWarp.mono _ _ _ _ _ _ _)
   | (with_reducible exact laws_heldWarp.mono _ _ _ _ _)
   | (with_reducible exact laws_markInsS.mono _ _ _)
   | (with_reducible exact laws_markWarp.mono _ _ _ _ _)
   | (with_reducible exact laws_toInsS.mono _ _)
   | (with_reducible exact laws_toWarp.mono _ _ _ _)
   | (with_reducible exact spec_DropFrames.mono _ _ _ _ _)
   | (with_reducible exact LeO.refl _)
   | (with_reducible exact LeO.none _)
   | (with_reducible refine LeO.ite ?_ ?_)
   | (with_reducible refine LeO.bind ?_ (fun _ => ?_))
   | exact ih0 _ _ _ _ _ _ _ _ _ _ _
   | exact laws_eqInsS.mono _ _ _
   | exact laws_eqWarp.mono _ _ _ _ _ _ _
   | exact laws_heldWarp.mono _ _ _ _ _
   | exact laws_markInsS.mono _ _ _
   | exact laws_markWarp.mono _ _ _ _ _
   | exact laws_toInsS.mono _ _
   | exact laws_toWarp.mono _ _ _ _
   | exact spec_DropFrames.mono _ _ _ _ _
   | exact LeO.none _
   | refine LeO.ite ?_ ?_
   | refine LeO.bind ?_ (fun _ => ?_)
set_option maxHeartbeats 8000000 in
set_option maxRecDepth 100000 in
theorem laws_FnExactDropFrames.calls (k : Nat) (A0 : Option Addr) (c0 : Nat) (l0 : List (S96)) (a1_0 : Int) (A1_1 : Option Addr) (c1_1 : Nat) (l1_1 : List (S105)) (A1_2 : Option Addr) (c1_2 : Nat) (l1_2 : List Int) (r : Bool) (w : World) (hr0 : Kd.C k96 w A0 l0.length l0) (hc0 : l0.length ≤ c0) (hr1_1 : Kd.C k105 w A1_1 l1_1.length l1_1) (hc1_1 : l1_1.length ≤ c1_1) (hr1_2 : Kd.C (Kd.int .i64) w A1_2 l1_2.length l1_2) (hc1_2 : l1_2.length ≤ c1_2) (h : laws_FnExactDropFrames.f k l0 a1_0 l1_1 l1_2 = some r) :
  Calls Try.prog 14 #[.slice A0 l0.length c0, .agg #[.int .i64 a1_0, .slice A1_1 l1_1.length c1_1, .slice A1_2 l1_2.length c1_2]] w fun e w' => e = .returned (.bool r) ∧ Below w.heap.size w w' := by
 have hu31 := Try.underlying31
 have hu36 := Try.underlying36
 have HR0 := Aside0.mk hr0
 have HC0 := Aside0.mk hc0
 clear hr0 hc0
 have HR1_1 := Aside0.mk hr1_1
 have HC1_1 := Aside0.mk hc1_1
 clear hr1_1 hc1_1
 have HR1_2 := Aside0.mk hr1_2
 have HC1_2 := Aside0.mk hc1_2
 clear hr1_2 hc1_2
 have HB := Aside0.mk (Below.refl w.heap.size w)
 have H : ((laws_szInsS.f l0 1048576).bind fun t218 => (if t218 < 0 then (some true) else ((laws_szWarp.f a1_0 l1_1 l1_2 t218).bind fun t219 => (if t219 < 0 then (some true) else ((laws_toInsS.f k l0).bind fun t220 => ((laws_toWarp.f k a1_0 l1_1 l1_2).bind fun bt223 => ((spec_DropFrames.f k t220 bt223.1 bt223.2.1 bt223.2.2).bind fun bt230 => ((laws_toInsS.f k l0).bind fun t238 => ((laws_toWarp.f k a1_0 l1_1 l1_2).bind fun bt241 => ((impl_DropFrames.f t238 bt241.1 bt241.2.1 bt241.2.2).bind fun bt249 => ((laws_eqWarp.f k bt249.1 bt249.2.1 bt249.2.2 bt230.1 bt230.2.1 bt230.2.2).bind fun t257 => (if t257 = true then ((laws_toInsS.f k l0).bind fun t258 => ((laws_eqInsS.f k t238 t258).bind fun t261 => (if t261 = true then ((laws_toWarp.f k a1_0 l1_1 l1_2).bind fun bt262 => ((laws_eqWarp.f k bt241.1 bt241.2.1 bt241.2.2 bt262.1 bt262.2.1 bt262.2.2).bind fun t269 => (if t269 = true then ((laws_markInsS.f k t238 1).bind fun bt270 => ((laws_markWarp.f k bt241.1 bt241.2.1 bt241.2.2 bt270.1).bind fun bt272 => (if bt272.1 < 0 then (laws_FnExactDropFrames.j0 k l0 true a1_0 l1_1 l1_2 bt230.1 bt230.2.1 bt230.2.2 bt249.1 bt249.2.1 bt249.2.2) else ((laws_eqWarp.f k bt249.1 bt249.2.1 bt249.2.2 bt230.1 bt230.2.1 bt230.2.2).bind fun t275 => (laws_FnExactDropFrames.j0 k l0 (!t275) a1_0 l1_1 l1_2 bt230.1 bt230.2.1 bt230.2.2 bt249.1 bt249.2.1 bt249.2.2))))) else (none)))) else (none)))) else (none))))))))))))) = some r := h
 clear h
 replace H := Option.bind_eq_some_iff.mp H
 obtain ⟨t218, A30, H⟩ := H
 replace H : (if t218 < 0 then (some true) else ((laws_szWarp.f a1_0 l1_1 l1_2 t218).bind fun t219 => (if t219 < 0 then (some true) else ((laws_toInsS.f k l0).bind fun t220 => ((laws_toWarp.f k a1_0 l1_1 l1_2).bind fun bt223 => ((spec_DropFrames.f k t220 bt223.1 bt223.2.1 bt223.2.2).bind fun bt230 => ((laws_toInsS.f k l0).bind fun t238 => ((laws_toWarp.f k a1_0 l1_1 l1_2).bind fun bt241 => ((impl_DropFrames.f t238 bt241.1 bt241.2.1 bt241.2.2).bind fun bt249 => ((laws_eqWarp.f k bt249.1 bt249.2.1 bt249.2.2 bt230.1 bt230.2.1 bt230.2.2).bind fun t257 => (if t257 = true then ((laws_toInsS.f k l0).bind fun t258 => ((laws_eqInsS.f k t238 t258).bind fun t261 => (if t261 = true then ((laws_toWarp.f k a1_0 l1_1 l1_2).bind fun bt262 => ((laws_eqWarp.f k bt241.1 bt241.2.1 bt241.2.2 bt262.1 bt262.2.1 bt262.2.2).bind fun t269 => (if t269 = true then ((laws_markInsS.f k t238 1).bind fun bt270 => ((laws_markWarp.f k bt241.1 bt241.2.1 bt241.2.2 bt270.1).bind fun bt272 => (if bt272.1 < 0 then (laws_FnExactDropFrames.j0 k l0 true a1_0 l1_1 l1_2 bt230.1 bt230.2.1 bt230.2.2 bt249.1 bt249.2.1 bt249.2.2) else ((laws_eqWarp.f k bt249.1 bt249.2.1 bt249.2.2 bt230.1 bt230.2.1 bt230.2.2).bind fun t275 => (laws_FnExactDropFrames.j0 k l0 (!t275) a1_0 l1_1 l1_2 bt230.1 bt230.2.1 bt230.2.2 bt249.1 bt249.2.1 bt249.2.2))))) else (none)))) else (none)))) else (none)))))))))))) = some r := H
 have A3 := Aside0.mk A30
 clear A30
 by_cases c4 : t218 < 0
 ·rw [if_pos c4] at H
  have c4b0 : decide (t218 < 0) = true := decide_eq_true c4
  clear c4
  obtain rfl := Option.some.inj H
  go_enter Try.func14, Try.ntmps14
  go_wp2_with (first | ((with_reducible refine gate_dst (N := 3) rfl ?_); refine box_event ?hg (N := 3) ?hd (cs := #[.int .i64 a1_0, .slice A1_1 l1_1.length c1_1, .slice A1_2 l1_2.length c1_2]) (t := 31) ?hr ?_; (case hd => rfl); (case hg => rfl); (case hr => first | (go_simp; done) | (go_simp; rfl)); intro gb217 hg w5 hbox hb; have BK217 := Aside0.mk (hbox); have GW217 := Aside0.mk ((by rw [hg]; exact (below_size bw) : w.heap.size ≤ gb217)); have GE217 := Aside0.mk ((by rw [hg]; exact (below_size bw) : w.heap.size ≤ gb217)); replace HB := Aside0.mk (below_step bw hb); clear hb hbox hg) | ((with_reducible refine gate_callee (f := 44) rfl ?_); refine gL (some 16) Try.func44 #[.slice A0 l0.length c0, .int .i64 1048576] ?_; (with_reducible refine (laws_szInsS.calls _ _ l0 1048576 t218 _ ?side1 ?side2 A3.out).mono ?_); (case side1 => repeat (first | exact (Kd.C_below HR0.out HB.out) | (with_reducible refine Kd.C_alloc ?_ _) | (with_reducible refine Kd.C_drewN ?_ _) | (with_reducible refine Kd.C_drew ?_))); (case side2 => exact HC0.out); rintro e w' ⟨rfl, ⟨nd, rfl⟩⟩; refine ⟨_, rfl, ?_⟩))
  go_ret
  exact ⟨eR, bx⟩
 ·rw [if_neg c4] at H
  have c4b0 : decide (t218 < 0) = false := decide_eq_false c4
  clear c4
  replace H := Option.bind_eq_some_iff.mp H
  obtain ⟨t219, A60, H⟩ := H
  replace H : (if t219 < 0 then (some true) else ((laws_toInsS.f k l0).bind fun t220 => ((laws_toWarp.f k a1_0 l1_1 l1_2).bind fun bt223 => ((spec_DropFrames.f k t220 bt223.1 bt223.2.1 bt223.2.2).bind fun bt230 => ((laws_toInsS.f k l0).bind fun t238 => ((laws_toWarp.f k a1_0 l1_1 l1_2).bind fun bt241 => ((impl_DropFrames.f t238 bt241.1 bt241.2.1 bt241.2.2).bind fun bt249 => ((laws_eqWarp.f k bt249.1 bt249.2.1 bt249.2.2 bt230.1 bt230.2.1 bt230.2.2).bind fun t257 => (if t257 = true then ((laws_toInsS.f k l0).bind fun t258 => ((laws_eqInsS.f k t238 t258).bind fun t261 => (if t261 = true then ((laws_toWarp.f k a1_0 l1_1 l1_2).bind fun bt262 => ((laws_eqWarp.f k bt241.1 bt241.2.1 bt241.2.2 bt262.1 bt262.2.1 bt262.2.2).bind fun t269 => (if t269 = true then ((laws_markInsS.f k t238 1).bind fun bt270 => ((laws_markWarp.f k bt241.1 bt241.2.1 bt241.2.2 bt270.1).bind fun bt272 => (if bt272.1 < 0 then (laws_FnExactDropFrames.j0 k l0 true a1_0 l1_1 l1_2 bt230.1 bt230.2.1 bt230.2.2 bt249.1 bt249.2.1 bt249.2.2) else ((laws_eqWarp.f k bt249.1 bt249.2.1 bt249.2.2 bt230.1 bt230.2.1 bt230.2.2).bind fun t275 => (laws_FnExactDropFrames.j0 k l0 (!t275) a1_0 l1_1 l1_2 bt230.1 bt230.2.1 bt230.2.2 bt249.1 bt249.2.1 bt249.2.2))))) else (none)))) else (none)))) else (none)))))))))) = some r := H
  have A6 := Aside0.mk A60
  clear A60
  by_cases c7 : t219 < 0
  ·rw [if_pos c7] at H
   have c7b0 : decide (t219 < 0) = true := decide_eq_true c7
   clear c7
   obtain rfl := Option.some.inj H
   go_enter Try.func14, Try.ntmps14
   go_wp2_with (first | ((with_reducible refine gate_dst (N := 3) rfl ?_); refine box_event ?hg (N := 3) ?hd (cs := #[.int .i64 a1_0, .slice A1_1 l1_1.length c1_1, .slice A1_2 l1_2.length c1_2]) (t := 31) ?hr ?_; (case hd => rfl); (case hg => rfl); (case hr => first | (go_simp; done) | (go_simp; rfl)); intro gb217 hg w8 hbox hb; have BK217 := Aside0.mk (hbox); have GW217 := Aside0.mk ((by rw [hg]; exact (below_size bw) : w.heap.size ≤ gb217)); have GE217 := Aside0.mk ((by rw [hg]; exact (below_size bw) : w.heap.size ≤ gb217)); replace HB := Aside0.mk (below_step bw hb); clear hb hbox hg) | ((with_reducible refine gate_callee (f := 44) rfl ?_); refine gL (some 16) Try.func44 #[.slice A0 l0.length c0, .int .i64 1048576] ?_; (with_reducible refine (laws_szInsS.calls _ _ l0 1048576 t218 _ ?side1 ?side2 A3.out).mono ?_); (case side1 => repeat (first | exact (Kd.C_below HR0.out HB.out) | (with_reducible refine Kd.C_alloc ?_ _) | (with_reducible refine Kd.C_drewN ?_ _) | (with_reducible refine Kd.C_drew ?_))); (case side2 => exact HC0.out); rintro e w' ⟨rfl, ⟨nd, rfl⟩⟩; refine ⟨_, rfl, ?_⟩; have hcz9_0 : w8.cell? ⟨gb217, 0, none⟩ = some (.int .i64 a1_0) := (blk_cell BK217.out 0).trans rfl; have hcz9_1 : w8.cell? ⟨gb217, 1, none⟩ = some (.slice A1_1 l1_1.length c1_1) := (blk_cell BK217.out 1).trans rfl; have hcz9_2 : w8.cell? ⟨gb217, 2, none⟩ = some (.slice A1_2 l1_2.length c1_2) := (blk_cell BK217.out 2).trans rfl; have hfz9_0 := blk_frozen BK217.out 0; have hfz9_1 := blk_frozen BK217.out 1; have hfz9_2 := blk_frozen BK217.out 2) | ((with_reducible refine gate_callee (f := 20) rfl ?_); refine gL (some 21) Try.func20 #[.agg #[.int .i64 a1_0, .slice A1_1 l1_1.length c1_1, .slice A1_2 l1_2.length c1_2], .int .i64 t218] ?_; (with_reducible refine (laws_szWarp.calls a1_0 _ _ l1_1 _ _ l1_2 t218 t219 _ ?side1 ?side2 ?side3 ?side4 A6.out).mono ?_); (case side1 => repeat (first | exact (Kd.C_below HR1_1.out bx) | (with_reducible refine Kd.C_alloc ?_ _) | (with_reducible refine Kd.C_drewN ?_ _) | (with_reducible refine Kd.C_drew ?_))); (case side2 => exact HC1_1.out); (case side3 => repeat (first | exact (Kd.C_below HR1_2.out bx) | (with_reducible refine Kd.C_alloc ?_ _) | (with_reducible refine Kd.C_drewN ?_ _) | (with_reducible refine Kd.C_drew ?_))); (case side4 => exact HC1_2.out); rintro e w10 ⟨rfl, hb⟩; refine ⟨_, rfl, ?_⟩; replace BK217 := Aside0.mk (blk_below (g := gb217) (o := .cells #[.int .i64 a1_0, .slice A1_1 l1_1.length c1_1, .slice A1_2 l1_2.length c1_2] 31 (0, 0)) (bS BK217.out) hb); replace HB := Aside0.mk (below_step bx hb); (try clear hb)))
   go_ret
   exact ⟨eR, bx⟩
  ·rw [if_neg c7] at H
   have c7b0 : decide (t219 < 0) = false := decide_eq_false c7
   clear c7
   replace H := Option.bind_eq_some_iff.mp H
   obtain ⟨t220, A110, H⟩ := H
   replace H : ((laws_toWarp.f k a1_0 l1_1 l1_2).bind fun bt223 => ((spec_DropFrames.f k t220 bt223.1 bt223.2.1 bt223.2.2).bind fun bt230 => ((laws_toInsS.f k l0).bind fun t238 => ((laws_toWarp.f k a1_0 l1_1 l1_2).bind fun bt241 => ((impl_DropFrames.f t238 bt241.1 bt241.2.1 bt241.2.2).bind fun bt249 => ((laws_eqWarp.f k bt249.1 bt249.2.1 bt249.2.2 bt230.1 bt230.2.1 bt230.2.2).bind fun t257 => (if t257 = true then ((laws_toInsS.f k l0).bind fun t258 => ((laws_eqInsS.f k t238 t258).bind fun t261 => (if t261 = true then ((laws_toWarp.f k a1_0 l1_1 l1_2).bind fun bt262 => ((laws_eqWarp.f k bt241.1 bt241.2.1 bt241.2.2 bt262.1 bt262.2.1 bt262.2.2).bind fun t269 => (if t269 = true then ((laws_markInsS.f k t238 1).bind fun bt270 => ((laws_markWarp.f k bt241.1 bt241.2.1 bt241.2.2 bt270.1).bind fun bt272 => (if bt272.1 < 0 then (laws_FnExactDropFrames.j0 k l0 true a1_0 l1_1 l1_2 bt230.1 bt230.2.1 bt230.2.2 bt249.1 bt249.2.1 bt249.2.2) else ((laws_eqWarp.f k bt249.1 bt249.2.1 bt249.2.2 bt230.1 bt230.2.1 bt230.2.2).bind fun t275 => (laws_FnExactDropFrames.j0 k l0 (!t275) a1_0 l1_1 l1_2 bt230.1 bt230.2.1 bt230.2.2 bt249.1 bt249.2.1 bt249.2.2))))) else (none)))) else (none)))) else (none)))))))) = some r := H
   have A11 := Aside0.mk A110
   clear A110
   replace H := Option.bind_eq_some_iff.mp H
   obtain ⟨⟨t223, t224, t227⟩, A120, H⟩ := H
   replace H : ((spec_DropFrames.f k t220 t223 t224 t227).bind fun bt230 => ((laws_toInsS.f k l0).bind fun t238 => ((laws_toWarp.f k a1_0 l1_1 l1_2).bind fun bt241 => ((impl_DropFrames.f t238 bt241.1 bt241.2.1 bt241.2.2).bind fun bt249 => ((laws_eqWarp.f k bt249.1 bt249.2.1 bt249.2.2 bt230.1 bt230.2.1 bt230.2.2).bind fun t257 => (if t257 = true then ((laws_toInsS.f k l0).bind fun t258 => ((laws_eqInsS.f k t238 t258).bind fun t261 => (if t261 = true then ((laws_toWarp.f k a1_0 l1_1 l1_2).bind fun bt262 => ((laws_eqWarp.f k bt241.1 bt241.2.1 bt241.2.2 bt262.1 bt262.2.1 bt262.2.2).bind fun t269 => (if t269 = true then ((laws_markInsS.f k t238 1).bind fun bt270 => ((laws_markWarp.f k bt241.1 bt241.2.1 bt241.2.2 bt270.1).bind fun bt272 => (if bt272.1 < 0 then (laws_FnExactDropFrames.j0 k l0 true a1_0 l1_1 l1_2 bt230.1 bt230.2.1 bt230.2.2 bt249.1 bt249.2.1 bt249.2.2) else ((laws_eqWarp.f k bt249.1 bt249.2.1 bt249.2.2 bt230.1 bt230.2.1 bt230.2.2).bind fun t275 => (laws_FnExactDropFrames.j0 k l0 (!t275) a1_0 l1_1 l1_2 bt230.1 bt230.2.1 bt230.2.2 bt249.1 bt249.2.1 bt249.2.2))))) else (none)))) else (none)))) else (none))))))) = some r := H
   have A12 := Aside0.mk A120
   clear A120
   replace H := Option.bind_eq_some_iff.mp H
   obtain ⟨⟨t230, t231, t234⟩, A130, H⟩ := H
   replace H : ((laws_toInsS.f k l0).bind fun t238 => ((laws_toWarp.f k a1_0 l1_1 l1_2).bind fun bt241 => ((impl_DropFrames.f t238 bt241.1 bt241.2.1 bt241.2.2).bind fun bt249 => ((laws_eqWarp.f k bt249.1 bt249.2.1 bt249.2.2 t230 t231 t234).bind fun t257 => (if t257 = true then ((laws_toInsS.f k l0).bind fun t258 => ((laws_eqInsS.f k t238 t258).bind fun t261 => (if t261 = true then ((laws_toWarp.f k a1_0 l1_1 l1_2).bind fun bt262 => ((laws_eqWarp.f k bt241.1 bt241.2.1 bt241.2.2 bt262.1 bt262.2.1 bt262.2.2).bind fun t269 => (if t269 = true then ((laws_markInsS.f k t238 1).bind fun bt270 => ((laws_markWarp.f k bt241.1 bt241.2.1 bt241.2.2 bt270.1).bind fun bt272 => (if bt272.1 < 0 then (laws_FnExactDropFrames.j0 k l0 true a1_0 l1_1 l1_2 t230 t231 t234 bt249.1 bt249.2.1 bt249.2.2) else ((laws_eqWarp.f k bt249.1 bt249.2.1 bt249.2.2 t230 t231 t234).bind fun t275 => (laws_FnExactDropFrames.j0 k l0 (!t275) a1_0 l1_1 l1_2 t230 t231 t234 bt249.1 bt249.2.1 bt249.2.2))))) else (none)))) else (none)))) else (none)))))) = some r := H
   have A13 := Aside0.mk A130
   clear A130
   replace H := Option.bind_eq_some_iff.mp H
   obtain ⟨t238, A140, H⟩ := H
   replace H : ((laws_toWarp.f k a1_0 l1_1 l1_2).bind fun bt241 => ((impl_DropFrames.f t238 bt241.1 bt241.2.1 bt241.2.2).bind fun bt249 => ((laws_eqWarp.f k bt249.1 bt249.2.1 bt249.2.2 t230 t231 t234).bind fun t257 => (if t257 = true then ((laws_toInsS.f k l0).bind fun t258 => ((laws_eqInsS.f k t238 t258).bind fun t261 => (if t261 = true then ((laws_toWarp.f k a1_0 l1_1 l1_2).bind fun bt262 => ((laws_eqWarp.f k bt241.1 bt241.2.1 bt241.2.2 bt262.1 bt262.2.1 bt262.2.2).bind fun t269 => (if t269 = true then ((laws_markInsS.f k t238 1).bind fun bt270 => ((laws_markWarp.f k bt241.1 bt241.2.1 bt241.2.2 bt270.1).bind fun bt272 => (if bt272.1 < 0 then (laws_FnExactDropFrames.j0 k l0 true a1_0 l1_1 l1_2 t230 t231 t234 bt249.1 bt249.2.1 bt249.2.2) else ((laws_eqWarp.f k bt249.1 bt249.2.1 bt249.2.2 t230 t231 t234).bind fun t275 => (laws_FnExactDropFrames.j0 k l0 (!t275) a1_0 l1_1 l1_2 t230 t231 t234 bt249.1 bt249.2.1 bt249.2.2))))) else (none)))) else (none)))) else (none))))) = some r := H
   have A14 := Aside0.mk A140
   clear A140
   replace H := Option.bind_eq_some_iff.mp H
   obtain ⟨⟨t241, t242, t245⟩, A150, H⟩ := H
   replace H : ((impl_DropFrames.f t238 t241 t242 t245).bind fun bt249 => ((laws_eqWarp.f k bt249.1 bt249.2.1 bt249.2.2 t230 t231 t234).bind fun t257 => (if t257 = true then ((laws_toInsS.f k l0).bind fun t258 => ((laws_eqInsS.f k t238 t258).bind fun t261 => (if t261 = true then ((laws_toWarp.f k a1_0 l1_1 l1_2).bind fun bt262 => ((laws_eqWarp.f k t241 t242 t245 bt262.1 bt262.2.1 bt262.2.2).bind fun t269 => (if t269 = true then ((laws_markInsS.f k t238 1).bind fun bt270 => ((laws_markWarp.f k t241 t242 t245 bt270.1).bind fun bt272 => (if bt272.1 < 0 then (laws_FnExactDropFrames.j0 k l0 true a1_0 l1_1 l1_2 t230 t231 t234 bt249.1 bt249.2.1 bt249.2.2) else ((laws_eqWarp.f k bt249.1 bt249.2.1 bt249.2.2 t230 t231 t234).bind fun t275 => (laws_FnExactDropFrames.j0 k l0 (!t275) a1_0 l1_1 l1_2 t230 t231 t234 bt249.1 bt249.2.1 bt249.2.2))))) else (none)))) else (none)))) else (none)))) = some r := H
   have A15 := Aside0.mk A150
   clear A150
   replace H := Option.bind_eq_some_iff.mp H
   obtain ⟨⟨t249, t250, t253⟩, A160, H⟩ := H
   replace H : ((laws_eqWarp.f k t249 t250 t253 t230 t231 t234).bind fun t257 => (if t257 = true then ((laws_toInsS.f k l0).bind fun t258 => ((laws_eqInsS.f k t238 t258).bind fun t261 => (if t261 = true then ((laws_toWarp.f k a1_0 l1_1 l1_2).bind fun bt262 => ((laws_eqWarp.f k t241 t242 t245 bt262.1 bt262.2.1 bt262.2.2).bind fun t269 => (if t269 = true then ((laws_markInsS.f k t238 1).bind fun bt270 => ((laws_markWarp.f k t241 t242 t245 bt270.1).bind fun bt272 => (if bt272.1 < 0 then (laws_FnExactDropFrames.j0 k l0 true a1_0 l1_1 l1_2 t230 t231 t234 t249 t250 t253) else ((laws_eqWarp.f k t249 t250 t253 t230 t231 t234).bind fun t275 => (laws_FnExactDropFrames.j0 k l0 (!t275) a1_0 l1_1 l1_2 t230 t231 t234 t249 t250 t253))))) else (none)))) else (none)))) else (none))) = some r := H
   have A16 := Aside0.mk A160
   clear A160
   replace H := Option.bind_eq_some_iff.mp H
   obtain ⟨t257, A170, H⟩ := H
   replace H : (if t257 = true then ((laws_toInsS.f k l0).bind fun t258 => ((laws_eqInsS.f k t238 t258).bind fun t261 => (if t261 = true then ((laws_toWarp.f k a1_0 l1_1 l1_2).bind fun bt262 => ((laws_eqWarp.f k t241 t242 t245 bt262.1 bt262.2.1 bt262.2.2).bind fun t269 => (if t269 = true then ((laws_markInsS.f k t238 1).bind fun bt270 => ((laws_markWarp.f k t241 t242 t245 bt270.1).bind fun bt272 => (if bt272.1 < 0 then (laws_FnExactDropFrames.j0 k l0 true a1_0 l1_1 l1_2 t230 t231 t234 t249 t250 t253) else ((laws_eqWarp.f k t249 t250 t253 t230 t231 t234).bind fun t275 => (laws_FnExactDropFrames.j0 k l0 (!t275) a1_0 l1_1 l1_2 t230 t231 t234 t249 t250 t253))))) else (none)))) else (none)))) else (none)) = some r := H
   have A17 := Aside0.mk A170
   clear A170
   by_cases c18 : t257 = true
   ·subst c18
    have H1 : ((laws_toInsS.f k l0).bind fun t258 => ((laws_eqInsS.f k t238 t258).bind fun t261 => (if t261 = true then ((laws_toWarp.f k a1_0 l1_1 l1_2).bind fun bt262 => ((laws_eqWarp.f k t241 t242 t245 bt262.1 bt262.2.1 bt262.2.2).bind fun t269 => (if t269 = true then ((laws_markInsS.f k t238 1).bind fun bt270 => ((laws_markWarp.f k t241 t242 t245 bt270.1).bind fun bt272 => (if bt272.1 < 0 then (laws_FnExactDropFrames.j0 k l0 true a1_0 l1_1 l1_2 t230 t231 t234 t249 t250 t253) else ((laws_eqWarp.f k t249 t250 t253 t230 t231 t234).bind fun t275 => (laws_FnExactDropFrames.j0 k l0 (!t275) a1_0 l1_1 l1_2 t230 t231 t234 t249 t250 t253))))) else (none)))) else (none)))) = some r := by rw [if_pos rfl] at H; exact H
    clear H
    have H := H1
    clear H1
    replace H := Option.bind_eq_some_iff.mp H
    obtain ⟨t258, A190, H⟩ := H
    replace H : ((laws_eqInsS.f k t238 t258).bind fun t261 => (if t261 = true then ((laws_toWarp.f k a1_0 l1_1 l1_2).bind fun bt262 => ((laws_eqWarp.f k t241 t242 t245 bt262.1 bt262.2.1 bt262.2.2).bind fun t269 => (if t269 = true then ((laws_markInsS.f k t238 1).bind fun bt270 => ((laws_markWarp.f k t241 t242 t245 bt270.1).bind fun bt272 => (if bt272.1 < 0 then (laws_FnExactDropFrames.j0 k l0 true a1_0 l1_1 l1_2 t230 t231 t234 t249 t250 t253) else ((laws_eqWarp.f k t249 t250 t253 t230 t231 t234).bind fun t275 => (laws_FnExactDropFrames.j0 k l0 (!t275) a1_0 l1_1 l1_2 t230 t231 t234 t249 t250 t253))))) else (none)))) else (none))) = some r := H
    have A19 := Aside0.mk A190
    clear A190
    replace H := Option.bind_eq_some_iff.mp H
    obtain ⟨t261, A200, H⟩ := H
    replace H : (if t261 = true then ((laws_toWarp.f k a1_0 l1_1 l1_2).bind fun bt262 => ((laws_eqWarp.f k t241 t242 t245 bt262.1 bt262.2.1 bt262.2.2).bind fun t269 => (if t269 = true then ((laws_markInsS.f k t238 1).bind fun bt270 => ((laws_markWarp.f k t241 t242 t245 bt270.1).bind fun bt272 => (if bt272.1 < 0 then (laws_FnExactDropFrames.j0 k l0 true a1_0 l1_1 l1_2 t230 t231 t234 t249 t250 t253) else ((laws_eqWarp.f k t249 t250 t253 t230 t231 t234).bind fun t275 => (laws_FnExactDropFrames.j0 k l0 (!t275) a1_0 l1_1 l1_2 t230 t231 t234 t249 t250 t253))))) else (none)))) else (none)) = some r := H
    have A20 := Aside0.mk A200
    clear A200
    by_cases c21 : t261 = true
    ·subst c21
     have H1 : ((laws_toWarp.f k a1_0 l1_1 l1_2).bind fun bt262 => ((laws_eqWarp.f k t241 t242 t245 bt262.1 bt262.2.1 bt262.2.2).bind fun t269 => (if t269 = true then ((laws_markInsS.f k t238 1).bind fun bt270 => ((laws_markWarp.f k t241 t242 t245 bt270.1).bind fun bt272 => (if bt272.1 < 0 then (laws_FnExactDropFrames.j0 k l0 true a1_0 l1_1 l1_2 t230 t231 t234 t249 t250 t253) else ((laws_eqWarp.f k t249 t250 t253 t230 t231 t234).bind fun t275 => (laws_FnExactDropFrames.j0 k l0 (!t275) a1_0 l1_1 l1_2 t230 t231 t234 t249 t250 t253))))) else (none)))) = some r := by rw [if_pos rfl] at H; exact H
     clear H
     have H := H1
     clear H1
     replace H := Option.bind_eq_some_iff.mp H
     obtain ⟨⟨t262, t263, t266⟩, A220, H⟩ := H
     replace H : ((laws_eqWarp.f k t241 t242 t245 t262 t263 t266).bind fun t269 => (if t269 = true then ((laws_markInsS.f k t238 1).bind fun bt270 => ((laws_markWarp.f k t241 t242 t245 bt270.1).bind fun bt272 => (if bt272.1 < 0 then (laws_FnExactDropFrames.j0 k l0 true a1_0 l1_1 l1_2 t230 t231 t234 t249 t250 t253) else ((laws_eqWarp.f k t249 t250 t253 t230 t231 t234).bind fun t275 => (laws_FnExactDropFrames.j0 k l0 (!t275) a1_0 l1_1 l1_2 t230 t231 t234 t249 t250 t253))))) else (none))) = some r := H
     have A22 := Aside0.mk A220
     clear A220
     replace H := Option.bind_eq_some_iff.mp H
     obtain ⟨t269, A230, H⟩ := H
     replace H : (if t269 = true then ((laws_markInsS.f k t238 1).bind fun bt270 => ((laws_markWarp.f k t241 t242 t245 bt270.1).bind fun bt272 => (if bt272.1 < 0 then (laws_FnExactDropFrames.j0 k l0 true a1_0 l1_1 l1_2 t230 t231 t234 t249 t250 t253) else ((laws_eqWarp.f k t249 t250 t253 t230 t231 t234).bind fun t275 => (laws_FnExactDropFrames.j0 k l0 (!t275) a1_0 l1_1 l1_2 t230 t231 t234 t249 t250 t253))))) else (none)) = some r := H
     have A23 := Aside0.mk A230
     clear A230
     by_cases c24 : t269 = true
     ·subst c24
      have H1 : ((laws_markInsS.f k t238 1).bind fun bt270 => ((laws_markWarp.f k t241 t242 t245 bt270.1).bind fun bt272 => (if bt272.1 < 0 then (laws_FnExactDropFrames.j0 k l0 true a1_0 l1_1 l1_2 t230 t231 t234 t249 t250 t253) else ((laws_eqWarp.f k t249 t250 t253 t230 t231 t234).bind fun t275 => (laws_FnExactDropFrames.j0 k l0 (!t275) a1_0 l1_1 l1_2 t230 t231 t234 t249 t250 t253))))) = some r := by rw [if_pos rfl] at H; exact H
      clear H
      have H := H1
      clear H1
      replace H := Option.bind_eq_some_iff.mp H
      obtain ⟨⟨t270, t271⟩, A250, H⟩ := H
      replace H : ((laws_markWarp.f k t241 t242 t245 t270).bind fun bt272 => (if bt272.1 < 0 then (laws_FnExactDropFrames.j0 k l0 true a1_0 l1_1 l1_2 t230 t231 t234 t249 t250 t253) else ((laws_eqWarp.f k t249 t250 t253 t230 t231 t234).bind fun t275 => (laws_FnExactDropFrames.j0 k l0 (!t275) a1_0 l1_1 l1_2 t230 t231 t234 t249 t250 t253)))) = some r := H
      have A25 := Aside0.mk A250
      clear A250
      replace H := Option.bind_eq_some_iff.mp H
      obtain ⟨⟨t272, t273, t274⟩, A260, H⟩ := H
      replace H : (if t272 < 0 then (laws_FnExactDropFrames.j0 k l0 true a1_0 l1_1 l1_2 t230 t231 t234 t249 t250 t253) else ((laws_eqWarp.f k t249 t250 t253 t230 t231 t234).bind fun t275 => (laws_FnExactDropFrames.j0 k l0 (!t275) a1_0 l1_1 l1_2 t230 t231 t234 t249 t250 t253))) = some r := H
      have A26 := Aside0.mk A260
      clear A260
      have HC27 := Aside0.mk H
      clear H
      go_enter Try.func14, Try.ntmps14
      try go_wp2_with (first | ((with_reducible refine gate_dst (N := 3) rfl ?_); refine box_event ?hg (N := 3) ?hd (cs := #[.int .i64 a1_0, .slice A1_1 l1_1.length c1_1, .slice A1_2 l1_2.length c1_2]) (t := 31) ?hr ?_; (case hd => rfl); (case hg => rfl); (case hr => first | (go_simp; done) | (go_simp; rfl)); intro gb217 hg w28 hbox hb; have BK217 := Aside0.mk (hbox); have GW217 := Aside0.mk ((by rw [hg]; exact (below_size bw) : w.heap.size ≤ gb217)); have GE217 := Aside0.mk ((by rw [hg]; exact (below_size bw) : w.heap.size ≤ gb217)); replace HB := Aside0.mk (below_step bw hb); clear hb hbox hg) | ((with_reducible refine gate_callee (f := 44) rfl ?_); refine gL (some 16) Try.func44 #[.slice A0 l0.length c0, .int .i64 1048576] ?_; (with_reducible refine (laws_szInsS.calls _ _ l0 1048576 t218 _ ?side1 ?side2 A3.out).mono ?_); (case side1 => repeat (first | exact (Kd.C_below HR0.out HB.out) | (with_reducible refine Kd.C_alloc ?_ _) | (with_reducible refine Kd.C_drewN ?_ _) | (with_reducible refine Kd.C_drew ?_))); (case side2 => exact HC0.out); rintro e w' ⟨rfl, ⟨nd, rfl⟩⟩; refine ⟨_, rfl, ?_⟩; (try (rw [drewN_self w28]; generalize hq_ : World.drewN w28 _ = w28; have n0_ : Aside0 (w28.heap[gb217]? = some (.cells #[.int .i64 a1_0, .slice A1_1 l1_1.length c1_1, .slice A1_2 l1_2.length c1_2] 31 (0, 0))) := ⟨by rw [← hq_]; exact (bS BK217.out)⟩; have n1_ : Aside0 (Below w.heap.size w w28) := ⟨by rw [← hq_]; exact bx⟩; clear BK217 HB hq_; have BK217 := n0_; have HB := n1_; clear n0_ n1_)); have hcz29_0 : w28.cell? ⟨gb217, 0, none⟩ = some (.int .i64 a1_0) := (blk_cell BK217.out 0).trans rfl; have hcz29_1 : w28.cell? ⟨gb217, 1, none⟩ = some (.slice A1_1 l1_1.length c1_1) := (blk_cell BK217.out 1).trans rfl; have hcz29_2 : w28.cell? ⟨gb217, 2, none⟩ = some (.slice A1_2 l1_2.length c1_2) := (blk_cell BK217.out 2).trans rfl; have hfz29_0 := blk_frozen BK217.out 0; have hfz29_1 := blk_frozen BK217.out 1; have hfz29_2 := blk_frozen BK217.out 2) | ((with_reducible refine gate_callee (f := 20) rfl ?_); refine gL (some 21) Try.func20 #[.agg #[.int .i64 a1_0, .slice A1_1 l1_1.length c1_1, .slice A1_2 l1_2.length c1_2], .int .i64 t218] ?_; (with_reducible refine (laws_szWarp.calls a1_0 _ _ l1_1 _ _ l1_2 t218 t219 _ ?side1 ?side2 ?side3 ?side4 A6.out).mono ?_); (case side1 => repeat (first | exact (Kd.C_below HR1_1.out HB.out) | (with_reducible refine Kd.C_alloc ?_ _) | (with_reducible refine Kd.C_drewN ?_ _) | (with_reducible refine Kd.C_drew ?_))); (case side2 => exact HC1_1.out); (case side3 => repeat (first | exact (Kd.C_below HR1_2.out HB.out) | (with_reducible refine Kd.C_alloc ?_ _) | (with_reducible refine Kd.C_drewN ?_ _) | (with_reducible refine Kd.C_drew ?_))); (case side4 => exact HC1_2.out); rintro e w30 ⟨rfl, hb⟩; refine ⟨_, rfl, ?_⟩; replace BK217 := Aside0.mk (blk_below (g := gb217) (o := .cells #[.int .i64 a1_0, .slice A1_1 l1_1.length c1_1, .slice A1_2 l1_2.length c1_2] 31 (0, 0)) (bS BK217.out) hb); replace HB := Aside0.mk (below_step bx hb); (try clear hb)))
      replace BK217 := Aside0.mk (blk_drew BK217.out)
      replace HB := Aside0.mk (below_drew1 HB.out)
      refine start_ (n := 7) (S := fun w' => w'.cell? ⟨gb217, 0, none⟩ = some (.int .i64 a1_0) ∧ w'.cell? ⟨gb217, 1, none⟩ = some (.slice A1_1 l1_1.length c1_1) ∧ w'.cell? ⟨gb217, 2, none⟩ = some (.slice A1_2 l1_2.length c1_2)) (ds := []) #[false,false,false,false,false,false,false] (by kernel_rfl) rfl rfl ⟨(blk_cell BK217.out 0).trans rfl, (blk_cell BK217.out 1).trans rfl, (blk_cell BK217.out 2).trans rfl⟩ (fun hHeld => ?_)
      generalize w30.drew = w31 at BK217 HB hHeld ⊢
      refine pure_ (i := 0) (N := some 24) (v := ?_) (a' := ?_) #[true,false,false,false,false,false,false] rfl rfl (by kernel_rfl) (fun _ _ _ h => h) (Or.inl ⟨by rfl, ?_⟩) ?_ ?_
      rotate_left
      ·intro w'
       go_simp
       with_reducible rfl
      rotate_left
      ·simp only [Act.put, List.setIfInBounds_toArray, List.set_cons_zero, List.set_cons_succ, i64_w, i32_w]
       rfl
      refine take_ (i := 2) (N := some 26) (v := ?_) (a' := ?_) #[true,false,true,false,false,false,false] rfl rfl (by kernel_rfl) (fun _ _ _ h => h) (Or.inl ⟨by rfl, ?_⟩) hHeld ?_ ?_
      rotate_left
      ·rintro w' ⟨s0, s1, s2⟩
       go_simp
       with_reducible rfl
      rotate_left
      ·simp only [Act.put, List.setIfInBounds_toArray, List.set_cons_zero, List.set_cons_succ, i64_w, i32_w]
       rfl
      refine join_ (σ := Value × Value × Value × Value × Value × Nat) 1 #[true,true,true,true,true,true,false] (fun s_ => [(25, s_.1), (27, .agg #[.int .i64 t223, s_.2.1, s_.2.2.1]), (28, .agg #[.int .i64 t230, s_.2.2.2.1, s_.2.2.2.2.1]), (6, .pointer (some ⟨s_.2.2.2.2.2, 0, none⟩))]) (fun s_ w' => (w'.cell? ⟨gb217, 0, none⟩ = some (.int .i64 a1_0) ∧ w'.cell? ⟨gb217, 1, none⟩ = some (.slice A1_1 l1_1.length c1_1) ∧ w'.cell? ⟨gb217, 2, none⟩ = some (.slice A1_2 l1_2.length c1_2)) ∧ (Kd.R k94 94 w' w.heap.size (fun _ => True) s_.1 t220) ∧ (Kd.R k77 77 w' w.heap.size (fun k_ => some k_ ≠ (s_.2.2.2.1 : Value).ownBlock) s_.2.1 t224) ∧ (Kd.R (Kd.int .i64) 3 w' w.heap.size (fun k_ => some k_ ≠ (s_.2.2.2.2.1 : Value).ownBlock) s_.2.2.1 t227) ∧ (Kd.R k77 77 w' w.heap.size (fun k_ => some k_ ≠ (s_.2.1 : Value).ownBlock) s_.2.2.2.1 t231) ∧ (Kd.R (Kd.int .i64) 3 w' w.heap.size (fun k_ => some k_ ≠ (s_.2.2.1 : Value).ownBlock) s_.2.2.2.2.1 t234) ∧ (w'.heap[gb217]? = some (.cells #[.int .i64 a1_0, .slice A1_1 l1_1.length c1_1, .slice A1_2 l1_2.length c1_2] 31 (0, 0))) ∧ (w'.heap[s_.2.2.2.2.2]? = some (.cells #[.int .i64 0, .slice none 0 0, .slice none 0 0] 36 (0, 0))) ∧ (w.heap.size ≤ s_.2.2.2.2.2) ∧ (w.heap.size ≤ s_.2.2.2.2.2) ∧ (gb217 ≠ s_.2.2.2.2.2) ∧ (s_.2.2.2.2.2 ≠ gb217) ∧ (Below w.heap.size w w')) ?_ ?_
      rotate_left
      ·intro hCont
       refine two_ (i := 1) (j := 5) (Ni := some 25) (Nj := some 6) #[true,true,true,false,false,false,false] #[true,false,true,false,false,true,false] rfl rfl rfl rfl (by kernel_rfl) (by decide) (by decide) (fun K hK => ?_) (fun K hK => ?_)
       ·skip
        refine goes_ Try.func46 (by kernel_rfl) rfl #[.slice A0 l0.length c0] (by rfl) rfl rfl bz ?_
        with_reducible refine (laws_toInsS.calls k _ _ l0 t220 _ ?side1 ?side2 A11.out).mono ?_
        (case side1 => repeat (first | exact (Kd.C_below HR0.out HB.out) | (with_reducible refine Kd.C_alloc ?_ _) | (with_reducible refine Kd.C_drewN ?_ _) | (with_reducible refine Kd.C_drew ?_)))
        (case side2 => exact HC0.out)
        rintro e w32 ⟨v221, rfl, ho0, hb⟩
        refine ⟨_, rfl, ?_⟩
        have HO222 := Aside0.mk (Kd.R_lower ho0 (below_size bx))
        replace BK217 := Aside0.mk (blk_below (g := gb217) (o := .cells #[.int .i64 a1_0, .slice A1_1 l1_1.length c1_1, .slice A1_2 l1_2.length c1_2] 31 (0, 0)) (bS BK217.out) hb)
        replace HB := Aside0.mk (below_step bx hb)
        (try clear hb)
        (try clear hb2)
        (try clear hk)
        (try clear hi)
        (try clear ho0)
        refine hK.out _ _ ⟨(blk_cell BK217.out 0).trans rfl, (blk_cell BK217.out 1).trans rfl, (blk_cell BK217.out 2).trans rfl⟩ (fun hHeld => ?_)
        clear hK K
        refine norm_ (a' := ?_) ?_ ?_
        rotate_left
        ·show Act.put _ (some 25) _ = _
         simp only [Act.put, List.setIfInBounds_toArray, List.set_cons_zero, List.set_cons_succ, i64_w, i32_w]
         rfl
        refine two_ (i := 3) (j := 5) (Ni := some 27) (Nj := some 6) #[true,true,true,true,false,false,false] #[true,true,true,false,false,true,false] rfl rfl rfl rfl (by kernel_rfl) (by decide) (by decide) (fun K hK => ?_) (fun K hK => ?_)
        ·skip
         refine goes_ Try.func22 (by kernel_rfl) rfl #[.agg #[.int .i64 a1_0, .slice A1_1 l1_1.length c1_1, .slice A1_2 l1_2.length c1_2]] (by rfl) rfl rfl bz ?_
         with_reducible refine (laws_toWarp.calls k a1_0 _ _ l1_1 _ _ l1_2 t223 t224 t227 _ ?side1 ?side2 ?side3 ?side4 A12.out).mono ?_
         (case side1 => repeat (first | exact (Kd.C_below HR1_1.out HB.out) | (with_reducible refine Kd.C_alloc ?_ _) | (with_reducible refine Kd.C_drewN ?_ _) | (with_reducible refine Kd.C_drew ?_)))
         (case side2 => exact HC1_1.out)
         (case side3 => repeat (first | exact (Kd.C_below HR1_2.out HB.out) | (with_reducible refine Kd.C_alloc ?_ _) | (with_reducible refine Kd.C_drewN ?_ _) | (with_reducible refine Kd.C_drew ?_)))
         (case side4 => exact HC1_2.out)
         rintro e w33 ⟨v225, v228, rfl, ho0, ho1, hb⟩
         refine ⟨_, rfl, ?_⟩
         replace HO222 := Aside0.mk (Kd.R_below (rS HO222.out) hb)
         have HO226 := Aside0.mk (Kd.R_lower ho0 (below_size bx))
         have HO229 := Aside0.mk (Kd.R_lower ho1 (below_size bx))
         replace BK217 := Aside0.mk (blk_below (g := gb217) (o := .cells #[.int .i64 a1_0, .slice A1_1 l1_1.length c1_1, .slice A1_2 l1_2.length c1_2] 31 (0, 0)) (bS BK217.out) hb)
         replace HB := Aside0.mk (below_step bx hb)
         (try clear hb)
         (try clear hb2)
         (try clear hk)
         (try clear hi)
         (try clear ho0)
         (try clear ho1)
         obtain ⟨Ao34, co34, eo34⟩ := Kd.R_slice HO222.out
         (first | subst eo34 | (injection eo34 with f1_ f2_ f3_; have f4_ := f1_.symm; have f5_ := f3_.symm; clear f1_ f2_ f3_; subst f4_; subst f5_))
         obtain ⟨Ao35, co35, eo35⟩ := Kd.R_slice HO226.out
         (first | subst eo35 | (injection eo35 with f1_ f2_ f3_; have f4_ := f1_.symm; have f5_ := f3_.symm; clear f1_ f2_ f3_; subst f4_; subst f5_))
         obtain ⟨Ao36, co36, eo36⟩ := Kd.R_slice HO229.out
         (first | subst eo36 | (injection eo36 with f1_ f2_ f3_; have f4_ := f1_.symm; have f5_ := f3_.symm; clear f1_ f2_ f3_; subst f4_; subst f5_))
         refine hK.out _ _ ⟨(blk_cell BK217.out 0).trans rfl, (blk_cell BK217.out 1).trans rfl, (blk_cell BK217.out 2).trans rfl⟩ (fun hHeld => ?_)
         clear hK K
         refine norm_ (a' := ?_) ?_ ?_
         rotate_left
         ·show Act.put _ (some 27) _ = _
          simp only [Act.put, List.setIfInBounds_toArray, List.set_cons_zero, List.set_cons_succ, i64_w, i32_w]
          rfl
         refine two_ (i := 4) (j := 5) (Ni := some 28) (Nj := some 6) #[true,true,true,true,true,false,false] #[true,true,true,true,false,true,false] rfl rfl rfl rfl (by kernel_rfl) (by decide) (by decide) (fun K hK => ?_) (fun K hK => ?_)
         ·skip
          refine goes_ Try.func67 (by kernel_rfl) rfl #[.slice Ao34 t220.length co34, .agg #[.int .i64 t223, .slice Ao35 t224.length co35, .slice Ao36 t227.length co36]] (by rfl) rfl rfl bz ?_
          with_reducible refine (spec_DropFrames.calls k _ _ t220 t223 _ _ t224 _ _ t227 t230 t231 t234 _ ?side1 ?side2 ?side3 ?side4 ?side5 ?side6 A13.out).mono ?_
          (case side1 => exact cS (Kd.R_reads' HO222.out).2.2)
          (case side2 => exact (Kd.R_reads' HO222.out).2.1)
          (case side3 => exact cS (Kd.R_reads' HO226.out).2.2)
          (case side4 => exact (Kd.R_reads' HO226.out).2.1)
          (case side5 => exact cS (Kd.R_reads' HO229.out).2.2)
          (case side6 => exact (Kd.R_reads' HO229.out).2.1)
          rintro e w37 ⟨v232, v235, rfl, ho0, ho1, hb⟩
          refine ⟨_, rfl, ?_⟩
          replace HO222 := Aside0.mk (Kd.R_below (rS HO222.out) hb)
          have HO233 := Aside0.mk (Kd.R_lower (Kd.R_new' ho0 (Kd.R_lt (rS HO226.out))) (below_size bx))
          replace HO226 := Aside0.mk (Kd.R_elder' (rS HO226.out) (Kd.R_base ho0) hb)
          have HO236 := Aside0.mk (Kd.R_lower (Kd.R_new' ho1 (Kd.R_lt (rS HO229.out))) (below_size bx))
          replace HO229 := Aside0.mk (Kd.R_elder' (rS HO229.out) (Kd.R_base ho1) hb)
          replace BK217 := Aside0.mk (blk_below (g := gb217) (o := .cells #[.int .i64 a1_0, .slice A1_1 l1_1.length c1_1, .slice A1_2 l1_2.length c1_2] 31 (0, 0)) (bS BK217.out) hb)
          replace HB := Aside0.mk (below_step bx hb)
          (try clear hb)
          (try clear hb2)
          (try clear hk)
          (try clear hi)
          (try clear ho0)
          (try clear ho1)
          refine hK.out _ _ ⟨(blk_cell BK217.out 0).trans rfl, (blk_cell BK217.out 1).trans rfl, (blk_cell BK217.out 2).trans rfl⟩ (fun hHeld => ?_)
          clear hK K
          refine norm_ (a' := ?_) ?_ ?_
          rotate_left
          ·show Act.put _ (some 28) _ = _
           simp only [Act.put, List.setIfInBounds_toArray, List.set_cons_zero, List.set_cons_succ, i64_w, i32_w]
           rfl
          refine one_ (i := 5) (N := some 6) #[true,true,true,true,true,true,false] rfl rfl (by kernel_rfl) (by decide) (fun K hK => ?_)
          refine box_step ?hg (N := 6) ?hd (cs := #[.int .i64 0, .slice none 0 0, .slice none 0 0]) (t := 36) ?hr ?_; (case hd => rfl); (case hg => rfl); (case hr => first | (go_simp; done) | (go_simp; rfl))
          intro gb237 hg w38 hbox hb
          replace HO222 := Aside0.mk (Kd.R_below (rS HO222.out) hb)
          replace HO226 := Aside0.mk (Kd.R_below (rS HO226.out) hb)
          replace HO229 := Aside0.mk (Kd.R_below (rS HO229.out) hb)
          replace HO233 := Aside0.mk (Kd.R_below (rS HO233.out) hb)
          replace HO236 := Aside0.mk (Kd.R_below (rS HO236.out) hb)
          have BK237 := Aside0.mk (hbox)
          have GW237 := Aside0.mk ((by rw [hg]; exact (below_size bx) : w.heap.size ≤ gb237))
          have GE237 := Aside0.mk ((by rw [hg]; exact (below_size bx) : w.heap.size ≤ gb237))
          replace HB := Aside0.mk (below_step bx hb)
          have NB217_237 := Aside0.mk ((by rw [hg]; exact Nat.ne_of_lt (blk_lt (g := gb217) (o := .cells #[.int .i64 a1_0, .slice A1_1 l1_1.length c1_1, .slice A1_2 l1_2.length c1_2] 31 (0, 0)) (bS BK217.out)) : gb217 ≠ gb237))
          have NB237_217 := Aside0.mk ((by rw [hg]; exact Nat.ne_of_gt (blk_lt (g := gb217) (o := .cells #[.int .i64 a1_0, .slice A1_1 l1_1.length c1_1, .slice A1_2 l1_2.length c1_2] 31 (0, 0)) (bS BK217.out)) : gb237 ≠ gb217))
          replace BK217 := Aside0.mk (blk_below (g := gb217) (o := .cells #[.int .i64 a1_0, .slice A1_1 l1_1.length c1_1, .slice A1_2 l1_2.length c1_2] 31 (0, 0)) (bS BK217.out) hb)
          clear hb hbox hg
          refine hK.out _ _ ⟨(blk_cell BK217.out 0).trans rfl, (blk_cell BK217.out 1).trans rfl, (blk_cell BK217.out 2).trans rfl⟩ (fun hHeld => ?_)
          clear hK K
          refine norm_ (a' := ?_) ?_ ?_
          rotate_left
          ·show Act.put _ (some 6) _ = _
           simp only [Act.put, List.setIfInBounds_toArray, List.set_cons_zero, List.set_cons_succ, i64_w, i32_w]
           rfl
          exact norm_ (by simp only [putAll, Act.put, List.setIfInBounds_toArray, List.set_cons_zero, List.set_cons_succ]) (hCont (.slice Ao34 t220.length co34, .slice Ao35 t224.length co35, .slice Ao36 t227.length co36, v232, v235, gb237) _ ⟨hHeld, (rS HO222.out), (by (with_reducible repeat (first | apply Kd.R_alloc | apply Kd.R_drewN | apply Kd.R_drew)); exact Kd.R_mono HO226.out (fun _ hk => hk.2)), (by (with_reducible repeat (first | apply Kd.R_alloc | apply Kd.R_drewN | apply Kd.R_drew)); exact Kd.R_mono HO229.out (fun _ hk => hk.2)), (by (with_reducible repeat (first | apply Kd.R_alloc | apply Kd.R_drewN | apply Kd.R_drew)); exact Kd.R_mono HO233.out (fun _ hk => hk.2)), (by (with_reducible repeat (first | apply Kd.R_alloc | apply Kd.R_drewN | apply Kd.R_drew)); exact Kd.R_mono HO236.out (fun _ hk => hk.2)), (bS BK217.out), (bS BK237.out), GW237.out, GE237.out, NB217_237.out, NB237_217.out, bx⟩)
         ·skip
          refine box_step ?hg (N := 6) ?hd (cs := #[.int .i64 0, .slice none 0 0, .slice none 0 0]) (t := 36) ?hr ?_; (case hd => rfl); (case hg => rfl); (case hr => first | (go_simp; done) | (go_simp; rfl))
          intro gb237 hg w34 hbox hb
          replace HO222 := Aside0.mk (Kd.R_below (rS HO222.out) hb)
          replace HO226 := Aside0.mk (Kd.R_below (rS HO226.out) hb)
          replace HO229 := Aside0.mk (Kd.R_below (rS HO229.out) hb)
          have BK237 := Aside0.mk (hbox)
          have GW237 := Aside0.mk ((by rw [hg]; exact (below_size bx) : w.heap.size ≤ gb237))
          have GE237 := Aside0.mk ((by rw [hg]; exact (below_size bx) : w.heap.size ≤ gb237))
          replace HB := Aside0.mk (below_step bx hb)
          have NB217_237 := Aside0.mk ((by rw [hg]; exact Nat.ne_of_lt (blk_lt (g := gb217) (o := .cells #[.int .i64 a1_0, .slice A1_1 l1_1.length c1_1, .slice A1_2 l1_2.length c1_2] 31 (0, 0)) (bS BK217.out)) : gb217 ≠ gb237))
          have NB237_217 := Aside0.mk ((by rw [hg]; exact Nat.ne_of_gt (blk_lt (g := gb217) (o := .cells #[.int .i64 a1_0, .slice A1_1 l1_1.length c1_1, .slice A1_2 l1_2.length c1_2] 31 (0, 0)) (bS BK217.out)) : gb237 ≠ gb217))
          replace BK217 := Aside0.mk (blk_below (g := gb217) (o := .cells #[.int .i64 a1_0, .slice A1_1 l1_1.length c1_1, .slice A1_2 l1_2.length c1_2] 31 (0, 0)) (bS BK217.out) hb)
          clear hb hbox hg
          obtain ⟨Ao35, co35, eo35⟩ := Kd.R_slice HO222.out
          (first | subst eo35 | (injection eo35 with f1_ f2_ f3_; have f4_ := f1_.symm; have f5_ := f3_.symm; clear f1_ f2_ f3_; subst f4_; subst f5_))
          obtain ⟨Ao36, co36, eo36⟩ := Kd.R_slice HO226.out
          (first | subst eo36 | (injection eo36 with f1_ f2_ f3_; have f4_ := f1_.symm; have f5_ := f3_.symm; clear f1_ f2_ f3_; subst f4_; subst f5_))
          obtain ⟨Ao37, co37, eo37⟩ := Kd.R_slice HO229.out
          (first | subst eo37 | (injection eo37 with f1_ f2_ f3_; have f4_ := f1_.symm; have f5_ := f3_.symm; clear f1_ f2_ f3_; subst f4_; subst f5_))
          refine hK.out _ _ ⟨(blk_cell BK217.out 0).trans rfl, (blk_cell BK217.out 1).trans rfl, (blk_cell BK217.out 2).trans rfl⟩ (fun hHeld => ?_)
          clear hK K
          refine norm_ (a' := ?_) ?_ ?_
          rotate_left
          ·show Act.put _ (some 6) _ = _
           simp only [Act.put, List.setIfInBounds_toArray, List.set_cons_zero, List.set_cons_succ, i64_w, i32_w]
           rfl
          refine one_ (i := 4) (N := some 28) #[true,true,true,true,true,true,false] rfl rfl (by kernel_rfl) (by decide) (fun K hK => ?_)
          refine goes_ Try.func67 (by kernel_rfl) rfl #[.slice Ao35 t220.length co35, .agg #[.int .i64 t223, .slice Ao36 t224.length co36, .slice Ao37 t227.length co37]] (by rfl) rfl rfl bz ?_
          with_reducible refine (spec_DropFrames.calls k _ _ t220 t223 _ _ t224 _ _ t227 t230 t231 t234 _ ?side1 ?side2 ?side3 ?side4 ?side5 ?side6 A13.out).mono ?_
          (case side1 => exact cS (Kd.R_reads' HO222.out).2.2)
          (case side2 => exact (Kd.R_reads' HO222.out).2.1)
          (case side3 => exact cS (Kd.R_reads' HO226.out).2.2)
          (case side4 => exact (Kd.R_reads' HO226.out).2.1)
          (case side5 => exact cS (Kd.R_reads' HO229.out).2.2)
          (case side6 => exact (Kd.R_reads' HO229.out).2.1)
          rintro e w38 ⟨v232, v235, rfl, ho0, ho1, hb⟩
          refine ⟨_, rfl, ?_⟩
          replace HO222 := Aside0.mk (Kd.R_below (rS HO222.out) hb)
          have HO233 := Aside0.mk (Kd.R_lower (Kd.R_new' ho0 (Kd.R_lt (rS HO226.out))) (below_size bx))
          replace HO226 := Aside0.mk (Kd.R_elder' (rS HO226.out) (Kd.R_base ho0) hb)
          have HO236 := Aside0.mk (Kd.R_lower (Kd.R_new' ho1 (Kd.R_lt (rS HO229.out))) (below_size bx))
          replace HO229 := Aside0.mk (Kd.R_elder' (rS HO229.out) (Kd.R_base ho1) hb)
          replace BK217 := Aside0.mk (blk_below (g := gb217) (o := .cells #[.int .i64 a1_0, .slice A1_1 l1_1.length c1_1, .slice A1_2 l1_2.length c1_2] 31 (0, 0)) (bS BK217.out) hb)
          replace BK237 := Aside0.mk (blk_below (g := gb237) (o := .cells #[.int .i64 0, .slice none 0 0, .slice none 0 0] 36 (0, 0)) (bS BK237.out) hb)
          replace HB := Aside0.mk (below_step bx hb)
          (try clear hb)
          (try clear hb2)
          (try clear hk)
          (try clear hi)
          (try clear ho0)
          (try clear ho1)
          refine hK.out _ _ ⟨(blk_cell BK217.out 0).trans rfl, (blk_cell BK217.out 1).trans rfl, (blk_cell BK217.out 2).trans rfl⟩ (fun hHeld => ?_)
          clear hK K
          refine norm_ (a' := ?_) ?_ ?_
          rotate_left
          ·show Act.put _ (some 28) _ = _
           simp only [Act.put, List.setIfInBounds_toArray, List.set_cons_zero, List.set_cons_succ, i64_w, i32_w]
           rfl
          exact norm_ (by simp only [putAll, Act.put, List.setIfInBounds_toArray, List.set_cons_zero, List.set_cons_succ]) (hCont (.slice Ao35 t220.length co35, .slice Ao36 t224.length co36, .slice Ao37 t227.length co37, v232, v235, gb237) _ ⟨hHeld, (rS HO222.out), (by (with_reducible repeat (first | apply Kd.R_alloc | apply Kd.R_drewN | apply Kd.R_drew)); exact Kd.R_mono HO226.out (fun _ hk => hk.2)), (by (with_reducible repeat (first | apply Kd.R_alloc | apply Kd.R_drewN | apply Kd.R_drew)); exact Kd.R_mono HO229.out (fun _ hk => hk.2)), (by (with_reducible repeat (first | apply Kd.R_alloc | apply Kd.R_drewN | apply Kd.R_drew)); exact Kd.R_mono HO233.out (fun _ hk => hk.2)), (by (with_reducible repeat (first | apply Kd.R_alloc | apply Kd.R_drewN | apply Kd.R_drew)); exact Kd.R_mono HO236.out (fun _ hk => hk.2)), (bS BK217.out), (bS BK237.out), GW237.out, GE237.out, NB217_237.out, NB237_217.out, bx⟩)
        ·skip
         refine box_step ?hg (N := 6) ?hd (cs := #[.int .i64 0, .slice none 0 0, .slice none 0 0]) (t := 36) ?hr ?_; (case hd => rfl); (case hg => rfl); (case hr => first | (go_simp; done) | (go_simp; rfl))
         intro gb237 hg w33 hbox hb
         replace HO222 := Aside0.mk (Kd.R_below (rS HO222.out) hb)
         have BK237 := Aside0.mk (hbox)
         have GW237 := Aside0.mk ((by rw [hg]; exact (below_size bx) : w.heap.size ≤ gb237))
         have GE237 := Aside0.mk ((by rw [hg]; exact (below_size bx) : w.heap.size ≤ gb237))
         replace HB := Aside0.mk (below_step bx hb)
         have NB217_237 := Aside0.mk ((by rw [hg]; exact Nat.ne_of_lt (blk_lt (g := gb217) (o := .cells #[.int .i64 a1_0, .slice A1_1 l1_1.length c1_1, .slice A1_2 l1_2.length c1_2] 31 (0, 0)) (bS BK217.out)) : gb217 ≠ gb237))
         have NB237_217 := Aside0.mk ((by rw [hg]; exact Nat.ne_of_gt (blk_lt (g := gb217) (o := .cells #[.int .i64 a1_0, .slice A1_1 l1_1.length c1_1, .slice A1_2 l1_2.length c1_2] 31 (0, 0)) (bS BK217.out)) : gb237 ≠ gb217))
         replace BK217 := Aside0.mk (blk_below (g := gb217) (o := .cells #[.int .i64 a1_0, .slice A1_1 l1_1.length c1_1, .slice A1_2 l1_2.length c1_2] 31 (0, 0)) (bS BK217.out) hb)
         clear hb hbox hg
         refine hK.out _ _ ⟨(blk_cell BK217.out 0).trans rfl, (blk_cell BK217.out 1).trans rfl, (blk_cell BK217.out 2).trans rfl⟩ (fun hHeld => ?_)
         clear hK K
         refine norm_ (a' := ?_) ?_ ?_
         rotate_left
         ·show Act.put _ (some 6) _ = _
          simp only [Act.put, List.setIfInBounds_toArray, List.set_cons_zero, List.set_cons_succ, i64_w, i32_w]
          rfl
         refine one_ (i := 3) (N := some 27) #[true,true,true,true,false,true,false] rfl rfl (by kernel_rfl) (by decide) (fun K hK => ?_)
         refine goes_ Try.func22 (by kernel_rfl) rfl #[.agg #[.int .i64 a1_0, .slice A1_1 l1_1.length c1_1, .slice A1_2 l1_2.length c1_2]] (by rfl) rfl rfl bz ?_
         with_reducible refine (laws_toWarp.calls k a1_0 _ _ l1_1 _ _ l1_2 t223 t224 t227 _ ?side1 ?side2 ?side3 ?side4 A12.out).mono ?_
         (case side1 => repeat (first | exact (Kd.C_below HR1_1.out HB.out) | (with_reducible refine Kd.C_alloc ?_ _) | (with_reducible refine Kd.C_drewN ?_ _) | (with_reducible refine Kd.C_drew ?_)))
         (case side2 => exact HC1_1.out)
         (case side3 => repeat (first | exact (Kd.C_below HR1_2.out HB.out) | (with_reducible refine Kd.C_alloc ?_ _) | (with_reducible refine Kd.C_drewN ?_ _) | (with_reducible refine Kd.C_drew ?_)))
         (case side4 => exact HC1_2.out)
         rintro e w34 ⟨v225, v228, rfl, ho0, ho1, hb⟩
         refine ⟨_, rfl, ?_⟩
         replace HO222 := Aside0.mk (Kd.R_below (rS HO222.out) hb)
         have HO226 := Aside0.mk (Kd.R_lower ho0 (below_size bx))
         have HO229 := Aside0.mk (Kd.R_lower ho1 (below_size bx))
         replace BK217 := Aside0.mk (blk_below (g := gb217) (o := .cells #[.int .i64 a1_0, .slice A1_1 l1_1.length c1_1, .slice A1_2 l1_2.length c1_2] 31 (0, 0)) (bS BK217.out) hb)
         replace BK237 := Aside0.mk (blk_below (g := gb237) (o := .cells #[.int .i64 0, .slice none 0 0, .slice none 0 0] 36 (0, 0)) (bS BK237.out) hb)
         replace HB := Aside0.mk (below_step bx hb)
         (try clear hb)
         (try clear hb2)
         (try clear hk)
         (try clear hi)
         (try clear ho0)
         (try clear ho1)
         obtain ⟨Ao35, co35, eo35⟩ := Kd.R_slice HO222.out
         (first | subst eo35 | (injection eo35 with f1_ f2_ f3_; have f4_ := f1_.symm; have f5_ := f3_.symm; clear f1_ f2_ f3_; subst f4_; subst f5_))
         obtain ⟨Ao36, co36, eo36⟩ := Kd.R_slice HO226.out
         (first | subst eo36 | (injection eo36 with f1_ f2_ f3_; have f4_ := f1_.symm; have f5_ := f3_.symm; clear f1_ f2_ f3_; subst f4_; subst f5_))
         obtain ⟨Ao37, co37, eo37⟩ := Kd.R_slice HO229.out
         (first | subst eo37 | (injection eo37 with f1_ f2_ f3_; have f4_ := f1_.symm; have f5_ := f3_.symm; clear f1_ f2_ f3_; subst f4_; subst f5_))
         refine hK.out _ _ ⟨(blk_cell BK217.out 0).trans rfl, (blk_cell BK217.out 1).trans rfl, (blk_cell BK217.out 2).trans rfl⟩ (fun hHeld => ?_)
         clear hK K
         refine norm_ (a' := ?_) ?_ ?_
         rotate_left
         ·show Act.put _ (some 27) _ = _
          simp only [Act.put, List.setIfInBounds_toArray, List.set_cons_zero, List.set_cons_succ, i64_w, i32_w]
          rfl
         refine one_ (i := 4) (N := some 28) #[true,true,true,true,true,true,false] rfl rfl (by kernel_rfl) (by decide) (fun K hK => ?_)
         refine goes_ Try.func67 (by kernel_rfl) rfl #[.slice Ao35 t220.length co35, .agg #[.int .i64 t223, .slice Ao36 t224.length co36, .slice Ao37 t227.length co37]] (by rfl) rfl rfl bz ?_
         with_reducible refine (spec_DropFrames.calls k _ _ t220 t223 _ _ t224 _ _ t227 t230 t231 t234 _ ?side1 ?side2 ?side3 ?side4 ?side5 ?side6 A13.out).mono ?_
         (case side1 => exact cS (Kd.R_reads' HO222.out).2.2)
         (case side2 => exact (Kd.R_reads' HO222.out).2.1)
         (case side3 => exact cS (Kd.R_reads' HO226.out).2.2)
         (case side4 => exact (Kd.R_reads' HO226.out).2.1)
         (case side5 => exact cS (Kd.R_reads' HO229.out).2.2)
         (case side6 => exact (Kd.R_reads' HO229.out).2.1)
         rintro e w38 ⟨v232, v235, rfl, ho0, ho1, hb⟩
         refine ⟨_, rfl, ?_⟩
         replace HO222 := Aside0.mk (Kd.R_below (rS HO222.out) hb)
         have HO233 := Aside0.mk (Kd.R_lower (Kd.R_new' ho0 (Kd.R_lt (rS HO226.out))) (below_size bx))
         replace HO226 := Aside0.mk (Kd.R_elder' (rS HO226.out) (Kd.R_base ho0) hb)
         have HO236 := Aside0.mk (Kd.R_lower (Kd.R_new' ho1 (Kd.R_lt (rS HO229.out))) (below_size bx))
         replace HO229 := Aside0.mk (Kd.R_elder' (rS HO229.out) (Kd.R_base ho1) hb)
         replace BK217 := Aside0.mk (blk_below (g := gb217) (o := .cells #[.int .i64 a1_0, .slice A1_1 l1_1.length c1_1, .slice A1_2 l1_2.length c1_2] 31 (0, 0)) (bS BK217.out) hb)
         replace BK237 := Aside0.mk (blk_below (g := gb237) (o := .cells #[.int .i64 0, .slice none 0 0, .slice none 0 0] 36 (0, 0)) (bS BK237.out) hb)
         replace HB := Aside0.mk (below_step bx hb)
         (try clear hb)
         (try clear hb2)
         (try clear hk)
         (try clear hi)
         (try clear ho0)
         (try clear ho1)
         refine hK.out _ _ ⟨(blk_cell BK217.out 0).trans rfl, (blk_cell BK217.out 1).trans rfl, (blk_cell BK217.out 2).trans rfl⟩ (fun hHeld => ?_)
         clear hK K
         refine norm_ (a' := ?_) ?_ ?_
         rotate_left
         ·show Act.put _ (some 28) _ = _
          simp only [Act.put, List.setIfInBounds_toArray, List.set_cons_zero, List.set_cons_succ, i64_w, i32_w]
          rfl
         exact norm_ (by simp only [putAll, Act.put, List.setIfInBounds_toArray, List.set_cons_zero, List.set_cons_succ]) (hCont (.slice Ao35 t220.length co35, .slice Ao36 t224.length co36, .slice Ao37 t227.length co37, v232, v235, gb237) _ ⟨hHeld, (rS HO222.out), (by (with_reducible repeat (first | apply Kd.R_alloc | apply Kd.R_drewN | apply Kd.R_drew)); exact Kd.R_mono HO226.out (fun _ hk => hk.2)), (by (with_reducible repeat (first | apply Kd.R_alloc | apply Kd.R_drewN | apply Kd.R_drew)); exact Kd.R_mono HO229.out (fun _ hk => hk.2)), (by (with_reducible repeat (first | apply Kd.R_alloc | apply Kd.R_drewN | apply Kd.R_drew)); exact Kd.R_mono HO233.out (fun _ hk => hk.2)), (by (with_reducible repeat (first | apply Kd.R_alloc | apply Kd.R_drewN | apply Kd.R_drew)); exact Kd.R_mono HO236.out (fun _ hk => hk.2)), (bS BK217.out), (bS BK237.out), GW237.out, GE237.out, NB217_237.out, NB237_217.out, bx⟩)
       ·skip
        refine box_step ?hg (N := 6) ?hd (cs := #[.int .i64 0, .slice none 0 0, .slice none 0 0]) (t := 36) ?hr ?_; (case hd => rfl); (case hg => rfl); (case hr => first | (go_simp; done) | (go_simp; rfl))
        intro gb237 hg w32 hbox hb
        have BK237 := Aside0.mk (hbox)
        have GW237 := Aside0.mk ((by rw [hg]; exact (below_size bx) : w.heap.size ≤ gb237))
        have GE237 := Aside0.mk ((by rw [hg]; exact (below_size bx) : w.heap.size ≤ gb237))
        replace HB := Aside0.mk (below_step bx hb)
        have NB217_237 := Aside0.mk ((by rw [hg]; exact Nat.ne_of_lt (blk_lt (g := gb217) (o := .cells #[.int .i64 a1_0, .slice A1_1 l1_1.length c1_1, .slice A1_2 l1_2.length c1_2] 31 (0, 0)) (bS BK217.out)) : gb217 ≠ gb237))
        have NB237_217 := Aside0.mk ((by rw [hg]; exact Nat.ne_of_gt (blk_lt (g := gb217) (o := .cells #[.int .i64 a1_0, .slice A1_1 l1_1.length c1_1, .slice A1_2 l1_2.length c1_2] 31 (0, 0)) (bS BK217.out)) : gb237 ≠ gb217))
        replace BK217 := Aside0.mk (blk_below (g := gb217) (o := .cells #[.int .i64 a1_0, .slice A1_1 l1_1.length c1_1, .slice A1_2 l1_2.length c1_2] 31 (0, 0)) (bS BK217.out) hb)
        clear hb hbox hg
        refine hK.out _ _ ⟨(blk_cell BK217.out 0).trans rfl, (blk_cell BK217.out 1).trans rfl, (blk_cell BK217.out 2).trans rfl⟩ (fun hHeld => ?_)
        clear hK K
        refine norm_ (a' := ?_) ?_ ?_
        rotate_left
        ·show Act.put _ (some 6) _ = _
         simp only [Act.put, List.setIfInBounds_toArray, List.set_cons_zero, List.set_cons_succ, i64_w, i32_w]
         rfl
        refine one_ (i := 1) (N := some 25) #[true,true,true,false,false,true,false] rfl rfl (by kernel_rfl) (by decide) (fun K hK => ?_)
        refine goes_ Try.func46 (by kernel_rfl) rfl #[.slice A0 l0.length c0] (by rfl) rfl rfl bz ?_
        with_reducible refine (laws_toInsS.calls k _ _ l0 t220 _ ?side1 ?side2 A11.out).mono ?_
        (case side1 => repeat (first | exact (Kd.C_below HR0.out HB.out) | (with_reducible refine Kd.C_alloc ?_ _) | (with_reducible refine Kd.C_drewN ?_ _) | (with_reducible refine Kd.C_drew ?_)))
        (case side2 => exact HC0.out)
        rintro e w33 ⟨v221, rfl, ho0, hb⟩
        refine ⟨_, rfl, ?_⟩
        have HO222 := Aside0.mk (Kd.R_lower ho0 (below_size bx))
        replace BK217 := Aside0.mk (blk_below (g := gb217) (o := .cells #[.int .i64 a1_0, .slice A1_1 l1_1.length c1_1, .slice A1_2 l1_2.length c1_2] 31 (0, 0)) (bS BK217.out) hb)
        replace BK237 := Aside0.mk (blk_below (g := gb237) (o := .cells #[.int .i64 0, .slice none 0 0, .slice none 0 0] 36 (0, 0)) (bS BK237.out) hb)
        replace HB := Aside0.mk (below_step bx hb)
        (try clear hb)
        (try clear hb2)
        (try clear hk)
        (try clear hi)
        (try clear ho0)
        refine hK.out _ _ ⟨(blk_cell BK217.out 0).trans rfl, (blk_cell BK217.out 1).trans rfl, (blk_cell BK217.out 2).trans rfl⟩ (fun hHeld => ?_)
        clear hK K
        refine norm_ (a' := ?_) ?_ ?_
        rotate_left
        ·show Act.put _ (some 25) _ = _
         simp only [Act.put, List.setIfInBounds_toArray, List.set_cons_zero, List.set_cons_succ, i64_w, i32_w]
         rfl
        refine one_ (i := 3) (N := some 27) #[true,true,true,true,false,true,false] rfl rfl (by kernel_rfl) (by decide) (fun K hK => ?_)
        refine goes_ Try.func22 (by kernel_rfl) rfl #[.agg #[.int .i64 a1_0, .slice A1_1 l1_1.length c1_1, .slice A1_2 l1_2.length c1_2]] (by rfl) rfl rfl bz ?_
        with_reducible refine (laws_toWarp.calls k a1_0 _ _ l1_1 _ _ l1_2 t223 t224 t227 _ ?side1 ?side2 ?side3 ?side4 A12.out).mono ?_
        (case side1 => repeat (first | exact (Kd.C_below HR1_1.out HB.out) | (with_reducible refine Kd.C_alloc ?_ _) | (with_reducible refine Kd.C_drewN ?_ _) | (with_reducible refine Kd.C_drew ?_)))
        (case side2 => exact HC1_1.out)
        (case side3 => repeat (first | exact (Kd.C_below HR1_2.out HB.out) | (with_reducible refine Kd.C_alloc ?_ _) | (with_reducible refine Kd.C_drewN ?_ _) | (with_reducible refine Kd.C_drew ?_)))
        (case side4 => exact HC1_2.out)
        rintro e w34 ⟨v225, v228, rfl, ho0, ho1, hb⟩
        refine ⟨_, rfl, ?_⟩
        replace HO222 := Aside0.mk (Kd.R_below (rS HO222.out) hb)
        have HO226 := Aside0.mk (Kd.R_lower ho0 (below_size bx))
        have HO229 := Aside0.mk (Kd.R_lower ho1 (below_size bx))
        replace BK217 := Aside0.mk (blk_below (g := gb217) (o := .cells #[.int .i64 a1_0, .slice A1_1 l1_1.length c1_1, .slice A1_2 l1_2.length c1_2] 31 (0, 0)) (bS BK217.out) hb)
        replace BK237 := Aside0.mk (blk_below (g := gb237) (o := .cells #[.int .i64 0, .slice none 0 0, .slice none 0 0] 36 (0, 0)) (bS BK237.out) hb)
        replace HB := Aside0.mk (below_step bx hb)
        (try clear hb)
        (try clear hb2)
        (try clear hk)
        (try clear hi)
        (try clear ho0)
        (try clear ho1)
        obtain ⟨Ao35, co35, eo35⟩ := Kd.R_slice HO222.out
        (first | subst eo35 | (injection eo35 with f1_ f2_ f3_; have f4_ := f1_.symm; have f5_ := f3_.symm; clear f1_ f2_ f3_; subst f4_; subst f5_))
        obtain ⟨Ao36, co36, eo36⟩ := Kd.R_slice HO226.out
        (first | subst eo36 | (injection eo36 with f1_ f2_ f3_; have f4_ := f1_.symm; have f5_ := f3_.symm; clear f1_ f2_ f3_; subst f4_; subst f5_))
        obtain ⟨Ao37, co37, eo37⟩ := Kd.R_slice HO229.out
        (first | subst eo37 | (injection eo37 with f1_ f2_ f3_; have f4_ := f1_.symm; have f5_ := f3_.symm; clear f1_ f2_ f3_; subst f4_; subst f5_))
        refine hK.out _ _ ⟨(blk_cell BK217.out 0).trans rfl, (blk_cell BK217.out 1).trans rfl, (blk_cell BK217.out 2).trans rfl⟩ (fun hHeld => ?_)
        clear hK K
        refine norm_ (a' := ?_) ?_ ?_
        rotate_left
        ·show Act.put _ (some 27) _ = _
         simp only [Act.put, List.setIfInBounds_toArray, List.set_cons_zero, List.set_cons_succ, i64_w, i32_w]
         rfl
        refine one_ (i := 4) (N := some 28) #[true,true,true,true,true,true,false] rfl rfl (by kernel_rfl) (by decide) (fun K hK => ?_)
        refine goes_ Try.func67 (by kernel_rfl) rfl #[.slice Ao35 t220.length co35, .agg #[.int .i64 t223, .slice Ao36 t224.length co36, .slice Ao37 t227.length co37]] (by rfl) rfl rfl bz ?_
        with_reducible refine (spec_DropFrames.calls k _ _ t220 t223 _ _ t224 _ _ t227 t230 t231 t234 _ ?side1 ?side2 ?side3 ?side4 ?side5 ?side6 A13.out).mono ?_
        (case side1 => exact cS (Kd.R_reads' HO222.out).2.2)
        (case side2 => exact (Kd.R_reads' HO222.out).2.1)
        (case side3 => exact cS (Kd.R_reads' HO226.out).2.2)
        (case side4 => exact (Kd.R_reads' HO226.out).2.1)
        (case side5 => exact cS (Kd.R_reads' HO229.out).2.2)
        (case side6 => exact (Kd.R_reads' HO229.out).2.1)
        rintro e w38 ⟨v232, v235, rfl, ho0, ho1, hb⟩
        refine ⟨_, rfl, ?_⟩
        replace HO222 := Aside0.mk (Kd.R_below (rS HO222.out) hb)
        have HO233 := Aside0.mk (Kd.R_lower (Kd.R_new' ho0 (Kd.R_lt (rS HO226.out))) (below_size bx))
        replace HO226 := Aside0.mk (Kd.R_elder' (rS HO226.out) (Kd.R_base ho0) hb)
        have HO236 := Aside0.mk (Kd.R_lower (Kd.R_new' ho1 (Kd.R_lt (rS HO229.out))) (below_size bx))
        replace HO229 := Aside0.mk (Kd.R_elder' (rS HO229.out) (Kd.R_base ho1) hb)
        replace BK217 := Aside0.mk (blk_below (g := gb217) (o := .cells #[.int .i64 a1_0, .slice A1_1 l1_1.length c1_1, .slice A1_2 l1_2.length c1_2] 31 (0, 0)) (bS BK217.out) hb)
        replace BK237 := Aside0.mk (blk_below (g := gb237) (o := .cells #[.int .i64 0, .slice none 0 0, .slice none 0 0] 36 (0, 0)) (bS BK237.out) hb)
        replace HB := Aside0.mk (below_step bx hb)
        (try clear hb)
        (try clear hb2)
        (try clear hk)
        (try clear hi)
        (try clear ho0)
        (try clear ho1)
        refine hK.out _ _ ⟨(blk_cell BK217.out 0).trans rfl, (blk_cell BK217.out 1).trans rfl, (blk_cell BK217.out 2).trans rfl⟩ (fun hHeld => ?_)
        clear hK K
        refine norm_ (a' := ?_) ?_ ?_
        rotate_left
        ·show Act.put _ (some 28) _ = _
         simp only [Act.put, List.setIfInBounds_toArray, List.set_cons_zero, List.set_cons_succ, i64_w, i32_w]
         rfl
        exact norm_ (by simp only [putAll, Act.put, List.setIfInBounds_toArray, List.set_cons_zero, List.set_cons_succ]) (hCont (.slice Ao35 t220.length co35, .slice Ao36 t224.length co36, .slice Ao37 t227.length co37, v232, v235, gb237) _ ⟨hHeld, (rS HO222.out), (by (with_reducible repeat (first | apply Kd.R_alloc | apply Kd.R_drewN | apply Kd.R_drew)); exact Kd.R_mono HO226.out (fun _ hk => hk.2)), (by (with_reducible repeat (first | apply Kd.R_alloc | apply Kd.R_drewN | apply Kd.R_drew)); exact Kd.R_mono HO229.out (fun _ hk => hk.2)), (by (with_reducible repeat (first | apply Kd.R_alloc | apply Kd.R_drewN | apply Kd.R_drew)); exact Kd.R_mono HO233.out (fun _ hk => hk.2)), (by (with_reducible repeat (first | apply Kd.R_alloc | apply Kd.R_drewN | apply Kd.R_drew)); exact Kd.R_mono HO236.out (fun _ hk => hk.2)), (bS BK217.out), (bS BK237.out), GW237.out, GE237.out, NB217_237.out, NB237_217.out, bx⟩)
      rintro ⟨v221, v225, v228, v232, v235, gb237⟩ w39 ⟨hS_, h0_, h1_, h2_, h3_, h4_, h5_, h6_, h7_, h8_, h9_, h10_, h11_⟩
      have n0_ : Aside0 (Kd.R k94 94 w39 w.heap.size (fun _ => True) v221 t220) := ⟨h0_⟩
      have n1_ : Aside0 (Kd.R k77 77 w39 w.heap.size (fun k_ => some k_ ≠ (v232 : Value).ownBlock) v225 t224) := ⟨h1_⟩
      have n2_ : Aside0 (Kd.R (Kd.int .i64) 3 w39 w.heap.size (fun k_ => some k_ ≠ (v235 : Value).ownBlock) v228 t227) := ⟨h2_⟩
      have n3_ : Aside0 (Kd.R k77 77 w39 w.heap.size (fun k_ => some k_ ≠ (v225 : Value).ownBlock) v232 t231) := ⟨h3_⟩
      have n4_ : Aside0 (Kd.R (Kd.int .i64) 3 w39 w.heap.size (fun k_ => some k_ ≠ (v228 : Value).ownBlock) v235 t234) := ⟨h4_⟩
      have n5_ : Aside0 (w39.heap[gb217]? = some (.cells #[.int .i64 a1_0, .slice A1_1 l1_1.length c1_1, .slice A1_2 l1_2.length c1_2] 31 (0, 0))) := ⟨h5_⟩
      have n6_ : Aside0 (w39.heap[gb237]? = some (.cells #[.int .i64 0, .slice none 0 0, .slice none 0 0] 36 (0, 0))) := ⟨h6_⟩
      have n7_ : Aside0 (w.heap.size ≤ gb237) := ⟨h7_⟩
      have n8_ : Aside0 (w.heap.size ≤ gb237) := ⟨h8_⟩
      have n9_ : Aside0 (gb217 ≠ gb237) := ⟨h9_⟩
      have n10_ : Aside0 (gb237 ≠ gb217) := ⟨h10_⟩
      have n11_ : Aside0 (Below w.heap.size w w39) := ⟨h11_⟩
      clear BK217 HB h0_ h1_ h2_ h3_ h4_ h5_ h6_ h7_ h8_ h9_ h10_ h11_
      have HO222 := n0_
      have HO226 := n1_
      have HO229 := n2_
      have HO233 := n3_
      have HO236 := n4_
      have BK217 := n5_
      have BK237 := n6_
      have GW237 := n7_
      have GE237 := n8_
      have NB217_237 := n9_
      have NB237_217 := n10_
      have HB := n11_
      clear n0_ n1_ n2_ n3_ n4_ n5_ n6_ n7_ n8_ n9_ n10_ n11_
      have hHeld : w39.cell? ⟨gb217, 0, none⟩ = some (.int .i64 a1_0) ∧ w39.cell? ⟨gb217, 1, none⟩ = some (.slice A1_1 l1_1.length c1_1) ∧ w39.cell? ⟨gb217, 2, none⟩ = some (.slice A1_2 l1_2.length c1_2) := hS_
      obtain ⟨Ao41, co41, eo41⟩ := Kd.R_slice HO233.out
      (first | subst eo41 | (injection eo41 with f1_ f2_ f3_; have f4_ := f1_.symm; have f5_ := f3_.symm; clear f1_ f2_ f3_; subst f4_; subst f5_))
      obtain ⟨Ao43, co43, eo43⟩ := Kd.R_slice HO236.out
      (first | subst eo43 | (injection eo43 with f1_ f2_ f3_; have f4_ := f1_.symm; have f5_ := f3_.symm; clear f1_ f2_ f3_; subst f4_; subst f5_))
      refine norm_ (a' := ?_) ?_ ?_
      rotate_left
      ·simp only [putAll, Act.put, List.setIfInBounds_toArray, List.set_cons_zero, List.set_cons_succ]
       rfl
      refine one_ (i := 6) (N := none) #[true,true,true,true,true,true,true] rfl rfl (by kernel_rfl) (by decide) (fun K hK => ?_)
      have hs40 : w39.cell? ⟨gb237, 0, none⟩ = some (.int .i64 0) := (blk_cell BK237.out 0).trans rfl
      have hfs40 := blk_frozen BK237.out 0
      have hns40_0 := NB217_237.out
      have hms40_0 := NB237_217.out
      have hs42 : w39.cell? ⟨gb237, 1, none⟩ = some (.slice none 0 0) := (blk_cell BK237.out 1).trans rfl
      have hfs42 := blk_frozen BK237.out 1
      have hns42_0 := NB217_237.out
      have hms42_0 := NB237_217.out
      have hs44 : w39.cell? ⟨gb237, 2, none⟩ = some (.slice none 0 0) := (blk_cell BK237.out 2).trans rfl
      have hfs44 := blk_frozen BK237.out 2
      have hns44_0 := NB217_237.out
      have hms44_0 := NB237_217.out
      refine skip_ (w1 := ?_) (by rfl) rfl ?_ ?_
      rotate_left
      ·go_simp
       rfl
      refine hK.out _ _ ⟨((cell_far (p := ⟨gb237, _, none⟩) NB217_237.out _).trans (((cell_far (p := ⟨gb237, _, none⟩) NB217_237.out _).trans (((cell_far (p := ⟨gb237, _, none⟩) NB217_237.out _).trans (hHeld.1)))))), ((cell_far (p := ⟨gb237, _, none⟩) NB217_237.out _).trans (((cell_far (p := ⟨gb237, _, none⟩) NB217_237.out _).trans (((cell_far (p := ⟨gb237, _, none⟩) NB217_237.out _).trans (hHeld.2.1)))))), ((cell_far (p := ⟨gb237, _, none⟩) NB217_237.out _).trans (((cell_far (p := ⟨gb237, _, none⟩) NB217_237.out _).trans (((cell_far (p := ⟨gb237, _, none⟩) NB217_237.out _).trans (hHeld.2.2))))))⟩ (fun hHeld => ?_)
      clear hK K
      refine done_ (by kernel_rfl) ?_
      try go_wp2_with (first | ((with_reducible refine gate_callee (f := 46) rfl ?_); refine gL (some 30) Try.func46 #[.slice A0 l0.length c0] ?_; (with_reducible refine (laws_toInsS.calls k _ _ l0 t238 _ ?side1 ?side2 A14.out).mono ?_); (case side1 => exact Kd.C_below HR0.out bx); (case side2 => exact HC0.out); rintro e w45 ⟨v239, rfl, ho0, hb⟩; refine ⟨_, rfl, ?_⟩; replace HO226 := Aside0.mk (Kd.R_below (by (with_reducible repeat (first | apply Kd.R_alloc | apply Kd.R_drewN | apply Kd.R_drew)); exact (Kd.R_mono (Kd.R_far (p := ⟨gb237, 2, none⟩) (Kd.R_far (p := ⟨gb237, 1, none⟩) (Kd.R_far (p := ⟨gb237, 0, none⟩) (Kd.R_types HO226.out BK237.out (by decide)) (fun _ hk => hk.2) (.int .i64 t230)) (fun _ hk => hk.2) (.slice Ao41 t231.length co41)) (fun _ hk => hk.2) (.slice Ao43 t234.length co43)) (fun _ h_ => h_.1))) hb); replace HO229 := Aside0.mk (Kd.R_below (by (with_reducible repeat (first | apply Kd.R_alloc | apply Kd.R_drewN | apply Kd.R_drew)); exact (Kd.R_mono (Kd.R_far (p := ⟨gb237, 2, none⟩) (Kd.R_far (p := ⟨gb237, 1, none⟩) (Kd.R_far (p := ⟨gb237, 0, none⟩) (Kd.R_types HO229.out BK237.out (by decide)) (fun _ hk => hk.2) (.int .i64 t230)) (fun _ hk => hk.2) (.slice Ao41 t231.length co41)) (fun _ hk => hk.2) (.slice Ao43 t234.length co43)) (fun _ h_ => h_.1))) hb); replace HO233 := Aside0.mk (Kd.R_below (by (with_reducible repeat (first | apply Kd.R_alloc | apply Kd.R_drewN | apply Kd.R_drew)); exact (Kd.R_mono (Kd.R_far (p := ⟨gb237, 2, none⟩) (Kd.R_far (p := ⟨gb237, 1, none⟩) (Kd.R_far (p := ⟨gb237, 0, none⟩) (Kd.R_types HO233.out BK237.out (by decide)) (fun _ hk => hk.2) (.int .i64 t230)) (fun _ hk => hk.2) (.slice Ao41 t231.length co41)) (fun _ hk => hk.2) (.slice Ao43 t234.length co43)) (fun _ h_ => h_.1))) hb); replace HO236 := Aside0.mk (Kd.R_below (by (with_reducible repeat (first | apply Kd.R_alloc | apply Kd.R_drewN | apply Kd.R_drew)); exact (Kd.R_mono (Kd.R_far (p := ⟨gb237, 2, none⟩) (Kd.R_far (p := ⟨gb237, 1, none⟩) (Kd.R_far (p := ⟨gb237, 0, none⟩) (Kd.R_types HO236.out BK237.out (by decide)) (fun _ hk => hk.2) (.int .i64 t230)) (fun _ hk => hk.2) (.slice Ao41 t231.length co41)) (fun _ hk => hk.2) (.slice Ao43 t234.length co43)) (fun _ h_ => h_.1))) hb); have HO240 := Aside0.mk (Kd.R_lower (Kd.R_new' ho0 (Kd.R_lt (by (with_reducible repeat (first | apply Kd.R_alloc | apply Kd.R_drewN | apply Kd.R_drew)); exact (Kd.R_mono (Kd.R_far (p := ⟨gb237, 2, none⟩) (Kd.R_far (p := ⟨gb237, 1, none⟩) (Kd.R_far (p := ⟨gb237, 0, none⟩) (Kd.R_types HO222.out BK237.out (by decide)) (fun _ hk => hk.2) (.int .i64 t230)) (fun _ hk => hk.2) (.slice Ao41 t231.length co41)) (fun _ hk => hk.2) (.slice Ao43 t234.length co43)) (fun _ h_ => h_.1))))) (below_size bx)); replace HO222 := Aside0.mk (Kd.R_elder' (by (with_reducible repeat (first | apply Kd.R_alloc | apply Kd.R_drewN | apply Kd.R_drew)); exact (Kd.R_mono (Kd.R_far (p := ⟨gb237, 2, none⟩) (Kd.R_far (p := ⟨gb237, 1, none⟩) (Kd.R_far (p := ⟨gb237, 0, none⟩) (Kd.R_types HO222.out BK237.out (by decide)) (fun _ hk => hk.2) (.int .i64 t230)) (fun _ hk => hk.2) (.slice Ao41 t231.length co41)) (fun _ hk => hk.2) (.slice Ao43 t234.length co43)) (fun _ h_ => h_.1))) (Kd.R_base ho0) hb); replace BK217 := Aside0.mk (blk_below (g := gb217) (o := .cells #[.int .i64 a1_0, .slice A1_1 l1_1.length c1_1, .slice A1_2 l1_2.length c1_2] 31 (0, 0)) (by (with_reducible repeat (first | refine blk_drewN ?_ _ | refine blk_drew ?_ | refine blk_alloc ?_ _)); refine blk_far ?_ NB217_237.out _; (with_reducible repeat (first | refine blk_drewN ?_ _ | refine blk_drew ?_ | refine blk_alloc ?_ _)); refine blk_far ?_ NB217_237.out _; (with_reducible repeat (first | refine blk_drewN ?_ _ | refine blk_drew ?_ | refine blk_alloc ?_ _)); refine blk_far ?_ NB217_237.out _; (with_reducible repeat (first | refine blk_drewN ?_ _ | refine blk_drew ?_ | refine blk_alloc ?_ _)); exact BK217.out) hb); replace BK237 := Aside0.mk (blk_below (g := gb237) (o := .cells #[.int .i64 t230, .slice Ao41 t231.length co41, .slice Ao43 t234.length co43] 36 (0, 0)) (by (with_reducible repeat (first | refine blk_drewN ?_ _ | refine blk_drew ?_ | refine blk_alloc ?_ _)); refine blk_put (cs := #[.int .i64 t230, .slice Ao41 t231.length co41, .slice none 0 0]) ?_ 2 _ rfl; (with_reducible repeat (first | refine blk_drewN ?_ _ | refine blk_drew ?_ | refine blk_alloc ?_ _)); refine blk_put (cs := #[.int .i64 t230, .slice none 0 0, .slice none 0 0]) ?_ 1 _ rfl; (with_reducible repeat (first | refine blk_drewN ?_ _ | refine blk_drew ?_ | refine blk_alloc ?_ _)); refine blk_put (cs := #[.int .i64 0, .slice none 0 0, .slice none 0 0]) ?_ 0 _ rfl; (with_reducible repeat (first | refine blk_drewN ?_ _ | refine blk_drew ?_ | refine blk_alloc ?_ _)); exact BK237.out) hb); replace HB := Aside0.mk (below_step bx hb); (try clear hb); (try clear hk); (try clear ho0); have hnb46 := NB217_237.out; have hnc46 := NB237_217.out; have hcz47_0 : w45.cell? ⟨gb217, 0, none⟩ = some (.int .i64 a1_0) := (blk_cell BK217.out 0).trans rfl; have hcz47_1 : w45.cell? ⟨gb217, 1, none⟩ = some (.slice A1_1 l1_1.length c1_1) := (blk_cell BK217.out 1).trans rfl; have hcz47_2 : w45.cell? ⟨gb217, 2, none⟩ = some (.slice A1_2 l1_2.length c1_2) := (blk_cell BK217.out 2).trans rfl; have hfz47_0 := blk_frozen BK217.out 0; have hfz47_1 := blk_frozen BK217.out 1; have hfz47_2 := blk_frozen BK217.out 2) | ((with_reducible refine gate_callee (f := 22) rfl ?_); refine gL (some 32) Try.func22 #[.agg #[.int .i64 a1_0, .slice A1_1 l1_1.length c1_1, .slice A1_2 l1_2.length c1_2]] ?_; (with_reducible refine (laws_toWarp.calls k a1_0 _ _ l1_1 _ _ l1_2 t241 t242 t245 _ ?side1 ?side2 ?side3 ?side4 A15.out).mono ?_); (case side1 => repeat (first | exact (Kd.C_below HR1_1.out HB.out) | (with_reducible refine Kd.C_alloc ?_ _) | (with_reducible refine Kd.C_drewN ?_ _) | (with_reducible refine Kd.C_drew ?_))); (case side2 => exact HC1_1.out); (case side3 => repeat (first | exact (Kd.C_below HR1_2.out HB.out) | (with_reducible refine Kd.C_alloc ?_ _) | (with_reducible refine Kd.C_drewN ?_ _) | (with_reducible refine Kd.C_drew ?_))); (case side4 => exact HC1_2.out); rintro e w48 ⟨v243, v246, rfl, ho0, ho1, hb⟩; refine ⟨_, rfl, ?_⟩; replace HO222 := Aside0.mk (Kd.R_below (rS HO222.out) hb); replace HO240 := Aside0.mk (Kd.R_below (rS HO240.out) hb); have HO244 := Aside0.mk (Kd.R_lower (Kd.R_new' (Kd.R_new' ho0 (Kd.R_lt (rS HO226.out))) (Kd.R_lt (rS HO233.out))) (below_size bx)); replace HO226 := Aside0.mk (Kd.R_elder' (rS HO226.out) (Kd.R_base ho0) hb); replace HO233 := Aside0.mk (Kd.R_elder' (rS HO233.out) (Kd.R_base ho0) hb); have HO247 := Aside0.mk (Kd.R_lower (Kd.R_new' (Kd.R_new' ho1 (Kd.R_lt (rS HO229.out))) (Kd.R_lt (rS HO236.out))) (below_size bx)); replace HO229 := Aside0.mk (Kd.R_elder' (rS HO229.out) (Kd.R_base ho1) hb); replace HO236 := Aside0.mk (Kd.R_elder' (rS HO236.out) (Kd.R_base ho1) hb); replace BK217 := Aside0.mk (blk_below (g := gb217) (o := .cells #[.int .i64 a1_0, .slice A1_1 l1_1.length c1_1, .slice A1_2 l1_2.length c1_2] 31 (0, 0)) (bS BK217.out) hb); replace BK237 := Aside0.mk (blk_below (g := gb237) (o := .cells #[.int .i64 t230, .slice Ao41 t231.length co41, .slice Ao43 t234.length co43] 36 (0, 0)) (bS BK237.out) hb); replace HB := Aside0.mk (below_step bx hb); (try clear hb); (try clear ho0); (try clear ho1)) | ((with_reducible refine gate_dst (N := 8) rfl ?_); refine box_event ?hg (N := 8) ?hd (cs := #[.int .i64 0, .slice none 0 0, .slice none 0 0]) (t := 36) ?hr ?_; (case hd => rfl); (case hg => rfl); (case hr => first | (go_simp; done) | (go_simp; rfl)); intro gb248 hg w49 hbox hb; replace HO222 := Aside0.mk (Kd.R_below (rS HO222.out) hb); replace HO226 := Aside0.mk (Kd.R_below (rS HO226.out) hb); replace HO229 := Aside0.mk (Kd.R_below (rS HO229.out) hb); replace HO233 := Aside0.mk (Kd.R_below (rS HO233.out) hb); replace HO236 := Aside0.mk (Kd.R_below (rS HO236.out) hb); replace HO240 := Aside0.mk (Kd.R_below (rS HO240.out) hb); replace HO244 := Aside0.mk (Kd.R_below (rS HO244.out) hb); replace HO247 := Aside0.mk (Kd.R_below (rS HO247.out) hb); have BK248 := Aside0.mk (hbox); have GW248 := Aside0.mk ((by rw [hg]; exact (below_size bx) : w.heap.size ≤ gb248)); have GE248 := Aside0.mk ((by rw [hg]; exact (below_size bx) : w.heap.size ≤ gb248)); replace HB := Aside0.mk (below_step bx hb); have NB217_248 := Aside0.mk ((by rw [hg]; exact Nat.ne_of_lt (blk_lt (g := gb217) (o := .cells #[.int .i64 a1_0, .slice A1_1 l1_1.length c1_1, .slice A1_2 l1_2.length c1_2] 31 (0, 0)) (bS BK217.out)) : gb217 ≠ gb248)); have NB248_217 := Aside0.mk ((by rw [hg]; exact Nat.ne_of_gt (blk_lt (g := gb217) (o := .cells #[.int .i64 a1_0, .slice A1_1 l1_1.length c1_1, .slice A1_2 l1_2.length c1_2] 31 (0, 0)) (bS BK217.out)) : gb248 ≠ gb217)); replace BK217 := Aside0.mk (blk_below (g := gb217) (o := .cells #[.int .i64 a1_0, .slice A1_1 l1_1.length c1_1, .slice A1_2 l1_2.length c1_2] 31 (0, 0)) (bS BK217.out) hb); have NB237_248 := Aside0.mk ((by rw [hg]; exact Nat.ne_of_lt (blk_lt (g := gb237) (o := .cells #[.int .i64 t230, .slice Ao41 t231.length co41, .slice Ao43 t234.length co43] 36 (0, 0)) (bS BK237.out)) : gb237 ≠ gb248)); have NB248_237 := Aside0.mk ((by rw [hg]; exact Nat.ne_of_gt (blk_lt (g := gb237) (o := .cells #[.int .i64 t230, .slice Ao41 t231.length co41, .slice Ao43 t234.length co43] 36 (0, 0)) (bS BK237.out)) : gb248 ≠ gb237)); replace BK237 := Aside0.mk (blk_below (g := gb237) (o := .cells #[.int .i64 t230, .slice Ao41 t231.length co41, .slice Ao43 t234.length co43] 36 (0, 0)) (bS BK237.out) hb); clear hb hbox hg; have hnb50 := NB248_217.out; have hnc50 := NB217_248.out; have hnb51 := NB248_237.out; have hnc51 := NB237_248.out; have hcz52_0 : w49.cell? ⟨gb248, 0, none⟩ = some (.int .i64 0) := (blk_cell BK248.out 0).trans rfl; have hcz52_1 : w49.cell? ⟨gb248, 1, none⟩ = some (.slice none 0 0) := (blk_cell BK248.out 1).trans rfl; have hcz52_2 : w49.cell? ⟨gb248, 2, none⟩ = some (.slice none 0 0) := (blk_cell BK248.out 2).trans rfl; have hfz52_0 := blk_frozen BK248.out 0; have hfz52_1 := blk_frozen BK248.out 1; have hfz52_2 := blk_frozen BK248.out 2; obtain ⟨Ao53, co53, eo53⟩ := Kd.R_slice HO244.out; subst eo53; obtain ⟨Ao54, co54, eo54⟩ := Kd.R_slice HO247.out; subst eo54; obtain ⟨Ao55, co55, eo55⟩ := Kd.R_slice HO240.out; subst eo55) | ((with_reducible refine gate_callee (f := 68) rfl ?_); refine gL (some 35) Try.func68 #[.slice Ao55 t238.length co55, .agg #[.int .i64 t241, .slice Ao53 t242.length co53, .slice Ao54 t245.length co54]] ?_; (with_reducible refine (impl_DropFrames.calls _ _ t238 t241 _ _ t242 _ _ t245 t249 t250 t253 _ ?side1 ?side2 ?side3 ?side4 ?side5 ?side6 A16.out).mono ?_); (case side1 => refine (Kd.R_reads' (e := 94) (base := w.heap.size) (ok := fun k_ => (True ∧ some k_ ≠ (v221 : Value).ownBlock)) (n := t238.length) (c := co55) ?_).2.2; exact (by (with_reducible repeat (first | apply Kd.R_alloc | apply Kd.R_drewN | apply Kd.R_drew)); exact (Kd.R_mono (Kd.R_far (p := ⟨gb248, 2, none⟩) (Kd.R_far (p := ⟨gb248, 1, none⟩) (Kd.R_far (p := ⟨gb248, 0, none⟩) (Kd.R_types HO240.out BK248.out (by decide)) (fun _ hk => hk.2) (.int .i64 t241)) (fun _ hk => hk.2) (.slice Ao53 t242.length co53)) (fun _ hk => hk.2) (.slice Ao54 t245.length co54)) (fun _ h_ => h_.1)))); (case side2 => exact (Kd.R_reads' HO240.out).2.1); (case side3 => refine (Kd.R_reads' (e := 77) (base := w.heap.size) (ok := fun k_ => ((True ∧ some k_ ≠ (v225 : Value).ownBlock) ∧ some k_ ≠ (.slice Ao41 t231.length co41 : Value).ownBlock)) (n := t242.length) (c := co53) ?_).2.2; exact (by (with_reducible repeat (first | apply Kd.R_alloc | apply Kd.R_drewN | apply Kd.R_drew)); exact (Kd.R_mono (Kd.R_far (p := ⟨gb248, 2, none⟩) (Kd.R_far (p := ⟨gb248, 1, none⟩) (Kd.R_far (p := ⟨gb248, 0, none⟩) (Kd.R_types HO244.out BK248.out (by decide)) (fun _ hk => hk.2) (.int .i64 t241)) (fun _ hk => hk.2) (.slice Ao53 t242.length co53)) (fun _ hk => hk.2) (.slice Ao54 t245.length co54)) (fun _ h_ => h_.1)))); (case side4 => exact (Kd.R_reads' HO244.out).2.1); (case side5 => refine (Kd.R_reads' (e := 3) (base := w.heap.size) (ok := fun k_ => ((True ∧ some k_ ≠ (v228 : Value).ownBlock) ∧ some k_ ≠ (.slice Ao43 t234.length co43 : Value).ownBlock)) (n := t245.length) (c := co54) ?_).2.2; exact (by (with_reducible repeat (first | apply Kd.R_alloc | apply Kd.R_drewN | apply Kd.R_drew)); exact (Kd.R_mono (Kd.R_far (p := ⟨gb248, 2, none⟩) (Kd.R_far (p := ⟨gb248, 1, none⟩) (Kd.R_far (p := ⟨gb248, 0, none⟩) (Kd.R_types HO247.out BK248.out (by decide)) (fun _ hk => hk.2) (.int .i64 t241)) (fun _ hk => hk.2) (.slice Ao53 t242.length co53)) (fun _ hk => hk.2) (.slice Ao54 t245.length co54)) (fun _ h_ => h_.1)))); (case side6 => exact (Kd.R_reads' HO247.out).2.1); rintro e w56 ⟨v251, v254, rfl, ho0, ho1, hb⟩; refine ⟨_, rfl, ?_⟩; replace HO222 := Aside0.mk (Kd.R_below (by (with_reducible repeat (first | apply Kd.R_alloc | apply Kd.R_drewN | apply Kd.R_drew)); exact (Kd.R_mono (Kd.R_far (p := ⟨gb248, 2, none⟩) (Kd.R_far (p := ⟨gb248, 1, none⟩) (Kd.R_far (p := ⟨gb248, 0, none⟩) (Kd.R_types HO222.out BK248.out (by decide)) (fun _ hk => hk.2) (.int .i64 t241)) (fun _ hk => hk.2) (.slice Ao53 t242.length co53)) (fun _ hk => hk.2) (.slice Ao54 t245.length co54)) (fun _ h_ => h_.1))) hb); replace HO240 := Aside0.mk (Kd.R_below (by (with_reducible repeat (first | apply Kd.R_alloc | apply Kd.R_drewN | apply Kd.R_drew)); exact (Kd.R_mono (Kd.R_far (p := ⟨gb248, 2, none⟩) (Kd.R_far (p := ⟨gb248, 1, none⟩) (Kd.R_far (p := ⟨gb248, 0, none⟩) (Kd.R_types HO240.out BK248.out (by decide)) (fun _ hk => hk.2) (.int .i64 t241)) (fun _ hk => hk.2) (.slice Ao53 t242.length co53)) (fun _ hk => hk.2) (.slice Ao54 t245.length co54)) (fun _ h_ => h_.1))) hb); have HO252 := Aside0.mk (Kd.R_lower (Kd.R_new' (Kd.R_new' (Kd.R_new' ho0 (Kd.R_lt (by (with_reducible repeat (first | apply Kd.R_alloc | apply Kd.R_drewN | apply Kd.R_drew)); exact (Kd.R_mono (Kd.R_far (p := ⟨gb248, 2, none⟩) (Kd.R_far (p := ⟨gb248, 1, none⟩) (Kd.R_far (p := ⟨gb248, 0, none⟩) (Kd.R_types HO226.out BK248.out (by decide)) (fun _ hk => hk.2) (.int .i64 t241)) (fun _ hk => hk.2) (.slice Ao53 t242.length co53)) (fun _ hk => hk.2) (.slice Ao54 t245.length co54)) (fun _ h_ => h_.1))))) (Kd.R_lt (by (with_reducible repeat (first | apply Kd.R_alloc | apply Kd.R_drewN | apply Kd.R_drew)); exact (Kd.R_mono (Kd.R_far (p := ⟨gb248, 2, none⟩) (Kd.R_far (p := ⟨gb248, 1, none⟩) (Kd.R_far (p := ⟨gb248, 0, none⟩) (Kd.R_types HO233.out BK248.out (by decide)) (fun _ hk => hk.2) (.int .i64 t241)) (fun _ hk => hk.2) (.slice Ao53 t242.length co53)) (fun _ hk => hk.2) (.slice Ao54 t245.length co54)) (fun _ h_ => h_.1))))) (Kd.R_lt (by (with_reducible repeat (first | apply Kd.R_alloc | apply Kd.R_drewN | apply Kd.R_drew)); exact (Kd.R_mono (Kd.R_far (p := ⟨gb248, 2, none⟩) (Kd.R_far (p := ⟨gb248, 1, none⟩) (Kd.R_far (p := ⟨gb248, 0, none⟩) (Kd.R_types HO244.out BK248.out (by decide)) (fun _ hk => hk.2) (.int .i64 t241)) (fun _ hk => hk.2) (.slice Ao53 t242.length co53)) (fun _ hk => hk.2) (.slice Ao54 t245.length co54)) (fun _ h_ => h_.1))))) (below_size bx)); replace HO226 := Aside0.mk (Kd.R_elder' (by (with_reducible repeat (first | apply Kd.R_alloc | apply Kd.R_drewN | apply Kd.R_drew)); exact (Kd.R_mono (Kd.R_far (p := ⟨gb248, 2, none⟩) (Kd.R_far (p := ⟨gb248, 1, none⟩) (Kd.R_far (p := ⟨gb248, 0, none⟩) (Kd.R_types HO226.out BK248.out (by decide)) (fun _ hk => hk.2) (.int .i64 t241)) (fun _ hk => hk.2) (.slice Ao53 t242.length co53)) (fun _ hk => hk.2) (.slice Ao54 t245.length co54)) (fun _ h_ => h_.1))) (Kd.R_base ho0) hb); replace HO233 := Aside0.mk (Kd.R_elder' (by (with_reducible repeat (first | apply Kd.R_alloc | apply Kd.R_drewN | apply Kd.R_drew)); exact (Kd.R_mono (Kd.R_far (p := ⟨gb248, 2, none⟩) (Kd.R_far (p := ⟨gb248, 1, none⟩) (Kd.R_far (p := ⟨gb248, 0, none⟩) (Kd.R_types HO233.out BK248.out (by decide)) (fun _ hk => hk.2) (.int .i64 t241)) (fun _ hk => hk.2) (.slice Ao53 t242.length co53)) (fun _ hk => hk.2) (.slice Ao54 t245.length co54)) (fun _ h_ => h_.1))) (Kd.R_base ho0) hb); replace HO244 := Aside0.mk (Kd.R_elder' (by (with_reducible repeat (first | apply Kd.R_alloc | apply Kd.R_drewN | apply Kd.R_drew)); exact (Kd.R_mono (Kd.R_far (p := ⟨gb248, 2, none⟩) (Kd.R_far (p := ⟨gb248, 1, none⟩) (Kd.R_far (p := ⟨gb248, 0, none⟩) (Kd.R_types HO244.out BK248.out (by decide)) (fun _ hk => hk.2) (.int .i64 t241)) (fun _ hk => hk.2) (.slice Ao53 t242.length co53)) (fun _ hk => hk.2) (.slice Ao54 t245.length co54)) (fun _ h_ => h_.1))) (Kd.R_base ho0) hb); have HO255 := Aside0.mk (Kd.R_lower (Kd.R_new' (Kd.R_new' (Kd.R_new' ho1 (Kd.R_lt (by (with_reducible repeat (first | apply Kd.R_alloc | apply Kd.R_drewN | apply Kd.R_drew)); exact (Kd.R_mono (Kd.R_far (p := ⟨gb248, 2, none⟩) (Kd.R_far (p := ⟨gb248, 1, none⟩) (Kd.R_far (p := ⟨gb248, 0, none⟩) (Kd.R_types HO229.out BK248.out (by decide)) (fun _ hk => hk.2) (.int .i64 t241)) (fun _ hk => hk.2) (.slice Ao53 t242.length co53)) (fun _ hk => hk.2) (.slice Ao54 t245.length co54)) (fun _ h_ => h_.1))))) (Kd.R_lt (by (with_reducible repeat (first | apply Kd.R_alloc | apply Kd.R_drewN | apply Kd.R_drew)); exact (Kd.R_mono (Kd.R_far (p := ⟨gb248, 2, none⟩) (Kd.R_far (p := ⟨gb248, 1, none⟩) (Kd.R_far (p := ⟨gb248, 0, none⟩) (Kd.R_types HO236.out BK248.out (by decide)) (fun _ hk => hk.2) (.int .i64 t241)) (fun _ hk => hk.2) (.slice Ao53 t242.length co53)) (fun _ hk => hk.2) (.slice Ao54 t245.length co54)) (fun _ h_ => h_.1))))) (Kd.R_lt (by (with_reducible repeat (first | apply Kd.R_alloc | apply Kd.R_drewN | apply Kd.R_drew)); exact (Kd.R_mono (Kd.R_far (p := ⟨gb248, 2, none⟩) (Kd.R_far (p := ⟨gb248, 1, none⟩) (Kd.R_far (p := ⟨gb248, 0, none⟩) (Kd.R_types HO247.out BK248.out (by decide)) (fun _ hk => hk.2) (.int .i64 t241)) (fun _ hk => hk.2) (.slice Ao53 t242.length co53)) (fun _ hk => hk.2) (.slice Ao54 t245.length co54)) (fun _ h_ => h_.1))))) (below_size bx)); replace HO229 := Aside0.mk (Kd.R_elder' (by (with_reducible repeat (first | apply Kd.R_alloc | apply Kd.R_drewN | apply Kd.R_drew)); exact (Kd.R_mono (Kd.R_far (p := ⟨gb248, 2, none⟩) (Kd.R_far (p := ⟨gb248, 1, none⟩) (Kd.R_far (p := ⟨gb248, 0, none⟩) (Kd.R_types HO229.out BK248.out (by decide)) (fun _ hk => hk.2) (.int .i64 t241)) (fun _ hk => hk.2) (.slice Ao53 t242.length co53)) (fun _ hk => hk.2) (.slice Ao54 t245.length co54)) (fun _ h_ => h_.1))) (Kd.R_base ho1) hb); replace HO236 := Aside0.mk (Kd.R_elder' (by (with_reducible repeat (first | apply Kd.R_alloc | apply Kd.R_drewN | apply Kd.R_drew)); exact (Kd.R_mono (Kd.R_far (p := ⟨gb248, 2, none⟩) (Kd.R_far (p := ⟨gb248, 1, none⟩) (Kd.R_far (p := ⟨gb248, 0, none⟩) (Kd.R_types HO236.out BK248.out (by decide)) (fun _ hk => hk.2) (.int .i64 t241)) (fun _ hk => hk.2) (.slice Ao53 t242.length co53)) (fun _ hk => hk.2) (.slice Ao54 t245.length co54)) (fun _ h_ => h_.1))) (Kd.R_base ho1) hb); replace HO247 := Aside0.mk (Kd.R_elder' (by (with_reducible repeat (first | apply Kd.R_alloc | apply Kd.R_drewN | apply Kd.R_drew)); exact (Kd.R_mono (Kd.R_far (p := ⟨gb248, 2, none⟩) (Kd.R_far (p := ⟨gb248, 1, none⟩) (Kd.R_far (p := ⟨gb248, 0, none⟩) (Kd.R_types HO247.out BK248.out (by decide)) (fun _ hk => hk.2) (.int .i64 t241)) (fun _ hk => hk.2) (.slice Ao53 t242.length co53)) (fun _ hk => hk.2) (.slice Ao54 t245.length co54)) (fun _ h_ => h_.1))) (Kd.R_base ho1) hb); replace BK217 := Aside0.mk (blk_below (g := gb217) (o := .cells #[.int .i64 a1_0, .slice A1_1 l1_1.length c1_1, .slice A1_2 l1_2.length c1_2] 31 (0, 0)) (by (with_reducible repeat (first | refine blk_drewN ?_ _ | refine blk_drew ?_ | refine blk_alloc ?_ _)); refine blk_far ?_ NB217_248.out _; (with_reducible repeat (first | refine blk_drewN ?_ _ | refine blk_drew ?_ | refine blk_alloc ?_ _)); refine blk_far ?_ NB217_248.out _; (with_reducible repeat (first | refine blk_drewN ?_ _ | refine blk_drew ?_ | refine blk_alloc ?_ _)); refine blk_far ?_ NB217_248.out _; (with_reducible repeat (first | refine blk_drewN ?_ _ | refine blk_drew ?_ | refine blk_alloc ?_ _)); exact BK217.out) hb); replace BK237 := Aside0.mk (blk_below (g := gb237) (o := .cells #[.int .i64 t230, .slice Ao41 t231.length co41, .slice Ao43 t234.length co43] 36 (0, 0)) (by (with_reducible repeat (first | refine blk_drewN ?_ _ | refine blk_drew ?_ | refine blk_alloc ?_ _)); refine blk_far ?_ NB237_248.out _; (with_reducible repeat (first | refine blk_drewN ?_ _ | refine blk_drew ?_ | refine blk_alloc ?_ _)); refine blk_far ?_ NB237_248.out _; (with_reducible repeat (first | refine blk_drewN ?_ _ | refine blk_drew ?_ | refine blk_alloc ?_ _)); refine blk_far ?_ NB237_248.out _; (with_reducible repeat (first | refine blk_drewN ?_ _ | refine blk_drew ?_ | refine blk_alloc ?_ _)); exact BK237.out) hb); replace BK248 := Aside0.mk (blk_below (g := gb248) (o := .cells #[.int .i64 t241, .slice Ao53 t242.length co53, .slice Ao54 t245.length co54] 36 (0, 0)) (by (with_reducible repeat (first | refine blk_drewN ?_ _ | refine blk_drew ?_ | refine blk_alloc ?_ _)); refine blk_put (cs := #[.int .i64 t241, .slice Ao53 t242.length co53, .slice none 0 0]) ?_ 2 _ rfl; (with_reducible repeat (first | refine blk_drewN ?_ _ | refine blk_drew ?_ | refine blk_alloc ?_ _)); refine blk_put (cs := #[.int .i64 t241, .slice none 0 0, .slice none 0 0]) ?_ 1 _ rfl; (with_reducible repeat (first | refine blk_drewN ?_ _ | refine blk_drew ?_ | refine blk_alloc ?_ _)); refine blk_put (cs := #[.int .i64 0, .slice none 0 0, .slice none 0 0]) ?_ 0 _ rfl; (with_reducible repeat (first | refine blk_drewN ?_ _ | refine blk_drew ?_ | refine blk_alloc ?_ _)); exact BK248.out) hb); replace HB := Aside0.mk (below_step bx hb); (try clear hb); (try clear hk); (try clear ho0); (try clear ho1)) | ((with_reducible refine gate_dst (N := 9) rfl ?_); refine box_event ?hg (N := 9) ?hd (cs := #[.int .i64 0, .slice none 0 0, .slice none 0 0]) (t := 36) ?hr ?_; (case hd => rfl); (case hg => rfl); (case hr => first | (go_simp; done) | (go_simp; rfl)); intro gb256 hg w57 hbox hb; replace HO222 := Aside0.mk (Kd.R_below (rS HO222.out) hb); replace HO226 := Aside0.mk (Kd.R_below (rS HO226.out) hb); replace HO229 := Aside0.mk (Kd.R_below (rS HO229.out) hb); replace HO233 := Aside0.mk (Kd.R_below (rS HO233.out) hb); replace HO236 := Aside0.mk (Kd.R_below (rS HO236.out) hb); replace HO240 := Aside0.mk (Kd.R_below (rS HO240.out) hb); replace HO244 := Aside0.mk (Kd.R_below (rS HO244.out) hb); replace HO247 := Aside0.mk (Kd.R_below (rS HO247.out) hb); replace HO252 := Aside0.mk (Kd.R_below (rS HO252.out) hb); replace HO255 := Aside0.mk (Kd.R_below (rS HO255.out) hb); have BK256 := Aside0.mk (hbox); have GW256 := Aside0.mk ((by rw [hg]; exact (below_size bx) : w.heap.size ≤ gb256)); have GE256 := Aside0.mk ((by rw [hg]; exact (below_size bx) : w.heap.size ≤ gb256)); replace HB := Aside0.mk (below_step bx hb); have NB217_256 := Aside0.mk ((by rw [hg]; exact Nat.ne_of_lt (blk_lt (g := gb217) (o := .cells #[.int .i64 a1_0, .slice A1_1 l1_1.length c1_1, .slice A1_2 l1_2.length c1_2] 31 (0, 0)) (bS BK217.out)) : gb217 ≠ gb256)); have NB256_217 := Aside0.mk ((by rw [hg]; exact Nat.ne_of_gt (blk_lt (g := gb217) (o := .cells #[.int .i64 a1_0, .slice A1_1 l1_1.length c1_1, .slice A1_2 l1_2.length c1_2] 31 (0, 0)) (bS BK217.out)) : gb256 ≠ gb217)); replace BK217 := Aside0.mk (blk_below (g := gb217) (o := .cells #[.int .i64 a1_0, .slice A1_1 l1_1.length c1_1, .slice A1_2 l1_2.length c1_2] 31 (0, 0)) (bS BK217.out) hb); have NB237_256 := Aside0.mk ((by rw [hg]; exact Nat.ne_of_lt (blk_lt (g := gb237) (o := .cells #[.int .i64 t230, .slice Ao41 t231.length co41, .slice Ao43 t234.length co43] 36 (0, 0)) (bS BK237.out)) : gb237 ≠ gb256)); have NB256_237 := Aside0.mk ((by rw [hg]; exact Nat.ne_of_gt (blk_lt (g := gb237) (o := .cells #[.int .i64 t230, .slice Ao41 t231.length co41, .slice Ao43 t234.length co43] 36 (0, 0)) (bS BK237.out)) : gb256 ≠ gb237)); replace BK237 := Aside0.mk (blk_below (g := gb237) (o := .cells #[.int .i64 t230, .slice Ao41 t231.length co41, .slice Ao43 t234.length co43] 36 (0, 0)) (bS BK237.out) hb); have NB248_256 := Aside0.mk ((by rw [hg]; exact Nat.ne_of_lt (blk_lt (g := gb248) (o := .cells #[.int .i64 t241, .slice Ao53 t242.length co53, .slice Ao54 t245.length co54] 36 (0, 0)) (bS BK248.out)) : gb248 ≠ gb256)); have NB256_248 := Aside0.mk ((by rw [hg]; exact Nat.ne_of_gt (blk_lt (g := gb248) (o := .cells #[.int .i64 t241, .slice Ao53 t242.length co53, .slice Ao54 t245.length co54] 36 (0, 0)) (bS BK248.out)) : gb256 ≠ gb248)); replace BK248 := Aside0.mk (blk_below (g := gb248) (o := .cells #[.int .i64 t241, .slice Ao53 t242.length co53, .slice Ao54 t245.length co54] 36 (0, 0)) (bS BK248.out) hb); clear hb hbox hg; have hnb58 := NB256_217.out; have hnc58 := NB217_256.out; have hnb59 := NB256_237.out; have hnc59 := NB237_256.out; have hnb60 := NB256_248.out; have hnc60 := NB248_256.out; have hcz61_0 : w57.cell? ⟨gb256, 0, none⟩ = some (.int .i64 0) := (blk_cell BK256.out 0).trans rfl; have hcz61_1 : w57.cell? ⟨gb256, 1, none⟩ = some (.slice none 0 0) := (blk_cell BK256.out 1).trans rfl; have hcz61_2 : w57.cell? ⟨gb256, 2, none⟩ = some (.slice none 0 0) := (blk_cell BK256.out 2).trans rfl; have hfz61_0 := blk_frozen BK256.out 0; have hfz61_1 := blk_frozen BK256.out 1; have hfz61_2 := blk_frozen BK256.out 2; obtain ⟨Ao62, co62, eo62⟩ := Kd.R_slice HO252.out; subst eo62; obtain ⟨Ao63, co63, eo63⟩ := Kd.R_slice HO255.out; subst eo63; have hcz64_0 : w57.cell? ⟨gb237, 0, none⟩ = some (.int .i64 t230) := (blk_cell BK237.out 0).trans rfl; have hcz64_1 : w57.cell? ⟨gb237, 1, none⟩ = some (.slice Ao41 t231.length co41) := (blk_cell BK237.out 1).trans rfl; have hcz64_2 : w57.cell? ⟨gb237, 2, none⟩ = some (.slice Ao43 t234.length co43) := (blk_cell BK237.out 2).trans rfl; have hfz64_0 := blk_frozen BK237.out 0; have hfz64_1 := blk_frozen BK237.out 1; have hfz64_2 := blk_frozen BK237.out 2) | ((with_reducible refine gate_callee (f := 24) rfl ?_); refine gL (some 38) Try.func24 #[.agg #[.int .i64 t249, .slice Ao62 t250.length co62, .slice Ao63 t253.length co63], .agg #[.int .i64 t230, .slice Ao41 t231.length co41, .slice Ao43 t234.length co43]] ?_; (with_reducible refine (laws_eqWarp.calls k t249 _ _ t250 _ _ t253 t230 _ _ t231 _ _ t234 true _ ?side1 ?side2 ?side3 ?side4 ?side5 ?side6 ?side7 ?side8 A17.out).mono ?_); (case side1 => refine (Kd.R_reads' (e := 77) (base := w.heap.size) (ok := fun k_ => (((True ∧ some k_ ≠ (v225 : Value).ownBlock) ∧ some k_ ≠ (.slice Ao41 t231.length co41 : Value).ownBlock) ∧ some k_ ≠ (.slice Ao53 t242.length co53 : Value).ownBlock)) (n := t250.length) (c := co62) ?_).2.2; exact (by (with_reducible repeat (first | apply Kd.R_alloc | apply Kd.R_drewN | apply Kd.R_drew)); exact (Kd.R_mono (Kd.R_far (p := ⟨gb256, 2, none⟩) (Kd.R_far (p := ⟨gb256, 1, none⟩) (Kd.R_far (p := ⟨gb256, 0, none⟩) (Kd.R_types HO252.out BK256.out (by decide)) (fun _ hk => hk.2) (.int .i64 t249)) (fun _ hk => hk.2) (.slice Ao62 t250.length co62)) (fun _ hk => hk.2) (.slice Ao63 t253.length co63)) (fun _ h_ => h_.1)))); (case side2 => exact (Kd.R_reads' HO252.out).2.1); (case side3 => refine (Kd.R_reads' (e := 3) (base := w.heap.size) (ok := fun k_ => (((True ∧ some k_ ≠ (v228 : Value).ownBlock) ∧ some k_ ≠ (.slice Ao43 t234.length co43 : Value).ownBlock) ∧ some k_ ≠ (.slice Ao54 t245.length co54 : Value).ownBlock)) (n := t253.length) (c := co63) ?_).2.2; exact (by (with_reducible repeat (first | apply Kd.R_alloc | apply Kd.R_drewN | apply Kd.R_drew)); exact (Kd.R_mono (Kd.R_far (p := ⟨gb256, 2, none⟩) (Kd.R_far (p := ⟨gb256, 1, none⟩) (Kd.R_far (p := ⟨gb256, 0, none⟩) (Kd.R_types HO255.out BK256.out (by decide)) (fun _ hk => hk.2) (.int .i64 t249)) (fun _ hk => hk.2) (.slice Ao62 t250.length co62)) (fun _ hk => hk.2) (.slice Ao63 t253.length co63)) (fun _ h_ => h_.1)))); (case side4 => exact (Kd.R_reads' HO255.out).2.1); (case side5 => refine (Kd.R_reads' (e := 77) (base := w.heap.size) (ok := fun k_ => ((some k_ ≠ (v225 : Value).ownBlock ∧ some k_ ≠ (.slice Ao53 t242.length co53 : Value).ownBlock) ∧ some k_ ≠ (.slice Ao62 t250.length co62 : Value).ownBlock)) (n := t231.length) (c := co41) ?_).2.2; exact (by (with_reducible repeat (first | apply Kd.R_alloc | apply Kd.R_drewN | apply Kd.R_drew)); exact (Kd.R_mono (Kd.R_far (p := ⟨gb256, 2, none⟩) (Kd.R_far (p := ⟨gb256, 1, none⟩) (Kd.R_far (p := ⟨gb256, 0, none⟩) (Kd.R_types HO233.out BK256.out (by decide)) (fun _ hk => hk.2) (.int .i64 t249)) (fun _ hk => hk.2) (.slice Ao62 t250.length co62)) (fun _ hk => hk.2) (.slice Ao63 t253.length co63)) (fun _ h_ => h_.1)))); (case side6 => exact (Kd.R_reads' HO233.out).2.1); (case side7 => refine (Kd.R_reads' (e := 3) (base := w.heap.size) (ok := fun k_ => ((some k_ ≠ (v228 : Value).ownBlock ∧ some k_ ≠ (.slice Ao54 t245.length co54 : Value).ownBlock) ∧ some k_ ≠ (.slice Ao63 t253.length co63 : Value).ownBlock)) (n := t234.length) (c := co43) ?_).2.2; exact (by (with_reducible repeat (first | apply Kd.R_alloc | apply Kd.R_drewN | apply Kd.R_drew)); exact (Kd.R_mono (Kd.R_far (p := ⟨gb256, 2, none⟩) (Kd.R_far (p := ⟨gb256, 1, none⟩) (Kd.R_far (p := ⟨gb256, 0, none⟩) (Kd.R_types HO236.out BK256.out (by decide)) (fun _ hk => hk.2) (.int .i64 t249)) (fun _ hk => hk.2) (.slice Ao62 t250.length co62)) (fun _ hk => hk.2) (.slice Ao63 t253.length co63)) (fun _ h_ => h_.1)))); (case side8 => exact (Kd.R_reads' HO236.out).2.1); rintro e w65 ⟨rfl, hb⟩; refine ⟨_, rfl, ?_⟩; replace HO222 := Aside0.mk (Kd.R_below (by (with_reducible repeat (first | apply Kd.R_alloc | apply Kd.R_drewN | apply Kd.R_drew)); exact (Kd.R_mono (Kd.R_far (p := ⟨gb256, 2, none⟩) (Kd.R_far (p := ⟨gb256, 1, none⟩) (Kd.R_far (p := ⟨gb256, 0, none⟩) (Kd.R_types HO222.out BK256.out (by decide)) (fun _ hk => hk.2) (.int .i64 t249)) (fun _ hk => hk.2) (.slice Ao62 t250.length co62)) (fun _ hk => hk.2) (.slice Ao63 t253.length co63)) (fun _ h_ => h_.1))) hb); replace HO226 := Aside0.mk (Kd.R_below (by (with_reducible repeat (first | apply Kd.R_alloc | apply Kd.R_drewN | apply Kd.R_drew)); exact (Kd.R_mono (Kd.R_far (p := ⟨gb256, 2, none⟩) (Kd.R_far (p := ⟨gb256, 1, none⟩) (Kd.R_far (p := ⟨gb256, 0, none⟩) (Kd.R_types HO226.out BK256.out (by decide)) (fun _ hk => hk.2) (.int .i64 t249)) (fun _ hk => hk.2) (.slice Ao62 t250.length co62)) (fun _ hk => hk.2) (.slice Ao63 t253.length co63)) (fun _ h_ => h_.1))) hb); replace HO229 := Aside0.mk (Kd.R_below (by (with_reducible repeat (first | apply Kd.R_alloc | apply Kd.R_drewN | apply Kd.R_drew)); exact (Kd.R_mono (Kd.R_far (p := ⟨gb256, 2, none⟩) (Kd.R_far (p := ⟨gb256, 1, none⟩) (Kd.R_far (p := ⟨gb256, 0, none⟩) (Kd.R_types HO229.out BK256.out (by decide)) (fun _ hk => hk.2) (.int .i64 t249)) (fun _ hk => hk.2) (.slice Ao62 t250.length co62)) (fun _ hk => hk.2) (.slice Ao63 t253.length co63)) (fun _ h_ => h_.1))) hb); replace HO233 := Aside0.mk (Kd.R_below (by (with_reducible repeat (first | apply Kd.R_alloc | apply Kd.R_drewN | apply Kd.R_drew)); exact (Kd.R_mono (Kd.R_far (p := ⟨gb256, 2, none⟩) (Kd.R_far (p := ⟨gb256, 1, none⟩) (Kd.R_far (p := ⟨gb256, 0, none⟩) (Kd.R_types HO233.out BK256.out (by decide)) (fun _ hk => hk.2) (.int .i64 t249)) (fun _ hk => hk.2) (.slice Ao62 t250.length co62)) (fun _ hk => hk.2) (.slice Ao63 t253.length co63)) (fun _ h_ => h_.1))) hb); replace HO236 := Aside0.mk (Kd.R_below (by (with_reducible repeat (first | apply Kd.R_alloc | apply Kd.R_drewN | apply Kd.R_drew)); exact (Kd.R_mono (Kd.R_far (p := ⟨gb256, 2, none⟩) (Kd.R_far (p := ⟨gb256, 1, none⟩) (Kd.R_far (p := ⟨gb256, 0, none⟩) (Kd.R_types HO236.out BK256.out (by decide)) (fun _ hk => hk.2) (.int .i64 t249)) (fun _ hk => hk.2) (.slice Ao62 t250.length co62)) (fun _ hk => hk.2) (.slice Ao63 t253.length co63)) (fun _ h_ => h_.1))) hb); replace HO240 := Aside0.mk (Kd.R_below (by (with_reducible repeat (first | apply Kd.R_alloc | apply Kd.R_drewN | apply Kd.R_drew)); exact (Kd.R_mono (Kd.R_far (p := ⟨gb256, 2, none⟩) (Kd.R_far (p := ⟨gb256, 1, none⟩) (Kd.R_far (p := ⟨gb256, 0, none⟩) (Kd.R_types HO240.out BK256.out (by decide)) (fun _ hk => hk.2) (.int .i64 t249)) (fun _ hk => hk.2) (.slice Ao62 t250.length co62)) (fun _ hk => hk.2) (.slice Ao63 t253.length co63)) (fun _ h_ => h_.1))) hb); replace HO244 := Aside0.mk (Kd.R_below (by (with_reducible repeat (first | apply Kd.R_alloc | apply Kd.R_drewN | apply Kd.R_drew)); exact (Kd.R_mono (Kd.R_far (p := ⟨gb256, 2, none⟩) (Kd.R_far (p := ⟨gb256, 1, none⟩) (Kd.R_far (p := ⟨gb256, 0, none⟩) (Kd.R_types HO244.out BK256.out (by decide)) (fun _ hk => hk.2) (.int .i64 t249)) (fun _ hk => hk.2) (.slice Ao62 t250.length co62)) (fun _ hk => hk.2) (.slice Ao63 t253.length co63)) (fun _ h_ => h_.1))) hb); replace HO247 := Aside0.mk (Kd.R_below (by (with_reducible repeat (first | apply Kd.R_alloc | apply Kd.R_drewN | apply Kd.R_drew)); exact (Kd.R_mono (Kd.R_far (p := ⟨gb256, 2, none⟩) (Kd.R_far (p := ⟨gb256, 1, none⟩) (Kd.R_far (p := ⟨gb256, 0, none⟩) (Kd.R_types HO247.out BK256.out (by decide)) (fun _ hk => hk.2) (.int .i64 t249)) (fun _ hk => hk.2) (.slice Ao62 t250.length co62)) (fun _ hk => hk.2) (.slice Ao63 t253.length co63)) (fun _ h_ => h_.1))) hb); replace HO252 := Aside0.mk (Kd.R_below (by (with_reducible repeat (first | apply Kd.R_alloc | apply Kd.R_drewN | apply Kd.R_drew)); exact (Kd.R_mono (Kd.R_far (p := ⟨gb256, 2, none⟩) (Kd.R_far (p := ⟨gb256, 1, none⟩) (Kd.R_far (p := ⟨gb256, 0, none⟩) (Kd.R_types HO252.out BK256.out (by decide)) (fun _ hk => hk.2) (.int .i64 t249)) (fun _ hk => hk.2) (.slice Ao62 t250.length co62)) (fun _ hk => hk.2) (.slice Ao63 t253.length co63)) (fun _ h_ => h_.1))) hb); replace HO255 := Aside0.mk (Kd.R_below (by (with_reducible repeat (first | apply Kd.R_alloc | apply Kd.R_drewN | apply Kd.R_drew)); exact (Kd.R_mono (Kd.R_far (p := ⟨gb256, 2, none⟩) (Kd.R_far (p := ⟨gb256, 1, none⟩) (Kd.R_far (p := ⟨gb256, 0, none⟩) (Kd.R_types HO255.out BK256.out (by decide)) (fun _ hk => hk.2) (.int .i64 t249)) (fun _ hk => hk.2) (.slice Ao62 t250.length co62)) (fun _ hk => hk.2) (.slice Ao63 t253.length co63)) (fun _ h_ => h_.1))) hb); replace BK217 := Aside0.mk (blk_below (g := gb217) (o := .cells #[.int .i64 a1_0, .slice A1_1 l1_1.length c1_1, .slice A1_2 l1_2.length c1_2] 31 (0, 0)) (by (with_reducible repeat (first | refine blk_drewN ?_ _ | refine blk_drew ?_ | refine blk_alloc ?_ _)); refine blk_far ?_ NB217_256.out _; (with_reducible repeat (first | refine blk_drewN ?_ _ | refine blk_drew ?_ | refine blk_alloc ?_ _)); refine blk_far ?_ NB217_256.out _; (with_reducible repeat (first | refine blk_drewN ?_ _ | refine blk_drew ?_ | refine blk_alloc ?_ _)); refine blk_far ?_ NB217_256.out _; (with_reducible repeat (first | refine blk_drewN ?_ _ | refine blk_drew ?_ | refine blk_alloc ?_ _)); exact BK217.out) hb); replace BK237 := Aside0.mk (blk_below (g := gb237) (o := .cells #[.int .i64 t230, .slice Ao41 t231.length co41, .slice Ao43 t234.length co43] 36 (0, 0)) (by (with_reducible repeat (first | refine blk_drewN ?_ _ | refine blk_drew ?_ | refine blk_alloc ?_ _)); refine blk_far ?_ NB237_256.out _; (with_reducible repeat (first | refine blk_drewN ?_ _ | refine blk_drew ?_ | refine blk_alloc ?_ _)); refine blk_far ?_ NB237_256.out _; (with_reducible repeat (first | refine blk_drewN ?_ _ | refine blk_drew ?_ | refine blk_alloc ?_ _)); refine blk_far ?_ NB237_256.out _; (with_reducible repeat (first | refine blk_drewN ?_ _ | refine blk_drew ?_ | refine blk_alloc ?_ _)); exact BK237.out) hb); replace BK248 := Aside0.mk (blk_below (g := gb248) (o := .cells #[.int .i64 t241, .slice Ao53 t242.length co53, .slice Ao54 t245.length co54] 36 (0, 0)) (by (with_reducible repeat (first | refine blk_drewN ?_ _ | refine blk_drew ?_ | refine blk_alloc ?_ _)); refine blk_far ?_ NB248_256.out _; (with_reducible repeat (first | refine blk_drewN ?_ _ | refine blk_drew ?_ | refine blk_alloc ?_ _)); refine blk_far ?_ NB248_256.out _; (with_reducible repeat (first | refine blk_drewN ?_ _ | refine blk_drew ?_ | refine blk_alloc ?_ _)); refine blk_far ?_ NB248_256.out _; (with_reducible repeat (first | refine blk_drewN ?_ _ | refine blk_drew ?_ | refine blk_alloc ?_ _)); exact BK248.out) hb); replace BK256 := Aside0.mk (blk_below (g := gb256) (o := .cells #[.int .i64 t249, .slice Ao62 t250.length co62, .slice Ao63 t253.length co63] 36 (0, 0)) (by (with_reducible repeat (first | refine blk_drewN ?_ _ | refine blk_drew ?_ | refine blk_alloc ?_ _)); refine blk_put (cs := #[.int .i64 t249, .slice Ao62 t250.length co62, .slice none 0 0]) ?_ 2 _ rfl; (with_reducible repeat (first | refine blk_drewN ?_ _ | refine blk_drew ?_ | refine blk_alloc ?_ _)); refine blk_put (cs := #[.int .i64 t249, .slice none 0 0, .slice none 0 0]) ?_ 1 _ rfl; (with_reducible repeat (first | refine blk_drewN ?_ _ | refine blk_drew ?_ | refine blk_alloc ?_ _)); refine blk_put (cs := #[.int .i64 0, .slice none 0 0, .slice none 0 0]) ?_ 0 _ rfl; (with_reducible repeat (first | refine blk_drewN ?_ _ | refine blk_drew ?_ | refine blk_alloc ?_ _)); exact BK256.out) hb); replace HB := Aside0.mk (below_step bx hb); (try clear hb); (try clear hk)) | ((with_reducible refine gate_callee (f := 46) rfl ?_); refine gL (some 42) Try.func46 #[.slice A0 l0.length c0] ?_; (with_reducible refine (laws_toInsS.calls k _ _ l0 t258 _ ?side1 ?side2 A19.out).mono ?_); (case side1 => repeat (first | exact (Kd.C_below HR0.out HB.out) | (with_reducible refine Kd.C_alloc ?_ _) | (with_reducible refine Kd.C_drewN ?_ _) | (with_reducible refine Kd.C_drew ?_))); (case side2 => exact HC0.out); rintro e w66 ⟨v259, rfl, ho0, hb⟩; refine ⟨_, rfl, ?_⟩; replace HO226 := Aside0.mk (Kd.R_below (rS HO226.out) hb); replace HO229 := Aside0.mk (Kd.R_below (rS HO229.out) hb); replace HO233 := Aside0.mk (Kd.R_below (rS HO233.out) hb); replace HO236 := Aside0.mk (Kd.R_below (rS HO236.out) hb); replace HO244 := Aside0.mk (Kd.R_below (rS HO244.out) hb); replace HO247 := Aside0.mk (Kd.R_below (rS HO247.out) hb); replace HO252 := Aside0.mk (Kd.R_below (rS HO252.out) hb); replace HO255 := Aside0.mk (Kd.R_below (rS HO255.out) hb); have HO260 := Aside0.mk (Kd.R_lower (Kd.R_new' (Kd.R_new' ho0 (Kd.R_lt (rS HO222.out))) (Kd.R_lt (rS HO240.out))) (below_size bx)); replace HO222 := Aside0.mk (Kd.R_elder' (rS HO222.out) (Kd.R_base ho0) hb); replace HO240 := Aside0.mk (Kd.R_elder' (rS HO240.out) (Kd.R_base ho0) hb); replace BK217 := Aside0.mk (blk_below (g := gb217) (o := .cells #[.int .i64 a1_0, .slice A1_1 l1_1.length c1_1, .slice A1_2 l1_2.length c1_2] 31 (0, 0)) (bS BK217.out) hb); replace BK237 := Aside0.mk (blk_below (g := gb237) (o := .cells #[.int .i64 t230, .slice Ao41 t231.length co41, .slice Ao43 t234.length co43] 36 (0, 0)) (bS BK237.out) hb); replace BK248 := Aside0.mk (blk_below (g := gb248) (o := .cells #[.int .i64 t241, .slice Ao53 t242.length co53, .slice Ao54 t245.length co54] 36 (0, 0)) (bS BK248.out) hb); replace BK256 := Aside0.mk (blk_below (g := gb256) (o := .cells #[.int .i64 t249, .slice Ao62 t250.length co62, .slice Ao63 t253.length co63] 36 (0, 0)) (bS BK256.out) hb); replace HB := Aside0.mk (below_step bx hb); (try clear hb); (try clear ho0); obtain ⟨Ao67, co67, eo67⟩ := Kd.R_slice HO260.out; subst eo67) | ((with_reducible refine gate_callee (f := 48) rfl ?_); refine gL (some 43) Try.func48 #[.slice Ao55 t238.length co55, .slice Ao67 t258.length co67] ?_; (with_reducible refine (laws_eqInsS.calls k _ _ t238 _ _ t258 true _ ?side1 ?side2 ?side3 ?side4 A20.out).mono ?_); (case side1 => exact cS (Kd.R_reads' HO240.out).2.2); (case side2 => exact (Kd.R_reads' HO240.out).2.1); (case side3 => exact cS (Kd.R_reads' HO260.out).2.2); (case side4 => exact (Kd.R_reads' HO260.out).2.1); rintro e w68 ⟨rfl, hb⟩; refine ⟨_, rfl, ?_⟩; replace HO222 := Aside0.mk (Kd.R_below (rS HO222.out) hb); replace HO226 := Aside0.mk (Kd.R_below (rS HO226.out) hb); replace HO229 := Aside0.mk (Kd.R_below (rS HO229.out) hb); replace HO233 := Aside0.mk (Kd.R_below (rS HO233.out) hb); replace HO236 := Aside0.mk (Kd.R_below (rS HO236.out) hb); replace HO240 := Aside0.mk (Kd.R_below (rS HO240.out) hb); replace HO244 := Aside0.mk (Kd.R_below (rS HO244.out) hb); replace HO247 := Aside0.mk (Kd.R_below (rS HO247.out) hb); replace HO252 := Aside0.mk (Kd.R_below (rS HO252.out) hb); replace HO255 := Aside0.mk (Kd.R_below (rS HO255.out) hb); replace HO260 := Aside0.mk (Kd.R_below (rS HO260.out) hb); replace BK217 := Aside0.mk (blk_below (g := gb217) (o := .cells #[.int .i64 a1_0, .slice A1_1 l1_1.length c1_1, .slice A1_2 l1_2.length c1_2] 31 (0, 0)) (bS BK217.out) hb); replace BK237 := Aside0.mk (blk_below (g := gb237) (o := .cells #[.int .i64 t230, .slice Ao41 t231.length co41, .slice Ao43 t234.length co43] 36 (0, 0)) (bS BK237.out) hb); replace BK248 := Aside0.mk (blk_below (g := gb248) (o := .cells #[.int .i64 t241, .slice Ao53 t242.length co53, .slice Ao54 t245.length co54] 36 (0, 0)) (bS BK248.out) hb); replace BK256 := Aside0.mk (blk_below (g := gb256) (o := .cells #[.int .i64 t249, .slice Ao62 t250.length co62, .slice Ao63 t253.length co63] 36 (0, 0)) (bS BK256.out) hb); replace HB := Aside0.mk (below_step bx hb); (try clear hb)))
      replace HO222 := Aside0.mk (Kd.R_drew HO222.out)
      replace HO226 := Aside0.mk (Kd.R_drew HO226.out)
      replace HO229 := Aside0.mk (Kd.R_drew HO229.out)
      replace HO233 := Aside0.mk (Kd.R_drew HO233.out)
      replace HO236 := Aside0.mk (Kd.R_drew HO236.out)
      replace HO240 := Aside0.mk (Kd.R_drew HO240.out)
      replace HO244 := Aside0.mk (Kd.R_drew HO244.out)
      replace HO247 := Aside0.mk (Kd.R_drew HO247.out)
      replace HO252 := Aside0.mk (Kd.R_drew HO252.out)
      replace HO255 := Aside0.mk (Kd.R_drew HO255.out)
      replace HO260 := Aside0.mk (Kd.R_drew HO260.out)
      replace BK217 := Aside0.mk (blk_drew BK217.out)
      replace BK237 := Aside0.mk (blk_drew BK237.out)
      replace BK248 := Aside0.mk (blk_drew BK248.out)
      replace BK256 := Aside0.mk (blk_drew BK256.out)
      replace HB := Aside0.mk (below_drew1 HB.out)
      refine start_ (n := 5) (S := fun w' => w'.cell? ⟨gb248, 0, none⟩ = some (.int .i64 t241) ∧ w'.cell? ⟨gb248, 1, none⟩ = some (.slice Ao53 t242.length co53) ∧ w'.cell? ⟨gb248, 2, none⟩ = some (.slice Ao54 t245.length co54) ∧ w'.cell? ⟨gb217, 0, none⟩ = some (.int .i64 a1_0) ∧ w'.cell? ⟨gb217, 1, none⟩ = some (.slice A1_1 l1_1.length c1_1) ∧ w'.cell? ⟨gb217, 2, none⟩ = some (.slice A1_2 l1_2.length c1_2)) (ds := []) #[false,false,false,false,false] (by kernel_rfl) rfl rfl ⟨(blk_cell BK248.out 0).trans rfl, (blk_cell BK248.out 1).trans rfl, (blk_cell BK248.out 2).trans rfl, (blk_cell BK217.out 0).trans rfl, (blk_cell BK217.out 1).trans rfl, (blk_cell BK217.out 2).trans rfl⟩ (fun hHeld => ?_)
      generalize w68.drew = w69 at HO222 HO226 HO229 HO233 HO236 HO240 HO244 HO247 HO252 HO255 HO260 BK217 BK237 BK248 BK256 HB hHeld ⊢
      refine take_ (i := 0) (N := some 45) (v := ?_) (a' := ?_) #[true,false,false,false,false] rfl rfl (by kernel_rfl) (fun _ _ _ h => h) (Or.inl ⟨by rfl, ?_⟩) hHeld ?_ ?_
      rotate_left
      ·rintro w' ⟨s0, s1, s2, s3, s4, s5⟩
       go_simp
       with_reducible rfl
      rotate_left
      ·simp only [Act.put, List.setIfInBounds_toArray, List.set_cons_zero, List.set_cons_succ, i64_w, i32_w]
       rfl
      refine take_ (i := 1) (N := some 46) (v := ?_) (a' := ?_) #[true,true,false,false,false] rfl rfl (by kernel_rfl) (fun _ _ _ h => h) (Or.inl ⟨by rfl, ?_⟩) hHeld ?_ ?_
      rotate_left
      ·rintro w' ⟨s0, s1, s2, s3, s4, s5⟩
       go_simp
       with_reducible rfl
      rotate_left
      ·simp only [Act.put, List.setIfInBounds_toArray, List.set_cons_zero, List.set_cons_succ, i64_w, i32_w]
       rfl
      refine one_ (i := 2) (N := some 47) #[true,true,true,false,false] rfl rfl (by kernel_rfl) (by decide) (fun K hK => ?_)
      refine goes_ Try.func22 (by kernel_rfl) rfl #[.agg #[.int .i64 a1_0, .slice A1_1 l1_1.length c1_1, .slice A1_2 l1_2.length c1_2]] (by rfl) rfl rfl bz ?_
      with_reducible refine (laws_toWarp.calls k a1_0 _ _ l1_1 _ _ l1_2 t262 t263 t266 _ ?side1 ?side2 ?side3 ?side4 A22.out).mono ?_
      (case side1 => repeat (first | exact (Kd.C_below HR1_1.out HB.out) | (with_reducible refine Kd.C_alloc ?_ _) | (with_reducible refine Kd.C_drewN ?_ _) | (with_reducible refine Kd.C_drew ?_)))
      (case side2 => exact HC1_1.out)
      (case side3 => repeat (first | exact (Kd.C_below HR1_2.out HB.out) | (with_reducible refine Kd.C_alloc ?_ _) | (with_reducible refine Kd.C_drewN ?_ _) | (with_reducible refine Kd.C_drew ?_)))
      (case side4 => exact HC1_2.out)
      rintro e w70 ⟨v264, v267, rfl, ho0, ho1, hb⟩
      refine ⟨_, rfl, ?_⟩
      replace HO222 := Aside0.mk (Kd.R_below (rS HO222.out) hb)
      replace HO240 := Aside0.mk (Kd.R_below (rS HO240.out) hb)
      replace HO260 := Aside0.mk (Kd.R_below (rS HO260.out) hb)
      have HO265 := Aside0.mk (Kd.R_lower (Kd.R_new' (Kd.R_new' (Kd.R_new' (Kd.R_new' ho0 (Kd.R_lt (rS HO226.out))) (Kd.R_lt (rS HO233.out))) (Kd.R_lt (rS HO244.out))) (Kd.R_lt (rS HO252.out))) (below_size bx))
      replace HO226 := Aside0.mk (Kd.R_elder' (rS HO226.out) (Kd.R_base ho0) hb)
      replace HO233 := Aside0.mk (Kd.R_elder' (rS HO233.out) (Kd.R_base ho0) hb)
      replace HO244 := Aside0.mk (Kd.R_elder' (rS HO244.out) (Kd.R_base ho0) hb)
      replace HO252 := Aside0.mk (Kd.R_elder' (rS HO252.out) (Kd.R_base ho0) hb)
      have HO268 := Aside0.mk (Kd.R_lower (Kd.R_new' (Kd.R_new' (Kd.R_new' (Kd.R_new' ho1 (Kd.R_lt (rS HO229.out))) (Kd.R_lt (rS HO236.out))) (Kd.R_lt (rS HO247.out))) (Kd.R_lt (rS HO255.out))) (below_size bx))
      replace HO229 := Aside0.mk (Kd.R_elder' (rS HO229.out) (Kd.R_base ho1) hb)
      replace HO236 := Aside0.mk (Kd.R_elder' (rS HO236.out) (Kd.R_base ho1) hb)
      replace HO247 := Aside0.mk (Kd.R_elder' (rS HO247.out) (Kd.R_base ho1) hb)
      replace HO255 := Aside0.mk (Kd.R_elder' (rS HO255.out) (Kd.R_base ho1) hb)
      replace BK217 := Aside0.mk (blk_below (g := gb217) (o := .cells #[.int .i64 a1_0, .slice A1_1 l1_1.length c1_1, .slice A1_2 l1_2.length c1_2] 31 (0, 0)) (bS BK217.out) hb)
      replace BK237 := Aside0.mk (blk_below (g := gb237) (o := .cells #[.int .i64 t230, .slice Ao41 t231.length co41, .slice Ao43 t234.length co43] 36 (0, 0)) (bS BK237.out) hb)
      replace BK248 := Aside0.mk (blk_below (g := gb248) (o := .cells #[.int .i64 t241, .slice Ao53 t242.length co53, .slice Ao54 t245.length co54] 36 (0, 0)) (bS BK248.out) hb)
      replace BK256 := Aside0.mk (blk_below (g := gb256) (o := .cells #[.int .i64 t249, .slice Ao62 t250.length co62, .slice Ao63 t253.length co63] 36 (0, 0)) (bS BK256.out) hb)
      replace HB := Aside0.mk (below_step bx hb)
      (try clear hb)
      (try clear hb2)
      (try clear hk)
      (try clear hi)
      (try clear ho0)
      (try clear ho1)
      obtain ⟨Ao71, co71, eo71⟩ := Kd.R_slice HO265.out
      (first | subst eo71 | (injection eo71 with f1_ f2_ f3_; have f4_ := f1_.symm; have f5_ := f3_.symm; clear f1_ f2_ f3_; subst f4_; subst f5_))
      obtain ⟨Ao72, co72, eo72⟩ := Kd.R_slice HO268.out
      (first | subst eo72 | (injection eo72 with f1_ f2_ f3_; have f4_ := f1_.symm; have f5_ := f3_.symm; clear f1_ f2_ f3_; subst f4_; subst f5_))
      refine hK.out _ _ ⟨(blk_cell BK248.out 0).trans rfl, (blk_cell BK248.out 1).trans rfl, (blk_cell BK248.out 2).trans rfl, (blk_cell BK217.out 0).trans rfl, (blk_cell BK217.out 1).trans rfl, (blk_cell BK217.out 2).trans rfl⟩ (fun hHeld => ?_)
      clear hK K
      refine norm_ (a' := ?_) ?_ ?_
      rotate_left
      ·show Act.put _ (some 47) _ = _
       simp only [Act.put, List.setIfInBounds_toArray, List.set_cons_zero, List.set_cons_succ, i64_w, i32_w]
       rfl
      refine one_ (i := 3) (N := some 48) #[true,true,true,true,false] rfl rfl (by kernel_rfl) (by decide) (fun K hK => ?_)
      refine goes_ Try.func24 (by kernel_rfl) rfl #[.agg #[.int .i64 t241, .slice Ao53 t242.length co53, .slice Ao54 t245.length co54], .agg #[.int .i64 t262, .slice Ao71 t263.length co71, .slice Ao72 t266.length co72]] (by rfl) rfl rfl bz ?_
      with_reducible refine (laws_eqWarp.calls k t241 _ _ t242 _ _ t245 t262 _ _ t263 _ _ t266 true _ ?side1 ?side2 ?side3 ?side4 ?side5 ?side6 ?side7 ?side8 A23.out).mono ?_
      (case side1 => exact cS (Kd.R_reads' HO244.out).2.2)
      (case side2 => exact (Kd.R_reads' HO244.out).2.1)
      (case side3 => exact cS (Kd.R_reads' HO247.out).2.2)
      (case side4 => exact (Kd.R_reads' HO247.out).2.1)
      (case side5 => exact cS (Kd.R_reads' HO265.out).2.2)
      (case side6 => exact (Kd.R_reads' HO265.out).2.1)
      (case side7 => exact cS (Kd.R_reads' HO268.out).2.2)
      (case side8 => exact (Kd.R_reads' HO268.out).2.1)
      rintro e w73 ⟨rfl, hb⟩
      refine ⟨_, rfl, ?_⟩
      replace HO222 := Aside0.mk (Kd.R_below (rS HO222.out) hb)
      replace HO226 := Aside0.mk (Kd.R_below (rS HO226.out) hb)
      replace HO229 := Aside0.mk (Kd.R_below (rS HO229.out) hb)
      replace HO233 := Aside0.mk (Kd.R_below (rS HO233.out) hb)
      replace HO236 := Aside0.mk (Kd.R_below (rS HO236.out) hb)
      replace HO240 := Aside0.mk (Kd.R_below (rS HO240.out) hb)
      replace HO244 := Aside0.mk (Kd.R_below (rS HO244.out) hb)
      replace HO247 := Aside0.mk (Kd.R_below (rS HO247.out) hb)
      replace HO252 := Aside0.mk (Kd.R_below (rS HO252.out) hb)
      replace HO255 := Aside0.mk (Kd.R_below (rS HO255.out) hb)
      replace HO260 := Aside0.mk (Kd.R_below (rS HO260.out) hb)
      replace HO265 := Aside0.mk (Kd.R_below (rS HO265.out) hb)
      replace HO268 := Aside0.mk (Kd.R_below (rS HO268.out) hb)
      replace BK217 := Aside0.mk (blk_below (g := gb217) (o := .cells #[.int .i64 a1_0, .slice A1_1 l1_1.length c1_1, .slice A1_2 l1_2.length c1_2] 31 (0, 0)) (bS BK217.out) hb)
      replace BK237 := Aside0.mk (blk_below (g := gb237) (o := .cells #[.int .i64 t230, .slice Ao41 t231.length co41, .slice Ao43 t234.length co43] 36 (0, 0)) (bS BK237.out) hb)
      replace BK248 := Aside0.mk (blk_below (g := gb248) (o := .cells #[.int .i64 t241, .slice Ao53 t242.length co53, .slice Ao54 t245.length co54] 36 (0, 0)) (bS BK248.out) hb)
      replace BK256 := Aside0.mk (blk_below (g := gb256) (o := .cells #[.int .i64 t249, .slice Ao62 t250.length co62, .slice Ao63 t253.length co63] 36 (0, 0)) (bS BK256.out) hb)
      replace HB := Aside0.mk (below_step bx hb)
      (try clear hb)
      (try clear hb2)
      (try clear hk)
      (try clear hi)
      refine hK.out _ _ ⟨(blk_cell BK248.out 0).trans rfl, (blk_cell BK248.out 1).trans rfl, (blk_cell BK248.out 2).trans rfl, (blk_cell BK217.out 0).trans rfl, (blk_cell BK217.out 1).trans rfl, (blk_cell BK217.out 2).trans rfl⟩ (fun hHeld => ?_)
      clear hK K
      refine norm_ (a' := ?_) ?_ ?_
      rotate_left
      ·show Act.put _ (some 48) _ = _
       simp only [Act.put, List.setIfInBounds_toArray, List.set_cons_zero, List.set_cons_succ, i64_w, i32_w]
       rfl
      refine pure_ (i := 4) (N := some 49) (v := ?_) (a' := ?_) #[true,true,true,true,true] rfl rfl (by kernel_rfl) (fun _ _ _ h => h) (Or.inl ⟨by rfl, ?_⟩) ?_ ?_
      rotate_left
      ·intro w'
       go_simp
       with_reducible rfl
      rotate_left
      ·simp only [Act.put, List.setIfInBounds_toArray, List.set_cons_zero, List.set_cons_succ, i64_w, i32_w]
       rfl
      refine done_ (by kernel_rfl) ?_
      go_upto_region 21 with (first | ((with_reducible refine gate_callee (f := 65) rfl ?_); refine gL (some 52) Try.func65 #[.slice Ao55 t238.length co55, .int .i64 1] ?_; (with_reducible refine (laws_markInsS.calls k (fun k_ => some k_ = (.slice Ao55 t238.length co55 : Value).ownBlock) (.slice Ao55 t238.length co55) t238 1 t270 t271 w _ ?side1 ?side2 A25.out).mono ?_); (case side1 => repeat (first | (with_reducible first | exact HB.out | apply below_alloc | apply pw_below_drewN | apply below_drew1 | refine below_set ?_ GE217.out | refine below_set ?_ GE237.out | refine below_set ?_ GE248.out | refine below_set ?_ GE256.out) | exact HB.out)); (case side2 => exact Kd.R_tight rfl HO240.out); rintro e w74 ⟨rfl, hy0, hb, hkp⟩; refine ⟨_, rfl, ?_⟩; replace BK217 := Aside0.mk (blk_kept (bS BK217.out) hkp (fun hs_ => (fun e_ => (Kd.R_ne HO240.out BK217.out (by decide)) e_) hs_)); replace HO222 := Aside0.mk (Kd.R_mono (ok' := fun k_ => some k_ ≠ (.slice Ao55 t238.length co55 : Value).ownBlock ∧ some k_ ≠ (.slice Ao67 t258.length co67 : Value).ownBlock) (Kd.R_keptB (HO222.out) hkp (fun k_ hk_ hs_ => (hk_.1.2) hs_)) (fun k_ hk_ => by grind)); replace HO226 := Aside0.mk (Kd.R_mono (ok' := fun k_ => some k_ ≠ (.slice Ao41 t231.length co41 : Value).ownBlock ∧ some k_ ≠ (.slice Ao53 t242.length co53 : Value).ownBlock ∧ some k_ ≠ (.slice Ao62 t250.length co62 : Value).ownBlock ∧ some k_ ≠ (.slice Ao71 t263.length co71 : Value).ownBlock) (Kd.R_keptB ((Kd.R_apart' HO226.out (Kd.R_typed HO240.out) (by decide))) hkp (fun k_ hk_ hs_ => (hk_.2) hs_)) (fun k_ hk_ => by grind)); replace HO229 := Aside0.mk (Kd.R_mono (ok' := fun k_ => some k_ ≠ (.slice Ao43 t234.length co43 : Value).ownBlock ∧ some k_ ≠ (.slice Ao54 t245.length co54 : Value).ownBlock ∧ some k_ ≠ (.slice Ao63 t253.length co63 : Value).ownBlock ∧ some k_ ≠ (.slice Ao72 t266.length co72 : Value).ownBlock) (Kd.R_keptB ((Kd.R_apart' HO229.out (Kd.R_typed HO240.out) (by decide))) hkp (fun k_ hk_ hs_ => (hk_.2) hs_)) (fun k_ hk_ => by grind)); replace HO233 := Aside0.mk (Kd.R_mono (ok' := fun k_ => some k_ ≠ (v225 : Value).ownBlock ∧ some k_ ≠ (.slice Ao53 t242.length co53 : Value).ownBlock ∧ some k_ ≠ (.slice Ao62 t250.length co62 : Value).ownBlock ∧ some k_ ≠ (.slice Ao71 t263.length co71 : Value).ownBlock) (Kd.R_keptB ((Kd.R_apart' HO233.out (Kd.R_typed HO240.out) (by decide))) hkp (fun k_ hk_ hs_ => (hk_.2) hs_)) (fun k_ hk_ => by grind)); replace HO236 := Aside0.mk (Kd.R_mono (ok' := fun k_ => some k_ ≠ (v228 : Value).ownBlock ∧ some k_ ≠ (.slice Ao54 t245.length co54 : Value).ownBlock ∧ some k_ ≠ (.slice Ao63 t253.length co63 : Value).ownBlock ∧ some k_ ≠ (.slice Ao72 t266.length co72 : Value).ownBlock) (Kd.R_keptB ((Kd.R_apart' HO236.out (Kd.R_typed HO240.out) (by decide))) hkp (fun k_ hk_ hs_ => (hk_.2) hs_)) (fun k_ hk_ => by grind)); replace BK237 := Aside0.mk (blk_kept (bS BK237.out) hkp (fun hs_ => (fun e_ => (Kd.R_ne HO240.out BK237.out (by decide)) e_) hs_)); replace HO244 := Aside0.mk (Kd.R_mono (ok' := fun k_ => some k_ ≠ (v225 : Value).ownBlock ∧ some k_ ≠ (.slice Ao41 t231.length co41 : Value).ownBlock ∧ some k_ ≠ (.slice Ao62 t250.length co62 : Value).ownBlock ∧ some k_ ≠ (.slice Ao71 t263.length co71 : Value).ownBlock) (Kd.R_keptB ((Kd.R_apart' HO244.out (Kd.R_typed HO240.out) (by decide))) hkp (fun k_ hk_ hs_ => (hk_.2) hs_)) (fun k_ hk_ => by grind)); replace HO247 := Aside0.mk (Kd.R_mono (ok' := fun k_ => some k_ ≠ (v228 : Value).ownBlock ∧ some k_ ≠ (.slice Ao43 t234.length co43 : Value).ownBlock ∧ some k_ ≠ (.slice Ao63 t253.length co63 : Value).ownBlock ∧ some k_ ≠ (.slice Ao72 t266.length co72 : Value).ownBlock) (Kd.R_keptB ((Kd.R_apart' HO247.out (Kd.R_typed HO240.out) (by decide))) hkp (fun k_ hk_ hs_ => (hk_.2) hs_)) (fun k_ hk_ => by grind)); replace BK248 := Aside0.mk (blk_kept (bS BK248.out) hkp (fun hs_ => (fun e_ => (Kd.R_ne HO240.out BK248.out (by decide)) e_) hs_)); replace HO252 := Aside0.mk (Kd.R_mono (ok' := fun k_ => some k_ ≠ (v225 : Value).ownBlock ∧ some k_ ≠ (.slice Ao41 t231.length co41 : Value).ownBlock ∧ some k_ ≠ (.slice Ao53 t242.length co53 : Value).ownBlock ∧ some k_ ≠ (.slice Ao71 t263.length co71 : Value).ownBlock) (Kd.R_keptB ((Kd.R_apart' HO252.out (Kd.R_typed HO240.out) (by decide))) hkp (fun k_ hk_ hs_ => (hk_.2) hs_)) (fun k_ hk_ => by grind)); replace HO255 := Aside0.mk (Kd.R_mono (ok' := fun k_ => some k_ ≠ (v228 : Value).ownBlock ∧ some k_ ≠ (.slice Ao43 t234.length co43 : Value).ownBlock ∧ some k_ ≠ (.slice Ao54 t245.length co54 : Value).ownBlock ∧ some k_ ≠ (.slice Ao72 t266.length co72 : Value).ownBlock) (Kd.R_keptB ((Kd.R_apart' HO255.out (Kd.R_typed HO240.out) (by decide))) hkp (fun k_ hk_ hs_ => (hk_.2) hs_)) (fun k_ hk_ => by grind)); replace BK256 := Aside0.mk (blk_kept (bS BK256.out) hkp (fun hs_ => (fun e_ => (Kd.R_ne HO240.out BK256.out (by decide)) e_) hs_)); replace HO260 := Aside0.mk (Kd.R_mono (ok' := fun k_ => some k_ ≠ (v221 : Value).ownBlock ∧ some k_ ≠ (.slice Ao55 t238.length co55 : Value).ownBlock) (Kd.R_keptB (HO260.out) hkp (fun k_ hk_ hs_ => (hk_.2) hs_)) (fun k_ hk_ => by grind)); replace HO265 := Aside0.mk (Kd.R_mono (ok' := fun k_ => some k_ ≠ (v225 : Value).ownBlock ∧ some k_ ≠ (.slice Ao41 t231.length co41 : Value).ownBlock ∧ some k_ ≠ (.slice Ao53 t242.length co53 : Value).ownBlock ∧ some k_ ≠ (.slice Ao62 t250.length co62 : Value).ownBlock) (Kd.R_keptB ((Kd.R_apart' HO265.out (Kd.R_typed HO240.out) (by decide))) hkp (fun k_ hk_ hs_ => (hk_.2) hs_)) (fun k_ hk_ => by grind)); replace HO268 := Aside0.mk (Kd.R_mono (ok' := fun k_ => some k_ ≠ (v228 : Value).ownBlock ∧ some k_ ≠ (.slice Ao43 t234.length co43 : Value).ownBlock ∧ some k_ ≠ (.slice Ao54 t245.length co54 : Value).ownBlock ∧ some k_ ≠ (.slice Ao63 t253.length co63 : Value).ownBlock) (Kd.R_keptB ((Kd.R_apart' HO268.out (Kd.R_typed HO240.out) (by decide))) hkp (fun k_ hk_ hs_ => (hk_.2) hs_)) (fun k_ hk_ => by grind)); replace HO240 := Aside0.mk (Kd.R_reok rfl hy0 (fun k_ e_ => HO240.out.1 k_ e_)); replace HB := Aside0.mk (hb); (try clear hb); (try clear hkp); (try clear hy0); have hcz75_0 : w74.cell? ⟨gb248, 0, none⟩ = some (.int .i64 t241) := (blk_cell BK248.out 0).trans rfl; have hcz75_1 : w74.cell? ⟨gb248, 1, none⟩ = some (.slice Ao53 t242.length co53) := (blk_cell BK248.out 1).trans rfl; have hcz75_2 : w74.cell? ⟨gb248, 2, none⟩ = some (.slice Ao54 t245.length co54) := (blk_cell BK248.out 2).trans rfl; have hfz75_0 := blk_frozen BK248.out 0; have hfz75_1 := blk_frozen BK248.out 1; have hfz75_2 := blk_frozen BK248.out 2) | ((with_reducible refine gate_callee (f := 52) rfl ?_); refine gL (some 55) Try.func52 #[.agg #[.int .i64 t241, .slice Ao53 t242.length co53, .slice Ao54 t245.length co54], .int .i64 t270] ?_; (with_reducible refine (laws_markWarp.calls k t241 (fun k_ => some k_ = (.slice Ao53 t242.length co53 : Value).ownBlock) (.slice Ao53 t242.length co53) t242 (fun k_ => some k_ = (.slice Ao54 t245.length co54 : Value).ownBlock) (.slice Ao54 t245.length co54) t245 t270 t272 t273 t274 w _ ?side1 ?side2 ?side3 A26.out).mono ?_); (case side1 => repeat (first | (with_reducible first | exact HB.out | apply below_alloc | apply pw_below_drewN | apply below_drew1 | refine below_set ?_ GE217.out | refine below_set ?_ GE237.out | refine below_set ?_ GE248.out | refine below_set ?_ GE256.out) | exact HB.out)); (case side2 => exact Kd.R_tight rfl HO244.out); (case side3 => exact Kd.R_tight rfl HO247.out); rintro e w76 ⟨rfl, hy0, hy1, hb, hkp⟩; refine ⟨_, rfl, ?_⟩; replace BK217 := Aside0.mk (blk_kept (bS BK217.out) hkp (fun hs_ => Or.elim hs_ (fun e_ => (fun e_ => (Kd.R_ne HO244.out BK217.out (by decide)) e_) e_) (fun e_ => (fun e_ => (Kd.R_ne HO247.out BK217.out (by decide)) e_) e_))); replace HO222 := Aside0.mk (Kd.R_mono (ok' := fun k_ => some k_ ≠ (.slice Ao55 t238.length co55 : Value).ownBlock ∧ some k_ ≠ (.slice Ao67 t258.length co67 : Value).ownBlock) (Kd.R_keptB ((Kd.R_apart' (Kd.R_apart' HO222.out (Kd.R_typed HO244.out) (by decide)) (Kd.R_typed HO247.out) (by decide))) hkp (fun k_ hk_ hs_ => by grind)) (fun k_ hk_ => by grind)); replace HO226 := Aside0.mk (Kd.R_mono (ok' := fun k_ => some k_ ≠ (.slice Ao41 t231.length co41 : Value).ownBlock ∧ some k_ ≠ (.slice Ao53 t242.length co53 : Value).ownBlock ∧ some k_ ≠ (.slice Ao62 t250.length co62 : Value).ownBlock ∧ some k_ ≠ (.slice Ao71 t263.length co71 : Value).ownBlock) (Kd.R_keptB ((Kd.R_apart' HO226.out (Kd.R_typed HO247.out) (by decide))) hkp (fun k_ hk_ hs_ => by grind)) (fun k_ hk_ => by grind)); replace HO229 := Aside0.mk (Kd.R_mono (ok' := fun k_ => some k_ ≠ (.slice Ao43 t234.length co43 : Value).ownBlock ∧ some k_ ≠ (.slice Ao54 t245.length co54 : Value).ownBlock ∧ some k_ ≠ (.slice Ao63 t253.length co63 : Value).ownBlock ∧ some k_ ≠ (.slice Ao72 t266.length co72 : Value).ownBlock) (Kd.R_keptB ((Kd.R_apart' HO229.out (Kd.R_typed HO244.out) (by decide))) hkp (fun k_ hk_ hs_ => by grind)) (fun k_ hk_ => by grind)); replace HO233 := Aside0.mk (Kd.R_mono (ok' := fun k_ => some k_ ≠ (v225 : Value).ownBlock ∧ some k_ ≠ (.slice Ao53 t242.length co53 : Value).ownBlock ∧ some k_ ≠ (.slice Ao62 t250.length co62 : Value).ownBlock ∧ some k_ ≠ (.slice Ao71 t263.length co71 : Value).ownBlock) (Kd.R_keptB ((Kd.R_apart' HO233.out (Kd.R_typed HO247.out) (by decide))) hkp (fun k_ hk_ hs_ => by grind)) (fun k_ hk_ => by grind)); replace HO236 := Aside0.mk (Kd.R_mono (ok' := fun k_ => some k_ ≠ (v228 : Value).ownBlock ∧ some k_ ≠ (.slice Ao54 t245.length co54 : Value).ownBlock ∧ some k_ ≠ (.slice Ao63 t253.length co63 : Value).ownBlock ∧ some k_ ≠ (.slice Ao72 t266.length co72 : Value).ownBlock) (Kd.R_keptB ((Kd.R_apart' HO236.out (Kd.R_typed HO244.out) (by decide))) hkp (fun k_ hk_ hs_ => by grind)) (fun k_ hk_ => by grind)); replace BK237 := Aside0.mk (blk_kept (bS BK237.out) hkp (fun hs_ => Or.elim hs_ (fun e_ => (fun e_ => (Kd.R_ne HO244.out BK237.out (by decide)) e_) e_) (fun e_ => (fun e_ => (Kd.R_ne HO247.out BK237.out (by decide)) e_) e_))); replace HO240 := Aside0.mk (Kd.R_mono (ok' := fun k_ => some k_ ≠ (v221 : Value).ownBlock ∧ some k_ ≠ (.slice Ao67 t258.length co67 : Value).ownBlock) (Kd.R_keptB ((Kd.R_apart' (Kd.R_apart' HO240.out (Kd.R_typed HO244.out) (by decide)) (Kd.R_typed HO247.out) (by decide))) hkp (fun k_ hk_ hs_ => by grind)) (fun k_ hk_ => by grind)); replace BK248 := Aside0.mk (blk_kept (bS BK248.out) hkp (fun hs_ => Or.elim hs_ (fun e_ => (fun e_ => (Kd.R_ne HO244.out BK248.out (by decide)) e_) e_) (fun e_ => (fun e_ => (Kd.R_ne HO247.out BK248.out (by decide)) e_) e_))); replace HO252 := Aside0.mk (Kd.R_mono (ok' := fun k_ => some k_ ≠ (v225 : Value).ownBlock ∧ some k_ ≠ (.slice Ao41 t231.length co41 : Value).ownBlock ∧ some k_ ≠ (.slice Ao53 t242.length co53 : Value).ownBlock ∧ some k_ ≠ (.slice Ao71 t263.length co71 : Value).ownBlock) (Kd.R_keptB ((Kd.R_apart' HO252.out (Kd.R_typed HO247.out) (by decide))) hkp (fun k_ hk_ hs_ => by grind)) (fun k_ hk_ => by grind)); replace HO255 := Aside0.mk (Kd.R_mono (ok' := fun k_ => some k_ ≠ (v228 : Value).ownBlock ∧ some k_ ≠ (.slice Ao43 t234.length co43 : Value).ownBlock ∧ some k_ ≠ (.slice Ao54 t245.length co54 : Value).ownBlock ∧ some k_ ≠ (.slice Ao72 t266.length co72 : Value).ownBlock) (Kd.R_keptB ((Kd.R_apart' HO255.out (Kd.R_typed HO244.out) (by decide))) hkp (fun k_ hk_ hs_ => by grind)) (fun k_ hk_ => by grind)); replace BK256 := Aside0.mk (blk_kept (bS BK256.out) hkp (fun hs_ => Or.elim hs_ (fun e_ => (fun e_ => (Kd.R_ne HO244.out BK256.out (by decide)) e_) e_) (fun e_ => (fun e_ => (Kd.R_ne HO247.out BK256.out (by decide)) e_) e_))); replace HO260 := Aside0.mk (Kd.R_mono (ok' := fun k_ => some k_ ≠ (v221 : Value).ownBlock ∧ some k_ ≠ (.slice Ao55 t238.length co55 : Value).ownBlock) (Kd.R_keptB ((Kd.R_apart' (Kd.R_apart' HO260.out (Kd.R_typed HO244.out) (by decide)) (Kd.R_typed HO247.out) (by decide))) hkp (fun k_ hk_ hs_ => by grind)) (fun k_ hk_ => by grind)); replace HO265 := Aside0.mk (Kd.R_mono (ok' := fun k_ => some k_ ≠ (v225 : Value).ownBlock ∧ some k_ ≠ (.slice Ao41 t231.length co41 : Value).ownBlock ∧ some k_ ≠ (.slice Ao53 t242.length co53 : Value).ownBlock ∧ some k_ ≠ (.slice Ao62 t250.length co62 : Value).ownBlock) (Kd.R_keptB ((Kd.R_apart' HO265.out (Kd.R_typed HO247.out) (by decide))) hkp (fun k_ hk_ hs_ => by grind)) (fun k_ hk_ => by grind)); replace HO247 := Aside0.mk (Kd.R_reok rfl hy1 (fun k_ e_ => HO247.out.1 k_ e_)); replace HO268 := Aside0.mk (Kd.R_mono (ok' := fun k_ => some k_ ≠ (v228 : Value).ownBlock ∧ some k_ ≠ (.slice Ao43 t234.length co43 : Value).ownBlock ∧ some k_ ≠ (.slice Ao54 t245.length co54 : Value).ownBlock ∧ some k_ ≠ (.slice Ao63 t253.length co63 : Value).ownBlock) (Kd.R_keptB ((Kd.R_apart' HO268.out (Kd.R_typed HO244.out) (by decide))) hkp (fun k_ hk_ hs_ => by grind)) (fun k_ hk_ => by grind)); replace HO244 := Aside0.mk (Kd.R_reok rfl hy0 (fun k_ e_ => HO244.out.1 k_ e_)); replace HB := Aside0.mk (hb); (try clear hb); (try clear hkp); (try clear hy0); (try clear hy1)))
      (try simp only [Act.put, List.setIfInBounds_toArray, List.set_cons_zero, List.set_cons_succ])
      go_cut [63] (fun v63 wc => ∃ (kq : Nat) (x63_26 : Bool), v63 = .bool x63_26 ∧ Aside0 (laws_FnExactDropFrames.j0 kq l0 x63_26 a1_0 l1_1 l1_2 t230 t231 t234 t249 t250 t253 = some r) ∧ Aside0 (kq ≤ k) ∧ Aside0 (Kd.R k77 77 wc w.heap.size (fun k_ => some k_ ≠ ((.slice Ao53 t242.length co53) : Value).ownBlock ∧ some k_ ≠ ((.slice Ao62 t250.length co62) : Value).ownBlock) (.slice Ao41 t231.length co41) t231) ∧ Aside0 (Kd.R (Kd.int .i64) 3 wc w.heap.size (fun k_ => some k_ ≠ ((.slice Ao54 t245.length co54) : Value).ownBlock ∧ some k_ ≠ ((.slice Ao63 t253.length co63) : Value).ownBlock) (.slice Ao43 t234.length co43) t234) ∧ Aside0 (Kd.R k77 77 wc w.heap.size (fun k_ => some k_ ≠ ((.slice Ao41 t231.length co41) : Value).ownBlock ∧ some k_ ≠ ((.slice Ao62 t250.length co62) : Value).ownBlock) (.slice Ao53 t242.length co53) t273) ∧ Aside0 (Kd.R (Kd.int .i64) 3 wc w.heap.size (fun k_ => some k_ ≠ ((.slice Ao43 t234.length co43) : Value).ownBlock ∧ some k_ ≠ ((.slice Ao63 t253.length co63) : Value).ownBlock) (.slice Ao54 t245.length co54) t274) ∧ Aside0 (Kd.R k77 77 wc w.heap.size (fun k_ => some k_ ≠ ((.slice Ao41 t231.length co41) : Value).ownBlock ∧ some k_ ≠ ((.slice Ao53 t242.length co53) : Value).ownBlock) (.slice Ao62 t250.length co62) t250) ∧ Aside0 (Kd.R (Kd.int .i64) 3 wc w.heap.size (fun k_ => some k_ ≠ ((.slice Ao43 t234.length co43) : Value).ownBlock ∧ some k_ ≠ ((.slice Ao54 t245.length co54) : Value).ownBlock) (.slice Ao63 t253.length co63) t253) ∧ Aside0 (wc.heap[gb217]? = some (.cells #[.int .i64 a1_0, (.slice A1_1 l1_1.length c1_1), (.slice A1_2 l1_2.length c1_2)] 31 (0, 0))) ∧ Aside0 (wc.heap[gb237]? = some (.cells #[.int .i64 t230, (.slice Ao41 t231.length co41), (.slice Ao43 t234.length co43)] 36 (0, 0))) ∧ Aside0 (wc.heap[gb248]? = some (.cells #[.int .i64 t241, (.slice Ao53 t242.length co53), (.slice Ao54 t245.length co54)] 36 (0, 0))) ∧ Aside0 (wc.heap[gb256]? = some (.cells #[.int .i64 t249, (.slice Ao62 t250.length co62), (.slice Ao63 t253.length co63)] 36 (0, 0))) ∧ Aside0 (Below w.heap.size w wc))
      case first =>
       have H := HC27.out
       clear HC27
       by_cases c77 : t272 < 0
       ·rw [if_pos c77] at H
        have c77b0 : decide (t272 < 0) = true := decide_eq_true c77
        clear c77
        (first | rw [c77b0] | (simp only [i64_w, i32_w]; rw [c77b0]) | skip)
        have H' := Aside0.mk H
        clear H
        go_wp2
        go_meet
        case rel => exact ⟨_, (true), tR, H', ⟨by first | omega | exact Nat.le_refl _⟩, ⟨by (with_reducible repeat (first | apply Kd.R_alloc | apply Kd.R_drewN | apply Kd.R_drew)); exact Kd.R_mono HO233.out (fun _ hk => by grind)⟩, ⟨by (with_reducible repeat (first | apply Kd.R_alloc | apply Kd.R_drewN | apply Kd.R_drew)); exact Kd.R_mono HO236.out (fun _ hk => by grind)⟩, ⟨by (with_reducible repeat (first | apply Kd.R_alloc | apply Kd.R_drewN | apply Kd.R_drew)); exact Kd.R_mono HO244.out (fun _ hk => by grind)⟩, ⟨by (with_reducible repeat (first | apply Kd.R_alloc | apply Kd.R_drewN | apply Kd.R_drew)); exact Kd.R_mono HO247.out (fun _ hk => by grind)⟩, ⟨by (with_reducible repeat (first | apply Kd.R_alloc | apply Kd.R_drewN | apply Kd.R_drew)); exact Kd.R_mono HO252.out (fun _ hk => by grind)⟩, ⟨by (with_reducible repeat (first | apply Kd.R_alloc | apply Kd.R_drewN | apply Kd.R_drew)); exact Kd.R_mono HO255.out (fun _ hk => by grind)⟩, ⟨bS BK217.out⟩, ⟨bS BK237.out⟩, ⟨bS BK248.out⟩, ⟨bS BK256.out⟩, ⟨bx⟩⟩
       ·rw [if_neg c77] at H
        have c77b0 : decide (t272 < 0) = false := decide_eq_false c77
        clear c77
        (first | rw [c77b0] | (simp only [i64_w, i32_w]; rw [c77b0]) | skip)
        replace H := Option.bind_eq_some_iff.mp H
        obtain ⟨t275, A780, H⟩ := H
        replace H : (laws_FnExactDropFrames.j0 k l0 (!t275) a1_0 l1_1 l1_2 t230 t231 t234 t249 t250 t253) = some r := H
        have A78 := Aside0.mk A780
        clear A780
        have H' := Aside0.mk H
        clear H
        have hnb79 := NB256_217.out
        have hnc79 := NB217_256.out
        have hnb80 := NB256_237.out
        have hnc80 := NB237_256.out
        have hnb81 := NB256_248.out
        have hnc81 := NB248_256.out
        have hcz82_0 : w76.cell? ⟨gb256, 0, none⟩ = some (.int .i64 t249) := (blk_cell BK256.out 0).trans rfl
        have hcz82_1 : w76.cell? ⟨gb256, 1, none⟩ = some (.slice Ao62 t250.length co62) := (blk_cell BK256.out 1).trans rfl
        have hcz82_2 : w76.cell? ⟨gb256, 2, none⟩ = some (.slice Ao63 t253.length co63) := (blk_cell BK256.out 2).trans rfl
        have hfz82_0 := blk_frozen BK256.out 0
        have hfz82_1 := blk_frozen BK256.out 1
        have hfz82_2 := blk_frozen BK256.out 2
        have hnb83 := NB237_217.out
        have hnc83 := NB217_237.out
        have hnb84 := NB237_248.out
        have hnc84 := NB248_237.out
        have hcz85_0 : w76.cell? ⟨gb237, 0, none⟩ = some (.int .i64 t230) := (blk_cell BK237.out 0).trans rfl
        have hcz85_1 : w76.cell? ⟨gb237, 1, none⟩ = some (.slice Ao41 t231.length co41) := (blk_cell BK237.out 1).trans rfl
        have hcz85_2 : w76.cell? ⟨gb237, 2, none⟩ = some (.slice Ao43 t234.length co43) := (blk_cell BK237.out 2).trans rfl
        have hfz85_0 := blk_frozen BK237.out 0
        have hfz85_1 := blk_frozen BK237.out 1
        have hfz85_2 := blk_frozen BK237.out 2
        go_wp2_with (first | (go_at_call 24; (with_reducible refine (laws_eqWarp.calls k t249 _ _ t250 _ _ t253 t230 _ _ t231 _ _ t234 t275 _ ?side1 ?side2 ?side3 ?side4 ?side5 ?side6 ?side7 ?side8 A78.out).mono ?_); (case side1 => exact cS (Kd.R_reads' HO252.out).2.2); (case side2 => exact (Kd.R_reads' HO252.out).2.1); (case side3 => exact cS (Kd.R_reads' HO255.out).2.2); (case side4 => exact (Kd.R_reads' HO255.out).2.1); (case side5 => exact cS (Kd.R_reads' HO233.out).2.2); (case side6 => exact (Kd.R_reads' HO233.out).2.1); (case side7 => exact cS (Kd.R_reads' HO236.out).2.2); (case side8 => exact (Kd.R_reads' HO236.out).2.1); rintro e w86 ⟨rfl, hb⟩; replace HO222 := Aside0.mk (Kd.R_below (rS HO222.out) hb); replace HO226 := Aside0.mk (Kd.R_below (rS HO226.out) hb); replace HO229 := Aside0.mk (Kd.R_below (rS HO229.out) hb); replace HO233 := Aside0.mk (Kd.R_below (rS HO233.out) hb); replace HO236 := Aside0.mk (Kd.R_below (rS HO236.out) hb); replace HO240 := Aside0.mk (Kd.R_below (rS HO240.out) hb); replace HO244 := Aside0.mk (Kd.R_below (rS HO244.out) hb); replace HO247 := Aside0.mk (Kd.R_below (rS HO247.out) hb); replace HO252 := Aside0.mk (Kd.R_below (rS HO252.out) hb); replace HO255 := Aside0.mk (Kd.R_below (rS HO255.out) hb); replace HO260 := Aside0.mk (Kd.R_below (rS HO260.out) hb); replace HO265 := Aside0.mk (Kd.R_below (rS HO265.out) hb); replace HO268 := Aside0.mk (Kd.R_below (rS HO268.out) hb); replace BK217 := Aside0.mk (blk_below (g := gb217) (o := .cells #[.int .i64 a1_0, .slice A1_1 l1_1.length c1_1, .slice A1_2 l1_2.length c1_2] 31 (0, 0)) (bS BK217.out) hb); replace BK237 := Aside0.mk (blk_below (g := gb237) (o := .cells #[.int .i64 t230, .slice Ao41 t231.length co41, .slice Ao43 t234.length co43] 36 (0, 0)) (bS BK237.out) hb); replace BK248 := Aside0.mk (blk_below (g := gb248) (o := .cells #[.int .i64 t241, .slice Ao53 t242.length co53, .slice Ao54 t245.length co54] 36 (0, 0)) (bS BK248.out) hb); replace BK256 := Aside0.mk (blk_below (g := gb256) (o := .cells #[.int .i64 t249, .slice Ao62 t250.length co62, .slice Ao63 t253.length co63] 36 (0, 0)) (bS BK256.out) hb); replace HB := Aside0.mk (below_step bx hb); (try clear hb)))
        go_meet
        case rel => exact ⟨_, (!t275), tR, H', ⟨by first | omega | exact Nat.le_refl _⟩, ⟨by (with_reducible repeat (first | apply Kd.R_alloc | apply Kd.R_drewN | apply Kd.R_drew)); exact Kd.R_mono HO233.out (fun _ hk => by grind)⟩, ⟨by (with_reducible repeat (first | apply Kd.R_alloc | apply Kd.R_drewN | apply Kd.R_drew)); exact Kd.R_mono HO236.out (fun _ hk => by grind)⟩, ⟨by (with_reducible repeat (first | apply Kd.R_alloc | apply Kd.R_drewN | apply Kd.R_drew)); exact Kd.R_mono HO244.out (fun _ hk => by grind)⟩, ⟨by (with_reducible repeat (first | apply Kd.R_alloc | apply Kd.R_drewN | apply Kd.R_drew)); exact Kd.R_mono HO247.out (fun _ hk => by grind)⟩, ⟨by (with_reducible repeat (first | apply Kd.R_alloc | apply Kd.R_drewN | apply Kd.R_drew)); exact Kd.R_mono HO252.out (fun _ hk => by grind)⟩, ⟨by (with_reducible repeat (first | apply Kd.R_alloc | apply Kd.R_drewN | apply Kd.R_drew)); exact Kd.R_mono HO255.out (fun _ hk => by grind)⟩, ⟨bS BK217.out⟩, ⟨bS BK237.out⟩, ⟨bS BK248.out⟩, ⟨bS BK256.out⟩, ⟨bx⟩⟩
      case rest =>
       clear HC27
       try clear c1;try clear c2;try clear p2;try clear c4;try clear c5;try clear c6;try clear c7;try clear c8;try clear c22;try clear c24;try clear c46;try clear c48;try clear c50;try clear c51;try clear c52;try clear c58;try clear c59;try clear c60;try clear c65;try clear c67;try clear c68;try clear c77;try clear c77b0;try clear c79;try clear c80;try clear c81;try clear c83;try clear c84;try clear hcz47_0;try clear hcz47_1;try clear hcz47_2;try clear hcz52_0;try clear hcz52_1;try clear hcz52_2;try clear hcz61_0;try clear hcz61_1;try clear hcz61_2;try clear hcz64_0;try clear hcz64_1;try clear hcz64_2;try clear hcz75_0;try clear hcz75_1;try clear hcz75_2;try clear hcz82_0;try clear hcz82_1;try clear hcz82_2;try clear hcz85_0;try clear hcz85_1;try clear hcz85_2;try clear hfz47_0;try clear hfz47_1;try clear hfz47_2;try clear hfz52_0;try clear hfz52_1;try clear hfz52_2;try clear hfz61_0;try clear hfz61_1;try clear hfz61_2;try clear hfz64_0;try clear hfz64_1;try clear hfz64_2;try clear hfz75_0;try clear hfz75_1;try clear hfz75_2;try clear hfz82_0;try clear hfz82_1;try clear hfz82_2;try clear hfz85_0;try clear hfz85_1;try clear hfz85_2
       obtain ⟨kq, x63_26, rfl, HA, HJ26, HO_238001, HO_238002, HO_249001, HO_249002, HO_257001, HO_257002, BK217, BK237, BK248, BK256, HB⟩ := hcut
       have hl249001_26 := (Kd.R_reads' HO_249001.out).1
       rw [hl249001_26] at HO_249001
       (try simp only [hl249001_26])
       (try simp only [hl249001_26] at BK217)
       (try simp only [hl249001_26] at BK237)
       (try simp only [hl249001_26] at BK248)
       (try simp only [hl249001_26] at BK256)
       (try simp only [hl249001_26] at HO_238001)
       (try simp only [hl249001_26] at HO_238002)
       (try simp only [hl249001_26] at HO_249002)
       (try simp only [hl249001_26] at HO_257001)
       (try simp only [hl249001_26] at HO_257002)
       have hl249002_26 := (Kd.R_reads' HO_249002.out).1
       rw [hl249002_26] at HO_249002
       (try simp only [hl249002_26])
       (try simp only [hl249002_26] at BK217)
       (try simp only [hl249002_26] at BK237)
       (try simp only [hl249002_26] at BK248)
       (try simp only [hl249002_26] at BK256)
       (try simp only [hl249002_26] at HO_238001)
       (try simp only [hl249002_26] at HO_238002)
       (try simp only [hl249002_26] at HO_249001)
       (try simp only [hl249002_26] at HO_257001)
       (try simp only [hl249002_26] at HO_257002)
       cases kq with
       | zero => exact absurd HA.out (by simp [laws_FnExactDropFrames.j0])
       | succ kj26 =>
        have H := HA.out
        clear HA
        simp only [laws_FnExactDropFrames.j0] at H
        by_cases c87 : x63_26 = true
        ·subst c87
         have H1 : (none) = some r := by rw [if_pos rfl] at H; exact H
         clear H
         have H := H1
         clear H1
         exact absurd H (by simp)
        ·replace c87 := Bool.eq_false_iff.mpr c87
         subst c87
         have H1 : ((laws_markWarp.f kj26 t249 t250 t253 1).bind fun bt276 => ((laws_heldWarp.f kj26 t249 bt276.2.1 bt276.2.2 1).bind fun t279 => (if t279 < 0 then (none) else (if t279 = bt276.1 then ((laws_toInsS.f kj26 l0).bind fun t280 => ((laws_toWarp.f kj26 a1_0 l1_1 l1_2).bind fun bt283 => ((impl_DropFrames.f t280 bt283.1 bt283.2.1 bt283.2.2).bind fun bt290 => ((laws_eqWarp.f kj26 bt290.1 bt290.2.1 bt290.2.2 t230 t231 t234).bind fun t298 => (if t298 = true then ((laws_heldWarp.f kj26 t249 bt276.2.1 bt276.2.2 1).bind fun t299 => (if t299 < 0 then (none) else (if t299 = bt276.1 then (some true) else (none)))) else (none)))))) else (none))))) = some r := by rw [if_neg (show ¬ (false = true) by decide)] at H; exact H
         clear H
         have H := H1
         clear H1
         replace H := Option.bind_eq_some_iff.mp H
         obtain ⟨⟨t276, t277, t278⟩, A880, H⟩ := H
         replace H : ((laws_heldWarp.f kj26 t249 t277 t278 1).bind fun t279 => (if t279 < 0 then (none) else (if t279 = t276 then ((laws_toInsS.f kj26 l0).bind fun t280 => ((laws_toWarp.f kj26 a1_0 l1_1 l1_2).bind fun bt283 => ((impl_DropFrames.f t280 bt283.1 bt283.2.1 bt283.2.2).bind fun bt290 => ((laws_eqWarp.f kj26 bt290.1 bt290.2.1 bt290.2.2 t230 t231 t234).bind fun t298 => (if t298 = true then ((laws_heldWarp.f kj26 t249 t277 t278 1).bind fun t299 => (if t299 < 0 then (none) else (if t299 = t276 then (some true) else (none)))) else (none)))))) else (none)))) = some r := H
         have A88 := Aside0.mk A880
         clear A880
         replace H := Option.bind_eq_some_iff.mp H
         obtain ⟨t279, A890, H⟩ := H
         replace H : (if t279 < 0 then (none) else (if t279 = t276 then ((laws_toInsS.f kj26 l0).bind fun t280 => ((laws_toWarp.f kj26 a1_0 l1_1 l1_2).bind fun bt283 => ((impl_DropFrames.f t280 bt283.1 bt283.2.1 bt283.2.2).bind fun bt290 => ((laws_eqWarp.f kj26 bt290.1 bt290.2.1 bt290.2.2 t230 t231 t234).bind fun t298 => (if t298 = true then ((laws_heldWarp.f kj26 t249 t277 t278 1).bind fun t299 => (if t299 < 0 then (none) else (if t299 = t276 then (some true) else (none)))) else (none)))))) else (none))) = some r := H
         have A89 := Aside0.mk A890
         clear A890
         by_cases c90 : t279 < 0
         ·rw [if_pos c90] at H
          exact absurd H (by simp)
         ·rw [if_neg c90] at H
          have c90b0 : decide (t279 < 0) = false := decide_eq_false c90
          clear c90
          by_cases c91 : t279 = t276
          ·rw [if_pos c91] at H
           have c91b0 : (t279 == t276) = true := beq_iff_eq.mpr c91
           have c91b1 : (t279 != t276) = false := bne_eq_false_iff_eq.mpr c91
           clear c91
           replace H := Option.bind_eq_some_iff.mp H
           obtain ⟨t280, A920, H⟩ := H
           replace H : ((laws_toWarp.f kj26 a1_0 l1_1 l1_2).bind fun bt283 => ((impl_DropFrames.f t280 bt283.1 bt283.2.1 bt283.2.2).bind fun bt290 => ((laws_eqWarp.f kj26 bt290.1 bt290.2.1 bt290.2.2 t230 t231 t234).bind fun t298 => (if t298 = true then ((laws_heldWarp.f kj26 t249 t277 t278 1).bind fun t299 => (if t299 < 0 then (none) else (if t299 = t276 then (some true) else (none)))) else (none))))) = some r := H
           have A92 := Aside0.mk A920
           clear A920
           replace H := Option.bind_eq_some_iff.mp H
           obtain ⟨⟨t283, t284, t287⟩, A930, H⟩ := H
           replace H : ((impl_DropFrames.f t280 t283 t284 t287).bind fun bt290 => ((laws_eqWarp.f kj26 bt290.1 bt290.2.1 bt290.2.2 t230 t231 t234).bind fun t298 => (if t298 = true then ((laws_heldWarp.f kj26 t249 t277 t278 1).bind fun t299 => (if t299 < 0 then (none) else (if t299 = t276 then (some true) else (none)))) else (none)))) = some r := H
           have A93 := Aside0.mk A930
           clear A930
           replace H := Option.bind_eq_some_iff.mp H
           obtain ⟨⟨t290, t291, t294⟩, A940, H⟩ := H
           replace H : ((laws_eqWarp.f kj26 t290 t291 t294 t230 t231 t234).bind fun t298 => (if t298 = true then ((laws_heldWarp.f kj26 t249 t277 t278 1).bind fun t299 => (if t299 < 0 then (none) else (if t299 = t276 then (some true) else (none)))) else (none))) = some r := H
           have A94 := Aside0.mk A940
           clear A940
           replace H := Option.bind_eq_some_iff.mp H
           obtain ⟨t298, A950, H⟩ := H
           replace H : (if t298 = true then ((laws_heldWarp.f kj26 t249 t277 t278 1).bind fun t299 => (if t299 < 0 then (none) else (if t299 = t276 then (some true) else (none)))) else (none)) = some r := H
           have A95 := Aside0.mk A950
           clear A950
           by_cases c96 : t298 = true
           ·subst c96
            have H1 : ((laws_heldWarp.f kj26 t249 t277 t278 1).bind fun t299 => (if t299 < 0 then (none) else (if t299 = t276 then (some true) else (none)))) = some r := by rw [if_pos rfl] at H; exact H
            clear H
            have H := H1
            clear H1
            replace H := Option.bind_eq_some_iff.mp H
            obtain ⟨t299, A970, H⟩ := H
            replace H : (if t299 < 0 then (none) else (if t299 = t276 then (some true) else (none))) = some r := H
            have A97 := Aside0.mk A970
            clear A970
            by_cases c98 : t299 < 0
            ·rw [if_pos c98] at H
             exact absurd H (by simp)
            ·rw [if_neg c98] at H
             have c98b0 : decide (t299 < 0) = false := decide_eq_false c98
             clear c98
             by_cases c99 : t299 = t276
             ·rw [if_pos c99] at H
              have c99b0 : (t299 == t276) = true := beq_iff_eq.mpr c99
              have c99b1 : (t299 != t276) = false := bne_eq_false_iff_eq.mpr c99
              clear c99
              obtain rfl := Option.some.inj H
              have hnb100 := NB256_217.out
              have hnc100 := NB217_256.out
              have hnb101 := NB256_237.out
              have hnc101 := NB237_256.out
              have hnb102 := NB256_248.out
              have hnc102 := NB248_256.out
              have hcz103_0 : wc.cell? ⟨gb256, 0, none⟩ = some (.int .i64 t249) := (blk_cell BK256.out 0).trans rfl
              have hcz103_1 : wc.cell? ⟨gb256, 1, none⟩ = some (.slice Ao62 t250.length co62) := (blk_cell BK256.out 1).trans rfl
              have hcz103_2 : wc.cell? ⟨gb256, 2, none⟩ = some (.slice Ao63 t253.length co63) := (blk_cell BK256.out 2).trans rfl
              have hfz103_0 := blk_frozen BK256.out 0
              have hfz103_1 := blk_frozen BK256.out 1
              have hfz103_2 := blk_frozen BK256.out 2
              try go_wp2_with (first | ((with_reducible refine gate_callee (f := 52) rfl ?_); refine gL (some 66) Try.func52 #[.agg #[.int .i64 t249, .slice Ao62 t250.length co62, .slice Ao63 t253.length co63], .int .i64 1] ?_; (with_reducible refine (laws_markWarp.calls kj26 t249 (fun k_ => some k_ = (.slice Ao62 t250.length co62 : Value).ownBlock) (.slice Ao62 t250.length co62) t250 (fun k_ => some k_ = (.slice Ao63 t253.length co63 : Value).ownBlock) (.slice Ao63 t253.length co63) t253 1 t276 t277 t278 w _ ?side1 ?side2 ?side3 A88.out).mono ?_); (case side1 => repeat (first | (with_reducible first | exact HB.out | apply below_alloc | apply pw_below_drewN | apply below_drew1 | refine below_set ?_ GE217.out | refine below_set ?_ GE237.out | refine below_set ?_ GE248.out | refine below_set ?_ GE256.out) | exact HB.out)); (case side2 => exact Kd.R_tight rfl HO_257001.out); (case side3 => exact Kd.R_tight rfl HO_257002.out); rintro e w104 ⟨rfl, hy0, hy1, hb, hkp⟩; refine ⟨_, rfl, ?_⟩; replace HO_238001 := Aside0.mk (Kd.R_mono (ok' := fun k_ => some k_ ≠ (.slice Ao53 t273.length co53 : Value).ownBlock ∧ some k_ ≠ (.slice Ao62 t250.length co62 : Value).ownBlock) (Kd.R_keptB ((Kd.R_apart' HO_238001.out (Kd.R_typed HO_257002.out) (by decide))) hkp (fun k_ hk_ hs_ => by grind)) (fun k_ hk_ => by grind)); replace HO_238002 := Aside0.mk (Kd.R_mono (ok' := fun k_ => some k_ ≠ (.slice Ao54 t274.length co54 : Value).ownBlock ∧ some k_ ≠ (.slice Ao63 t253.length co63 : Value).ownBlock) (Kd.R_keptB ((Kd.R_apart' HO_238002.out (Kd.R_typed HO_257001.out) (by decide))) hkp (fun k_ hk_ hs_ => by grind)) (fun k_ hk_ => by grind)); replace HO_249001 := Aside0.mk (Kd.R_mono (ok' := fun k_ => some k_ ≠ (.slice Ao41 t231.length co41 : Value).ownBlock ∧ some k_ ≠ (.slice Ao62 t250.length co62 : Value).ownBlock) (Kd.R_keptB ((Kd.R_apart' HO_249001.out (Kd.R_typed HO_257002.out) (by decide))) hkp (fun k_ hk_ hs_ => by grind)) (fun k_ hk_ => by grind)); replace HO_249002 := Aside0.mk (Kd.R_mono (ok' := fun k_ => some k_ ≠ (.slice Ao43 t234.length co43 : Value).ownBlock ∧ some k_ ≠ (.slice Ao63 t253.length co63 : Value).ownBlock) (Kd.R_keptB ((Kd.R_apart' HO_249002.out (Kd.R_typed HO_257001.out) (by decide))) hkp (fun k_ hk_ hs_ => by grind)) (fun k_ hk_ => by grind)); replace BK217 := Aside0.mk (blk_kept (bS BK217.out) hkp (fun hs_ => Or.elim hs_ (fun e_ => (fun e_ => (Kd.R_ne HO_257001.out BK217.out (by decide)) e_) e_) (fun e_ => (fun e_ => (Kd.R_ne HO_257002.out BK217.out (by decide)) e_) e_))); replace BK237 := Aside0.mk (blk_kept (bS BK237.out) hkp (fun hs_ => Or.elim hs_ (fun e_ => (fun e_ => (Kd.R_ne HO_257001.out BK237.out (by decide)) e_) e_) (fun e_ => (fun e_ => (Kd.R_ne HO_257002.out BK237.out (by decide)) e_) e_))); replace BK248 := Aside0.mk (blk_kept (bS BK248.out) hkp (fun hs_ => Or.elim hs_ (fun e_ => (fun e_ => (Kd.R_ne HO_257001.out BK248.out (by decide)) e_) e_) (fun e_ => (fun e_ => (Kd.R_ne HO_257002.out BK248.out (by decide)) e_) e_))); replace BK256 := Aside0.mk (blk_kept (bS BK256.out) hkp (fun hs_ => Or.elim hs_ (fun e_ => (fun e_ => (Kd.R_ne HO_257001.out BK256.out (by decide)) e_) e_) (fun e_ => (fun e_ => (Kd.R_ne HO_257002.out BK256.out (by decide)) e_) e_))); replace HO_257001 := Aside0.mk (Kd.R_reok rfl hy0 (fun k_ e_ => HO_257001.out.1 k_ e_)); replace HO_257002 := Aside0.mk (Kd.R_reok rfl hy1 (fun k_ e_ => HO_257002.out.1 k_ e_)); replace HB := Aside0.mk (hb); (try clear hb); (try clear hkp); (try clear hy0); (try clear hy1); have hcz105_0 : w104.cell? ⟨gb256, 0, none⟩ = some (.int .i64 t249) := (blk_cell BK256.out 0).trans rfl; have hcz105_1 : w104.cell? ⟨gb256, 1, none⟩ = some (.slice Ao62 t250.length co62) := (blk_cell BK256.out 1).trans rfl; have hcz105_2 : w104.cell? ⟨gb256, 2, none⟩ = some (.slice Ao63 t253.length co63) := (blk_cell BK256.out 2).trans rfl; have hfz105_0 := blk_frozen BK256.out 0; have hfz105_1 := blk_frozen BK256.out 1; have hfz105_2 := blk_frozen BK256.out 2) | ((with_reducible refine gate_callee (f := 69) rfl ?_); refine goesL_ (some 69) rfl rfl Try.func69 (by kernel_rfl) rfl #[.agg #[.int .i64 t249, .slice Ao62 t277.length co62, .slice Ao63 t278.length co63], .int .i64 1] rfl (by (try simp only [List.map_toArray, List.map_cons, List.map_nil]); first | done | (rw [show t277.length = t250.length from (Kd.R_reads' HO_257001.out).1.symm, show t278.length = t253.length from (Kd.R_reads' HO_257002.out).1.symm] <;> rfl) | rfl | (simp only [List.length_drop, List.length_take]; rfl)) ?_; (with_reducible refine (laws_heldWarp.calls kj26 t249 _ _ t277 _ _ t278 1 t279 _ ?side1 ?side2 ?side3 ?side4 A89.out).mono ?_); (case side1 => exact cS (Kd.R_reads' HO_257001.out).2.2); (case side2 => rw [show t277.length = t250.length from (Kd.R_reads' HO_257001.out).1.symm]; exact (Kd.R_reads' HO_257001.out).2.1); (case side3 => exact cS (Kd.R_reads' HO_257002.out).2.2); (case side4 => rw [show t278.length = t253.length from (Kd.R_reads' HO_257002.out).1.symm]; exact (Kd.R_reads' HO_257002.out).2.1); rintro e w106 ⟨rfl, hb⟩; refine ⟨_, rfl, ?_⟩; replace HO_238001 := Aside0.mk (Kd.R_below (rS HO_238001.out) hb); replace HO_238002 := Aside0.mk (Kd.R_below (rS HO_238002.out) hb); replace HO_249001 := Aside0.mk (Kd.R_below (rS HO_249001.out) hb); replace HO_249002 := Aside0.mk (Kd.R_below (rS HO_249002.out) hb); replace HO_257001 := Aside0.mk (Kd.R_below (rS HO_257001.out) hb); replace HO_257002 := Aside0.mk (Kd.R_below (rS HO_257002.out) hb); replace BK217 := Aside0.mk (blk_below (g := gb217) (o := .cells #[.int .i64 a1_0, .slice A1_1 l1_1.length c1_1, .slice A1_2 l1_2.length c1_2] 31 (0, 0)) (bS BK217.out) hb); replace BK237 := Aside0.mk (blk_below (g := gb237) (o := .cells #[.int .i64 t230, .slice Ao41 t231.length co41, .slice Ao43 t234.length co43] 36 (0, 0)) (bS BK237.out) hb); replace BK248 := Aside0.mk (blk_below (g := gb248) (o := .cells #[.int .i64 t241, .slice Ao53 t273.length co53, .slice Ao54 t274.length co54] 36 (0, 0)) (bS BK248.out) hb); replace BK256 := Aside0.mk (blk_below (g := gb256) (o := .cells #[.int .i64 t249, .slice Ao62 t250.length co62, .slice Ao63 t253.length co63] 36 (0, 0)) (bS BK256.out) hb); replace HB := Aside0.mk (below_step bx hb); (try clear hb)))
              replace HO_238001 := Aside0.mk (Kd.R_drew HO_238001.out)
              replace HO_238002 := Aside0.mk (Kd.R_drew HO_238002.out)
              replace HO_249001 := Aside0.mk (Kd.R_drew HO_249001.out)
              replace HO_249002 := Aside0.mk (Kd.R_drew HO_249002.out)
              replace HO_257001 := Aside0.mk (Kd.R_drew HO_257001.out)
              replace HO_257002 := Aside0.mk (Kd.R_drew HO_257002.out)
              replace BK217 := Aside0.mk (blk_drew BK217.out)
              replace BK237 := Aside0.mk (blk_drew BK237.out)
              replace BK248 := Aside0.mk (blk_drew BK248.out)
              replace BK256 := Aside0.mk (blk_drew BK256.out)
              replace HB := Aside0.mk (below_drew1 HB.out)
              refine start_ (n := 7) (S := fun w' => w'.cell? ⟨gb217, 0, none⟩ = some (.int .i64 a1_0) ∧ w'.cell? ⟨gb217, 1, none⟩ = some (.slice A1_1 l1_1.length c1_1) ∧ w'.cell? ⟨gb217, 2, none⟩ = some (.slice A1_2 l1_2.length c1_2)) (ds := []) #[false,false,false,false,false,false,false] (by kernel_rfl) rfl rfl ⟨(blk_cell BK217.out 0).trans rfl, (blk_cell BK217.out 1).trans rfl, (blk_cell BK217.out 2).trans rfl⟩ (fun hHeld => ?_)
              generalize w106.drew = w107 at HO_238001 HO_238002 HO_249001 HO_249002 HO_257001 HO_257002 BK217 BK237 BK248 BK256 HB hHeld ⊢
              refine pure_ (i := 0) (N := some 75) (v := ?_) (a' := ?_) #[true,false,false,false,false,false,false] rfl rfl (by kernel_rfl) (fun _ _ _ h => h) (Or.inl ⟨by rfl, ?_⟩) ?_ ?_
              rotate_left
              ·intro w'
               go_simp
               with_reducible rfl
              rotate_left
              ·simp only [Act.put, List.setIfInBounds_toArray, List.set_cons_zero, List.set_cons_succ, i64_w, i32_w]
               rfl
              refine take_ (i := 2) (N := some 77) (v := ?_) (a' := ?_) #[true,false,true,false,false,false,false] rfl rfl (by kernel_rfl) (fun _ _ _ h => h) (Or.inl ⟨by rfl, ?_⟩) hHeld ?_ ?_
              rotate_left
              ·rintro w' ⟨s0, s1, s2⟩
               go_simp
               with_reducible rfl
              rotate_left
              ·simp only [Act.put, List.setIfInBounds_toArray, List.set_cons_zero, List.set_cons_succ, i64_w, i32_w]
               rfl
              refine join_ (σ := Value × Value × Value × Value × Value × Nat) 1 #[true,true,true,true,true,true,false] (fun s_ => [(76, s_.1), (78, .agg #[.int .i64 t283, s_.2.1, s_.2.2.1]), (79, .agg #[.int .i64 t290, s_.2.2.2.1, s_.2.2.2.2.1]), (13, .pointer (some ⟨s_.2.2.2.2.2, 0, none⟩))]) (fun s_ w' => (w'.cell? ⟨gb217, 0, none⟩ = some (.int .i64 a1_0) ∧ w'.cell? ⟨gb217, 1, none⟩ = some (.slice A1_1 l1_1.length c1_1) ∧ w'.cell? ⟨gb217, 2, none⟩ = some (.slice A1_2 l1_2.length c1_2)) ∧ (Kd.R k94 94 w' w.heap.size (fun _ => True) s_.1 t280) ∧ (Kd.R k77 77 w' w.heap.size (fun k_ => some k_ ≠ (s_.2.2.2.1 : Value).ownBlock ∧ some k_ ≠ (.slice Ao41 t231.length co41 : Value).ownBlock ∧ some k_ ≠ (.slice Ao53 t273.length co53 : Value).ownBlock ∧ some k_ ≠ (.slice Ao62 t250.length co62 : Value).ownBlock) s_.2.1 t284) ∧ (Kd.R (Kd.int .i64) 3 w' w.heap.size (fun k_ => some k_ ≠ (s_.2.2.2.2.1 : Value).ownBlock ∧ some k_ ≠ (.slice Ao43 t234.length co43 : Value).ownBlock ∧ some k_ ≠ (.slice Ao54 t274.length co54 : Value).ownBlock ∧ some k_ ≠ (.slice Ao63 t253.length co63 : Value).ownBlock) s_.2.2.1 t287) ∧ (Kd.R k77 77 w' w.heap.size (fun k_ => some k_ ≠ (s_.2.1 : Value).ownBlock ∧ some k_ ≠ (.slice Ao41 t231.length co41 : Value).ownBlock ∧ some k_ ≠ (.slice Ao53 t273.length co53 : Value).ownBlock ∧ some k_ ≠ (.slice Ao62 t250.length co62 : Value).ownBlock) s_.2.2.2.1 t291) ∧ (Kd.R (Kd.int .i64) 3 w' w.heap.size (fun k_ => some k_ ≠ (s_.2.2.1 : Value).ownBlock ∧ some k_ ≠ (.slice Ao43 t234.length co43 : Value).ownBlock ∧ some k_ ≠ (.slice Ao54 t274.length co54 : Value).ownBlock ∧ some k_ ≠ (.slice Ao63 t253.length co63 : Value).ownBlock) s_.2.2.2.2.1 t294) ∧ (Kd.R k77 77 w' w.heap.size (fun k_ => some k_ ≠ (s_.2.1 : Value).ownBlock ∧ some k_ ≠ (s_.2.2.2.1 : Value).ownBlock ∧ some k_ ≠ (.slice Ao53 t273.length co53 : Value).ownBlock ∧ some k_ ≠ (.slice Ao62 t250.length co62 : Value).ownBlock) (.slice Ao41 t231.length co41) t231) ∧ (Kd.R (Kd.int .i64) 3 w' w.heap.size (fun k_ => some k_ ≠ (s_.2.2.1 : Value).ownBlock ∧ some k_ ≠ (s_.2.2.2.2.1 : Value).ownBlock ∧ some k_ ≠ (.slice Ao54 t274.length co54 : Value).ownBlock ∧ some k_ ≠ (.slice Ao63 t253.length co63 : Value).ownBlock) (.slice Ao43 t234.length co43) t234) ∧ (Kd.R k77 77 w' w.heap.size (fun k_ => some k_ ≠ (s_.2.1 : Value).ownBlock ∧ some k_ ≠ (s_.2.2.2.1 : Value).ownBlock ∧ some k_ ≠ (.slice Ao41 t231.length co41 : Value).ownBlock ∧ some k_ ≠ (.slice Ao62 t250.length co62 : Value).ownBlock) (.slice Ao53 t273.length co53) t273) ∧ (Kd.R (Kd.int .i64) 3 w' w.heap.size (fun k_ => some k_ ≠ (s_.2.2.1 : Value).ownBlock ∧ some k_ ≠ (s_.2.2.2.2.1 : Value).ownBlock ∧ some k_ ≠ (.slice Ao43 t234.length co43 : Value).ownBlock ∧ some k_ ≠ (.slice Ao63 t253.length co63 : Value).ownBlock) (.slice Ao54 t274.length co54) t274) ∧ (Kd.R k77 77 w' w.heap.size (fun k_ => some k_ ≠ (s_.2.1 : Value).ownBlock ∧ some k_ ≠ (s_.2.2.2.1 : Value).ownBlock ∧ some k_ ≠ (.slice Ao41 t231.length co41 : Value).ownBlock ∧ some k_ ≠ (.slice Ao53 t273.length co53 : Value).ownBlock) (.slice Ao62 t250.length co62) t277) ∧ (Kd.R (Kd.int .i64) 3 w' w.heap.size (fun k_ => some k_ ≠ (s_.2.2.1 : Value).ownBlock ∧ some k_ ≠ (s_.2.2.2.2.1 : Value).ownBlock ∧ some k_ ≠ (.slice Ao43 t234.length co43 : Value).ownBlock ∧ some k_ ≠ (.slice Ao54 t274.length co54 : Value).ownBlock) (.slice Ao63 t253.length co63) t278) ∧ (w'.heap[gb217]? = some (.cells #[.int .i64 a1_0, .slice A1_1 l1_1.length c1_1, .slice A1_2 l1_2.length c1_2] 31 (0, 0))) ∧ (w'.heap[gb237]? = some (.cells #[.int .i64 t230, .slice Ao41 t231.length co41, .slice Ao43 t234.length co43] 36 (0, 0))) ∧ (w'.heap[gb248]? = some (.cells #[.int .i64 t241, .slice Ao53 t273.length co53, .slice Ao54 t274.length co54] 36 (0, 0))) ∧ (w'.heap[gb256]? = some (.cells #[.int .i64 t249, .slice Ao62 t250.length co62, .slice Ao63 t253.length co63] 36 (0, 0))) ∧ (w'.heap[s_.2.2.2.2.2]? = some (.cells #[.int .i64 0, .slice none 0 0, .slice none 0 0] 36 (0, 0))) ∧ (w.heap.size ≤ s_.2.2.2.2.2) ∧ (w.heap.size ≤ s_.2.2.2.2.2) ∧ (gb217 ≠ s_.2.2.2.2.2) ∧ (s_.2.2.2.2.2 ≠ gb217) ∧ (gb237 ≠ s_.2.2.2.2.2) ∧ (s_.2.2.2.2.2 ≠ gb237) ∧ (gb248 ≠ s_.2.2.2.2.2) ∧ (s_.2.2.2.2.2 ≠ gb248) ∧ (gb256 ≠ s_.2.2.2.2.2) ∧ (s_.2.2.2.2.2 ≠ gb256) ∧ (Below w.heap.size w w')) ?_ ?_
              rotate_left
              ·intro hCont
               refine two_ (i := 1) (j := 5) (Ni := some 76) (Nj := some 13) #[true,true,true,false,false,false,false] #[true,false,true,false,false,true,false] rfl rfl rfl rfl (by kernel_rfl) (by decide) (by decide) (fun K hK => ?_) (fun K hK => ?_)
               ·skip
                refine goes_ Try.func46 (by kernel_rfl) rfl #[.slice A0 l0.length c0] (by rfl) rfl rfl bz ?_
                with_reducible refine (laws_toInsS.calls kj26 _ _ l0 t280 _ ?side1 ?side2 A92.out).mono ?_
                (case side1 => repeat (first | exact (Kd.C_below HR0.out HB.out) | (with_reducible refine Kd.C_alloc ?_ _) | (with_reducible refine Kd.C_drewN ?_ _) | (with_reducible refine Kd.C_drew ?_)))
                (case side2 => exact HC0.out)
                rintro e w108 ⟨v281, rfl, ho0, hb⟩
                refine ⟨_, rfl, ?_⟩
                replace HO_238001 := Aside0.mk (Kd.R_below (rS HO_238001.out) hb)
                replace HO_238002 := Aside0.mk (Kd.R_below (rS HO_238002.out) hb)
                replace HO_249001 := Aside0.mk (Kd.R_below (rS HO_249001.out) hb)
                replace HO_249002 := Aside0.mk (Kd.R_below (rS HO_249002.out) hb)
                replace HO_257001 := Aside0.mk (Kd.R_below (rS HO_257001.out) hb)
                replace HO_257002 := Aside0.mk (Kd.R_below (rS HO_257002.out) hb)
                have HO282 := Aside0.mk (Kd.R_lower ho0 (below_size bx))
                replace BK217 := Aside0.mk (blk_below (g := gb217) (o := .cells #[.int .i64 a1_0, .slice A1_1 l1_1.length c1_1, .slice A1_2 l1_2.length c1_2] 31 (0, 0)) (bS BK217.out) hb)
                replace BK237 := Aside0.mk (blk_below (g := gb237) (o := .cells #[.int .i64 t230, .slice Ao41 t231.length co41, .slice Ao43 t234.length co43] 36 (0, 0)) (bS BK237.out) hb)
                replace BK248 := Aside0.mk (blk_below (g := gb248) (o := .cells #[.int .i64 t241, .slice Ao53 t273.length co53, .slice Ao54 t274.length co54] 36 (0, 0)) (bS BK248.out) hb)
                replace BK256 := Aside0.mk (blk_below (g := gb256) (o := .cells #[.int .i64 t249, .slice Ao62 t250.length co62, .slice Ao63 t253.length co63] 36 (0, 0)) (bS BK256.out) hb)
                replace HB := Aside0.mk (below_step bx hb)
                (try clear hb)
                (try clear hb2)
                (try clear hk)
                (try clear hi)
                (try clear ho0)
                refine hK.out _ _ ⟨(blk_cell BK217.out 0).trans rfl, (blk_cell BK217.out 1).trans rfl, (blk_cell BK217.out 2).trans rfl⟩ (fun hHeld => ?_)
                clear hK K
                refine norm_ (a' := ?_) ?_ ?_
                rotate_left
                ·show Act.put _ (some 76) _ = _
                 simp only [Act.put, List.setIfInBounds_toArray, List.set_cons_zero, List.set_cons_succ, i64_w, i32_w]
                 rfl
                refine two_ (i := 3) (j := 5) (Ni := some 78) (Nj := some 13) #[true,true,true,true,false,false,false] #[true,true,true,false,false,true,false] rfl rfl rfl rfl (by kernel_rfl) (by decide) (by decide) (fun K hK => ?_) (fun K hK => ?_)
                ·skip
                 refine goes_ Try.func22 (by kernel_rfl) rfl #[.agg #[.int .i64 a1_0, .slice A1_1 l1_1.length c1_1, .slice A1_2 l1_2.length c1_2]] (by rfl) rfl rfl bz ?_
                 with_reducible refine (laws_toWarp.calls kj26 a1_0 _ _ l1_1 _ _ l1_2 t283 t284 t287 _ ?side1 ?side2 ?side3 ?side4 A93.out).mono ?_
                 (case side1 => repeat (first | exact (Kd.C_below HR1_1.out HB.out) | (with_reducible refine Kd.C_alloc ?_ _) | (with_reducible refine Kd.C_drewN ?_ _) | (with_reducible refine Kd.C_drew ?_)))
                 (case side2 => exact HC1_1.out)
                 (case side3 => repeat (first | exact (Kd.C_below HR1_2.out HB.out) | (with_reducible refine Kd.C_alloc ?_ _) | (with_reducible refine Kd.C_drewN ?_ _) | (with_reducible refine Kd.C_drew ?_)))
                 (case side4 => exact HC1_2.out)
                 rintro e w109 ⟨v285, v288, rfl, ho0, ho1, hb⟩
                 refine ⟨_, rfl, ?_⟩
                 replace HO282 := Aside0.mk (Kd.R_below (rS HO282.out) hb)
                 have HO286 := Aside0.mk (Kd.R_lower (Kd.R_new' (Kd.R_new' (Kd.R_new' ho0 (Kd.R_lt (rS HO_238001.out))) (Kd.R_lt (rS HO_249001.out))) (Kd.R_lt (rS HO_257001.out))) (below_size bx))
                 replace HO_238001 := Aside0.mk (Kd.R_elder' (rS HO_238001.out) (Kd.R_base ho0) hb)
                 replace HO_249001 := Aside0.mk (Kd.R_elder' (rS HO_249001.out) (Kd.R_base ho0) hb)
                 replace HO_257001 := Aside0.mk (Kd.R_elder' (rS HO_257001.out) (Kd.R_base ho0) hb)
                 have HO289 := Aside0.mk (Kd.R_lower (Kd.R_new' (Kd.R_new' (Kd.R_new' ho1 (Kd.R_lt (rS HO_238002.out))) (Kd.R_lt (rS HO_249002.out))) (Kd.R_lt (rS HO_257002.out))) (below_size bx))
                 replace HO_238002 := Aside0.mk (Kd.R_elder' (rS HO_238002.out) (Kd.R_base ho1) hb)
                 replace HO_249002 := Aside0.mk (Kd.R_elder' (rS HO_249002.out) (Kd.R_base ho1) hb)
                 replace HO_257002 := Aside0.mk (Kd.R_elder' (rS HO_257002.out) (Kd.R_base ho1) hb)
                 replace BK217 := Aside0.mk (blk_below (g := gb217) (o := .cells #[.int .i64 a1_0, .slice A1_1 l1_1.length c1_1, .slice A1_2 l1_2.length c1_2] 31 (0, 0)) (bS BK217.out) hb)
                 replace BK237 := Aside0.mk (blk_below (g := gb237) (o := .cells #[.int .i64 t230, .slice Ao41 t231.length co41, .slice Ao43 t234.length co43] 36 (0, 0)) (bS BK237.out) hb)
                 replace BK248 := Aside0.mk (blk_below (g := gb248) (o := .cells #[.int .i64 t241, .slice Ao53 t273.length co53, .slice Ao54 t274.length co54] 36 (0, 0)) (bS BK248.out) hb)
                 replace BK256 := Aside0.mk (blk_below (g := gb256) (o := .cells #[.int .i64 t249, .slice Ao62 t250.length co62, .slice Ao63 t253.length co63] 36 (0, 0)) (bS BK256.out) hb)
                 replace HB := Aside0.mk (below_step bx hb)
                 (try clear hb)
                 (try clear hb2)
                 (try clear hk)
                 (try clear hi)
                 (try clear ho0)
                 (try clear ho1)
                 obtain ⟨Ao110, co110, eo110⟩ := Kd.R_slice HO282.out
                 (first | subst eo110 | (injection eo110 with f1_ f2_ f3_; have f4_ := f1_.symm; have f5_ := f3_.symm; clear f1_ f2_ f3_; subst f4_; subst f5_))
                 obtain ⟨Ao111, co111, eo111⟩ := Kd.R_slice HO286.out
                 (first | subst eo111 | (injection eo111 with f1_ f2_ f3_; have f4_ := f1_.symm; have f5_ := f3_.symm; clear f1_ f2_ f3_; subst f4_; subst f5_))
                 obtain ⟨Ao112, co112, eo112⟩ := Kd.R_slice HO289.out
                 (first | subst eo112 | (injection eo112 with f1_ f2_ f3_; have f4_ := f1_.symm; have f5_ := f3_.symm; clear f1_ f2_ f3_; subst f4_; subst f5_))
                 refine hK.out _ _ ⟨(blk_cell BK217.out 0).trans rfl, (blk_cell BK217.out 1).trans rfl, (blk_cell BK217.out 2).trans rfl⟩ (fun hHeld => ?_)
                 clear hK K
                 refine norm_ (a' := ?_) ?_ ?_
                 rotate_left
                 ·show Act.put _ (some 78) _ = _
                  simp only [Act.put, List.setIfInBounds_toArray, List.set_cons_zero, List.set_cons_succ, i64_w, i32_w]
                  rfl
                 refine two_ (i := 4) (j := 5) (Ni := some 79) (Nj := some 13) #[true,true,true,true,true,false,false] #[true,true,true,true,false,true,false] rfl rfl rfl rfl (by kernel_rfl) (by decide) (by decide) (fun K hK => ?_) (fun K hK => ?_)
                 ·skip
                  refine goes_ Try.func68 (by kernel_rfl) rfl #[.slice Ao110 t280.length co110, .agg #[.int .i64 t283, .slice Ao111 t284.length co111, .slice Ao112 t287.length co112]] (by rfl) rfl rfl bz ?_
                  with_reducible refine (impl_DropFrames.calls _ _ t280 t283 _ _ t284 _ _ t287 t290 t291 t294 _ ?side1 ?side2 ?side3 ?side4 ?side5 ?side6 A94.out).mono ?_
                  (case side1 => exact cS (Kd.R_reads' HO282.out).2.2)
                  (case side2 => exact (Kd.R_reads' HO282.out).2.1)
                  (case side3 => exact cS (Kd.R_reads' HO286.out).2.2)
                  (case side4 => exact (Kd.R_reads' HO286.out).2.1)
                  (case side5 => exact cS (Kd.R_reads' HO289.out).2.2)
                  (case side6 => exact (Kd.R_reads' HO289.out).2.1)
                  rintro e w113 ⟨v292, v295, rfl, ho0, ho1, hb⟩
                  refine ⟨_, rfl, ?_⟩
                  replace HO282 := Aside0.mk (Kd.R_below (rS HO282.out) hb)
                  have HO293 := Aside0.mk (Kd.R_lower (Kd.R_new' (Kd.R_new' (Kd.R_new' (Kd.R_new' ho0 (Kd.R_lt (rS HO_238001.out))) (Kd.R_lt (rS HO_249001.out))) (Kd.R_lt (rS HO_257001.out))) (Kd.R_lt (rS HO286.out))) (below_size bx))
                  replace HO_238001 := Aside0.mk (Kd.R_elder' (rS HO_238001.out) (Kd.R_base ho0) hb)
                  replace HO_249001 := Aside0.mk (Kd.R_elder' (rS HO_249001.out) (Kd.R_base ho0) hb)
                  replace HO_257001 := Aside0.mk (Kd.R_elder' (rS HO_257001.out) (Kd.R_base ho0) hb)
                  replace HO286 := Aside0.mk (Kd.R_elder' (rS HO286.out) (Kd.R_base ho0) hb)
                  have HO296 := Aside0.mk (Kd.R_lower (Kd.R_new' (Kd.R_new' (Kd.R_new' (Kd.R_new' ho1 (Kd.R_lt (rS HO_238002.out))) (Kd.R_lt (rS HO_249002.out))) (Kd.R_lt (rS HO_257002.out))) (Kd.R_lt (rS HO289.out))) (below_size bx))
                  replace HO_238002 := Aside0.mk (Kd.R_elder' (rS HO_238002.out) (Kd.R_base ho1) hb)
                  replace HO_249002 := Aside0.mk (Kd.R_elder' (rS HO_249002.out) (Kd.R_base ho1) hb)
                  replace HO_257002 := Aside0.mk (Kd.R_elder' (rS HO_257002.out) (Kd.R_base ho1) hb)
                  replace HO289 := Aside0.mk (Kd.R_elder' (rS HO289.out) (Kd.R_base ho1) hb)
                  replace BK217 := Aside0.mk (blk_below (g := gb217) (o := .cells #[.int .i64 a1_0, .slice A1_1 l1_1.length c1_1, .slice A1_2 l1_2.length c1_2] 31 (0, 0)) (bS BK217.out) hb)
                  replace BK237 := Aside0.mk (blk_below (g := gb237) (o := .cells #[.int .i64 t230, .slice Ao41 t231.length co41, .slice Ao43 t234.length co43] 36 (0, 0)) (bS BK237.out) hb)
                  replace BK248 := Aside0.mk (blk_below (g := gb248) (o := .cells #[.int .i64 t241, .slice Ao53 t273.length co53, .slice Ao54 t274.length co54] 36 (0, 0)) (bS BK248.out) hb)
                  replace BK256 := Aside0.mk (blk_below (g := gb256) (o := .cells #[.int .i64 t249, .slice Ao62 t250.length co62, .slice Ao63 t253.length co63] 36 (0, 0)) (bS BK256.out) hb)
                  replace HB := Aside0.mk (below_step bx hb)
                  (try clear hb)
                  (try clear hb2)
                  (try clear hk)
                  (try clear hi)
                  (try clear ho0)
                  (try clear ho1)
                  refine hK.out _ _ ⟨(blk_cell BK217.out 0).trans rfl, (blk_cell BK217.out 1).trans rfl, (blk_cell BK217.out 2).trans rfl⟩ (fun hHeld => ?_)
                  clear hK K
                  refine norm_ (a' := ?_) ?_ ?_
                  rotate_left
                  ·show Act.put _ (some 79) _ = _
                   simp only [Act.put, List.setIfInBounds_toArray, List.set_cons_zero, List.set_cons_succ, i64_w, i32_w]
                   rfl
                  refine one_ (i := 5) (N := some 13) #[true,true,true,true,true,true,false] rfl rfl (by kernel_rfl) (by decide) (fun K hK => ?_)
                  refine box_step ?hg (N := 13) ?hd (cs := #[.int .i64 0, .slice none 0 0, .slice none 0 0]) (t := 36) ?hr ?_; (case hd => rfl); (case hg => rfl); (case hr => first | (go_simp; done) | (go_simp; rfl))
                  intro gb297 hg w114 hbox hb
                  replace HO_238001 := Aside0.mk (Kd.R_below (rS HO_238001.out) hb)
                  replace HO_238002 := Aside0.mk (Kd.R_below (rS HO_238002.out) hb)
                  replace HO_249001 := Aside0.mk (Kd.R_below (rS HO_249001.out) hb)
                  replace HO_249002 := Aside0.mk (Kd.R_below (rS HO_249002.out) hb)
                  replace HO_257001 := Aside0.mk (Kd.R_below (rS HO_257001.out) hb)
                  replace HO_257002 := Aside0.mk (Kd.R_below (rS HO_257002.out) hb)
                  replace HO282 := Aside0.mk (Kd.R_below (rS HO282.out) hb)
                  replace HO286 := Aside0.mk (Kd.R_below (rS HO286.out) hb)
                  replace HO289 := Aside0.mk (Kd.R_below (rS HO289.out) hb)
                  replace HO293 := Aside0.mk (Kd.R_below (rS HO293.out) hb)
                  replace HO296 := Aside0.mk (Kd.R_below (rS HO296.out) hb)
                  have BK297 := Aside0.mk (hbox)
                  have GW297 := Aside0.mk ((by rw [hg]; exact (below_size bx) : w.heap.size ≤ gb297))
                  have GE297 := Aside0.mk ((by rw [hg]; exact (below_size bx) : w.heap.size ≤ gb297))
                  replace HB := Aside0.mk (below_step bx hb)
                  have NB217_297 := Aside0.mk ((by rw [hg]; exact Nat.ne_of_lt (blk_lt (g := gb217) (o := .cells #[.int .i64 a1_0, .slice A1_1 l1_1.length c1_1, .slice A1_2 l1_2.length c1_2] 31 (0, 0)) (bS BK217.out)) : gb217 ≠ gb297))
                  have NB297_217 := Aside0.mk ((by rw [hg]; exact Nat.ne_of_gt (blk_lt (g := gb217) (o := .cells #[.int .i64 a1_0, .slice A1_1 l1_1.length c1_1, .slice A1_2 l1_2.length c1_2] 31 (0, 0)) (bS BK217.out)) : gb297 ≠ gb217))
                  replace BK217 := Aside0.mk (blk_below (g := gb217) (o := .cells #[.int .i64 a1_0, .slice A1_1 l1_1.length c1_1, .slice A1_2 l1_2.length c1_2] 31 (0, 0)) (bS BK217.out) hb)
                  have NB237_297 := Aside0.mk ((by rw [hg]; exact Nat.ne_of_lt (blk_lt (g := gb237) (o := .cells #[.int .i64 t230, .slice Ao41 t231.length co41, .slice Ao43 t234.length co43] 36 (0, 0)) (bS BK237.out)) : gb237 ≠ gb297))
                  have NB297_237 := Aside0.mk ((by rw [hg]; exact Nat.ne_of_gt (blk_lt (g := gb237) (o := .cells #[.int .i64 t230, .slice Ao41 t231.length co41, .slice Ao43 t234.length co43] 36 (0, 0)) (bS BK237.out)) : gb297 ≠ gb237))
                  replace BK237 := Aside0.mk (blk_below (g := gb237) (o := .cells #[.int .i64 t230, .slice Ao41 t231.length co41, .slice Ao43 t234.length co43] 36 (0, 0)) (bS BK237.out) hb)
                  have NB248_297 := Aside0.mk ((by rw [hg]; exact Nat.ne_of_lt (blk_lt (g := gb248) (o := .cells #[.int .i64 t241, .slice Ao53 t273.length co53, .slice Ao54 t274.length co54] 36 (0, 0)) (bS BK248.out)) : gb248 ≠ gb297))
                  have NB297_248 := Aside0.mk ((by rw [hg]; exact Nat.ne_of_gt (blk_lt (g := gb248) (o := .cells #[.int .i64 t241, .slice Ao53 t273.length co53, .slice Ao54 t274.length co54] 36 (0, 0)) (bS BK248.out)) : gb297 ≠ gb248))
                  replace BK248 := Aside0.mk (blk_below (g := gb248) (o := .cells #[.int .i64 t241, .slice Ao53 t273.length co53, .slice Ao54 t274.length co54] 36 (0, 0)) (bS BK248.out) hb)
                  have NB256_297 := Aside0.mk ((by rw [hg]; exact Nat.ne_of_lt (blk_lt (g := gb256) (o := .cells #[.int .i64 t249, .slice Ao62 t250.length co62, .slice Ao63 t253.length co63] 36 (0, 0)) (bS BK256.out)) : gb256 ≠ gb297))
                  have NB297_256 := Aside0.mk ((by rw [hg]; exact Nat.ne_of_gt (blk_lt (g := gb256) (o := .cells #[.int .i64 t249, .slice Ao62 t250.length co62, .slice Ao63 t253.length co63] 36 (0, 0)) (bS BK256.out)) : gb297 ≠ gb256))
                  replace BK256 := Aside0.mk (blk_below (g := gb256) (o := .cells #[.int .i64 t249, .slice Ao62 t250.length co62, .slice Ao63 t253.length co63] 36 (0, 0)) (bS BK256.out) hb)
                  clear hb hbox hg
                  refine hK.out _ _ ⟨(blk_cell BK217.out 0).trans rfl, (blk_cell BK217.out 1).trans rfl, (blk_cell BK217.out 2).trans rfl⟩ (fun hHeld => ?_)
                  clear hK K
                  refine norm_ (a' := ?_) ?_ ?_
                  rotate_left
                  ·show Act.put _ (some 13) _ = _
                   simp only [Act.put, List.setIfInBounds_toArray, List.set_cons_zero, List.set_cons_succ, i64_w, i32_w]
                   rfl
                  exact norm_ (by simp only [putAll, Act.put, List.setIfInBounds_toArray, List.set_cons_zero, List.set_cons_succ]) (hCont (.slice Ao110 t280.length co110, .slice Ao111 t284.length co111, .slice Ao112 t287.length co112, v292, v295, gb297) _ ⟨hHeld, (rS HO282.out), (by (with_reducible repeat (first | apply Kd.R_alloc | apply Kd.R_drewN | apply Kd.R_drew)); exact Kd.R_mono HO286.out (fun _ hk => by grind)), (by (with_reducible repeat (first | apply Kd.R_alloc | apply Kd.R_drewN | apply Kd.R_drew)); exact Kd.R_mono HO289.out (fun _ hk => by grind)), (by (with_reducible repeat (first | apply Kd.R_alloc | apply Kd.R_drewN | apply Kd.R_drew)); exact Kd.R_mono HO293.out (fun _ hk => by grind)), (by (with_reducible repeat (first | apply Kd.R_alloc | apply Kd.R_drewN | apply Kd.R_drew)); exact Kd.R_mono HO296.out (fun _ hk => by grind)), (by (with_reducible repeat (first | apply Kd.R_alloc | apply Kd.R_drewN | apply Kd.R_drew)); exact Kd.R_mono HO_238001.out (fun _ hk => by grind)), (by (with_reducible repeat (first | apply Kd.R_alloc | apply Kd.R_drewN | apply Kd.R_drew)); exact Kd.R_mono HO_238002.out (fun _ hk => by grind)), (by (with_reducible repeat (first | apply Kd.R_alloc | apply Kd.R_drewN | apply Kd.R_drew)); exact Kd.R_mono HO_249001.out (fun _ hk => by grind)), (by (with_reducible repeat (first | apply Kd.R_alloc | apply Kd.R_drewN | apply Kd.R_drew)); exact Kd.R_mono HO_249002.out (fun _ hk => by grind)), (by (with_reducible repeat (first | apply Kd.R_alloc | apply Kd.R_drewN | apply Kd.R_drew)); exact Kd.R_mono HO_257001.out (fun _ hk => by grind)), (by (with_reducible repeat (first | apply Kd.R_alloc | apply Kd.R_drewN | apply Kd.R_drew)); exact Kd.R_mono HO_257002.out (fun _ hk => by grind)), (bS BK217.out), (bS BK237.out), (bS BK248.out), (bS BK256.out), (bS BK297.out), GW297.out, GE297.out, NB217_297.out, NB297_217.out, NB237_297.out, NB297_237.out, NB248_297.out, NB297_248.out, NB256_297.out, NB297_256.out, bx⟩)
                 ·skip
                  refine box_step ?hg (N := 13) ?hd (cs := #[.int .i64 0, .slice none 0 0, .slice none 0 0]) (t := 36) ?hr ?_; (case hd => rfl); (case hg => rfl); (case hr => first | (go_simp; done) | (go_simp; rfl))
                  intro gb297 hg w110 hbox hb
                  replace HO_238001 := Aside0.mk (Kd.R_below (rS HO_238001.out) hb)
                  replace HO_238002 := Aside0.mk (Kd.R_below (rS HO_238002.out) hb)
                  replace HO_249001 := Aside0.mk (Kd.R_below (rS HO_249001.out) hb)
                  replace HO_249002 := Aside0.mk (Kd.R_below (rS HO_249002.out) hb)
                  replace HO_257001 := Aside0.mk (Kd.R_below (rS HO_257001.out) hb)
                  replace HO_257002 := Aside0.mk (Kd.R_below (rS HO_257002.out) hb)
                  replace HO282 := Aside0.mk (Kd.R_below (rS HO282.out) hb)
                  replace HO286 := Aside0.mk (Kd.R_below (rS HO286.out) hb)
                  replace HO289 := Aside0.mk (Kd.R_below (rS HO289.out) hb)
                  have BK297 := Aside0.mk (hbox)
                  have GW297 := Aside0.mk ((by rw [hg]; exact (below_size bx) : w.heap.size ≤ gb297))
                  have GE297 := Aside0.mk ((by rw [hg]; exact (below_size bx) : w.heap.size ≤ gb297))
                  replace HB := Aside0.mk (below_step bx hb)
                  have NB217_297 := Aside0.mk ((by rw [hg]; exact Nat.ne_of_lt (blk_lt (g := gb217) (o := .cells #[.int .i64 a1_0, .slice A1_1 l1_1.length c1_1, .slice A1_2 l1_2.length c1_2] 31 (0, 0)) (bS BK217.out)) : gb217 ≠ gb297))
                  have NB297_217 := Aside0.mk ((by rw [hg]; exact Nat.ne_of_gt (blk_lt (g := gb217) (o := .cells #[.int .i64 a1_0, .slice A1_1 l1_1.length c1_1, .slice A1_2 l1_2.length c1_2] 31 (0, 0)) (bS BK217.out)) : gb297 ≠ gb217))
                  replace BK217 := Aside0.mk (blk_below (g := gb217) (o := .cells #[.int .i64 a1_0, .slice A1_1 l1_1.length c1_1, .slice A1_2 l1_2.length c1_2] 31 (0, 0)) (bS BK217.out) hb)
                  have NB237_297 := Aside0.mk ((by rw [hg]; exact Nat.ne_of_lt (blk_lt (g := gb237) (o := .cells #[.int .i64 t230, .slice Ao41 t231.length co41, .slice Ao43 t234.length co43] 36 (0, 0)) (bS BK237.out)) : gb237 ≠ gb297))
                  have NB297_237 := Aside0.mk ((by rw [hg]; exact Nat.ne_of_gt (blk_lt (g := gb237) (o := .cells #[.int .i64 t230, .slice Ao41 t231.length co41, .slice Ao43 t234.length co43] 36 (0, 0)) (bS BK237.out)) : gb297 ≠ gb237))
                  replace BK237 := Aside0.mk (blk_below (g := gb237) (o := .cells #[.int .i64 t230, .slice Ao41 t231.length co41, .slice Ao43 t234.length co43] 36 (0, 0)) (bS BK237.out) hb)
                  have NB248_297 := Aside0.mk ((by rw [hg]; exact Nat.ne_of_lt (blk_lt (g := gb248) (o := .cells #[.int .i64 t241, .slice Ao53 t273.length co53, .slice Ao54 t274.length co54] 36 (0, 0)) (bS BK248.out)) : gb248 ≠ gb297))
                  have NB297_248 := Aside0.mk ((by rw [hg]; exact Nat.ne_of_gt (blk_lt (g := gb248) (o := .cells #[.int .i64 t241, .slice Ao53 t273.length co53, .slice Ao54 t274.length co54] 36 (0, 0)) (bS BK248.out)) : gb297 ≠ gb248))
                  replace BK248 := Aside0.mk (blk_below (g := gb248) (o := .cells #[.int .i64 t241, .slice Ao53 t273.length co53, .slice Ao54 t274.length co54] 36 (0, 0)) (bS BK248.out) hb)
                  have NB256_297 := Aside0.mk ((by rw [hg]; exact Nat.ne_of_lt (blk_lt (g := gb256) (o := .cells #[.int .i64 t249, .slice Ao62 t250.length co62, .slice Ao63 t253.length co63] 36 (0, 0)) (bS BK256.out)) : gb256 ≠ gb297))
                  have NB297_256 := Aside0.mk ((by rw [hg]; exact Nat.ne_of_gt (blk_lt (g := gb256) (o := .cells #[.int .i64 t249, .slice Ao62 t250.length co62, .slice Ao63 t253.length co63] 36 (0, 0)) (bS BK256.out)) : gb297 ≠ gb256))
                  replace BK256 := Aside0.mk (blk_below (g := gb256) (o := .cells #[.int .i64 t249, .slice Ao62 t250.length co62, .slice Ao63 t253.length co63] 36 (0, 0)) (bS BK256.out) hb)
                  clear hb hbox hg
                  obtain ⟨Ao111, co111, eo111⟩ := Kd.R_slice HO282.out
                  (first | subst eo111 | (injection eo111 with f1_ f2_ f3_; have f4_ := f1_.symm; have f5_ := f3_.symm; clear f1_ f2_ f3_; subst f4_; subst f5_))
                  obtain ⟨Ao112, co112, eo112⟩ := Kd.R_slice HO286.out
                  (first | subst eo112 | (injection eo112 with f1_ f2_ f3_; have f4_ := f1_.symm; have f5_ := f3_.symm; clear f1_ f2_ f3_; subst f4_; subst f5_))
                  obtain ⟨Ao113, co113, eo113⟩ := Kd.R_slice HO289.out
                  (first | subst eo113 | (injection eo113 with f1_ f2_ f3_; have f4_ := f1_.symm; have f5_ := f3_.symm; clear f1_ f2_ f3_; subst f4_; subst f5_))
                  refine hK.out _ _ ⟨(blk_cell BK217.out 0).trans rfl, (blk_cell BK217.out 1).trans rfl, (blk_cell BK217.out 2).trans rfl⟩ (fun hHeld => ?_)
                  clear hK K
                  refine norm_ (a' := ?_) ?_ ?_
                  rotate_left
                  ·show Act.put _ (some 13) _ = _
                   simp only [Act.put, List.setIfInBounds_toArray, List.set_cons_zero, List.set_cons_succ, i64_w, i32_w]
                   rfl
                  refine one_ (i := 4) (N := some 79) #[true,true,true,true,true,true,false] rfl rfl (by kernel_rfl) (by decide) (fun K hK => ?_)
                  refine goes_ Try.func68 (by kernel_rfl) rfl #[.slice Ao111 t280.length co111, .agg #[.int .i64 t283, .slice Ao112 t284.length co112, .slice Ao113 t287.length co113]] (by rfl) rfl rfl bz ?_
                  with_reducible refine (impl_DropFrames.calls _ _ t280 t283 _ _ t284 _ _ t287 t290 t291 t294 _ ?side1 ?side2 ?side3 ?side4 ?side5 ?side6 A94.out).mono ?_
                  (case side1 => exact cS (Kd.R_reads' HO282.out).2.2)
                  (case side2 => exact (Kd.R_reads' HO282.out).2.1)
                  (case side3 => exact cS (Kd.R_reads' HO286.out).2.2)
                  (case side4 => exact (Kd.R_reads' HO286.out).2.1)
                  (case side5 => exact cS (Kd.R_reads' HO289.out).2.2)
                  (case side6 => exact (Kd.R_reads' HO289.out).2.1)
                  rintro e w114 ⟨v292, v295, rfl, ho0, ho1, hb⟩
                  refine ⟨_, rfl, ?_⟩
                  replace HO282 := Aside0.mk (Kd.R_below (rS HO282.out) hb)
                  have HO293 := Aside0.mk (Kd.R_lower (Kd.R_new' (Kd.R_new' (Kd.R_new' (Kd.R_new' ho0 (Kd.R_lt (rS HO_238001.out))) (Kd.R_lt (rS HO_249001.out))) (Kd.R_lt (rS HO_257001.out))) (Kd.R_lt (rS HO286.out))) (below_size bx))
                  replace HO_238001 := Aside0.mk (Kd.R_elder' (rS HO_238001.out) (Kd.R_base ho0) hb)
                  replace HO_249001 := Aside0.mk (Kd.R_elder' (rS HO_249001.out) (Kd.R_base ho0) hb)
                  replace HO_257001 := Aside0.mk (Kd.R_elder' (rS HO_257001.out) (Kd.R_base ho0) hb)
                  replace HO286 := Aside0.mk (Kd.R_elder' (rS HO286.out) (Kd.R_base ho0) hb)
                  have HO296 := Aside0.mk (Kd.R_lower (Kd.R_new' (Kd.R_new' (Kd.R_new' (Kd.R_new' ho1 (Kd.R_lt (rS HO_238002.out))) (Kd.R_lt (rS HO_249002.out))) (Kd.R_lt (rS HO_257002.out))) (Kd.R_lt (rS HO289.out))) (below_size bx))
                  replace HO_238002 := Aside0.mk (Kd.R_elder' (rS HO_238002.out) (Kd.R_base ho1) hb)
                  replace HO_249002 := Aside0.mk (Kd.R_elder' (rS HO_249002.out) (Kd.R_base ho1) hb)
                  replace HO_257002 := Aside0.mk (Kd.R_elder' (rS HO_257002.out) (Kd.R_base ho1) hb)
                  replace HO289 := Aside0.mk (Kd.R_elder' (rS HO289.out) (Kd.R_base ho1) hb)
                  replace BK217 := Aside0.mk (blk_below (g := gb217) (o := .cells #[.int .i64 a1_0, .slice A1_1 l1_1.length c1_1, .slice A1_2 l1_2.length c1_2] 31 (0, 0)) (bS BK217.out) hb)
                  replace BK237 := Aside0.mk (blk_below (g := gb237) (o := .cells #[.int .i64 t230, .slice Ao41 t231.length co41, .slice Ao43 t234.length co43] 36 (0, 0)) (bS BK237.out) hb)
                  replace BK248 := Aside0.mk (blk_below (g := gb248) (o := .cells #[.int .i64 t241, .slice Ao53 t273.length co53, .slice Ao54 t274.length co54] 36 (0, 0)) (bS BK248.out) hb)
                  replace BK256 := Aside0.mk (blk_below (g := gb256) (o := .cells #[.int .i64 t249, .slice Ao62 t250.length co62, .slice Ao63 t253.length co63] 36 (0, 0)) (bS BK256.out) hb)
                  replace BK297 := Aside0.mk (blk_below (g := gb297) (o := .cells #[.int .i64 0, .slice none 0 0, .slice none 0 0] 36 (0, 0)) (bS BK297.out) hb)
                  replace HB := Aside0.mk (below_step bx hb)
                  (try clear hb)
                  (try clear hb2)
                  (try clear hk)
                  (try clear hi)
                  (try clear ho0)
                  (try clear ho1)
                  refine hK.out _ _ ⟨(blk_cell BK217.out 0).trans rfl, (blk_cell BK217.out 1).trans rfl, (blk_cell BK217.out 2).trans rfl⟩ (fun hHeld => ?_)
                  clear hK K
                  refine norm_ (a' := ?_) ?_ ?_
                  rotate_left
                  ·show Act.put _ (some 79) _ = _
                   simp only [Act.put, List.setIfInBounds_toArray, List.set_cons_zero, List.set_cons_succ, i64_w, i32_w]
                   rfl
                  exact norm_ (by simp only [putAll, Act.put, List.setIfInBounds_toArray, List.set_cons_zero, List.set_cons_succ]) (hCont (.slice Ao111 t280.length co111, .slice Ao112 t284.length co112, .slice Ao113 t287.length co113, v292, v295, gb297) _ ⟨hHeld, (rS HO282.out), (by (with_reducible repeat (first | apply Kd.R_alloc | apply Kd.R_drewN | apply Kd.R_drew)); exact Kd.R_mono HO286.out (fun _ hk => by grind)), (by (with_reducible repeat (first | apply Kd.R_alloc | apply Kd.R_drewN | apply Kd.R_drew)); exact Kd.R_mono HO289.out (fun _ hk => by grind)), (by (with_reducible repeat (first | apply Kd.R_alloc | apply Kd.R_drewN | apply Kd.R_drew)); exact Kd.R_mono HO293.out (fun _ hk => by grind)), (by (with_reducible repeat (first | apply Kd.R_alloc | apply Kd.R_drewN | apply Kd.R_drew)); exact Kd.R_mono HO296.out (fun _ hk => by grind)), (by (with_reducible repeat (first | apply Kd.R_alloc | apply Kd.R_drewN | apply Kd.R_drew)); exact Kd.R_mono HO_238001.out (fun _ hk => by grind)), (by (with_reducible repeat (first | apply Kd.R_alloc | apply Kd.R_drewN | apply Kd.R_drew)); exact Kd.R_mono HO_238002.out (fun _ hk => by grind)), (by (with_reducible repeat (first | apply Kd.R_alloc | apply Kd.R_drewN | apply Kd.R_drew)); exact Kd.R_mono HO_249001.out (fun _ hk => by grind)), (by (with_reducible repeat (first | apply Kd.R_alloc | apply Kd.R_drewN | apply Kd.R_drew)); exact Kd.R_mono HO_249002.out (fun _ hk => by grind)), (by (with_reducible repeat (first | apply Kd.R_alloc | apply Kd.R_drewN | apply Kd.R_drew)); exact Kd.R_mono HO_257001.out (fun _ hk => by grind)), (by (with_reducible repeat (first | apply Kd.R_alloc | apply Kd.R_drewN | apply Kd.R_drew)); exact Kd.R_mono HO_257002.out (fun _ hk => by grind)), (bS BK217.out), (bS BK237.out), (bS BK248.out), (bS BK256.out), (bS BK297.out), GW297.out, GE297.out, NB217_297.out, NB297_217.out, NB237_297.out, NB297_237.out, NB248_297.out, NB297_248.out, NB256_297.out, NB297_256.out, bx⟩)
                ·skip
                 refine box_step ?hg (N := 13) ?hd (cs := #[.int .i64 0, .slice none 0 0, .slice none 0 0]) (t := 36) ?hr ?_; (case hd => rfl); (case hg => rfl); (case hr => first | (go_simp; done) | (go_simp; rfl))
                 intro gb297 hg w109 hbox hb
                 replace HO_238001 := Aside0.mk (Kd.R_below (rS HO_238001.out) hb)
                 replace HO_238002 := Aside0.mk (Kd.R_below (rS HO_238002.out) hb)
                 replace HO_249001 := Aside0.mk (Kd.R_below (rS HO_249001.out) hb)
                 replace HO_249002 := Aside0.mk (Kd.R_below (rS HO_249002.out) hb)
                 replace HO_257001 := Aside0.mk (Kd.R_below (rS HO_257001.out) hb)
                 replace HO_257002 := Aside0.mk (Kd.R_below (rS HO_257002.out) hb)
                 replace HO282 := Aside0.mk (Kd.R_below (rS HO282.out) hb)
                 have BK297 := Aside0.mk (hbox)
                 have GW297 := Aside0.mk ((by rw [hg]; exact (below_size bx) : w.heap.size ≤ gb297))
                 have GE297 := Aside0.mk ((by rw [hg]; exact (below_size bx) : w.heap.size ≤ gb297))
                 replace HB := Aside0.mk (below_step bx hb)
                 have NB217_297 := Aside0.mk ((by rw [hg]; exact Nat.ne_of_lt (blk_lt (g := gb217) (o := .cells #[.int .i64 a1_0, .slice A1_1 l1_1.length c1_1, .slice A1_2 l1_2.length c1_2] 31 (0, 0)) (bS BK217.out)) : gb217 ≠ gb297))
                 have NB297_217 := Aside0.mk ((by rw [hg]; exact Nat.ne_of_gt (blk_lt (g := gb217) (o := .cells #[.int .i64 a1_0, .slice A1_1 l1_1.length c1_1, .slice A1_2 l1_2.length c1_2] 31 (0, 0)) (bS BK217.out)) : gb297 ≠ gb217))
                 replace BK217 := Aside0.mk (blk_below (g := gb217) (o := .cells #[.int .i64 a1_0, .slice A1_1 l1_1.length c1_1, .slice A1_2 l1_2.length c1_2] 31 (0, 0)) (bS BK217.out) hb)
                 have NB237_297 := Aside0.mk ((by rw [hg]; exact Nat.ne_of_lt (blk_lt (g := gb237) (o := .cells #[.int .i64 t230, .slice Ao41 t231.length co41, .slice Ao43 t234.length co43] 36 (0, 0)) (bS BK237.out)) : gb237 ≠ gb297))
                 have NB297_237 := Aside0.mk ((by rw [hg]; exact Nat.ne_of_gt (blk_lt (g := gb237) (o := .cells #[.int .i64 t230, .slice Ao41 t231.length co41, .slice Ao43 t234.length co43] 36 (0, 0)) (bS BK237.out)) : gb297 ≠ gb237))
                 replace BK237 := Aside0.mk (blk_below (g := gb237) (o := .cells #[.int .i64 t230, .slice Ao41 t231.length co41, .slice Ao43 t234.length co43] 36 (0, 0)) (bS BK237.out) hb)
                 have NB248_297 := Aside0.mk ((by rw [hg]; exact Nat.ne_of_lt (blk_lt (g := gb248) (o := .cells #[.int .i64 t241, .slice Ao53 t273.length co53, .slice Ao54 t274.length co54] 36 (0, 0)) (bS BK248.out)) : gb248 ≠ gb297))
                 have NB297_248 := Aside0.mk ((by rw [hg]; exact Nat.ne_of_gt (blk_lt (g := gb248) (o := .cells #[.int .i64 t241, .slice Ao53 t273.length co53, .slice Ao54 t274.length co54] 36 (0, 0)) (bS BK248.out)) : gb297 ≠ gb248))
                 replace BK248 := Aside0.mk (blk_below (g := gb248) (o := .cells #[.int .i64 t241, .slice Ao53 t273.length co53, .slice Ao54 t274.length co54] 36 (0, 0)) (bS BK248.out) hb)
                 have NB256_297 := Aside0.mk ((by rw [hg]; exact Nat.ne_of_lt (blk_lt (g := gb256) (o := .cells #[.int .i64 t249, .slice Ao62 t250.length co62, .slice Ao63 t253.length co63] 36 (0, 0)) (bS BK256.out)) : gb256 ≠ gb297))
                 have NB297_256 := Aside0.mk ((by rw [hg]; exact Nat.ne_of_gt (blk_lt (g := gb256) (o := .cells #[.int .i64 t249, .slice Ao62 t250.length co62, .slice Ao63 t253.length co63] 36 (0, 0)) (bS BK256.out)) : gb297 ≠ gb256))
                 replace BK256 := Aside0.mk (blk_below (g := gb256) (o := .cells #[.int .i64 t249, .slice Ao62 t250.length co62, .slice Ao63 t253.length co63] 36 (0, 0)) (bS BK256.out) hb)
                 clear hb hbox hg
                 refine hK.out _ _ ⟨(blk_cell BK217.out 0).trans rfl, (blk_cell BK217.out 1).trans rfl, (blk_cell BK217.out 2).trans rfl⟩ (fun hHeld => ?_)
                 clear hK K
                 refine norm_ (a' := ?_) ?_ ?_
                 rotate_left
                 ·show Act.put _ (some 13) _ = _
                  simp only [Act.put, List.setIfInBounds_toArray, List.set_cons_zero, List.set_cons_succ, i64_w, i32_w]
                  rfl
                 refine one_ (i := 3) (N := some 78) #[true,true,true,true,false,true,false] rfl rfl (by kernel_rfl) (by decide) (fun K hK => ?_)
                 refine goes_ Try.func22 (by kernel_rfl) rfl #[.agg #[.int .i64 a1_0, .slice A1_1 l1_1.length c1_1, .slice A1_2 l1_2.length c1_2]] (by rfl) rfl rfl bz ?_
                 with_reducible refine (laws_toWarp.calls kj26 a1_0 _ _ l1_1 _ _ l1_2 t283 t284 t287 _ ?side1 ?side2 ?side3 ?side4 A93.out).mono ?_
                 (case side1 => repeat (first | exact (Kd.C_below HR1_1.out HB.out) | (with_reducible refine Kd.C_alloc ?_ _) | (with_reducible refine Kd.C_drewN ?_ _) | (with_reducible refine Kd.C_drew ?_)))
                 (case side2 => exact HC1_1.out)
                 (case side3 => repeat (first | exact (Kd.C_below HR1_2.out HB.out) | (with_reducible refine Kd.C_alloc ?_ _) | (with_reducible refine Kd.C_drewN ?_ _) | (with_reducible refine Kd.C_drew ?_)))
                 (case side4 => exact HC1_2.out)
                 rintro e w110 ⟨v285, v288, rfl, ho0, ho1, hb⟩
                 refine ⟨_, rfl, ?_⟩
                 replace HO282 := Aside0.mk (Kd.R_below (rS HO282.out) hb)
                 have HO286 := Aside0.mk (Kd.R_lower (Kd.R_new' (Kd.R_new' (Kd.R_new' ho0 (Kd.R_lt (rS HO_238001.out))) (Kd.R_lt (rS HO_249001.out))) (Kd.R_lt (rS HO_257001.out))) (below_size bx))
                 replace HO_238001 := Aside0.mk (Kd.R_elder' (rS HO_238001.out) (Kd.R_base ho0) hb)
                 replace HO_249001 := Aside0.mk (Kd.R_elder' (rS HO_249001.out) (Kd.R_base ho0) hb)
                 replace HO_257001 := Aside0.mk (Kd.R_elder' (rS HO_257001.out) (Kd.R_base ho0) hb)
                 have HO289 := Aside0.mk (Kd.R_lower (Kd.R_new' (Kd.R_new' (Kd.R_new' ho1 (Kd.R_lt (rS HO_238002.out))) (Kd.R_lt (rS HO_249002.out))) (Kd.R_lt (rS HO_257002.out))) (below_size bx))
                 replace HO_238002 := Aside0.mk (Kd.R_elder' (rS HO_238002.out) (Kd.R_base ho1) hb)
                 replace HO_249002 := Aside0.mk (Kd.R_elder' (rS HO_249002.out) (Kd.R_base ho1) hb)
                 replace HO_257002 := Aside0.mk (Kd.R_elder' (rS HO_257002.out) (Kd.R_base ho1) hb)
                 replace BK217 := Aside0.mk (blk_below (g := gb217) (o := .cells #[.int .i64 a1_0, .slice A1_1 l1_1.length c1_1, .slice A1_2 l1_2.length c1_2] 31 (0, 0)) (bS BK217.out) hb)
                 replace BK237 := Aside0.mk (blk_below (g := gb237) (o := .cells #[.int .i64 t230, .slice Ao41 t231.length co41, .slice Ao43 t234.length co43] 36 (0, 0)) (bS BK237.out) hb)
                 replace BK248 := Aside0.mk (blk_below (g := gb248) (o := .cells #[.int .i64 t241, .slice Ao53 t273.length co53, .slice Ao54 t274.length co54] 36 (0, 0)) (bS BK248.out) hb)
                 replace BK256 := Aside0.mk (blk_below (g := gb256) (o := .cells #[.int .i64 t249, .slice Ao62 t250.length co62, .slice Ao63 t253.length co63] 36 (0, 0)) (bS BK256.out) hb)
                 replace BK297 := Aside0.mk (blk_below (g := gb297) (o := .cells #[.int .i64 0, .slice none 0 0, .slice none 0 0] 36 (0, 0)) (bS BK297.out) hb)
                 replace HB := Aside0.mk (below_step bx hb)
                 (try clear hb)
                 (try clear hb2)
                 (try clear hk)
                 (try clear hi)
                 (try clear ho0)
                 (try clear ho1)
                 obtain ⟨Ao111, co111, eo111⟩ := Kd.R_slice HO282.out
                 (first | subst eo111 | (injection eo111 with f1_ f2_ f3_; have f4_ := f1_.symm; have f5_ := f3_.symm; clear f1_ f2_ f3_; subst f4_; subst f5_))
                 obtain ⟨Ao112, co112, eo112⟩ := Kd.R_slice HO286.out
                 (first | subst eo112 | (injection eo112 with f1_ f2_ f3_; have f4_ := f1_.symm; have f5_ := f3_.symm; clear f1_ f2_ f3_; subst f4_; subst f5_))
                 obtain ⟨Ao113, co113, eo113⟩ := Kd.R_slice HO289.out
                 (first | subst eo113 | (injection eo113 with f1_ f2_ f3_; have f4_ := f1_.symm; have f5_ := f3_.symm; clear f1_ f2_ f3_; subst f4_; subst f5_))
                 refine hK.out _ _ ⟨(blk_cell BK217.out 0).trans rfl, (blk_cell BK217.out 1).trans rfl, (blk_cell BK217.out 2).trans rfl⟩ (fun hHeld => ?_)
                 clear hK K
                 refine norm_ (a' := ?_) ?_ ?_
                 rotate_left
                 ·show Act.put _ (some 78) _ = _
                  simp only [Act.put, List.setIfInBounds_toArray, List.set_cons_zero, List.set_cons_succ, i64_w, i32_w]
                  rfl
                 refine one_ (i := 4) (N := some 79) #[true,true,true,true,true,true,false] rfl rfl (by kernel_rfl) (by decide) (fun K hK => ?_)
                 refine goes_ Try.func68 (by kernel_rfl) rfl #[.slice Ao111 t280.length co111, .agg #[.int .i64 t283, .slice Ao112 t284.length co112, .slice Ao113 t287.length co113]] (by rfl) rfl rfl bz ?_
                 with_reducible refine (impl_DropFrames.calls _ _ t280 t283 _ _ t284 _ _ t287 t290 t291 t294 _ ?side1 ?side2 ?side3 ?side4 ?side5 ?side6 A94.out).mono ?_
                 (case side1 => exact cS (Kd.R_reads' HO282.out).2.2)
                 (case side2 => exact (Kd.R_reads' HO282.out).2.1)
                 (case side3 => exact cS (Kd.R_reads' HO286.out).2.2)
                 (case side4 => exact (Kd.R_reads' HO286.out).2.1)
                 (case side5 => exact cS (Kd.R_reads' HO289.out).2.2)
                 (case side6 => exact (Kd.R_reads' HO289.out).2.1)
                 rintro e w114 ⟨v292, v295, rfl, ho0, ho1, hb⟩
                 refine ⟨_, rfl, ?_⟩
                 replace HO282 := Aside0.mk (Kd.R_below (rS HO282.out) hb)
                 have HO293 := Aside0.mk (Kd.R_lower (Kd.R_new' (Kd.R_new' (Kd.R_new' (Kd.R_new' ho0 (Kd.R_lt (rS HO_238001.out))) (Kd.R_lt (rS HO_249001.out))) (Kd.R_lt (rS HO_257001.out))) (Kd.R_lt (rS HO286.out))) (below_size bx))
                 replace HO_238001 := Aside0.mk (Kd.R_elder' (rS HO_238001.out) (Kd.R_base ho0) hb)
                 replace HO_249001 := Aside0.mk (Kd.R_elder' (rS HO_249001.out) (Kd.R_base ho0) hb)
                 replace HO_257001 := Aside0.mk (Kd.R_elder' (rS HO_257001.out) (Kd.R_base ho0) hb)
                 replace HO286 := Aside0.mk (Kd.R_elder' (rS HO286.out) (Kd.R_base ho0) hb)
                 have HO296 := Aside0.mk (Kd.R_lower (Kd.R_new' (Kd.R_new' (Kd.R_new' (Kd.R_new' ho1 (Kd.R_lt (rS HO_238002.out))) (Kd.R_lt (rS HO_249002.out))) (Kd.R_lt (rS HO_257002.out))) (Kd.R_lt (rS HO289.out))) (below_size bx))
                 replace HO_238002 := Aside0.mk (Kd.R_elder' (rS HO_238002.out) (Kd.R_base ho1) hb)
                 replace HO_249002 := Aside0.mk (Kd.R_elder' (rS HO_249002.out) (Kd.R_base ho1) hb)
                 replace HO_257002 := Aside0.mk (Kd.R_elder' (rS HO_257002.out) (Kd.R_base ho1) hb)
                 replace HO289 := Aside0.mk (Kd.R_elder' (rS HO289.out) (Kd.R_base ho1) hb)
                 replace BK217 := Aside0.mk (blk_below (g := gb217) (o := .cells #[.int .i64 a1_0, .slice A1_1 l1_1.length c1_1, .slice A1_2 l1_2.length c1_2] 31 (0, 0)) (bS BK217.out) hb)
                 replace BK237 := Aside0.mk (blk_below (g := gb237) (o := .cells #[.int .i64 t230, .slice Ao41 t231.length co41, .slice Ao43 t234.length co43] 36 (0, 0)) (bS BK237.out) hb)
                 replace BK248 := Aside0.mk (blk_below (g := gb248) (o := .cells #[.int .i64 t241, .slice Ao53 t273.length co53, .slice Ao54 t274.length co54] 36 (0, 0)) (bS BK248.out) hb)
                 replace BK256 := Aside0.mk (blk_below (g := gb256) (o := .cells #[.int .i64 t249, .slice Ao62 t250.length co62, .slice Ao63 t253.length co63] 36 (0, 0)) (bS BK256.out) hb)
                 replace BK297 := Aside0.mk (blk_below (g := gb297) (o := .cells #[.int .i64 0, .slice none 0 0, .slice none 0 0] 36 (0, 0)) (bS BK297.out) hb)
                 replace HB := Aside0.mk (below_step bx hb)
                 (try clear hb)
                 (try clear hb2)
                 (try clear hk)
                 (try clear hi)
                 (try clear ho0)
                 (try clear ho1)
                 refine hK.out _ _ ⟨(blk_cell BK217.out 0).trans rfl, (blk_cell BK217.out 1).trans rfl, (blk_cell BK217.out 2).trans rfl⟩ (fun hHeld => ?_)
                 clear hK K
                 refine norm_ (a' := ?_) ?_ ?_
                 rotate_left
                 ·show Act.put _ (some 79) _ = _
                  simp only [Act.put, List.setIfInBounds_toArray, List.set_cons_zero, List.set_cons_succ, i64_w, i32_w]
                  rfl
                 exact norm_ (by simp only [putAll, Act.put, List.setIfInBounds_toArray, List.set_cons_zero, List.set_cons_succ]) (hCont (.slice Ao111 t280.length co111, .slice Ao112 t284.length co112, .slice Ao113 t287.length co113, v292, v295, gb297) _ ⟨hHeld, (rS HO282.out), (by (with_reducible repeat (first | apply Kd.R_alloc | apply Kd.R_drewN | apply Kd.R_drew)); exact Kd.R_mono HO286.out (fun _ hk => by grind)), (by (with_reducible repeat (first | apply Kd.R_alloc | apply Kd.R_drewN | apply Kd.R_drew)); exact Kd.R_mono HO289.out (fun _ hk => by grind)), (by (with_reducible repeat (first | apply Kd.R_alloc | apply Kd.R_drewN | apply Kd.R_drew)); exact Kd.R_mono HO293.out (fun _ hk => by grind)), (by (with_reducible repeat (first | apply Kd.R_alloc | apply Kd.R_drewN | apply Kd.R_drew)); exact Kd.R_mono HO296.out (fun _ hk => by grind)), (by (with_reducible repeat (first | apply Kd.R_alloc | apply Kd.R_drewN | apply Kd.R_drew)); exact Kd.R_mono HO_238001.out (fun _ hk => by grind)), (by (with_reducible repeat (first | apply Kd.R_alloc | apply Kd.R_drewN | apply Kd.R_drew)); exact Kd.R_mono HO_238002.out (fun _ hk => by grind)), (by (with_reducible repeat (first | apply Kd.R_alloc | apply Kd.R_drewN | apply Kd.R_drew)); exact Kd.R_mono HO_249001.out (fun _ hk => by grind)), (by (with_reducible repeat (first | apply Kd.R_alloc | apply Kd.R_drewN | apply Kd.R_drew)); exact Kd.R_mono HO_249002.out (fun _ hk => by grind)), (by (with_reducible repeat (first | apply Kd.R_alloc | apply Kd.R_drewN | apply Kd.R_drew)); exact Kd.R_mono HO_257001.out (fun _ hk => by grind)), (by (with_reducible repeat (first | apply Kd.R_alloc | apply Kd.R_drewN | apply Kd.R_drew)); exact Kd.R_mono HO_257002.out (fun _ hk => by grind)), (bS BK217.out), (bS BK237.out), (bS BK248.out), (bS BK256.out), (bS BK297.out), GW297.out, GE297.out, NB217_297.out, NB297_217.out, NB237_297.out, NB297_237.out, NB248_297.out, NB297_248.out, NB256_297.out, NB297_256.out, bx⟩)
               ·skip
                refine box_step ?hg (N := 13) ?hd (cs := #[.int .i64 0, .slice none 0 0, .slice none 0 0]) (t := 36) ?hr ?_; (case hd => rfl); (case hg => rfl); (case hr => first | (go_simp; done) | (go_simp; rfl))
                intro gb297 hg w108 hbox hb
                replace HO_238001 := Aside0.mk (Kd.R_below (rS HO_238001.out) hb)
                replace HO_238002 := Aside0.mk (Kd.R_below (rS HO_238002.out) hb)
                replace HO_249001 := Aside0.mk (Kd.R_below (rS HO_249001.out) hb)
                replace HO_249002 := Aside0.mk (Kd.R_below (rS HO_249002.out) hb)
                replace HO_257001 := Aside0.mk (Kd.R_below (rS HO_257001.out) hb)
                replace HO_257002 := Aside0.mk (Kd.R_below (rS HO_257002.out) hb)
                have BK297 := Aside0.mk (hbox)
                have GW297 := Aside0.mk ((by rw [hg]; exact (below_size bx) : w.heap.size ≤ gb297))
                have GE297 := Aside0.mk ((by rw [hg]; exact (below_size bx) : w.heap.size ≤ gb297))
                replace HB := Aside0.mk (below_step bx hb)
                have NB217_297 := Aside0.mk ((by rw [hg]; exact Nat.ne_of_lt (blk_lt (g := gb217) (o := .cells #[.int .i64 a1_0, .slice A1_1 l1_1.length c1_1, .slice A1_2 l1_2.length c1_2] 31 (0, 0)) (bS BK217.out)) : gb217 ≠ gb297))
                have NB297_217 := Aside0.mk ((by rw [hg]; exact Nat.ne_of_gt (blk_lt (g := gb217) (o := .cells #[.int .i64 a1_0, .slice A1_1 l1_1.length c1_1, .slice A1_2 l1_2.length c1_2] 31 (0, 0)) (bS BK217.out)) : gb297 ≠ gb217))
                replace BK217 := Aside0.mk (blk_below (g := gb217) (o := .cells #[.int .i64 a1_0, .slice A1_1 l1_1.length c1_1, .slice A1_2 l1_2.length c1_2] 31 (0, 0)) (bS BK217.out) hb)
                have NB237_297 := Aside0.mk ((by rw [hg]; exact Nat.ne_of_lt (blk_lt (g := gb237) (o := .cells #[.int .i64 t230, .slice Ao41 t231.length co41, .slice Ao43 t234.length co43] 36 (0, 0)) (bS BK237.out)) : gb237 ≠ gb297))
                have NB297_237 := Aside0.mk ((by rw [hg]; exact Nat.ne_of_gt (blk_lt (g := gb237) (o := .cells #[.int .i64 t230, .slice Ao41 t231.length co41, .slice Ao43 t234.length co43] 36 (0, 0)) (bS BK237.out)) : gb297 ≠ gb237))
                replace BK237 := Aside0.mk (blk_below (g := gb237) (o := .cells #[.int .i64 t230, .slice Ao41 t231.length co41, .slice Ao43 t234.length co43] 36 (0, 0)) (bS BK237.out) hb)
                have NB248_297 := Aside0.mk ((by rw [hg]; exact Nat.ne_of_lt (blk_lt (g := gb248) (o := .cells #[.int .i64 t241, .slice Ao53 t273.length co53, .slice Ao54 t274.length co54] 36 (0, 0)) (bS BK248.out)) : gb248 ≠ gb297))
                have NB297_248 := Aside0.mk ((by rw [hg]; exact Nat.ne_of_gt (blk_lt (g := gb248) (o := .cells #[.int .i64 t241, .slice Ao53 t273.length co53, .slice Ao54 t274.length co54] 36 (0, 0)) (bS BK248.out)) : gb297 ≠ gb248))
                replace BK248 := Aside0.mk (blk_below (g := gb248) (o := .cells #[.int .i64 t241, .slice Ao53 t273.length co53, .slice Ao54 t274.length co54] 36 (0, 0)) (bS BK248.out) hb)
                have NB256_297 := Aside0.mk ((by rw [hg]; exact Nat.ne_of_lt (blk_lt (g := gb256) (o := .cells #[.int .i64 t249, .slice Ao62 t250.length co62, .slice Ao63 t253.length co63] 36 (0, 0)) (bS BK256.out)) : gb256 ≠ gb297))
                have NB297_256 := Aside0.mk ((by rw [hg]; exact Nat.ne_of_gt (blk_lt (g := gb256) (o := .cells #[.int .i64 t249, .slice Ao62 t250.length co62, .slice Ao63 t253.length co63] 36 (0, 0)) (bS BK256.out)) : gb297 ≠ gb256))
                replace BK256 := Aside0.mk (blk_below (g := gb256) (o := .cells #[.int .i64 t249, .slice Ao62 t250.length co62, .slice Ao63 t253.length co63] 36 (0, 0)) (bS BK256.out) hb)
                clear hb hbox hg
                refine hK.out _ _ ⟨(blk_cell BK217.out 0).trans rfl, (blk_cell BK217.out 1).trans rfl, (blk_cell BK217.out 2).trans rfl⟩ (fun hHeld => ?_)
                clear hK K
                refine norm_ (a' := ?_) ?_ ?_
                rotate_left
                ·show Act.put _ (some 13) _ = _
                 simp only [Act.put, List.setIfInBounds_toArray, List.set_cons_zero, List.set_cons_succ, i64_w, i32_w]
                 rfl
                refine one_ (i := 1) (N := some 76) #[true,true,true,false,false,true,false] rfl rfl (by kernel_rfl) (by decide) (fun K hK => ?_)
                refine goes_ Try.func46 (by kernel_rfl) rfl #[.slice A0 l0.length c0] (by rfl) rfl rfl bz ?_
                with_reducible refine (laws_toInsS.calls kj26 _ _ l0 t280 _ ?side1 ?side2 A92.out).mono ?_
                (case side1 => repeat (first | exact (Kd.C_below HR0.out HB.out) | (with_reducible refine Kd.C_alloc ?_ _) | (with_reducible refine Kd.C_drewN ?_ _) | (with_reducible refine Kd.C_drew ?_)))
                (case side2 => exact HC0.out)
                rintro e w109 ⟨v281, rfl, ho0, hb⟩
                refine ⟨_, rfl, ?_⟩
                replace HO_238001 := Aside0.mk (Kd.R_below (rS HO_238001.out) hb)
                replace HO_238002 := Aside0.mk (Kd.R_below (rS HO_238002.out) hb)
                replace HO_249001 := Aside0.mk (Kd.R_below (rS HO_249001.out) hb)
                replace HO_249002 := Aside0.mk (Kd.R_below (rS HO_249002.out) hb)
                replace HO_257001 := Aside0.mk (Kd.R_below (rS HO_257001.out) hb)
                replace HO_257002 := Aside0.mk (Kd.R_below (rS HO_257002.out) hb)
                have HO282 := Aside0.mk (Kd.R_lower ho0 (below_size bx))
                replace BK217 := Aside0.mk (blk_below (g := gb217) (o := .cells #[.int .i64 a1_0, .slice A1_1 l1_1.length c1_1, .slice A1_2 l1_2.length c1_2] 31 (0, 0)) (bS BK217.out) hb)
                replace BK237 := Aside0.mk (blk_below (g := gb237) (o := .cells #[.int .i64 t230, .slice Ao41 t231.length co41, .slice Ao43 t234.length co43] 36 (0, 0)) (bS BK237.out) hb)
                replace BK248 := Aside0.mk (blk_below (g := gb248) (o := .cells #[.int .i64 t241, .slice Ao53 t273.length co53, .slice Ao54 t274.length co54] 36 (0, 0)) (bS BK248.out) hb)
                replace BK256 := Aside0.mk (blk_below (g := gb256) (o := .cells #[.int .i64 t249, .slice Ao62 t250.length co62, .slice Ao63 t253.length co63] 36 (0, 0)) (bS BK256.out) hb)
                replace BK297 := Aside0.mk (blk_below (g := gb297) (o := .cells #[.int .i64 0, .slice none 0 0, .slice none 0 0] 36 (0, 0)) (bS BK297.out) hb)
                replace HB := Aside0.mk (below_step bx hb)
                (try clear hb)
                (try clear hb2)
                (try clear hk)
                (try clear hi)
                (try clear ho0)
                refine hK.out _ _ ⟨(blk_cell BK217.out 0).trans rfl, (blk_cell BK217.out 1).trans rfl, (blk_cell BK217.out 2).trans rfl⟩ (fun hHeld => ?_)
                clear hK K
                refine norm_ (a' := ?_) ?_ ?_
                rotate_left
                ·show Act.put _ (some 76) _ = _
                 simp only [Act.put, List.setIfInBounds_toArray, List.set_cons_zero, List.set_cons_succ, i64_w, i32_w]
                 rfl
                refine one_ (i := 3) (N := some 78) #[true,true,true,true,false,true,false] rfl rfl (by kernel_rfl) (by decide) (fun K hK => ?_)
                refine goes_ Try.func22 (by kernel_rfl) rfl #[.agg #[.int .i64 a1_0, .slice A1_1 l1_1.length c1_1, .slice A1_2 l1_2.length c1_2]] (by rfl) rfl rfl bz ?_
                with_reducible refine (laws_toWarp.calls kj26 a1_0 _ _ l1_1 _ _ l1_2 t283 t284 t287 _ ?side1 ?side2 ?side3 ?side4 A93.out).mono ?_
                (case side1 => repeat (first | exact (Kd.C_below HR1_1.out HB.out) | (with_reducible refine Kd.C_alloc ?_ _) | (with_reducible refine Kd.C_drewN ?_ _) | (with_reducible refine Kd.C_drew ?_)))
                (case side2 => exact HC1_1.out)
                (case side3 => repeat (first | exact (Kd.C_below HR1_2.out HB.out) | (with_reducible refine Kd.C_alloc ?_ _) | (with_reducible refine Kd.C_drewN ?_ _) | (with_reducible refine Kd.C_drew ?_)))
                (case side4 => exact HC1_2.out)
                rintro e w110 ⟨v285, v288, rfl, ho0, ho1, hb⟩
                refine ⟨_, rfl, ?_⟩
                replace HO282 := Aside0.mk (Kd.R_below (rS HO282.out) hb)
                have HO286 := Aside0.mk (Kd.R_lower (Kd.R_new' (Kd.R_new' (Kd.R_new' ho0 (Kd.R_lt (rS HO_238001.out))) (Kd.R_lt (rS HO_249001.out))) (Kd.R_lt (rS HO_257001.out))) (below_size bx))
                replace HO_238001 := Aside0.mk (Kd.R_elder' (rS HO_238001.out) (Kd.R_base ho0) hb)
                replace HO_249001 := Aside0.mk (Kd.R_elder' (rS HO_249001.out) (Kd.R_base ho0) hb)
                replace HO_257001 := Aside0.mk (Kd.R_elder' (rS HO_257001.out) (Kd.R_base ho0) hb)
                have HO289 := Aside0.mk (Kd.R_lower (Kd.R_new' (Kd.R_new' (Kd.R_new' ho1 (Kd.R_lt (rS HO_238002.out))) (Kd.R_lt (rS HO_249002.out))) (Kd.R_lt (rS HO_257002.out))) (below_size bx))
                replace HO_238002 := Aside0.mk (Kd.R_elder' (rS HO_238002.out) (Kd.R_base ho1) hb)
                replace HO_249002 := Aside0.mk (Kd.R_elder' (rS HO_249002.out) (Kd.R_base ho1) hb)
                replace HO_257002 := Aside0.mk (Kd.R_elder' (rS HO_257002.out) (Kd.R_base ho1) hb)
                replace BK217 := Aside0.mk (blk_below (g := gb217) (o := .cells #[.int .i64 a1_0, .slice A1_1 l1_1.length c1_1, .slice A1_2 l1_2.length c1_2] 31 (0, 0)) (bS BK217.out) hb)
                replace BK237 := Aside0.mk (blk_below (g := gb237) (o := .cells #[.int .i64 t230, .slice Ao41 t231.length co41, .slice Ao43 t234.length co43] 36 (0, 0)) (bS BK237.out) hb)
                replace BK248 := Aside0.mk (blk_below (g := gb248) (o := .cells #[.int .i64 t241, .slice Ao53 t273.length co53, .slice Ao54 t274.length co54] 36 (0, 0)) (bS BK248.out) hb)
                replace BK256 := Aside0.mk (blk_below (g := gb256) (o := .cells #[.int .i64 t249, .slice Ao62 t250.length co62, .slice Ao63 t253.length co63] 36 (0, 0)) (bS BK256.out) hb)
                replace BK297 := Aside0.mk (blk_below (g := gb297) (o := .cells #[.int .i64 0, .slice none 0 0, .slice none 0 0] 36 (0, 0)) (bS BK297.out) hb)
                replace HB := Aside0.mk (below_step bx hb)
                (try clear hb)
                (try clear hb2)
                (try clear hk)
                (try clear hi)
                (try clear ho0)
                (try clear ho1)
                obtain ⟨Ao111, co111, eo111⟩ := Kd.R_slice HO282.out
                (first | subst eo111 | (injection eo111 with f1_ f2_ f3_; have f4_ := f1_.symm; have f5_ := f3_.symm; clear f1_ f2_ f3_; subst f4_; subst f5_))
                obtain ⟨Ao112, co112, eo112⟩ := Kd.R_slice HO286.out
                (first | subst eo112 | (injection eo112 with f1_ f2_ f3_; have f4_ := f1_.symm; have f5_ := f3_.symm; clear f1_ f2_ f3_; subst f4_; subst f5_))
                obtain ⟨Ao113, co113, eo113⟩ := Kd.R_slice HO289.out
                (first | subst eo113 | (injection eo113 with f1_ f2_ f3_; have f4_ := f1_.symm; have f5_ := f3_.symm; clear f1_ f2_ f3_; subst f4_; subst f5_))
                refine hK.out _ _ ⟨(blk_cell BK217.out 0).trans rfl, (blk_cell BK217.out 1).trans rfl, (blk_cell BK217.out 2).trans rfl⟩ (fun hHeld => ?_)
                clear hK K
                refine norm_ (a' := ?_) ?_ ?_
                rotate_left
                ·show Act.put _ (some 78) _ = _
                 simp only [Act.put, List.setIfInBounds_toArray, List.set_cons_zero, List.set_cons_succ, i64_w, i32_w]
                 rfl
                refine one_ (i := 4) (N := some 79) #[true,true,true,true,true,true,false] rfl rfl (by kernel_rfl) (by decide) (fun K hK => ?_)
                refine goes_ Try.func68 (by kernel_rfl) rfl #[.slice Ao111 t280.length co111, .agg #[.int .i64 t283, .slice Ao112 t284.length co112, .slice Ao113 t287.length co113]] (by rfl) rfl rfl bz ?_
                with_reducible refine (impl_DropFrames.calls _ _ t280 t283 _ _ t284 _ _ t287 t290 t291 t294 _ ?side1 ?side2 ?side3 ?side4 ?side5 ?side6 A94.out).mono ?_
                (case side1 => exact cS (Kd.R_reads' HO282.out).2.2)
                (case side2 => exact (Kd.R_reads' HO282.out).2.1)
                (case side3 => exact cS (Kd.R_reads' HO286.out).2.2)
                (case side4 => exact (Kd.R_reads' HO286.out).2.1)
                (case side5 => exact cS (Kd.R_reads' HO289.out).2.2)
                (case side6 => exact (Kd.R_reads' HO289.out).2.1)
                rintro e w114 ⟨v292, v295, rfl, ho0, ho1, hb⟩
                refine ⟨_, rfl, ?_⟩
                replace HO282 := Aside0.mk (Kd.R_below (rS HO282.out) hb)
                have HO293 := Aside0.mk (Kd.R_lower (Kd.R_new' (Kd.R_new' (Kd.R_new' (Kd.R_new' ho0 (Kd.R_lt (rS HO_238001.out))) (Kd.R_lt (rS HO_249001.out))) (Kd.R_lt (rS HO_257001.out))) (Kd.R_lt (rS HO286.out))) (below_size bx))
                replace HO_238001 := Aside0.mk (Kd.R_elder' (rS HO_238001.out) (Kd.R_base ho0) hb)
                replace HO_249001 := Aside0.mk (Kd.R_elder' (rS HO_249001.out) (Kd.R_base ho0) hb)
                replace HO_257001 := Aside0.mk (Kd.R_elder' (rS HO_257001.out) (Kd.R_base ho0) hb)
                replace HO286 := Aside0.mk (Kd.R_elder' (rS HO286.out) (Kd.R_base ho0) hb)
                have HO296 := Aside0.mk (Kd.R_lower (Kd.R_new' (Kd.R_new' (Kd.R_new' (Kd.R_new' ho1 (Kd.R_lt (rS HO_238002.out))) (Kd.R_lt (rS HO_249002.out))) (Kd.R_lt (rS HO_257002.out))) (Kd.R_lt (rS HO289.out))) (below_size bx))
                replace HO_238002 := Aside0.mk (Kd.R_elder' (rS HO_238002.out) (Kd.R_base ho1) hb)
                replace HO_249002 := Aside0.mk (Kd.R_elder' (rS HO_249002.out) (Kd.R_base ho1) hb)
                replace HO_257002 := Aside0.mk (Kd.R_elder' (rS HO_257002.out) (Kd.R_base ho1) hb)
                replace HO289 := Aside0.mk (Kd.R_elder' (rS HO289.out) (Kd.R_base ho1) hb)
                replace BK217 := Aside0.mk (blk_below (g := gb217) (o := .cells #[.int .i64 a1_0, .slice A1_1 l1_1.length c1_1, .slice A1_2 l1_2.length c1_2] 31 (0, 0)) (bS BK217.out) hb)
                replace BK237 := Aside0.mk (blk_below (g := gb237) (o := .cells #[.int .i64 t230, .slice Ao41 t231.length co41, .slice Ao43 t234.length co43] 36 (0, 0)) (bS BK237.out) hb)
                replace BK248 := Aside0.mk (blk_below (g := gb248) (o := .cells #[.int .i64 t241, .slice Ao53 t273.length co53, .slice Ao54 t274.length co54] 36 (0, 0)) (bS BK248.out) hb)
                replace BK256 := Aside0.mk (blk_below (g := gb256) (o := .cells #[.int .i64 t249, .slice Ao62 t250.length co62, .slice Ao63 t253.length co63] 36 (0, 0)) (bS BK256.out) hb)
                replace BK297 := Aside0.mk (blk_below (g := gb297) (o := .cells #[.int .i64 0, .slice none 0 0, .slice none 0 0] 36 (0, 0)) (bS BK297.out) hb)
                replace HB := Aside0.mk (below_step bx hb)
                (try clear hb)
                (try clear hb2)
                (try clear hk)
                (try clear hi)
                (try clear ho0)
                (try clear ho1)
                refine hK.out _ _ ⟨(blk_cell BK217.out 0).trans rfl, (blk_cell BK217.out 1).trans rfl, (blk_cell BK217.out 2).trans rfl⟩ (fun hHeld => ?_)
                clear hK K
                refine norm_ (a' := ?_) ?_ ?_
                rotate_left
                ·show Act.put _ (some 79) _ = _
                 simp only [Act.put, List.setIfInBounds_toArray, List.set_cons_zero, List.set_cons_succ, i64_w, i32_w]
                 rfl
                exact norm_ (by simp only [putAll, Act.put, List.setIfInBounds_toArray, List.set_cons_zero, List.set_cons_succ]) (hCont (.slice Ao111 t280.length co111, .slice Ao112 t284.length co112, .slice Ao113 t287.length co113, v292, v295, gb297) _ ⟨hHeld, (rS HO282.out), (by (with_reducible repeat (first | apply Kd.R_alloc | apply Kd.R_drewN | apply Kd.R_drew)); exact Kd.R_mono HO286.out (fun _ hk => by grind)), (by (with_reducible repeat (first | apply Kd.R_alloc | apply Kd.R_drewN | apply Kd.R_drew)); exact Kd.R_mono HO289.out (fun _ hk => by grind)), (by (with_reducible repeat (first | apply Kd.R_alloc | apply Kd.R_drewN | apply Kd.R_drew)); exact Kd.R_mono HO293.out (fun _ hk => by grind)), (by (with_reducible repeat (first | apply Kd.R_alloc | apply Kd.R_drewN | apply Kd.R_drew)); exact Kd.R_mono HO296.out (fun _ hk => by grind)), (by (with_reducible repeat (first | apply Kd.R_alloc | apply Kd.R_drewN | apply Kd.R_drew)); exact Kd.R_mono HO_238001.out (fun _ hk => by grind)), (by (with_reducible repeat (first | apply Kd.R_alloc | apply Kd.R_drewN | apply Kd.R_drew)); exact Kd.R_mono HO_238002.out (fun _ hk => by grind)), (by (with_reducible repeat (first | apply Kd.R_alloc | apply Kd.R_drewN | apply Kd.R_drew)); exact Kd.R_mono HO_249001.out (fun _ hk => by grind)), (by (with_reducible repeat (first | apply Kd.R_alloc | apply Kd.R_drewN | apply Kd.R_drew)); exact Kd.R_mono HO_249002.out (fun _ hk => by grind)), (by (with_reducible repeat (first | apply Kd.R_alloc | apply Kd.R_drewN | apply Kd.R_drew)); exact Kd.R_mono HO_257001.out (fun _ hk => by grind)), (by (with_reducible repeat (first | apply Kd.R_alloc | apply Kd.R_drewN | apply Kd.R_drew)); exact Kd.R_mono HO_257002.out (fun _ hk => by grind)), (bS BK217.out), (bS BK237.out), (bS BK248.out), (bS BK256.out), (bS BK297.out), GW297.out, GE297.out, NB217_297.out, NB297_217.out, NB237_297.out, NB297_237.out, NB248_297.out, NB297_248.out, NB256_297.out, NB297_256.out, bx⟩)
              rintro ⟨v281, v285, v288, v292, v295, gb297⟩ w115 ⟨hS_, h0_, h1_, h2_, h3_, h4_, h5_, h6_, h7_, h8_, h9_, h10_, h11_, h12_, h13_, h14_, h15_, h16_, h17_, h18_, h19_, h20_, h21_, h22_, h23_, h24_, h25_, h26_⟩
              have n0_ : Aside0 (Kd.R k94 94 w115 w.heap.size (fun _ => True) v281 t280) := ⟨h0_⟩
              have n1_ : Aside0 (Kd.R k77 77 w115 w.heap.size (fun k_ => some k_ ≠ (v292 : Value).ownBlock ∧ some k_ ≠ (.slice Ao41 t231.length co41 : Value).ownBlock ∧ some k_ ≠ (.slice Ao53 t273.length co53 : Value).ownBlock ∧ some k_ ≠ (.slice Ao62 t250.length co62 : Value).ownBlock) v285 t284) := ⟨h1_⟩
              have n2_ : Aside0 (Kd.R (Kd.int .i64) 3 w115 w.heap.size (fun k_ => some k_ ≠ (v295 : Value).ownBlock ∧ some k_ ≠ (.slice Ao43 t234.length co43 : Value).ownBlock ∧ some k_ ≠ (.slice Ao54 t274.length co54 : Value).ownBlock ∧ some k_ ≠ (.slice Ao63 t253.length co63 : Value).ownBlock) v288 t287) := ⟨h2_⟩
              have n3_ : Aside0 (Kd.R k77 77 w115 w.heap.size (fun k_ => some k_ ≠ (v285 : Value).ownBlock ∧ some k_ ≠ (.slice Ao41 t231.length co41 : Value).ownBlock ∧ some k_ ≠ (.slice Ao53 t273.length co53 : Value).ownBlock ∧ some k_ ≠ (.slice Ao62 t250.length co62 : Value).ownBlock) v292 t291) := ⟨h3_⟩
              have n4_ : Aside0 (Kd.R (Kd.int .i64) 3 w115 w.heap.size (fun k_ => some k_ ≠ (v288 : Value).ownBlock ∧ some k_ ≠ (.slice Ao43 t234.length co43 : Value).ownBlock ∧ some k_ ≠ (.slice Ao54 t274.length co54 : Value).ownBlock ∧ some k_ ≠ (.slice Ao63 t253.length co63 : Value).ownBlock) v295 t294) := ⟨h4_⟩
              have n5_ : Aside0 (Kd.R k77 77 w115 w.heap.size (fun k_ => some k_ ≠ (v285 : Value).ownBlock ∧ some k_ ≠ (v292 : Value).ownBlock ∧ some k_ ≠ (.slice Ao53 t273.length co53 : Value).ownBlock ∧ some k_ ≠ (.slice Ao62 t250.length co62 : Value).ownBlock) (.slice Ao41 t231.length co41) t231) := ⟨h5_⟩
              have n6_ : Aside0 (Kd.R (Kd.int .i64) 3 w115 w.heap.size (fun k_ => some k_ ≠ (v288 : Value).ownBlock ∧ some k_ ≠ (v295 : Value).ownBlock ∧ some k_ ≠ (.slice Ao54 t274.length co54 : Value).ownBlock ∧ some k_ ≠ (.slice Ao63 t253.length co63 : Value).ownBlock) (.slice Ao43 t234.length co43) t234) := ⟨h6_⟩
              have n7_ : Aside0 (Kd.R k77 77 w115 w.heap.size (fun k_ => some k_ ≠ (v285 : Value).ownBlock ∧ some k_ ≠ (v292 : Value).ownBlock ∧ some k_ ≠ (.slice Ao41 t231.length co41 : Value).ownBlock ∧ some k_ ≠ (.slice Ao62 t250.length co62 : Value).ownBlock) (.slice Ao53 t273.length co53) t273) := ⟨h7_⟩
              have n8_ : Aside0 (Kd.R (Kd.int .i64) 3 w115 w.heap.size (fun k_ => some k_ ≠ (v288 : Value).ownBlock ∧ some k_ ≠ (v295 : Value).ownBlock ∧ some k_ ≠ (.slice Ao43 t234.length co43 : Value).ownBlock ∧ some k_ ≠ (.slice Ao63 t253.length co63 : Value).ownBlock) (.slice Ao54 t274.length co54) t274) := ⟨h8_⟩
              have n9_ : Aside0 (Kd.R k77 77 w115 w.heap.size (fun k_ => some k_ ≠ (v285 : Value).ownBlock ∧ some k_ ≠ (v292 : Value).ownBlock ∧ some k_ ≠ (.slice Ao41 t231.length co41 : Value).ownBlock ∧ some k_ ≠ (.slice Ao53 t273.length co53 : Value).ownBlock) (.slice Ao62 t250.length co62) t277) := ⟨h9_⟩
              have n10_ : Aside0 (Kd.R (Kd.int .i64) 3 w115 w.heap.size (fun k_ => some k_ ≠ (v288 : Value).ownBlock ∧ some k_ ≠ (v295 : Value).ownBlock ∧ some k_ ≠ (.slice Ao43 t234.length co43 : Value).ownBlock ∧ some k_ ≠ (.slice Ao54 t274.length co54 : Value).ownBlock) (.slice Ao63 t253.length co63) t278) := ⟨h10_⟩
              have n11_ : Aside0 (w115.heap[gb217]? = some (.cells #[.int .i64 a1_0, .slice A1_1 l1_1.length c1_1, .slice A1_2 l1_2.length c1_2] 31 (0, 0))) := ⟨h11_⟩
              have n12_ : Aside0 (w115.heap[gb237]? = some (.cells #[.int .i64 t230, .slice Ao41 t231.length co41, .slice Ao43 t234.length co43] 36 (0, 0))) := ⟨h12_⟩
              have n13_ : Aside0 (w115.heap[gb248]? = some (.cells #[.int .i64 t241, .slice Ao53 t273.length co53, .slice Ao54 t274.length co54] 36 (0, 0))) := ⟨h13_⟩
              have n14_ : Aside0 (w115.heap[gb256]? = some (.cells #[.int .i64 t249, .slice Ao62 t250.length co62, .slice Ao63 t253.length co63] 36 (0, 0))) := ⟨h14_⟩
              have n15_ : Aside0 (w115.heap[gb297]? = some (.cells #[.int .i64 0, .slice none 0 0, .slice none 0 0] 36 (0, 0))) := ⟨h15_⟩
              have n16_ : Aside0 (w.heap.size ≤ gb297) := ⟨h16_⟩
              have n17_ : Aside0 (w.heap.size ≤ gb297) := ⟨h17_⟩
              have n18_ : Aside0 (gb217 ≠ gb297) := ⟨h18_⟩
              have n19_ : Aside0 (gb297 ≠ gb217) := ⟨h19_⟩
              have n20_ : Aside0 (gb237 ≠ gb297) := ⟨h20_⟩
              have n21_ : Aside0 (gb297 ≠ gb237) := ⟨h21_⟩
              have n22_ : Aside0 (gb248 ≠ gb297) := ⟨h22_⟩
              have n23_ : Aside0 (gb297 ≠ gb248) := ⟨h23_⟩
              have n24_ : Aside0 (gb256 ≠ gb297) := ⟨h24_⟩
              have n25_ : Aside0 (gb297 ≠ gb256) := ⟨h25_⟩
              have n26_ : Aside0 (Below w.heap.size w w115) := ⟨h26_⟩
              clear HO_238001 HO_238002 HO_249001 HO_249002 HO_257001 HO_257002 BK217 BK237 BK248 BK256 HB h0_ h1_ h2_ h3_ h4_ h5_ h6_ h7_ h8_ h9_ h10_ h11_ h12_ h13_ h14_ h15_ h16_ h17_ h18_ h19_ h20_ h21_ h22_ h23_ h24_ h25_ h26_
              have HO282 := n0_
              have HO286 := n1_
              have HO289 := n2_
              have HO293 := n3_
              have HO296 := n4_
              have HO_238001 := n5_
              have HO_238002 := n6_
              have HO_249001 := n7_
              have HO_249002 := n8_
              have HO_257001 := n9_
              have HO_257002 := n10_
              have BK217 := n11_
              have BK237 := n12_
              have BK248 := n13_
              have BK256 := n14_
              have BK297 := n15_
              have GW297 := n16_
              have GE297 := n17_
              have NB217_297 := n18_
              have NB297_217 := n19_
              have NB237_297 := n20_
              have NB297_237 := n21_
              have NB248_297 := n22_
              have NB297_248 := n23_
              have NB256_297 := n24_
              have NB297_256 := n25_
              have HB := n26_
              clear n0_ n1_ n2_ n3_ n4_ n5_ n6_ n7_ n8_ n9_ n10_ n11_ n12_ n13_ n14_ n15_ n16_ n17_ n18_ n19_ n20_ n21_ n22_ n23_ n24_ n25_ n26_
              have hHeld : w115.cell? ⟨gb217, 0, none⟩ = some (.int .i64 a1_0) ∧ w115.cell? ⟨gb217, 1, none⟩ = some (.slice A1_1 l1_1.length c1_1) ∧ w115.cell? ⟨gb217, 2, none⟩ = some (.slice A1_2 l1_2.length c1_2) := hS_
              obtain ⟨Ao117, co117, eo117⟩ := Kd.R_slice HO293.out
              (first | subst eo117 | (injection eo117 with f1_ f2_ f3_; have f4_ := f1_.symm; have f5_ := f3_.symm; clear f1_ f2_ f3_; subst f4_; subst f5_))
              obtain ⟨Ao119, co119, eo119⟩ := Kd.R_slice HO296.out
              (first | subst eo119 | (injection eo119 with f1_ f2_ f3_; have f4_ := f1_.symm; have f5_ := f3_.symm; clear f1_ f2_ f3_; subst f4_; subst f5_))
              refine norm_ (a' := ?_) ?_ ?_
              rotate_left
              ·simp only [putAll, Act.put, List.setIfInBounds_toArray, List.set_cons_zero, List.set_cons_succ]
               rfl
              refine one_ (i := 6) (N := none) #[true,true,true,true,true,true,true] rfl rfl (by kernel_rfl) (by decide) (fun K hK => ?_)
              have hs116 : w115.cell? ⟨gb297, 0, none⟩ = some (.int .i64 0) := (blk_cell BK297.out 0).trans rfl
              have hfs116 := blk_frozen BK297.out 0
              have hns116_0 := NB217_297.out
              have hns116_1 := NB237_297.out
              have hns116_2 := NB248_297.out
              have hns116_3 := NB256_297.out
              have hms116_0 := NB297_217.out
              have hms116_1 := NB297_237.out
              have hms116_2 := NB297_248.out
              have hms116_3 := NB297_256.out
              have hs118 : w115.cell? ⟨gb297, 1, none⟩ = some (.slice none 0 0) := (blk_cell BK297.out 1).trans rfl
              have hfs118 := blk_frozen BK297.out 1
              have hns118_0 := NB217_297.out
              have hns118_1 := NB237_297.out
              have hns118_2 := NB248_297.out
              have hns118_3 := NB256_297.out
              have hms118_0 := NB297_217.out
              have hms118_1 := NB297_237.out
              have hms118_2 := NB297_248.out
              have hms118_3 := NB297_256.out
              have hs120 : w115.cell? ⟨gb297, 2, none⟩ = some (.slice none 0 0) := (blk_cell BK297.out 2).trans rfl
              have hfs120 := blk_frozen BK297.out 2
              have hns120_0 := NB217_297.out
              have hns120_1 := NB237_297.out
              have hns120_2 := NB248_297.out
              have hns120_3 := NB256_297.out
              have hms120_0 := NB297_217.out
              have hms120_1 := NB297_237.out
              have hms120_2 := NB297_248.out
              have hms120_3 := NB297_256.out
              refine skip_ (w1 := ?_) (by rfl) rfl ?_ ?_
              rotate_left
              ·go_simp
               rfl
              refine hK.out _ _ ⟨((cell_far (p := ⟨gb297, _, none⟩) NB217_297.out _).trans (((cell_far (p := ⟨gb297, _, none⟩) NB217_297.out _).trans (((cell_far (p := ⟨gb297, _, none⟩) NB217_297.out _).trans (hHeld.1)))))), ((cell_far (p := ⟨gb297, _, none⟩) NB217_297.out _).trans (((cell_far (p := ⟨gb297, _, none⟩) NB217_297.out _).trans (((cell_far (p := ⟨gb297, _, none⟩) NB217_297.out _).trans (hHeld.2.1)))))), ((cell_far (p := ⟨gb297, _, none⟩) NB217_297.out _).trans (((cell_far (p := ⟨gb297, _, none⟩) NB217_297.out _).trans (((cell_far (p := ⟨gb297, _, none⟩) NB217_297.out _).trans (hHeld.2.2))))))⟩ (fun hHeld => ?_)
              clear hK K
              refine done_ (by kernel_rfl) ?_
              have hnb121 := NB297_217.out
              have hnc121 := NB217_297.out
              have hnb122 := NB297_237.out
              have hnc122 := NB237_297.out
              have hnb123 := NB297_248.out
              have hnc123 := NB248_297.out
              have hnb124 := NB297_256.out
              have hnc124 := NB256_297.out
              have hcz125_0 : w115.cell? ⟨gb297, 0, none⟩ = some (.int .i64 0) := (blk_cell BK297.out 0).trans rfl
              have hcz125_1 : w115.cell? ⟨gb297, 1, none⟩ = some (.slice none 0 0) := (blk_cell BK297.out 1).trans rfl
              have hcz125_2 : w115.cell? ⟨gb297, 2, none⟩ = some (.slice none 0 0) := (blk_cell BK297.out 2).trans rfl
              have hfz125_0 := blk_frozen BK297.out 0
              have hfz125_1 := blk_frozen BK297.out 1
              have hfz125_2 := blk_frozen BK297.out 2
              have hnb126 := NB237_217.out
              have hnc126 := NB217_237.out
              have hnb127 := NB237_248.out
              have hnc127 := NB248_237.out
              have hcz128_0 : w115.cell? ⟨gb237, 0, none⟩ = some (.int .i64 t230) := (blk_cell BK237.out 0).trans rfl
              have hcz128_1 : w115.cell? ⟨gb237, 1, none⟩ = some (.slice Ao41 t231.length co41) := (blk_cell BK237.out 1).trans rfl
              have hcz128_2 : w115.cell? ⟨gb237, 2, none⟩ = some (.slice Ao43 t234.length co43) := (blk_cell BK237.out 2).trans rfl
              have hfz128_0 := blk_frozen BK237.out 0
              have hfz128_1 := blk_frozen BK237.out 1
              have hfz128_2 := blk_frozen BK237.out 2
              try go_wp2_with (first | ((with_reducible refine gate_callee (f := 24) rfl ?_); refine gL (some 82) Try.func24 #[.agg #[.int .i64 t290, .slice Ao117 t291.length co117, .slice Ao119 t294.length co119], .agg #[.int .i64 t230, .slice Ao41 t231.length co41, .slice Ao43 t234.length co43]] ?_; (with_reducible refine (laws_eqWarp.calls kj26 t290 _ _ t291 _ _ t294 t230 _ _ t231 _ _ t234 true _ ?side1 ?side2 ?side3 ?side4 ?side5 ?side6 ?side7 ?side8 A95.out).mono ?_); (case side1 => refine (Kd.R_reads' (e := 77) (base := w.heap.size) (ok := fun k_ => (some k_ ≠ (v285 : Value).ownBlock ∧ (some k_ ≠ (.slice Ao41 t231.length co41 : Value).ownBlock ∧ (some k_ ≠ (.slice Ao53 t273.length co53 : Value).ownBlock ∧ some k_ ≠ (.slice Ao62 t250.length co62 : Value).ownBlock)))) (n := t291.length) (c := co117) ?_).2.2; exact (by (with_reducible repeat (first | apply Kd.R_alloc | apply Kd.R_drewN | apply Kd.R_drew)); exact (Kd.R_mono (Kd.R_far (p := ⟨gb297, 2, none⟩) (Kd.R_far (p := ⟨gb297, 1, none⟩) (Kd.R_far (p := ⟨gb297, 0, none⟩) (Kd.R_types HO293.out BK297.out (by decide)) (fun _ hk => hk.2) (.int .i64 t290)) (fun _ hk => hk.2) (.slice Ao117 t291.length co117)) (fun _ hk => hk.2) (.slice Ao119 t294.length co119)) (fun _ h_ => h_.1)))); (case side2 => exact (Kd.R_reads' HO293.out).2.1); (case side3 => refine (Kd.R_reads' (e := 3) (base := w.heap.size) (ok := fun k_ => (some k_ ≠ (v288 : Value).ownBlock ∧ (some k_ ≠ (.slice Ao43 t234.length co43 : Value).ownBlock ∧ (some k_ ≠ (.slice Ao54 t274.length co54 : Value).ownBlock ∧ some k_ ≠ (.slice Ao63 t253.length co63 : Value).ownBlock)))) (n := t294.length) (c := co119) ?_).2.2; exact (by (with_reducible repeat (first | apply Kd.R_alloc | apply Kd.R_drewN | apply Kd.R_drew)); exact (Kd.R_mono (Kd.R_far (p := ⟨gb297, 2, none⟩) (Kd.R_far (p := ⟨gb297, 1, none⟩) (Kd.R_far (p := ⟨gb297, 0, none⟩) (Kd.R_types HO296.out BK297.out (by decide)) (fun _ hk => hk.2) (.int .i64 t290)) (fun _ hk => hk.2) (.slice Ao117 t291.length co117)) (fun _ hk => hk.2) (.slice Ao119 t294.length co119)) (fun _ h_ => h_.1)))); (case side4 => exact (Kd.R_reads' HO296.out).2.1); (case side5 => refine (Kd.R_reads' (e := 77) (base := w.heap.size) (ok := fun k_ => (some k_ ≠ (v285 : Value).ownBlock ∧ (some k_ ≠ (.slice Ao117 t291.length co117 : Value).ownBlock ∧ (some k_ ≠ (.slice Ao53 t273.length co53 : Value).ownBlock ∧ some k_ ≠ (.slice Ao62 t250.length co62 : Value).ownBlock)))) (n := t231.length) (c := co41) ?_).2.2; exact (by (with_reducible repeat (first | apply Kd.R_alloc | apply Kd.R_drewN | apply Kd.R_drew)); exact (Kd.R_mono (Kd.R_far (p := ⟨gb297, 2, none⟩) (Kd.R_far (p := ⟨gb297, 1, none⟩) (Kd.R_far (p := ⟨gb297, 0, none⟩) (Kd.R_types HO_238001.out BK297.out (by decide)) (fun _ hk => hk.2) (.int .i64 t290)) (fun _ hk => hk.2) (.slice Ao117 t291.length co117)) (fun _ hk => hk.2) (.slice Ao119 t294.length co119)) (fun _ h_ => h_.1)))); (case side6 => exact (Kd.R_reads' HO_238001.out).2.1); (case side7 => refine (Kd.R_reads' (e := 3) (base := w.heap.size) (ok := fun k_ => (some k_ ≠ (v288 : Value).ownBlock ∧ (some k_ ≠ (.slice Ao119 t294.length co119 : Value).ownBlock ∧ (some k_ ≠ (.slice Ao54 t274.length co54 : Value).ownBlock ∧ some k_ ≠ (.slice Ao63 t253.length co63 : Value).ownBlock)))) (n := t234.length) (c := co43) ?_).2.2; exact (by (with_reducible repeat (first | apply Kd.R_alloc | apply Kd.R_drewN | apply Kd.R_drew)); exact (Kd.R_mono (Kd.R_far (p := ⟨gb297, 2, none⟩) (Kd.R_far (p := ⟨gb297, 1, none⟩) (Kd.R_far (p := ⟨gb297, 0, none⟩) (Kd.R_types HO_238002.out BK297.out (by decide)) (fun _ hk => hk.2) (.int .i64 t290)) (fun _ hk => hk.2) (.slice Ao117 t291.length co117)) (fun _ hk => hk.2) (.slice Ao119 t294.length co119)) (fun _ h_ => h_.1)))); (case side8 => exact (Kd.R_reads' HO_238002.out).2.1); rintro e w129 ⟨rfl, hb⟩; refine ⟨_, rfl, ?_⟩; replace HO_238001 := Aside0.mk (Kd.R_below (by (with_reducible repeat (first | apply Kd.R_alloc | apply Kd.R_drewN | apply Kd.R_drew)); exact (Kd.R_mono (Kd.R_far (p := ⟨gb297, 2, none⟩) (Kd.R_far (p := ⟨gb297, 1, none⟩) (Kd.R_far (p := ⟨gb297, 0, none⟩) (Kd.R_types HO_238001.out BK297.out (by decide)) (fun _ hk => hk.2) (.int .i64 t290)) (fun _ hk => hk.2) (.slice Ao117 t291.length co117)) (fun _ hk => hk.2) (.slice Ao119 t294.length co119)) (fun _ h_ => h_.1))) hb); replace HO_238002 := Aside0.mk (Kd.R_below (by (with_reducible repeat (first | apply Kd.R_alloc | apply Kd.R_drewN | apply Kd.R_drew)); exact (Kd.R_mono (Kd.R_far (p := ⟨gb297, 2, none⟩) (Kd.R_far (p := ⟨gb297, 1, none⟩) (Kd.R_far (p := ⟨gb297, 0, none⟩) (Kd.R_types HO_238002.out BK297.out (by decide)) (fun _ hk => hk.2) (.int .i64 t290)) (fun _ hk => hk.2) (.slice Ao117 t291.length co117)) (fun _ hk => hk.2) (.slice Ao119 t294.length co119)) (fun _ h_ => h_.1))) hb); replace HO_249001 := Aside0.mk (Kd.R_below (by (with_reducible repeat (first | apply Kd.R_alloc | apply Kd.R_drewN | apply Kd.R_drew)); exact (Kd.R_mono (Kd.R_far (p := ⟨gb297, 2, none⟩) (Kd.R_far (p := ⟨gb297, 1, none⟩) (Kd.R_far (p := ⟨gb297, 0, none⟩) (Kd.R_types HO_249001.out BK297.out (by decide)) (fun _ hk => hk.2) (.int .i64 t290)) (fun _ hk => hk.2) (.slice Ao117 t291.length co117)) (fun _ hk => hk.2) (.slice Ao119 t294.length co119)) (fun _ h_ => h_.1))) hb); replace HO_249002 := Aside0.mk (Kd.R_below (by (with_reducible repeat (first | apply Kd.R_alloc | apply Kd.R_drewN | apply Kd.R_drew)); exact (Kd.R_mono (Kd.R_far (p := ⟨gb297, 2, none⟩) (Kd.R_far (p := ⟨gb297, 1, none⟩) (Kd.R_far (p := ⟨gb297, 0, none⟩) (Kd.R_types HO_249002.out BK297.out (by decide)) (fun _ hk => hk.2) (.int .i64 t290)) (fun _ hk => hk.2) (.slice Ao117 t291.length co117)) (fun _ hk => hk.2) (.slice Ao119 t294.length co119)) (fun _ h_ => h_.1))) hb); replace HO_257001 := Aside0.mk (Kd.R_below (by (with_reducible repeat (first | apply Kd.R_alloc | apply Kd.R_drewN | apply Kd.R_drew)); exact (Kd.R_mono (Kd.R_far (p := ⟨gb297, 2, none⟩) (Kd.R_far (p := ⟨gb297, 1, none⟩) (Kd.R_far (p := ⟨gb297, 0, none⟩) (Kd.R_types HO_257001.out BK297.out (by decide)) (fun _ hk => hk.2) (.int .i64 t290)) (fun _ hk => hk.2) (.slice Ao117 t291.length co117)) (fun _ hk => hk.2) (.slice Ao119 t294.length co119)) (fun _ h_ => h_.1))) hb); replace HO_257002 := Aside0.mk (Kd.R_below (by (with_reducible repeat (first | apply Kd.R_alloc | apply Kd.R_drewN | apply Kd.R_drew)); exact (Kd.R_mono (Kd.R_far (p := ⟨gb297, 2, none⟩) (Kd.R_far (p := ⟨gb297, 1, none⟩) (Kd.R_far (p := ⟨gb297, 0, none⟩) (Kd.R_types HO_257002.out BK297.out (by decide)) (fun _ hk => hk.2) (.int .i64 t290)) (fun _ hk => hk.2) (.slice Ao117 t291.length co117)) (fun _ hk => hk.2) (.slice Ao119 t294.length co119)) (fun _ h_ => h_.1))) hb); replace HO282 := Aside0.mk (Kd.R_below (by (with_reducible repeat (first | apply Kd.R_alloc | apply Kd.R_drewN | apply Kd.R_drew)); exact (Kd.R_mono (Kd.R_far (p := ⟨gb297, 2, none⟩) (Kd.R_far (p := ⟨gb297, 1, none⟩) (Kd.R_far (p := ⟨gb297, 0, none⟩) (Kd.R_types HO282.out BK297.out (by decide)) (fun _ hk => hk.2) (.int .i64 t290)) (fun _ hk => hk.2) (.slice Ao117 t291.length co117)) (fun _ hk => hk.2) (.slice Ao119 t294.length co119)) (fun _ h_ => h_.1))) hb); replace HO286 := Aside0.mk (Kd.R_below (by (with_reducible repeat (first | apply Kd.R_alloc | apply Kd.R_drewN | apply Kd.R_drew)); exact (Kd.R_mono (Kd.R_far (p := ⟨gb297, 2, none⟩) (Kd.R_far (p := ⟨gb297, 1, none⟩) (Kd.R_far (p := ⟨gb297, 0, none⟩) (Kd.R_types HO286.out BK297.out (by decide)) (fun _ hk => hk.2) (.int .i64 t290)) (fun _ hk => hk.2) (.slice Ao117 t291.length co117)) (fun _ hk => hk.2) (.slice Ao119 t294.length co119)) (fun _ h_ => h_.1))) hb); replace HO289 := Aside0.mk (Kd.R_below (by (with_reducible repeat (first | apply Kd.R_alloc | apply Kd.R_drewN | apply Kd.R_drew)); exact (Kd.R_mono (Kd.R_far (p := ⟨gb297, 2, none⟩) (Kd.R_far (p := ⟨gb297, 1, none⟩) (Kd.R_far (p := ⟨gb297, 0, none⟩) (Kd.R_types HO289.out BK297.out (by decide)) (fun _ hk => hk.2) (.int .i64 t290)) (fun _ hk => hk.2) (.slice Ao117 t291.length co117)) (fun _ hk => hk.2) (.slice Ao119 t294.length co119)) (fun _ h_ => h_.1))) hb); replace HO293 := Aside0.mk (Kd.R_below (by (with_reducible repeat (first | apply Kd.R_alloc | apply Kd.R_drewN | apply Kd.R_drew)); exact (Kd.R_mono (Kd.R_far (p := ⟨gb297, 2, none⟩) (Kd.R_far (p := ⟨gb297, 1, none⟩) (Kd.R_far (p := ⟨gb297, 0, none⟩) (Kd.R_types HO293.out BK297.out (by decide)) (fun _ hk => hk.2) (.int .i64 t290)) (fun _ hk => hk.2) (.slice Ao117 t291.length co117)) (fun _ hk => hk.2) (.slice Ao119 t294.length co119)) (fun _ h_ => h_.1))) hb); replace HO296 := Aside0.mk (Kd.R_below (by (with_reducible repeat (first | apply Kd.R_alloc | apply Kd.R_drewN | apply Kd.R_drew)); exact (Kd.R_mono (Kd.R_far (p := ⟨gb297, 2, none⟩) (Kd.R_far (p := ⟨gb297, 1, none⟩) (Kd.R_far (p := ⟨gb297, 0, none⟩) (Kd.R_types HO296.out BK297.out (by decide)) (fun _ hk => hk.2) (.int .i64 t290)) (fun _ hk => hk.2) (.slice Ao117 t291.length co117)) (fun _ hk => hk.2) (.slice Ao119 t294.length co119)) (fun _ h_ => h_.1))) hb); replace BK217 := Aside0.mk (blk_below (g := gb217) (o := .cells #[.int .i64 a1_0, .slice A1_1 l1_1.length c1_1, .slice A1_2 l1_2.length c1_2] 31 (0, 0)) (by (with_reducible repeat (first | refine blk_drewN ?_ _ | refine blk_drew ?_ | refine blk_alloc ?_ _)); refine blk_far ?_ NB217_297.out _; (with_reducible repeat (first | refine blk_drewN ?_ _ | refine blk_drew ?_ | refine blk_alloc ?_ _)); refine blk_far ?_ NB217_297.out _; (with_reducible repeat (first | refine blk_drewN ?_ _ | refine blk_drew ?_ | refine blk_alloc ?_ _)); refine blk_far ?_ NB217_297.out _; (with_reducible repeat (first | refine blk_drewN ?_ _ | refine blk_drew ?_ | refine blk_alloc ?_ _)); exact BK217.out) hb); replace BK237 := Aside0.mk (blk_below (g := gb237) (o := .cells #[.int .i64 t230, .slice Ao41 t231.length co41, .slice Ao43 t234.length co43] 36 (0, 0)) (by (with_reducible repeat (first | refine blk_drewN ?_ _ | refine blk_drew ?_ | refine blk_alloc ?_ _)); refine blk_far ?_ NB237_297.out _; (with_reducible repeat (first | refine blk_drewN ?_ _ | refine blk_drew ?_ | refine blk_alloc ?_ _)); refine blk_far ?_ NB237_297.out _; (with_reducible repeat (first | refine blk_drewN ?_ _ | refine blk_drew ?_ | refine blk_alloc ?_ _)); refine blk_far ?_ NB237_297.out _; (with_reducible repeat (first | refine blk_drewN ?_ _ | refine blk_drew ?_ | refine blk_alloc ?_ _)); exact BK237.out) hb); replace BK248 := Aside0.mk (blk_below (g := gb248) (o := .cells #[.int .i64 t241, .slice Ao53 t273.length co53, .slice Ao54 t274.length co54] 36 (0, 0)) (by (with_reducible repeat (first | refine blk_drewN ?_ _ | refine blk_drew ?_ | refine blk_alloc ?_ _)); refine blk_far ?_ NB248_297.out _; (with_reducible repeat (first | refine blk_drewN ?_ _ | refine blk_drew ?_ | refine blk_alloc ?_ _)); refine blk_far ?_ NB248_297.out _; (with_reducible repeat (first | refine blk_drewN ?_ _ | refine blk_drew ?_ | refine blk_alloc ?_ _)); refine blk_far ?_ NB248_297.out _; (with_reducible repeat (first | refine blk_drewN ?_ _ | refine blk_drew ?_ | refine blk_alloc ?_ _)); exact BK248.out) hb); replace BK256 := Aside0.mk (blk_below (g := gb256) (o := .cells #[.int .i64 t249, .slice Ao62 t250.length co62, .slice Ao63 t253.length co63] 36 (0, 0)) (by (with_reducible repeat (first | refine blk_drewN ?_ _ | refine blk_drew ?_ | refine blk_alloc ?_ _)); refine blk_far ?_ NB256_297.out _; (with_reducible repeat (first | refine blk_drewN ?_ _ | refine blk_drew ?_ | refine blk_alloc ?_ _)); refine blk_far ?_ NB256_297.out _; (with_reducible repeat (first | refine blk_drewN ?_ _ | refine blk_drew ?_ | refine blk_alloc ?_ _)); refine blk_far ?_ NB256_297.out _; (with_reducible repeat (first | refine blk_drewN ?_ _ | refine blk_drew ?_ | refine blk_alloc ?_ _)); exact BK256.out) hb); replace BK297 := Aside0.mk (blk_below (g := gb297) (o := .cells #[.int .i64 t290, .slice Ao117 t291.length co117, .slice Ao119 t294.length co119] 36 (0, 0)) (by (with_reducible repeat (first | refine blk_drewN ?_ _ | refine blk_drew ?_ | refine blk_alloc ?_ _)); refine blk_put (cs := #[.int .i64 t290, .slice Ao117 t291.length co117, .slice none 0 0]) ?_ 2 _ rfl; (with_reducible repeat (first | refine blk_drewN ?_ _ | refine blk_drew ?_ | refine blk_alloc ?_ _)); refine blk_put (cs := #[.int .i64 t290, .slice none 0 0, .slice none 0 0]) ?_ 1 _ rfl; (with_reducible repeat (first | refine blk_drewN ?_ _ | refine blk_drew ?_ | refine blk_alloc ?_ _)); refine blk_put (cs := #[.int .i64 0, .slice none 0 0, .slice none 0 0]) ?_ 0 _ rfl; (with_reducible repeat (first | refine blk_drewN ?_ _ | refine blk_drew ?_ | refine blk_alloc ?_ _)); exact BK297.out) hb); replace HB := Aside0.mk (below_step bx hb); (try clear hb); (try clear hk); have hcz130_0 : w129.cell? ⟨gb256, 0, none⟩ = some (.int .i64 t249) := (blk_cell BK256.out 0).trans rfl; have hcz130_1 : w129.cell? ⟨gb256, 1, none⟩ = some (.slice Ao62 t250.length co62) := (blk_cell BK256.out 1).trans rfl; have hcz130_2 : w129.cell? ⟨gb256, 2, none⟩ = some (.slice Ao63 t253.length co63) := (blk_cell BK256.out 2).trans rfl; have hfz130_0 := blk_frozen BK256.out 0; have hfz130_1 := blk_frozen BK256.out 1; have hfz130_2 := blk_frozen BK256.out 2) | ((with_reducible refine gate_callee (f := 69) rfl ?_); refine goesL_ (some 86) rfl rfl Try.func69 (by kernel_rfl) rfl #[.agg #[.int .i64 t249, .slice Ao62 t277.length co62, .slice Ao63 t278.length co63], .int .i64 1] rfl (by (try simp only [List.map_toArray, List.map_cons, List.map_nil]); first | done | (rw [show t277.length = t250.length from (Kd.R_reads' HO_257001.out).1.symm, show t278.length = t253.length from (Kd.R_reads' HO_257002.out).1.symm] <;> rfl) | rfl | (simp only [List.length_drop, List.length_take]; rfl)) ?_; (with_reducible refine (laws_heldWarp.calls kj26 t249 _ _ t277 _ _ t278 1 t299 _ ?side1 ?side2 ?side3 ?side4 A97.out).mono ?_); (case side1 => exact cS (Kd.R_reads' HO_257001.out).2.2); (case side2 => rw [show t277.length = t250.length from (Kd.R_reads' HO_257001.out).1.symm]; exact (Kd.R_reads' HO_257001.out).2.1); (case side3 => exact cS (Kd.R_reads' HO_257002.out).2.2); (case side4 => rw [show t278.length = t253.length from (Kd.R_reads' HO_257002.out).1.symm]; exact (Kd.R_reads' HO_257002.out).2.1); rintro e w131 ⟨rfl, hb⟩; refine ⟨_, rfl, ?_⟩; replace HO_238001 := Aside0.mk (Kd.R_below (rS HO_238001.out) hb); replace HO_238002 := Aside0.mk (Kd.R_below (rS HO_238002.out) hb); replace HO_249001 := Aside0.mk (Kd.R_below (rS HO_249001.out) hb); replace HO_249002 := Aside0.mk (Kd.R_below (rS HO_249002.out) hb); replace HO_257001 := Aside0.mk (Kd.R_below (rS HO_257001.out) hb); replace HO_257002 := Aside0.mk (Kd.R_below (rS HO_257002.out) hb); replace HO282 := Aside0.mk (Kd.R_below (rS HO282.out) hb); replace HO286 := Aside0.mk (Kd.R_below (rS HO286.out) hb); replace HO289 := Aside0.mk (Kd.R_below (rS HO289.out) hb); replace HO293 := Aside0.mk (Kd.R_below (rS HO293.out) hb); replace HO296 := Aside0.mk (Kd.R_below (rS HO296.out) hb); replace BK217 := Aside0.mk (blk_below (g := gb217) (o := .cells #[.int .i64 a1_0, .slice A1_1 l1_1.length c1_1, .slice A1_2 l1_2.length c1_2] 31 (0, 0)) (bS BK217.out) hb); replace BK237 := Aside0.mk (blk_below (g := gb237) (o := .cells #[.int .i64 t230, .slice Ao41 t231.length co41, .slice Ao43 t234.length co43] 36 (0, 0)) (bS BK237.out) hb); replace BK248 := Aside0.mk (blk_below (g := gb248) (o := .cells #[.int .i64 t241, .slice Ao53 t273.length co53, .slice Ao54 t274.length co54] 36 (0, 0)) (bS BK248.out) hb); replace BK256 := Aside0.mk (blk_below (g := gb256) (o := .cells #[.int .i64 t249, .slice Ao62 t250.length co62, .slice Ao63 t253.length co63] 36 (0, 0)) (bS BK256.out) hb); replace BK297 := Aside0.mk (blk_below (g := gb297) (o := .cells #[.int .i64 t290, .slice Ao117 t291.length co117, .slice Ao119 t294.length co119] 36 (0, 0)) (bS BK297.out) hb); replace HB := Aside0.mk (below_step bx hb); (try clear hb)))
              go_ret
              exact ⟨eR, bx⟩
             ·rw [if_neg c99] at H
              exact absurd H (by simp)
           ·replace c96 := Bool.eq_false_iff.mpr c96
            subst c96
            have H1 : (none) = some r := by rw [if_neg (show ¬ (false = true) by decide)] at H; exact H
            clear H
            have H := H1
            clear H1
            exact absurd H (by simp)
          ·rw [if_neg c91] at H
           exact absurd H (by simp)
     ·replace c24 := Bool.eq_false_iff.mpr c24
      subst c24
      have H1 : (none) = some r := by rw [if_neg (show ¬ (false = true) by decide)] at H; exact H
      clear H
      have H := H1
      clear H1
      exact absurd H (by simp)
    ·replace c21 := Bool.eq_false_iff.mpr c21
     subst c21
     have H1 : (none) = some r := by rw [if_neg (show ¬ (false = true) by decide)] at H; exact H
     clear H
     have H := H1
     clear H1
     exact absurd H (by simp)
   ·replace c18 := Bool.eq_false_iff.mpr c18
    subst c18
    have H1 : (none) = some r := by rw [if_neg (show ¬ (false = true) by decide)] at H; exact H
    clear H
    have H := H1
    clear H1
    exact absurd H (by simp)

/-- THE ONE PURE STATEMENT of laws_FnExactDropFrames. -/
def laws_FnExactDropFrames.Pure : Prop := ∀ (l0 : List (S96)) (a1_0 : Int) (l1_1 : List (S105)) (l1_2 : List Int), l0.length ≤ maxLen → (Lit.int .i64 a1_0).wf = true → l1_1.length ≤ maxLen → l1_2.length ≤ maxLen → ∃ k, laws_FnExactDropFrames.f k l0 a1_0 l1_1 l1_2 = some true

end Go.Proofs.Ytcmimgoghmeliaa.PFnExactDropFrames
