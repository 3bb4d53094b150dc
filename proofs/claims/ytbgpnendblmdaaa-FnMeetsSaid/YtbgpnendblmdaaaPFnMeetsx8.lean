-- Written by myprint.py (a program of this session, over the kit's print): not trusted, Lean checks it.
import Derived.Test.YtbgpnendblmdaaaPFnMeetsx0
import Derived.Test.YtbgpnendblmdaaaPFnMeetsx5
import Derived.Test.YtbgpnendblmdaaaPFnMeetsx7
namespace Go.Proofs.Ytbgpnendblmdaaa.PFnMeets
open Go.RowKit Go.Proofs.YtbgpnendblmdaaaW.PrintWords Go.Proofs.YtbgpnendblmdaaaW.PrintLast Go.Proofs.YtbgpnendblmdaaaW.PrintMore
attribute [local go_sem] max2_int min2_int max_two min_two max_three min_three max_four min_four   -- for this text's walks alone
set_option linter.unusedVariables false
set_option linter.unusedSimpArgs false

/-! ### impl_MeetsAt: function 28 -/
def iAft (k : Nat) (l0 : List S53) (b x : Int) : Bool := impl_IsAfter.f k l0 b x == some true
def impl_MeetsAt.f (k : Nat) (l0 : List S53) (a1 : Int) (a2 : Int) : Option (Int) := (impl_AftersOf.f k l0 a1).bind fun L => if (L.all fun x => (impl_IsAfter.f k l0 a2 x).isSome) = true then impl_firstOf.f k l0 (L.filter (iAft k l0 a2)) else none
theorem iAft_up {k : Nat} {l0 : List S53} {x y : Int} (h : (impl_IsAfter.f k l0 x y).isSome = true) : impl_IsAfter.f (k + 1) l0 x y = impl_IsAfter.f k l0 x y := by
  obtain ⟨b, hb⟩ := Option.isSome_iff_exists.1 h
  rw [hb]; exact impl_IsAfter.mono _ _ _ _ _ hb
theorem impl_MeetsAt.mono : ∀ a0 a1 a2 k, LeO (impl_MeetsAt.f k a0 a1 a2) (impl_MeetsAt.f (k + 1) a0 a1 a2) := by
  intro a0 a1 a2 k
  unfold impl_MeetsAt.f
  refine LeO.bind (impl_AftersOf.mono _ _ _) fun L => ?_
  intro v h
  by_cases hs : (L.all fun x => (impl_IsAfter.f k a0 a2 x).isSome) = true
  · rw [if_pos hs] at h
    have hs' := List.all_eq_true.1 hs
    rw [if_pos (List.all_eq_true.2 fun y hy => by rw [iAft_up (hs' y hy)]; exact hs' y hy)]
    have e : (L.filter (iAft (k + 1) a0 a2)) = L.filter (iAft k a0 a2) :=
      List.filter_congr fun x hx => by unfold iAft; rw [iAft_up (hs' x hx)]
    rw [e]
    exact impl_firstOf.mono _ _ _ _ h
  · rw [if_neg hs] at h; exact absurd h (by simp)
set_option maxHeartbeats 1000000 in
theorem impl_MeetsAt.fn (k : Nat) (A0 : Option Addr) (c0 : Nat) (l0 : List S53) (g3 g5 : Nat) (a2 x : Int) (w : World) (hr0 : Kd.C k53 w A0 l0.length l0) (hc0 : l0.length ≤ c0) (h3 : w.heap[g3]? = some (.cells #[.slice A0 l0.length c0] 24 (0, 0))) (h5 : w.heap[g5]? = some (.cells #[.int .i64 a2] 3 (0, 0))) (hs : (impl_IsAfter.f k l0 a2 x).isSome = true) :
    Calls Try.prog 62 #[.int .i64 x, .pointer (some ⟨g3, 0, none⟩), .pointer (some ⟨g5, 0, none⟩)] w fun e w' => e = .returned (.bool (!(iAft k l0 a2 x))) ∧ Below w.heap.size w w' := by
  obtain ⟨b, hb⟩ := Option.isSome_iff_exists.1 hs
  have e1 : iAft k l0 a2 x = b := by unfold iAft; rw [hb]; cases b <;> rfl
  rw [e1]
  have HI := Aside0.mk hb
  have HR := Aside0.mk hr0
  have HC := Aside0.mk hc0
  have hz3 := one_cellF h3
  have hz5 := one_cellF h5
  clear e1 hb hs hr0 hc0 h3 h5
  go_enter Try.func62, Try.ntmps62
  go_wp2_with (go_at_call 25; (with_reducible refine (impl_IsAfter.calls k A0 c0 l0 a2 x b _ HR.out HC.out HI.out).mono ?_); rintro e w' ⟨rfl, hb2⟩; have HB2 := Aside0.mk hb2; clear hb2)
  go_ret
  exact ⟨rfl, HB2.out⟩
set_option maxHeartbeats 4000000 in
set_option maxRecDepth 100000 in
theorem impl_MeetsAt.calls (k : Nat) (A0 : Option Addr) (c0 : Nat) (l0 : List S53) (a1 : Int) (a2 : Int) (r : Int) (w : World) (hr0 : Kd.C k53 w A0 l0.length l0) (hc0 : l0.length ≤ c0) (h : impl_MeetsAt.f k l0 a1 a2 = some r) :
    Calls Try.prog 28 #[.slice A0 l0.length c0, .int .i64 a1, .int .i64 a2] w fun e w' => e = .returned (.int .i64 r) ∧ Below w.heap.size w w' := by
  obtain ⟨L, hL, h⟩ := Option.bind_eq_some_iff.mp h
  by_cases hs : (L.all fun x => (impl_IsAfter.f k l0 a2 x).isSome) = true
  · rw [if_pos hs] at h
    have HL := Aside0.mk hL
    have HS := Aside0.mk (List.all_eq_true.1 hs)
    have HF := Aside0.mk h
    have HR0 := Aside0.mk hr0
    have HC0 := Aside0.mk hc0
    clear hL h hr0 hc0 hs
    have eg := Aside0.mk (enters_of Try.func62 (by kernel_rfl) rfl)
    go_enter Try.func28, Try.ntmps28
    go_wp2_with (first
      | ((with_reducible refine gate_dst (N := 3) rfl ?_); refine box_event ?hg (N := 3) ?hd (cs := #[.slice A0 l0.length c0]) (t := 24) ?hr ?_; (case hd => rfl); (case hg => rfl); (case hr => first | (go_simp; done) | (go_simp; rfl)); intro g3 hgb w1 hbox hb; have HB1 := Aside0.mk hb; have B3 := Aside0.mk hbox; clear hgb hb hbox)
      | ((with_reducible refine gate_dst (N := 5) rfl ?_); refine box_event ?hg (N := 5) ?hd (cs := #[.int .i64 a2]) (t := 3) ?hr ?_; (case hd => rfl); (case hg => rfl); (case hr => first | (go_simp; done) | (go_simp; rfl)); intro g5 hgb w2 hbox hb; have HB := Aside0.mk (below_step HB1.out hb); have B32 := Aside0.mk (blk_below B3.out hb); have B5 := Aside0.mk hbox; have z3 := one_cellF B32.out; clear hgb hb hbox))
    have HBd := Aside0.mk (below_drew1 HB.out)
    have z3d : w2.drew.cell? ⟨g3, 0, none⟩ = some (.slice A0 l0.length c0) := (World.cell?_drew w2 _).trans z3
    have B3d := Aside0.mk (blk_drew B32.out)
    have B5d := Aside0.mk (blk_drew B5.out)
    go_region_held3 (fun w' => w'.cell? ⟨g3, 0, none⟩ = some (.slice A0 l0.length c0)) (first | go_keep | exact z3d | exact zz | exact one_cellF (blk_below B3d.out hb2) | exact one_cellF (blk_below B3d.out HB3.out))
      (first
        | (go_at_call 33; (with_reducible refine (impl_AftersOf.calls k A0 c0 l0 a1 L _ (Kd.C_below HR0.out HBd.out) HC0.out HL.out).mono ?_); rintro e w3 ⟨v2, rfl, ho2, hb2⟩; have HO2 := Aside0.mk ho2; have HB2 := Aside0.mk hb2; have zz := one_cellF (blk_below B3d.out hb2); clear ho2)
        | (go_at_call 61; refine (deleteFunc_int 62 #[.pointer (some ⟨g3, 0, none⟩), .pointer (some ⟨g5, 0, none⟩)] eg.out (fun x => !(iAft k l0 a2 x)) v2 L w2.drew _ HB2.out HO2.out (fun x hx W hW => impl_MeetsAt.fn k A0 c0 l0 g3 g5 a2 x W (Kd.C_below HR0.out (below_step HBd.out hW)) HC0.out (blk_below B3d.out hW) (blk_below B5d.out hW) (HS.out x hx))).mono ?_; rintro e w4 ⟨v3, rfl, ho3, hb3⟩; rw [show (fun x => !(!(iAft k l0 a2 x))) = iAft k l0 a2 from funext fun _ => Bool.not_not _] at ho3; obtain ⟨A3, c3, e3⟩ := Kd.R_slice ho3; subst e3; have HC3 := Aside0.mk (Kd.R_reads' ho3).2; have HB3 := Aside0.mk hb3; have zz := one_cellF (blk_below B3d.out hb3); clear ho3)
        | (go_at_call 60; (with_reducible refine (impl_firstOf.calls k A0 c0 l0 A3 c3 (L.filter (iAft k l0 a2)) r _ (Kd.C_below HR0.out (below_step HBd.out HB3.out)) HC0.out HC3.out.2 HC3.out.1 HF.out).mono ?_); rintro e w5 ⟨rfl, hb4⟩; have HB4 := Aside0.mk (below_step (below_step HBd.out HB3.out) hb4); have zz := one_cellF (blk_below (blk_below B3d.out HB3.out) hb4)))
    all_goals (go_wp2; go_ret; exact ⟨rfl, HB4.out⟩)
  · rw [if_neg hs] at h
    exact absurd h (by simp)

/-! ### impl_FirstAfter: function 29 -/
def impl_FirstAfter.f (k : Nat) (l0 : List S53) (a1 : Int) : Option (Int) := (impl_AftersOf.f k l0 a1).bind fun L => impl_firstOf.f k l0 (L.filter fun x => !(x == a1))
theorem impl_FirstAfter.mono : ∀ a0 a1 k, LeO (impl_FirstAfter.f k a0 a1) (impl_FirstAfter.f (k + 1) a0 a1) := by
  intro a0 a1 k
  unfold impl_FirstAfter.f
  exact LeO.bind (impl_AftersOf.mono _ _ _) fun _ => impl_firstOf.mono _ _ _
set_option maxHeartbeats 1000000 in
theorem impl_FirstAfter.fn (g : Nat) (a1 x : Int) (w : World) (hg : w.heap[g]? = some (.cells #[.int .i64 a1] 3 (0, 0))) :
    Calls Try.prog 63 #[.int .i64 x, .pointer (some ⟨g, 0, none⟩)] w fun e w' => e = .returned (.bool (x == a1)) ∧ Below w.heap.size w w' := by
  have hz := one_cellF hg
  clear hg
  go_enter Try.func63, Try.ntmps63
  go_wp2
  go_ret
  exact ⟨rfl, Below.refl _ _⟩
set_option maxHeartbeats 2000000 in
set_option maxRecDepth 100000 in
theorem impl_FirstAfter.calls (k : Nat) (A0 : Option Addr) (c0 : Nat) (l0 : List S53) (a1 : Int) (r : Int) (w : World) (hr0 : Kd.C k53 w A0 l0.length l0) (hc0 : l0.length ≤ c0) (h : impl_FirstAfter.f k l0 a1 = some r) :
    Calls Try.prog 29 #[.slice A0 l0.length c0, .int .i64 a1] w fun e w' => e = .returned (.int .i64 r) ∧ Below w.heap.size w w' := by
  obtain ⟨L, hL, h⟩ := Option.bind_eq_some_iff.mp h
  have HL := Aside0.mk hL
  have HF := Aside0.mk h
  have HR0 := Aside0.mk hr0
  have HC0 := Aside0.mk hc0
  clear hL h hr0 hc0
  have eg := Aside0.mk (enters_of Try.func63 (by kernel_rfl) rfl)
  go_enter Try.func29, Try.ntmps29
  go_wp2_with (first
    | ((with_reducible refine gate_dst (N := 3) rfl ?_); refine box_event ?hg (N := 3) ?hd (cs := #[.int .i64 a1]) (t := 3) ?hr ?_; (case hd => rfl); (case hg => rfl); (case hr => first | (go_simp; done) | (go_simp; rfl)); intro g3 hgb w1 hbox hb; have HB := Aside0.mk hb; have B3 := Aside0.mk hbox; have z3 := one_cellF hbox; clear hgb hb hbox)
    | (go_at_call 33; (with_reducible refine (impl_AftersOf.calls k A0 c0 l0 a1 L _ (Kd.C_below HR0.out HB.out) HC0.out HL.out).mono ?_); rintro e w2 ⟨v2, rfl, ho2, hb2⟩; have HO2 := Aside0.mk ho2; have HB2 := Aside0.mk hb2; clear ho2 hb2)
    | (go_at_call 61; refine (deleteFunc_int 63 #[.pointer (some ⟨g3, 0, none⟩)] eg.out (fun x => x == a1) v2 L w1 _ HB2.out HO2.out (fun x _ W hW => impl_FirstAfter.fn g3 a1 x W (blk_below B3.out hW))).mono ?_; rintro e w3 ⟨v3, rfl, ho3, hb3⟩; obtain ⟨A3, c3, e3⟩ := Kd.R_slice ho3; subst e3; have HC3 := Aside0.mk (Kd.R_reads' ho3).2; have HB3 := Aside0.mk (below_step HB.out hb3); clear ho3 hb3)
    | (go_at_call 60; (with_reducible refine (impl_firstOf.calls k A0 c0 l0 A3 c3 (L.filter fun x => !(x == a1)) r _ (Kd.C_below HR0.out HB3.out) HC0.out HC3.out.2 HC3.out.1 HF.out).mono ?_); rintro e w4 ⟨rfl, hb4⟩; have HB4 := Aside0.mk (below_step HB3.out hb4); clear hb4))
  go_ret
  exact ⟨rfl, HB4.out⟩

end Go.Proofs.Ytbgpnendblmdaaa.PFnMeets
