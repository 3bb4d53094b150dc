-- Written by myprint.py (a program of this session, over the kit's print): not trusted, Lean checks it.
import Derived.Test.YtcmimgoghmeliaaPFnExactPredicatex0
import Derived.Test.YtcmimgoghmeliaaPFnExactPredicatex5
import Derived.Test.YtcmimgoghmeliaaPFnExactPredicatex6
namespace Go.Proofs.Ytcmimgoghmeliaa.PFnExactPredicate
open Go.RowKit Go.Proofs.YtcmimgoghmeliaaW.PrintWords Go.Proofs.YtcmimgoghmeliaaW.PrintLast Go.Proofs.YtcmimgoghmeliaaW.PrintMore
attribute [local go_sem] max2_int min2_int max_two min_two max_three min_three max_four min_four   -- for this text's walks alone
set_option linter.unusedVariables false
set_option linter.unusedSimpArgs false

/-! ### impl_ProgramOk: function 114 -/
def insOkAt (n : Int) (x : S94) : Option Bool := impl_InsOk.f x.f0 x.f1 x.f2 x.f3 n
def impl_ProgramOk.f (l0 : List S94) : Option (Bool) := if (l0.all fun x => (insOkAt (l0.length : Int) x).isSome) = true then some (decide (l0.length ≤ 32) && l0.all fun x => insOkAt (l0.length : Int) x == some true) else none
set_option maxHeartbeats 2000000 in
theorem impl_ProgramOk.fn (A0 : Option Addr) (c0 : Nat) (l0 : List S94) (g : Nat) (x : S94) (w : World) (hg : w.heap[g]? = some (.cells #[.slice A0 l0.length c0] 57 (0, 0))) (hs : (insOkAt (l0.length : Int) x).isSome = true) :
    Calls Try.prog 136 #[.agg #[.int .i64 x.f0, .int .i64 x.f1, .int .i64 x.f2, .int .i64 x.f3], .pointer (some ⟨g, 0, none⟩)] w fun e w' => e = .returned (.bool (!(insOkAt (l0.length : Int) x == some true))) ∧ Below w.heap.size w w' := by
  obtain ⟨b, hb⟩ := Option.isSome_iff_exists.1 hs
  have e1 : (!(insOkAt (l0.length : Int) x == some true)) = !b := by rw [hb]; cases b <;> rfl
  rw [e1]
  have HG := Aside0.mk hg
  have HI := Aside0.mk (show impl_InsOk.f x.f0 x.f1 x.f2 x.f3 (l0.length : Int) = some b from hb)
  clear e1 hb hs hg
  have hu94 := Try.underlying94
  obtain ⟨y0, y1, y2, y3⟩ := x
  go_enter Try.func136, Try.ntmps136
  go_wp2_with (first | ((with_reducible refine gate_dst (N := 2) rfl ?_); refine box_event ?hg (N := 2) ?hd (cs := #[.int .i64 y0, .int .i64 y1, .int .i64 y2, .int .i64 y3]) (t := 94) ?hr ?_; (case hd => rfl); (case hg => rfl); (case hr => first | (go_simp; done) | (go_simp; rfl)); intro gb hgb w1 hbox hb; have HB := Aside0.mk hb; have hcap := one_cellI (blk_underI HG.out hb); have hz0 : w1.cell? ⟨gb, 0, none⟩ = some (.int .i64 y0) := (blk_cell hbox 0).trans rfl; have hz1 : w1.cell? ⟨gb, 1, none⟩ = some (.int .i64 y1) := (blk_cell hbox 1).trans rfl; have hz2 : w1.cell? ⟨gb, 2, none⟩ = some (.int .i64 y2) := (blk_cell hbox 2).trans rfl; have hz3 : w1.cell? ⟨gb, 3, none⟩ = some (.int .i64 y3) := (blk_cell hbox 3).trans rfl; clear hgb hb hbox) | (go_at_call 137; (with_reducible refine (impl_InsOk.calls y0 y1 y2 y3 (l0.length : Int) b _ HI.out).mono ?_); rintro e w' ⟨rfl, hb2⟩; have HB2 := Aside0.mk hb2; clear hb2))
  go_ret
  exact ⟨rfl, below_step HB.out HB2.out⟩
set_option maxHeartbeats 1000000 in
set_option maxRecDepth 100000 in
theorem impl_ProgramOk.calls (A0 : Option Addr) (c0 : Nat) (l0 : List S94) (r : Bool) (w : World) (hr0 : Kd.C k94 w A0 l0.length l0) (hc0 : l0.length ≤ c0) (h : impl_ProgramOk.f l0 = some r) :
    Calls Try.prog 114 #[.slice A0 l0.length c0] w fun e w' => e = .returned (.bool r) ∧ Below w.heap.size w w' := by
  unfold impl_ProgramOk.f at h
  by_cases hs : (l0.all fun x => (insOkAt (l0.length : Int) x).isSome) = true
  · rw [if_pos hs] at h
    obtain rfl := Option.some.inj h
    have HS := Aside0.mk (List.all_eq_true.1 hs)
    have HR := Aside0.mk hr0
    clear hs h hr0
    by_cases h32 : l0.length ≤ 32
    · have hd : decide ((l0.length : Int) ≤ 32) = true := decide_eq_true (by omega)
      have hd2 : decide (l0.length ≤ 32) = true := decide_eq_true h32
      have eg := enters_of Try.func136 (by kernel_rfl) rfl
      have HF := Aside0.mk (fun (gb : Nat) (w1 : World) (hb : Below w.heap.size w w1) (hx : w1.heap[gb]? = some (.cells #[.slice A0 l0.length c0] 57 (0, 0))) =>
        containsFunc_ins (Below w1.heap.size w1) 136 #[.pointer (some ⟨gb, 0, none⟩)] eg (fun x => !(insOkAt (l0.length : Int) x == some true)) A0 c0 l0 w1 (Below.refl _ _)
          (fun W hW => Kd.C_below HR.out (below_step hb hW)) (fun x hx1 W hW => (impl_ProgramOk.fn A0 c0 l0 gb x W (blk_underI hx hW) (HS.out x hx1)).mono fun e W' ⟨he, h2⟩ => ⟨he, below_step hW h2⟩))
      have HN := Aside0.mk (not_any_notI (fun x => insOkAt (l0.length : Int) x == some true) l0)
      clear eg
      rw [hd2, Bool.true_and]
      go_enter Try.func114, Try.ntmps114
      go_wp2_with (first | ((with_reducible refine gate_dst (N := 1) rfl ?_); refine box_event ?hg (N := 1) ?hd (cs := #[.slice A0 l0.length c0]) (t := 57) ?hr ?_; (case hd => rfl); (case hg => rfl); (case hr => first | (go_simp; done) | (go_simp; rfl)); intro gb hgb w1 hbox hb; have HB := Aside0.mk hb; have HX := Aside0.mk hbox; have hcell := one_cellI hbox; clear hgb hb hbox) | (go_at_call 100; refine (HF.out gb _ HB.out HX.out).mono ?_; rintro e w' ⟨rfl, hb2⟩; have HB2 := Aside0.mk hb2; clear hb2))
      go_ret
      exact ⟨by rw [← HN.out]; rfl, below_step HB.out HB2.out⟩
    · have hd : decide ((l0.length : Int) ≤ 32) = false := decide_eq_false (by omega)
      have hd2 : decide (l0.length ≤ 32) = false := decide_eq_false h32
      rw [hd2, Bool.false_and]
      go_enter Try.func114, Try.ntmps114
      go_wp2_with (first | ((with_reducible refine gate_dst (N := 1) rfl ?_); refine box_event ?hg (N := 1) ?hd (cs := #[.slice A0 l0.length c0]) (t := 57) ?hr ?_; (case hd => rfl); (case hg => rfl); (case hr => first | (go_simp; done) | (go_simp; rfl)); intro gb hgb w1 hbox hb; have HB := Aside0.mk hb; have HX := Aside0.mk hbox; have hcell := one_cellI hbox; clear hgb hb hbox))
      go_ret
      exact ⟨rfl, HB.out⟩
  · rw [if_neg hs] at h
    exact absurd h (by simp)

/-! ### impl_IsLocal: function 131 -/
def impl_IsLocal.f (a0_0 : Int) (a0_1 : Int) (a0_2 : Int) (a0_3 : Int) : Option (Bool) := (impl_within.f a0_0 0 12).bind fun t180 => (some t180)
set_option maxHeartbeats 8000000 in
set_option maxRecDepth 100000 in
theorem impl_IsLocal.calls (a0_0 : Int) (a0_1 : Int) (a0_2 : Int) (a0_3 : Int) (r : Bool) (w : World) (h : impl_IsLocal.f a0_0 a0_1 a0_2 a0_3 = some r) :
    Calls Try.prog 131 #[.agg #[.int .i64 a0_0, .int .i64 a0_1, .int .i64 a0_2, .int .i64 a0_3]] w fun e w' => e = .returned (.bool r) ∧ Below w.heap.size w w' := by
  have hu94 := Try.underlying94
  have HB := Aside0.mk (Below.refl w.heap.size w)
  have H : ((impl_within.f a0_0 0 12).bind fun t180 => (some t180)) = some r := h
  clear h
  replace H := Option.bind_eq_some_iff.mp H
  obtain ⟨t180, A20, H⟩ := H
  replace H : (some t180) = some r := H
  have A2 := Aside0.mk A20
  clear A20
  obtain rfl := Option.some.inj H
  go_enter Try.func131, Try.ntmps131
  go_wp2_with (first | ((with_reducible refine gate_dst (N := 1) rfl ?_); refine box_event ?hg (N := 1) ?hd (cs := #[.int .i64 a0_0, .int .i64 a0_1, .int .i64 a0_2, .int .i64 a0_3]) (t := 94) ?hr ?_; (case hd => rfl); (case hg => rfl); (case hr => first | (go_simp; done) | (go_simp; rfl)); intro gb179 hg w3 hbox hb; have n0_ := Aside0.mk (below_step (by repeat (first | (with_reducible first | exact HB.out | apply below_alloc | apply pw_below_drewN | apply below_drew1) | exact HB.out)) hb); have n1_ := Aside0.mk (hbox); have n2_ := Aside0.mk ((by rw [hg]; exact (below_size (by repeat (first | (with_reducible first | exact HB.out | apply below_alloc | apply pw_below_drewN | apply below_drew1) | exact HB.out))) : w.heap.size ≤ gb179)); have n3_ := Aside0.mk ((by rw [hg]; exact (below_size (by repeat (first | (with_reducible first | exact HB.out | apply below_alloc | apply pw_below_drewN | apply below_drew1) | exact HB.out))) : w.heap.size ≤ gb179)); clear HB; have HB := n0_; have BK179 := n1_; have GW179 := n2_; have GE179 := n3_; clear n0_ n1_ n2_ n3_; clear hb hbox hg; have hcz4_0 : w3.cell? ⟨gb179, 0, none⟩ = some (.int .i64 a0_0) := (blk_cell BK179.out 0).trans rfl; have hcz4_1 : w3.cell? ⟨gb179, 1, none⟩ = some (.int .i64 a0_1) := (blk_cell BK179.out 1).trans rfl; have hcz4_2 : w3.cell? ⟨gb179, 2, none⟩ = some (.int .i64 a0_2) := (blk_cell BK179.out 2).trans rfl; have hcz4_3 : w3.cell? ⟨gb179, 3, none⟩ = some (.int .i64 a0_3) := (blk_cell BK179.out 3).trans rfl; have hfz4_0 := blk_frozen BK179.out 0; have hfz4_1 := blk_frozen BK179.out 1; have hfz4_2 := blk_frozen BK179.out 2; have hfz4_3 := blk_frozen BK179.out 3) | ((with_reducible refine gate_callee (f := 99) rfl ?_); refine goesL_ (some 5) rfl rfl Try.func99 (by kernel_rfl) rfl #[.int .i64 a0_0, .int .i64 0, .int .i64 12] rfl (by (try simp only [List.map_toArray, List.map_cons, List.map_nil]); first | done | rfl | (simp only [List.length_drop, List.length_take]; rfl)) ?_; (with_reducible refine (impl_within.calls a0_0 0 12 t180 _ A2.out).mono ?_); rintro e w' ⟨rfl, ⟨nd, rfl⟩⟩; refine ⟨_, rfl, ?_⟩))
  go_ret
  exact ⟨by first | rfl | (simp [errW_none, errW_some] <;> rfl) | (simp [*, errW_none, errW_some] <;> rfl), by repeat (first | (with_reducible first | exact HB.out | apply below_alloc | apply pw_below_drewN | apply below_drew1 | refine below_set ?_ GE179.out) | exact HB.out)⟩

/-! ### impl_IsQuiet: function 98 -/
def isLocalAt (x : S94) : Option Bool := impl_IsLocal.f x.f0 x.f1 x.f2 x.f3
def impl_IsQuiet.f (l0 : List S94) : Option (Bool) := (impl_ProgramOk.f l0).bind fun t => if t = true then (if (l0.all fun x => (isLocalAt x).isSome) = true then some (l0.all fun x => isLocalAt x == some true) else none) else some false
set_option maxHeartbeats 2000000 in
theorem impl_IsQuiet.fn (x : S94) (w : World) (hs : (isLocalAt x).isSome = true) :
    Calls Try.prog 130 #[.agg #[.int .i64 x.f0, .int .i64 x.f1, .int .i64 x.f2, .int .i64 x.f3]] w fun e w' => e = .returned (.bool (!(isLocalAt x == some true))) ∧ Below w.heap.size w w' := by
  obtain ⟨b, hb⟩ := Option.isSome_iff_exists.1 hs
  have e1 : (!(isLocalAt x == some true)) = !b := by rw [hb]; cases b <;> rfl
  rw [e1]
  have HI := Aside0.mk (show impl_IsLocal.f x.f0 x.f1 x.f2 x.f3 = some b from hb)
  clear e1 hb hs
  have hu94 := Try.underlying94
  obtain ⟨y0, y1, y2, y3⟩ := x
  go_enter Try.func130, Try.ntmps130
  go_wp2_with (first | ((with_reducible refine gate_dst (N := 1) rfl ?_); refine box_event ?hg (N := 1) ?hd (cs := #[.int .i64 y0, .int .i64 y1, .int .i64 y2, .int .i64 y3]) (t := 94) ?hr ?_; (case hd => rfl); (case hg => rfl); (case hr => first | (go_simp; done) | (go_simp; rfl)); intro gb hgb w1 hbox hb; have HB := Aside0.mk hb; have hz0 : w1.cell? ⟨gb, 0, none⟩ = some (.int .i64 y0) := (blk_cell hbox 0).trans rfl; have hz1 : w1.cell? ⟨gb, 1, none⟩ = some (.int .i64 y1) := (blk_cell hbox 1).trans rfl; have hz2 : w1.cell? ⟨gb, 2, none⟩ = some (.int .i64 y2) := (blk_cell hbox 2).trans rfl; have hz3 : w1.cell? ⟨gb, 3, none⟩ = some (.int .i64 y3) := (blk_cell hbox 3).trans rfl; clear hgb hb hbox) | (go_at_call 131; (with_reducible refine (impl_IsLocal.calls y0 y1 y2 y3 b _ HI.out).mono ?_); rintro e w' ⟨rfl, hb2⟩; have HB2 := Aside0.mk hb2; clear hb2))
  go_ret
  exact ⟨rfl, below_step HB.out HB2.out⟩
set_option maxHeartbeats 1000000 in
set_option maxRecDepth 100000 in
theorem impl_IsQuiet.calls (A0 : Option Addr) (c0 : Nat) (l0 : List S94) (r : Bool) (w : World) (hr0 : Kd.C k94 w A0 l0.length l0) (hc0 : l0.length ≤ c0) (h : impl_IsQuiet.f l0 = some r) :
    Calls Try.prog 98 #[.slice A0 l0.length c0] w fun e w' => e = .returned (.bool r) ∧ Below w.heap.size w w' := by
  obtain ⟨t, ht, h⟩ := Option.bind_eq_some_iff.mp h
  have A1 := Aside0.mk ht
  have HR := Aside0.mk hr0
  have HC := Aside0.mk hc0
  clear ht hr0 hc0
  cases t with
  | false =>
    obtain rfl := Option.some.inj h
    go_enter Try.func98, Try.ntmps98
    go_wp2_with (go_at_call 114; (with_reducible refine (impl_ProgramOk.calls A0 c0 l0 false _ HR.out HC.out A1.out).mono ?_); rintro e w1 ⟨rfl, hb⟩; have HB := Aside0.mk hb; clear hb)
    go_ret
    exact ⟨rfl, HB.out⟩
  | true =>
    replace h := (if_pos rfl).symm.trans h
    by_cases hs : (l0.all fun x => (isLocalAt x).isSome) = true
    · rw [if_pos hs] at h
      obtain rfl := Option.some.inj h
      have HS := Aside0.mk (List.all_eq_true.1 hs)
      clear hs h
      have eg := enters_of Try.func130 (by kernel_rfl) rfl
      have HF := Aside0.mk (fun (w1 : World) (hb : Below w.heap.size w w1) =>
        containsFunc_ins (Below w1.heap.size w1) 130 #[] eg (fun x => !(isLocalAt x == some true)) A0 c0 l0 w1 (Below.refl _ _)
          (fun W hW => Kd.C_below HR.out (below_step hb hW)) (fun x hx1 W hW => (impl_IsQuiet.fn x W (HS.out x hx1)).mono fun e W' ⟨he, h2⟩ => ⟨he, below_step hW h2⟩))
      have HN := Aside0.mk (not_any_notI (fun x => isLocalAt x == some true) l0)
      clear eg
      go_enter Try.func98, Try.ntmps98
      go_wp2_with (first | (go_at_call 114; (with_reducible refine (impl_ProgramOk.calls A0 c0 l0 true _ HR.out HC.out A1.out).mono ?_); rintro e w1 ⟨rfl, hb⟩; have HB := Aside0.mk hb; clear hb) | (go_at_call 100; refine (HF.out _ HB.out).mono ?_; rintro e w' ⟨rfl, hb2⟩; have HB2 := Aside0.mk hb2; clear hb2))
      go_ret
      exact ⟨by rw [← HN.out]; rfl, below_step HB.out HB2.out⟩
    · rw [if_neg hs] at h
      exact absurd h (by simp)

/-! ### impl_isTarget: function 102 -/
def impl_isTarget.f (a0 : Int) : Option (Bool) := if a0 = 10 then (some true) else (some (a0 == 11))
set_option maxHeartbeats 8000000 in
set_option maxRecDepth 100000 in
theorem impl_isTarget.calls (a0 : Int) (r : Bool) (w : World) (h : impl_isTarget.f a0 = some r) :
    Calls Try.prog 102 #[.int .i64 a0] w fun e w' => e = .returned (.bool r) ∧ Drawn0 w w' := by
  have H : (if a0 = 10 then (some true) else (some (a0 == 11))) = some r := h
  clear h
  by_cases c2 : a0 = 10
  · rw [if_pos c2] at H
    have c2b0 : (a0 == 10) = true := beq_iff_eq.mpr c2
    have c2b1 : (a0 != 10) = false := bne_eq_false_iff_eq.mpr c2
    clear c2
    obtain rfl := Option.some.inj H
    go_enter Try.func102, Try.ntmps102
    go_wp2
    go_ret
    exact ⟨by first | rfl | (simp; done) | (simp [*]; done), by repeat (first | exact Drawn0.refl _ | apply Drawn0.step)⟩
  · rw [if_neg c2] at H
    have c2b0 : (a0 == 10) = false := beq_eq_false_iff_ne.mpr c2
    have c2b1 : (a0 != 10) = true := bne_iff_ne.mpr c2
    obtain rfl := Option.some.inj H
    go_enter Try.func102, Try.ntmps102
    go_wp2
    go_ret
    exact ⟨by first | rfl | (simp; done) | (simp [*]; done), by repeat (first | exact Drawn0.refl _ | apply Drawn0.step)⟩

/-! ### impl_CanPredicate: function 47 -/
def twoW (D : World) (n : Nat) (T : TypeId) (o c0 c1 c2 c3 d0 d1 d2 d3 : Value) : World := (((((D.alloc (.cells #[o, o, o, o] T)).setCell ⟨n, 0, none⟩ c0).setCell ⟨n, 1, none⟩ c1).setCell ⟨n, 2, none⟩ c2).setCell ⟨n, 3, none⟩ c3).alloc (.cells #[d0, d1, d2, d3] T)
theorem twoW_eq (D : World) (T : TypeId) (o c0 c1 c2 c3 d0 d1 d2 d3 : Value) : twoW D D.heap.size T o c0 c1 c2 c3 d0 d1 d2 d3 = (D.alloc (.cells #[c0, c1, c2, c3] T)).alloc (.cells #[d0, d1, d2, d3] T) := by
  unfold twoW
  simp only [World.setCell_alloc_new]
  rfl
theorem twoW_first (D : World) (T : TypeId) (o c0 c1 c2 c3 d0 d1 d2 d3 : Value) (j : Nat) : (twoW D D.heap.size T o c0 c1 c2 c3 d0 d1 d2 d3).cell? ⟨D.heap.size, j, none⟩ = #[c0, c1, c2, c3][j]? := by
  rw [twoW_eq]; exact World.cell?_alloc2_first _ _ _ _
theorem twoW_second (D : World) (T : TypeId) (o c0 c1 c2 c3 d0 d1 d2 d3 : Value) (j : Nat) : (twoW D D.heap.size T o c0 c1 c2 c3 d0 d1 d2 d3).cell? ⟨D.heap.size + 1, j, none⟩ = #[d0, d1, d2, d3][j]? := by
  rw [twoW_eq]; exact World.cell?_alloc2_new _ _ _ _
theorem twoW_below (D : World) (T : TypeId) (o c0 c1 c2 c3 d0 d1 d2 d3 : Value) : Below D.heap.size D (twoW D D.heap.size T o c0 c1 c2 c3 d0 d1 d2 d3) := by
  rw [twoW_eq]
  repeat (first | exact Below.refl _ _ | apply below_alloc)
def tgtAt (a : Int) (x : S94) : Bool := (x.f0 == 10 || x.f0 == 11) && x.f2 == wrap64 (a + 1)
def canB (l : List S94) (a : Int) : Bool := (rd_T94 l a).f0 == 10 && ((rd_T94 l a).f2 == wrap64 (a + 2) && ((rd_T94 l (wrap64 (a + 1))).f0 == 2 && ((rd_T94 l (wrap64 (a + 1))).f1 != (rd_T94 l a).f1 && !(l.any (tgtAt a)))))
def impl_CanPredicate.f (l0 : List S94) (a1 : Int) : Option (Bool) := (impl_IsQuiet.f l0).bind fun t => if t = true then ((impl_within.f a1 0 (wrap64 ((l0.length : Int) - 2))).bind fun u => if u = true then (if 0 ≤ a1 ∧ a1 + 1 < (l0.length : Int) ∧ l0.length ≤ 32 then some (canB l0 a1) else none) else some false) else some false
theorem impl_isTarget_eq (x : Int) : impl_isTarget.f x = some (x == 10 || x == 11) := by
  unfold impl_isTarget.f
  by_cases h : x = 10
  · rw [if_pos h]; simp [h]
  · rw [if_neg h]; simp [h]
set_option maxHeartbeats 2000000 in
theorem impl_CanPredicate.fn (a1 : Int) (g : Nat) (x : S94) (w : World) (hg : w.heap[g]? = some (.cells #[.int .i64 a1] 3 (0, 0))) :
    Calls Try.prog 101 #[.agg #[.int .i64 x.f0, .int .i64 x.f1, .int .i64 x.f2, .int .i64 x.f3], .pointer (some ⟨g, 0, none⟩)] w fun e w' => e = .returned (.bool (tgtAt a1 x)) ∧ Below w.heap.size w w' := by
  have HG := Aside0.mk hg
  clear hg
  have hu94 := Try.underlying94
  obtain ⟨y0, y1, y2, y3⟩ := x
  have HI := Aside0.mk (impl_isTarget_eq y0)
  show Calls _ _ _ _ fun e w' => e = .returned (.bool ((y0 == 10 || y0 == 11) && y2 == wrap64 (a1 + 1))) ∧ _
  by_cases hc : (y0 == 10 || y0 == 11) = true
  · rw [hc] at HI ⊢
    clear hc
    rw [Bool.true_and]
    go_enter Try.func101, Try.ntmps101
    go_wp2_with (first | ((with_reducible refine gate_dst (N := 2) rfl ?_); refine box_event ?hg (N := 2) ?hd (cs := #[.int .i64 y0, .int .i64 y1, .int .i64 y2, .int .i64 y3]) (t := 94) ?hr ?_; (case hd => rfl); (case hg => rfl); (case hr => first | (go_simp; done) | (go_simp; rfl)); intro gb hgb w1 hbox hb; have HB := Aside0.mk hb; have hcap := one_cellI (blk_underI HG.out hb); have hz0 : w1.cell? ⟨gb, 0, none⟩ = some (.int .i64 y0) := (blk_cell hbox 0).trans rfl; have hz2 : w1.cell? ⟨gb, 2, none⟩ = some (.int .i64 y2) := (blk_cell hbox 2).trans rfl; have HX := Aside0.mk hbox; clear hgb hb hbox) | (go_at_call 102; (with_reducible refine (impl_isTarget.calls y0 true _ HI.out).mono ?_); rintro e w' ⟨rfl, ⟨nd, rfl⟩⟩))
    go_ret
    exact ⟨rfl, by repeat (first | exact HB.out | apply pw_below_drewN | apply below_drew1)⟩
  · have hc2 : (y0 == 10 || y0 == 11) = false := by simpa using hc
    rw [hc2] at HI ⊢
    clear hc hc2
    rw [Bool.false_and]
    go_enter Try.func101, Try.ntmps101
    go_wp2_with (first | ((with_reducible refine gate_dst (N := 2) rfl ?_); refine box_event ?hg (N := 2) ?hd (cs := #[.int .i64 y0, .int .i64 y1, .int .i64 y2, .int .i64 y3]) (t := 94) ?hr ?_; (case hd => rfl); (case hg => rfl); (case hr => first | (go_simp; done) | (go_simp; rfl)); intro gb hgb w1 hbox hb; have HB := Aside0.mk hb; have hcap := one_cellI (blk_underI HG.out hb); have hz0 : w1.cell? ⟨gb, 0, none⟩ = some (.int .i64 y0) := (blk_cell hbox 0).trans rfl; have hz2 : w1.cell? ⟨gb, 2, none⟩ = some (.int .i64 y2) := (blk_cell hbox 2).trans rfl; clear hgb hb hbox) | (go_at_call 102; (with_reducible refine (impl_isTarget.calls y0 false _ HI.out).mono ?_); rintro e w' ⟨rfl, ⟨nd, rfl⟩⟩))
    go_ret
    exact ⟨rfl, by repeat (first | exact HB.out | apply pw_below_drewN | apply below_drew1)⟩
set_option maxHeartbeats 4000000 in
set_option maxRecDepth 100000 in
theorem impl_CanPredicate.calls (A0 : Option Addr) (c0 : Nat) (l0 : List S94) (a1 : Int) (r : Bool) (w : World) (hr0 : Kd.C k94 w A0 l0.length l0) (hc0 : l0.length ≤ c0) (h : impl_CanPredicate.f l0 a1 = some r) :
    Calls Try.prog 47 #[.slice A0 l0.length c0, .int .i64 a1] w fun e w' => e = .returned (.bool r) ∧ Below w.heap.size w w' := by
  obtain ⟨t, ht, h⟩ := Option.bind_eq_some_iff.mp h
  have A1 := Aside0.mk ht
  have HR := Aside0.mk hr0
  have HC := Aside0.mk hc0
  have hu94 := Try.underlying94
  clear ht hr0 hc0
  cases t with
  | false =>
    obtain rfl := Option.some.inj h
    go_enter Try.func47, Try.ntmps47
    go_wp2_with (first | ((with_reducible refine gate_dst (N := 3) rfl ?_); refine box_event ?hg (N := 3) ?hd (cs := #[.int .i64 a1]) (t := 3) ?hr ?_; (case hd => rfl); (case hg => rfl); (case hr => first | (go_simp; done) | (go_simp; rfl)); intro gb hgb w1 hbox hb; have HB := Aside0.mk hb; have HX := Aside0.mk hbox; have hcell := one_cellI hbox; clear hgb hb hbox) | (go_at_call 98; (with_reducible refine (impl_IsQuiet.calls A0 c0 l0 false _ (by exact Kd.C_below HR.out HB.out) HC.out A1.out).mono ?_); rintro e w2 ⟨rfl, hb⟩; have HB2 := Aside0.mk hb; have hcell2 := one_cellI (blk_underI HX.out hb); clear hb))
    go_ret
    exact ⟨rfl, below_step HB.out HB2.out⟩
  | true =>
    replace h := (if_pos rfl).symm.trans h
    obtain ⟨u, hu, h⟩ := Option.bind_eq_some_iff.mp h
    have A2 := Aside0.mk hu
    clear hu
    cases u with
    | false =>
      obtain rfl := Option.some.inj h
      go_enter Try.func47, Try.ntmps47
      go_wp2_with (first | ((with_reducible refine gate_dst (N := 3) rfl ?_); refine box_event ?hg (N := 3) ?hd (cs := #[.int .i64 a1]) (t := 3) ?hr ?_; (case hd => rfl); (case hg => rfl); (case hr => first | (go_simp; done) | (go_simp; rfl)); intro gb hgb w1 hbox hb; have HB := Aside0.mk hb; have HX := Aside0.mk hbox; have hcell := one_cellI hbox; clear hgb hb hbox) | (go_at_call 98; (with_reducible refine (impl_IsQuiet.calls A0 c0 l0 true _ (by exact Kd.C_below HR.out HB.out) HC.out A1.out).mono ?_); rintro e w2 ⟨rfl, hb⟩; have HB2 := Aside0.mk hb; have hcell2 := one_cellI (blk_underI HX.out hb); clear hb) | (go_at_call 99; (with_reducible refine (impl_within.calls a1 0 (wrap64 ((l0.length : Int) - 2)) false _ A2.out).mono ?_); rintro e w' ⟨rfl, ⟨nd, rfl⟩⟩))
      go_ret
      exact ⟨rfl, by repeat (first | exact below_step HB.out HB2.out | apply pw_below_drewN | apply below_drew1)⟩
    | true =>
      replace h := (if_pos rfl).symm.trans h
      by_cases hk : 0 ≤ a1 ∧ a1 + 1 < (l0.length : Int) ∧ l0.length ≤ 32
      · rw [if_pos hk] at h
        have HRr := Aside0.mk (Option.some.inj h)
        clear h
        have HK := Aside0.mk hk
        clear hk
        go_enter Try.func47, Try.ntmps47
        go_wp2_with (first | ((with_reducible refine gate_dst (N := 3) rfl ?_); refine box_event ?hg (N := 3) ?hd (cs := #[.int .i64 a1]) (t := 3) ?hr ?_; (case hd => rfl); (case hg => rfl); (case hr => first | (go_simp; done) | (go_simp; rfl)); intro gb hgb w1 hbox hb; have HB := Aside0.mk hb; have HX := Aside0.mk hbox; have hcell := one_cellI hbox; clear hgb hb hbox) | (go_at_call 98; (with_reducible refine (impl_IsQuiet.calls A0 c0 l0 true _ (by exact Kd.C_below HR.out HB.out) HC.out A1.out).mono ?_); rintro e w2 ⟨rfl, hb⟩; have HB2 := Aside0.mk hb; have hcell2 := one_cellI (blk_underI HX.out hb); clear hb) | (go_at_call 99; (with_reducible refine (impl_within.calls a1 0 (wrap64 ((l0.length : Int) - 2)) true _ A2.out).mono ?_); rintro e w' ⟨rfl, ⟨nd, rfl⟩⟩))
        obtain ⟨h0, h1, h32⟩ := HK.out
        have HW := Aside0.mk (show wrap64 (a1 + 1) = a1 + 1 by unfold wrap64; omega)
        have hwr : IntKind.i64.wrap (a1 + 1) = a1 + 1 := by rw [i64_w]; exact HW.out
        have q1 : a1 < (l0.length : Int) := by omega
        have q2 : 0 ≤ a1 + 1 := by omega
        have q3 : a1 + 1 < (l0.length : Int) := h1
        have HC2 := Aside0.mk (Kd.C_below HR.out (below_step HB.out HB2.out))
        obtain ⟨ad, ea, hx0, hx1, hx2, hx3⟩ := at_T94 HC2.out a1 h0 q1
        cases ea
        obtain ⟨ad2, ea2, hy0, hy1, hy2, hy3⟩ := at_T94 HC2.out (a1 + 1) q2 q3
        cases ea2
        generalize hv : rd_T94 l0 a1 = y at hx0 hx1 hx2 hx3
        generalize hz : rd_T94 l0 (a1 + 1) = z at hy0 hy1 hy2 hy3
        have HV := Aside0.mk hv
        have HZ := Aside0.mk hz
        clear hv hz h1 h32
        have HS := Aside0.mk (below_step HB.out HB2.out)
        have sz1 : gb < w2.heap.size := World.block_lt_of_cell? _ _ hcell2
        have U1 : ∀ (o : Obj) (a : Addr) (v : Value), w2.cell? a = some v → ((w2.drewN (nd + 1)).alloc o).cell? a = some v := fun o a v hh => (World.cell?_alloc_lt (w2.drewN (nd + 1)) o a (World.block_lt_of_cell? w2 a hh)).trans hh
        have U2 : ∀ (o1 o2 : Obj) (a : Addr) (v : Value), w2.cell? a = some v → (((w2.drewN (nd + 1)).alloc o1).alloc o2).cell? a = some v := fun o1 o2 a v hh => (World.cell?_alloc_lt _ o2 a (World.block_lt_of_cell? _ a (U1 o1 a v hh))).trans (U1 o1 a v hh)
        have UN : ∀ (W : World) (j : Nat) (s : Value) (a : Addr) (v : Value), w2.cell? a = some v → W.cell? a = some v → (W.setCell ⟨w2.heap.size, j, none⟩ s).cell? a = some v := fun W j s a v h2 hh => by
          rw [World.cell?_setCell_other]
          · exact hh
          · intro e
            have := World.block_lt_of_cell? w2 a h2
            rw [← e] at this
            exact absurd this (Nat.lt_irrefl _)
        have U3 : ∀ (s0 s1 s2 s3 : Value) (o2 : Obj) (a : Addr) (v : Value), w2.cell? a = some v → (((((((w2.drewN (nd + 1)).alloc (Obj.cells #[Value.int IntKind.i64 0, Value.int IntKind.i64 0, Value.int IntKind.i64 0, Value.int IntKind.i64 0] 94)).setCell ⟨w2.heap.size, 0, none⟩ s0).setCell ⟨w2.heap.size, 1, none⟩ s1).setCell ⟨w2.heap.size, 2, none⟩ s2).setCell ⟨w2.heap.size, 3, none⟩ s3).alloc o2).cell? a = some v := fun s0 s1 s2 s3 o2 a v hh => by
          have h1 := UN _ 3 s3 a v hh (UN _ 2 s2 a v hh (UN _ 1 s1 a v hh (UN _ 0 s0 a v hh (U1 (Obj.cells #[Value.int IntKind.i64 0, Value.int IntKind.i64 0, Value.int IntKind.i64 0, Value.int IntKind.i64 0] 94) a v hh))))
          exact (World.cell?_alloc_lt _ o2 a (World.block_lt_of_cell? _ a h1)).trans h1
        have f0 := fun o => U1 o _ _ hcell2
        have g0 := fun o1 o2 => U2 o1 o2 _ _ hcell2
        have k0 := fun s0 s1 s2 s3 o2 => U3 s0 s1 s2 s3 o2 _ _ hcell2
        have f1 := fun o => U1 o _ _ hx0
        have g1 := fun o1 o2 => U2 o1 o2 _ _ hx0
        have k1 := fun s0 s1 s2 s3 o2 => U3 s0 s1 s2 s3 o2 _ _ hx0
        have f2 := fun o => U1 o _ _ hx1
        have g2 := fun o1 o2 => U2 o1 o2 _ _ hx1
        have k2 := fun s0 s1 s2 s3 o2 => U3 s0 s1 s2 s3 o2 _ _ hx1
        have f3 := fun o => U1 o _ _ hx2
        have g3 := fun o1 o2 => U2 o1 o2 _ _ hx2
        have k3 := fun s0 s1 s2 s3 o2 => U3 s0 s1 s2 s3 o2 _ _ hx2
        have f4 := fun o => U1 o _ _ hx3
        have g4 := fun o1 o2 => U2 o1 o2 _ _ hx3
        have k4 := fun s0 s1 s2 s3 o2 => U3 s0 s1 s2 s3 o2 _ _ hx3
        have f5 := fun o => U1 o _ _ hy0
        have g5 := fun o1 o2 => U2 o1 o2 _ _ hy0
        have k5 := fun s0 s1 s2 s3 o2 => U3 s0 s1 s2 s3 o2 _ _ hy0
        have f6 := fun o => U1 o _ _ hy1
        have g6 := fun o1 o2 => U2 o1 o2 _ _ hy1
        have k6 := fun s0 s1 s2 s3 o2 => U3 s0 s1 s2 s3 o2 _ _ hy1
        have f7 := fun o => U1 o _ _ hy2
        have g7 := fun o1 o2 => U2 o1 o2 _ _ hy2
        have k7 := fun s0 s1 s2 s3 o2 => U3 s0 s1 s2 s3 o2 _ _ hy2
        have f8 := fun o => U1 o _ _ hy3
        have g8 := fun o1 o2 => U2 o1 o2 _ _ hy3
        have k8 := fun s0 s1 s2 s3 o2 => U3 s0 s1 s2 s3 o2 _ _ hy3
        clear U1 U2 U3 UN
        have hF0 : ∀ o2 : Obj, (((w2.drewN (nd + 1)).alloc (Obj.cells #[Value.int IntKind.i64 0, Value.int IntKind.i64 0, Value.int IntKind.i64 0, Value.int IntKind.i64 0] 94)).alloc o2).cell? ⟨w2.heap.size, 0, none⟩ = some (.int .i64 0) := fun o2 => (World.cell?_alloc2_first (w := w2.drewN (nd + 1)) #[Value.int IntKind.i64 0, Value.int IntKind.i64 0, Value.int IntKind.i64 0, Value.int IntKind.i64 0] 94 o2 0).trans rfl
        have hG0 : ∀ o2 : Obj, (((w2.drewN (nd + 1)).alloc (Obj.cells #[Value.int IntKind.i64 0, Value.int IntKind.i64 0, Value.int IntKind.i64 0, Value.int IntKind.i64 0] 94)).alloc o2).frozen? ⟨w2.heap.size, 0, none⟩ = false := fun o2 => World.frozen?_alloc2_first (w := w2.drewN (nd + 1)) #[Value.int IntKind.i64 0, Value.int IntKind.i64 0, Value.int IntKind.i64 0, Value.int IntKind.i64 0] 94 o2 0
        have hF1 : ∀ o2 : Obj, (((w2.drewN (nd + 1)).alloc (Obj.cells #[Value.int IntKind.i64 0, Value.int IntKind.i64 0, Value.int IntKind.i64 0, Value.int IntKind.i64 0] 94)).alloc o2).cell? ⟨w2.heap.size, 1, none⟩ = some (.int .i64 0) := fun o2 => (World.cell?_alloc2_first (w := w2.drewN (nd + 1)) #[Value.int IntKind.i64 0, Value.int IntKind.i64 0, Value.int IntKind.i64 0, Value.int IntKind.i64 0] 94 o2 1).trans rfl
        have hG1 : ∀ o2 : Obj, (((w2.drewN (nd + 1)).alloc (Obj.cells #[Value.int IntKind.i64 0, Value.int IntKind.i64 0, Value.int IntKind.i64 0, Value.int IntKind.i64 0] 94)).alloc o2).frozen? ⟨w2.heap.size, 1, none⟩ = false := fun o2 => World.frozen?_alloc2_first (w := w2.drewN (nd + 1)) #[Value.int IntKind.i64 0, Value.int IntKind.i64 0, Value.int IntKind.i64 0, Value.int IntKind.i64 0] 94 o2 1
        have hF2 : ∀ o2 : Obj, (((w2.drewN (nd + 1)).alloc (Obj.cells #[Value.int IntKind.i64 0, Value.int IntKind.i64 0, Value.int IntKind.i64 0, Value.int IntKind.i64 0] 94)).alloc o2).cell? ⟨w2.heap.size, 2, none⟩ = some (.int .i64 0) := fun o2 => (World.cell?_alloc2_first (w := w2.drewN (nd + 1)) #[Value.int IntKind.i64 0, Value.int IntKind.i64 0, Value.int IntKind.i64 0, Value.int IntKind.i64 0] 94 o2 2).trans rfl
        have hG2 : ∀ o2 : Obj, (((w2.drewN (nd + 1)).alloc (Obj.cells #[Value.int IntKind.i64 0, Value.int IntKind.i64 0, Value.int IntKind.i64 0, Value.int IntKind.i64 0] 94)).alloc o2).frozen? ⟨w2.heap.size, 2, none⟩ = false := fun o2 => World.frozen?_alloc2_first (w := w2.drewN (nd + 1)) #[Value.int IntKind.i64 0, Value.int IntKind.i64 0, Value.int IntKind.i64 0, Value.int IntKind.i64 0] 94 o2 2
        have hF3 : ∀ o2 : Obj, (((w2.drewN (nd + 1)).alloc (Obj.cells #[Value.int IntKind.i64 0, Value.int IntKind.i64 0, Value.int IntKind.i64 0, Value.int IntKind.i64 0] 94)).alloc o2).cell? ⟨w2.heap.size, 3, none⟩ = some (.int .i64 0) := fun o2 => (World.cell?_alloc2_first (w := w2.drewN (nd + 1)) #[Value.int IntKind.i64 0, Value.int IntKind.i64 0, Value.int IntKind.i64 0, Value.int IntKind.i64 0] 94 o2 3).trans rfl
        have hG3 : ∀ o2 : Obj, (((w2.drewN (nd + 1)).alloc (Obj.cells #[Value.int IntKind.i64 0, Value.int IntKind.i64 0, Value.int IntKind.i64 0, Value.int IntKind.i64 0] 94)).alloc o2).frozen? ⟨w2.heap.size, 3, none⟩ = false := fun o2 => World.frozen?_alloc2_first (w := w2.drewN (nd + 1)) #[Value.int IntKind.i64 0, Value.int IntKind.i64 0, Value.int IntKind.i64 0, Value.int IntKind.i64 0] 94 o2 3
        have hP0 : ((w2.drewN (nd + 1)).alloc (Obj.cells #[Value.int IntKind.i64 0, Value.int IntKind.i64 0, Value.int IntKind.i64 0, Value.int IntKind.i64 0] 94)).cell? ⟨w2.heap.size, 0, none⟩ = some (.int .i64 0) := (World.cell?_alloc_new (w := w2.drewN (nd + 1)) #[Value.int IntKind.i64 0, Value.int IntKind.i64 0, Value.int IntKind.i64 0, Value.int IntKind.i64 0] 94 0).trans rfl
        have hQ0 : ((w2.drewN (nd + 1)).alloc (Obj.cells #[Value.int IntKind.i64 0, Value.int IntKind.i64 0, Value.int IntKind.i64 0, Value.int IntKind.i64 0] 94)).frozen? ⟨w2.heap.size, 0, none⟩ = false := World.frozen?_alloc_new (w := w2.drewN (nd + 1)) #[Value.int IntKind.i64 0, Value.int IntKind.i64 0, Value.int IntKind.i64 0, Value.int IntKind.i64 0] 94 0
        have hP1 : ((w2.drewN (nd + 1)).alloc (Obj.cells #[Value.int IntKind.i64 0, Value.int IntKind.i64 0, Value.int IntKind.i64 0, Value.int IntKind.i64 0] 94)).cell? ⟨w2.heap.size, 1, none⟩ = some (.int .i64 0) := (World.cell?_alloc_new (w := w2.drewN (nd + 1)) #[Value.int IntKind.i64 0, Value.int IntKind.i64 0, Value.int IntKind.i64 0, Value.int IntKind.i64 0] 94 1).trans rfl
        have hQ1 : ((w2.drewN (nd + 1)).alloc (Obj.cells #[Value.int IntKind.i64 0, Value.int IntKind.i64 0, Value.int IntKind.i64 0, Value.int IntKind.i64 0] 94)).frozen? ⟨w2.heap.size, 1, none⟩ = false := World.frozen?_alloc_new (w := w2.drewN (nd + 1)) #[Value.int IntKind.i64 0, Value.int IntKind.i64 0, Value.int IntKind.i64 0, Value.int IntKind.i64 0] 94 1
        have hP2 : ((w2.drewN (nd + 1)).alloc (Obj.cells #[Value.int IntKind.i64 0, Value.int IntKind.i64 0, Value.int IntKind.i64 0, Value.int IntKind.i64 0] 94)).cell? ⟨w2.heap.size, 2, none⟩ = some (.int .i64 0) := (World.cell?_alloc_new (w := w2.drewN (nd + 1)) #[Value.int IntKind.i64 0, Value.int IntKind.i64 0, Value.int IntKind.i64 0, Value.int IntKind.i64 0] 94 2).trans rfl
        have hQ2 : ((w2.drewN (nd + 1)).alloc (Obj.cells #[Value.int IntKind.i64 0, Value.int IntKind.i64 0, Value.int IntKind.i64 0, Value.int IntKind.i64 0] 94)).frozen? ⟨w2.heap.size, 2, none⟩ = false := World.frozen?_alloc_new (w := w2.drewN (nd + 1)) #[Value.int IntKind.i64 0, Value.int IntKind.i64 0, Value.int IntKind.i64 0, Value.int IntKind.i64 0] 94 2
        have hP3 : ((w2.drewN (nd + 1)).alloc (Obj.cells #[Value.int IntKind.i64 0, Value.int IntKind.i64 0, Value.int IntKind.i64 0, Value.int IntKind.i64 0] 94)).cell? ⟨w2.heap.size, 3, none⟩ = some (.int .i64 0) := (World.cell?_alloc_new (w := w2.drewN (nd + 1)) #[Value.int IntKind.i64 0, Value.int IntKind.i64 0, Value.int IntKind.i64 0, Value.int IntKind.i64 0] 94 3).trans rfl
        have hQ3 : ((w2.drewN (nd + 1)).alloc (Obj.cells #[Value.int IntKind.i64 0, Value.int IntKind.i64 0, Value.int IntKind.i64 0, Value.int IntKind.i64 0] 94)).frozen? ⟨w2.heap.size, 3, none⟩ = false := World.frozen?_alloc_new (w := w2.drewN (nd + 1)) #[Value.int IntKind.i64 0, Value.int IntKind.i64 0, Value.int IntKind.i64 0, Value.int IntKind.i64 0] 94 3
        go_region
        · change Exit.then _ _ Exit.normal _ (twoW (w2.drewN (nd + 1)) w2.heap.size 94 (.int .i64 0) (.int .i64 y.f0) (.int .i64 y.f1) (.int .i64 y.f2) (.int .i64 y.f3) (.int .i64 z.f0) (.int .i64 z.f1) (.int .i64 z.f2) (.int .i64 z.f3))
          have HB4 := Aside0.mk (below_step (show Below w2.heap.size w2 (w2.drewN (nd + 1)) by repeat (first | exact Below.refl _ _ | apply pw_below_drewN)) (twoW_below (w2.drewN (nd + 1)) 94 (.int .i64 0) (.int .i64 y.f0) (.int .i64 y.f1) (.int .i64 y.f2) (.int .i64 y.f3) (.int .i64 z.f0) (.int .i64 z.f1) (.int .i64 z.f2) (.int .i64 z.f3)))
          have hY0 := (twoW_first (w2.drewN (nd + 1)) 94 (.int .i64 0) (.int .i64 y.f0) (.int .i64 y.f1) (.int .i64 y.f2) (.int .i64 y.f3) (.int .i64 z.f0) (.int .i64 z.f1) (.int .i64 z.f2) (.int .i64 z.f3) 0).trans (show _ = some (Value.int .i64 y.f0) from rfl)
          have hY1 := (twoW_first (w2.drewN (nd + 1)) 94 (.int .i64 0) (.int .i64 y.f0) (.int .i64 y.f1) (.int .i64 y.f2) (.int .i64 y.f3) (.int .i64 z.f0) (.int .i64 z.f1) (.int .i64 z.f2) (.int .i64 z.f3) 1).trans (show _ = some (Value.int .i64 y.f1) from rfl)
          have hY2 := (twoW_first (w2.drewN (nd + 1)) 94 (.int .i64 0) (.int .i64 y.f0) (.int .i64 y.f1) (.int .i64 y.f2) (.int .i64 y.f3) (.int .i64 z.f0) (.int .i64 z.f1) (.int .i64 z.f2) (.int .i64 z.f3) 2).trans (show _ = some (Value.int .i64 y.f2) from rfl)
          have hZ0 := (twoW_second (w2.drewN (nd + 1)) 94 (.int .i64 0) (.int .i64 y.f0) (.int .i64 y.f1) (.int .i64 y.f2) (.int .i64 y.f3) (.int .i64 z.f0) (.int .i64 z.f1) (.int .i64 z.f2) (.int .i64 z.f3) 0).trans (show _ = some (Value.int .i64 z.f0) from rfl)
          have hZ1 := (twoW_second (w2.drewN (nd + 1)) 94 (.int .i64 0) (.int .i64 y.f0) (.int .i64 y.f1) (.int .i64 y.f2) (.int .i64 y.f3) (.int .i64 z.f0) (.int .i64 z.f1) (.int .i64 z.f2) (.int .i64 z.f3) 1).trans (show _ = some (Value.int .i64 z.f1) from rfl)
          replace hY0 : (twoW (w2.drewN (nd + 1)) w2.heap.size 94 (.int .i64 0) (.int .i64 y.f0) (.int .i64 y.f1) (.int .i64 y.f2) (.int .i64 y.f3) (.int .i64 z.f0) (.int .i64 z.f1) (.int .i64 z.f2) (.int .i64 z.f3)).cell? ⟨w2.heap.size, 0, none⟩ = some (.int .i64 y.f0) := hY0
          replace hY1 : (twoW (w2.drewN (nd + 1)) w2.heap.size 94 (.int .i64 0) (.int .i64 y.f0) (.int .i64 y.f1) (.int .i64 y.f2) (.int .i64 y.f3) (.int .i64 z.f0) (.int .i64 z.f1) (.int .i64 z.f2) (.int .i64 z.f3)).cell? ⟨w2.heap.size, 1, none⟩ = some (.int .i64 y.f1) := hY1
          replace hY2 : (twoW (w2.drewN (nd + 1)) w2.heap.size 94 (.int .i64 0) (.int .i64 y.f0) (.int .i64 y.f1) (.int .i64 y.f2) (.int .i64 y.f3) (.int .i64 z.f0) (.int .i64 z.f1) (.int .i64 z.f2) (.int .i64 z.f3)).cell? ⟨w2.heap.size, 2, none⟩ = some (.int .i64 y.f2) := hY2
          replace hZ0 : (twoW (w2.drewN (nd + 1)) w2.heap.size 94 (.int .i64 0) (.int .i64 y.f0) (.int .i64 y.f1) (.int .i64 y.f2) (.int .i64 y.f3) (.int .i64 z.f0) (.int .i64 z.f1) (.int .i64 z.f2) (.int .i64 z.f3)).cell? ⟨w2.heap.size + 1, 0, none⟩ = some (.int .i64 z.f0) := hZ0
          replace hZ1 : (twoW (w2.drewN (nd + 1)) w2.heap.size 94 (.int .i64 0) (.int .i64 y.f0) (.int .i64 y.f1) (.int .i64 y.f2) (.int .i64 y.f3) (.int .i64 z.f0) (.int .i64 z.f1) (.int .i64 z.f2) (.int .i64 z.f3)).cell? ⟨w2.heap.size + 1, 1, none⟩ = some (.int .i64 z.f1) := hZ1
          replace HB4 : Aside0 (Below w2.heap.size w2 (twoW (w2.drewN (nd + 1)) w2.heap.size 94 (.int .i64 0) (.int .i64 y.f0) (.int .i64 y.f1) (.int .i64 y.f2) (.int .i64 y.f3) (.int .i64 z.f0) (.int .i64 z.f1) (.int .i64 z.f2) (.int .i64 z.f3))) := HB4
          generalize twoW (w2.drewN (nd + 1)) w2.heap.size 94 (.int .i64 0) (.int .i64 y.f0) (.int .i64 y.f1) (.int .i64 y.f2) (.int .i64 y.f3) (.int .i64 z.f0) (.int .i64 z.f1) (.int .i64 z.f2) (.int .i64 z.f3) = W4 at HB4 hY0 hY1 hY2 hZ0 hZ1 ⊢
          clear f0 g0 k0 f1 g1 k1 f2 g2 k2 f3 g3 k3 f4 g4 k4 f5 g5 k5 f6 g6 k6 f7 g7 k7 f8 g8 k8 hF0 hG0 hP0 hQ0 hF1 hG1 hP1 hQ1 hF2 hG2 hP2 hQ2 hF3 hG3 hP3 hQ3 hx0 hx1 hx2 hx3 hy0 hy1 hy2 hy3 hcell hcell2
          have HX4 := Aside0.mk (blk_underI (blk_underI HX.out HB2.out) HB4.out)
          have hg4 := one_cellI HX4.out
          have HB5 := Aside0.mk (below_step HS.out HB4.out)
          have hwr2 : IntKind.i64.wrap (a1 + 2) = a1 + 2 := by rw [i64_w]; have := HK.out; unfold wrap64; omega
          have HW2 := Aside0.mk (show wrap64 (a1 + 2) = a1 + 2 by rw [← i64_w]; exact hwr2)
          have HV2 := Aside0.mk (show canB l0 a1 = (y.f0 == 10 && (y.f2 == a1 + 2 && (z.f0 == 2 && (z.f1 != y.f1 && !(l0.any (tgtAt a1)))))) by unfold canB; rw [HW.out, HV.out, HZ.out, HW2.out])
          by_cases e1 : y.f0 = 10
          · have c1 : (y.f0 == 10) = true := by simpa using e1
            have HV3 := Aside0.mk (HV2.out.trans (by rw [c1, Bool.true_and]))
            clear e1
            by_cases e2 : y.f2 = a1 + 2
            · have c2 : (y.f2 == a1 + 2) = true := by simpa using e2
              have HV4 := Aside0.mk (HV3.out.trans (by rw [c2, Bool.true_and]))
              clear e2
              by_cases e3 : z.f0 = 2
              · have c3 : (z.f0 == 2) = true := by simpa using e3
                have HV5 := Aside0.mk (HV4.out.trans (by rw [c3, Bool.true_and]))
                clear e3
                by_cases e4 : z.f1 = y.f1
                · have c4 : (z.f1 != y.f1) = false := by simpa using e4
                  have HV6 := Aside0.mk (HV5.out.trans (by rw [c4, Bool.false_and]))
                  clear e4
                  go_wp2
                  go_ret
                  exact ⟨by rw [← HRr.out, HV6.out]; rfl, HB5.out⟩
                · have c4 : (z.f1 != y.f1) = true := by simpa using e4
                  have HV6 := Aside0.mk (HV5.out.trans (by rw [c4, Bool.true_and]))
                  clear e4
                  have eg := enters_of Try.func101 (by kernel_rfl) rfl
                  have HF := Aside0.mk (containsFunc_ins (Below W4.heap.size W4) 101 #[.pointer (some ⟨gb, 0, none⟩)] eg (tgtAt a1) (some ad) c0 l0 W4 (Below.refl _ _)
                    (fun W hW => Kd.C_below HR.out (below_step HB5.out hW)) (fun x hx1 W hW => (impl_CanPredicate.fn a1 gb x W (blk_underI HX4.out hW)).mono fun e W' ⟨he, h2⟩ => ⟨he, below_step hW h2⟩))
                  clear eg
                  go_wp2_with (go_at_call 100; refine HF.out.mono ?_; rintro e w' ⟨rfl, hb2⟩; have HB6 := Aside0.mk hb2; clear hb2)
                  go_ret
                  exact ⟨by rw [← HRr.out, HV6.out]; rfl, below_step HB5.out HB6.out⟩
              · have c3 : (z.f0 == 2) = false := by simpa using e3
                have HV5 := Aside0.mk (HV4.out.trans (by rw [c3, Bool.false_and]))
                clear e3
                go_wp2
                go_ret
                exact ⟨by rw [← HRr.out, HV5.out]; rfl, HB5.out⟩
            · have c2 : (y.f2 == a1 + 2) = false := by simpa using e2
              have HV4 := Aside0.mk (HV3.out.trans (by rw [c2, Bool.false_and]))
              clear e2
              go_wp2
              go_ret
              exact ⟨by rw [← HRr.out, HV4.out]; rfl, HB5.out⟩
          · have c1 : (y.f0 == 10) = false := by simpa using e1
            have HV3 := Aside0.mk (HV2.out.trans (by rw [c1, Bool.false_and]))
            clear e1
            go_wp2
            go_ret
            exact ⟨by rw [← HRr.out, HV3.out]; rfl, HB5.out⟩
        · change Exit.then _ _ Exit.normal _ (twoW (w2.drewN (nd + 1)) w2.heap.size 94 (.int .i64 0) (.int .i64 z.f0) (.int .i64 z.f1) (.int .i64 z.f2) (.int .i64 z.f3) (.int .i64 y.f0) (.int .i64 y.f1) (.int .i64 y.f2) (.int .i64 y.f3))
          have HB4 := Aside0.mk (below_step (show Below w2.heap.size w2 (w2.drewN (nd + 1)) by repeat (first | exact Below.refl _ _ | apply pw_below_drewN)) (twoW_below (w2.drewN (nd + 1)) 94 (.int .i64 0) (.int .i64 z.f0) (.int .i64 z.f1) (.int .i64 z.f2) (.int .i64 z.f3) (.int .i64 y.f0) (.int .i64 y.f1) (.int .i64 y.f2) (.int .i64 y.f3)))
          have hY0 := (twoW_second (w2.drewN (nd + 1)) 94 (.int .i64 0) (.int .i64 z.f0) (.int .i64 z.f1) (.int .i64 z.f2) (.int .i64 z.f3) (.int .i64 y.f0) (.int .i64 y.f1) (.int .i64 y.f2) (.int .i64 y.f3) 0).trans (show _ = some (Value.int .i64 y.f0) from rfl)
          have hY1 := (twoW_second (w2.drewN (nd + 1)) 94 (.int .i64 0) (.int .i64 z.f0) (.int .i64 z.f1) (.int .i64 z.f2) (.int .i64 z.f3) (.int .i64 y.f0) (.int .i64 y.f1) (.int .i64 y.f2) (.int .i64 y.f3) 1).trans (show _ = some (Value.int .i64 y.f1) from rfl)
          have hY2 := (twoW_second (w2.drewN (nd + 1)) 94 (.int .i64 0) (.int .i64 z.f0) (.int .i64 z.f1) (.int .i64 z.f2) (.int .i64 z.f3) (.int .i64 y.f0) (.int .i64 y.f1) (.int .i64 y.f2) (.int .i64 y.f3) 2).trans (show _ = some (Value.int .i64 y.f2) from rfl)
          have hZ0 := (twoW_first (w2.drewN (nd + 1)) 94 (.int .i64 0) (.int .i64 z.f0) (.int .i64 z.f1) (.int .i64 z.f2) (.int .i64 z.f3) (.int .i64 y.f0) (.int .i64 y.f1) (.int .i64 y.f2) (.int .i64 y.f3) 0).trans (show _ = some (Value.int .i64 z.f0) from rfl)
          have hZ1 := (twoW_first (w2.drewN (nd + 1)) 94 (.int .i64 0) (.int .i64 z.f0) (.int .i64 z.f1) (.int .i64 z.f2) (.int .i64 z.f3) (.int .i64 y.f0) (.int .i64 y.f1) (.int .i64 y.f2) (.int .i64 y.f3) 1).trans (show _ = some (Value.int .i64 z.f1) from rfl)
          replace hY0 : (twoW (w2.drewN (nd + 1)) w2.heap.size 94 (.int .i64 0) (.int .i64 z.f0) (.int .i64 z.f1) (.int .i64 z.f2) (.int .i64 z.f3) (.int .i64 y.f0) (.int .i64 y.f1) (.int .i64 y.f2) (.int .i64 y.f3)).cell? ⟨w2.heap.size + 1, 0, none⟩ = some (.int .i64 y.f0) := hY0
          replace hY1 : (twoW (w2.drewN (nd + 1)) w2.heap.size 94 (.int .i64 0) (.int .i64 z.f0) (.int .i64 z.f1) (.int .i64 z.f2) (.int .i64 z.f3) (.int .i64 y.f0) (.int .i64 y.f1) (.int .i64 y.f2) (.int .i64 y.f3)).cell? ⟨w2.heap.size + 1, 1, none⟩ = some (.int .i64 y.f1) := hY1
          replace hY2 : (twoW (w2.drewN (nd + 1)) w2.heap.size 94 (.int .i64 0) (.int .i64 z.f0) (.int .i64 z.f1) (.int .i64 z.f2) (.int .i64 z.f3) (.int .i64 y.f0) (.int .i64 y.f1) (.int .i64 y.f2) (.int .i64 y.f3)).cell? ⟨w2.heap.size + 1, 2, none⟩ = some (.int .i64 y.f2) := hY2
          replace hZ0 : (twoW (w2.drewN (nd + 1)) w2.heap.size 94 (.int .i64 0) (.int .i64 z.f0) (.int .i64 z.f1) (.int .i64 z.f2) (.int .i64 z.f3) (.int .i64 y.f0) (.int .i64 y.f1) (.int .i64 y.f2) (.int .i64 y.f3)).cell? ⟨w2.heap.size, 0, none⟩ = some (.int .i64 z.f0) := hZ0
          replace hZ1 : (twoW (w2.drewN (nd + 1)) w2.heap.size 94 (.int .i64 0) (.int .i64 z.f0) (.int .i64 z.f1) (.int .i64 z.f2) (.int .i64 z.f3) (.int .i64 y.f0) (.int .i64 y.f1) (.int .i64 y.f2) (.int .i64 y.f3)).cell? ⟨w2.heap.size, 1, none⟩ = some (.int .i64 z.f1) := hZ1
          replace HB4 : Aside0 (Below w2.heap.size w2 (twoW (w2.drewN (nd + 1)) w2.heap.size 94 (.int .i64 0) (.int .i64 z.f0) (.int .i64 z.f1) (.int .i64 z.f2) (.int .i64 z.f3) (.int .i64 y.f0) (.int .i64 y.f1) (.int .i64 y.f2) (.int .i64 y.f3))) := HB4
          generalize twoW (w2.drewN (nd + 1)) w2.heap.size 94 (.int .i64 0) (.int .i64 z.f0) (.int .i64 z.f1) (.int .i64 z.f2) (.int .i64 z.f3) (.int .i64 y.f0) (.int .i64 y.f1) (.int .i64 y.f2) (.int .i64 y.f3) = W4 at HB4 hY0 hY1 hY2 hZ0 hZ1 ⊢
          clear f0 g0 k0 f1 g1 k1 f2 g2 k2 f3 g3 k3 f4 g4 k4 f5 g5 k5 f6 g6 k6 f7 g7 k7 f8 g8 k8 hF0 hG0 hP0 hQ0 hF1 hG1 hP1 hQ1 hF2 hG2 hP2 hQ2 hF3 hG3 hP3 hQ3 hx0 hx1 hx2 hx3 hy0 hy1 hy2 hy3 hcell hcell2
          have HX4 := Aside0.mk (blk_underI (blk_underI HX.out HB2.out) HB4.out)
          have hg4 := one_cellI HX4.out
          have HB5 := Aside0.mk (below_step HS.out HB4.out)
          have hwr2 : IntKind.i64.wrap (a1 + 2) = a1 + 2 := by rw [i64_w]; have := HK.out; unfold wrap64; omega
          have HW2 := Aside0.mk (show wrap64 (a1 + 2) = a1 + 2 by rw [← i64_w]; exact hwr2)
          have HV2 := Aside0.mk (show canB l0 a1 = (y.f0 == 10 && (y.f2 == a1 + 2 && (z.f0 == 2 && (z.f1 != y.f1 && !(l0.any (tgtAt a1)))))) by unfold canB; rw [HW.out, HV.out, HZ.out, HW2.out])
          by_cases e1 : y.f0 = 10
          · have c1 : (y.f0 == 10) = true := by simpa using e1
            have HV3 := Aside0.mk (HV2.out.trans (by rw [c1, Bool.true_and]))
            clear e1
            by_cases e2 : y.f2 = a1 + 2
            · have c2 : (y.f2 == a1 + 2) = true := by simpa using e2
              have HV4 := Aside0.mk (HV3.out.trans (by rw [c2, Bool.true_and]))
              clear e2
              by_cases e3 : z.f0 = 2
              · have c3 : (z.f0 == 2) = true := by simpa using e3
                have HV5 := Aside0.mk (HV4.out.trans (by rw [c3, Bool.true_and]))
                clear e3
                by_cases e4 : z.f1 = y.f1
                · have c4 : (z.f1 != y.f1) = false := by simpa using e4
                  have HV6 := Aside0.mk (HV5.out.trans (by rw [c4, Bool.false_and]))
                  clear e4
                  go_wp2
                  go_ret
                  exact ⟨by rw [← HRr.out, HV6.out]; rfl, HB5.out⟩
                · have c4 : (z.f1 != y.f1) = true := by simpa using e4
                  have HV6 := Aside0.mk (HV5.out.trans (by rw [c4, Bool.true_and]))
                  clear e4
                  have eg := enters_of Try.func101 (by kernel_rfl) rfl
                  have HF := Aside0.mk (containsFunc_ins (Below W4.heap.size W4) 101 #[.pointer (some ⟨gb, 0, none⟩)] eg (tgtAt a1) (some ad) c0 l0 W4 (Below.refl _ _)
                    (fun W hW => Kd.C_below HR.out (below_step HB5.out hW)) (fun x hx1 W hW => (impl_CanPredicate.fn a1 gb x W (blk_underI HX4.out hW)).mono fun e W' ⟨he, h2⟩ => ⟨he, below_step hW h2⟩))
                  clear eg
                  go_wp2_with (go_at_call 100; refine HF.out.mono ?_; rintro e w' ⟨rfl, hb2⟩; have HB6 := Aside0.mk hb2; clear hb2)
                  go_ret
                  exact ⟨by rw [← HRr.out, HV6.out]; rfl, below_step HB5.out HB6.out⟩
              · have c3 : (z.f0 == 2) = false := by simpa using e3
                have HV5 := Aside0.mk (HV4.out.trans (by rw [c3, Bool.false_and]))
                clear e3
                go_wp2
                go_ret
                exact ⟨by rw [← HRr.out, HV5.out]; rfl, HB5.out⟩
            · have c2 : (y.f2 == a1 + 2) = false := by simpa using e2
              have HV4 := Aside0.mk (HV3.out.trans (by rw [c2, Bool.false_and]))
              clear e2
              go_wp2
              go_ret
              exact ⟨by rw [← HRr.out, HV4.out]; rfl, HB5.out⟩
          · have c1 : (y.f0 == 10) = false := by simpa using e1
            have HV3 := Aside0.mk (HV2.out.trans (by rw [c1, Bool.false_and]))
            clear e1
            go_wp2
            go_ret
            exact ⟨by rw [← HRr.out, HV3.out]; rfl, HB5.out⟩
      · rw [if_neg hk] at h
        exact absurd h (by simp)

/-! ### impl_Ins_116: function 116 -/
def cloneInsF (l0 : List (S94)) : Option (List (S94)) := if l0.length < 4398046511104 then some l0 else none
def impl_Ins_116.f (l0 : List (S94)) : Option (List (S94)) := cloneInsF l0
theorem cloneIns_f (l0 : List (S94)) : impl_Ins_116.f l0 = cloneInsF l0 := rfl
set_option maxHeartbeats 1000000 in
set_option maxRecDepth 100000 in
theorem impl_Ins_116.calls (A0 : Option Addr) (c0 : Nat) (l0 : List (S94)) (r : List (S94)) (w : World) (hr0 : Kd.C k94 w A0 l0.length l0) (hc0 : l0.length ≤ c0) (h : impl_Ins_116.f l0 = some r) :
    Calls Try.prog 116 #[.slice A0 l0.length c0] w fun e w' => ∃ v0_ : Value, e = .returned (v0_) ∧ Kd.R k94 94 w' w.heap.size (fun _ => True) v0_ r ∧ Below w.heap.size w w' := by
  unfold impl_Ins_116.f cloneInsF at h
  by_cases hl : l0.length < 4398046511104
  · rw [if_pos hl] at h
    obtain rfl := Option.some.inj h
    cases A0 with
    | none =>
      have hz : l0 = [] := by
        rcases Nat.eq_zero_or_pos l0.length with h0 | h0
        · exact List.length_eq_zero_iff.1 h0
        · obtain ⟨ad, e, _⟩ := hr0.2.2 h0
          exact absurd e (by simp)
      subst hz
      have hnil : ∀ (W : World) (n c : Nat), (binOp .eql 57 (.slice none n c) (.slice none 0 0)).run Try.prog W = .ok (.bool true) W := fun W n c => Lib.run_eql_slice_nil W 57 94 none n c 0 0 Try.underlying57
      clear hr0 h hl
      go_enter Try.func116, Try.ntmps116
      go_wp2
      go_ret
      exact ⟨_, rfl, Kd.R_nil _ _ _ _ _, Below.refl _ _⟩
    | some ad =>
      have hnil : ∀ (W : World) (n c : Nat), (binOp .eql 57 (.slice (some ad) n c) (.slice none 0 0)).run Try.prog W = .ok (.bool false) W := fun W n c => Lib.run_eql_slice_nil W 57 94 (some ad) n c 0 0 Try.underlying57
      have HR := Aside0.mk hr0
      have HL := Aside0.mk hl
      clear hr0 h hl
      go_enter Try.func116, Try.ntmps116
      go_wp2_with (first | ((with_reducible refine gate_dst (N := 5) rfl ?_); refine Kd.R_lit k94 _ 94 ?hg (N := 5) ?hd (xs := ([] : List (S94))) (inner := []) (ok := fun _ => True) (okp := fun _ => True) ?hr ?hp (fun _ hk => hk) trivial (Below.refl _ _) (Nat.le_refl _) (by simp) ?_; (case hd => rfl); (case hg => rfl); (case hr => first | (go_simp; done) | (go_simp; rfl)); (case hp => exact (Reps.none _ _)); intro v132 w10 ho11 hb hg_ hnew_; clear hg_ hnew_; have HO := Aside0.mk ho11; have HB := Aside0.mk hb; clear hb ho11) | ((with_reducible refine gate_builtin (b := .append) (xs := #[.tmp 5, .tmp 6]) rfl ?_); at_builtin; refine Kd.R_append_rows k94 (w0 := w) w.heap.size rfl (.tmp 5) (.tmp 6) 57 94 (.agg #[(.int .i64 0), (.int .i64 0), (.int .i64 0), (.int .i64 0)]) 32 rfl Try.underlying57 info94 rfl (by decide) (by omega) v132 [] l0 _ _ _ (fun _ => True) (fun _ => False) rfl rfl ?aO ?aR (fun _ _ h => h) (fun _ h => h.elim) ?aF ?aB ?aS ?aL ?_; (case aR => exact Kd.C_below HR.out HB.out); (case aB => exact HB.out); (case aF => exact (fun _ _ => trivial)); (case aO => exact HO.out); (case aS => exact below_size HB.out); (case aL => have := HL.out; simp only [List.length_nil]; omega); intro v135 w12 ho hb hg hat; have HO2 := Aside0.mk ho; have HB2 := Aside0.mk hb; clear ho hb hg hat))
      go_ret
      exact ⟨_, rfl, by have h_ := HO2.out; rwa [List.nil_append] at h_, HB2.out⟩
  · rw [if_neg hl] at h
    exact absurd h (by simp)

/-! ### impl_Predicate: function 64 -/
def impl_Predicate.f (l0 : List (S94)) (a1 : Int) : Option ((List (S94)) × Bool) := (impl_Ins_116.f l0).bind fun t181 => ((impl_CanPredicate.f l0 a1).bind fun t184 => (if t184 = true then (if 0 ≤ a1 then (if a1 < (t181.length : Int) then (if 0 ≤ (wrap64 (a1 + 1)) then (if (wrap64 (a1 + 1)) < (l0.length : Int) then (if a1 < (l0.length : Int) then (if (wrap64 (a1 + 1)) < (t181.length : Int) then (some (((t181.set (a1 : Int).toNat (⟨0, 0, 0, 0⟩ : S94)).set ((wrap64 (a1 + 1)) : Int).toNat (⟨9, (rd_T94 l0 (wrap64 (a1 + 1))).f1, (rd_T94 l0 (wrap64 (a1 + 1))).f2, (rd_T94 l0 a1).f1⟩ : S94)), true)) else (none)) else (none)) else (none)) else (none)) else (none)) else (none)) else (some (t181, false))))
def impl_Predicate.T5 : Bool × List (List Nat × List Nat) := (true, [([], []), ([], []), ([1], [1]), ([], []), ([], []), ([4], [4]), ([3, 5], [3, 5]), ([6], [6]), ([7], [7]), ([], []), ([], []), ([10], [10]), ([9, 11], [9, 11]), ([12], [12]), ([13], [13]), ([], []), ([], []), ([15, 16], [15, 16]), ([17], [17]), ([18], [18]), ([8, 14, 19], [8, 14, 19]), ([0, 2, 0, 1, 2, 3, 4, 5, 6, 7, 8, 9, 10, 11, 12, 13, 14, 15, 16, 17, 18, 19, 20], [0, 2]), ([21, 20, 0, 1, 2, 3, 4, 5, 6, 7, 8, 9, 10, 11, 12, 13, 14, 15, 16, 17, 18, 19, 20], [20, 21])])
def impl_Predicate.B5 : List Nat := [0, 0, 2, 0, 0, 16, 56, 120, 248, 0, 0, 1024, 3584, 7680, 15872, 0, 0, 98304, 229376, 491520, 1048568, 2097151, 4194303]
theorem impl_Predicate.tab5 : rtab .any (opsOf Try.f64 5) = impl_Predicate.T5 := by kernel_rfl
theorem impl_Predicate.bits5 : waitsOk impl_Predicate.T5.2 impl_Predicate.B5 = true := by kernel_rfl
set_option maxHeartbeats 8000000 in
set_option maxRecDepth 100000 in
theorem impl_Predicate.calls (A0 : Option Addr) (c0 : Nat) (l0 : List (S94)) (a1 : Int) (r1 : List (S94)) (r2 : Bool) (w : World) (hr0 : Kd.C k94 w A0 l0.length l0) (hc0 : l0.length ≤ c0) (h : impl_Predicate.f l0 a1 = some (r1, r2)) :
    Calls Try.prog 64 #[.slice A0 l0.length c0, .int .i64 a1] w fun e w' => ∃ v0_ : Value, e = .returned (.tuple #[v0_, .bool r2]) ∧ Kd.R k94 94 w' w.heap.size (fun _ => True) v0_ r1 ∧ Below w.heap.size w w' := by
  have hu94 := Try.underlying94
  have HR0 := Aside0.mk hr0
  have HC0 := Aside0.mk hc0
  clear hr0 hc0
  have HB := Aside0.mk (Below.refl w.heap.size w)
  have H : ((impl_Ins_116.f l0).bind fun t181 => ((impl_CanPredicate.f l0 a1).bind fun t184 => (if t184 = true then (if 0 ≤ a1 then (if a1 < (t181.length : Int) then (if 0 ≤ (wrap64 (a1 + 1)) then (if (wrap64 (a1 + 1)) < (l0.length : Int) then (if a1 < (l0.length : Int) then (if (wrap64 (a1 + 1)) < (t181.length : Int) then (some (((t181.set (a1 : Int).toNat (⟨0, 0, 0, 0⟩ : S94)).set ((wrap64 (a1 + 1)) : Int).toNat (⟨9, (rd_T94 l0 (wrap64 (a1 + 1))).f1, (rd_T94 l0 (wrap64 (a1 + 1))).f2, (rd_T94 l0 a1).f1⟩ : S94)), true)) else (none)) else (none)) else (none)) else (none)) else (none)) else (none)) else (some (t181, false))))) = some (r1, r2) := h
  clear h
  replace H := Option.bind_eq_some_iff.mp H
  obtain ⟨t181, A30, H⟩ := H
  replace H : ((impl_CanPredicate.f l0 a1).bind fun t184 => (if t184 = true then (if 0 ≤ a1 then (if a1 < (t181.length : Int) then (if 0 ≤ (wrap64 (a1 + 1)) then (if (wrap64 (a1 + 1)) < (l0.length : Int) then (if a1 < (l0.length : Int) then (if (wrap64 (a1 + 1)) < (t181.length : Int) then (some (((t181.set (a1 : Int).toNat (⟨0, 0, 0, 0⟩ : S94)).set ((wrap64 (a1 + 1)) : Int).toNat (⟨9, (rd_T94 l0 (wrap64 (a1 + 1))).f1, (rd_T94 l0 (wrap64 (a1 + 1))).f2, (rd_T94 l0 a1).f1⟩ : S94)), true)) else (none)) else (none)) else (none)) else (none)) else (none)) else (none)) else (some (t181, false)))) = some (r1, r2) := H
  have A3 := Aside0.mk A30
  clear A30
  replace H := Option.bind_eq_some_iff.mp H
  obtain ⟨t184, A40, H⟩ := H
  replace H : (if t184 = true then (if 0 ≤ a1 then (if a1 < (t181.length : Int) then (if 0 ≤ (wrap64 (a1 + 1)) then (if (wrap64 (a1 + 1)) < (l0.length : Int) then (if a1 < (l0.length : Int) then (if (wrap64 (a1 + 1)) < (t181.length : Int) then (some (((t181.set (a1 : Int).toNat (⟨0, 0, 0, 0⟩ : S94)).set ((wrap64 (a1 + 1)) : Int).toNat (⟨9, (rd_T94 l0 (wrap64 (a1 + 1))).f1, (rd_T94 l0 (wrap64 (a1 + 1))).f2, (rd_T94 l0 a1).f1⟩ : S94)), true)) else (none)) else (none)) else (none)) else (none)) else (none)) else (none)) else (some (t181, false))) = some (r1, r2) := H
  have A4 := Aside0.mk A40
  clear A40
  by_cases c5 : t184 = true
  · subst c5
    have H1 : (if 0 ≤ a1 then (if a1 < (t181.length : Int) then (if 0 ≤ (wrap64 (a1 + 1)) then (if (wrap64 (a1 + 1)) < (l0.length : Int) then (if a1 < (l0.length : Int) then (if (wrap64 (a1 + 1)) < (t181.length : Int) then (some (((t181.set (a1 : Int).toNat (⟨0, 0, 0, 0⟩ : S94)).set ((wrap64 (a1 + 1)) : Int).toNat (⟨9, (rd_T94 l0 (wrap64 (a1 + 1))).f1, (rd_T94 l0 (wrap64 (a1 + 1))).f2, (rd_T94 l0 a1).f1⟩ : S94)), true)) else (none)) else (none)) else (none)) else (none)) else (none)) else (none)) = some (r1, r2) := by rw [if_pos rfl] at H; exact H
    clear H
    have H := H1
    clear H1
    by_cases c6 : 0 ≤ a1
    · rw [if_pos c6] at H
      have c6b0 : decide (0 ≤ a1) = true := decide_eq_true c6
      clear c6
      by_cases c7 : a1 < (t181.length : Int)
      · rw [if_pos c7] at H
        have c7b0 : decide (a1 < (t181.length : Int)) = true := decide_eq_true c7
        clear c7
        obtain ⟨y185, hy185⟩ : ∃ y_ : List (S94), y_ = (t181.set (a1 : Int).toNat (⟨0, 0, 0, 0⟩ : S94)) := ⟨_, rfl⟩
        replace H : (if 0 ≤ (wrap64 (a1 + 1)) then (if (wrap64 (a1 + 1)) < (l0.length : Int) then (if a1 < (l0.length : Int) then (if (wrap64 (a1 + 1)) < (t181.length : Int) then (some ((y185.set ((wrap64 (a1 + 1)) : Int).toNat (⟨9, (rd_T94 l0 (wrap64 (a1 + 1))).f1, (rd_T94 l0 (wrap64 (a1 + 1))).f2, (rd_T94 l0 a1).f1⟩ : S94)), true)) else (none)) else (none)) else (none)) else (none)) = some (r1, r2) := by first | (rw [hy185]; with_reducible exact H) | (have H2_ := (Option.bind_some _ _).symm.trans H; rw [hy185]; with_reducible exact H2_) | (have H2_ := (Option.bind_some _ _).symm.trans H; with_reducible exact H2_) | with_reducible exact H | (rw [hy185]; exact H) | exact H
        have Ny185 := Aside0.mk hy185
        clear hy185
        obtain ⟨ji9, hji9⟩ : ∃ j_ : Int, (wrap64 (a1 + 1)) = j_ := ⟨_, rfl⟩
        replace H : (if 0 ≤ (ji9) then (if (ji9) < (l0.length : Int) then (if a1 < (l0.length : Int) then (if (ji9) < (t181.length : Int) then (some ((y185.set ((ji9) : Int).toNat (⟨9, (rd_T94 l0 (ji9)).f1, (rd_T94 l0 (ji9)).f2, (rd_T94 l0 a1).f1⟩ : S94)), true)) else (none)) else (none)) else (none)) else (none)) = some (r1, r2) := by first | (rw [hji9] at H; exact H) | (simp only [hji9] at H ⊢; exact H)
        (try rw [hji9] at A3)
        (try rw [hji9] at A4)
        have hji9w : (IntKind.i64.wrap (a1 + 1)) = ji9 := (i64_w _).trans hji9
        by_cases c10 : 0 ≤ (ji9)
        · rw [if_pos c10] at H
          have c10b0 : decide (0 ≤ (ji9)) = true := decide_eq_true c10
          clear c10
          by_cases c11 : (ji9) < (l0.length : Int)
          · rw [if_pos c11] at H
            have c11b0 : decide ((ji9) < (l0.length : Int)) = true := decide_eq_true c11
            clear c11
            by_cases c12 : a1 < (l0.length : Int)
            · rw [if_pos c12] at H
              have c12b0 : decide (a1 < (l0.length : Int)) = true := decide_eq_true c12
              clear c12
              by_cases c13 : (ji9) < (t181.length : Int)
              · rw [if_pos c13] at H
                have c13b0 : decide ((ji9) < (t181.length : Int)) = true := decide_eq_true c13
                clear c13
                obtain ⟨y189, hy189⟩ : ∃ y_ : List (S94), y_ = (y185.set ((ji9) : Int).toNat (⟨9, (rd_T94 l0 (ji9)).f1, (rd_T94 l0 (ji9)).f2, (rd_T94 l0 a1).f1⟩ : S94)) := ⟨_, rfl⟩
                replace H : (some (y189, true)) = some (r1, r2) := by first | (rw [hy189]; with_reducible exact H) | (have H2_ := (Option.bind_some _ _).symm.trans H; rw [hy189]; with_reducible exact H2_) | (have H2_ := (Option.bind_some _ _).symm.trans H; with_reducible exact H2_) | with_reducible exact H | (rw [hy189]; exact H) | exact H
                have Ny189 := Aside0.mk hy189
                clear hy189
                simp only [Option.some.injEq, Prod.mk.injEq] at H
                obtain ⟨rfl, rfl⟩ := H
                go_enter Try.func64, Try.ntmps64
                try go_wp2_with (first | ((with_reducible refine gate_callee (f := 116) rfl ?_); refine goesL_ (some 8) rfl rfl Try.func116 (by kernel_rfl) rfl #[.slice A0 l0.length c0] rfl (by (try simp only [List.map_toArray, List.map_cons, List.map_nil]); first | done | rfl | (simp only [List.length_drop, List.length_take]; rfl)) ?_; (with_reducible refine (impl_Ins_116.calls _ _ l0 t181 _ ?side1 ?side2 A3.out).mono ?_); (case side1 => repeat (first | exact HR0.out | (with_reducible refine Kd.C_alloc ?_ _) | (with_reducible refine Kd.C_drewN ?_ _) | (with_reducible refine Kd.C_drew ?_))); (case side2 => exact HC0.out); rintro e w15 ⟨v182, rfl, ho0, hb⟩; refine ⟨_, rfl, ?_⟩; have n0_ := Aside0.mk (Kd.R_lower ho0 (below_size (by repeat (first | (with_reducible first | exact HB.out | apply below_alloc | apply pw_below_drewN | apply below_drew1) | exact HB.out)))); have n1_ := Aside0.mk (below_step (by repeat (first | (with_reducible first | exact HB.out | apply below_alloc | apply pw_below_drewN | apply below_drew1) | exact HB.out)) hb); clear HB; have HO183 := n0_; have HB := n1_; clear n0_ n1_; (try clear hb); (try clear hb2); (try clear hk); (try clear hi); (try clear ho0)) | ((with_reducible refine gate_callee (f := 47) rfl ?_); refine goesL_ (some 11) rfl rfl Try.func47 (by kernel_rfl) rfl #[.slice A0 l0.length c0, .int .i64 a1] rfl (by (try simp only [List.map_toArray, List.map_cons, List.map_nil]); first | done | rfl | (simp only [List.length_drop, List.length_take]; rfl)) ?_; (with_reducible refine (impl_CanPredicate.calls _ _ l0 a1 true _ ?side1 ?side2 A4.out).mono ?_); (case side1 => repeat (first | exact (Kd.C_below HR0.out HB.out) | (with_reducible refine Kd.C_alloc ?_ _) | (with_reducible refine Kd.C_drewN ?_ _) | (with_reducible refine Kd.C_drew ?_))); (case side2 => exact HC0.out); rintro e w16 ⟨rfl, hb⟩; refine ⟨_, rfl, ?_⟩; have n0_ := Aside0.mk (Kd.R_below (by (with_reducible repeat (first | apply Kd.R_alloc | apply Kd.R_drewN | apply Kd.R_drew)); exact HO183.out) hb); have n1_ := Aside0.mk (below_step (by repeat (first | (with_reducible first | exact HB.out | apply below_alloc | apply pw_below_drewN | apply below_drew1) | exact HB.out)) hb); clear HO183; clear HB; have HO183 := n0_; have HB := n1_; clear n0_ n1_; (try clear hb); (try clear hb2); (try clear hk); (try clear hi); have p8 : 0 ≤ (a1 : Int) := of_decide_eq_true (by first | (with_reducible assumption) | assumption); have q8 : (a1 : Int) < ((t181.length : Int) : Int) := of_decide_eq_true (by first | (with_reducible assumption) | assumption); obtain ⟨go8, co8, eo8, gb8, gl8, cl8, HG8⟩ := Kd.R_form HO183.out (by omega); (first | cases eo8 | (injection eo8 with ea_ en_ ec_; (first | subst ea_ | (injection ea_ with ea_; subst ea_)); subst ec_; clear en_)); have GB8 := Aside0.mk gb8; have GG8 := Aside0.mk HG8; clear gb8 gl8 HG8; obtain ⟨ce8, hcl8, hM8, hcc8, hfr8⟩ := Kd.R_elem HO183.out z94 (a1 : Int) p8 q8; obtain rfl := k94_openM hM8; have hx8_0 : w16.cell? ⟨go8, (a1 : Int).toNat * 4, none⟩ = some (.int .i64 ((rd_T94 t181 a1).f0)) := hcc8 0 _ rfl; have hx8_1 : w16.cell? ⟨go8, (a1 : Int).toNat * 4 + 1, none⟩ = some (.int .i64 ((rd_T94 t181 a1).f1)) := hcc8 1 _ rfl; have hx8_2 : w16.cell? ⟨go8, (a1 : Int).toNat * 4 + 2, none⟩ = some (.int .i64 ((rd_T94 t181 a1).f2)) := hcc8 2 _ rfl; have hx8_3 : w16.cell? ⟨go8, (a1 : Int).toNat * 4 + 3, none⟩ = some (.int .i64 ((rd_T94 t181 a1).f3)) := hcc8 3 _ rfl; have hf8_0 : w16.frozen? ⟨go8, (a1 : Int).toNat * 4, none⟩ = false := hfr8 0; have hf8_1 : w16.frozen? ⟨go8, (a1 : Int).toNat * 4 + 1, none⟩ = false := hfr8 1; have hf8_2 : w16.frozen? ⟨go8, (a1 : Int).toNat * 4 + 2, none⟩ = false := hfr8 2; have hf8_3 : w16.frozen? ⟨go8, (a1 : Int).toNat * 4 + 3, none⟩ = false := hfr8 3; clear hcl8 hcc8 hfr8 hM8; replace p8 := eq_true p8; replace q8 := eq_true q8; have HX17 := Aside0.mk (show Kd.R k94 94 w16 w.heap.size (fun _ => True) (.slice (some ⟨go8, 0, none⟩) t181.length co8) t181 from (by (with_reducible repeat (first | apply Kd.R_alloc | apply Kd.R_drewN | apply Kd.R_drew)); exact HO183.out)); obtain ⟨ce17, hcl17, hM17, hcc17, hfr17⟩ := Kd.R_elem HX17.out z94 (a1 : Int) (of_decide_eq_true (by first | (with_reducible assumption) | assumption)) (by have h_ : (a1 : Int) < ((t181.length : Int) : Int) := of_decide_eq_true (by first | (with_reducible assumption) | assumption); first | exact h_ | (have e_ := (Kd.R_reads' HO183.out).1; omega) | simpa using h_); obtain rfl := k94_openM hM17; have HP17 := Kd.R_seg HX17.out (a1 : Int) (of_decide_eq_true (by first | (with_reducible assumption) | assumption)) (by have h_ : (a1 : Int) < ((t181.length : Int) : Int) := of_decide_eq_true (by first | (with_reducible assumption) | assumption); first | exact h_ | (have e_ := (Kd.R_reads' HO183.out).1; omega) | simpa using h_) (seg := [.int .i64 0, .int .i64 0, .int .i64 0, .int .i64 0]) (j := 0) hcl17 hcc17 (show 4 ≤ 4 from by decide) (x' := (⟨0, 0, 0, 0⟩ : S94)) (k94_mkM _ _ _ (⟨0, 0, 0, 0⟩ : S94) ) (fun _ hk => hk); have hx17_0 := hcc17 0 _ rfl; (try simp only [show (k94).sz = 4 from rfl, Nat.mul_one, Nat.add_zero] at hx17_0); have hf17_0 := hfr17 0; (try simp only [show (k94).sz = 4 from rfl, Nat.mul_one, Nat.add_zero] at hf17_0); have hx17_1 := hcc17 1 _ rfl; (try simp only [show (k94).sz = 4 from rfl, Nat.mul_one, Nat.add_zero] at hx17_1); have hf17_1 := hfr17 1; (try simp only [show (k94).sz = 4 from rfl, Nat.mul_one, Nat.add_zero] at hf17_1); have hx17_2 := hcc17 2 _ rfl; (try simp only [show (k94).sz = 4 from rfl, Nat.mul_one, Nat.add_zero] at hx17_2); have hf17_2 := hfr17 2; (try simp only [show (k94).sz = 4 from rfl, Nat.mul_one, Nat.add_zero] at hf17_2); have hx17_3 := hcc17 3 _ rfl; (try simp only [show (k94).sz = 4 from rfl, Nat.mul_one, Nat.add_zero] at hx17_3); have hf17_3 := hfr17 3; (try simp only [show (k94).sz = 4 from rfl, Nat.mul_one, Nat.add_zero] at hf17_3); clear hcl17 hcc17 hfr17 hM17) | ((with_reducible refine gate_store (t := 94) (p := 17) rfl ?_); refine store_event (t := 94) (p := 17) (v := ?vo_w18) (w1 := ((((w16.setCell ⟨go8, (a1 : Int).toNat * 4, none⟩ (.int .i64 0)).setCell ⟨go8, (a1 : Int).toNat * 4 + 1, none⟩ (.int .i64 0)).setCell ⟨go8, (a1 : Int).toNat * 4 + 2, none⟩ (.int .i64 0)).setCell ⟨go8, (a1 : Int).toNat * 4 + 3, none⟩ (.int .i64 0))) ?hg ?ho ?hn ?hr ?_; (case ho => rfl); (case hg => rfl); (case hn => rfl); (case hr => first | (go_simp; done) | (go_simp; rfl)); intro w18 hw; have hg : w16.grownBy w18 (some go8) := (by rw [hw]; exact HP17.2); have hp_ : Kd.R k94 94 w18 w.heap.size (fun _ => True) (.slice (some ⟨go8, 0, none⟩) t181.length co8) y185 := (by rw [hw, Ny185.out]; exact HP17.1); clear HP17; have n0_ := Aside0.mk (hp_); have n1_ := Aside0.mk ((by rw [hw]; exact below_set (below_set (below_set (below_set (HB.out) GB8.out) GB8.out) GB8.out) GB8.out : Below w.heap.size w w18)); clear HO183; clear HB; have HO183 := n0_; have HB := n1_; clear n0_ n1_; clear hg hw hp_))
                have n0_ := Aside0.mk (Kd.R_drew HO183.out)
                have n1_ := Aside0.mk (below_drew1 HB.out)
                clear HO183
                clear HB
                have HO183 := n0_
                have HB := n1_
                clear n0_ n1_
                have p186 : 0 ≤ ((ji9) : Int) := of_decide_eq_true (by first | (with_reducible assumption) | assumption)
                have q186 : (ji9) < (l0.length : Int) := of_decide_eq_true (by first | (with_reducible assumption) | assumption)
                obtain ⟨ad186, e186, hx186_0, hx186_1, hx186_2, hx186_3⟩ := at_T94 HR0.out (ji9) p186 q186
                have hw186_3 := hx186_3
                have hw186_2 := hx186_2
                have hw186_1 := hx186_1
                have hw186_0 := hx186_0
                cases e186
                replace hx186_0 := (HB.out.cell (World.block_lt_of_cell? w _ hx186_0)).trans hx186_0
                replace hx186_1 := (HB.out.cell (World.block_lt_of_cell? w _ hx186_1)).trans hx186_1
                replace hx186_2 := (HB.out.cell (World.block_lt_of_cell? w _ hx186_2)).trans hx186_2
                replace hx186_3 := (HB.out.cell (World.block_lt_of_cell? w _ hx186_3)).trans hx186_3
                replace p186 := eq_true p186
                replace q186 := eq_true q186
                have p187 : 0 ≤ ((ji9) : Int) := of_decide_eq_true (by first | (with_reducible assumption) | assumption)
                have q187 : (ji9) < (l0.length : Int) := of_decide_eq_true (by first | (with_reducible assumption) | assumption)
                obtain ⟨ad187, e187, hx187_0, hx187_1, hx187_2, hx187_3⟩ := at_T94 HR0.out (ji9) p187 q187
                have hw187_3 := hx187_3
                have hw187_2 := hx187_2
                have hw187_1 := hx187_1
                have hw187_0 := hx187_0
                obtain rfl : ad186 = ad187 := (by injection e187)
                replace hx187_0 := (HB.out.cell (World.block_lt_of_cell? w _ hx187_0)).trans hx187_0
                replace hx187_1 := (HB.out.cell (World.block_lt_of_cell? w _ hx187_1)).trans hx187_1
                replace hx187_2 := (HB.out.cell (World.block_lt_of_cell? w _ hx187_2)).trans hx187_2
                replace hx187_3 := (HB.out.cell (World.block_lt_of_cell? w _ hx187_3)).trans hx187_3
                replace p187 := eq_true p187
                replace q187 := eq_true q187
                have p188 : 0 ≤ (a1 : Int) := of_decide_eq_true (by first | (with_reducible assumption) | assumption)
                have q188 : a1 < (l0.length : Int) := of_decide_eq_true (by first | (with_reducible assumption) | assumption)
                obtain ⟨ad188, e188, hx188_0, hx188_1, hx188_2, hx188_3⟩ := at_T94 HR0.out a1 p188 q188
                have hw188_3 := hx188_3
                have hw188_2 := hx188_2
                have hw188_1 := hx188_1
                have hw188_0 := hx188_0
                obtain rfl : ad186 = ad188 := (by injection e188)
                replace hx188_0 := (HB.out.cell (World.block_lt_of_cell? w _ hx188_0)).trans hx188_0
                replace hx188_1 := (HB.out.cell (World.block_lt_of_cell? w _ hx188_1)).trans hx188_1
                replace hx188_2 := (HB.out.cell (World.block_lt_of_cell? w _ hx188_2)).trans hx188_2
                replace hx188_3 := (HB.out.cell (World.block_lt_of_cell? w _ hx188_3)).trans hx188_3
                replace p188 := eq_true p188
                replace q188 := eq_true q188
                have p14 : 0 ≤ ((ji9) : Int) := of_decide_eq_true (by first | (with_reducible assumption) | assumption)
                have q14 : ((ji9) : Int) < ((t181.length : Int) : Int) := of_decide_eq_true (by first | (with_reducible assumption) | assumption)
                obtain ⟨ce14, hcl14, hM14, hcc14, hfr14⟩ := Kd.R_elem HO183.out z94 ((ji9) : Int) p14 q14
                obtain rfl := k94_openM hM14
                have hx14_0 : World.cell? _ ⟨go8, ((ji9) : Int).toNat * 4, none⟩ = some (.int .i64 ((rd_T94 y185 (ji9)).f0)) := hcc14 0 _ rfl
                have hx14_1 : World.cell? _ ⟨go8, ((ji9) : Int).toNat * 4 + 1, none⟩ = some (.int .i64 ((rd_T94 y185 (ji9)).f1)) := hcc14 1 _ rfl
                have hx14_2 : World.cell? _ ⟨go8, ((ji9) : Int).toNat * 4 + 2, none⟩ = some (.int .i64 ((rd_T94 y185 (ji9)).f2)) := hcc14 2 _ rfl
                have hx14_3 : World.cell? _ ⟨go8, ((ji9) : Int).toNat * 4 + 3, none⟩ = some (.int .i64 ((rd_T94 y185 (ji9)).f3)) := hcc14 3 _ rfl
                have hf14_0 : World.frozen? _ ⟨go8, ((ji9) : Int).toNat * 4, none⟩ = false := hfr14 0
                have hf14_1 : World.frozen? _ ⟨go8, ((ji9) : Int).toNat * 4 + 1, none⟩ = false := hfr14 1
                have hf14_2 : World.frozen? _ ⟨go8, ((ji9) : Int).toNat * 4 + 2, none⟩ = false := hfr14 2
                have hf14_3 : World.frozen? _ ⟨go8, ((ji9) : Int).toNat * 4 + 3, none⟩ = false := hfr14 3
                clear hcl14 hcc14 hfr14 hM14
                replace p14 := eq_true p14
                replace q14 := eq_true q14
                obtain ⟨ce20, hcl20, hM20, hcc20, hfr20⟩ := Kd.R_elem HO183.out z94 ((ji9) : Int) (of_decide_eq_true (by first | (with_reducible assumption) | assumption)) (by have h_ : ((ji9) : Int) < ((t181.length : Int) : Int) := of_decide_eq_true (by first | (with_reducible assumption) | assumption); first | exact h_ | (have e_ := (Kd.R_reads' HO183.out).1; omega) | simpa using h_)
                obtain rfl := k94_openM hM20
                have HP20 := (Kd.R_seg HO183.out ((ji9) : Int) (of_decide_eq_true (by first | (with_reducible assumption) | assumption)) (by have h_ : ((ji9) : Int) < ((t181.length : Int) : Int) := of_decide_eq_true (by first | (with_reducible assumption) | assumption); first | exact h_ | (have e_ := (Kd.R_reads' HO183.out).1; omega) | simpa using h_) (seg := [.int .i64 9, .int .i64 ((rd_T94 l0 (ji9)).f1), .int .i64 ((rd_T94 l0 (ji9)).f2), .int .i64 ((rd_T94 l0 a1).f1)]) (j := 0) hcl20 hcc20 (show 4 ≤ 4 from by decide) (x' := (⟨9, (rd_T94 l0 (ji9)).f1, (rd_T94 l0 (ji9)).f2, (rd_T94 l0 a1).f1⟩ : S94)) (k94_mkM _ _ _ (⟨9, (rd_T94 l0 (ji9)).f1, (rd_T94 l0 (ji9)).f2, (rd_T94 l0 a1).f1⟩ : S94) ) (fun _ hk => hk)).1
                rw [← Ny189.out] at HP20
                have HQ20 := Aside0.mk HP20
                clear hcl20 hcc20 hfr20 hM20 HP20
                refine start_ (n := 23) (S := fun w' => w'.cell? (ad186.add (((ji9)).toNat * 4)) = some (.int .i64 ((rd_T94 l0 (ji9)).f0)) ∧ w'.cell? ⟨(ad186.add (((ji9)).toNat * 4)).block, (ad186.add (((ji9)).toNat * 4)).off + 1, none⟩ = some (.int .i64 ((rd_T94 l0 (ji9)).f1)) ∧ w'.cell? ⟨(ad186.add (((ji9)).toNat * 4)).block, (ad186.add (((ji9)).toNat * 4)).off + 2, none⟩ = some (.int .i64 ((rd_T94 l0 (ji9)).f2)) ∧ w'.cell? ⟨(ad186.add (((ji9)).toNat * 4)).block, (ad186.add (((ji9)).toNat * 4)).off + 3, none⟩ = some (.int .i64 ((rd_T94 l0 (ji9)).f3)) ∧ w'.cell? (ad186.add (((ji9)).toNat * 4)) = some (.int .i64 ((rd_T94 l0 (ji9)).f0)) ∧ w'.cell? ⟨(ad186.add (((ji9)).toNat * 4)).block, (ad186.add (((ji9)).toNat * 4)).off + 1, none⟩ = some (.int .i64 ((rd_T94 l0 (ji9)).f1)) ∧ w'.cell? ⟨(ad186.add (((ji9)).toNat * 4)).block, (ad186.add (((ji9)).toNat * 4)).off + 2, none⟩ = some (.int .i64 ((rd_T94 l0 (ji9)).f2)) ∧ w'.cell? ⟨(ad186.add (((ji9)).toNat * 4)).block, (ad186.add (((ji9)).toNat * 4)).off + 3, none⟩ = some (.int .i64 ((rd_T94 l0 (ji9)).f3)) ∧ w'.cell? (ad186.add ((a1).toNat * 4)) = some (.int .i64 ((rd_T94 l0 a1).f0)) ∧ w'.cell? ⟨(ad186.add ((a1).toNat * 4)).block, (ad186.add ((a1).toNat * 4)).off + 1, none⟩ = some (.int .i64 ((rd_T94 l0 a1).f1)) ∧ w'.cell? ⟨(ad186.add ((a1).toNat * 4)).block, (ad186.add ((a1).toNat * 4)).off + 2, none⟩ = some (.int .i64 ((rd_T94 l0 a1).f2)) ∧ w'.cell? ⟨(ad186.add ((a1).toNat * 4)).block, (ad186.add ((a1).toNat * 4)).off + 3, none⟩ = some (.int .i64 ((rd_T94 l0 a1).f3))) (ds := [22]) #[false, false, false, false, false, false, false, false, false, false, false, false, false, false, false, false, false, false, false, false, false, false, false] (by kernel_rfl) rfl rfl ⟨((HB.out.cell (World.block_lt_of_cell? w _ hw186_0)).trans hw186_0), ((HB.out.cell (World.block_lt_of_cell? w _ hw186_1)).trans hw186_1), ((HB.out.cell (World.block_lt_of_cell? w _ hw186_2)).trans hw186_2), ((HB.out.cell (World.block_lt_of_cell? w _ hw186_3)).trans hw186_3), ((HB.out.cell (World.block_lt_of_cell? w _ hw187_0)).trans hw187_0), ((HB.out.cell (World.block_lt_of_cell? w _ hw187_1)).trans hw187_1), ((HB.out.cell (World.block_lt_of_cell? w _ hw187_2)).trans hw187_2), ((HB.out.cell (World.block_lt_of_cell? w _ hw187_3)).trans hw187_3), ((HB.out.cell (World.block_lt_of_cell? w _ hw188_0)).trans hw188_0), ((HB.out.cell (World.block_lt_of_cell? w _ hw188_1)).trans hw188_1), ((HB.out.cell (World.block_lt_of_cell? w _ hw188_2)).trans hw188_2), ((HB.out.cell (World.block_lt_of_cell? w _ hw188_3)).trans hw188_3)⟩ (fun hHeld => ?_); refine with_tabW impl_Predicate.tab5 impl_Predicate.bits5 (fun HT_ HW_ => ?_)
                generalize w18.drew = w19 at HO183 HB HQ20 hf14_0 hf14_1 hf14_2 hf14_3 hx14_0 hx14_1 hx14_2 hx14_3 hx186_0 hx186_1 hx186_2 hx186_3 hx187_0 hx187_1 hx187_2 hx187_3 hx188_0 hx188_1 hx188_2 hx188_3 hHeld ⊢
                refine pure_ (i := 0) (N := some 18) (v := ?_) (a' := ?_) #[true, false, false, false, false, false, false, false, false, false, false, false, false, false, false, false, false, false, false, false, false, false, false] rfl rfl (any_of HT_.out (by kernel_rfl)) (fun _ _ _ h => h) (Or.inl ⟨by rfl, ?_⟩) ?_ ?_
                rotate_left
                · intro w'
                  go_simp
                  with_reducible rfl
                rotate_left
                · simp only [Act.put, List.setIfInBounds_toArray, List.set_cons_zero, List.set_cons_succ, i64_w, i32_w]
                  rfl
                refine pure_ (i := 1) (N := some 19) (v := ?_) (a' := ?_) #[true, true, false, false, false, false, false, false, false, false, false, false, false, false, false, false, false, false, false, false, false, false, false] rfl rfl (any_of HT_.out (by kernel_rfl)) (fun _ _ _ h => h) (Or.inl ⟨by rfl, ?_⟩) ?_ ?_
                rotate_left
                · intro w'
                  go_simp
                  with_reducible rfl
                rotate_left
                · simp only [Act.put, List.setIfInBounds_toArray, List.set_cons_zero, List.set_cons_succ, i64_w, i32_w]
                  rfl
                refine pure_ (i := 2) (N := some 20) (v := ?_) (a' := ?_) #[true, true, true, false, false, false, false, false, false, false, false, false, false, false, false, false, false, false, false, false, false, false, false] rfl rfl (any_of HT_.out (by kernel_rfl)) (fun _ _ _ h => h) (Or.inl ⟨by rfl, ?_⟩) ?_ ?_
                rotate_left
                · intro w'
                  go_simp
                  with_reducible rfl
                rotate_left
                · simp only [Act.put, List.setIfInBounds_toArray, List.set_cons_zero, List.set_cons_succ, i64_w, i32_w]
                  rfl
                refine pure_ (i := 3) (N := some 21) (v := ?_) (a' := ?_) #[true, true, true, true, false, false, false, false, false, false, false, false, false, false, false, false, false, false, false, false, false, false, false] rfl rfl (any_of HT_.out (by kernel_rfl)) (fun _ _ _ h => h) (Or.inl ⟨by rfl, ?_⟩) ?_ ?_
                rotate_left
                · intro w'
                  go_simp
                  with_reducible rfl
                rotate_left
                · simp only [Act.put, List.setIfInBounds_toArray, List.set_cons_zero, List.set_cons_succ, i64_w, i32_w]
                  rfl
                refine pure_ (i := 4) (N := some 22) (v := ?_) (a' := ?_) #[true, true, true, true, true, false, false, false, false, false, false, false, false, false, false, false, false, false, false, false, false, false, false] rfl rfl (any_of HT_.out (by kernel_rfl)) (fun _ _ _ h => h) (Or.inl ⟨by rfl, ?_⟩) ?_ ?_
                rotate_left
                · intro w'
                  go_simp
                  with_reducible rfl
                rotate_left
                · simp only [Act.put, List.setIfInBounds_toArray, List.set_cons_zero, List.set_cons_succ, i64_w, i32_w]
                  rfl
                refine pure_ (i := 5) (N := some 23) (v := ?_) (a' := ?_) #[true, true, true, true, true, true, false, false, false, false, false, false, false, false, false, false, false, false, false, false, false, false, false] rfl rfl (any_of HT_.out (by kernel_rfl)) (fun _ _ _ h => h) (Or.inl ⟨by rfl, ?_⟩) ?_ ?_
                rotate_left
                · intro w'
                  go_simp
                  with_reducible rfl
                rotate_left
                · simp only [Act.put, List.setIfInBounds_toArray, List.set_cons_zero, List.set_cons_succ, i64_w, i32_w]
                  rfl
                refine pure_ (i := 6) (N := some 24) (v := ?_) (a' := ?_) #[true, true, true, true, true, true, true, false, false, false, false, false, false, false, false, false, false, false, false, false, false, false, false] rfl rfl (any_of HT_.out (by kernel_rfl)) (fun _ _ _ h => h) (Or.inl ⟨by rfl, ?_⟩) ?_ ?_
                rotate_left
                · intro w'
                  go_simp
                  with_reducible rfl
                rotate_left
                · simp only [Act.put, List.setIfInBounds_toArray, List.set_cons_zero, List.set_cons_succ, i64_w, i32_w]
                  rfl
                refine pure_ (i := 7) (N := some 25) (v := ?_) (a' := ?_) #[true, true, true, true, true, true, true, true, false, false, false, false, false, false, false, false, false, false, false, false, false, false, false] rfl rfl (any_of HT_.out (by kernel_rfl)) (fun _ _ _ h => h) (Or.inl ⟨by rfl, ?_⟩) ?_ ?_
                rotate_left
                · intro w'
                  go_simp
                  with_reducible rfl
                rotate_left
                · simp only [Act.put, List.setIfInBounds_toArray, List.set_cons_zero, List.set_cons_succ, i64_w, i32_w]
                  rfl
                refine pure_ (i := 9) (N := some 27) (v := ?_) (a' := ?_) #[true, true, true, true, true, true, true, true, false, true, false, false, false, false, false, false, false, false, false, false, false, false, false] rfl rfl (any_of HT_.out (by kernel_rfl)) (fun _ _ _ h => h) (Or.inl ⟨by rfl, ?_⟩) ?_ ?_
                rotate_left
                · intro w'
                  go_simp
                  with_reducible rfl
                rotate_left
                · simp only [Act.put, List.setIfInBounds_toArray, List.set_cons_zero, List.set_cons_succ, i64_w, i32_w]
                  rfl
                refine pure_ (i := 10) (N := some 28) (v := ?_) (a' := ?_) #[true, true, true, true, true, true, true, true, false, true, true, false, false, false, false, false, false, false, false, false, false, false, false] rfl rfl (any_of HT_.out (by kernel_rfl)) (fun _ _ _ h => h) (Or.inl ⟨by rfl, ?_⟩) ?_ ?_
                rotate_left
                · intro w'
                  go_simp
                  with_reducible rfl
                rotate_left
                · simp only [Act.put, List.setIfInBounds_toArray, List.set_cons_zero, List.set_cons_succ, i64_w, i32_w]
                  rfl
                refine pure_ (i := 11) (N := some 29) (v := ?_) (a' := ?_) #[true, true, true, true, true, true, true, true, false, true, true, true, false, false, false, false, false, false, false, false, false, false, false] rfl rfl (any_of HT_.out (by kernel_rfl)) (fun _ _ _ h => h) (Or.inl ⟨by rfl, ?_⟩) ?_ ?_
                rotate_left
                · intro w'
                  go_simp
                  with_reducible rfl
                rotate_left
                · simp only [Act.put, List.setIfInBounds_toArray, List.set_cons_zero, List.set_cons_succ, i64_w, i32_w]
                  rfl
                refine pure_ (i := 12) (N := some 30) (v := ?_) (a' := ?_) #[true, true, true, true, true, true, true, true, false, true, true, true, true, false, false, false, false, false, false, false, false, false, false] rfl rfl (any_of HT_.out (by kernel_rfl)) (fun _ _ _ h => h) (Or.inl ⟨by rfl, ?_⟩) ?_ ?_
                rotate_left
                · intro w'
                  go_simp
                  with_reducible rfl
                rotate_left
                · simp only [Act.put, List.setIfInBounds_toArray, List.set_cons_zero, List.set_cons_succ, i64_w, i32_w]
                  rfl
                refine pure_ (i := 13) (N := some 31) (v := ?_) (a' := ?_) #[true, true, true, true, true, true, true, true, false, true, true, true, true, true, false, false, false, false, false, false, false, false, false] rfl rfl (any_of HT_.out (by kernel_rfl)) (fun _ _ _ h => h) (Or.inl ⟨by rfl, ?_⟩) ?_ ?_
                rotate_left
                · intro w'
                  go_simp
                  with_reducible rfl
                rotate_left
                · simp only [Act.put, List.setIfInBounds_toArray, List.set_cons_zero, List.set_cons_succ, i64_w, i32_w]
                  rfl
                refine pure_ (i := 15) (N := some 33) (v := ?_) (a' := ?_) #[true, true, true, true, true, true, true, true, false, true, true, true, true, true, false, true, false, false, false, false, false, false, false] rfl rfl (any_of HT_.out (by kernel_rfl)) (fun _ _ _ h => h) (Or.inl ⟨by rfl, ?_⟩) ?_ ?_
                rotate_left
                · intro w'
                  go_simp
                  with_reducible rfl
                rotate_left
                · simp only [Act.put, List.setIfInBounds_toArray, List.set_cons_zero, List.set_cons_succ, i64_w, i32_w]
                  rfl
                refine pure_ (i := 16) (N := some 34) (v := ?_) (a' := ?_) #[true, true, true, true, true, true, true, true, false, true, true, true, true, true, false, true, true, false, false, false, false, false, false] rfl rfl (any_of HT_.out (by kernel_rfl)) (fun _ _ _ h => h) (Or.inl ⟨by rfl, ?_⟩) ?_ ?_
                rotate_left
                · intro w'
                  go_simp
                  with_reducible rfl
                rotate_left
                · simp only [Act.put, List.setIfInBounds_toArray, List.set_cons_zero, List.set_cons_succ, i64_w, i32_w]
                  rfl
                refine pure_ (i := 17) (N := some 35) (v := ?_) (a' := ?_) #[true, true, true, true, true, true, true, true, false, true, true, true, true, true, false, true, true, true, false, false, false, false, false] rfl rfl (any_of HT_.out (by kernel_rfl)) (fun _ _ _ h => h) (Or.inl ⟨by rfl, ?_⟩) ?_ ?_
                rotate_left
                · intro w'
                  go_simp
                  with_reducible rfl
                rotate_left
                · simp only [Act.put, List.setIfInBounds_toArray, List.set_cons_zero, List.set_cons_succ, i64_w, i32_w]
                  rfl
                refine pure_ (i := 18) (N := some 36) (v := ?_) (a' := ?_) #[true, true, true, true, true, true, true, true, false, true, true, true, true, true, false, true, true, true, true, false, false, false, false] rfl rfl (any_of HT_.out (by kernel_rfl)) (fun _ _ _ h => h) (Or.inl ⟨by rfl, ?_⟩) ?_ ?_
                rotate_left
                · intro w'
                  go_simp
                  with_reducible rfl
                rotate_left
                · simp only [Act.put, List.setIfInBounds_toArray, List.set_cons_zero, List.set_cons_succ, i64_w, i32_w]
                  rfl
                refine take_ (i := 8) (N := some 26) (v := ?_) (a' := ?_) #[true, true, true, true, true, true, true, true, true, true, true, true, true, true, false, true, true, true, true, false, false, false, false] rfl rfl (take_ofW HT_.out HW_.out (by kernel_rfl)) (fun _ _ _ h => h) (Or.inl ⟨by rfl, ?_⟩) hHeld ?_ ?_
                rotate_left
                · rintro w' ⟨s0, s1, s2, s3, s4, s5, s6, s7, s8, s9, s10, s11⟩
                  go_simp
                  with_reducible rfl
                rotate_left
                · simp only [Act.put, List.setIfInBounds_toArray, List.set_cons_zero, List.set_cons_succ, i64_w, i32_w]
                  rfl
                refine take_ (i := 14) (N := some 32) (v := ?_) (a' := ?_) #[true, true, true, true, true, true, true, true, true, true, true, true, true, true, true, true, true, true, true, false, false, false, false] rfl rfl (take_ofW HT_.out HW_.out (by kernel_rfl)) (fun _ _ _ h => h) (Or.inl ⟨by rfl, ?_⟩) hHeld ?_ ?_
                rotate_left
                · rintro w' ⟨s0, s1, s2, s3, s4, s5, s6, s7, s8, s9, s10, s11⟩
                  go_simp
                  with_reducible rfl
                rotate_left
                · simp only [Act.put, List.setIfInBounds_toArray, List.set_cons_zero, List.set_cons_succ, i64_w, i32_w]
                  rfl
                refine take_ (i := 19) (N := some 37) (v := ?_) (a' := ?_) #[true, true, true, true, true, true, true, true, true, true, true, true, true, true, true, true, true, true, true, true, false, false, false] rfl rfl (take_ofW HT_.out HW_.out (by kernel_rfl)) (fun _ _ _ h => h) (Or.inl ⟨by rfl, ?_⟩) hHeld ?_ ?_
                rotate_left
                · rintro w' ⟨s0, s1, s2, s3, s4, s5, s6, s7, s8, s9, s10, s11⟩
                  go_simp
                  with_reducible rfl
                rotate_left
                · simp only [Act.put, List.setIfInBounds_toArray, List.set_cons_zero, List.set_cons_succ, i64_w, i32_w]
                  rfl
                refine pure_ (i := 20) (N := some 38) (v := ?_) (a' := ?_) #[true, true, true, true, true, true, true, true, true, true, true, true, true, true, true, true, true, true, true, true, true, false, false] rfl rfl (any_of HT_.out (by kernel_rfl)) (fun _ _ _ h => h) (Or.inl ⟨by rfl, ?_⟩) ?_ ?_
                rotate_left
                · intro w'
                  go_simp
                  with_reducible rfl
                rotate_left
                · simp only [Act.put, List.setIfInBounds_toArray, List.set_cons_zero, List.set_cons_succ, i64_w, i32_w]
                  rfl
                refine pure_ (i := 21) (N := some 39) (v := ?_) (a' := ?_) #[true, true, true, true, true, true, true, true, true, true, true, true, true, true, true, true, true, true, true, true, true, true, false] rfl rfl (any_of HT_.out (by kernel_rfl)) (fun _ _ _ h => h) (Or.inl ⟨by rfl, ?_⟩) ?_ ?_
                rotate_left
                · intro w'
                  go_simp
                  with_reducible rfl
                rotate_left
                · simp only [Act.put, List.setIfInBounds_toArray, List.set_cons_zero, List.set_cons_succ, i64_w, i32_w]
                  rfl
                refine last_ (i := 22) (N := none) #[true, true, true, true, true, true, true, true, true, true, true, true, true, true, true, true, true, true, true, true, true, true, true] rfl rfl (one_of HT_.out (by kernel_rfl)) (by decide) (fun K hK => ?_)
                refine skip_ (w1 := ?_) (by rfl) rfl ?_ ?_
                rotate_left
                · go_simp
                  rfl
                refine hK.out _ _ ?_
                clear hK K
                refine done_ (done_of HT_.out (by kernel_rfl)) ?_
                try go_wp2
                go_ret2
                exact ⟨_, by first | rfl | (simp [errW_none, errW_some] <;> rfl) | (simp only [← hji9]; first | rfl | (simp [errW_none, errW_some] <;> rfl)) | (simp [*, errW_none, errW_some] <;> rfl), by (with_reducible repeat (first | apply Kd.R_alloc | apply Kd.R_drewN | apply Kd.R_drew)); exact HQ20.out, by repeat (first | (with_reducible first | exact HB.out | apply below_alloc | apply pw_below_drewN | apply below_drew1 | refine below_set ?_ GB8.out | refine below_set ?_ GB8.out | refine below_set ?_ GB8.out | refine below_set ?_ GB8.out) | exact HB.out)⟩
              · rw [if_neg c13] at H
                exact absurd H (by simp)
            · rw [if_neg c12] at H
              exact absurd H (by simp)
          · rw [if_neg c11] at H
            exact absurd H (by simp)
        · rw [if_neg c10] at H
          exact absurd H (by simp)
      · rw [if_neg c7] at H
        exact absurd H (by simp)
    · rw [if_neg c6] at H
      exact absurd H (by simp)
  · replace c5 := Bool.eq_false_iff.mpr c5
    subst c5
    have H1 : (some (t181, false)) = some (r1, r2) := by rw [if_neg (show ¬ (false = true) by decide)] at H; exact H
    clear H
    have H := H1
    clear H1
    simp only [Option.some.injEq, Prod.mk.injEq] at H
    obtain ⟨rfl, rfl⟩ := H
    go_enter Try.func64, Try.ntmps64
    go_wp2_with (first | ((with_reducible refine gate_callee (f := 116) rfl ?_); refine goesL_ (some 8) rfl rfl Try.func116 (by kernel_rfl) rfl #[.slice A0 l0.length c0] rfl (by (try simp only [List.map_toArray, List.map_cons, List.map_nil]); first | done | rfl | (simp only [List.length_drop, List.length_take]; rfl)) ?_; (with_reducible refine (impl_Ins_116.calls _ _ l0 t181 _ ?side1 ?side2 A3.out).mono ?_); (case side1 => repeat (first | exact HR0.out | (with_reducible refine Kd.C_alloc ?_ _) | (with_reducible refine Kd.C_drewN ?_ _) | (with_reducible refine Kd.C_drew ?_))); (case side2 => exact HC0.out); rintro e w21 ⟨v182, rfl, ho0, hb⟩; refine ⟨_, rfl, ?_⟩; have n0_ := Aside0.mk (Kd.R_lower ho0 (below_size (by repeat (first | (with_reducible first | exact HB.out | apply below_alloc | apply pw_below_drewN | apply below_drew1) | exact HB.out)))); have n1_ := Aside0.mk (below_step (by repeat (first | (with_reducible first | exact HB.out | apply below_alloc | apply pw_below_drewN | apply below_drew1) | exact HB.out)) hb); clear HB; have HO183 := n0_; have HB := n1_; clear n0_ n1_; (try clear hb); (try clear hb2); (try clear hk); (try clear hi); (try clear ho0)) | ((with_reducible refine gate_callee (f := 47) rfl ?_); refine goesL_ (some 11) rfl rfl Try.func47 (by kernel_rfl) rfl #[.slice A0 l0.length c0, .int .i64 a1] rfl (by (try simp only [List.map_toArray, List.map_cons, List.map_nil]); first | done | rfl | (simp only [List.length_drop, List.length_take]; rfl)) ?_; (with_reducible refine (impl_CanPredicate.calls _ _ l0 a1 false _ ?side1 ?side2 A4.out).mono ?_); (case side1 => repeat (first | exact (Kd.C_below HR0.out HB.out) | (with_reducible refine Kd.C_alloc ?_ _) | (with_reducible refine Kd.C_drewN ?_ _) | (with_reducible refine Kd.C_drew ?_))); (case side2 => exact HC0.out); rintro e w22 ⟨rfl, hb⟩; refine ⟨_, rfl, ?_⟩; have n0_ := Aside0.mk (Kd.R_below (by (with_reducible repeat (first | apply Kd.R_alloc | apply Kd.R_drewN | apply Kd.R_drew)); exact HO183.out) hb); have n1_ := Aside0.mk (below_step (by repeat (first | (with_reducible first | exact HB.out | apply below_alloc | apply pw_below_drewN | apply below_drew1) | exact HB.out)) hb); clear HO183; clear HB; have HO183 := n0_; have HB := n1_; clear n0_ n1_; (try clear hb); (try clear hb2); (try clear hk); (try clear hi)))
    go_ret2
    exact ⟨_, by first | rfl | (simp [errW_none, errW_some] <;> rfl) | (simp [*, errW_none, errW_some] <;> rfl), by (with_reducible repeat (first | apply Kd.R_alloc | apply Kd.R_drewN | apply Kd.R_drew)); exact HO183.out, by repeat (first | (with_reducible first | exact HB.out | apply below_alloc | apply pw_below_drewN | apply below_drew1) | exact HB.out)⟩

end Go.Proofs.Ytcmimgoghmeliaa.PFnExactPredicate
