-- Written by myprint.py (a program of this session, over the kit's print): not trusted, Lean checks it.
import Derived.Test.YtcmimgoghmeliaaPFnExactCanPredicatex0
import Derived.Test.YtcmimgoghmeliaaPFnExactCanPredicatex5
import Derived.Test.YtcmimgoghmeliaaPFnExactCanPredicatex6
namespace Go.Proofs.Ytcmimgoghmeliaa.PFnExactCanPredicate
open Go.RowKit Go.Proofs.YtcmimgoghmeliaaW.PrintWords Go.Proofs.YtcmimgoghmeliaaW.PrintLast Go.Proofs.YtcmimgoghmeliaaW.PrintMore
attribute [local go_sem] max2_int min2_int max_two min_two max_three min_three max_four min_four   -- for this text's walks alone
set_option linter.unusedVariables false
set_option linter.unusedSimpArgs false

/-! ### impl_ProgramOk: function 114 -/
def insOkAt (n : Int) (x : S94) : Option Bool := impl_InsOk.f x.f0 x.f1 x.f2 x.f3 n
def impl_ProgramOk.f (l0 : List S94) : Option (Bool) := if (l0.all fun x => (insOkAt (l0.length : Int) x).isSome) = true then some (decide (l0.length ≤ 32) && l0.all fun x => insOkAt (l0.length : Int) x == some true) else none
set_option maxHeartbeats 2000000 in
theorem impl_ProgramOk.fn (A0 : Option Addr) (c0 : Nat) (l0 : List S94) (g : Nat) (x : S94) (w : World) (hg : w.heap[g]? = some (.cells #[.slice A0 l0.length c0] 57 (0, 0))) (hs : (insOkAt (l0.length : Int) x).isSome = true) :
    Calls Try.prog 136 #[.agg #[.int .i64 x.f0, .int .i64 x.f1, .int .i64 x.f2, .int .i64 x.f3], .pointer (some ⟨g, 0, none⟩)] w fun e w' => e = .returned (.bool (!(insOkAt (l0.length : Int) x == some true))) ∧ Below w.heap.size w w' := by
  obtain ⟨b, hb⟩ := Option.isSome_iff_exists.1 hs
  have e1 : (!(insOkAt (l0.length : Int) x == some true)) = !b := by rw [hb]; cases b <;> rfl
  rw [e1]
  have HG := Aside0.mk hg
  have HI := Aside0.mk (show impl_InsOk.f x.f0 x.f1 x.f2 x.f3 (l0.length : Int) = some b from hb)
  clear e1 hb hs hg
  have hu94 := Try.underlying94
  obtain ⟨y0, y1, y2, y3⟩ := x
  go_enter Try.func136, Try.ntmps136
  go_wp2_with (first | ((with_reducible refine gate_dst (N := 2) rfl ?_); refine box_event ?hg (N := 2) ?hd (cs := #[.int .i64 y0, .int .i64 y1, .int .i64 y2, .int .i64 y3]) (t := 94) ?hr ?_; (case hd => rfl); (case hg => rfl); (case hr => first | (go_simp; done) | (go_simp; rfl)); intro gb hgb w1 hbox hb; have HB := Aside0.mk hb; have hcap := one_cellI (blk_underI HG.out hb); have hz0 : w1.cell? ⟨gb, 0, none⟩ = some (.int .i64 y0) := (blk_cell hbox 0).trans rfl; have hz1 : w1.cell? ⟨gb, 1, none⟩ = some (.int .i64 y1) := (blk_cell hbox 1).trans rfl; have hz2 : w1.cell? ⟨gb, 2, none⟩ = some (.int .i64 y2) := (blk_cell hbox 2).trans rfl; have hz3 : w1.cell? ⟨gb, 3, none⟩ = some (.int .i64 y3) := (blk_cell hbox 3).trans rfl; clear hgb hb hbox) | (go_at_call 137; (with_reducible refine (impl_InsOk.calls y0 y1 y2 y3 (l0.length : Int) b _ HI.out).mono ?_); rintro e w' ⟨rfl, hb2⟩; have HB2 := Aside0.mk hb2; clear hb2))
  go_ret
  exact ⟨rfl, below_step HB.out HB2.out⟩
set_option maxHeartbeats 1000000 in
set_option maxRecDepth 100000 in
theorem impl_ProgramOk.calls (A0 : Option Addr) (c0 : Nat) (l0 : List S94) (r : Bool) (w : World) (hr0 : Kd.C k94 w A0 l0.length l0) (hc0 : l0.length ≤ c0) (h : impl_ProgramOk.f l0 = some r) :
    Calls Try.prog 114 #[.slice A0 l0.length c0] w fun e w' => e = .returned (.bool r) ∧ Below w.heap.size w w' := by
  unfold impl_ProgramOk.f at h
  by_cases hs : (l0.all fun x => (insOkAt (l0.length : Int) x).isSome) = true
  · rw [if_pos hs] at h
    obtain rfl := Option.some.inj h
    have HS := Aside0.mk (List.all_eq_true.1 hs)
    have HR := Aside0.mk hr0
    clear hs h hr0
    by_cases h32 : l0.length ≤ 32
    · have hd : decide ((l0.length : Int) ≤ 32) = true := decide_eq_true (by omega)
      have hd2 : decide (l0.length ≤ 32) = true := decide_eq_true h32
      have eg := enters_of Try.func136 (by kernel_rfl) rfl
      have HF := Aside0.mk (fun (gb : Nat) (w1 : World) (hb : Below w.heap.size w w1) (hx : w1.heap[gb]? = some (.cells #[.slice A0 l0.length c0] 57 (0, 0))) =>
        containsFunc_ins (Below w1.heap.size w1) 136 #[.pointer (some ⟨gb, 0, none⟩)] eg (fun x => !(insOkAt (l0.length : Int) x == some true)) A0 c0 l0 w1 (Below.refl _ _)
          (fun W hW => Kd.C_below HR.out (below_step hb hW)) (fun x hx1 W hW => (impl_ProgramOk.fn A0 c0 l0 gb x W (blk_underI hx hW) (HS.out x hx1)).mono fun e W' ⟨he, h2⟩ => ⟨he, below_step hW h2⟩))
      have HN := Aside0.mk (not_any_notI (fun x => insOkAt (l0.length : Int) x == some true) l0)
      clear eg
      rw [hd2, Bool.true_and]
      go_enter Try.func114, Try.ntmps114
      go_wp2_with (first | ((with_reducible refine gate_dst (N := 1) rfl ?_); refine box_event ?hg (N := 1) ?hd (cs := #[.slice A0 l0.length c0]) (t := 57) ?hr ?_; (case hd => rfl); (case hg => rfl); (case hr => first | (go_simp; done) | (go_simp; rfl)); intro gb hgb w1 hbox hb; have HB := Aside0.mk hb; have HX := Aside0.mk hbox; have hcell := one_cellI hbox; clear hgb hb hbox) | (go_at_call 100; refine (HF.out gb _ HB.out HX.out).mono ?_; rintro e w' ⟨rfl, hb2⟩; have HB2 := Aside0.mk hb2; clear hb2))
      go_ret
      exact ⟨by rw [← HN.out]; rfl, below_step HB.out HB2.out⟩
    · have hd : decide ((l0.length : Int) ≤ 32) = false := decide_eq_false (by omega)
      have hd2 : decide (l0.length ≤ 32) = false := decide_eq_false h32
      rw [hd2, Bool.false_and]
      go_enter Try.func114, Try.ntmps114
      go_wp2_with (first | ((with_reducible refine gate_dst (N := 1) rfl ?_); refine box_event ?hg (N := 1) ?hd (cs := #[.slice A0 l0.length c0]) (t := 57) ?hr ?_; (case hd => rfl); (case hg => rfl); (case hr => first | (go_simp; done) | (go_simp; rfl)); intro gb hgb w1 hbox hb; have HB := Aside0.mk hb; have HX := Aside0.mk hbox; have hcell := one_cellI hbox; clear hgb hb hbox))
      go_ret
      exact ⟨rfl, HB.out⟩
  · rw [if_neg hs] at h
    exact absurd h (by simp)

/-! ### impl_IsLocal: function 131 -/
def impl_IsLocal.f (a0_0 : Int) (a0_1 : Int) (a0_2 : Int) (a0_3 : Int) : Option (Bool) := (impl_within.f a0_0 0 12).bind fun t163 => (some t163)
set_option maxHeartbeats 8000000 in
set_option maxRecDepth 100000 in
theorem impl_IsLocal.calls (a0_0 : Int) (a0_1 : Int) (a0_2 : Int) (a0_3 : Int) (r : Bool) (w : World) (h : impl_IsLocal.f a0_0 a0_1 a0_2 a0_3 = some r) :
    Calls Try.prog 131 #[.agg #[.int .i64 a0_0, .int .i64 a0_1, .int .i64 a0_2, .int .i64 a0_3]] w fun e w' => e = .returned (.bool r) ∧ Below w.heap.size w w' := by
  have hu94 := Try.underlying94
  have HB := Aside0.mk (Below.refl w.heap.size w)
  have H : ((impl_within.f a0_0 0 12).bind fun t163 => (some t163)) = some r := h
  clear h
  replace H := Option.bind_eq_some_iff.mp H
  obtain ⟨t163, A20, H⟩ := H
  replace H : (some t163) = some r := H
  have A2 := Aside0.mk A20
  clear A20
  obtain rfl := Option.some.inj H
  go_enter Try.func131, Try.ntmps131
  go_wp2_with (first | ((with_reducible refine gate_dst (N := 1) rfl ?_); refine box_event ?hg (N := 1) ?hd (cs := #[.int .i64 a0_0, .int .i64 a0_1, .int .i64 a0_2, .int .i64 a0_3]) (t := 94) ?hr ?_; (case hd => rfl); (case hg => rfl); (case hr => first | (go_simp; done) | (go_simp; rfl)); intro gb162 hg w3 hbox hb; have n0_ := Aside0.mk (below_step (by repeat (first | (with_reducible first | exact HB.out | apply below_alloc | apply pw_below_drewN | apply below_drew1) | exact HB.out)) hb); have n1_ := Aside0.mk (hbox); have n2_ := Aside0.mk ((by rw [hg]; exact (below_size (by repeat (first | (with_reducible first | exact HB.out | apply below_alloc | apply pw_below_drewN | apply below_drew1) | exact HB.out))) : w.heap.size ≤ gb162)); have n3_ := Aside0.mk ((by rw [hg]; exact (below_size (by repeat (first | (with_reducible first | exact HB.out | apply below_alloc | apply pw_below_drewN | apply below_drew1) | exact HB.out))) : w.heap.size ≤ gb162)); clear HB; have HB := n0_; have BK162 := n1_; have GW162 := n2_; have GE162 := n3_; clear n0_ n1_ n2_ n3_; clear hb hbox hg; have hcz4_0 : w3.cell? ⟨gb162, 0, none⟩ = some (.int .i64 a0_0) := (blk_cell BK162.out 0).trans rfl; have hcz4_1 : w3.cell? ⟨gb162, 1, none⟩ = some (.int .i64 a0_1) := (blk_cell BK162.out 1).trans rfl; have hcz4_2 : w3.cell? ⟨gb162, 2, none⟩ = some (.int .i64 a0_2) := (blk_cell BK162.out 2).trans rfl; have hcz4_3 : w3.cell? ⟨gb162, 3, none⟩ = some (.int .i64 a0_3) := (blk_cell BK162.out 3).trans rfl; have hfz4_0 := blk_frozen BK162.out 0; have hfz4_1 := blk_frozen BK162.out 1; have hfz4_2 := blk_frozen BK162.out 2; have hfz4_3 := blk_frozen BK162.out 3) | ((with_reducible refine gate_callee (f := 99) rfl ?_); refine goesL_ (some 5) rfl rfl Try.func99 (by kernel_rfl) rfl #[.int .i64 a0_0, .int .i64 0, .int .i64 12] rfl (by (try simp only [List.map_toArray, List.map_cons, List.map_nil]); first | done | rfl | (simp only [List.length_drop, List.length_take]; rfl)) ?_; (with_reducible refine (impl_within.calls a0_0 0 12 t163 _ A2.out).mono ?_); rintro e w' ⟨rfl, ⟨nd, rfl⟩⟩; refine ⟨_, rfl, ?_⟩))
  go_ret
  exact ⟨by first | rfl | (simp [errW_none, errW_some] <;> rfl) | (simp [*, errW_none, errW_some] <;> rfl), by repeat (first | (with_reducible first | exact HB.out | apply below_alloc | apply pw_below_drewN | apply below_drew1 | refine below_set ?_ GE162.out) | exact HB.out)⟩

/-! ### impl_IsQuiet: function 98 -/
def isLocalAt (x : S94) : Option Bool := impl_IsLocal.f x.f0 x.f1 x.f2 x.f3
def impl_IsQuiet.f (l0 : List S94) : Option (Bool) := (impl_ProgramOk.f l0).bind fun t => if t = true then (if (l0.all fun x => (isLocalAt x).isSome) = true then some (l0.all fun x => isLocalAt x == some true) else none) else some false
set_option maxHeartbeats 2000000 in
theorem impl_IsQuiet.fn (x : S94) (w : World) (hs : (isLocalAt x).isSome = true) :
    Calls Try.prog 130 #[.agg #[.int .i64 x.f0, .int .i64 x.f1, .int .i64 x.f2, .int .i64 x.f3]] w fun e w' => e = .returned (.bool (!(isLocalAt x == some true))) ∧ Below w.heap.size w w' := by
  obtain ⟨b, hb⟩ := Option.isSome_iff_exists.1 hs
  have e1 : (!(isLocalAt x == some true)) = !b := by rw [hb]; cases b <;> rfl
  rw [e1]
  have HI := Aside0.mk (show impl_IsLocal.f x.f0 x.f1 x.f2 x.f3 = some b from hb)
  clear e1 hb hs
  have hu94 := Try.underlying94
  obtain ⟨y0, y1, y2, y3⟩ := x
  go_enter Try.func130, Try.ntmps130
  go_wp2_with (first | ((with_reducible refine gate_dst (N := 1) rfl ?_); refine box_event ?hg (N := 1) ?hd (cs := #[.int .i64 y0, .int .i64 y1, .int .i64 y2, .int .i64 y3]) (t := 94) ?hr ?_; (case hd => rfl); (case hg => rfl); (case hr => first | (go_simp; done) | (go_simp; rfl)); intro gb hgb w1 hbox hb; have HB := Aside0.mk hb; have hz0 : w1.cell? ⟨gb, 0, none⟩ = some (.int .i64 y0) := (blk_cell hbox 0).trans rfl; have hz1 : w1.cell? ⟨gb, 1, none⟩ = some (.int .i64 y1) := (blk_cell hbox 1).trans rfl; have hz2 : w1.cell? ⟨gb, 2, none⟩ = some (.int .i64 y2) := (blk_cell hbox 2).trans rfl; have hz3 : w1.cell? ⟨gb, 3, none⟩ = some (.int .i64 y3) := (blk_cell hbox 3).trans rfl; clear hgb hb hbox) | (go_at_call 131; (with_reducible refine (impl_IsLocal.calls y0 y1 y2 y3 b _ HI.out).mono ?_); rintro e w' ⟨rfl, hb2⟩; have HB2 := Aside0.mk hb2; clear hb2))
  go_ret
  exact ⟨rfl, below_step HB.out HB2.out⟩
set_option maxHeartbeats 1000000 in
set_option maxRecDepth 100000 in
theorem impl_IsQuiet.calls (A0 : Option Addr) (c0 : Nat) (l0 : List S94) (r : Bool) (w : World) (hr0 : Kd.C k94 w A0 l0.length l0) (hc0 : l0.length ≤ c0) (h : impl_IsQuiet.f l0 = some r) :
    Calls Try.prog 98 #[.slice A0 l0.length c0] w fun e w' => e = .returned (.bool r) ∧ Below w.heap.size w w' := by
  obtain ⟨t, ht, h⟩ := Option.bind_eq_some_iff.mp h
  have A1 := Aside0.mk ht
  have HR := Aside0.mk hr0
  have HC := Aside0.mk hc0
  clear ht hr0 hc0
  cases t with
  | false =>
    obtain rfl := Option.some.inj h
    go_enter Try.func98, Try.ntmps98
    go_wp2_with (go_at_call 114; (with_reducible refine (impl_ProgramOk.calls A0 c0 l0 false _ HR.out HC.out A1.out).mono ?_); rintro e w1 ⟨rfl, hb⟩; have HB := Aside0.mk hb; clear hb)
    go_ret
    exact ⟨rfl, HB.out⟩
  | true =>
    replace h := (if_pos rfl).symm.trans h
    by_cases hs : (l0.all fun x => (isLocalAt x).isSome) = true
    · rw [if_pos hs] at h
      obtain rfl := Option.some.inj h
      have HS := Aside0.mk (List.all_eq_true.1 hs)
      clear hs h
      have eg := enters_of Try.func130 (by kernel_rfl) rfl
      have HF := Aside0.mk (fun (w1 : World) (hb : Below w.heap.size w w1) =>
        containsFunc_ins (Below w1.heap.size w1) 130 #[] eg (fun x => !(isLocalAt x == some true)) A0 c0 l0 w1 (Below.refl _ _)
          (fun W hW => Kd.C_below HR.out (below_step hb hW)) (fun x hx1 W hW => (impl_IsQuiet.fn x W (HS.out x hx1)).mono fun e W' ⟨he, h2⟩ => ⟨he, below_step hW h2⟩))
      have HN := Aside0.mk (not_any_notI (fun x => isLocalAt x == some true) l0)
      clear eg
      go_enter Try.func98, Try.ntmps98
      go_wp2_with (first | (go_at_call 114; (with_reducible refine (impl_ProgramOk.calls A0 c0 l0 true _ HR.out HC.out A1.out).mono ?_); rintro e w1 ⟨rfl, hb⟩; have HB := Aside0.mk hb; clear hb) | (go_at_call 100; refine (HF.out _ HB.out).mono ?_; rintro e w' ⟨rfl, hb2⟩; have HB2 := Aside0.mk hb2; clear hb2))
      go_ret
      exact ⟨by rw [← HN.out]; rfl, below_step HB.out HB2.out⟩
    · rw [if_neg hs] at h
      exact absurd h (by simp)

/-! ### impl_isTarget: function 102 -/
def impl_isTarget.f (a0 : Int) : Option (Bool) := if a0 = 10 then (some true) else (some (a0 == 11))
set_option maxHeartbeats 8000000 in
set_option maxRecDepth 100000 in
theorem impl_isTarget.calls (a0 : Int) (r : Bool) (w : World) (h : impl_isTarget.f a0 = some r) :
    Calls Try.prog 102 #[.int .i64 a0] w fun e w' => e = .returned (.bool r) ∧ Drawn0 w w' := by
  have H : (if a0 = 10 then (some true) else (some (a0 == 11))) = some r := h
  clear h
  by_cases c2 : a0 = 10
  · rw [if_pos c2] at H
    have c2b0 : (a0 == 10) = true := beq_iff_eq.mpr c2
    have c2b1 : (a0 != 10) = false := bne_eq_false_iff_eq.mpr c2
    clear c2
    obtain rfl := Option.some.inj H
    go_enter Try.func102, Try.ntmps102
    go_wp2
    go_ret
    exact ⟨by first | rfl | (simp; done) | (simp [*]; done), by repeat (first | exact Drawn0.refl _ | apply Drawn0.step)⟩
  · rw [if_neg c2] at H
    have c2b0 : (a0 == 10) = false := beq_eq_false_iff_ne.mpr c2
    have c2b1 : (a0 != 10) = true := bne_iff_ne.mpr c2
    obtain rfl := Option.some.inj H
    go_enter Try.func102, Try.ntmps102
    go_wp2
    go_ret
    exact ⟨by first | rfl | (simp; done) | (simp [*]; done), by repeat (first | exact Drawn0.refl _ | apply Drawn0.step)⟩

/-! ### impl_CanPredicate: function 47 -/
def twoW (D : World) (n : Nat) (T : TypeId) (o c0 c1 c2 c3 d0 d1 d2 d3 : Value) : World := (((((D.alloc (.cells #[o, o, o, o] T)).setCell ⟨n, 0, none⟩ c0).setCell ⟨n, 1, none⟩ c1).setCell ⟨n, 2, none⟩ c2).setCell ⟨n, 3, none⟩ c3).alloc (.cells #[d0, d1, d2, d3] T)
theorem twoW_eq (D : World) (T : TypeId) (o c0 c1 c2 c3 d0 d1 d2 d3 : Value) : twoW D D.heap.size T o c0 c1 c2 c3 d0 d1 d2 d3 = (D.alloc (.cells #[c0, c1, c2, c3] T)).alloc (.cells #[d0, d1, d2, d3] T) := by
  unfold twoW
  simp only [World.setCell_alloc_new]
  rfl
theorem twoW_first (D : World) (T : TypeId) (o c0 c1 c2 c3 d0 d1 d2 d3 : Value) (j : Nat) : (twoW D D.heap.size T o c0 c1 c2 c3 d0 d1 d2 d3).cell? ⟨D.heap.size, j, none⟩ = #[c0, c1, c2, c3][j]? := by
  rw [twoW_eq]; exact World.cell?_alloc2_first _ _ _ _
theorem twoW_second (D : World) (T : TypeId) (o c0 c1 c2 c3 d0 d1 d2 d3 : Value) (j : Nat) : (twoW D D.heap.size T o c0 c1 c2 c3 d0 d1 d2 d3).cell? ⟨D.heap.size + 1, j, none⟩ = #[d0, d1, d2, d3][j]? := by
  rw [twoW_eq]; exact World.cell?_alloc2_new _ _ _ _
theorem twoW_below (D : World) (T : TypeId) (o c0 c1 c2 c3 d0 d1 d2 d3 : Value) : Below D.heap.size D (twoW D D.heap.size T o c0 c1 c2 c3 d0 d1 d2 d3) := by
  rw [twoW_eq]
  repeat (first | exact Below.refl _ _ | apply below_alloc)
def tgtAt (a : Int) (x : S94) : Bool := (x.f0 == 10 || x.f0 == 11) && x.f2 == wrap64 (a + 1)
def canB (l : List S94) (a : Int) : Bool := (rd_T94 l a).f0 == 10 && ((rd_T94 l a).f2 == wrap64 (a + 2) && ((rd_T94 l (wrap64 (a + 1))).f0 == 2 && ((rd_T94 l (wrap64 (a + 1))).f1 != (rd_T94 l a).f1 && !(l.any (tgtAt a)))))
def impl_CanPredicate.f (l0 : List S94) (a1 : Int) : Option (Bool) := (impl_IsQuiet.f l0).bind fun t => if t = true then ((impl_within.f a1 0 (wrap64 ((l0.length : Int) - 2))).bind fun u => if u = true then (if 0 ≤ a1 ∧ a1 + 1 < (l0.length : Int) ∧ l0.length ≤ 32 then some (canB l0 a1) else none) else some false) else some false
theorem impl_isTarget_eq (x : Int) : impl_isTarget.f x = some (x == 10 || x == 11) := by
  unfold impl_isTarget.f
  by_cases h : x = 10
  · rw [if_pos h]; simp [h]
  · rw [if_neg h]; simp [h]
set_option maxHeartbeats 2000000 in
theorem impl_CanPredicate.fn (a1 : Int) (g : Nat) (x : S94) (w : World) (hg : w.heap[g]? = some (.cells #[.int .i64 a1] 3 (0, 0))) :
    Calls Try.prog 101 #[.agg #[.int .i64 x.f0, .int .i64 x.f1, .int .i64 x.f2, .int .i64 x.f3], .pointer (some ⟨g, 0, none⟩)] w fun e w' => e = .returned (.bool (tgtAt a1 x)) ∧ Below w.heap.size w w' := by
  have HG := Aside0.mk hg
  clear hg
  have hu94 := Try.underlying94
  obtain ⟨y0, y1, y2, y3⟩ := x
  have HI := Aside0.mk (impl_isTarget_eq y0)
  show Calls _ _ _ _ fun e w' => e = .returned (.bool ((y0 == 10 || y0 == 11) && y2 == wrap64 (a1 + 1))) ∧ _
  by_cases hc : (y0 == 10 || y0 == 11) = true
  · rw [hc] at HI ⊢
    clear hc
    rw [Bool.true_and]
    go_enter Try.func101, Try.ntmps101
    go_wp2_with (first | ((with_reducible refine gate_dst (N := 2) rfl ?_); refine box_event ?hg (N := 2) ?hd (cs := #[.int .i64 y0, .int .i64 y1, .int .i64 y2, .int .i64 y3]) (t := 94) ?hr ?_; (case hd => rfl); (case hg => rfl); (case hr => first | (go_simp; done) | (go_simp; rfl)); intro gb hgb w1 hbox hb; have HB := Aside0.mk hb; have hcap := one_cellI (blk_underI HG.out hb); have hz0 : w1.cell? ⟨gb, 0, none⟩ = some (.int .i64 y0) := (blk_cell hbox 0).trans rfl; have hz2 : w1.cell? ⟨gb, 2, none⟩ = some (.int .i64 y2) := (blk_cell hbox 2).trans rfl; have HX := Aside0.mk hbox; clear hgb hb hbox) | (go_at_call 102; (with_reducible refine (impl_isTarget.calls y0 true _ HI.out).mono ?_); rintro e w' ⟨rfl, ⟨nd, rfl⟩⟩))
    go_ret
    exact ⟨rfl, by repeat (first | exact HB.out | apply pw_below_drewN | apply below_drew1)⟩
  · have hc2 : (y0 == 10 || y0 == 11) = false := by simpa using hc
    rw [hc2] at HI ⊢
    clear hc hc2
    rw [Bool.false_and]
    go_enter Try.func101, Try.ntmps101
    go_wp2_with (first | ((with_reducible refine gate_dst (N := 2) rfl ?_); refine box_event ?hg (N := 2) ?hd (cs := #[.int .i64 y0, .int .i64 y1, .int .i64 y2, .int .i64 y3]) (t := 94) ?hr ?_; (case hd => rfl); (case hg => rfl); (case hr => first | (go_simp; done) | (go_simp; rfl)); intro gb hgb w1 hbox hb; have HB := Aside0.mk hb; have hcap := one_cellI (blk_underI HG.out hb); have hz0 : w1.cell? ⟨gb, 0, none⟩ = some (.int .i64 y0) := (blk_cell hbox 0).trans rfl; have hz2 : w1.cell? ⟨gb, 2, none⟩ = some (.int .i64 y2) := (blk_cell hbox 2).trans rfl; clear hgb hb hbox) | (go_at_call 102; (with_reducible refine (impl_isTarget.calls y0 false _ HI.out).mono ?_); rintro e w' ⟨rfl, ⟨nd, rfl⟩⟩))
    go_ret
    exact ⟨rfl, by repeat (first | exact HB.out | apply pw_below_drewN | apply below_drew1)⟩
set_option maxHeartbeats 4000000 in
set_option maxRecDepth 100000 in
theorem impl_CanPredicate.calls (A0 : Option Addr) (c0 : Nat) (l0 : List S94) (a1 : Int) (r : Bool) (w : World) (hr0 : Kd.C k94 w A0 l0.length l0) (hc0 : l0.length ≤ c0) (h : impl_CanPredicate.f l0 a1 = some r) :
    Calls Try.prog 47 #[.slice A0 l0.length c0, .int .i64 a1] w fun e w' => e = .returned (.bool r) ∧ Below w.heap.size w w' := by
  obtain ⟨t, ht, h⟩ := Option.bind_eq_some_iff.mp h
  have A1 := Aside0.mk ht
  have HR := Aside0.mk hr0
  have HC := Aside0.mk hc0
  have hu94 := Try.underlying94
  clear ht hr0 hc0
  cases t with
  | false =>
    obtain rfl := Option.some.inj h
    go_enter Try.func47, Try.ntmps47
    go_wp2_with (first | ((with_reducible refine gate_dst (N := 3) rfl ?_); refine box_event ?hg (N := 3) ?hd (cs := #[.int .i64 a1]) (t := 3) ?hr ?_; (case hd => rfl); (case hg => rfl); (case hr => first | (go_simp; done) | (go_simp; rfl)); intro gb hgb w1 hbox hb; have HB := Aside0.mk hb; have HX := Aside0.mk hbox; have hcell := one_cellI hbox; clear hgb hb hbox) | (go_at_call 98; (with_reducible refine (impl_IsQuiet.calls A0 c0 l0 false _ (by exact Kd.C_below HR.out HB.out) HC.out A1.out).mono ?_); rintro e w2 ⟨rfl, hb⟩; have HB2 := Aside0.mk hb; have hcell2 := one_cellI (blk_underI HX.out hb); clear hb))
    go_ret
    exact ⟨rfl, below_step HB.out HB2.out⟩
  | true =>
    replace h := (if_pos rfl).symm.trans h
    obtain ⟨u, hu, h⟩ := Option.bind_eq_some_iff.mp h
    have A2 := Aside0.mk hu
    clear hu
    cases u with
    | false =>
      obtain rfl := Option.some.inj h
      go_enter Try.func47, Try.ntmps47
      go_wp2_with (first | ((with_reducible refine gate_dst (N := 3) rfl ?_); refine box_event ?hg (N := 3) ?hd (cs := #[.int .i64 a1]) (t := 3) ?hr ?_; (case hd => rfl); (case hg => rfl); (case hr => first | (go_simp; done) | (go_simp; rfl)); intro gb hgb w1 hbox hb; have HB := Aside0.mk hb; have HX := Aside0.mk hbox; have hcell := one_cellI hbox; clear hgb hb hbox) | (go_at_call 98; (with_reducible refine (impl_IsQuiet.calls A0 c0 l0 true _ (by exact Kd.C_below HR.out HB.out) HC.out A1.out).mono ?_); rintro e w2 ⟨rfl, hb⟩; have HB2 := Aside0.mk hb; have hcell2 := one_cellI (blk_underI HX.out hb); clear hb) | (go_at_call 99; (with_reducible refine (impl_within.calls a1 0 (wrap64 ((l0.length : Int) - 2)) false _ A2.out).mono ?_); rintro e w' ⟨rfl, ⟨nd, rfl⟩⟩))
      go_ret
      exact ⟨rfl, by repeat (first | exact below_step HB.out HB2.out | apply pw_below_drewN | apply below_drew1)⟩
    | true =>
      replace h := (if_pos rfl).symm.trans h
      by_cases hk : 0 ≤ a1 ∧ a1 + 1 < (l0.length : Int) ∧ l0.length ≤ 32
      · rw [if_pos hk] at h
        have HRr := Aside0.mk (Option.some.inj h)
        clear h
        have HK := Aside0.mk hk
        clear hk
        go_enter Try.func47, Try.ntmps47
        go_wp2_with (first | ((with_reducible refine gate_dst (N := 3) rfl ?_); refine box_event ?hg (N := 3) ?hd (cs := #[.int .i64 a1]) (t := 3) ?hr ?_; (case hd => rfl); (case hg => rfl); (case hr => first | (go_simp; done) | (go_simp; rfl)); intro gb hgb w1 hbox hb; have HB := Aside0.mk hb; have HX := Aside0.mk hbox; have hcell := one_cellI hbox; clear hgb hb hbox) | (go_at_call 98; (with_reducible refine (impl_IsQuiet.calls A0 c0 l0 true _ (by exact Kd.C_below HR.out HB.out) HC.out A1.out).mono ?_); rintro e w2 ⟨rfl, hb⟩; have HB2 := Aside0.mk hb; have hcell2 := one_cellI (blk_underI HX.out hb); clear hb) | (go_at_call 99; (with_reducible refine (impl_within.calls a1 0 (wrap64 ((l0.length : Int) - 2)) true _ A2.out).mono ?_); rintro e w' ⟨rfl, ⟨nd, rfl⟩⟩))
        obtain ⟨h0, h1, h32⟩ := HK.out
        have HW := Aside0.mk (show wrap64 (a1 + 1) = a1 + 1 by unfold wrap64; omega)
        have hwr : IntKind.i64.wrap (a1 + 1) = a1 + 1 := by rw [i64_w]; exact HW.out
        have q1 : a1 < (l0.length : Int) := by omega
        have q2 : 0 ≤ a1 + 1 := by omega
        have q3 : a1 + 1 < (l0.length : Int) := h1
        have HC2 := Aside0.mk (Kd.C_below HR.out (below_step HB.out HB2.out))
        obtain ⟨ad, ea, hx0, hx1, hx2, hx3⟩ := at_T94 HC2.out a1 h0 q1
        cases ea
        obtain ⟨ad2, ea2, hy0, hy1, hy2, hy3⟩ := at_T94 HC2.out (a1 + 1) q2 q3
        cases ea2
        generalize hv : rd_T94 l0 a1 = y at hx0 hx1 hx2 hx3
        generalize hz : rd_T94 l0 (a1 + 1) = z at hy0 hy1 hy2 hy3
        have HV := Aside0.mk hv
        have HZ := Aside0.mk hz
        clear hv hz h1 h32
        have HS := Aside0.mk (below_step HB.out HB2.out)
        have sz1 : gb < w2.heap.size := World.block_lt_of_cell? _ _ hcell2
        have U1 : ∀ (o : Obj) (a : Addr) (v : Value), w2.cell? a = some v → ((w2.drewN (nd + 1)).alloc o).cell? a = some v := fun o a v hh => (World.cell?_alloc_lt (w2.drewN (nd + 1)) o a (World.block_lt_of_cell? w2 a hh)).trans hh
        have U2 : ∀ (o1 o2 : Obj) (a : Addr) (v : Value), w2.cell? a = some v → (((w2.drewN (nd + 1)).alloc o1).alloc o2).cell? a = some v := fun o1 o2 a v hh => (World.cell?_alloc_lt _ o2 a (World.block_lt_of_cell? _ a (U1 o1 a v hh))).trans (U1 o1 a v hh)
        have UN : ∀ (W : World) (j : Nat) (s : Value) (a : Addr) (v : Value), w2.cell? a = some v → W.cell? a = some v → (W.setCell ⟨w2.heap.size, j, none⟩ s).cell? a = some v := fun W j s a v h2 hh => by
          rw [World.cell?_setCell_other]
          · exact hh
          · intro e
            have := World.block_lt_of_cell? w2 a h2
            rw [← e] at this
            exact absurd this (Nat.lt_irrefl _)
        have U3 : ∀ (s0 s1 s2 s3 : Value) (o2 : Obj) (a : Addr) (v : Value), w2.cell? a = some v → (((((((w2.drewN (nd + 1)).alloc (Obj.cells #[Value.int IntKind.i64 0, Value.int IntKind.i64 0, Value.int IntKind.i64 0, Value.int IntKind.i64 0] 94)).setCell ⟨w2.heap.size, 0, none⟩ s0).setCell ⟨w2.heap.size, 1, none⟩ s1).setCell ⟨w2.heap.size, 2, none⟩ s2).setCell ⟨w2.heap.size, 3, none⟩ s3).alloc o2).cell? a = some v := fun s0 s1 s2 s3 o2 a v hh => by
          have h1 := UN _ 3 s3 a v hh (UN _ 2 s2 a v hh (UN _ 1 s1 a v hh (UN _ 0 s0 a v hh (U1 (Obj.cells #[Value.int IntKind.i64 0, Value.int IntKind.i64 0, Value.int IntKind.i64 0, Value.int IntKind.i64 0] 94) a v hh))))
          exact (World.cell?_alloc_lt _ o2 a (World.block_lt_of_cell? _ a h1)).trans h1
        have f0 := fun o => U1 o _ _ hcell2
        have g0 := fun o1 o2 => U2 o1 o2 _ _ hcell2
        have k0 := fun s0 s1 s2 s3 o2 => U3 s0 s1 s2 s3 o2 _ _ hcell2
        have f1 := fun o => U1 o _ _ hx0
        have g1 := fun o1 o2 => U2 o1 o2 _ _ hx0
        have k1 := fun s0 s1 s2 s3 o2 => U3 s0 s1 s2 s3 o2 _ _ hx0
        have f2 := fun o => U1 o _ _ hx1
        have g2 := fun o1 o2 => U2 o1 o2 _ _ hx1
        have k2 := fun s0 s1 s2 s3 o2 => U3 s0 s1 s2 s3 o2 _ _ hx1
        have f3 := fun o => U1 o _ _ hx2
        have g3 := fun o1 o2 => U2 o1 o2 _ _ hx2
        have k3 := fun s0 s1 s2 s3 o2 => U3 s0 s1 s2 s3 o2 _ _ hx2
        have f4 := fun o => U1 o _ _ hx3
        have g4 := fun o1 o2 => U2 o1 o2 _ _ hx3
        have k4 := fun s0 s1 s2 s3 o2 => U3 s0 s1 s2 s3 o2 _ _ hx3
        have f5 := fun o => U1 o _ _ hy0
        have g5 := fun o1 o2 => U2 o1 o2 _ _ hy0
        have k5 := fun s0 s1 s2 s3 o2 => U3 s0 s1 s2 s3 o2 _ _ hy0
        have f6 := fun o => U1 o _ _ hy1
        have g6 := fun o1 o2 => U2 o1 o2 _ _ hy1
        have k6 := fun s0 s1 s2 s3 o2 => U3 s0 s1 s2 s3 o2 _ _ hy1
        have f7 := fun o => U1 o _ _ hy2
        have g7 := fun o1 o2 => U2 o1 o2 _ _ hy2
        have k7 := fun s0 s1 s2 s3 o2 => U3 s0 s1 s2 s3 o2 _ _ hy2
        have f8 := fun o => U1 o _ _ hy3
        have g8 := fun o1 o2 => U2 o1 o2 _ _ hy3
        have k8 := fun s0 s1 s2 s3 o2 => U3 s0 s1 s2 s3 o2 _ _ hy3
        clear U1 U2 U3 UN
        have hF0 : ∀ o2 : Obj, (((w2.drewN (nd + 1)).alloc (Obj.cells #[Value.int IntKind.i64 0, Value.int IntKind.i64 0, Value.int IntKind.i64 0, Value.int IntKind.i64 0] 94)).alloc o2).cell? ⟨w2.heap.size, 0, none⟩ = some (.int .i64 0) := fun o2 => (World.cell?_alloc2_first (w := w2.drewN (nd + 1)) #[Value.int IntKind.i64 0, Value.int IntKind.i64 0, Value.int IntKind.i64 0, Value.int IntKind.i64 0] 94 o2 0).trans rfl
        have hG0 : ∀ o2 : Obj, (((w2.drewN (nd + 1)).alloc (Obj.cells #[Value.int IntKind.i64 0, Value.int IntKind.i64 0, Value.int IntKind.i64 0, Value.int IntKind.i64 0] 94)).alloc o2).frozen? ⟨w2.heap.size, 0, none⟩ = false := fun o2 => World.frozen?_alloc2_first (w := w2.drewN (nd + 1)) #[Value.int IntKind.i64 0, Value.int IntKind.i64 0, Value.int IntKind.i64 0, Value.int IntKind.i64 0] 94 o2 0
        have hF1 : ∀ o2 : Obj, (((w2.drewN (nd + 1)).alloc (Obj.cells #[Value.int IntKind.i64 0, Value.int IntKind.i64 0, Value.int IntKind.i64 0, Value.int IntKind.i64 0] 94)).alloc o2).cell? ⟨w2.heap.size, 1, none⟩ = some (.int .i64 0) := fun o2 => (World.cell?_alloc2_first (w := w2.drewN (nd + 1)) #[Value.int IntKind.i64 0, Value.int IntKind.i64 0, Value.int IntKind.i64 0, Value.int IntKind.i64 0] 94 o2 1).trans rfl
        have hG1 : ∀ o2 : Obj, (((w2.drewN (nd + 1)).alloc (Obj.cells #[Value.int IntKind.i64 0, Value.int IntKind.i64 0, Value.int IntKind.i64 0, Value.int IntKind.i64 0] 94)).alloc o2).frozen? ⟨w2.heap.size, 1, none⟩ = false := fun o2 => World.frozen?_alloc2_first (w := w2.drewN (nd + 1)) #[Value.int IntKind.i64 0, Value.int IntKind.i64 0, Value.int IntKind.i64 0, Value.int IntKind.i64 0] 94 o2 1
        have hF2 : ∀ o2 : Obj, (((w2.drewN (nd + 1)).alloc (Obj.cells #[Value.int IntKind.i64 0, Value.int IntKind.i64 0, Value.int IntKind.i64 0, Value.int IntKind.i64 0] 94)).alloc o2).cell? ⟨w2.heap.size, 2, none⟩ = some (.int .i64 0) := fun o2 => (World.cell?_alloc2_first (w := w2.drewN (nd + 1)) #[Value.int IntKind.i64 0, Value.int IntKind.i64 0, Value.int IntKind.i64 0, Value.int IntKind.i64 0] 94 o2 2).trans rfl
        have hG2 : ∀ o2 : Obj, (((w2.drewN (nd + 1)).alloc (Obj.cells #[Value.int IntKind.i64 0, Value.int IntKind.i64 0, Value.int IntKind.i64 0, Value.int IntKind.i64 0] 94)).alloc o2).frozen? ⟨w2.heap.size, 2, none⟩ = false := fun o2 => World.frozen?_alloc2_first (w := w2.drewN (nd + 1)) #[Value.int IntKind.i64 0, Value.int IntKind.i64 0, Value.int IntKind.i64 0, Value.int IntKind.i64 0] 94 o2 2
        have hF3 : ∀ o2 : Obj, (((w2.drewN (nd + 1)).alloc (Obj.cells #[Value.int IntKind.i64 0, Value.int IntKind.i64 0, Value.int IntKind.i64 0, Value.int IntKind.i64 0] 94)).alloc o2).cell? ⟨w2.heap.size, 3, none⟩ = some (.int .i64 0) := fun o2 => (World.cell?_alloc2_first (w := w2.drewN (nd + 1)) #[Value.int IntKind.i64 0, Value.int IntKind.i64 0, Value.int IntKind.i64 0, Value.int IntKind.i64 0] 94 o2 3).trans rfl
        have hG3 : ∀ o2 : Obj, (((w2.drewN (nd + 1)).alloc (Obj.cells #[Value.int IntKind.i64 0, Value.int IntKind.i64 0, Value.int IntKind.i64 0, Value.int IntKind.i64 0] 94)).alloc o2).frozen? ⟨w2.heap.size, 3, none⟩ = false := fun o2 => World.frozen?_alloc2_first (w := w2.drewN (nd + 1)) #[Value.int IntKind.i64 0, Value.int IntKind.i64 0, Value.int IntKind.i64 0, Value.int IntKind.i64 0] 94 o2 3
        have hP0 : ((w2.drewN (nd + 1)).alloc (Obj.cells #[Value.int IntKind.i64 0, Value.int IntKind.i64 0, Value.int IntKind.i64 0, Value.int IntKind.i64 0] 94)).cell? ⟨w2.heap.size, 0, none⟩ = some (.int .i64 0) := (World.cell?_alloc_new (w := w2.drewN (nd + 1)) #[Value.int IntKind.i64 0, Value.int IntKind.i64 0, Value.int IntKind.i64 0, Value.int IntKind.i64 0] 94 0).trans rfl
        have hQ0 : ((w2.drewN (nd + 1)).alloc (Obj.cells #[Value.int IntKind.i64 0, Value.int IntKind.i64 0, Value.int IntKind.i64 0, Value.int IntKind.i64 0] 94)).frozen? ⟨w2.heap.size, 0, none⟩ = false := World.frozen?_alloc_new (w := w2.drewN (nd + 1)) #[Value.int IntKind.i64 0, Value.int IntKind.i64 0, Value.int IntKind.i64 0, Value.int IntKind.i64 0] 94 0
        have hP1 : ((w2.drewN (nd + 1)).alloc (Obj.cells #[Value.int IntKind.i64 0, Value.int IntKind.i64 0, Value.int IntKind.i64 0, Value.int IntKind.i64 0] 94)).cell? ⟨w2.heap.size, 1, none⟩ = some (.int .i64 0) := (World.cell?_alloc_new (w := w2.drewN (nd + 1)) #[Value.int IntKind.i64 0, Value.int IntKind.i64 0, Value.int IntKind.i64 0, Value.int IntKind.i64 0] 94 1).trans rfl
        have hQ1 : ((w2.drewN (nd + 1)).alloc (Obj.cells #[Value.int IntKind.i64 0, Value.int IntKind.i64 0, Value.int IntKind.i64 0, Value.int IntKind.i64 0] 94)).frozen? ⟨w2.heap.size, 1, none⟩ = false := World.frozen?_alloc_new (w := w2.drewN (nd + 1)) #[Value.int IntKind.i64 0, Value.int IntKind.i64 0, Value.int IntKind.i64 0, Value.int IntKind.i64 0] 94 1
        have hP2 : ((w2.drewN (nd + 1)).alloc (Obj.cells #[Value.int IntKind.i64 0, Value.int IntKind.i64 0, Value.int IntKind.i64 0, Value.int IntKind.i64 0] 94)).cell? ⟨w2.heap.size, 2, none⟩ = some (.int .i64 0) := (World.cell?_alloc_new (w := w2.drewN (nd + 1)) #[Value.int IntKind.i64 0, Value.int IntKind.i64 0, Value.int IntKind.i64 0, Value.int IntKind.i64 0] 94 2).trans rfl
        have hQ2 : ((w2.drewN (nd + 1)).alloc (Obj.cells #[Value.int IntKind.i64 0, Value.int IntKind.i64 0, Value.int IntKind.i64 0, Value.int IntKind.i64 0] 94)).frozen? ⟨w2.heap.size, 2, none⟩ = false := World.frozen?_alloc_new (w := w2.drewN (nd + 1)) #[Value.int IntKind.i64 0, Value.int IntKind.i64 0, Value.int IntKind.i64 0, Value.int IntKind.i64 0] 94 2
        have hP3 : ((w2.drewN (nd + 1)).alloc (Obj.cells #[Value.int IntKind.i64 0, Value.int IntKind.i64 0, Value.int IntKind.i64 0, Value.int IntKind.i64 0] 94)).cell? ⟨w2.heap.size, 3, none⟩ = some (.int .i64 0) := (World.cell?_alloc_new (w := w2.drewN (nd + 1)) #[Value.int IntKind.i64 0, Value.int IntKind.i64 0, Value.int IntKind.i64 0, Value.int IntKind.i64 0] 94 3).trans rfl
        have hQ3 : ((w2.drewN (nd + 1)).alloc (Obj.cells #[Value.int IntKind.i64 0, Value.int IntKind.i64 0, Value.int IntKind.i64 0, Value.int IntKind.i64 0] 94)).frozen? ⟨w2.heap.size, 3, none⟩ = false := World.frozen?_alloc_new (w := w2.drewN (nd + 1)) #[Value.int IntKind.i64 0, Value.int IntKind.i64 0, Value.int IntKind.i64 0, Value.int IntKind.i64 0] 94 3
        go_region
        · change Exit.then _ _ Exit.normal _ (twoW (w2.drewN (nd + 1)) w2.heap.size 94 (.int .i64 0) (.int .i64 y.f0) (.int .i64 y.f1) (.int .i64 y.f2) (.int .i64 y.f3) (.int .i64 z.f0) (.int .i64 z.f1) (.int .i64 z.f2) (.int .i64 z.f3))
          have HB4 := Aside0.mk (below_step (show Below w2.heap.size w2 (w2.drewN (nd + 1)) by repeat (first | exact Below.refl _ _ | apply pw_below_drewN)) (twoW_below (w2.drewN (nd + 1)) 94 (.int .i64 0) (.int .i64 y.f0) (.int .i64 y.f1) (.int .i64 y.f2) (.int .i64 y.f3) (.int .i64 z.f0) (.int .i64 z.f1) (.int .i64 z.f2) (.int .i64 z.f3)))
          have hY0 := (twoW_first (w2.drewN (nd + 1)) 94 (.int .i64 0) (.int .i64 y.f0) (.int .i64 y.f1) (.int .i64 y.f2) (.int .i64 y.f3) (.int .i64 z.f0) (.int .i64 z.f1) (.int .i64 z.f2) (.int .i64 z.f3) 0).trans (show _ = some (Value.int .i64 y.f0) from rfl)
          have hY1 := (twoW_first (w2.drewN (nd + 1)) 94 (.int .i64 0) (.int .i64 y.f0) (.int .i64 y.f1) (.int .i64 y.f2) (.int .i64 y.f3) (.int .i64 z.f0) (.int .i64 z.f1) (.int .i64 z.f2) (.int .i64 z.f3) 1).trans (show _ = some (Value.int .i64 y.f1) from rfl)
          have hY2 := (twoW_first (w2.drewN (nd + 1)) 94 (.int .i64 0) (.int .i64 y.f0) (.int .i64 y.f1) (.int .i64 y.f2) (.int .i64 y.f3) (.int .i64 z.f0) (.int .i64 z.f1) (.int .i64 z.f2) (.int .i64 z.f3) 2).trans (show _ = some (Value.int .i64 y.f2) from rfl)
          have hZ0 := (twoW_second (w2.drewN (nd + 1)) 94 (.int .i64 0) (.int .i64 y.f0) (.int .i64 y.f1) (.int .i64 y.f2) (.int .i64 y.f3) (.int .i64 z.f0) (.int .i64 z.f1) (.int .i64 z.f2) (.int .i64 z.f3) 0).trans (show _ = some (Value.int .i64 z.f0) from rfl)
          have hZ1 := (twoW_second (w2.drewN (nd + 1)) 94 (.int .i64 0) (.int .i64 y.f0) (.int .i64 y.f1) (.int .i64 y.f2) (.int .i64 y.f3) (.int .i64 z.f0) (.int .i64 z.f1) (.int .i64 z.f2) (.int .i64 z.f3) 1).trans (show _ = some (Value.int .i64 z.f1) from rfl)
          replace hY0 : (twoW (w2.drewN (nd + 1)) w2.heap.size 94 (.int .i64 0) (.int .i64 y.f0) (.int .i64 y.f1) (.int .i64 y.f2) (.int .i64 y.f3) (.int .i64 z.f0) (.int .i64 z.f1) (.int .i64 z.f2) (.int .i64 z.f3)).cell? ⟨w2.heap.size, 0, none⟩ = some (.int .i64 y.f0) := hY0
          replace hY1 : (twoW (w2.drewN (nd + 1)) w2.heap.size 94 (.int .i64 0) (.int .i64 y.f0) (.int .i64 y.f1) (.int .i64 y.f2) (.int .i64 y.f3) (.int .i64 z.f0) (.int .i64 z.f1) (.int .i64 z.f2) (.int .i64 z.f3)).cell? ⟨w2.heap.size, 1, none⟩ = some (.int .i64 y.f1) := hY1
          replace hY2 : (twoW (w2.drewN (nd + 1)) w2.heap.size 94 (.int .i64 0) (.int .i64 y.f0) (.int .i64 y.f1) (.int .i64 y.f2) (.int .i64 y.f3) (.int .i64 z.f0) (.int .i64 z.f1) (.int .i64 z.f2) (.int .i64 z.f3)).cell? ⟨w2.heap.size, 2, none⟩ = some (.int .i64 y.f2) := hY2
          replace hZ0 : (twoW (w2.drewN (nd + 1)) w2.heap.size 94 (.int .i64 0) (.int .i64 y.f0) (.int .i64 y.f1) (.int .i64 y.f2) (.int .i64 y.f3) (.int .i64 z.f0) (.int .i64 z.f1) (.int .i64 z.f2) (.int .i64 z.f3)).cell? ⟨w2.heap.size + 1, 0, none⟩ = some (.int .i64 z.f0) := hZ0
          replace hZ1 : (twoW (w2.drewN (nd + 1)) w2.heap.size 94 (.int .i64 0) (.int .i64 y.f0) (.int .i64 y.f1) (.int .i64 y.f2) (.int .i64 y.f3) (.int .i64 z.f0) (.int .i64 z.f1) (.int .i64 z.f2) (.int .i64 z.f3)).cell? ⟨w2.heap.size + 1, 1, none⟩ = some (.int .i64 z.f1) := hZ1
          replace HB4 : Aside0 (Below w2.heap.size w2 (twoW (w2.drewN (nd + 1)) w2.heap.size 94 (.int .i64 0) (.int .i64 y.f0) (.int .i64 y.f1) (.int .i64 y.f2) (.int .i64 y.f3) (.int .i64 z.f0) (.int .i64 z.f1) (.int .i64 z.f2) (.int .i64 z.f3))) := HB4
          generalize twoW (w2.drewN (nd + 1)) w2.heap.size 94 (.int .i64 0) (.int .i64 y.f0) (.int .i64 y.f1) (.int .i64 y.f2) (.int .i64 y.f3) (.int .i64 z.f0) (.int .i64 z.f1) (.int .i64 z.f2) (.int .i64 z.f3) = W4 at HB4 hY0 hY1 hY2 hZ0 hZ1 ⊢
          clear f0 g0 k0 f1 g1 k1 f2 g2 k2 f3 g3 k3 f4 g4 k4 f5 g5 k5 f6 g6 k6 f7 g7 k7 f8 g8 k8 hF0 hG0 hP0 hQ0 hF1 hG1 hP1 hQ1 hF2 hG2 hP2 hQ2 hF3 hG3 hP3 hQ3 hx0 hx1 hx2 hx3 hy0 hy1 hy2 hy3 hcell hcell2
          have HX4 := Aside0.mk (blk_underI (blk_underI HX.out HB2.out) HB4.out)
          have hg4 := one_cellI HX4.out
          have HB5 := Aside0.mk (below_step HS.out HB4.out)
          have hwr2 : IntKind.i64.wrap (a1 + 2) = a1 + 2 := by rw [i64_w]; have := HK.out; unfold wrap64; omega
          have HW2 := Aside0.mk (show wrap64 (a1 + 2) = a1 + 2 by rw [← i64_w]; exact hwr2)
          have HV2 := Aside0.mk (show canB l0 a1 = (y.f0 == 10 && (y.f2 == a1 + 2 && (z.f0 == 2 && (z.f1 != y.f1 && !(l0.any (tgtAt a1)))))) by unfold canB; rw [HW.out, HV.out, HZ.out, HW2.out])
          by_cases e1 : y.f0 = 10
          · have c1 : (y.f0 == 10) = true := by simpa using e1
            have HV3 := Aside0.mk (HV2.out.trans (by rw [c1, Bool.true_and]))
            clear e1
            by_cases e2 : y.f2 = a1 + 2
            · have c2 : (y.f2 == a1 + 2) = true := by simpa using e2
              have HV4 := Aside0.mk (HV3.out.trans (by rw [c2, Bool.true_and]))
              clear e2
              by_cases e3 : z.f0 = 2
              · have c3 : (z.f0 == 2) = true := by simpa using e3
                have HV5 := Aside0.mk (HV4.out.trans (by rw [c3, Bool.true_and]))
                clear e3
                by_cases e4 : z.f1 = y.f1
                · have c4 : (z.f1 != y.f1) = false := by simpa using e4
                  have HV6 := Aside0.mk (HV5.out.trans (by rw [c4, Bool.false_and]))
                  clear e4
                  go_wp2
                  go_ret
                  exact ⟨by rw [← HRr.out, HV6.out]; rfl, HB5.out⟩
                · have c4 : (z.f1 != y.f1) = true := by simpa using e4
                  have HV6 := Aside0.mk (HV5.out.trans (by rw [c4, Bool.true_and]))
                  clear e4
                  have eg := enters_of Try.func101 (by kernel_rfl) rfl
                  have HF := Aside0.mk (containsFunc_ins (Below W4.heap.size W4) 101 #[.pointer (some ⟨gb, 0, none⟩)] eg (tgtAt a1) (some ad) c0 l0 W4 (Below.refl _ _)
                    (fun W hW => Kd.C_below HR.out (below_step HB5.out hW)) (fun x hx1 W hW => (impl_CanPredicate.fn a1 gb x W (blk_underI HX4.out hW)).mono fun e W' ⟨he, h2⟩ => ⟨he, below_step hW h2⟩))
                  clear eg
                  go_wp2_with (go_at_call 100; refine HF.out.mono ?_; rintro e w' ⟨rfl, hb2⟩; have HB6 := Aside0.mk hb2; clear hb2)
                  go_ret
                  exact ⟨by rw [← HRr.out, HV6.out]; rfl, below_step HB5.out HB6.out⟩
              · have c3 : (z.f0 == 2) = false := by simpa using e3
                have HV5 := Aside0.mk (HV4.out.trans (by rw [c3, Bool.false_and]))
                clear e3
                go_wp2
                go_ret
                exact ⟨by rw [← HRr.out, HV5.out]; rfl, HB5.out⟩
            · have c2 : (y.f2 == a1 + 2) = false := by simpa using e2
              have HV4 := Aside0.mk (HV3.out.trans (by rw [c2, Bool.false_and]))
              clear e2
              go_wp2
              go_ret
              exact ⟨by rw [← HRr.out, HV4.out]; rfl, HB5.out⟩
          · have c1 : (y.f0 == 10) = false := by simpa using e1
            have HV3 := Aside0.mk (HV2.out.trans (by rw [c1, Bool.false_and]))
            clear e1
            go_wp2
            go_ret
            exact ⟨by rw [← HRr.out, HV3.out]; rfl, HB5.out⟩
        · change Exit.then _ _ Exit.normal _ (twoW (w2.drewN (nd + 1)) w2.heap.size 94 (.int .i64 0) (.int .i64 z.f0) (.int .i64 z.f1) (.int .i64 z.f2) (.int .i64 z.f3) (.int .i64 y.f0) (.int .i64 y.f1) (.int .i64 y.f2) (.int .i64 y.f3))
          have HB4 := Aside0.mk (below_step (show Below w2.heap.size w2 (w2.drewN (nd + 1)) by repeat (first | exact Below.refl _ _ | apply pw_below_drewN)) (twoW_below (w2.drewN (nd + 1)) 94 (.int .i64 0) (.int .i64 z.f0) (.int .i64 z.f1) (.int .i64 z.f2) (.int .i64 z.f3) (.int .i64 y.f0) (.int .i64 y.f1) (.int .i64 y.f2) (.int .i64 y.f3)))
          have hY0 := (twoW_second (w2.drewN (nd + 1)) 94 (.int .i64 0) (.int .i64 z.f0) (.int .i64 z.f1) (.int .i64 z.f2) (.int .i64 z.f3) (.int .i64 y.f0) (.int .i64 y.f1) (.int .i64 y.f2) (.int .i64 y.f3) 0).trans (show _ = some (Value.int .i64 y.f0) from rfl)
          have hY1 := (twoW_second (w2.drewN (nd + 1)) 94 (.int .i64 0) (.int .i64 z.f0) (.int .i64 z.f1) (.int .i64 z.f2) (.int .i64 z.f3) (.int .i64 y.f0) (.int .i64 y.f1) (.int .i64 y.f2) (.int .i64 y.f3) 1).trans (show _ = some (Value.int .i64 y.f1) from rfl)
          have hY2 := (twoW_second (w2.drewN (nd + 1)) 94 (.int .i64 0) (.int .i64 z.f0) (.int .i64 z.f1) (.int .i64 z.f2) (.int .i64 z.f3) (.int .i64 y.f0) (.int .i64 y.f1) (.int .i64 y.f2) (.int .i64 y.f3) 2).trans (show _ = some (Value.int .i64 y.f2) from rfl)
          have hZ0 := (twoW_first (w2.drewN (nd + 1)) 94 (.int .i64 0) (.int .i64 z.f0) (.int .i64 z.f1) (.int .i64 z.f2) (.int .i64 z.f3) (.int .i64 y.f0) (.int .i64 y.f1) (.int .i64 y.f2) (.int .i64 y.f3) 0).trans (show _ = some (Value.int .i64 z.f0) from rfl)
          have hZ1 := (twoW_first (w2.drewN (nd + 1)) 94 (.int .i64 0) (.int .i64 z.f0) (.int .i64 z.f1) (.int .i64 z.f2) (.int .i64 z.f3) (.int .i64 y.f0) (.int .i64 y.f1) (.int .i64 y.f2) (.int .i64 y.f3) 1).trans (show _ = some (Value.int .i64 z.f1) from rfl)
          replace hY0 : (twoW (w2.drewN (nd + 1)) w2.heap.size 94 (.int .i64 0) (.int .i64 z.f0) (.int .i64 z.f1) (.int .i64 z.f2) (.int .i64 z.f3) (.int .i64 y.f0) (.int .i64 y.f1) (.int .i64 y.f2) (.int .i64 y.f3)).cell? ⟨w2.heap.size + 1, 0, none⟩ = some (.int .i64 y.f0) := hY0
          replace hY1 : (twoW (w2.drewN (nd + 1)) w2.heap.size 94 (.int .i64 0) (.int .i64 z.f0) (.int .i64 z.f1) (.int .i64 z.f2) (.int .i64 z.f3) (.int .i64 y.f0) (.int .i64 y.f1) (.int .i64 y.f2) (.int .i64 y.f3)).cell? ⟨w2.heap.size + 1, 1, none⟩ = some (.int .i64 y.f1) := hY1
          replace hY2 : (twoW (w2.drewN (nd + 1)) w2.heap.size 94 (.int .i64 0) (.int .i64 z.f0) (.int .i64 z.f1) (.int .i64 z.f2) (.int .i64 z.f3) (.int .i64 y.f0) (.int .i64 y.f1) (.int .i64 y.f2) (.int .i64 y.f3)).cell? ⟨w2.heap.size + 1, 2, none⟩ = some (.int .i64 y.f2) := hY2
          replace hZ0 : (twoW (w2.drewN (nd + 1)) w2.heap.size 94 (.int .i64 0) (.int .i64 z.f0) (.int .i64 z.f1) (.int .i64 z.f2) (.int .i64 z.f3) (.int .i64 y.f0) (.int .i64 y.f1) (.int .i64 y.f2) (.int .i64 y.f3)).cell? ⟨w2.heap.size, 0, none⟩ = some (.int .i64 z.f0) := hZ0
          replace hZ1 : (twoW (w2.drewN (nd + 1)) w2.heap.size 94 (.int .i64 0) (.int .i64 z.f0) (.int .i64 z.f1) (.int .i64 z.f2) (.int .i64 z.f3) (.int .i64 y.f0) (.int .i64 y.f1) (.int .i64 y.f2) (.int .i64 y.f3)).cell? ⟨w2.heap.size, 1, none⟩ = some (.int .i64 z.f1) := hZ1
          replace HB4 : Aside0 (Below w2.heap.size w2 (twoW (w2.drewN (nd + 1)) w2.heap.size 94 (.int .i64 0) (.int .i64 z.f0) (.int .i64 z.f1) (.int .i64 z.f2) (.int .i64 z.f3) (.int .i64 y.f0) (.int .i64 y.f1) (.int .i64 y.f2) (.int .i64 y.f3))) := HB4
          generalize twoW (w2.drewN (nd + 1)) w2.heap.size 94 (.int .i64 0) (.int .i64 z.f0) (.int .i64 z.f1) (.int .i64 z.f2) (.int .i64 z.f3) (.int .i64 y.f0) (.int .i64 y.f1) (.int .i64 y.f2) (.int .i64 y.f3) = W4 at HB4 hY0 hY1 hY2 hZ0 hZ1 ⊢
          clear f0 g0 k0 f1 g1 k1 f2 g2 k2 f3 g3 k3 f4 g4 k4 f5 g5 k5 f6 g6 k6 f7 g7 k7 f8 g8 k8 hF0 hG0 hP0 hQ0 hF1 hG1 hP1 hQ1 hF2 hG2 hP2 hQ2 hF3 hG3 hP3 hQ3 hx0 hx1 hx2 hx3 hy0 hy1 hy2 hy3 hcell hcell2
          have HX4 := Aside0.mk (blk_underI (blk_underI HX.out HB2.out) HB4.out)
          have hg4 := one_cellI HX4.out
          have HB5 := Aside0.mk (below_step HS.out HB4.out)
          have hwr2 : IntKind.i64.wrap (a1 + 2) = a1 + 2 := by rw [i64_w]; have := HK.out; unfold wrap64; omega
          have HW2 := Aside0.mk (show wrap64 (a1 + 2) = a1 + 2 by rw [← i64_w]; exact hwr2)
          have HV2 := Aside0.mk (show canB l0 a1 = (y.f0 == 10 && (y.f2 == a1 + 2 && (z.f0 == 2 && (z.f1 != y.f1 && !(l0.any (tgtAt a1)))))) by unfold canB; rw [HW.out, HV.out, HZ.out, HW2.out])
          by_cases e1 : y.f0 = 10
          · have c1 : (y.f0 == 10) = true := by simpa using e1
            have HV3 := Aside0.mk (HV2.out.trans (by rw [c1, Bool.true_and]))
            clear e1
            by_cases e2 : y.f2 = a1 + 2
            · have c2 : (y.f2 == a1 + 2) = true := by simpa using e2
              have HV4 := Aside0.mk (HV3.out.trans (by rw [c2, Bool.true_and]))
              clear e2
              by_cases e3 : z.f0 = 2
              · have c3 : (z.f0 == 2) = true := by simpa using e3
                have HV5 := Aside0.mk (HV4.out.trans (by rw [c3, Bool.true_and]))
                clear e3
                by_cases e4 : z.f1 = y.f1
                · have c4 : (z.f1 != y.f1) = false := by simpa using e4
                  have HV6 := Aside0.mk (HV5.out.trans (by rw [c4, Bool.false_and]))
                  clear e4
                  go_wp2
                  go_ret
                  exact ⟨by rw [← HRr.out, HV6.out]; rfl, HB5.out⟩
                · have c4 : (z.f1 != y.f1) = true := by simpa using e4
                  have HV6 := Aside0.mk (HV5.out.trans (by rw [c4, Bool.true_and]))
                  clear e4
                  have eg := enters_of Try.func101 (by kernel_rfl) rfl
                  have HF := Aside0.mk (containsFunc_ins (Below W4.heap.size W4) 101 #[.pointer (some ⟨gb, 0, none⟩)] eg (tgtAt a1) (some ad) c0 l0 W4 (Below.refl _ _)
                    (fun W hW => Kd.C_below HR.out (below_step HB5.out hW)) (fun x hx1 W hW => (impl_CanPredicate.fn a1 gb x W (blk_underI HX4.out hW)).mono fun e W' ⟨he, h2⟩ => ⟨he, below_step hW h2⟩))
                  clear eg
                  go_wp2_with (go_at_call 100; refine HF.out.mono ?_; rintro e w' ⟨rfl, hb2⟩; have HB6 := Aside0.mk hb2; clear hb2)
                  go_ret
                  exact ⟨by rw [← HRr.out, HV6.out]; rfl, below_step HB5.out HB6.out⟩
              · have c3 : (z.f0 == 2) = false := by simpa using e3
                have HV5 := Aside0.mk (HV4.out.trans (by rw [c3, Bool.false_and]))
                clear e3
                go_wp2
                go_ret
                exact ⟨by rw [← HRr.out, HV5.out]; rfl, HB5.out⟩
            · have c2 : (y.f2 == a1 + 2) = false := by simpa using e2
              have HV4 := Aside0.mk (HV3.out.trans (by rw [c2, Bool.false_and]))
              clear e2
              go_wp2
              go_ret
              exact ⟨by rw [← HRr.out, HV4.out]; rfl, HB5.out⟩
          · have c1 : (y.f0 == 10) = false := by simpa using e1
            have HV3 := Aside0.mk (HV2.out.trans (by rw [c1, Bool.false_and]))
            clear e1
            go_wp2
            go_ret
            exact ⟨by rw [← HRr.out, HV3.out]; rfl, HB5.out⟩
      · rw [if_neg hk] at h
        exact absurd h (by simp)

/-! ### laws_eqIns: function 103 -/
def laws_eqIns.f (a0_0 : Int) (a0_1 : Int) (a0_2 : Int) (a0_3 : Int) (a1_0 : Int) (a1_1 : Int) (a1_2 : Int) (a1_3 : Int) : Option (Bool) := if a0_0 = a1_0 then (if a0_1 = a1_1 then (if a0_2 = a1_2 then (if a0_3 = a1_3 then (some true) else (some false)) else (some false)) else (some false)) else (some false)
set_option maxHeartbeats 8000000 in
set_option maxRecDepth 100000 in
theorem laws_eqIns.calls (a0_0 : Int) (a0_1 : Int) (a0_2 : Int) (a0_3 : Int) (a1_0 : Int) (a1_1 : Int) (a1_2 : Int) (a1_3 : Int) (r : Bool) (w : World) (h : laws_eqIns.f a0_0 a0_1 a0_2 a0_3 a1_0 a1_1 a1_2 a1_3 = some r) :
    Calls Try.prog 103 #[.agg #[.int .i64 a0_0, .int .i64 a0_1, .int .i64 a0_2, .int .i64 a0_3], .agg #[.int .i64 a1_0, .int .i64 a1_1, .int .i64 a1_2, .int .i64 a1_3]] w fun e w' => e = .returned (.bool r) ∧ Below w.heap.size w w' := by
  have hu94 := Try.underlying94
  have HB := Aside0.mk (Below.refl w.heap.size w)
  have H : (if a0_0 = a1_0 then (if a0_1 = a1_1 then (if a0_2 = a1_2 then (if a0_3 = a1_3 then (some true) else (some false)) else (some false)) else (some false)) else (some false)) = some r := h
  clear h
  by_cases c3 : a0_0 = a1_0
  · rw [if_pos c3] at H
    have c3b0 : (a0_0 == a1_0) = true := beq_iff_eq.mpr c3
    have c3b1 : (a0_0 != a1_0) = false := bne_eq_false_iff_eq.mpr c3
    clear c3
    by_cases c4 : a0_1 = a1_1
    · rw [if_pos c4] at H
      have c4b0 : (a0_1 == a1_1) = true := beq_iff_eq.mpr c4
      have c4b1 : (a0_1 != a1_1) = false := bne_eq_false_iff_eq.mpr c4
      clear c4
      by_cases c5 : a0_2 = a1_2
      · rw [if_pos c5] at H
        have c5b0 : (a0_2 == a1_2) = true := beq_iff_eq.mpr c5
        have c5b1 : (a0_2 != a1_2) = false := bne_eq_false_iff_eq.mpr c5
        clear c5
        by_cases c6 : a0_3 = a1_3
        · rw [if_pos c6] at H
          have c6b0 : (a0_3 == a1_3) = true := beq_iff_eq.mpr c6
          have c6b1 : (a0_3 != a1_3) = false := bne_eq_false_iff_eq.mpr c6
          clear c6
          obtain rfl := Option.some.inj H
          go_enter Try.func103, Try.ntmps103
          go_wp2_with (first | ((with_reducible refine gate_dst (N := 2) rfl ?_); refine box_event ?hg (N := 2) ?hd (cs := #[.int .i64 a0_0, .int .i64 a0_1, .int .i64 a0_2, .int .i64 a0_3]) (t := 94) ?hr ?_; (case hd => rfl); (case hg => rfl); (case hr => first | (go_simp; done) | (go_simp; rfl)); intro gb164 hg w7 hbox hb; have n0_ := Aside0.mk (below_step (by repeat (first | (with_reducible first | exact HB.out | apply below_alloc | apply pw_below_drewN | apply below_drew1) | exact HB.out)) hb); have n1_ := Aside0.mk (hbox); have n2_ := Aside0.mk ((by rw [hg]; exact (below_size (by repeat (first | (with_reducible first | exact HB.out | apply below_alloc | apply pw_below_drewN | apply below_drew1) | exact HB.out))) : w.heap.size ≤ gb164)); have n3_ := Aside0.mk ((by rw [hg]; exact (below_size (by repeat (first | (with_reducible first | exact HB.out | apply below_alloc | apply pw_below_drewN | apply below_drew1) | exact HB.out))) : w.heap.size ≤ gb164)); clear HB; have HB := n0_; have BK164 := n1_; have GW164 := n2_; have GE164 := n3_; clear n0_ n1_ n2_ n3_; clear hb hbox hg) | ((with_reducible refine gate_dst (N := 3) rfl ?_); refine box_event ?hg (N := 3) ?hd (cs := #[.int .i64 a1_0, .int .i64 a1_1, .int .i64 a1_2, .int .i64 a1_3]) (t := 94) ?hr ?_; (case hd => rfl); (case hg => rfl); (case hr => first | (go_simp; done) | (go_simp; rfl)); intro gb165 hg w8 hbox hb; have n0_ := Aside0.mk (blk_below (g := gb164) (o := .cells #[.int .i64 a0_0, .int .i64 a0_1, .int .i64 a0_2, .int .i64 a0_3] 94 (0, 0)) (by (with_reducible repeat (first | refine blk_drewN ?_ _ | refine blk_drew ?_ | refine blk_alloc ?_ _)); exact BK164.out) hb); have n1_ := Aside0.mk (below_step (by repeat (first | (with_reducible first | exact HB.out | apply below_alloc | apply pw_below_drewN | apply below_drew1 | refine below_set ?_ GE164.out) | exact HB.out)) hb); have n2_ := Aside0.mk (hbox); have n3_ := Aside0.mk ((by rw [hg]; exact (below_size (by repeat (first | (with_reducible first | exact HB.out | apply below_alloc | apply pw_below_drewN | apply below_drew1 | refine below_set ?_ GE164.out) | exact HB.out))) : w.heap.size ≤ gb165)); have n4_ := Aside0.mk ((by rw [hg]; exact (below_size (by repeat (first | (with_reducible first | exact HB.out | apply below_alloc | apply pw_below_drewN | apply below_drew1 | refine below_set ?_ GE164.out) | exact HB.out))) : w.heap.size ≤ gb165)); have n5_ := Aside0.mk ((by rw [hg]; exact Nat.ne_of_lt (blk_lt (g := gb164) (o := .cells #[.int .i64 a0_0, .int .i64 a0_1, .int .i64 a0_2, .int .i64 a0_3] 94 (0, 0)) (by (with_reducible repeat (first | refine blk_drewN ?_ _ | refine blk_drew ?_ | refine blk_alloc ?_ _)); exact BK164.out)) : gb164 ≠ gb165)); have n6_ := Aside0.mk ((by rw [hg]; exact Nat.ne_of_gt (blk_lt (g := gb164) (o := .cells #[.int .i64 a0_0, .int .i64 a0_1, .int .i64 a0_2, .int .i64 a0_3] 94 (0, 0)) (by (with_reducible repeat (first | refine blk_drewN ?_ _ | refine blk_drew ?_ | refine blk_alloc ?_ _)); exact BK164.out)) : gb165 ≠ gb164)); clear BK164; clear HB; have BK164 := n0_; have HB := n1_; have BK165 := n2_; have GW165 := n3_; have GE165 := n4_; have NB164_165 := n5_; have NB165_164 := n6_; clear n0_ n1_ n2_ n3_ n4_ n5_ n6_; clear hb hbox hg; have hnb9 := NB164_165.out; have hnc9 := NB165_164.out; have hcz10_0 : w8.cell? ⟨gb164, 0, none⟩ = some (.int .i64 a0_0) := (blk_cell BK164.out 0).trans rfl; have hcz10_1 : w8.cell? ⟨gb164, 1, none⟩ = some (.int .i64 a0_1) := (blk_cell BK164.out 1).trans rfl; have hcz10_2 : w8.cell? ⟨gb164, 2, none⟩ = some (.int .i64 a0_2) := (blk_cell BK164.out 2).trans rfl; have hcz10_3 : w8.cell? ⟨gb164, 3, none⟩ = some (.int .i64 a0_3) := (blk_cell BK164.out 3).trans rfl; have hfz10_0 := blk_frozen BK164.out 0; have hfz10_1 := blk_frozen BK164.out 1; have hfz10_2 := blk_frozen BK164.out 2; have hfz10_3 := blk_frozen BK164.out 3; have hcz11_0 : w8.cell? ⟨gb165, 0, none⟩ = some (.int .i64 a1_0) := (blk_cell BK165.out 0).trans rfl; have hcz11_1 : w8.cell? ⟨gb165, 1, none⟩ = some (.int .i64 a1_1) := (blk_cell BK165.out 1).trans rfl; have hcz11_2 : w8.cell? ⟨gb165, 2, none⟩ = some (.int .i64 a1_2) := (blk_cell BK165.out 2).trans rfl; have hcz11_3 : w8.cell? ⟨gb165, 3, none⟩ = some (.int .i64 a1_3) := (blk_cell BK165.out 3).trans rfl; have hfz11_0 := blk_frozen BK165.out 0; have hfz11_1 := blk_frozen BK165.out 1; have hfz11_2 := blk_frozen BK165.out 2; have hfz11_3 := blk_frozen BK165.out 3))
          go_ret
          exact ⟨by first | rfl | (simp [errW_none, errW_some] <;> rfl) | (simp [*, errW_none, errW_some] <;> rfl), by repeat (first | (with_reducible first | exact HB.out | apply below_alloc | apply pw_below_drewN | apply below_drew1 | refine below_set ?_ GE164.out | refine below_set ?_ GE165.out) | exact HB.out)⟩
        · rw [if_neg c6] at H
          have c6b0 : (a0_3 == a1_3) = false := beq_eq_false_iff_ne.mpr c6
          have c6b1 : (a0_3 != a1_3) = true := bne_iff_ne.mpr c6
          obtain rfl := Option.some.inj H
          go_enter Try.func103, Try.ntmps103
          go_wp2_with (first | ((with_reducible refine gate_dst (N := 2) rfl ?_); refine box_event ?hg (N := 2) ?hd (cs := #[.int .i64 a0_0, .int .i64 a0_1, .int .i64 a0_2, .int .i64 a0_3]) (t := 94) ?hr ?_; (case hd => rfl); (case hg => rfl); (case hr => first | (go_simp; done) | (go_simp; rfl)); intro gb164 hg w12 hbox hb; have n0_ := Aside0.mk (below_step (by repeat (first | (with_reducible first | exact HB.out | apply below_alloc | apply pw_below_drewN | apply below_drew1) | exact HB.out)) hb); have n1_ := Aside0.mk (hbox); have n2_ := Aside0.mk ((by rw [hg]; exact (below_size (by repeat (first | (with_reducible first | exact HB.out | apply below_alloc | apply pw_below_drewN | apply below_drew1) | exact HB.out))) : w.heap.size ≤ gb164)); have n3_ := Aside0.mk ((by rw [hg]; exact (below_size (by repeat (first | (with_reducible first | exact HB.out | apply below_alloc | apply pw_below_drewN | apply below_drew1) | exact HB.out))) : w.heap.size ≤ gb164)); clear HB; have HB := n0_; have BK164 := n1_; have GW164 := n2_; have GE164 := n3_; clear n0_ n1_ n2_ n3_; clear hb hbox hg) | ((with_reducible refine gate_dst (N := 3) rfl ?_); refine box_event ?hg (N := 3) ?hd (cs := #[.int .i64 a1_0, .int .i64 a1_1, .int .i64 a1_2, .int .i64 a1_3]) (t := 94) ?hr ?_; (case hd => rfl); (case hg => rfl); (case hr => first | (go_simp; done) | (go_simp; rfl)); intro gb165 hg w13 hbox hb; have n0_ := Aside0.mk (blk_below (g := gb164) (o := .cells #[.int .i64 a0_0, .int .i64 a0_1, .int .i64 a0_2, .int .i64 a0_3] 94 (0, 0)) (by (with_reducible repeat (first | refine blk_drewN ?_ _ | refine blk_drew ?_ | refine blk_alloc ?_ _)); exact BK164.out) hb); have n1_ := Aside0.mk (below_step (by repeat (first | (with_reducible first | exact HB.out | apply below_alloc | apply pw_below_drewN | apply below_drew1 | refine below_set ?_ GE164.out) | exact HB.out)) hb); have n2_ := Aside0.mk (hbox); have n3_ := Aside0.mk ((by rw [hg]; exact (below_size (by repeat (first | (with_reducible first | exact HB.out | apply below_alloc | apply pw_below_drewN | apply below_drew1 | refine below_set ?_ GE164.out) | exact HB.out))) : w.heap.size ≤ gb165)); have n4_ := Aside0.mk ((by rw [hg]; exact (below_size (by repeat (first | (with_reducible first | exact HB.out | apply below_alloc | apply pw_below_drewN | apply below_drew1 | refine below_set ?_ GE164.out) | exact HB.out))) : w.heap.size ≤ gb165)); have n5_ := Aside0.mk ((by rw [hg]; exact Nat.ne_of_lt (blk_lt (g := gb164) (o := .cells #[.int .i64 a0_0, .int .i64 a0_1, .int .i64 a0_2, .int .i64 a0_3] 94 (0, 0)) (by (with_reducible repeat (first | refine blk_drewN ?_ _ | refine blk_drew ?_ | refine blk_alloc ?_ _)); exact BK164.out)) : gb164 ≠ gb165)); have n6_ := Aside0.mk ((by rw [hg]; exact Nat.ne_of_gt (blk_lt (g := gb164) (o := .cells #[.int .i64 a0_0, .int .i64 a0_1, .int .i64 a0_2, .int .i64 a0_3] 94 (0, 0)) (by (with_reducible repeat (first | refine blk_drewN ?_ _ | refine blk_drew ?_ | refine blk_alloc ?_ _)); exact BK164.out)) : gb165 ≠ gb164)); clear BK164; clear HB; have BK164 := n0_; have HB := n1_; have BK165 := n2_; have GW165 := n3_; have GE165 := n4_; have NB164_165 := n5_; have NB165_164 := n6_; clear n0_ n1_ n2_ n3_ n4_ n5_ n6_; clear hb hbox hg; have hnb14 := NB164_165.out; have hnc14 := NB165_164.out; have hcz15_0 : w13.cell? ⟨gb164, 0, none⟩ = some (.int .i64 a0_0) := (blk_cell BK164.out 0).trans rfl; have hcz15_1 : w13.cell? ⟨gb164, 1, none⟩ = some (.int .i64 a0_1) := (blk_cell BK164.out 1).trans rfl; have hcz15_2 : w13.cell? ⟨gb164, 2, none⟩ = some (.int .i64 a0_2) := (blk_cell BK164.out 2).trans rfl; have hcz15_3 : w13.cell? ⟨gb164, 3, none⟩ = some (.int .i64 a0_3) := (blk_cell BK164.out 3).trans rfl; have hfz15_0 := blk_frozen BK164.out 0; have hfz15_1 := blk_frozen BK164.out 1; have hfz15_2 := blk_frozen BK164.out 2; have hfz15_3 := blk_frozen BK164.out 3; have hcz16_0 : w13.cell? ⟨gb165, 0, none⟩ = some (.int .i64 a1_0) := (blk_cell BK165.out 0).trans rfl; have hcz16_1 : w13.cell? ⟨gb165, 1, none⟩ = some (.int .i64 a1_1) := (blk_cell BK165.out 1).trans rfl; have hcz16_2 : w13.cell? ⟨gb165, 2, none⟩ = some (.int .i64 a1_2) := (blk_cell BK165.out 2).trans rfl; have hcz16_3 : w13.cell? ⟨gb165, 3, none⟩ = some (.int .i64 a1_3) := (blk_cell BK165.out 3).trans rfl; have hfz16_0 := blk_frozen BK165.out 0; have hfz16_1 := blk_frozen BK165.out 1; have hfz16_2 := blk_frozen BK165.out 2; have hfz16_3 := blk_frozen BK165.out 3))
          go_ret
          exact ⟨by first | rfl | (simp [errW_none, errW_some] <;> rfl) | (simp [*, errW_none, errW_some] <;> rfl), by repeat (first | (with_reducible first | exact HB.out | apply below_alloc | apply pw_below_drewN | apply below_drew1 | refine below_set ?_ GE164.out | refine below_set ?_ GE165.out) | exact HB.out)⟩
      · rw [if_neg c5] at H
        have c5b0 : (a0_2 == a1_2) = false := beq_eq_false_iff_ne.mpr c5
        have c5b1 : (a0_2 != a1_2) = true := bne_iff_ne.mpr c5
        obtain rfl := Option.some.inj H
        go_enter Try.func103, Try.ntmps103
        go_wp2_with (first | ((with_reducible refine gate_dst (N := 2) rfl ?_); refine box_event ?hg (N := 2) ?hd (cs := #[.int .i64 a0_0, .int .i64 a0_1, .int .i64 a0_2, .int .i64 a0_3]) (t := 94) ?hr ?_; (case hd => rfl); (case hg => rfl); (case hr => first | (go_simp; done) | (go_simp; rfl)); intro gb164 hg w17 hbox hb; have n0_ := Aside0.mk (below_step (by repeat (first | (with_reducible first | exact HB.out | apply below_alloc | apply pw_below_drewN | apply below_drew1) | exact HB.out)) hb); have n1_ := Aside0.mk (hbox); have n2_ := Aside0.mk ((by rw [hg]; exact (below_size (by repeat (first | (with_reducible first | exact HB.out | apply below_alloc | apply pw_below_drewN | apply below_drew1) | exact HB.out))) : w.heap.size ≤ gb164)); have n3_ := Aside0.mk ((by rw [hg]; exact (below_size (by repeat (first | (with_reducible first | exact HB.out | apply below_alloc | apply pw_below_drewN | apply below_drew1) | exact HB.out))) : w.heap.size ≤ gb164)); clear HB; have HB := n0_; have BK164 := n1_; have GW164 := n2_; have GE164 := n3_; clear n0_ n1_ n2_ n3_; clear hb hbox hg) | ((with_reducible refine gate_dst (N := 3) rfl ?_); refine box_event ?hg (N := 3) ?hd (cs := #[.int .i64 a1_0, .int .i64 a1_1, .int .i64 a1_2, .int .i64 a1_3]) (t := 94) ?hr ?_; (case hd => rfl); (case hg => rfl); (case hr => first | (go_simp; done) | (go_simp; rfl)); intro gb165 hg w18 hbox hb; have n0_ := Aside0.mk (blk_below (g := gb164) (o := .cells #[.int .i64 a0_0, .int .i64 a0_1, .int .i64 a0_2, .int .i64 a0_3] 94 (0, 0)) (by (with_reducible repeat (first | refine blk_drewN ?_ _ | refine blk_drew ?_ | refine blk_alloc ?_ _)); exact BK164.out) hb); have n1_ := Aside0.mk (below_step (by repeat (first | (with_reducible first | exact HB.out | apply below_alloc | apply pw_below_drewN | apply below_drew1 | refine below_set ?_ GE164.out) | exact HB.out)) hb); have n2_ := Aside0.mk (hbox); have n3_ := Aside0.mk ((by rw [hg]; exact (below_size (by repeat (first | (with_reducible first | exact HB.out | apply below_alloc | apply pw_below_drewN | apply below_drew1 | refine below_set ?_ GE164.out) | exact HB.out))) : w.heap.size ≤ gb165)); have n4_ := Aside0.mk ((by rw [hg]; exact (below_size (by repeat (first | (with_reducible first | exact HB.out | apply below_alloc | apply pw_below_drewN | apply below_drew1 | refine below_set ?_ GE164.out) | exact HB.out))) : w.heap.size ≤ gb165)); have n5_ := Aside0.mk ((by rw [hg]; exact Nat.ne_of_lt (blk_lt (g := gb164) (o := .cells #[.int .i64 a0_0, .int .i64 a0_1, .int .i64 a0_2, .int .i64 a0_3] 94 (0, 0)) (by (with_reducible repeat (first | refine blk_drewN ?_ _ | refine blk_drew ?_ | refine blk_alloc ?_ _)); exact BK164.out)) : gb164 ≠ gb165)); have n6_ := Aside0.mk ((by rw [hg]; exact Nat.ne_of_gt (blk_lt (g := gb164) (o := .cells #[.int .i64 a0_0, .int .i64 a0_1, .int .i64 a0_2, .int .i64 a0_3] 94 (0, 0)) (by (with_reducible repeat (first | refine blk_drewN ?_ _ | refine blk_drew ?_ | refine blk_alloc ?_ _)); exact BK164.out)) : gb165 ≠ gb164)); clear BK164; clear HB; have BK164 := n0_; have HB := n1_; have BK165 := n2_; have GW165 := n3_; have GE165 := n4_; have NB164_165 := n5_; have NB165_164 := n6_; clear n0_ n1_ n2_ n3_ n4_ n5_ n6_; clear hb hbox hg; have hnb19 := NB164_165.out; have hnc19 := NB165_164.out; have hcz20_0 : w18.cell? ⟨gb164, 0, none⟩ = some (.int .i64 a0_0) := (blk_cell BK164.out 0).trans rfl; have hcz20_1 : w18.cell? ⟨gb164, 1, none⟩ = some (.int .i64 a0_1) := (blk_cell BK164.out 1).trans rfl; have hcz20_2 : w18.cell? ⟨gb164, 2, none⟩ = some (.int .i64 a0_2) := (blk_cell BK164.out 2).trans rfl; have hcz20_3 : w18.cell? ⟨gb164, 3, none⟩ = some (.int .i64 a0_3) := (blk_cell BK164.out 3).trans rfl; have hfz20_0 := blk_frozen BK164.out 0; have hfz20_1 := blk_frozen BK164.out 1; have hfz20_2 := blk_frozen BK164.out 2; have hfz20_3 := blk_frozen BK164.out 3; have hcz21_0 : w18.cell? ⟨gb165, 0, none⟩ = some (.int .i64 a1_0) := (blk_cell BK165.out 0).trans rfl; have hcz21_1 : w18.cell? ⟨gb165, 1, none⟩ = some (.int .i64 a1_1) := (blk_cell BK165.out 1).trans rfl; have hcz21_2 : w18.cell? ⟨gb165, 2, none⟩ = some (.int .i64 a1_2) := (blk_cell BK165.out 2).trans rfl; have hcz21_3 : w18.cell? ⟨gb165, 3, none⟩ = some (.int .i64 a1_3) := (blk_cell BK165.out 3).trans rfl; have hfz21_0 := blk_frozen BK165.out 0; have hfz21_1 := blk_frozen BK165.out 1; have hfz21_2 := blk_frozen BK165.out 2; have hfz21_3 := blk_frozen BK165.out 3))
        go_ret
        exact ⟨by first | rfl | (simp [errW_none, errW_some] <;> rfl) | (simp [*, errW_none, errW_some] <;> rfl), by repeat (first | (with_reducible first | exact HB.out | apply below_alloc | apply pw_below_drewN | apply below_drew1 | refine below_set ?_ GE164.out | refine below_set ?_ GE165.out) | exact HB.out)⟩
    · rw [if_neg c4] at H
      have c4b0 : (a0_1 == a1_1) = false := beq_eq_false_iff_ne.mpr c4
      have c4b1 : (a0_1 != a1_1) = true := bne_iff_ne.mpr c4
      obtain rfl := Option.some.inj H
      go_enter Try.func103, Try.ntmps103
      go_wp2_with (first | ((with_reducible refine gate_dst (N := 2) rfl ?_); refine box_event ?hg (N := 2) ?hd (cs := #[.int .i64 a0_0, .int .i64 a0_1, .int .i64 a0_2, .int .i64 a0_3]) (t := 94) ?hr ?_; (case hd => rfl); (case hg => rfl); (case hr => first | (go_simp; done) | (go_simp; rfl)); intro gb164 hg w22 hbox hb; have n0_ := Aside0.mk (below_step (by repeat (first | (with_reducible first | exact HB.out | apply below_alloc | apply pw_below_drewN | apply below_drew1) | exact HB.out)) hb); have n1_ := Aside0.mk (hbox); have n2_ := Aside0.mk ((by rw [hg]; exact (below_size (by repeat (first | (with_reducible first | exact HB.out | apply below_alloc | apply pw_below_drewN | apply below_drew1) | exact HB.out))) : w.heap.size ≤ gb164)); have n3_ := Aside0.mk ((by rw [hg]; exact (below_size (by repeat (first | (with_reducible first | exact HB.out | apply below_alloc | apply pw_below_drewN | apply below_drew1) | exact HB.out))) : w.heap.size ≤ gb164)); clear HB; have HB := n0_; have BK164 := n1_; have GW164 := n2_; have GE164 := n3_; clear n0_ n1_ n2_ n3_; clear hb hbox hg) | ((with_reducible refine gate_dst (N := 3) rfl ?_); refine box_event ?hg (N := 3) ?hd (cs := #[.int .i64 a1_0, .int .i64 a1_1, .int .i64 a1_2, .int .i64 a1_3]) (t := 94) ?hr ?_; (case hd => rfl); (case hg => rfl); (case hr => first | (go_simp; done) | (go_simp; rfl)); intro gb165 hg w23 hbox hb; have n0_ := Aside0.mk (blk_below (g := gb164) (o := .cells #[.int .i64 a0_0, .int .i64 a0_1, .int .i64 a0_2, .int .i64 a0_3] 94 (0, 0)) (by (with_reducible repeat (first | refine blk_drewN ?_ _ | refine blk_drew ?_ | refine blk_alloc ?_ _)); exact BK164.out) hb); have n1_ := Aside0.mk (below_step (by repeat (first | (with_reducible first | exact HB.out | apply below_alloc | apply pw_below_drewN | apply below_drew1 | refine below_set ?_ GE164.out) | exact HB.out)) hb); have n2_ := Aside0.mk (hbox); have n3_ := Aside0.mk ((by rw [hg]; exact (below_size (by repeat (first | (with_reducible first | exact HB.out | apply below_alloc | apply pw_below_drewN | apply below_drew1 | refine below_set ?_ GE164.out) | exact HB.out))) : w.heap.size ≤ gb165)); have n4_ := Aside0.mk ((by rw [hg]; exact (below_size (by repeat (first | (with_reducible first | exact HB.out | apply below_alloc | apply pw_below_drewN | apply below_drew1 | refine below_set ?_ GE164.out) | exact HB.out))) : w.heap.size ≤ gb165)); have n5_ := Aside0.mk ((by rw [hg]; exact Nat.ne_of_lt (blk_lt (g := gb164) (o := .cells #[.int .i64 a0_0, .int .i64 a0_1, .int .i64 a0_2, .int .i64 a0_3] 94 (0, 0)) (by (with_reducible repeat (first | refine blk_drewN ?_ _ | refine blk_drew ?_ | refine blk_alloc ?_ _)); exact BK164.out)) : gb164 ≠ gb165)); have n6_ := Aside0.mk ((by rw [hg]; exact Nat.ne_of_gt (blk_lt (g := gb164) (o := .cells #[.int .i64 a0_0, .int .i64 a0_1, .int .i64 a0_2, .int .i64 a0_3] 94 (0, 0)) (by (with_reducible repeat (first | refine blk_drewN ?_ _ | refine blk_drew ?_ | refine blk_alloc ?_ _)); exact BK164.out)) : gb165 ≠ gb164)); clear BK164; clear HB; have BK164 := n0_; have HB := n1_; have BK165 := n2_; have GW165 := n3_; have GE165 := n4_; have NB164_165 := n5_; have NB165_164 := n6_; clear n0_ n1_ n2_ n3_ n4_ n5_ n6_; clear hb hbox hg; have hnb24 := NB164_165.out; have hnc24 := NB165_164.out; have hcz25_0 : w23.cell? ⟨gb164, 0, none⟩ = some (.int .i64 a0_0) := (blk_cell BK164.out 0).trans rfl; have hcz25_1 : w23.cell? ⟨gb164, 1, none⟩ = some (.int .i64 a0_1) := (blk_cell BK164.out 1).trans rfl; have hcz25_2 : w23.cell? ⟨gb164, 2, none⟩ = some (.int .i64 a0_2) := (blk_cell BK164.out 2).trans rfl; have hcz25_3 : w23.cell? ⟨gb164, 3, none⟩ = some (.int .i64 a0_3) := (blk_cell BK164.out 3).trans rfl; have hfz25_0 := blk_frozen BK164.out 0; have hfz25_1 := blk_frozen BK164.out 1; have hfz25_2 := blk_frozen BK164.out 2; have hfz25_3 := blk_frozen BK164.out 3; have hcz26_0 : w23.cell? ⟨gb165, 0, none⟩ = some (.int .i64 a1_0) := (blk_cell BK165.out 0).trans rfl; have hcz26_1 : w23.cell? ⟨gb165, 1, none⟩ = some (.int .i64 a1_1) := (blk_cell BK165.out 1).trans rfl; have hcz26_2 : w23.cell? ⟨gb165, 2, none⟩ = some (.int .i64 a1_2) := (blk_cell BK165.out 2).trans rfl; have hcz26_3 : w23.cell? ⟨gb165, 3, none⟩ = some (.int .i64 a1_3) := (blk_cell BK165.out 3).trans rfl; have hfz26_0 := blk_frozen BK165.out 0; have hfz26_1 := blk_frozen BK165.out 1; have hfz26_2 := blk_frozen BK165.out 2; have hfz26_3 := blk_frozen BK165.out 3))
      go_ret
      exact ⟨by first | rfl | (simp [errW_none, errW_some] <;> rfl) | (simp [*, errW_none, errW_some] <;> rfl), by repeat (first | (with_reducible first | exact HB.out | apply below_alloc | apply pw_below_drewN | apply below_drew1 | refine below_set ?_ GE164.out | refine below_set ?_ GE165.out) | exact HB.out)⟩
  · rw [if_neg c3] at H
    have c3b0 : (a0_0 == a1_0) = false := beq_eq_false_iff_ne.mpr c3
    have c3b1 : (a0_0 != a1_0) = true := bne_iff_ne.mpr c3
    obtain rfl := Option.some.inj H
    go_enter Try.func103, Try.ntmps103
    go_wp2_with (first | ((with_reducible refine gate_dst (N := 2) rfl ?_); refine box_event ?hg (N := 2) ?hd (cs := #[.int .i64 a0_0, .int .i64 a0_1, .int .i64 a0_2, .int .i64 a0_3]) (t := 94) ?hr ?_; (case hd => rfl); (case hg => rfl); (case hr => first | (go_simp; done) | (go_simp; rfl)); intro gb164 hg w27 hbox hb; have n0_ := Aside0.mk (below_step (by repeat (first | (with_reducible first | exact HB.out | apply below_alloc | apply pw_below_drewN | apply below_drew1) | exact HB.out)) hb); have n1_ := Aside0.mk (hbox); have n2_ := Aside0.mk ((by rw [hg]; exact (below_size (by repeat (first | (with_reducible first | exact HB.out | apply below_alloc | apply pw_below_drewN | apply below_drew1) | exact HB.out))) : w.heap.size ≤ gb164)); have n3_ := Aside0.mk ((by rw [hg]; exact (below_size (by repeat (first | (with_reducible first | exact HB.out | apply below_alloc | apply pw_below_drewN | apply below_drew1) | exact HB.out))) : w.heap.size ≤ gb164)); clear HB; have HB := n0_; have BK164 := n1_; have GW164 := n2_; have GE164 := n3_; clear n0_ n1_ n2_ n3_; clear hb hbox hg) | ((with_reducible refine gate_dst (N := 3) rfl ?_); refine box_event ?hg (N := 3) ?hd (cs := #[.int .i64 a1_0, .int .i64 a1_1, .int .i64 a1_2, .int .i64 a1_3]) (t := 94) ?hr ?_; (case hd => rfl); (case hg => rfl); (case hr => first | (go_simp; done) | (go_simp; rfl)); intro gb165 hg w28 hbox hb; have n0_ := Aside0.mk (blk_below (g := gb164) (o := .cells #[.int .i64 a0_0, .int .i64 a0_1, .int .i64 a0_2, .int .i64 a0_3] 94 (0, 0)) (by (with_reducible repeat (first | refine blk_drewN ?_ _ | refine blk_drew ?_ | refine blk_alloc ?_ _)); exact BK164.out) hb); have n1_ := Aside0.mk (below_step (by repeat (first | (with_reducible first | exact HB.out | apply below_alloc | apply pw_below_drewN | apply below_drew1 | refine below_set ?_ GE164.out) | exact HB.out)) hb); have n2_ := Aside0.mk (hbox); have n3_ := Aside0.mk ((by rw [hg]; exact (below_size (by repeat (first | (with_reducible first | exact HB.out | apply below_alloc | apply pw_below_drewN | apply below_drew1 | refine below_set ?_ GE164.out) | exact HB.out))) : w.heap.size ≤ gb165)); have n4_ := Aside0.mk ((by rw [hg]; exact (below_size (by repeat (first | (with_reducible first | exact HB.out | apply below_alloc | apply pw_below_drewN | apply below_drew1 | refine below_set ?_ GE164.out) | exact HB.out))) : w.heap.size ≤ gb165)); have n5_ := Aside0.mk ((by rw [hg]; exact Nat.ne_of_lt (blk_lt (g := gb164) (o := .cells #[.int .i64 a0_0, .int .i64 a0_1, .int .i64 a0_2, .int .i64 a0_3] 94 (0, 0)) (by (with_reducible repeat (first | refine blk_drewN ?_ _ | refine blk_drew ?_ | refine blk_alloc ?_ _)); exact BK164.out)) : gb164 ≠ gb165)); have n6_ := Aside0.mk ((by rw [hg]; exact Nat.ne_of_gt (blk_lt (g := gb164) (o := .cells #[.int .i64 a0_0, .int .i64 a0_1, .int .i64 a0_2, .int .i64 a0_3] 94 (0, 0)) (by (with_reducible repeat (first | refine blk_drewN ?_ _ | refine blk_drew ?_ | refine blk_alloc ?_ _)); exact BK164.out)) : gb165 ≠ gb164)); clear BK164; clear HB; have BK164 := n0_; have HB := n1_; have BK165 := n2_; have GW165 := n3_; have GE165 := n4_; have NB164_165 := n5_; have NB165_164 := n6_; clear n0_ n1_ n2_ n3_ n4_ n5_ n6_; clear hb hbox hg; have hnb29 := NB164_165.out; have hnc29 := NB165_164.out; have hcz30_0 : w28.cell? ⟨gb164, 0, none⟩ = some (.int .i64 a0_0) := (blk_cell BK164.out 0).trans rfl; have hcz30_1 : w28.cell? ⟨gb164, 1, none⟩ = some (.int .i64 a0_1) := (blk_cell BK164.out 1).trans rfl; have hcz30_2 : w28.cell? ⟨gb164, 2, none⟩ = some (.int .i64 a0_2) := (blk_cell BK164.out 2).trans rfl; have hcz30_3 : w28.cell? ⟨gb164, 3, none⟩ = some (.int .i64 a0_3) := (blk_cell BK164.out 3).trans rfl; have hfz30_0 := blk_frozen BK164.out 0; have hfz30_1 := blk_frozen BK164.out 1; have hfz30_2 := blk_frozen BK164.out 2; have hfz30_3 := blk_frozen BK164.out 3; have hcz31_0 : w28.cell? ⟨gb165, 0, none⟩ = some (.int .i64 a1_0) := (blk_cell BK165.out 0).trans rfl; have hcz31_1 : w28.cell? ⟨gb165, 1, none⟩ = some (.int .i64 a1_1) := (blk_cell BK165.out 1).trans rfl; have hcz31_2 : w28.cell? ⟨gb165, 2, none⟩ = some (.int .i64 a1_2) := (blk_cell BK165.out 2).trans rfl; have hcz31_3 : w28.cell? ⟨gb165, 3, none⟩ = some (.int .i64 a1_3) := (blk_cell BK165.out 3).trans rfl; have hfz31_0 := blk_frozen BK165.out 0; have hfz31_1 := blk_frozen BK165.out 1; have hfz31_2 := blk_frozen BK165.out 2; have hfz31_3 := blk_frozen BK165.out 3))
    go_ret
    exact ⟨by first | rfl | (simp [errW_none, errW_some] <;> rfl) | (simp [*, errW_none, errW_some] <;> rfl), by repeat (first | (with_reducible first | exact HB.out | apply below_alloc | apply pw_below_drewN | apply below_drew1 | refine below_set ?_ GE164.out | refine below_set ?_ GE165.out) | exact HB.out)⟩

end Go.Proofs.Ytcmimgoghmeliaa.PFnExactCanPredicate
