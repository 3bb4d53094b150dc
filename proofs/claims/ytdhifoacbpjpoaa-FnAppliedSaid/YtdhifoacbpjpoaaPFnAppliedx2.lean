-- Written by myprint.py (a program of this session, over the kit's print): not trusted, Lean checks it.
import Derived.Test.YtdhifoacbpjpoaaPFnAppliedx0
import Derived.Test.YtdhifoacbpjpoaaPFnAppliedx1
namespace Go.Proofs.Ytdhifoacbpjpoaa.PFnApplied
open Go.RowKit Go.Proofs.YtdhifoacbpjpoaaW.PrintWords Go.Proofs.YtdhifoacbpjpoaaW.PrintLast Go.Proofs.YtdhifoacbpjpoaaW.PrintMore
attribute [local go_sem] max2_int min2_int max_two min_two max_three min_three max_four min_four   -- for this text's walks alone
set_option linter.unusedVariables false
set_option linter.unusedSimpArgs false

/-! ### impl_InsOk: function 67 -/
def impl_InsOk.f (a0_0 : Int) (a0_1 : Int) (a0_2 : Int) (a0_3 : Int) (a1 : Int) : Option (Bool) := (impl_formOf.f a0_0).bind fun t => (if t.toList = ([] : List UInt8) then (some false) else ((impl_within.f a1 0 32).bind fun t213 => (if t213 = true then (if 0 < (t.size : Int) then ((impl_isField.f (bt t 0) a0_1 a1).bind fun t214 => (if t214 = true then (if 1 < (t.size : Int) then ((impl_isField.f (bt t 1) a0_2 a1).bind fun t215 => (if t215 = true then (if 2 < (t.size : Int) then ((impl_isField.f (bt t 2) a0_3 a1).bind fun t216 => (some t216)) else (none)) else (some false))) else (none)) else (some false))) else (none)) else (some false))))
theorem quiet_dr {P : Program} {f : FuncId} {args : Array Value} {w : World} {n : Nat} {v : Value} (h : Calls P f args (w.drewN n) fun e w' => e = .returned v ∧ Drawn0 (w.drewN n) w') :
    Calls P f args (w.drewN n) fun e w'' => e = .returned v ∧ ∃ m, w'' = w.drewN m :=
  h.mono fun _ _ ⟨he, hm⟩ => by
    obtain ⟨m, hm⟩ := hm.out
    exact ⟨he, n + m, by rw [hm, World.drewN_drewN]⟩
set_option maxHeartbeats 2000000 in
set_option maxRecDepth 100000 in
theorem impl_InsOk.w0 (a0_0 : Int) (a0_1 : Int) (a0_2 : Int) (a0_3 : Int) (a1 : Int) (t : ByteArray) (w : World) (HT : Aside0 (impl_formOf.f a0_0 = some t)) (hne : t.toList = []) :
    Calls Try.prog 67 #[.agg #[.int .i64 a0_0, .int .i64 a0_1, .int .i64 a0_2, .int .i64 a0_3], .int .i64 a1] w fun e w' => e = .returned (.bool false) ∧ Below w.heap.size w w' := by
  have hu43 := Try.underlying43
  have s1 : (t.toList == ([] : List UInt8)) = true := beq_iff_eq.mpr hne
  have s2 : (t.toList != ([] : List UInt8)) = false := bne_eq_false_iff_eq.mpr hne
  clear hne
  go_enter Try.func67, Try.ntmps67
  go_wp2_with (first | ((with_reducible refine gate_dst (N := 2) rfl ?_); refine box_event ?hg (N := 2) ?hd (cs := #[.int .i64 a0_0, .int .i64 a0_1, .int .i64 a0_2, .int .i64 a0_3]) (t := 43) ?hr ?_; (case hd => rfl); (case hg => rfl); (case hr => first | (go_simp; done) | (go_simp; rfl)); intro gb hgb w1 hbox hb; have HB := Aside0.mk hb; have BX := Aside0.mk hbox; have hz0 : w1.cell? ⟨gb, 0, none⟩ = some (.int .i64 a0_0) := (blk_cell hbox 0).trans rfl; clear hgb hb hbox) | (go_at_call 105; (with_reducible refine (impl_formOf.calls a0_0 t _ HT.out).mono ?_); rintro e w2 ⟨rfl, hb⟩; have HB2 := Aside0.mk (below_step HB.out hb); have z := blk_below BX.out hb; have z1 : w2.cell? ⟨gb, 1, none⟩ = some (.int .i64 a0_1) := (blk_cell z 1).trans rfl; have z2 : w2.cell? ⟨gb, 2, none⟩ = some (.int .i64 a0_2) := (blk_cell z 2).trans rfl; have z3 : w2.cell? ⟨gb, 3, none⟩ = some (.int .i64 a0_3) := (blk_cell z 3).trans rfl; clear hb z hz0))
  go_quiet (fail)
  go_wp2
  go_ret
  exact ⟨rfl, pw_below_drewN HB2.out _⟩
set_option maxHeartbeats 2000000 in
set_option maxRecDepth 100000 in
theorem impl_InsOk.w1 (a0_0 : Int) (a0_1 : Int) (a0_2 : Int) (a0_3 : Int) (a1 : Int) (t : ByteArray) (w : World) (HT : Aside0 (impl_formOf.f a0_0 = some t)) (hne : t.toList ≠ []) (HW : Aside0 (impl_within.f a1 0 32 = some false)) :
    Calls Try.prog 67 #[.agg #[.int .i64 a0_0, .int .i64 a0_1, .int .i64 a0_2, .int .i64 a0_3], .int .i64 a1] w fun e w' => e = .returned (.bool false) ∧ Below w.heap.size w w' := by
  have hu43 := Try.underlying43
  have s1 : (t.toList == ([] : List UInt8)) = false := beq_eq_false_iff_ne.mpr hne
  have s2 : (t.toList != ([] : List UInt8)) = true := bne_iff_ne.mpr hne
  clear hne
  go_enter Try.func67, Try.ntmps67
  go_wp2_with (first | ((with_reducible refine gate_dst (N := 2) rfl ?_); refine box_event ?hg (N := 2) ?hd (cs := #[.int .i64 a0_0, .int .i64 a0_1, .int .i64 a0_2, .int .i64 a0_3]) (t := 43) ?hr ?_; (case hd => rfl); (case hg => rfl); (case hr => first | (go_simp; done) | (go_simp; rfl)); intro gb hgb w1 hbox hb; have HB := Aside0.mk hb; have BX := Aside0.mk hbox; have hz0 : w1.cell? ⟨gb, 0, none⟩ = some (.int .i64 a0_0) := (blk_cell hbox 0).trans rfl; clear hgb hb hbox) | (go_at_call 105; (with_reducible refine (impl_formOf.calls a0_0 t _ HT.out).mono ?_); rintro e w2 ⟨rfl, hb⟩; have HB2 := Aside0.mk (below_step HB.out hb); have z := blk_below BX.out hb; have z1 : w2.cell? ⟨gb, 1, none⟩ = some (.int .i64 a0_1) := (blk_cell z 1).trans rfl; have z2 : w2.cell? ⟨gb, 2, none⟩ = some (.int .i64 a0_2) := (blk_cell z 2).trans rfl; have z3 : w2.cell? ⟨gb, 3, none⟩ = some (.int .i64 a0_3) := (blk_cell z 3).trans rfl; clear hb z hz0))
  go_quiet ((first | (go_at_call 84; with_reducible exact quiet_dr (impl_within.calls a1 0 32 _ _ HW.out))))
  go_wp2
  go_ret
  exact ⟨rfl, pw_below_drewN HB2.out _⟩
set_option maxHeartbeats 2000000 in
set_option maxRecDepth 100000 in
theorem impl_InsOk.w2 (a0_0 : Int) (a0_1 : Int) (a0_2 : Int) (a0_3 : Int) (a1 : Int) (t : ByteArray) (w : World) (HT : Aside0 (impl_formOf.f a0_0 = some t)) (hne : t.toList ≠ []) (HW : Aside0 (impl_within.f a1 0 32 = some true)) (H0 : Aside0 (impl_isField.f (bt t 0) a0_1 a1 = some false)) (hs : 0 < (t.size : Int)) :
    Calls Try.prog 67 #[.agg #[.int .i64 a0_0, .int .i64 a0_1, .int .i64 a0_2, .int .i64 a0_3], .int .i64 a1] w fun e w' => e = .returned (.bool false) ∧ Below w.heap.size w w' := by
  have hu43 := Try.underlying43
  have s1 : (t.toList == ([] : List UInt8)) = false := beq_eq_false_iff_ne.mpr hne
  have s2 : (t.toList != ([] : List UInt8)) = true := bne_iff_ne.mpr hne
  have p0 : decide (0 < (t.size : Int)) = true := decide_eq_true (by omega)
  have p0' : decide (0 < t.size) = true := decide_eq_true (by omega)
  have x0 : ∀ h : 0 < t.size, ((t[0]'h).toNat : Int) = bt t 0 := bt_at t 0
  have q0 : 0 < t.size := by omega
  clear hne hs
  go_enter Try.func67, Try.ntmps67
  go_wp2_with (first | ((with_reducible refine gate_dst (N := 2) rfl ?_); refine box_event ?hg (N := 2) ?hd (cs := #[.int .i64 a0_0, .int .i64 a0_1, .int .i64 a0_2, .int .i64 a0_3]) (t := 43) ?hr ?_; (case hd => rfl); (case hg => rfl); (case hr => first | (go_simp; done) | (go_simp; rfl)); intro gb hgb w1 hbox hb; have HB := Aside0.mk hb; have BX := Aside0.mk hbox; have hz0 : w1.cell? ⟨gb, 0, none⟩ = some (.int .i64 a0_0) := (blk_cell hbox 0).trans rfl; clear hgb hb hbox) | (go_at_call 105; (with_reducible refine (impl_formOf.calls a0_0 t _ HT.out).mono ?_); rintro e w2 ⟨rfl, hb⟩; have HB2 := Aside0.mk (below_step HB.out hb); have z := blk_below BX.out hb; have z1 : w2.cell? ⟨gb, 1, none⟩ = some (.int .i64 a0_1) := (blk_cell z 1).trans rfl; have z2 : w2.cell? ⟨gb, 2, none⟩ = some (.int .i64 a0_2) := (blk_cell z 2).trans rfl; have z3 : w2.cell? ⟨gb, 3, none⟩ = some (.int .i64 a0_3) := (blk_cell z 3).trans rfl; clear hb z hz0))
  go_quiet ((first | (go_at_call 84; with_reducible exact quiet_dr (impl_within.calls a1 0 32 _ _ HW.out)) | (go_at_call 106; with_reducible exact quiet_dr (impl_isField.calls (bt t 0) a0_1 a1 _ _ H0.out))))
  go_wp2
  go_ret
  exact ⟨rfl, pw_below_drewN HB2.out _⟩
set_option maxHeartbeats 2000000 in
set_option maxRecDepth 100000 in
theorem impl_InsOk.w3 (a0_0 : Int) (a0_1 : Int) (a0_2 : Int) (a0_3 : Int) (a1 : Int) (t : ByteArray) (w : World) (HT : Aside0 (impl_formOf.f a0_0 = some t)) (hne : t.toList ≠ []) (HW : Aside0 (impl_within.f a1 0 32 = some true)) (H0 : Aside0 (impl_isField.f (bt t 0) a0_1 a1 = some true)) (H1 : Aside0 (impl_isField.f (bt t 1) a0_2 a1 = some false)) (hs : 1 < (t.size : Int)) :
    Calls Try.prog 67 #[.agg #[.int .i64 a0_0, .int .i64 a0_1, .int .i64 a0_2, .int .i64 a0_3], .int .i64 a1] w fun e w' => e = .returned (.bool false) ∧ Below w.heap.size w w' := by
  have hu43 := Try.underlying43
  have s1 : (t.toList == ([] : List UInt8)) = false := beq_eq_false_iff_ne.mpr hne
  have s2 : (t.toList != ([] : List UInt8)) = true := bne_iff_ne.mpr hne
  have p0 : decide (0 < (t.size : Int)) = true := decide_eq_true (by omega)
  have p0' : decide (0 < t.size) = true := decide_eq_true (by omega)
  have x0 : ∀ h : 0 < t.size, ((t[0]'h).toNat : Int) = bt t 0 := bt_at t 0
  have q0 : 0 < t.size := by omega
  have p1 : decide (1 < (t.size : Int)) = true := decide_eq_true (by omega)
  have p1' : decide (1 < t.size) = true := decide_eq_true (by omega)
  have x1 : ∀ h : 1 < t.size, ((t[1]'h).toNat : Int) = bt t 1 := bt_at t 1
  have q1 : 1 < t.size := by omega
  clear hne hs
  go_enter Try.func67, Try.ntmps67
  go_wp2_with (first | ((with_reducible refine gate_dst (N := 2) rfl ?_); refine box_event ?hg (N := 2) ?hd (cs := #[.int .i64 a0_0, .int .i64 a0_1, .int .i64 a0_2, .int .i64 a0_3]) (t := 43) ?hr ?_; (case hd => rfl); (case hg => rfl); (case hr => first | (go_simp; done) | (go_simp; rfl)); intro gb hgb w1 hbox hb; have HB := Aside0.mk hb; have BX := Aside0.mk hbox; have hz0 : w1.cell? ⟨gb, 0, none⟩ = some (.int .i64 a0_0) := (blk_cell hbox 0).trans rfl; clear hgb hb hbox) | (go_at_call 105; (with_reducible refine (impl_formOf.calls a0_0 t _ HT.out).mono ?_); rintro e w2 ⟨rfl, hb⟩; have HB2 := Aside0.mk (below_step HB.out hb); have z := blk_below BX.out hb; have z1 : w2.cell? ⟨gb, 1, none⟩ = some (.int .i64 a0_1) := (blk_cell z 1).trans rfl; have z2 : w2.cell? ⟨gb, 2, none⟩ = some (.int .i64 a0_2) := (blk_cell z 2).trans rfl; have z3 : w2.cell? ⟨gb, 3, none⟩ = some (.int .i64 a0_3) := (blk_cell z 3).trans rfl; clear hb z hz0))
  go_quiet ((first | (go_at_call 84; with_reducible exact quiet_dr (impl_within.calls a1 0 32 _ _ HW.out)) | (go_at_call 106; with_reducible exact quiet_dr (impl_isField.calls (bt t 0) a0_1 a1 _ _ H0.out)) | (go_at_call 106; with_reducible exact quiet_dr (impl_isField.calls (bt t 1) a0_2 a1 _ _ H1.out))))
  go_wp2
  go_ret
  exact ⟨rfl, pw_below_drewN HB2.out _⟩
set_option maxHeartbeats 2000000 in
set_option maxRecDepth 100000 in
theorem impl_InsOk.w4 (a0_0 : Int) (a0_1 : Int) (a0_2 : Int) (a0_3 : Int) (a1 : Int) (t : ByteArray) (w : World) (HT : Aside0 (impl_formOf.f a0_0 = some t)) (hne : t.toList ≠ []) (HW : Aside0 (impl_within.f a1 0 32 = some true)) (H0 : Aside0 (impl_isField.f (bt t 0) a0_1 a1 = some true)) (H1 : Aside0 (impl_isField.f (bt t 1) a0_2 a1 = some true)) (r : Bool) (H2 : Aside0 (impl_isField.f (bt t 2) a0_3 a1 = some r)) (hs : 2 < (t.size : Int)) :
    Calls Try.prog 67 #[.agg #[.int .i64 a0_0, .int .i64 a0_1, .int .i64 a0_2, .int .i64 a0_3], .int .i64 a1] w fun e w' => e = .returned (.bool r) ∧ Below w.heap.size w w' := by
  have hu43 := Try.underlying43
  have s1 : (t.toList == ([] : List UInt8)) = false := beq_eq_false_iff_ne.mpr hne
  have s2 : (t.toList != ([] : List UInt8)) = true := bne_iff_ne.mpr hne
  have p0 : decide (0 < (t.size : Int)) = true := decide_eq_true (by omega)
  have p0' : decide (0 < t.size) = true := decide_eq_true (by omega)
  have x0 : ∀ h : 0 < t.size, ((t[0]'h).toNat : Int) = bt t 0 := bt_at t 0
  have q0 : 0 < t.size := by omega
  have p1 : decide (1 < (t.size : Int)) = true := decide_eq_true (by omega)
  have p1' : decide (1 < t.size) = true := decide_eq_true (by omega)
  have x1 : ∀ h : 1 < t.size, ((t[1]'h).toNat : Int) = bt t 1 := bt_at t 1
  have q1 : 1 < t.size := by omega
  have p2 : decide (2 < (t.size : Int)) = true := decide_eq_true (by omega)
  have p2' : decide (2 < t.size) = true := decide_eq_true (by omega)
  have x2 : ∀ h : 2 < t.size, ((t[2]'h).toNat : Int) = bt t 2 := bt_at t 2
  have q2 : 2 < t.size := by omega
  clear hne hs
  go_enter Try.func67, Try.ntmps67
  go_wp2_with (first | ((with_reducible refine gate_dst (N := 2) rfl ?_); refine box_event ?hg (N := 2) ?hd (cs := #[.int .i64 a0_0, .int .i64 a0_1, .int .i64 a0_2, .int .i64 a0_3]) (t := 43) ?hr ?_; (case hd => rfl); (case hg => rfl); (case hr => first | (go_simp; done) | (go_simp; rfl)); intro gb hgb w1 hbox hb; have HB := Aside0.mk hb; have BX := Aside0.mk hbox; have hz0 : w1.cell? ⟨gb, 0, none⟩ = some (.int .i64 a0_0) := (blk_cell hbox 0).trans rfl; clear hgb hb hbox) | (go_at_call 105; (with_reducible refine (impl_formOf.calls a0_0 t _ HT.out).mono ?_); rintro e w2 ⟨rfl, hb⟩; have HB2 := Aside0.mk (below_step HB.out hb); have z := blk_below BX.out hb; have z1 : w2.cell? ⟨gb, 1, none⟩ = some (.int .i64 a0_1) := (blk_cell z 1).trans rfl; have z2 : w2.cell? ⟨gb, 2, none⟩ = some (.int .i64 a0_2) := (blk_cell z 2).trans rfl; have z3 : w2.cell? ⟨gb, 3, none⟩ = some (.int .i64 a0_3) := (blk_cell z 3).trans rfl; clear hb z hz0))
  go_quiet ((first | (go_at_call 84; with_reducible exact quiet_dr (impl_within.calls a1 0 32 _ _ HW.out)) | (go_at_call 106; with_reducible exact quiet_dr (impl_isField.calls (bt t 0) a0_1 a1 _ _ H0.out)) | (go_at_call 106; with_reducible exact quiet_dr (impl_isField.calls (bt t 1) a0_2 a1 _ _ H1.out)) | (go_at_call 106; with_reducible exact quiet_dr (impl_isField.calls (bt t 2) a0_3 a1 _ _ H2.out))))
  go_wp2
  go_ret
  exact ⟨rfl, pw_below_drewN HB2.out _⟩
theorem impl_InsOk.calls (a0_0 : Int) (a0_1 : Int) (a0_2 : Int) (a0_3 : Int) (a1 : Int) (r : Bool) (w : World) (h : impl_InsOk.f a0_0 a0_1 a0_2 a0_3 a1 = some r) :
    Calls Try.prog 67 #[.agg #[.int .i64 a0_0, .int .i64 a0_1, .int .i64 a0_2, .int .i64 a0_3], .int .i64 a1] w fun e w' => e = .returned (.bool r) ∧ Below w.heap.size w w' := by
  unfold impl_InsOk.f at h
  obtain ⟨t, ht, h⟩ := Option.bind_eq_some_iff.mp h
  by_cases hne : t.toList = ([] : List UInt8)
  · rw [if_pos hne] at h
    obtain rfl := Option.some.inj h
    exact impl_InsOk.w0 a0_0 a0_1 a0_2 a0_3 a1 t w ⟨ht⟩ hne
  rw [if_neg hne] at h
  obtain ⟨b, hb, h⟩ := Option.bind_eq_some_iff.mp h
  cases b with
  | false =>
    obtain rfl := Option.some.inj ((if_neg (by decide)).symm.trans h)
    exact impl_InsOk.w1 a0_0 a0_1 a0_2 a0_3 a1 t w ⟨ht⟩ hne ⟨hb⟩
  | true =>
  rw [if_pos rfl] at h
  by_cases h0 : ¬ 0 < (t.size : Int)
  · rw [if_neg h0] at h; exact absurd h (by simp)
  replace h0 := Decidable.not_not.1 h0
  rw [if_pos h0] at h
  obtain ⟨b0, hb0, h⟩ := Option.bind_eq_some_iff.mp h
  cases b0 with
  | false =>
    obtain rfl := Option.some.inj ((if_neg (by decide)).symm.trans h)
    exact impl_InsOk.w2 a0_0 a0_1 a0_2 a0_3 a1 t w ⟨ht⟩ hne ⟨hb⟩ ⟨hb0⟩ h0
  | true =>
  rw [if_pos rfl] at h
  by_cases h1 : ¬ 1 < (t.size : Int)
  · rw [if_neg h1] at h; exact absurd h (by simp)
  replace h1 := Decidable.not_not.1 h1
  rw [if_pos h1] at h
  obtain ⟨b1, hb1, h⟩ := Option.bind_eq_some_iff.mp h
  cases b1 with
  | false =>
    obtain rfl := Option.some.inj ((if_neg (by decide)).symm.trans h)
    exact impl_InsOk.w3 a0_0 a0_1 a0_2 a0_3 a1 t w ⟨ht⟩ hne ⟨hb⟩ ⟨hb0⟩ ⟨hb1⟩ h1
  | true =>
  rw [if_pos rfl] at h
  by_cases h2 : ¬ 2 < (t.size : Int)
  · rw [if_neg h2] at h; exact absurd h (by simp)
  replace h2 := Decidable.not_not.1 h2
  rw [if_pos h2] at h
  obtain ⟨b2, hb2, h⟩ := Option.bind_eq_some_iff.mp h
  obtain rfl := Option.some.inj h
  exact impl_InsOk.w4 a0_0 a0_1 a0_2 a0_3 a1 t w ⟨ht⟩ hne ⟨hb⟩ ⟨hb0⟩ ⟨hb1⟩ b2 ⟨hb2⟩ h2

/-! ### impl_WrapWord: function 144 -/
def impl_WrapWord.f (a0 : Int) : Option (Int) := some (Go.bits .and .i64 a0 65535)
set_option maxHeartbeats 8000000 in
set_option maxRecDepth 100000 in
theorem impl_WrapWord.calls (a0 : Int) (r : Int) (w : World) (h : impl_WrapWord.f a0 = some r) :
    Calls Try.prog 144 #[.int .i64 a0] w fun e w' => e = .returned (.int .i64 r) ∧ Drawn0 w w' := by
  have H : (some (Go.bits .and .i64 a0 65535)) = some r := h
  clear h
  obtain rfl := Option.some.inj H
  go_enter Try.func144, Try.ntmps144
  go_wp2
  go_ret
  exact ⟨by first | rfl | (simp; done) | (simp [*]; done), by repeat (first | exact Drawn0.refl _ | apply Drawn0.step)⟩

/-! ### impl_wrapped: function 127 -/
def impl_wrapped.f (a0 : Int) (a1 : Int) (a2 : Int) : Option (Int) := (impl_IsWord.f a0).bind fun t145 => (if t145 = true then ((impl_IsWord.f a1).bind fun t146 => (if t146 = true then ((impl_WrapWord.f a2).bind fun t147 => (some t147)) else (some 0))) else (some 0))
set_option maxHeartbeats 8000000 in
set_option maxRecDepth 100000 in
theorem impl_wrapped.calls (a0 : Int) (a1 : Int) (a2 : Int) (r : Int) (w : World) (h : impl_wrapped.f a0 a1 a2 = some r) :
  Calls Try.prog 127 #[.int .i64 a0, .int .i64 a1, .int .i64 a2] w fun e w' => e = .returned (.int .i64 r) ∧ Drawn0 w w' := by
 have H : ((impl_IsWord.f a0).bind fun t145 => (if t145 = true then ((impl_IsWord.f a1).bind fun t146 => (if t146 = true then ((impl_WrapWord.f a2).bind fun t147 => (some t147)) else (some 0))) else (some 0))) = some r := h
 clear h
 replace H := Option.bind_eq_some_iff.mp H
 obtain ⟨t145, A40, H⟩ := H
 replace H : (if t145 = true then ((impl_IsWord.f a1).bind fun t146 => (if t146 = true then ((impl_WrapWord.f a2).bind fun t147 => (some t147)) else (some 0))) else (some 0)) = some r := H
 have A4 := Aside0.mk A40
 clear A40
 by_cases c5 : t145 = true
 ·subst c5
  have H1 : ((impl_IsWord.f a1).bind fun t146 => (if t146 = true then ((impl_WrapWord.f a2).bind fun t147 => (some t147)) else (some 0))) = some r := by rw [if_pos rfl] at H; exact H
  clear H
  have H := H1
  clear H1
  replace H := Option.bind_eq_some_iff.mp H
  obtain ⟨t146, A60, H⟩ := H
  replace H : (if t146 = true then ((impl_WrapWord.f a2).bind fun t147 => (some t147)) else (some 0)) = some r := H
  have A6 := Aside0.mk A60
  clear A60
  by_cases c7 : t146 = true
  ·subst c7
   have H1 : ((impl_WrapWord.f a2).bind fun t147 => (some t147)) = some r := by rw [if_pos rfl] at H; exact H
   clear H
   have H := H1
   clear H1
   replace H := Option.bind_eq_some_iff.mp H
   obtain ⟨t147, A80, H⟩ := H
   replace H : (some t147) = some r := H
   have A8 := Aside0.mk A80
   clear A80
   obtain rfl := Option.some.inj H
   go_enter Try.func127, Try.ntmps127
   go_wp2_with (first | ((with_reducible refine gate_callee (f := 92) rfl ?_); refine gL (some 8) Try.func92 #[.int .i64 a0] ?_; (with_reducible refine (impl_IsWord.calls a0 true _ A4.out).mono ?_); rintro e w' ⟨rfl, ⟨nd, rfl⟩⟩; refine ⟨_, rfl, ?_⟩) | (go_at_call 92; (with_reducible refine (impl_IsWord.calls a1 true _ A6.out).mono ?_); rintro e w' ⟨rfl, ⟨nd, rfl⟩⟩) | ((with_reducible refine gate_callee (f := 144) rfl ?_); refine gL (some 16) Try.func144 #[.int .i64 a2] ?_; (with_reducible refine (impl_WrapWord.calls a2 t147 _ A8.out).mono ?_); rintro e w' ⟨rfl, ⟨nd, rfl⟩⟩; refine ⟨_, rfl, ?_⟩))
   go_ret
   exact ⟨by first | rfl | (simp; done) | (simp [*]; done), by repeat (first | exact Drawn0.refl _ | apply Drawn0.step)⟩
  ·replace c7 := Bool.eq_false_iff.mpr c7
   subst c7
   have H1 : (some 0) = some r := by rw [if_neg (show ¬ (false = true) by decide)] at H; exact H
   clear H
   have H := H1
   clear H1
   obtain rfl := Option.some.inj H
   go_enter Try.func127, Try.ntmps127
   go_wp2_with (first | ((with_reducible refine gate_callee (f := 92) rfl ?_); refine gL (some 8) Try.func92 #[.int .i64 a0] ?_; (with_reducible refine (impl_IsWord.calls a0 true _ A4.out).mono ?_); rintro e w' ⟨rfl, ⟨nd, rfl⟩⟩; refine ⟨_, rfl, ?_⟩) | (go_at_call 92; (with_reducible refine (impl_IsWord.calls a1 false _ A6.out).mono ?_); rintro e w' ⟨rfl, ⟨nd, rfl⟩⟩))
   go_ret
   exact ⟨by first | rfl | (simp; done) | (simp [*]; done), by repeat (first | exact Drawn0.refl _ | apply Drawn0.step)⟩
 ·replace c5 := Bool.eq_false_iff.mpr c5
  subst c5
  have H1 : (some 0) = some r := by rw [if_neg (show ¬ (false = true) by decide)] at H; exact H
  clear H
  have H := H1
  clear H1
  obtain rfl := Option.some.inj H
  go_enter Try.func127, Try.ntmps127
  go_wp2_with (first | ((with_reducible refine gate_callee (f := 92) rfl ?_); refine gL (some 8) Try.func92 #[.int .i64 a0] ?_; (with_reducible refine (impl_IsWord.calls a0 false _ A4.out).mono ?_); rintro e w' ⟨rfl, ⟨nd, rfl⟩⟩; refine ⟨_, rfl, ?_⟩))
  go_ret
  exact ⟨by first | rfl | (simp; done) | (simp [*]; done), by repeat (first | exact Drawn0.refl _ | apply Drawn0.step)⟩

/-! ### impl_AddWords: function 107 -/
def impl_AddWords.f (a0 : Int) (a1 : Int) : Option (Int) := (impl_wrapped.f a0 a1 (wrap64 (a0 + a1))).bind fun t148 => (some t148)
set_option maxHeartbeats 8000000 in
set_option maxRecDepth 100000 in
theorem impl_AddWords.calls (a0 : Int) (a1 : Int) (r : Int) (w : World) (h : impl_AddWords.f a0 a1 = some r) :
    Calls Try.prog 107 #[.int .i64 a0, .int .i64 a1] w fun e w' => e = .returned (.int .i64 r) ∧ Drawn0 w w' := by
  have H : ((impl_wrapped.f a0 a1 (wrap64 (a0 + a1))).bind fun t148 => (some t148)) = some r := h
  clear h
  replace H := Option.bind_eq_some_iff.mp H
  obtain ⟨t148, A30, H⟩ := H
  replace H : (some t148) = some r := H
  have A3 := Aside0.mk A30
  clear A30
  obtain rfl := Option.some.inj H
  go_enter Try.func107, Try.ntmps107
  go_wp2_with (first | ((with_reducible refine gate_callee (f := 127) rfl ?_); refine gL (some 10) Try.func127 #[.int .i64 a0, .int .i64 a1, .int .i64 (wrap64 (a0 + a1))] ?_; (with_reducible refine (impl_wrapped.calls a0 a1 (wrap64 (a0 + a1)) t148 _ A3.out).mono ?_); rintro e w' ⟨rfl, ⟨nd, rfl⟩⟩; refine ⟨_, rfl, ?_⟩))
  go_ret
  exact ⟨by first | rfl | (simp; done) | (simp [*]; done), by repeat (first | exact Drawn0.refl _ | apply Drawn0.step)⟩

/-! ### impl_SubWords: function 108 -/
def impl_SubWords.f (a0 : Int) (a1 : Int) : Option (Int) := (impl_wrapped.f a0 a1 (wrap64 (a0 - a1))).bind fun t149 => (some t149)
set_option maxHeartbeats 8000000 in
set_option maxRecDepth 100000 in
theorem impl_SubWords.calls (a0 : Int) (a1 : Int) (r : Int) (w : World) (h : impl_SubWords.f a0 a1 = some r) :
    Calls Try.prog 108 #[.int .i64 a0, .int .i64 a1] w fun e w' => e = .returned (.int .i64 r) ∧ Drawn0 w w' := by
  have H : ((impl_wrapped.f a0 a1 (wrap64 (a0 - a1))).bind fun t149 => (some t149)) = some r := h
  clear h
  replace H := Option.bind_eq_some_iff.mp H
  obtain ⟨t149, A30, H⟩ := H
  replace H : (some t149) = some r := H
  have A3 := Aside0.mk A30
  clear A30
  obtain rfl := Option.some.inj H
  go_enter Try.func108, Try.ntmps108
  go_wp2_with (first | ((with_reducible refine gate_callee (f := 127) rfl ?_); refine gL (some 10) Try.func127 #[.int .i64 a0, .int .i64 a1, .int .i64 (wrap64 (a0 - a1))] ?_; (with_reducible refine (impl_wrapped.calls a0 a1 (wrap64 (a0 - a1)) t149 _ A3.out).mono ?_); rintro e w' ⟨rfl, ⟨nd, rfl⟩⟩; refine ⟨_, rfl, ?_⟩))
  go_ret
  exact ⟨by first | rfl | (simp; done) | (simp [*]; done), by repeat (first | exact Drawn0.refl _ | apply Drawn0.step)⟩

/-! ### impl_MulWords: function 109 -/
def impl_MulWords.f (a0 : Int) (a1 : Int) : Option (Int) := (impl_wrapped.f a0 a1 (wrap64 (a0 * a1))).bind fun t150 => (some t150)
set_option maxHeartbeats 8000000 in
set_option maxRecDepth 100000 in
theorem impl_MulWords.calls (a0 : Int) (a1 : Int) (r : Int) (w : World) (h : impl_MulWords.f a0 a1 = some r) :
    Calls Try.prog 109 #[.int .i64 a0, .int .i64 a1] w fun e w' => e = .returned (.int .i64 r) ∧ Drawn0 w w' := by
  have H : ((impl_wrapped.f a0 a1 (wrap64 (a0 * a1))).bind fun t150 => (some t150)) = some r := h
  clear h
  replace H := Option.bind_eq_some_iff.mp H
  obtain ⟨t150, A30, H⟩ := H
  replace H : (some t150) = some r := H
  have A3 := Aside0.mk A30
  clear A30
  obtain rfl := Option.some.inj H
  go_enter Try.func109, Try.ntmps109
  go_wp2_with (first | ((with_reducible refine gate_callee (f := 127) rfl ?_); refine gL (some 10) Try.func127 #[.int .i64 a0, .int .i64 a1, .int .i64 (wrap64 (a0 * a1))] ?_; (with_reducible refine (impl_wrapped.calls a0 a1 (wrap64 (a0 * a1)) t150 _ A3.out).mono ?_); rintro e w' ⟨rfl, ⟨nd, rfl⟩⟩; refine ⟨_, rfl, ?_⟩))
  go_ret
  exact ⟨by first | rfl | (simp; done) | (simp [*]; done), by repeat (first | exact Drawn0.refl _ | apply Drawn0.step)⟩

/-! ### impl_LessWords: function 110 -/
def impl_LessWords.f (a0 : Int) (a1 : Int) : Option (Int) := (impl_IsWord.f a0).bind fun t151 => (if t151 = true then ((impl_IsWord.f a1).bind fun t152 => (if t152 = true then (if a0 < a1 then (some 1) else (some 0)) else (some 0))) else (some 0))
set_option maxHeartbeats 8000000 in
set_option maxRecDepth 100000 in
theorem impl_LessWords.calls (a0 : Int) (a1 : Int) (r : Int) (w : World) (h : impl_LessWords.f a0 a1 = some r) :
  Calls Try.prog 110 #[.int .i64 a0, .int .i64 a1] w fun e w' => e = .returned (.int .i64 r) ∧ Drawn0 w w' := by
 have H : ((impl_IsWord.f a0).bind fun t151 => (if t151 = true then ((impl_IsWord.f a1).bind fun t152 => (if t152 = true then (if a0 < a1 then (some 1) else (some 0)) else (some 0))) else (some 0))) = some r := h
 clear h
 replace H := Option.bind_eq_some_iff.mp H
 obtain ⟨t151, A30, H⟩ := H
 replace H : (if t151 = true then ((impl_IsWord.f a1).bind fun t152 => (if t152 = true then (if a0 < a1 then (some 1) else (some 0)) else (some 0))) else (some 0)) = some r := H
 have A3 := Aside0.mk A30
 clear A30
 by_cases c4 : t151 = true
 ·subst c4
  have H1 : ((impl_IsWord.f a1).bind fun t152 => (if t152 = true then (if a0 < a1 then (some 1) else (some 0)) else (some 0))) = some r := by rw [if_pos rfl] at H; exact H
  clear H
  have H := H1
  clear H1
  replace H := Option.bind_eq_some_iff.mp H
  obtain ⟨t152, A50, H⟩ := H
  replace H : (if t152 = true then (if a0 < a1 then (some 1) else (some 0)) else (some 0)) = some r := H
  have A5 := Aside0.mk A50
  clear A50
  by_cases c6 : t152 = true
  ·subst c6
   have H1 : (if a0 < a1 then (some 1) else (some 0)) = some r := by rw [if_pos rfl] at H; exact H
   clear H
   have H := H1
   clear H1
   by_cases c7 : a0 < a1
   ·rw [if_pos c7] at H
    have c7b0 : decide (a0 < a1) = true := decide_eq_true c7
    clear c7
    obtain rfl := Option.some.inj H
    go_enter Try.func110, Try.ntmps110
    go_wp2_with (first | ((with_reducible refine gate_callee (f := 92) rfl ?_); refine gL (some 6) Try.func92 #[.int .i64 a0] ?_; (with_reducible refine (impl_IsWord.calls a0 true _ A3.out).mono ?_); rintro e w' ⟨rfl, ⟨nd, rfl⟩⟩; refine ⟨_, rfl, ?_⟩) | (go_at_call 92; (with_reducible refine (impl_IsWord.calls a1 true _ A5.out).mono ?_); rintro e w' ⟨rfl, ⟨nd, rfl⟩⟩))
    go_ret
    exact ⟨by first | rfl | (simp; done) | (simp [*]; done), by repeat (first | exact Drawn0.refl _ | apply Drawn0.step)⟩
   ·rw [if_neg c7] at H
    have c7b0 : decide (a0 < a1) = false := decide_eq_false c7
    clear c7
    obtain rfl := Option.some.inj H
    go_enter Try.func110, Try.ntmps110
    go_wp2_with (first | ((with_reducible refine gate_callee (f := 92) rfl ?_); refine gL (some 6) Try.func92 #[.int .i64 a0] ?_; (with_reducible refine (impl_IsWord.calls a0 true _ A3.out).mono ?_); rintro e w' ⟨rfl, ⟨nd, rfl⟩⟩; refine ⟨_, rfl, ?_⟩) | (go_at_call 92; (with_reducible refine (impl_IsWord.calls a1 true _ A5.out).mono ?_); rintro e w' ⟨rfl, ⟨nd, rfl⟩⟩))
    go_ret
    exact ⟨by first | rfl | (simp; done) | (simp [*]; done), by repeat (first | exact Drawn0.refl _ | apply Drawn0.step)⟩
  ·replace c6 := Bool.eq_false_iff.mpr c6
   subst c6
   have H1 : (some 0) = some r := by rw [if_neg (show ¬ (false = true) by decide)] at H; exact H
   clear H
   have H := H1
   clear H1
   obtain rfl := Option.some.inj H
   go_enter Try.func110, Try.ntmps110
   go_wp2_with (first | ((with_reducible refine gate_callee (f := 92) rfl ?_); refine gL (some 6) Try.func92 #[.int .i64 a0] ?_; (with_reducible refine (impl_IsWord.calls a0 true _ A3.out).mono ?_); rintro e w' ⟨rfl, ⟨nd, rfl⟩⟩; refine ⟨_, rfl, ?_⟩) | (go_at_call 92; (with_reducible refine (impl_IsWord.calls a1 false _ A5.out).mono ?_); rintro e w' ⟨rfl, ⟨nd, rfl⟩⟩))
   go_ret
   exact ⟨by first | rfl | (simp; done) | (simp [*]; done), by repeat (first | exact Drawn0.refl _ | apply Drawn0.step)⟩
 ·replace c4 := Bool.eq_false_iff.mpr c4
  subst c4
  have H1 : (some 0) = some r := by rw [if_neg (show ¬ (false = true) by decide)] at H; exact H
  clear H
  have H := H1
  clear H1
  obtain rfl := Option.some.inj H
  go_enter Try.func110, Try.ntmps110
  go_wp2_with (first | ((with_reducible refine gate_callee (f := 92) rfl ?_); refine gL (some 6) Try.func92 #[.int .i64 a0] ?_; (with_reducible refine (impl_IsWord.calls a0 false _ A3.out).mono ?_); rintro e w' ⟨rfl, ⟨nd, rfl⟩⟩; refine ⟨_, rfl, ?_⟩))
  go_ret
  exact ⟨by first | rfl | (simp; done) | (simp [*]; done), by repeat (first | exact Drawn0.refl _ | apply Drawn0.step)⟩

end Go.Proofs.Ytdhifoacbpjpoaa.PFnApplied
