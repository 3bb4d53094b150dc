-- Written by myprint.py (a program of this session, over the kit's print): not trusted, Lean checks it.
import Derived.Test.YtdppehpcpofeoaaGreatPFnExactUniformAtx0
import Derived.Test.YtdppehpcpofeoaaGreatPFnExactUniformAtx5
import Derived.Test.YtdppehpcpofeoaaGreatPFnExactUniformAtx9
import Derived.Test.YtdppehpcpofeoaaGreatPFnExactUniformAtx10
import Derived.Test.YtdppehpcpofeoaaGreatPFnExactUniformAtx11
namespace Go.Proofs.YtdppehpcpofeoaaGreat.PFnExactUniformAt
open Go.RowKit Go.Proofs.YtdppehpcpofeoaaGreatW.PrintWords Go.Proofs.YtdppehpcpofeoaaGreatW.PrintLast Go.Proofs.YtdppehpcpofeoaaGreatW.PrintMore
attribute [local go_sem] max2_int min2_int max_two min_two max_three min_three max_four min_four   -- for this text's walks alone
set_option linter.unusedVariables false
set_option linter.unusedSimpArgs false

/-! ### impl_reached: function 67 -/
def reachI (l0 : List S38) (wo : Int) : Nat → List Bool → List Int → Option (List Bool)
  | 0, _, _ => none
  | _ + 1, out, [] => some out
  | k + 1, out, x :: t => if x = wo then reachI l0 wo k out t else if 0 ≤ x ∧ x < (out.length : Int) then (if rdOf false out x = true then reachI l0 wo k out t else (impl_next.f k l0 x).bind fun ns => if (t.length + ns.length) * 8 ≤ 140737488355328 then reachI l0 wo k (out.set x.toNat true) (t ++ ns) else none) else none
theorem reachI_mono (l0 : List S38) (wo : Int) : ∀ k out t, LeO (reachI l0 wo k out t) (reachI l0 wo (k + 1) out t)
  | 0, out, t => fun r h => by simp [reachI] at h
  | k + 1, out, [] => LeO.refl _
  | k + 1, out, x :: t => by
    rw [reachI, reachI]
    refine LeO.ite (reachI_mono l0 wo k _ _) (LeO.ite (LeO.ite (reachI_mono l0 wo k _ _) (LeO.bind (impl_next.mono _ _ _) fun _ => LeO.ite (reachI_mono l0 wo k _ _) (LeO.none _))) (LeO.none _))
def impl_reached.f (k : Nat) (l0 : List S38) (l1 : List Int) (a2 : Int) : Option (List Bool) := if l0.length ≤ 1048576 then (slices_Clone_int_int.f l1).bind fun t => reachI l0 a2 k (List.replicate (l0.length + 1) false) t else none
theorem impl_reached.mono : ∀ a0 a1 a2 k, LeO (impl_reached.f k a0 a1 a2) (impl_reached.f (k + 1) a0 a1 a2) := by
  intro a0 a1 a2 k
  unfold impl_reached.f
  exact LeO.ite (LeO.bind (LeO.refl _) fun _ => reachI_mono _ _ _ _ _) (LeO.none _)
set_option maxHeartbeats 4000000 in
set_option maxRecDepth 100000 in
theorem impl_reached.calls (k : Nat) (A0 : Option Addr) (c0 : Nat) (l0 : List S38) (A1 : Option Addr) (c1 : Nat) (l1 : List Int) (a2 : Int) (r : List Bool) (w : World) (hr0 : Kd.C k38 w A0 l0.length l0) (hc0 : l0.length ≤ c0) (hr1 : Kd.C (Kd.int .i64) w A1 l1.length l1) (hc1 : l1.length ≤ c1) (h : impl_reached.f k l0 l1 a2 = some r) :
    Calls Tryz.prog 67 #[.slice A0 l0.length c0, .slice A1 l1.length c1, .int .i64 a2] w fun e w' => ∃ v0_ : Value, e = .returned (v0_) ∧ Kd.R Kd.bool 4 w' w.heap.size (fun _ => True) v0_ r ∧ Below w.heap.size w w' := by
  unfold impl_reached.f at h
  by_cases h20 : ¬ l0.length ≤ 1048576
  · rw [if_neg h20] at h; exact absurd h (by simp)
  replace h20 := Decidable.not_not.1 h20
  rw [if_pos h20] at h
  obtain ⟨t, ht, h⟩ := Option.bind_eq_some_iff.mp h
  have HT := Aside0.mk ht
  have HL := Aside0.mk h
  have HR0 := Aside0.mk hr0
  have HC0 := Aside0.mk hc0
  have HR1 := Aside0.mk hr1
  have HC1 := Aside0.mk hc1
  clear ht h hr0 hc0 hr1 hc1
  have hw1 : IntKind.i64.wrap ((l0.length : Int) + 1) = (l0.length : Int) + 1 := by rw [i64_w]; unfold wrap64; omega
  have hn1 : ((l0.length : Int) + 1).toNat = l0.length + 1 := by omega
  go_enter Tryz.func67, Tryz.ntmps67
  go_wp2_with (first
    | ((with_reducible refine gate_dst (N := 13) rfl ?_); refine Kd.R_make Kd.bool _ 4 rfl (N := 13) rfl 57 _ _ rfl ((l0.length : Int) + 1) rfl rfl Tryz.underlying57 (.bool false) 1 info4 rfl (by decide) (by omega) false (ok := fun _ => True) (okp := fun _ => True) rfl (fun _ hk => hk) trivial (by omega) (by omega) (Below.refl _ _) (Nat.le_refl _) ?_; intro v1 w1 ho1 hb1 _ _; rw [hn1] at ho1; obtain ⟨go, co, eo, hgo, _, _⟩ := Kd.R_form ho1 (by simp); rw [List.length_replicate] at eo; subst eo; have HO := Aside0.mk ho1; have HG := Aside0.mk hgo; have HB := Aside0.mk hb1; clear ho1 hb1 hgo)
    | (go_at_call 36; (with_reducible refine (slices_Clone_int_int.calls A1 c1 l1 t _ (Kd.C_below HR1.out HB.out) HC1.out HT.out).mono ?_); rintro e w2 ⟨v2, rfl, ho2, hb2⟩; have HQ := Aside0.mk (Kd.Q_of_R (Kd.R_lower ho2 (below_size HB.out))); have HO2 := Aside0.mk (Kd.R_below HO.out hb2); have HB2 := Aside0.mk (below_step HB.out hb2); clear ho2 hb2))
  go_loopg [8, 9] k (fun kq v8 _ wr => ∃ (out : List Bool) (todo : List Int), out.length = l0.length + 1 ∧ Aside0 (reachI l0 a2 kq out todo = some r) ∧ Aside0 (Kd.R Kd.bool 4 wr w.heap.size (fun _ => True) (.slice (some ⟨go, 0, none⟩) (l0.length + 1) co) out) ∧ Aside0 (Kd.Q (Kd.int .i64) 3 wr w.heap.size (fun _ => True) v8 todo) ∧ Aside0 (Below w.heap.size w wr))
  case atStart => exact ⟨_, t, List.length_replicate .., HL, ⟨HO2.out⟩, ⟨HQ.out⟩, ⟨HB2.out⟩⟩
  case round =>
    clear HL HT HO2 HQ HB2 HO HB
    obtain ⟨out, todo, hol, HA, HO, HQ, HB⟩ := hrel
    cases gk with
    | zero => exact absurd HA.out (by simp [reachI])
    | succ k1 =>
      obtain ⟨A8, c8, e8, _⟩ := Kd.Q_slice HQ.out
      subst e8
      cases todo with
      | nil =>
        obtain rfl := Option.some.inj HA.out
        go_wp2
        go_ret
        exact ⟨_, rfl, HO.out, HB.out⟩
      | cons x t =>
        have hpos : decide (((t.length + 1 : Nat) : Int) > 0) = true := decide_eq_true (by omega)
        obtain ⟨ad, ea, hx⟩ := Kd.at_int (Kd.Q_reads' HQ.out).2.2 0 (by omega) (by simp)
        subst ea
        rw [show (0 : Int).toNat = 0 from rfl, Addr.add_zero'] at hx
        replace hx : wr.cell? ad = some (Value.int .i64 x) := hx
        have hq9 : (c8 = 1 ∧ Kd.Q (Kd.int .i64) 3 wr w.heap.size (fun _ => True) (.slice (some ad) t.length 0) t) ∨ (¬ c8 = 1 ∧ Kd.Q (Kd.int .i64) 3 wr w.heap.size (fun _ => True) (.slice (some (ad.add 1)) t.length (c8 - 1)) t) := by
          have hq := Kd.Q_drop (k := 1) HQ.out (by simp)
          by_cases hc : c8 = 1
          · subst hc; exact .inl ⟨rfl, hq⟩
          · rw [if_neg hc] at hq; exact .inr ⟨hc, hq⟩
        have HOL := Aside0.mk hol
        have H := HA.out
        clear HA
        rw [reachI] at H
        rcases hq9 with ⟨hc, hq9⟩ | ⟨hc, hq9⟩
        · subst hc
          have HQ9 := Aside0.mk hq9
          clear hq9
          by_cases e1 : x = a2
          · rw [if_pos e1] at H
            have HF := Aside0.mk H
            have b1 : (x == a2) = true := beq_iff_eq.mpr e1
            clear e1 H hol
            go_wp2
            go_roundg k1
            case measure => omega
            case rel => exact ⟨out, t, HOL.out, HF, ⟨HO.out⟩, ⟨HQ9.out⟩, ⟨HB.out⟩⟩
          · rw [if_neg e1] at H
            have b1 : (x == a2) = false := beq_eq_false_iff_ne.mpr e1
            clear e1
            by_cases hr : 0 ≤ x ∧ x < (out.length : Int)
            · rw [if_pos hr] at H
              rw [hol] at hr
              obtain ⟨hm, hf⟩ := Kd.R_celln false HO.out x hr.1 hr.2
              have q1 : decide (0 ≤ x) = true := decide_eq_true hr.1
              have q2 : decide (x < ((l0.length + 1 : Nat) : Int)) = true := decide_eq_true hr.2
              have q3 : decide (x < (l0.length : Int) + 1) = true := decide_eq_true (by omega)
              have q4 : 0 ≤ x := hr.1
              have q5 : x < (l0.length : Int) + 1 := by omega
              clear hr hol
              by_cases hv : rdOf false out x = true
              · rw [if_pos hv] at H
                have HF := Aside0.mk H
                rw [hv] at hm
                clear hv H
                go_wp2
                go_roundg k1
                case measure => omega
                case rel => exact ⟨out, t, HOL.out, HF, ⟨HO.out⟩, ⟨HQ9.out⟩, ⟨HB.out⟩⟩
              · rw [if_neg hv] at H
                replace hv : rdOf false out x = false := by simpa using hv
                rw [hv] at hm
                clear hv
                obtain ⟨ns, hns, H⟩ := Option.bind_eq_some_iff.mp H
                have HN := Aside0.mk hns
                clear hns
                by_cases hlen : (t.length + ns.length) * 8 ≤ 140737488355328
                · rw [if_pos hlen] at H
                  have HF := Aside0.mk H
                  have HLEN := Aside0.mk hlen
                  clear H hlen
                  have HP := Aside0.mk (Kd.R_putg HO.out x true)
                  have HS := Aside0.mk (below_set (j := x.toNat) (v := .bool true) HB.out HG.out)
                  have HQ3 := Aside0.mk (Kd.Q_over' HQ9.out (Kd.R_typed HO.out) (by decide) HP.out.2)
                  go_wp2_with (first
                    | (go_at_call 38; (with_reducible refine (impl_next.calls k1 A0 c0 l0 x ns _ (Kd.C_below HR0.out HS.out) HC0.out HN.out).mono ?_); rintro e w4 ⟨v4, rfl, ho4, hb4⟩; obtain ⟨A4, c4, e4⟩ := Kd.R_slice ho4; subst e4; have HQ4 := Aside0.mk (Kd.Q_below HQ3.out hb4); have HO4 := Aside0.mk (Kd.R_below HP.out.1 hb4); have HB4 := Aside0.mk (below_step HS.out hb4); have HN4 := Aside0.mk (Kd.R_reads' ho4).2.2; clear ho4 hb4)
                    | ((with_reducible refine gate_builtin (b := .append) (xs := #[.tmp 36, .tmp 39]) rfl ?_); at_builtin; refine Q_app (w0 := w) w.heap.size rfl (.tmp 36) (.tmp 39) rfl _ t ns A4 ns.length c4 (fun _ => True) rfl rfl HQ4.out HN4.out (fun _ _ => trivial) HB4.out (below_size HB4.out) HLEN.out ?_; intro v5 w5 hq5 hb5 hg5; have HO5 := Aside0.mk (Kd.R_over' HO4.out (Kd.Q_typed HQ4.out) (by decide) hg5); have HQ5 := Aside0.mk hq5; have HB5 := Aside0.mk hb5; clear hq5 hb5 hg5))
                  go_roundg k1
                  case measure => omega
                  case rel => exact ⟨out.set x.toNat true, t ++ ns, by rw [List.length_set]; exact HOL.out, HF, ⟨HO5.out⟩, ⟨HQ5.out⟩, ⟨HB5.out⟩⟩
                · rw [if_neg hlen] at H
                  exact absurd H (by simp)
            · rw [if_neg hr] at H
              exact absurd H (by simp)
        · have HQ9 := Aside0.mk hq9
          clear hq9
          by_cases e1 : x = a2
          · rw [if_pos e1] at H
            have HF := Aside0.mk H
            have b1 : (x == a2) = true := beq_iff_eq.mpr e1
            clear e1 H hol
            go_wp2
            go_roundg k1
            case measure => omega
            case rel => exact ⟨out, t, HOL.out, HF, ⟨HO.out⟩, ⟨HQ9.out⟩, ⟨HB.out⟩⟩
          · rw [if_neg e1] at H
            have b1 : (x == a2) = false := beq_eq_false_iff_ne.mpr e1
            clear e1
            by_cases hr : 0 ≤ x ∧ x < (out.length : Int)
            · rw [if_pos hr] at H
              rw [hol] at hr
              obtain ⟨hm, hf⟩ := Kd.R_celln false HO.out x hr.1 hr.2
              have q1 : decide (0 ≤ x) = true := decide_eq_true hr.1
              have q2 : decide (x < ((l0.length + 1 : Nat) : Int)) = true := decide_eq_true hr.2
              have q3 : decide (x < (l0.length : Int) + 1) = true := decide_eq_true (by omega)
              have q4 : 0 ≤ x := hr.1
              have q5 : x < (l0.length : Int) + 1 := by omega
              clear hr hol
              by_cases hv : rdOf false out x = true
              · rw [if_pos hv] at H
                have HF := Aside0.mk H
                rw [hv] at hm
                clear hv H
                go_wp2
                go_roundg k1
                case measure => omega
                case rel => exact ⟨out, t, HOL.out, HF, ⟨HO.out⟩, ⟨HQ9.out⟩, ⟨HB.out⟩⟩
              · rw [if_neg hv] at H
                replace hv : rdOf false out x = false := by simpa using hv
                rw [hv] at hm
                clear hv
                obtain ⟨ns, hns, H⟩ := Option.bind_eq_some_iff.mp H
                have HN := Aside0.mk hns
                clear hns
                by_cases hlen : (t.length + ns.length) * 8 ≤ 140737488355328
                · rw [if_pos hlen] at H
                  have HF := Aside0.mk H
                  have HLEN := Aside0.mk hlen
                  clear H hlen
                  have HP := Aside0.mk (Kd.R_putg HO.out x true)
                  have HS := Aside0.mk (below_set (j := x.toNat) (v := .bool true) HB.out HG.out)
                  have HQ3 := Aside0.mk (Kd.Q_over' HQ9.out (Kd.R_typed HO.out) (by decide) HP.out.2)
                  go_wp2_with (first
                    | (go_at_call 38; (with_reducible refine (impl_next.calls k1 A0 c0 l0 x ns _ (Kd.C_below HR0.out HS.out) HC0.out HN.out).mono ?_); rintro e w4 ⟨v4, rfl, ho4, hb4⟩; obtain ⟨A4, c4, e4⟩ := Kd.R_slice ho4; subst e4; have HQ4 := Aside0.mk (Kd.Q_below HQ3.out hb4); have HO4 := Aside0.mk (Kd.R_below HP.out.1 hb4); have HB4 := Aside0.mk (below_step HS.out hb4); have HN4 := Aside0.mk (Kd.R_reads' ho4).2.2; clear ho4 hb4)
                    | ((with_reducible refine gate_builtin (b := .append) (xs := #[.tmp 36, .tmp 39]) rfl ?_); at_builtin; refine Q_app (w0 := w) w.heap.size rfl (.tmp 36) (.tmp 39) rfl _ t ns A4 ns.length c4 (fun _ => True) rfl rfl HQ4.out HN4.out (fun _ _ => trivial) HB4.out (below_size HB4.out) HLEN.out ?_; intro v5 w5 hq5 hb5 hg5; have HO5 := Aside0.mk (Kd.R_over' HO4.out (Kd.Q_typed HQ4.out) (by decide) hg5); have HQ5 := Aside0.mk hq5; have HB5 := Aside0.mk hb5; clear hq5 hb5 hg5))
                  go_roundg k1
                  case measure => omega
                  case rel => exact ⟨out.set x.toNat true, t ++ ns, by rw [List.length_set]; exact HOL.out, HF, ⟨HO5.out⟩, ⟨HQ5.out⟩, ⟨HB5.out⟩⟩
                · rw [if_neg hlen] at H
                  exact absurd H (by simp)
            · rw [if_neg hr] at H
              exact absurd H (by simp)

/-! ### impl_reachesExit: function 68 -/
def impl_reachesExit.f (k : Nat) (l0 : List (S38)) (a1 : Int) : Option (Bool) := (impl_reached.f k l0 (([a1] : List Int)) (-1)).bind fun t419 => (if 0 ≤ (l0.length : Int) then (if (l0.length : Int) < (t419.length : Int) then (some (rdOf false t419 (l0.length : Int))) else (none)) else (none))
theorem impl_reachesExit.mono : ∀ a0 a1 k, LeO (impl_reachesExit.f k a0 a1) (impl_reachesExit.f (k + 1) a0 a1) := by
 intro a0 a1 k
 unfold impl_reachesExit.f
 repeat' first
   | (with_reducible exact impl_reached.mono _ _ _ _)
   | (with_reducible exact LeO.refl _)
   | (with_reducible exact LeO.none _)
   | (with_reducible refine LeO.ite ?_ ?_)
   | (with_reducible refine LeO.bind ?_ (fun _ => ?_))
   | exact impl_reached.mono _ _ _ _
   | exact LeO.none _
   | refine LeO.ite ?_ ?_
   | refine LeO.bind ?_ (fun _ => ?_)
set_option maxHeartbeats 8000000 in
set_option maxRecDepth 100000 in
theorem impl_reachesExit.calls (k : Nat) (A0 : Option Addr) (c0 : Nat) (l0 : List (S38)) (a1 : Int) (r : Bool) (w : World) (hr0 : Kd.C k38 w A0 l0.length l0) (hc0 : l0.length ≤ c0) (h : impl_reachesExit.f k l0 a1 = some r) :
  Calls Tryz.prog 68 #[.slice A0 l0.length c0, .int .i64 a1] w fun e w' => e = .returned (.bool r) ∧ Below w.heap.size w w' := by
 have HR0 := Aside0.mk hr0
 have HC0 := Aside0.mk hc0
 clear hr0 hc0
 have HB := Aside0.mk (Below.refl w.heap.size w)
 have H : ((impl_reached.f k l0 (([a1] : List Int)) (-1)).bind fun t419 => (if 0 ≤ (l0.length : Int) then (if (l0.length : Int) < (t419.length : Int) then (some (rdOf false t419 (l0.length : Int))) else (none)) else (none))) = some r := h
 clear h
 obtain ⟨y416, hy416⟩ : ∃ y_ : List Int, y_ = (([a1] : List Int)) := ⟨_, rfl⟩
 replace H : ((impl_reached.f k l0 y416 (-1)).bind fun t419 => (if 0 ≤ (l0.length : Int) then (if (l0.length : Int) < (t419.length : Int) then (some (rdOf false t419 (l0.length : Int))) else (none)) else (none))) = some r := rP hy416 H
 have Ny416 := Aside0.mk hy416
 clear hy416
 replace H := Option.bind_eq_some_iff.mp H
 obtain ⟨t419, A30, H⟩ := H
 replace H : (if 0 ≤ (l0.length : Int) then (if (l0.length : Int) < (t419.length : Int) then (some (rdOf false t419 (l0.length : Int))) else (none)) else (none)) = some r := H
 have A3 := Aside0.mk A30
 clear A30
 by_cases c4 : 0 ≤ (l0.length : Int)
 ·rw [if_pos c4] at H
  have c4b0 : decide (0 ≤ (l0.length : Int)) = true := decide_eq_true c4
  have c4b1 : decide (0 ≤ l0.length) = true := decide_eq_true (by omega)
  clear c4
  by_cases c5 : (l0.length : Int) < (t419.length : Int)
  ·rw [if_pos c5] at H
   have c5b0 : decide ((l0.length : Int) < (t419.length : Int)) = true := decide_eq_true c5
   have c5b1 : decide (l0.length < t419.length) = true := decide_eq_true (Int.ofNat_lt.mp c5)
   clear c5
   obtain rfl := Option.some.inj H
   go_enter Tryz.func68, Tryz.ntmps68
   go_wp2_with (first | ((with_reducible refine gate_dst (N := 7) rfl ?_); refine Kd.R_lit (Kd.int .i64) _ 3 ?hg (N := 7) ?hd (xs := ([a1] : List Int)) (inner := [.int .i64 a1]) (ok := fun _ => True) (okp := fun _ => True) ?hr ?hp (fun _ hk => hk) trivial (Below.refl _ _) (Nat.le_refl _) (by simp) ?_; (case hd => rfl); (case hg => rfl); (case hr => first | (go_simp; done) | (go_simp; rfl)); (case hp => exact (Reps.one (show Kd.M (Kd.int .i64) _ _ _ a1 [.int .i64 a1] from rfl) (Reps.none _ _))); intro v417 w6 ho7 hb hg_ hnew_; clear hg_ hnew_; (first | rw [← Ny416.out] at ho7 | (simp only [Int.reduceToNat] at ho7; rw [← Ny416.out] at ho7)); have HO418 := Aside0.mk (Kd.R_lower ho7 (below_size bw)); replace HB := Aside0.mk (below_step bw hb); clear hb ho7; obtain ⟨Ao8, co8, eo8⟩ := Kd.R_slice HO418.out; subst eo8) | ((with_reducible refine gate_callee (f := 67) rfl ?_); refine gL (some 8) Tryz.func67 #[.slice A0 l0.length c0, .slice Ao8 y416.length co8, .int .i64 (-1)] ?_; (with_reducible refine (impl_reached.calls k _ _ l0 _ _ y416 (-1) t419 _ ?side1 ?side2 ?side3 ?side4 A3.out).mono ?_); (case side1 => repeat (first | exact (Kd.C_below HR0.out HB.out) | (with_reducible refine Kd.C_alloc ?_ _) | (with_reducible refine Kd.C_drewN ?_ _) | (with_reducible refine Kd.C_drew ?_))); (case side2 => exact HC0.out); (case side3 => exact cS (Kd.R_reads' HO418.out).2.2); (case side4 => exact (Kd.R_reads' HO418.out).2.1); rintro e w9 ⟨v420, rfl, ho0, hb⟩; refine ⟨_, rfl, ?_⟩; replace HO418 := Aside0.mk (Kd.R_below (rS HO418.out) hb); have HO421 := Aside0.mk (Kd.R_lower ho0 (below_size bw)); replace HB := Aside0.mk (below_step bw hb); (try clear hb); (try clear ho0); obtain ⟨Ao10, co10, eo10⟩ := Kd.R_slice HO421.out; subst eo10; have p422 : 0 ≤ ((l0.length : Int) : Int) := dT; have q422 : (l0.length : Int) < (t419.length : Int) := dT; obtain ⟨ad422, e422, hx422_0⟩ := Kd.at_bool (Kd.R_reads' HO421.out).2.2 (l0.length : Int) p422 q422; cases e422; (try simp only [Go.IntWalk.toNatUp] at hx422_0); replace p422 := eq_true p422; replace q422 := eq_true q422))
   go_ret
   exact ⟨eR, bw⟩
  ·rw [if_neg c5] at H
   exact absurd H (by simp)
 ·rw [if_neg c4] at H
  exact absurd H (by simp)

/-! ### impl_isAfter: function 105 -/
def impl_isAfter.f (k : Nat) (l0 : List (S38)) (a1 : Int) (a2 : Int) : Option (Bool) := (impl_reachesExit.f k l0 a1).bind fun t423 => (if t423 = true then ((impl_reached.f k l0 (([a1] : List Int)) a2).bind fun t427 => (if 0 ≤ (l0.length : Int) then (if (l0.length : Int) < (t427.length : Int) then (some (!(rdOf false t427 (l0.length : Int)))) else (none)) else (none))) else (some false))
theorem impl_isAfter.mono : ∀ a0 a1 a2 k, LeO (impl_isAfter.f k a0 a1 a2) (impl_isAfter.f (k + 1) a0 a1 a2) := by
 intro a0 a1 a2 k
 unfold impl_isAfter.f
 repeat' first
   | (with_reducible exact impl_reached.mono _ _ _ _)
   | (with_reducible exact impl_reachesExit.mono _ _ _)
   | (with_reducible exact LeO.refl _)
   | (with_reducible exact LeO.none _)
   | (with_reducible refine LeO.ite ?_ ?_)
   | (with_reducible refine LeO.bind ?_ (fun _ => ?_))
   | exact impl_reached.mono _ _ _ _
   | exact impl_reachesExit.mono _ _ _
   | exact LeO.none _
   | refine LeO.ite ?_ ?_
   | refine LeO.bind ?_ (fun _ => ?_)
set_option maxHeartbeats 8000000 in
set_option maxRecDepth 100000 in
theorem impl_isAfter.calls (k : Nat) (A0 : Option Addr) (c0 : Nat) (l0 : List (S38)) (a1 : Int) (a2 : Int) (r : Bool) (w : World) (hr0 : Kd.C k38 w A0 l0.length l0) (hc0 : l0.length ≤ c0) (h : impl_isAfter.f k l0 a1 a2 = some r) :
  Calls Tryz.prog 105 #[.slice A0 l0.length c0, .int .i64 a1, .int .i64 a2] w fun e w' => e = .returned (.bool r) ∧ Below w.heap.size w w' := by
 have HR0 := Aside0.mk hr0
 have HC0 := Aside0.mk hc0
 clear hr0 hc0
 have HB := Aside0.mk (Below.refl w.heap.size w)
 have H : ((impl_reachesExit.f k l0 a1).bind fun t423 => (if t423 = true then ((impl_reached.f k l0 (([a1] : List Int)) a2).bind fun t427 => (if 0 ≤ (l0.length : Int) then (if (l0.length : Int) < (t427.length : Int) then (some (!(rdOf false t427 (l0.length : Int)))) else (none)) else (none))) else (some false))) = some r := h
 clear h
 replace H := Option.bind_eq_some_iff.mp H
 obtain ⟨t423, A40, H⟩ := H
 replace H : (if t423 = true then ((impl_reached.f k l0 (([a1] : List Int)) a2).bind fun t427 => (if 0 ≤ (l0.length : Int) then (if (l0.length : Int) < (t427.length : Int) then (some (!(rdOf false t427 (l0.length : Int)))) else (none)) else (none))) else (some false)) = some r := H
 have A4 := Aside0.mk A40
 clear A40
 by_cases c5 : t423 = true
 ·subst c5
  have H1 : ((impl_reached.f k l0 (([a1] : List Int)) a2).bind fun t427 => (if 0 ≤ (l0.length : Int) then (if (l0.length : Int) < (t427.length : Int) then (some (!(rdOf false t427 (l0.length : Int)))) else (none)) else (none))) = some r := by rw [if_pos rfl] at H; exact H
  clear H
  have H := H1
  clear H1
  obtain ⟨y424, hy424⟩ : ∃ y_ : List Int, y_ = (([a1] : List Int)) := ⟨_, rfl⟩
  replace H : ((impl_reached.f k l0 y424 a2).bind fun t427 => (if 0 ≤ (l0.length : Int) then (if (l0.length : Int) < (t427.length : Int) then (some (!(rdOf false t427 (l0.length : Int)))) else (none)) else (none))) = some r := rP hy424 H
  have Ny424 := Aside0.mk hy424
  clear hy424
  replace H := Option.bind_eq_some_iff.mp H
  obtain ⟨t427, A60, H⟩ := H
  replace H : (if 0 ≤ (l0.length : Int) then (if (l0.length : Int) < (t427.length : Int) then (some (!(rdOf false t427 (l0.length : Int)))) else (none)) else (none)) = some r := H
  have A6 := Aside0.mk A60
  clear A60
  by_cases c7 : 0 ≤ (l0.length : Int)
  ·rw [if_pos c7] at H
   have c7b0 : decide (0 ≤ (l0.length : Int)) = true := decide_eq_true c7
   have c7b1 : decide (0 ≤ l0.length) = true := decide_eq_true (by omega)
   clear c7
   by_cases c8 : (l0.length : Int) < (t427.length : Int)
   ·rw [if_pos c8] at H
    have c8b0 : decide ((l0.length : Int) < (t427.length : Int)) = true := decide_eq_true c8
    have c8b1 : decide (l0.length < t427.length) = true := decide_eq_true (Int.ofNat_lt.mp c8)
    clear c8
    obtain rfl := Option.some.inj H
    go_enter Tryz.func105, Tryz.ntmps105
    go_wp2_with (first | ((with_reducible refine gate_callee (f := 68) rfl ?_); refine gL (some 9) Tryz.func68 #[.slice A0 l0.length c0, .int .i64 a1] ?_; (with_reducible refine (impl_reachesExit.calls k _ _ l0 a1 true _ ?side1 ?side2 A4.out).mono ?_); (case side1 => exact cS HR0.out); (case side2 => exact HC0.out); rintro e w9 ⟨rfl, hb⟩; refine ⟨_, rfl, ?_⟩; replace HB := Aside0.mk (below_step bw hb); (try clear hb)) | ((with_reducible refine gate_dst (N := 13) rfl ?_); (try (refine gate_guard (by rfl) ?_; dsimp only)); refine Kd.R_lit (Kd.int .i64) _ 3 ?hg (N := 13) ?hd (xs := ([a1] : List Int)) (inner := [.int .i64 a1]) (ok := fun _ => True) (okp := fun _ => True) ?hr ?hp (fun _ hk => hk) trivial (Below.refl _ _) (Nat.le_refl _) (by simp) ?_; (case hd => rfl); (case hg => rfl); (case hr => first | (go_simp; done) | (go_simp; rfl)); (case hp => exact (Reps.one (show Kd.M (Kd.int .i64) _ _ _ a1 [.int .i64 a1] from rfl) (Reps.none _ _))); intro v425 w10 ho11 hb hg_ hnew_; clear hg_ hnew_; (first | rw [← Ny424.out] at ho11 | (simp only [Int.reduceToNat] at ho11; rw [← Ny424.out] at ho11)); have HO426 := Aside0.mk (Kd.R_lower ho11 (below_size bw)); replace HB := Aside0.mk (below_step bw hb); clear hb ho11; obtain ⟨Ao12, co12, eo12⟩ := Kd.R_slice HO426.out; subst eo12) | (go_at_call 67; (with_reducible refine (impl_reached.calls k _ _ l0 _ _ y424 a2 t427 _ ?side1 ?side2 ?side3 ?side4 A6.out).mono ?_); (case side1 => repeat (first | exact (Kd.C_below HR0.out HB.out) | (with_reducible refine Kd.C_alloc ?_ _) | (with_reducible refine Kd.C_drewN ?_ _) | (with_reducible refine Kd.C_drew ?_))); (case side2 => exact HC0.out); (case side3 => exact cS (Kd.R_reads' HO426.out).2.2); (case side4 => exact (Kd.R_reads' HO426.out).2.1); rintro e w13 ⟨v428, rfl, ho0, hb⟩; replace HO426 := Aside0.mk (Kd.R_below (rS HO426.out) hb); have HO429 := Aside0.mk (Kd.R_lower ho0 (below_size bw)); replace HB := Aside0.mk (below_step bw hb); (try clear hb); (try clear ho0); obtain ⟨Ao14, co14, eo14⟩ := Kd.R_slice HO429.out; subst eo14; have p430 : 0 ≤ ((l0.length : Int) : Int) := dT; have q430 : (l0.length : Int) < (t427.length : Int) := dT; obtain ⟨ad430, e430, hx430_0⟩ := Kd.at_bool (Kd.R_reads' HO429.out).2.2 (l0.length : Int) p430 q430; cases e430; (try simp only [Go.IntWalk.toNatUp] at hx430_0); replace p430 := eq_true p430; replace q430 := eq_true q430))
    go_ret
    exact ⟨eR, bw⟩
   ·rw [if_neg c8] at H
    exact absurd H (by simp)
  ·rw [if_neg c7] at H
   exact absurd H (by simp)
 ·replace c5 := Bool.eq_false_iff.mpr c5
  subst c5
  have H1 : (some false) = some r := by rw [if_neg (show ¬ (false = true) by decide)] at H; exact H
  clear H
  have H := H1
  clear H1
  obtain rfl := Option.some.inj H
  go_enter Tryz.func105, Tryz.ntmps105
  go_wp2_with (first | ((with_reducible refine gate_callee (f := 68) rfl ?_); refine gL (some 9) Tryz.func68 #[.slice A0 l0.length c0, .int .i64 a1] ?_; (with_reducible refine (impl_reachesExit.calls k _ _ l0 a1 false _ ?side1 ?side2 A4.out).mono ?_); (case side1 => exact cS HR0.out); (case side2 => exact HC0.out); rintro e w15 ⟨rfl, hb⟩; refine ⟨_, rfl, ?_⟩; replace HB := Aside0.mk (below_step bw hb); (try clear hb)))
  go_ret
  exact ⟨eR, bw⟩

/-! ### impl_firstOf: function 86 -/
def aftAt (k : Nat) (l0 : List S38) (x y : Int) : Bool := impl_isAfter.f k l0 x y == some true
def firstF (k : Nat) (l0 : List S38) (l1 : List Int) : List Int → Option Int
  | [] => some (-1)
  | x :: r => if (l1.all fun y => (impl_isAfter.f k l0 x y).isSome) = true then (if (l1.any fun y => !(aftAt k l0 x y)) = true then firstF k l0 l1 r else some x) else none
theorem aftAt_up {k : Nat} {l0 : List S38} {x y : Int} (h : (impl_isAfter.f k l0 x y).isSome = true) : impl_isAfter.f (k + 1) l0 x y = impl_isAfter.f k l0 x y := by
  obtain ⟨b, hb⟩ := Option.isSome_iff_exists.1 h
  rw [hb]; exact impl_isAfter.mono _ _ _ _ _ hb
theorem firstF_mono (k : Nat) (l0 : List S38) (l1 : List Int) : ∀ l, LeO (firstF k l0 l1 l) (firstF (k + 1) l0 l1 l)
  | [] => LeO.refl _
  | x :: r => by
    intro v h
    rw [firstF] at h ⊢
    by_cases hs : (l1.all fun y => (impl_isAfter.f k l0 x y).isSome) = true
    · rw [if_pos hs] at h
      have hs' := List.all_eq_true.1 hs
      rw [if_pos (List.all_eq_true.2 fun y hy => by rw [aftAt_up (hs' y hy)]; exact hs' y hy)]
      have e : (l1.any fun y => !(aftAt (k + 1) l0 x y)) = l1.any fun y => !(aftAt k l0 x y) := by
        have : ∀ m : List Int, (∀ y ∈ m, (impl_isAfter.f k l0 x y).isSome = true) → (m.any fun y => !(aftAt (k + 1) l0 x y)) = m.any fun y => !(aftAt k l0 x y) := by
          intro m
          induction m with
          | nil => intro _; rfl
          | cons z m ih =>
            intro hm
            rw [List.any_cons, List.any_cons, ih (fun y hy => hm y (List.mem_cons_of_mem _ hy))]
            unfold aftAt
            rw [aftAt_up (hm z (List.mem_cons_self ..))]
        exact this l1 hs'
      rw [e]
      by_cases ha : (l1.any fun y => !(aftAt k l0 x y)) = true
      · rw [if_pos ha] at h ⊢; exact firstF_mono k l0 l1 r v h
      · rw [if_neg ha] at h ⊢; exact h
    · rw [if_neg hs] at h; exact absurd h (by simp)
def impl_firstOf.f (k : Nat) (l0 : List S38) (l1 : List Int) : Option (Int) := firstF k l0 l1 l1
theorem impl_firstOf.mono : ∀ a0 a1 k, LeO (impl_firstOf.f k a0 a1) (impl_firstOf.f (k + 1) a0 a1) := by
  intro a0 a1 k
  exact firstF_mono k a0 a1 a1
theorem one_cellF {W : World} {g : Nat} {v : Value} {t : TypeId} (h : W.heap[g]? = some (.cells #[v] t (0, 0))) : W.cell? ⟨g, 0, none⟩ = some v := (blk_cell h 0).trans rfl
set_option maxHeartbeats 1000000 in
theorem impl_firstOf.fn (k : Nat) (A0 : Option Addr) (c0 : Nat) (l0 : List S38) (g2 g6 : Nat) (x y : Int) (w : World) (hr0 : Kd.C k38 w A0 l0.length l0) (hc0 : l0.length ≤ c0) (h2 : w.heap[g2]? = some (.cells #[.slice A0 l0.length c0] 25 (0, 0))) (h6 : w.heap[g6]? = some (.cells #[.int .i64 x] 3 (0, 0))) (hs : (impl_isAfter.f k l0 x y).isSome = true) :
    Calls Tryz.prog 104 #[.int .i64 y, .pointer (some ⟨g2, 0, none⟩), .pointer (some ⟨g6, 0, none⟩)] w fun e w' => e = .returned (.bool (!(aftAt k l0 x y))) ∧ Below w.heap.size w w' := by
  obtain ⟨b, hb⟩ := Option.isSome_iff_exists.1 hs
  have e1 : aftAt k l0 x y = b := by unfold aftAt; rw [hb]; cases b <;> rfl
  rw [e1]
  have HI := Aside0.mk hb
  have HR := Aside0.mk hr0
  have HC := Aside0.mk hc0
  have hz2 := one_cellF h2
  have hz6 := one_cellF h6
  clear e1 hb hs hr0 hc0 h2 h6
  go_enter Tryz.func104, Tryz.ntmps104
  go_wp2_with (go_at_call 105; (with_reducible refine (impl_isAfter.calls k A0 c0 l0 x y b _ HR.out HC.out HI.out).mono ?_); rintro e w' ⟨rfl, hb2⟩; have HB2 := Aside0.mk hb2; clear hb2)
  go_ret
  exact ⟨rfl, HB2.out⟩
set_option maxHeartbeats 4000000 in
set_option maxRecDepth 100000 in
theorem impl_firstOf.calls (k : Nat) (A0 : Option Addr) (c0 : Nat) (l0 : List S38) (A1 : Option Addr) (c1 : Nat) (l1 : List Int) (r : Int) (w : World) (hr0 : Kd.C k38 w A0 l0.length l0) (hc0 : l0.length ≤ c0) (hr1 : Kd.C (Kd.int .i64) w A1 l1.length l1) (hc1 : l1.length ≤ c1) (h : impl_firstOf.f k l0 l1 = some r) :
    Calls Tryz.prog 86 #[.slice A0 l0.length c0, .slice A1 l1.length c1] w fun e w' => e = .returned (.int .i64 r) ∧ Below w.heap.size w w' := by
  have HF := Aside0.mk (show firstF k l0 l1 l1 = some r from h)
  have HR0 := Aside0.mk hr0
  have HC0 := Aside0.mk hc0
  have HR1 := Aside0.mk hr1
  have hbig := hr1.2.1
  clear h hr0 hc0 hr1
  have eg := Aside0.mk (enters_of Tryz.func104 (by kernel_rfl) rfl)
  go_enter Tryz.func86, Tryz.ntmps86
  go_wp2_with (first | ((with_reducible refine gate_dst (N := 2) rfl ?_); refine box_event ?hg (N := 2) ?hd (cs := #[.slice A0 l0.length c0]) (t := 25) ?hr ?_; (case hd => rfl); (case hg => rfl); (case hr => first | (go_simp; done) | (go_simp; rfl)); intro g2 hgb w1 hbox hb; have HB := Aside0.mk hb; have B2 := Aside0.mk hbox; clear hgb hb hbox))
  go_loopg [6, 9] l1.length (fun gg _ s9 wr => ∃ kk : Nat, kk ≤ l1.length ∧ l1.length - kk ≤ gg ∧ s9 = .int .i64 kk ∧ Aside0 (Below w1.heap.size w1 wr) ∧ Aside0 (firstF k l0 l1 (l1.drop kk) = some r))
  case atStart => exact ⟨0, Nat.zero_le _, by omega, rfl, ⟨Below.refl _ _⟩, ⟨HF.out⟩⟩
  case round =>
    obtain ⟨kk, hkk, hg, rfl, HW, HI⟩ := hrel
    by_cases hlt : kk < l1.length
    · have hltz : (kk : Int) < (l1.length : Int) := by omega
      obtain ⟨ad, ea, hcell⟩ := Kd.at_int (Kd.C_below HR1.out (below_step HB.out HW.out)) kk (by omega) hltz
      cases ea
      rw [Int.toNat_natCast] at hcell
      have HD := Aside0.mk (drop_rdI hlt)
      generalize hy : rd l1 (kk : Int) = x at hcell HD
      clear hy
      have H := HI.out
      rw [HD.out, firstF] at H
      by_cases hs : (l1.all fun y => (impl_isAfter.f k l0 x y).isSome) = true
      · rw [if_pos hs] at H
        have HS := Aside0.mk (List.all_eq_true.1 hs)
        clear hs
        have B2r := Aside0.mk (blk_below B2.out HW.out)
        have HBr := Aside0.mk (below_step HB.out HW.out)
        have HFc := Aside0.mk (fun (g6 : Nat) (w2 : World) (hb : Below w.heap.size w w2) (hx2 : w2.heap[g2]? = some (.cells #[.slice A0 l0.length c0] 25 (0, 0))) (hx6 : w2.heap[g6]? = some (.cells #[.int .i64 x] 3 (0, 0))) =>
          containsFunc_int (Below w2.heap.size w2) 104 #[.pointer (some ⟨g2, 0, none⟩), .pointer (some ⟨g6, 0, none⟩)] eg.out (fun y => !(aftAt k l0 x y)) (some ad) c1 l1 w2 (Below.refl _ _)
            (fun W hW => Kd.C_below HR1.out (below_step hb hW)) (fun y hy1 W hW => (impl_firstOf.fn k A0 c0 l0 g2 g6 x y W (Kd.C_below HR0.out (below_step hb hW)) HC0.out (blk_below hx2 hW) (blk_below hx6 hW) (HS.out y hy1)).mono fun e W' ⟨he, h2⟩ => ⟨he, below_step hW h2⟩))
        cases hq : (l1.any fun y => !(aftAt k l0 x y)) with
        | true =>
          rw [if_pos hq] at H
          have HN := Aside0.mk H
          rw [hq] at HFc
          clear hq H
          go_wp2_with (first | ((with_reducible refine gate_dst (N := 6) rfl ?_); refine box_event ?hg (N := 6) ?hd (cs := #[.int .i64 0]) (t := 3) ?hr ?_; (case hd => rfl); (case hg => rfl); (case hr => first | (go_simp; done) | (go_simp; rfl)); intro g6 hgb w2 hbox hb; have G6 := Aside0.mk (show w1.heap.size ≤ g6 by rw [hgb]; exact below_size HW.out); have N6 := Aside0.mk (show g2 ≠ g6 by rw [hgb]; exact Nat.ne_of_lt (blk_lt B2r.out)); have G0 := Aside0.mk (show w.heap.size ≤ g6 by rw [hgb]; exact below_size HBr.out); have HB2 := Aside0.mk (below_step HBr.out hb); have HW2 := Aside0.mk (below_step HW.out hb); have C2 := Aside0.mk (blk_far (blk_below B2r.out hb) (p := ⟨g6, 0, none⟩) N6.out (.int .i64 x)); have C6 := Aside0.mk (blk_put hbox 0 (.int .i64 x) rfl); have z6 : w2.cell? ⟨g6, 0, none⟩ = some (.int .i64 0) := one_cellF hbox; have f6 := blk_frozen hbox 0; have HB3 := Aside0.mk (below_set (j := 0) (v := .int .i64 x) HB2.out G0.out); have HW3 := Aside0.mk (below_set (j := 0) (v := .int .i64 x) HW2.out G6.out); clear hgb hb hbox) | (go_at_call 26; refine (HFc.out g6 _ HB3.out C2.out C6.out).mono ?_; rintro e w3 ⟨rfl, hb3⟩; have HB4 := Aside0.mk (below_step HW3.out hb3); clear hb3))
          go_roundg (l1.length - (kk + 1))
          case measure => omega
          case rel => exact ⟨kk + 1, by omega, by omega, by go_num, ⟨HB4.out⟩, ⟨HN.out⟩⟩
        | false =>
          rw [if_neg (by rw [hq]; decide)] at H
          obtain rfl := Option.some.inj H
          rw [hq] at HFc
          clear hq H
          go_wp2_with (first | ((with_reducible refine gate_dst (N := 6) rfl ?_); refine box_event ?hg (N := 6) ?hd (cs := #[.int .i64 0]) (t := 3) ?hr ?_; (case hd => rfl); (case hg => rfl); (case hr => first | (go_simp; done) | (go_simp; rfl)); intro g6 hgb w2 hbox hb; have N6 := Aside0.mk (show g2 ≠ g6 by rw [hgb]; exact Nat.ne_of_lt (blk_lt B2r.out)); have G0 := Aside0.mk (show w.heap.size ≤ g6 by rw [hgb]; exact below_size HBr.out); have HB2 := Aside0.mk (below_step HBr.out hb); have C2 := Aside0.mk (blk_far (blk_below B2r.out hb) (p := ⟨g6, 0, none⟩) N6.out (.int .i64 x)); have C6 := Aside0.mk (blk_put hbox 0 (.int .i64 x) rfl); have z6 : w2.cell? ⟨g6, 0, none⟩ = some (.int .i64 0) := one_cellF hbox; have f6 := blk_frozen hbox 0; have HB3 := Aside0.mk (below_set (j := 0) (v := .int .i64 x) HB2.out G0.out); clear hgb hb hbox) | (go_at_call 26; refine (HFc.out g6 _ HB3.out C2.out C6.out).mono ?_; rintro e w3 ⟨rfl, hb3⟩; have HB4 := Aside0.mk (below_step HB3.out hb3); have z36 : w3.cell? ⟨g6, 0, none⟩ = some (.int .i64 x) := one_cellF (blk_below C6.out hb3); clear hb3 z6 f6))
          go_ret
          exact ⟨rfl, HB4.out⟩
      · rw [if_neg hs] at H
        exact absurd H (by simp)
    · have hltz : ¬ (kk : Int) < (l1.length : Int) := by omega
      have H := HI.out
      rw [List.drop_of_length_le (by omega)] at H
      obtain rfl := Option.some.inj H
      go_wp2
      go_ret
      exact ⟨rfl, below_step HB.out HW.out⟩

/-! ### slices_DeleteFunc_int_int: function 87 -/
theorem idxF_cases (p : Int → Bool) : ∀ (l : List Int) (i : Nat), (idxF p l (i : Int) = -1 ∧ l.any p = false) ∨ ∃ m : Nat, idxF p l (i : Int) = ((i + m : Nat) : Int) ∧ m < l.length ∧ (l.take m).any p = false ∧ p (l.getD m 0) = true
  | [], i => .inl ⟨rfl, rfl⟩
  | x :: r, i => by
    rw [idxF]
    by_cases hp : p x = true
    · rw [if_pos hp]
      exact .inr ⟨0, rfl, by simp, by simp, hp⟩
    · rw [if_neg hp]
      have hp' : p x = false := by simpa using hp
      rcases idxF_cases p r (i + 1) with ⟨h1, h2⟩ | ⟨m, h1, h2, h3, h4⟩
      · rw [show ((i : Int) + 1) = ((i + 1 : Nat) : Int) from rfl, h1]
        exact .inl ⟨rfl, by rw [List.any_cons, hp', h2]; rfl⟩
      · refine .inr ⟨m + 1, ?_, by simpa using h2, by rw [List.take_succ_cons, List.any_cons, hp', h3]; rfl, h4⟩
        rw [show ((i : Int) + 1) = ((i + 1 : Nat) : Int) from rfl, h1, show i + 1 + m = i + (m + 1) by omega]
theorem filter_not_any {p : Int → Bool} : ∀ {l : List Int}, l.any p = false → l.filter (fun x => !p x) = l
  | [], _ => rfl
  | x :: r, h => by
    rw [List.any_cons, Bool.or_eq_false_iff] at h
    rw [List.filter_cons, if_pos (by rw [h.1]; rfl), filter_not_any h.2]
theorem setCells_R {base g c : Nat} {ok : Nat → Prop} {n : Nat} : ∀ (m : Nat) (W : World) (xs : List Int) (o : Nat), n = xs.length → Kd.R (Kd.int .i64) 3 W base ok (.slice (some ⟨g, 0, none⟩) n c) xs →
    ∃ ys : List Int, Kd.R (Kd.int .i64) 3 (W.setCells g o (List.replicate m (.int .i64 0))) base ok (.slice (some ⟨g, 0, none⟩) n c) ys ∧ ys.length = n ∧ ys.take o = xs.take o
  | 0, W, xs, o, hn, h => ⟨xs, h, hn.symm, rfl⟩
  | m + 1, W, xs, o, hn, h => by
    obtain ⟨ys, h1, h2, h3⟩ := setCells_R m (W.setCell ⟨g, o, none⟩ (.int .i64 0)) (xs.set o 0) (o + 1) (by rw [List.length_set]; exact hn) (R_put_at n hn h o 0)
    refine ⟨ys, h1, h2, ?_⟩
    have := congrArg (List.take o) h3
    rw [List.take_take, List.take_take, Nat.min_eq_left (Nat.le_succ o), List.take_set_of_le (Nat.le_refl o)] at this
    exact this
theorem setCells_below {w0 : World} {g : Nat} (hg : w0.heap.size ≤ g) : ∀ (vs : List Value) (W : World) (o : Nat), Below w0.heap.size w0 W → Below w0.heap.size w0 (W.setCells g o vs)
  | [], _, _, h => h
  | v :: r, W, o, h => setCells_below hg r _ (o + 1) (below_set h hg)
set_option maxHeartbeats 4000000 in
set_option maxRecDepth 100000 in
/-- slices.DeleteFunc at ints, over a row that was made behind w0; the function value looks at what stood at w0 alone. -/
theorem deleteFunc_int (g : Nat) (lb : Array Value) (eg : ∀ args w, (callFunc g args).run Tryz.prog w = .ok (.enter g args) w) (p : Int → Bool) (u : Value) (l : List Int) (w0 w : World)
    (hB : Below w0.heap.size w0 w) (ho : Kd.R (Kd.int .i64) 3 w w0.heap.size (fun _ => True) u l)
    (hp : ∀ x, x ∈ l → ∀ W, Below w0.heap.size w0 W → Calls Tryz.prog g (#[.int .i64 x] ++ lb) W fun e W' => e = .returned (.bool (p x)) ∧ Below W.heap.size W W') :
    Calls Tryz.prog 87 #[u, .func (.func g) #[] lb] w fun e w' => ∃ v0_ : Value, e = .returned (v0_) ∧ Kd.R (Kd.int .i64) 3 w' w0.heap.size (fun _ => True) v0_ (l.filter fun x => !p x) ∧ Below w0.heap.size w0 w' := by
  obtain ⟨A, c, e, hlc, hC⟩ := Kd.R_reads ho
  subst e
  have hidx := indexFunc_int (Below w.heap.size w) g lb eg p A c l w (Below.refl _ _) (fun W hW => Kd.C_below hC hW) (fun x hx W hW => (hp x hx W (below_step hB hW)).mono fun e W' ⟨he, h2⟩ => ⟨he, below_step hW h2⟩)
  have HI := Aside0.mk hidx
  have HO := Aside0.mk ho
  have HB := Aside0.mk hB
  have HP := Aside0.mk hp
  clear hidx ho hB hp
  rcases idxF_cases p l 0 with ⟨h1, h2⟩ | ⟨m, h1, h2, h3, h4⟩
  · have HF := Aside0.mk (filter_not_any h2)
    rw [show ((0 : Nat) : Int) = 0 from rfl] at h1
    have H1 := Aside0.mk h1
    clear h1 h2 hC
    rw [HF.out]
    go_enter Tryz.func87, Tryz.ntmps87
    go_wp2_with (go_at_call 51; refine HI.out.mono ?_; rintro e w1 ⟨rfl, hb1⟩; rw [H1.out]; have HB1 := Aside0.mk hb1; clear hb1)
    go_ret
    exact ⟨_, rfl, Kd.R_below HO.out HB1.out, below_step HB.out HB1.out⟩
  · obtain ⟨gb, c', e', hgb, hglt, _⟩ := Kd.R_form HO.out (by omega)
    injection e' with e1 _ e2
    subst e1 e2
    rw [show ((0 : Nat) : Int) = 0 from rfl, Nat.zero_add] at h1
    have H1 := Aside0.mk h1
    have HG := Aside0.mk hgb
    have hbig := hC.2.1
    have HFm : Aside0 (l.take m = (l.take (m + 1)).filter fun x => !p x) := ⟨by
      rw [List.take_succ_eq_append_getElem h2, List.filter_append, filter_not_any h3]
      have : p (l[m]'h2) = true := by rw [← h4, List.getD_eq_getElem?_getD, List.getElem?_eq_getElem h2]; rfl
      simp [this]⟩
    have H2 := Aside0.mk h2
    have HLC := Aside0.mk hlc
    clear h1 h3 h4 hC hgb hglt
    have hwm : IntKind.i64.wrap ((m : Int) + 1) = (m : Int) + 1 := by rw [i64_w]; unfold wrap64; omega
    have b0 : ((m : Int) == -1) = false := beq_eq_false_iff_ne.mpr (by omega)
    go_enter Tryz.func87, Tryz.ntmps87
    go_wp2_with (go_at_call 51; refine HI.out.mono ?_; rintro e w1 ⟨rfl, hb1⟩; rw [H1.out]; have HO1 := Aside0.mk (Kd.R_below HO.out hb1); have HB1 := Aside0.mk (below_step HB.out hb1); clear hb1)
    clear hwm b0
    go_loopg [5, 6, 7] l.length (fun gg s5 s6 _ wr => ∃ (i j : Nat) (xs : List Int), i < j ∧ j ≤ l.length ∧ l.length - j ≤ gg ∧ s5 = .int .i64 i ∧ s6 = .int .i64 j ∧ xs.length = l.length ∧ Aside0 (xs.take i = (l.take j).filter fun x => !p x) ∧ Aside0 (xs.drop j = l.drop j) ∧ Aside0 (Kd.R (Kd.int .i64) 3 wr w0.heap.size (fun _ => True) (.slice (some ⟨gb, 0, none⟩) l.length c) xs) ∧ Aside0 (Below w0.heap.size w0 wr))
    case atStart => exact ⟨m, m + 1, l, by omega, by have := H2.out; omega, by omega, rfl, by go_num, rfl, HFm, ⟨rfl⟩, ⟨HO1.out⟩, ⟨HB1.out⟩⟩
    case round =>
      clear HO1 HB1 HFm
      obtain ⟨i, j, xs, hij, hj, hg, rfl, rfl, hxl, HT, HD, HR, HW⟩ := hrel
      have HXL := Aside0.mk hxl
      clear hxl
      by_cases hlt : j < l.length
      · have hltz : (j : Int) < (l.length : Int) := by omega
        obtain ⟨hcj, hfj⟩ := Kd.R_celln 0 HR.out (j : Int) (by omega) hltz
        obtain ⟨hci, hfi⟩ := Kd.R_celln 0 HR.out (i : Int) (by omega) (by omega)
        rw [Int.toNat_natCast] at hcj hfj hci hfi
        obtain ⟨y, hy⟩ : ∃ y, rdOf 0 xs (j : Int) = y := ⟨_, rfl⟩
        have hyl : l[j]'hlt = y := by
          have h5 := congrArg (fun z : List Int => z.head?) HD.out
          simp only [List.head?_drop] at h5
          rw [List.getElem?_eq_getElem hlt, List.getElem?_eq_getElem (by rw [HXL.out]; exact hlt)] at h5
          rw [← hy]
          unfold rdOf
          rw [Int.toNat_natCast, List.getD_eq_getElem?_getD, List.getElem?_eq_getElem (by rw [HXL.out]; exact hlt)]
          exact (Option.some.inj h5).symm
        rw [hy] at hcj
        have HY := Aside0.mk hyl
        have hcall := HP.out y (by rw [← hyl]; exact List.getElem_mem hlt) wr HW.out
        have HDn := Aside0.mk (show ∀ zs : List Int, zs.drop j = l.drop j → zs.drop (j + 1) = l.drop (j + 1) from fun zs hz => by
          have := congrArg (List.drop 1) hz
          rwa [List.drop_drop, List.drop_drop] at this)
        clear hy hyl
        cases hq : p y with
        | true =>
          rw [hq] at hcall
          have HQ := Aside0.mk hq
          clear hq
          go_wp2_with (go_at_fn g; refine hcall.mono ?_; rintro e w2 ⟨rfl, hb2⟩)
          go_roundg (l.length - (j + 1))
          case measure => omega
          case rel =>
            refine ⟨i, j + 1, xs, by omega, by omega, by omega, rfl, by go_num, HXL.out, ⟨?_⟩, ⟨HDn.out _ HD.out⟩, ⟨Kd.R_below HR.out hb2⟩, ⟨below_step HW.out hb2⟩⟩
            rw [List.take_succ_eq_append_getElem hlt, List.filter_append, HT.out, HY.out]
            simp [HQ.out]
        | false =>
          rw [hq] at hcall
          have HQ := Aside0.mk hq
          clear hq
          have hwi : IntKind.i64.wrap ((i : Int) + 1) = (i : Int) + 1 := by rw [i64_w]; unfold wrap64; omega
          have q1 : (i : Int) < (l.length : Int) := by omega
          go_wp2_with (go_at_fn g; refine hcall.mono ?_; rintro e w2 ⟨rfl, hb2⟩; have HR2 := Aside0.mk (Kd.R_below HR.out hb2); have HW2 := Aside0.mk (below_step HW.out hb2); obtain ⟨hci2, hfi2⟩ := Kd.R_celln 0 HR2.out (i : Int) (by omega) (by omega); rw [Int.toNat_natCast] at hci2 hfi2; clear hb2 hcall)
          go_roundg (l.length - (j + 1))
          case measure => omega
          case rel =>
            refine ⟨i + 1, j + 1, xs.set i y, by omega, by omega, by omega, by go_num, by go_num, by rw [List.length_set]; exact HXL.out, ⟨?_⟩, ⟨?_⟩, ⟨R_put_at _ HXL.out.symm HR2.out i y⟩, ⟨below_set HW2.out HG.out⟩⟩
            · rw [List.take_succ_eq_append_getElem hlt, List.filter_append, ← HT.out, HY.out, List.take_succ_eq_append_getElem (by rw [List.length_set, HXL.out]; omega), List.take_set_of_le (Nat.le_refl i), List.getElem_set_self]
              simp [HQ.out]
            · have := HDn.out xs HD.out
              rw [List.drop_set_of_lt (by omega)]
              exact this
      · have hltz : ¬ (j : Int) < (l.length : Int) := by omega
        have ej : j = l.length := by omega
        have HZ := Aside0.mk (show xs.take i = l.filter fun x => !p x by rw [HT.out, ej, List.take_of_length_le (Nat.le_refl _)])
        have hin : i < l.length := by omega
        have hic : ¬ c = i := by have := HLC.out; omega
        have hil : i ≤ c := by have := HLC.out; omega
        have hcl := clear_own wr gb i (l.length - i) (c - i) (by omega) (fun q hq => by
          obtain ⟨hcq, _⟩ := Kd.R_celln 0 HR.out ((i + q : Nat) : Int) (by omega) (by omega)
          rw [Int.toNat_natCast] at hcq
          rw [hcq]; rfl) (fun q hq => by
          obtain ⟨_, hfq⟩ := Kd.R_celln 0 HR.out ((i + q : Nat) : Int) (by omega) (by omega)
          rw [Int.toNat_natCast] at hfq
          exact hfq)
        have q1 : (i : Int) ≤ (l.length : Int) := by omega
        clear hij hj hg hlt ej
        go_wp2
        go_ret
        obtain ⟨ys, h6, h7, h8⟩ := setCells_R (l.length - i) wr xs i HXL.out.symm HR.out
        have h9 := Kd.R_take h6 (m := i) (by rw [h7]; omega)
        rw [h8, HZ.out] at h9
        exact ⟨_, rfl, h9, setCells_below HG.out _ _ _ HW.out⟩

/-! ### impl_isNode: function 115 -/
def impl_isNode.f (l0 : List (S38)) (a1 : Int) : Option (Bool) := (impl_ProgramOk.f l0).bind fun t431 => (if t431 = true then ((impl_within.f a1 0 (l0.length : Int)).bind fun t432 => (some t432)) else (some false))
set_option maxHeartbeats 8000000 in
set_option maxRecDepth 100000 in
theorem impl_isNode.calls (A0 : Option Addr) (c0 : Nat) (l0 : List (S38)) (a1 : Int) (r : Bool) (w : World) (hr0 : Kd.C k38 w A0 l0.length l0) (hc0 : l0.length ≤ c0) (h : impl_isNode.f l0 a1 = some r) :
  Calls Tryz.prog 115 #[.slice A0 l0.length c0, .int .i64 a1] w fun e w' => e = .returned (.bool r) ∧ Below w.heap.size w w' := by
 have HR0 := Aside0.mk hr0
 have HC0 := Aside0.mk hc0
 clear hr0 hc0
 have HB := Aside0.mk (Below.refl w.heap.size w)
 have H : ((impl_ProgramOk.f l0).bind fun t431 => (if t431 = true then ((impl_within.f a1 0 (l0.length : Int)).bind fun t432 => (some t432)) else (some false))) = some r := h
 clear h
 replace H := Option.bind_eq_some_iff.mp H
 obtain ⟨t431, A30, H⟩ := H
 replace H : (if t431 = true then ((impl_within.f a1 0 (l0.length : Int)).bind fun t432 => (some t432)) else (some false)) = some r := H
 have A3 := Aside0.mk A30
 clear A30
 by_cases c4 : t431 = true
 ·subst c4
  have H1 : ((impl_within.f a1 0 (l0.length : Int)).bind fun t432 => (some t432)) = some r := by rw [if_pos rfl] at H; exact H
  clear H
  have H := H1
  clear H1
  replace H := Option.bind_eq_some_iff.mp H
  obtain ⟨t432, A50, H⟩ := H
  replace H : (some t432) = some r := H
  have A5 := Aside0.mk A50
  clear A50
  obtain rfl := Option.some.inj H
  go_enter Tryz.func115, Tryz.ntmps115
  go_wp2_with (first | ((with_reducible refine gate_callee (f := 46) rfl ?_); refine gL (some 6) Tryz.func46 #[.slice A0 l0.length c0] ?_; (with_reducible refine (impl_ProgramOk.calls _ _ l0 true _ ?side1 ?side2 A3.out).mono ?_); (case side1 => exact cS HR0.out); (case side2 => exact HC0.out); rintro e w6 ⟨rfl, hb⟩; refine ⟨_, rfl, ?_⟩; replace HB := Aside0.mk (below_step bw hb); (try clear hb)) | (go_at_call 73; (with_reducible refine (impl_within.calls a1 0 (l0.length : Int) t432 _ A5.out).mono ?_); rintro e w' ⟨rfl, ⟨nd, rfl⟩⟩))
  go_ret
  exact ⟨eR, bw⟩
 ·replace c4 := Bool.eq_false_iff.mpr c4
  subst c4
  have H1 : (some false) = some r := by rw [if_neg (show ¬ (false = true) by decide)] at H; exact H
  clear H
  have H := H1
  clear H1
  obtain rfl := Option.some.inj H
  go_enter Tryz.func115, Tryz.ntmps115
  go_wp2_with (first | ((with_reducible refine gate_callee (f := 46) rfl ?_); refine gL (some 6) Tryz.func46 #[.slice A0 l0.length c0] ?_; (with_reducible refine (impl_ProgramOk.calls _ _ l0 false _ ?side1 ?side2 A3.out).mono ?_); (case side1 => exact cS HR0.out); (case side2 => exact HC0.out); rintro e w7 ⟨rfl, hb⟩; refine ⟨_, rfl, ?_⟩; replace HB := Aside0.mk (below_step bw hb); (try clear hb)))
  go_ret
  exact ⟨eR, bw⟩

/-! ### impl_IsAfter: function 106 -/
def impl_IsAfter.f (k : Nat) (l0 : List (S38)) (a1 : Int) (a2 : Int) : Option (Bool) := (impl_isNode.f l0 a1).bind fun t433 => (if t433 = true then ((impl_isNode.f l0 a2).bind fun t434 => (if t434 = true then ((impl_isAfter.f k l0 a1 a2).bind fun t435 => (some t435)) else (some false))) else (some false))
theorem impl_IsAfter.mono : ∀ a0 a1 a2 k, LeO (impl_IsAfter.f k a0 a1 a2) (impl_IsAfter.f (k + 1) a0 a1 a2) := by
 intro a0 a1 a2 k
 unfold impl_IsAfter.f
 repeat' first
   | (with_reducible exact impl_isAfter.mono _ _ _ _)
   | (with_reducible exact LeO.refl _)
   | (with_reducible exact LeO.none _)
   | (with_reducible refine LeO.ite ?_ ?_)
   | (with_reducible refine LeO.bind ?_ (fun _ => ?_))
   | exact impl_isAfter.mono _ _ _ _
   | exact LeO.none _
   | refine LeO.ite ?_ ?_
   | refine LeO.bind ?_ (fun _ => ?_)
set_option maxHeartbeats 8000000 in
set_option maxRecDepth 100000 in
theorem impl_IsAfter.calls (k : Nat) (A0 : Option Addr) (c0 : Nat) (l0 : List (S38)) (a1 : Int) (a2 : Int) (r : Bool) (w : World) (hr0 : Kd.C k38 w A0 l0.length l0) (hc0 : l0.length ≤ c0) (h : impl_IsAfter.f k l0 a1 a2 = some r) :
  Calls Tryz.prog 106 #[.slice A0 l0.length c0, .int .i64 a1, .int .i64 a2] w fun e w' => e = .returned (.bool r) ∧ Below w.heap.size w w' := by
 have HR0 := Aside0.mk hr0
 have HC0 := Aside0.mk hc0
 clear hr0 hc0
 have HB := Aside0.mk (Below.refl w.heap.size w)
 have H : ((impl_isNode.f l0 a1).bind fun t433 => (if t433 = true then ((impl_isNode.f l0 a2).bind fun t434 => (if t434 = true then ((impl_isAfter.f k l0 a1 a2).bind fun t435 => (some t435)) else (some false))) else (some false))) = some r := h
 clear h
 replace H := Option.bind_eq_some_iff.mp H
 obtain ⟨t433, A40, H⟩ := H
 replace H : (if t433 = true then ((impl_isNode.f l0 a2).bind fun t434 => (if t434 = true then ((impl_isAfter.f k l0 a1 a2).bind fun t435 => (some t435)) else (some false))) else (some false)) = some r := H
 have A4 := Aside0.mk A40
 clear A40
 by_cases c5 : t433 = true
 ·subst c5
  have H1 : ((impl_isNode.f l0 a2).bind fun t434 => (if t434 = true then ((impl_isAfter.f k l0 a1 a2).bind fun t435 => (some t435)) else (some false))) = some r := by rw [if_pos rfl] at H; exact H
  clear H
  have H := H1
  clear H1
  replace H := Option.bind_eq_some_iff.mp H
  obtain ⟨t434, A60, H⟩ := H
  replace H : (if t434 = true then ((impl_isAfter.f k l0 a1 a2).bind fun t435 => (some t435)) else (some false)) = some r := H
  have A6 := Aside0.mk A60
  clear A60
  by_cases c7 : t434 = true
  ·subst c7
   have H1 : ((impl_isAfter.f k l0 a1 a2).bind fun t435 => (some t435)) = some r := by rw [if_pos rfl] at H; exact H
   clear H
   have H := H1
   clear H1
   replace H := Option.bind_eq_some_iff.mp H
   obtain ⟨t435, A80, H⟩ := H
   replace H : (some t435) = some r := H
   have A8 := Aside0.mk A80
   clear A80
   obtain rfl := Option.some.inj H
   go_enter Tryz.func106, Tryz.ntmps106
   go_wp2_with (first | ((with_reducible refine gate_callee (f := 115) rfl ?_); refine gL (some 9) Tryz.func115 #[.slice A0 l0.length c0, .int .i64 a1] ?_; (with_reducible refine (impl_isNode.calls _ _ l0 a1 true _ ?side1 ?side2 A4.out).mono ?_); (case side1 => exact cS HR0.out); (case side2 => exact HC0.out); rintro e w9 ⟨rfl, hb⟩; refine ⟨_, rfl, ?_⟩; replace HB := Aside0.mk (below_step bw hb); (try clear hb)) | (go_at_call 115; (with_reducible refine (impl_isNode.calls _ _ l0 a2 true _ ?side1 ?side2 A6.out).mono ?_); (case side1 => repeat (first | exact (Kd.C_below HR0.out HB.out) | (with_reducible refine Kd.C_alloc ?_ _) | (with_reducible refine Kd.C_drewN ?_ _) | (with_reducible refine Kd.C_drew ?_))); (case side2 => exact HC0.out); rintro e w10 ⟨rfl, hb⟩; replace HB := Aside0.mk (below_step bw hb); (try clear hb)) | (go_at_call 105; (with_reducible refine (impl_isAfter.calls k _ _ l0 a1 a2 t435 _ ?side1 ?side2 A8.out).mono ?_); (case side1 => repeat (first | exact (Kd.C_below HR0.out HB.out) | (with_reducible refine Kd.C_alloc ?_ _) | (with_reducible refine Kd.C_drewN ?_ _) | (with_reducible refine Kd.C_drew ?_))); (case side2 => exact HC0.out); rintro e w11 ⟨rfl, hb⟩; replace HB := Aside0.mk (below_step bw hb); (try clear hb)))
   go_ret
   exact ⟨eR, bw⟩
  ·replace c7 := Bool.eq_false_iff.mpr c7
   subst c7
   have H1 : (some false) = some r := by rw [if_neg (show ¬ (false = true) by decide)] at H; exact H
   clear H
   have H := H1
   clear H1
   obtain rfl := Option.some.inj H
   go_enter Tryz.func106, Tryz.ntmps106
   go_wp2_with (first | ((with_reducible refine gate_callee (f := 115) rfl ?_); refine gL (some 9) Tryz.func115 #[.slice A0 l0.length c0, .int .i64 a1] ?_; (with_reducible refine (impl_isNode.calls _ _ l0 a1 true _ ?side1 ?side2 A4.out).mono ?_); (case side1 => exact cS HR0.out); (case side2 => exact HC0.out); rintro e w12 ⟨rfl, hb⟩; refine ⟨_, rfl, ?_⟩; replace HB := Aside0.mk (below_step bw hb); (try clear hb)) | (go_at_call 115; (with_reducible refine (impl_isNode.calls _ _ l0 a2 false _ ?side1 ?side2 A6.out).mono ?_); (case side1 => repeat (first | exact (Kd.C_below HR0.out HB.out) | (with_reducible refine Kd.C_alloc ?_ _) | (with_reducible refine Kd.C_drewN ?_ _) | (with_reducible refine Kd.C_drew ?_))); (case side2 => exact HC0.out); rintro e w13 ⟨rfl, hb⟩; replace HB := Aside0.mk (below_step bw hb); (try clear hb)))
   go_ret
   exact ⟨eR, bw⟩
 ·replace c5 := Bool.eq_false_iff.mpr c5
  subst c5
  have H1 : (some false) = some r := by rw [if_neg (show ¬ (false = true) by decide)] at H; exact H
  clear H
  have H := H1
  clear H1
  obtain rfl := Option.some.inj H
  go_enter Tryz.func106, Tryz.ntmps106
  go_wp2_with (first | ((with_reducible refine gate_callee (f := 115) rfl ?_); refine gL (some 9) Tryz.func115 #[.slice A0 l0.length c0, .int .i64 a1] ?_; (with_reducible refine (impl_isNode.calls _ _ l0 a1 false _ ?side1 ?side2 A4.out).mono ?_); (case side1 => exact cS HR0.out); (case side2 => exact HC0.out); rintro e w14 ⟨rfl, hb⟩; refine ⟨_, rfl, ?_⟩; replace HB := Aside0.mk (below_step bw hb); (try clear hb)))
  go_ret
  exact ⟨eR, bw⟩

/-! ### impl_AftersOf: function 88 -/
def impl_AftersOf.l0 : Nat → List (S38) → Int → List Int → Int → Int → Option (List Int)
 | 0, _, _, _, _, _ => none
 | k + 1, x0, x1, x5, x10, x11 => if x11 < x10 then ((impl_IsAfter.f k x0 x1 x11).bind fun t439 => (if t439 = true then (if x5.length < 17592186044416 then (impl_AftersOf.l0 k x0 x1 (x5 ++ [x11]) x10 (wrap64 (x11 + 1))) else (none)) else (impl_AftersOf.l0 k x0 x1 x5 x10 (wrap64 (x11 + 1))))) else (some x5)
def impl_AftersOf.f (k : Nat) (l0 : List (S38)) (a1 : Int) : Option (List Int) := impl_AftersOf.l0 k l0 a1 (([] : List Int)) (wrap64 ((l0.length : Int) + 1)) 0
theorem impl_AftersOf.mono_l : ∀ k, (∀ y0 y1 y2 y3 y4, LeO (impl_AftersOf.l0 k y0 y1 y2 y3 y4) (impl_AftersOf.l0 (k + 1) y0 y1 y2 y3 y4))
 | 0 => fun _ _ _ _ _ r h => by simp [impl_AftersOf.l0] at h
 | k + 1 => by
  have ih0 := impl_AftersOf.mono_l k
  ·intro y0 y1 y2 y3 y4
   unfold impl_AftersOf.l0
   repeat' first
   | (with_reducible exact ih0 _ _ _ _ _)
   | (with_reducible exact impl_IsAfter.mono _ _ _ _)
   | (with_reducible exact LeO.refl _)
   | (with_reducible exact LeO.none _)
   | (with_reducible refine LeO.ite ?_ ?_)
   | (with_reducible refine LeO.bind ?_ (fun _ => ?_))
   | exact ih0 _ _ _ _ _
   | exact impl_IsAfter.mono _ _ _ _
   | exact LeO.none _
   | refine LeO.ite ?_ ?_
   | refine LeO.bind ?_ (fun _ => ?_)
theorem impl_AftersOf.mono : ∀ a0 a1 k, LeO (impl_AftersOf.f k a0 a1) (impl_AftersOf.f (k + 1) a0 a1) := by
 intro a0 a1 k
 have ih0 := impl_AftersOf.mono_l k
 unfold impl_AftersOf.f
 repeat' first
   | (with_reducible exact ih0 _ _ _ _ _)
   | (with_reducible exact impl_IsAfter.mono _ _ _ _)
   | (with_reducible exact LeO.refl _)
   | (with_reducible exact LeO.none _)
   | (with_reducible refine LeO.ite ?_ ?_)
   | (with_reducible refine LeO.bind ?_ (fun _ => ?_))
   | exact ih0 _ _ _ _ _
   | exact impl_IsAfter.mono _ _ _ _
   | exact LeO.none _
   | refine LeO.ite ?_ ?_
   | refine LeO.bind ?_ (fun _ => ?_)
set_option maxHeartbeats 8000000 in
set_option maxRecDepth 100000 in
theorem impl_AftersOf.calls (k : Nat) (A0 : Option Addr) (c0 : Nat) (l0 : List (S38)) (a1 : Int) (r : List Int) (w : World) (hr0 : Kd.C k38 w A0 l0.length l0) (hc0 : l0.length ≤ c0) (h : impl_AftersOf.f k l0 a1 = some r) :
  Calls Tryz.prog 88 #[.slice A0 l0.length c0, .int .i64 a1] w fun e w' => ∃ v0_ : Value, e = .returned (v0_) ∧ Kd.R (Kd.int .i64) 3 w' w.heap.size (fun _ => True) v0_ r ∧ Below w.heap.size w w' := by
 have HR0 := Aside0.mk hr0
 have HC0 := Aside0.mk hc0
 clear hr0 hc0
 have HB := Aside0.mk (Below.refl w.heap.size w)
 have H : (impl_AftersOf.l0 k l0 a1 (([] : List Int)) (wrap64 ((l0.length : Int) + 1)) 0) = some r := h
 clear h
 obtain ⟨y436, hy436⟩ : ∃ y_ : List Int, y_ = (([] : List Int)) := ⟨_, rfl⟩
 replace H : (impl_AftersOf.l0 k l0 a1 y436 (wrap64 ((l0.length : Int) + 1)) 0) = some r := rP hy436 H
 have Ny436 := Aside0.mk hy436
 clear hy436
 have H' := Aside0.mk H
 clear H
 go_enter Tryz.func88, Tryz.ntmps88
 go_wp2_with (first | ((with_reducible refine gate_dst (N := 7) rfl ?_); refine Kd.R_lit (Kd.int .i64) _ 3 ?hg (N := 7) ?hd (xs := ([] : List Int)) (inner := []) (ok := fun _ => True) (okp := fun _ => True) ?hr ?hp (fun _ hk => hk) trivial (Below.refl _ _) (Nat.le_refl _) (by simp) ?_; (case hd => rfl); (case hg => rfl); (case hr => first | (go_simp; done) | (go_simp; rfl)); (case hp => exact (Reps.none _ _)); intro v437 w3 ho4 hb hg_ hnew_; clear hg_ hnew_; (first | rw [← Ny436.out] at ho4 | (simp only [Int.reduceToNat] at ho4; rw [← Ny436.out] at ho4)); have HO438 := Aside0.mk (Kd.R_lower ho4 (below_size bw)); replace HB := Aside0.mk (below_step bw hb); clear hb ho4))
 go_loopg [5, 11] k (fun kq v5 v11 w' => ∃ (x5_1 : List Int) (x11_1 : Int), v11 = .int .i64 x11_1 ∧ Aside0 (impl_AftersOf.l0 kq l0 a1 x5_1 (wrap64 ((l0.length : Int) + 1)) x11_1 = some r) ∧ Aside0 (kq ≤ k) ∧ Aside0 (Kd.R (Kd.int .i64) 3 w' w.heap.size (fun _ => True) v5 x5_1) ∧ Aside0 (Below w.heap.size w w'))
 case atStart => exact ⟨(y436), (0), tR, H', ⟨Nat.le_refl _⟩, ⟨rS HO438.out⟩, ⟨bw⟩⟩
 case round =>
  clear H'
  try clear p2
  obtain ⟨x5_1, x11_1, rfl, HA, HK1, HO_5, HB⟩ := hrel
  cases gk with
  | zero => exact absurd HA.out (by simp [impl_AftersOf.l0])
  | succ k1 =>
   have H := HA.out
   clear HA
   simp only [impl_AftersOf.l0] at H
   by_cases c5 : x11_1 < (wrap64 ((l0.length : Int) + 1))
   ·rw [if_pos c5] at H
    have c5b0 : decide (x11_1 < (wrap64 ((l0.length : Int) + 1))) = true := decide_eq_true c5
    clear c5
    replace H := Option.bind_eq_some_iff.mp H
    obtain ⟨t439, A60, H⟩ := H
    replace H : (if t439 = true then (if x5_1.length < 17592186044416 then (impl_AftersOf.l0 k1 l0 a1 (x5_1 ++ [x11_1]) (wrap64 ((l0.length : Int) + 1)) (wrap64 (x11_1 + 1))) else (none)) else (impl_AftersOf.l0 k1 l0 a1 x5_1 (wrap64 ((l0.length : Int) + 1)) (wrap64 (x11_1 + 1)))) = some r := H
    have A6 := Aside0.mk A60
    clear A60
    by_cases c7 : t439 = true
    ·subst c7
     have H1 : (if x5_1.length < 17592186044416 then (impl_AftersOf.l0 k1 l0 a1 (x5_1 ++ [x11_1]) (wrap64 ((l0.length : Int) + 1)) (wrap64 (x11_1 + 1))) else (none)) = some r := by rw [if_pos rfl] at H; exact H
     clear H
     have H := H1
     clear H1
     by_cases c8 : x5_1.length < 17592186044416
     ·rw [if_pos c8] at H
      have LMc8 := Aside0.mk c8
      clear c8
      obtain ⟨y440, hy440⟩ : ∃ y_ : List Int, y_ = (x5_1 ++ [x11_1]) := ⟨_, rfl⟩
      replace H : (impl_AftersOf.l0 k1 l0 a1 y440 (wrap64 ((l0.length : Int) + 1)) (wrap64 (x11_1 + 1))) = some r := rP hy440 H
      have Ny440 := Aside0.mk hy440
      clear hy440
      have H' := Aside0.mk H
      clear H
      go_wp2_with (first | ((with_reducible refine gate_callee (f := 106) rfl ?_); refine gL (some 17) Tryz.func106 #[.slice A0 l0.length c0, .int .i64 a1, .int .i64 x11_1] ?_; (with_reducible refine (impl_IsAfter.calls k1 _ _ l0 a1 x11_1 true _ ?side1 ?side2 A6.out).mono ?_); (case side1 => repeat (first | exact (Kd.C_below HR0.out HB.out) | (with_reducible refine Kd.C_alloc ?_ _) | (with_reducible refine Kd.C_drewN ?_ _) | (with_reducible refine Kd.C_drew ?_))); (case side2 => exact HC0.out); rintro e w9 ⟨rfl, hb⟩; refine ⟨_, rfl, ?_⟩; replace HO_5 := Aside0.mk (Kd.R_below (rS HO_5.out) hb); replace HB := Aside0.mk (below_step bw hb); (try clear hb)) | ((with_reducible refine gate_builtin (b := .append) (xs := #[.tmp 18, .tmp 20]) rfl ?_); at_builtin; refine Kd.R_append (Kd.int .i64) (w0 := w) w.heap.size rfl (.tmp 18) (.tmp 20) 31 3 (.int .i64 0) 8 rfl Tryz.underlying31 info3 rfl (by decide) (by omega) u5 x5_1 x11_1 [.int .i64 x11_1] (fun _ => True) (fun _ => False) rfl rfl ?aP (fun _ hk => hk.elim) ?aF ?aO ?aB ?aS ?aL ?_; (case aP => exact rfl); (case aB => exact bw); (case aF => exact (fun _ _ => trivial)); (case aO => exact (rS HO_5.out)); (case aS => exact (below_size bw)); (case aL => have := LMc8.out; omega); intro v441 w10 ho hb hg hat; rw [← Ny440.out] at ho; replace HB := Aside0.mk (hb); have HO442 := Aside0.mk (ho); clear HO_5; clear ho hb hg hat))
      go_roundg k1
      case measure => have := HK1.out; omega
      case rel => exact ⟨(y440), (wrap64 (x11_1 + 1)), tR, H', ⟨by have := HK1.out; omega⟩, ⟨rS HO442.out⟩, ⟨bw⟩⟩
     ·rw [if_neg c8] at H
      exact absurd H (by simp)
    ·replace c7 := Bool.eq_false_iff.mpr c7
     subst c7
     have H1 : (impl_AftersOf.l0 k1 l0 a1 x5_1 (wrap64 ((l0.length : Int) + 1)) (wrap64 (x11_1 + 1))) = some r := by rw [if_neg (show ¬ (false = true) by decide)] at H; exact H
     clear H
     have H := H1
     clear H1
     have H' := Aside0.mk H
     clear H
     go_wp2_with (first | ((with_reducible refine gate_callee (f := 106) rfl ?_); refine gL (some 17) Tryz.func106 #[.slice A0 l0.length c0, .int .i64 a1, .int .i64 x11_1] ?_; (with_reducible refine (impl_IsAfter.calls k1 _ _ l0 a1 x11_1 false _ ?side1 ?side2 A6.out).mono ?_); (case side1 => repeat (first | exact (Kd.C_below HR0.out HB.out) | (with_reducible refine Kd.C_alloc ?_ _) | (with_reducible refine Kd.C_drewN ?_ _) | (with_reducible refine Kd.C_drew ?_))); (case side2 => exact HC0.out); rintro e w11 ⟨rfl, hb⟩; refine ⟨_, rfl, ?_⟩; replace HO_5 := Aside0.mk (Kd.R_below (rS HO_5.out) hb); replace HB := Aside0.mk (below_step bw hb); (try clear hb)))
     go_roundg k1
     case measure => have := HK1.out; omega
     case rel => exact ⟨(x5_1), (wrap64 (x11_1 + 1)), tR, H', ⟨by have := HK1.out; omega⟩, ⟨rS HO_5.out⟩, ⟨bw⟩⟩
   ·rw [if_neg c5] at H
    have c5b0 : decide (x11_1 < (wrap64 ((l0.length : Int) + 1))) = false := decide_eq_false c5
    clear c5
    obtain rfl := Option.some.inj H
    go_wp2
    go_ret
    exact ⟨_, eR, rS HO_5.out, bw⟩

/-! ### impl_FirstAfter: function 69 -/
def impl_FirstAfter.f (k : Nat) (l0 : List S38) (a1 : Int) : Option (Int) := (impl_AftersOf.f k l0 a1).bind fun L => impl_firstOf.f k l0 (L.filter fun x => !(x == a1))
theorem impl_FirstAfter.mono : ∀ a0 a1 k, LeO (impl_FirstAfter.f k a0 a1) (impl_FirstAfter.f (k + 1) a0 a1) := by
  intro a0 a1 k
  unfold impl_FirstAfter.f
  exact LeO.bind (impl_AftersOf.mono _ _ _) fun _ => impl_firstOf.mono _ _ _
set_option maxHeartbeats 1000000 in
theorem impl_FirstAfter.fn (g : Nat) (a1 x : Int) (w : World) (hg : w.heap[g]? = some (.cells #[.int .i64 a1] 3 (0, 0))) :
    Calls Tryz.prog 89 #[.int .i64 x, .pointer (some ⟨g, 0, none⟩)] w fun e w' => e = .returned (.bool (x == a1)) ∧ Below w.heap.size w w' := by
  have hz := one_cellF hg
  clear hg
  go_enter Tryz.func89, Tryz.ntmps89
  go_wp2
  go_ret
  exact ⟨rfl, Below.refl _ _⟩
set_option maxHeartbeats 2000000 in
set_option maxRecDepth 100000 in
theorem impl_FirstAfter.calls (k : Nat) (A0 : Option Addr) (c0 : Nat) (l0 : List S38) (a1 : Int) (r : Int) (w : World) (hr0 : Kd.C k38 w A0 l0.length l0) (hc0 : l0.length ≤ c0) (h : impl_FirstAfter.f k l0 a1 = some r) :
    Calls Tryz.prog 69 #[.slice A0 l0.length c0, .int .i64 a1] w fun e w' => e = .returned (.int .i64 r) ∧ Below w.heap.size w w' := by
  obtain ⟨L, hL, h⟩ := Option.bind_eq_some_iff.mp h
  have HL := Aside0.mk hL
  have HF := Aside0.mk h
  have HR0 := Aside0.mk hr0
  have HC0 := Aside0.mk hc0
  clear hL h hr0 hc0
  have eg := Aside0.mk (enters_of Tryz.func89 (by kernel_rfl) rfl)
  go_enter Tryz.func69, Tryz.ntmps69
  go_wp2_with (first
    | ((with_reducible refine gate_dst (N := 3) rfl ?_); refine box_event ?hg (N := 3) ?hd (cs := #[.int .i64 a1]) (t := 3) ?hr ?_; (case hd => rfl); (case hg => rfl); (case hr => first | (go_simp; done) | (go_simp; rfl)); intro g3 hgb w1 hbox hb; have HB := Aside0.mk hb; have B3 := Aside0.mk hbox; have z3 := one_cellF hbox; clear hgb hb hbox)
    | (go_at_call 88; (with_reducible refine (impl_AftersOf.calls k A0 c0 l0 a1 L _ (Kd.C_below HR0.out HB.out) HC0.out HL.out).mono ?_); rintro e w2 ⟨v2, rfl, ho2, hb2⟩; have HO2 := Aside0.mk ho2; have HB2 := Aside0.mk hb2; clear ho2 hb2)
    | (go_at_call 87; refine (deleteFunc_int 89 #[.pointer (some ⟨g3, 0, none⟩)] eg.out (fun x => x == a1) v2 L w1 _ HB2.out HO2.out (fun x _ W hW => impl_FirstAfter.fn g3 a1 x W (blk_below B3.out hW))).mono ?_; rintro e w3 ⟨v3, rfl, ho3, hb3⟩; obtain ⟨A3, c3, e3⟩ := Kd.R_slice ho3; subst e3; have HC3 := Aside0.mk (Kd.R_reads' ho3).2; have HB3 := Aside0.mk (below_step HB.out hb3); clear ho3 hb3)
    | (go_at_call 86; (with_reducible refine (impl_firstOf.calls k A0 c0 l0 A3 c3 (L.filter fun x => !(x == a1)) r _ (Kd.C_below HR0.out HB3.out) HC0.out HC3.out.2 HC3.out.1 HF.out).mono ?_); rintro e w4 ⟨rfl, hb4⟩; have HB4 := Aside0.mk (below_step HB3.out hb4); clear hb4))
  go_ret
  exact ⟨rfl, HB4.out⟩

end Go.Proofs.YtdppehpcpofeoaaGreat.PFnExactUniformAt
