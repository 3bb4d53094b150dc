-- Written by myprint.py (a program of this session, over the kit's print): not trusted, Lean checks it.
import Derived.Test.YtbgpnendblmdaaaPFnExactIsForwardx0
import Derived.Test.YtbgpnendblmdaaaPFnExactIsForwardx3
import Derived.Test.YtbgpnendblmdaaaPFnExactIsForwardx8
namespace Go.Proofs.Ytbgpnendblmdaaa.PFnExactIsForward
open Go.RowKit Go.Proofs.YtbgpnendblmdaaaW.PrintWords Go.Proofs.YtbgpnendblmdaaaW.PrintLast Go.Proofs.YtbgpnendblmdaaaW.PrintMore
attribute [local go_sem] max2_int min2_int max_two min_two max_three min_three max_four min_four   -- for this text's walks alone
set_option linter.unusedVariables false
set_option linter.unusedSimpArgs false

/-! ### spec_l07Reach: function 87 -/
def reachS (l0 : List S53) : Nat → List Bool → List Int → Option (List Bool)
  | 0, _, _ => none
  | _ + 1, out, [] => some out
  | k + 1, out, x :: t => if 0 ≤ x ∧ x < (out.length : Int) then (if rdOf false out x = true then reachS l0 k out t else (spec_l07Next.f k l0 x).bind fun ns => if (t.length + ns.length) * 8 ≤ 140737488355328 then reachS l0 k (out.set x.toNat true) (t ++ ns) else none) else none
theorem reachS_mono (l0 : List S53) : ∀ k out t, LeO (reachS l0 k out t) (reachS l0 (k + 1) out t)
  | 0, out, t => fun r h => by simp [reachS] at h
  | k + 1, out, [] => LeO.refl _
  | k + 1, out, x :: t => by
    rw [reachS, reachS]
    refine LeO.ite (LeO.ite (reachS_mono l0 k _ _) (LeO.bind (spec_l07Next.mono _ _ _) fun _ => LeO.ite (reachS_mono l0 k _ _) (LeO.none _))) (LeO.none _)
def spec_l07Reach.f (k : Nat) (l0 : List S53) (l1 : List Int) : Option (List Bool) := if l0.length ≤ 1048576 then (if l1.length * 8 ≤ 140737488355328 then reachS l0 k (List.replicate (l0.length + 1) false) l1 else none) else none
theorem spec_l07Reach.mono : ∀ a0 a1 k, LeO (spec_l07Reach.f k a0 a1) (spec_l07Reach.f (k + 1) a0 a1) := by
  intro a0 a1 k
  unfold spec_l07Reach.f
  exact LeO.ite (LeO.ite (reachS_mono _ _ _ _) (LeO.none _)) (LeO.none _)
set_option maxHeartbeats 4000000 in
set_option maxRecDepth 100000 in
theorem spec_l07Reach.calls (k : Nat) (A0 : Option Addr) (c0 : Nat) (l0 : List S53) (A1 : Option Addr) (c1 : Nat) (l1 : List Int) (r : List Bool) (w : World) (hr0 : Kd.C k53 w A0 l0.length l0) (hc0 : l0.length ≤ c0) (hr1 : Kd.C (Kd.int .i64) w A1 l1.length l1) (hc1 : l1.length ≤ c1) (h : spec_l07Reach.f k l0 l1 = some r) :
    Calls Try.prog 87 #[.slice A0 l0.length c0, .slice A1 l1.length c1] w fun e w' => ∃ v0_ : Value, e = .returned (v0_) ∧ Kd.R Kd.bool 4 w' w.heap.size (fun _ => True) v0_ r ∧ Below w.heap.size w w' := by
  unfold spec_l07Reach.f at h
  by_cases h20 : ¬ l0.length ≤ 1048576
  · rw [if_neg h20] at h; exact absurd h (by simp)
  replace h20 := Decidable.not_not.1 h20
  rw [if_pos h20] at h
  by_cases h8 : ¬ l1.length * 8 ≤ 140737488355328
  · rw [if_neg h8] at h; exact absurd h (by simp)
  replace h8 := Decidable.not_not.1 h8
  rw [if_pos h8] at h
  have H8 := Aside0.mk h8
  have HL := Aside0.mk h
  have HR0 := Aside0.mk hr0
  have HC0 := Aside0.mk hc0
  have HR1 := Aside0.mk hr1
  have HB := Aside0.mk (Below.refl w.heap.size w)
  clear h hr0 hc0 hr1 hc1 h8
  have hw1 : IntKind.i64.wrap ((l0.length : Int) + 1) = (l0.length : Int) + 1 := by rw [i64_w]; unfold wrap64; omega
  have hn1 : ((l0.length : Int) + 1).toNat = l0.length + 1 := by omega
  go_enter Try.func87, Try.ntmps87
  go_wp2_with (first
    | ((with_reducible refine gate_dst (N := 11) rfl ?_); refine Kd.R_make Kd.bool _ 4 rfl (N := 11) rfl 48 _ _ rfl ((l0.length : Int) + 1) rfl rfl Try.underlying48 (.bool false) 1 info4 rfl (by decide) (by omega) false (ok := fun _ => True) (okp := fun _ => True) rfl (fun _ hk => hk) trivial (by omega) (by omega) (by exact HB.out) (below_size HB.out) ?_; intro v1 w1 ho1 hb1 _ _; rw [hn1] at ho1; obtain ⟨go, co, eo, hgo, _, _⟩ := Kd.R_form ho1 (by simp); rw [List.length_replicate] at eo; subst eo; have HO := Aside0.mk ho1; have HG := Aside0.mk hgo; clear HB; have HB := Aside0.mk hb1; clear ho1 hb1 hgo)
    | ((with_reducible refine gate_dst (N := 12) rfl ?_); refine Kd.R_lit (Kd.int .i64) _ 3 ?hg (N := 12) ?hd (xs := ([] : List Int)) (inner := []) (ok := fun _ => True) (okp := fun _ => True) ?hr ?hp (fun _ hk => hk) trivial HB.out (below_size HB.out) (by simp) ?_; (case hd => rfl); (case hg => rfl); (case hr => first | (go_simp; done) | (go_simp; rfl)); (case hp => exact (Reps.none _ _)); intro v12 w2 ho2 hb2 hg2 _; have HQ1 := Aside0.mk (Kd.Q_of_R ho2); have HO1 := Aside0.mk (Kd.R_grown HO.out hg2 (fun _ _ => by simp)); have HB1 := Aside0.mk hb2; clear hg2 ho2 hb2)
    | ((with_reducible refine gate_builtin (b := .append) (xs := #[.tmp 12, .tmp 13]) rfl ?_); at_builtin; refine Q_app (w0 := w) w.heap.size rfl (.tmp 12) (.tmp 13) rfl v12 [] l1 A1 l1.length c1 (fun _ => True) rfl rfl HQ1.out (Kd.C_below HR1.out HB1.out) (fun _ _ => trivial) HB1.out (below_size HB1.out) (by have := H8.out; simp only [List.length_nil]; omega) ?_; intro v5 w5 hq5 hb5 hg5; have HO2 := Aside0.mk (Kd.R_over' HO1.out (Kd.Q_typed HQ1.out) (by decide) hg5); have HQ := Aside0.mk hq5; have HB2 := Aside0.mk hb5; clear hq5 hb5 hg5))
  go_loopg [6, 7] k (fun kq v8 _ wr => ∃ (out : List Bool) (todo : List Int), out.length = l0.length + 1 ∧ Aside0 (reachS l0 kq out todo = some r) ∧ Aside0 (Kd.R Kd.bool 4 wr w.heap.size (fun _ => True) (.slice (some ⟨go, 0, none⟩) (l0.length + 1) co) out) ∧ Aside0 (Kd.Q (Kd.int .i64) 3 wr w.heap.size (fun _ => True) v8 todo) ∧ Aside0 (Below w.heap.size w wr))
  case atStart => exact ⟨_, _, List.length_replicate .., HL, ⟨HO2.out⟩, ⟨HQ.out⟩, ⟨HB2.out⟩⟩
  case round =>
    clear HL HO2 HQ HB2 HO HB
    obtain ⟨out, todo, hol, HA, HO, HQ, HB⟩ := hrel
    cases gk with
    | zero => exact absurd HA.out (by simp [reachS])
    | succ k1 =>
      obtain ⟨A8, c8, e8, _⟩ := Kd.Q_slice HQ.out
      subst e8
      cases todo with
      | nil =>
        obtain rfl := Option.some.inj HA.out
        go_wp2
        go_ret
        exact ⟨_, rfl, HO.out, HB.out⟩
      | cons x t =>
        have hpos : decide (((t.length + 1 : Nat) : Int) > 0) = true := decide_eq_true (by omega)
        obtain ⟨ad, ea, hx⟩ := Kd.at_int (Kd.Q_reads' HQ.out).2.2 0 (by omega) (by simp)
        subst ea
        rw [show (0 : Int).toNat = 0 from rfl, Addr.add_zero'] at hx
        replace hx : wr.cell? ad = some (Value.int .i64 x) := hx
        have hq9 : (c8 = 1 ∧ Kd.Q (Kd.int .i64) 3 wr w.heap.size (fun _ => True) (.slice (some ad) t.length 0) t) ∨ (¬ c8 = 1 ∧ Kd.Q (Kd.int .i64) 3 wr w.heap.size (fun _ => True) (.slice (some (ad.add 1)) t.length (c8 - 1)) t) := by
          have hq := Kd.Q_drop (k := 1) HQ.out (by simp)
          by_cases hc : c8 = 1
          · subst hc; exact .inl ⟨rfl, hq⟩
          · rw [if_neg hc] at hq; exact .inr ⟨hc, hq⟩
        have HOL := Aside0.mk hol
        have H := HA.out
        clear HA
        rw [reachS] at H
        rcases hq9 with ⟨hc, hq9⟩ | ⟨hc, hq9⟩
        · subst hc
          have HQ9 := Aside0.mk hq9
          clear hq9
          by_cases hr : 0 ≤ x ∧ x < (out.length : Int)
          · rw [if_pos hr] at H
            rw [hol] at hr
            obtain ⟨hm, hf⟩ := Kd.R_celln false HO.out x hr.1 hr.2
            have q1 : decide (0 ≤ x) = true := decide_eq_true hr.1
            have q2 : decide (x < ((l0.length + 1 : Nat) : Int)) = true := decide_eq_true hr.2
            have q3 : decide (x < (l0.length : Int) + 1) = true := decide_eq_true (by omega)
            have q4 : 0 ≤ x := hr.1
            have q5 : x < (l0.length : Int) + 1 := by omega
            clear hr hol
            by_cases hv : rdOf false out x = true
            · rw [if_pos hv] at H
              have HF := Aside0.mk H
              rw [hv] at hm
              clear hv H
              go_wp2
              go_roundg k1
              case measure => omega
              case rel => exact ⟨out, t, HOL.out, HF, ⟨HO.out⟩, ⟨HQ9.out⟩, ⟨HB.out⟩⟩
            · rw [if_neg hv] at H
              replace hv : rdOf false out x = false := by simpa using hv
              rw [hv] at hm
              clear hv
              obtain ⟨ns, hns, H⟩ := Option.bind_eq_some_iff.mp H
              have HN := Aside0.mk hns
              clear hns
              by_cases hlen : (t.length + ns.length) * 8 ≤ 140737488355328
              · rw [if_pos hlen] at H
                have HF := Aside0.mk H
                have HLEN := Aside0.mk hlen
                clear H hlen
                have HP := Aside0.mk (Kd.R_putg HO.out x true)
                have HS := Aside0.mk (below_set (j := x.toNat) (v := .bool true) HB.out HG.out)
                have HQ3 := Aside0.mk (Kd.Q_over' HQ9.out (Kd.R_typed HO.out) (by decide) HP.out.2)
                go_wp2_with (first | (go_at_call 71; (with_reducible refine (spec_l07Next.calls k1 A0 c0 l0 x ns _ (Kd.C_below HR0.out HS.out) HC0.out HN.out).mono ?_); rintro e w4 ⟨v4, rfl, ho4, hb4⟩; obtain ⟨A4, c4, e4⟩ := Kd.R_slice ho4; subst e4; have HQ4 := Aside0.mk (Kd.Q_below HQ3.out hb4); have HO4 := Aside0.mk (Kd.R_below HP.out.1 hb4); have HB4 := Aside0.mk (below_step HS.out hb4); have HN4 := Aside0.mk (Kd.R_reads' ho4).2.2; clear ho4 hb4) | ((with_reducible refine gate_builtin (b := .append) (xs := #[.tmp 30, .tmp 33]) rfl ?_); at_builtin; refine Q_app (w0 := w) w.heap.size rfl (.tmp 30) (.tmp 33) rfl _ t ns A4 ns.length c4 (fun _ => True) rfl rfl HQ4.out HN4.out (fun _ _ => trivial) HB4.out (below_size HB4.out) HLEN.out ?_; intro v5 w5 hq5 hb5 hg5; have HO5 := Aside0.mk (Kd.R_over' HO4.out (Kd.Q_typed HQ4.out) (by decide) hg5); have HQ5 := Aside0.mk hq5; have HB5 := Aside0.mk hb5; clear hq5 hb5 hg5))
                go_roundg k1
                case measure => omega
                case rel => exact ⟨out.set x.toNat true, t ++ ns, by rw [List.length_set]; exact HOL.out, HF, ⟨HO5.out⟩, ⟨HQ5.out⟩, ⟨HB5.out⟩⟩
              · rw [if_neg hlen] at H
                exact absurd H (by simp)
          · rw [if_neg hr] at H
            exact absurd H (by simp)
        · have HQ9 := Aside0.mk hq9
          clear hq9
          by_cases hr : 0 ≤ x ∧ x < (out.length : Int)
          · rw [if_pos hr] at H
            rw [hol] at hr
            obtain ⟨hm, hf⟩ := Kd.R_celln false HO.out x hr.1 hr.2
            have q1 : decide (0 ≤ x) = true := decide_eq_true hr.1
            have q2 : decide (x < ((l0.length + 1 : Nat) : Int)) = true := decide_eq_true hr.2
            have q3 : decide (x < (l0.length : Int) + 1) = true := decide_eq_true (by omega)
            have q4 : 0 ≤ x := hr.1
            have q5 : x < (l0.length : Int) + 1 := by omega
            clear hr hol
            by_cases hv : rdOf false out x = true
            · rw [if_pos hv] at H
              have HF := Aside0.mk H
              rw [hv] at hm
              clear hv H
              go_wp2
              go_roundg k1
              case measure => omega
              case rel => exact ⟨out, t, HOL.out, HF, ⟨HO.out⟩, ⟨HQ9.out⟩, ⟨HB.out⟩⟩
            · rw [if_neg hv] at H
              replace hv : rdOf false out x = false := by simpa using hv
              rw [hv] at hm
              clear hv
              obtain ⟨ns, hns, H⟩ := Option.bind_eq_some_iff.mp H
              have HN := Aside0.mk hns
              clear hns
              by_cases hlen : (t.length + ns.length) * 8 ≤ 140737488355328
              · rw [if_pos hlen] at H
                have HF := Aside0.mk H
                have HLEN := Aside0.mk hlen
                clear H hlen
                have HP := Aside0.mk (Kd.R_putg HO.out x true)
                have HS := Aside0.mk (below_set (j := x.toNat) (v := .bool true) HB.out HG.out)
                have HQ3 := Aside0.mk (Kd.Q_over' HQ9.out (Kd.R_typed HO.out) (by decide) HP.out.2)
                go_wp2_with (first | (go_at_call 71; (with_reducible refine (spec_l07Next.calls k1 A0 c0 l0 x ns _ (Kd.C_below HR0.out HS.out) HC0.out HN.out).mono ?_); rintro e w4 ⟨v4, rfl, ho4, hb4⟩; obtain ⟨A4, c4, e4⟩ := Kd.R_slice ho4; subst e4; have HQ4 := Aside0.mk (Kd.Q_below HQ3.out hb4); have HO4 := Aside0.mk (Kd.R_below HP.out.1 hb4); have HB4 := Aside0.mk (below_step HS.out hb4); have HN4 := Aside0.mk (Kd.R_reads' ho4).2.2; clear ho4 hb4) | ((with_reducible refine gate_builtin (b := .append) (xs := #[.tmp 30, .tmp 33]) rfl ?_); at_builtin; refine Q_app (w0 := w) w.heap.size rfl (.tmp 30) (.tmp 33) rfl _ t ns A4 ns.length c4 (fun _ => True) rfl rfl HQ4.out HN4.out (fun _ _ => trivial) HB4.out (below_size HB4.out) HLEN.out ?_; intro v5 w5 hq5 hb5 hg5; have HO5 := Aside0.mk (Kd.R_over' HO4.out (Kd.Q_typed HQ4.out) (by decide) hg5); have HQ5 := Aside0.mk hq5; have HB5 := Aside0.mk hb5; clear hq5 hb5 hg5))
                go_roundg k1
                case measure => omega
                case rel => exact ⟨out.set x.toNat true, t ++ ns, by rw [List.length_set]; exact HOL.out, HF, ⟨HO5.out⟩, ⟨HQ5.out⟩, ⟨HB5.out⟩⟩
              · rw [if_neg hlen] at H
                exact absurd H (by simp)
          · rw [if_neg hr] at H
            exact absurd H (by simp)

/-! ### spec_ReachesExit: function 64 -/
def spec_ReachesExit.f (k : Nat) (l0 : List (S53)) (a1 : Int) : Option (Bool) := (spec_l07Ok.f k l0 a1).bind fun t318 => (if t318 = true then ((spec_l07Reach.f k l0 (([a1] : List Int))).bind fun t322 => (if 0 ≤ (l0.length : Int) then (if (l0.length : Int) < (t322.length : Int) then (some (rdOf false t322 (l0.length : Int))) else (none)) else (none))) else (some false))
theorem spec_ReachesExit.mono : ∀ a0 a1 k, LeO (spec_ReachesExit.f k a0 a1) (spec_ReachesExit.f (k + 1) a0 a1) := by
  intro a0 a1 k
  unfold spec_ReachesExit.f
  repeat' first
      | (with_reducible exact spec_l07Ok.mono _ _ _)
      | (with_reducible exact spec_l07Reach.mono _ _ _)
      | (with_reducible exact LeO.refl _)
      | (with_reducible exact LeO.none _)
      | (with_reducible refine LeO.ite ?_ ?_)
      | (with_reducible refine LeO.bind ?_ (fun _ => ?_))
      | exact spec_l07Ok.mono _ _ _
      | exact spec_l07Reach.mono _ _ _
      | exact LeO.none _
      | refine LeO.ite ?_ ?_
      | refine LeO.bind ?_ (fun _ => ?_)
set_option maxHeartbeats 8000000 in
set_option maxRecDepth 100000 in
theorem spec_ReachesExit.calls (k : Nat) (A0 : Option Addr) (c0 : Nat) (l0 : List (S53)) (a1 : Int) (r : Bool) (w : World) (hr0 : Kd.C k53 w A0 l0.length l0) (hc0 : l0.length ≤ c0) (h : spec_ReachesExit.f k l0 a1 = some r) :
    Calls Try.prog 64 #[.slice A0 l0.length c0, .int .i64 a1] w fun e w' => e = .returned (.bool r) ∧ Below w.heap.size w w' := by
  have HR0 := Aside0.mk hr0
  have HC0 := Aside0.mk hc0
  clear hr0 hc0
  have HB := Aside0.mk (Below.refl w.heap.size w)
  have H : ((spec_l07Ok.f k l0 a1).bind fun t318 => (if t318 = true then ((spec_l07Reach.f k l0 (([a1] : List Int))).bind fun t322 => (if 0 ≤ (l0.length : Int) then (if (l0.length : Int) < (t322.length : Int) then (some (rdOf false t322 (l0.length : Int))) else (none)) else (none))) else (some false))) = some r := h
  clear h
  replace H := Option.bind_eq_some_iff.mp H
  obtain ⟨t318, A30, H⟩ := H
  replace H : (if t318 = true then ((spec_l07Reach.f k l0 (([a1] : List Int))).bind fun t322 => (if 0 ≤ (l0.length : Int) then (if (l0.length : Int) < (t322.length : Int) then (some (rdOf false t322 (l0.length : Int))) else (none)) else (none))) else (some false)) = some r := H
  have A3 := Aside0.mk A30
  clear A30
  by_cases c4 : t318 = true
  · subst c4
    have H1 : ((spec_l07Reach.f k l0 (([a1] : List Int))).bind fun t322 => (if 0 ≤ (l0.length : Int) then (if (l0.length : Int) < (t322.length : Int) then (some (rdOf false t322 (l0.length : Int))) else (none)) else (none))) = some r := by rw [if_pos rfl] at H; exact H
    clear H
    have H := H1
    clear H1
    obtain ⟨y319, hy319⟩ : ∃ y_ : List Int, y_ = (([a1] : List Int)) := ⟨_, rfl⟩
    replace H : ((spec_l07Reach.f k l0 y319).bind fun t322 => (if 0 ≤ (l0.length : Int) then (if (l0.length : Int) < (t322.length : Int) then (some (rdOf false t322 (l0.length : Int))) else (none)) else (none))) = some r := by first | (rw [hy319]; with_reducible exact H) | (have H2_ := (Option.bind_some _ _).symm.trans H; rw [hy319]; with_reducible exact H2_) | (have H2_ := (Option.bind_some _ _).symm.trans H; with_reducible exact H2_) | with_reducible exact H | (rw [hy319]; exact H) | exact H
    have Ny319 := Aside0.mk hy319
    clear hy319
    replace H := Option.bind_eq_some_iff.mp H
    obtain ⟨t322, A50, H⟩ := H
    replace H : (if 0 ≤ (l0.length : Int) then (if (l0.length : Int) < (t322.length : Int) then (some (rdOf false t322 (l0.length : Int))) else (none)) else (none)) = some r := H
    have A5 := Aside0.mk A50
    clear A50
    by_cases c6 : 0 ≤ (l0.length : Int)
    · rw [if_pos c6] at H
      have c6b0 : decide (0 ≤ (l0.length : Int)) = true := decide_eq_true c6
      have c6b1 : decide (0 ≤ l0.length) = true := decide_eq_true (by omega)
      clear c6
      by_cases c7 : (l0.length : Int) < (t322.length : Int)
      · rw [if_pos c7] at H
        have c7b0 : decide ((l0.length : Int) < (t322.length : Int)) = true := decide_eq_true c7
        have c7b1 : decide (l0.length < t322.length) = true := decide_eq_true (Int.ofNat_lt.mp c7)
        clear c7
        obtain rfl := Option.some.inj H
        go_enter Try.func64, Try.ntmps64
        go_wp2_with (first | ((with_reducible refine gate_callee (f := 86) rfl ?_); refine goesL_ (some 7) rfl rfl Try.func86 (by kernel_rfl) rfl #[.slice A0 l0.length c0, .int .i64 a1] rfl (by (try simp only [List.map_toArray, List.map_cons, List.map_nil]); first | done | rfl | (simp only [List.length_drop, List.length_take]; rfl)) ?_; (with_reducible refine (spec_l07Ok.calls k _ _ l0 a1 true _ ?side1 ?side2 A3.out).mono ?_); (case side1 => repeat (first | exact HR0.out | (with_reducible refine Kd.C_alloc ?_ _) | (with_reducible refine Kd.C_drewN ?_ _) | (with_reducible refine Kd.C_drew ?_))); (case side2 => exact HC0.out); rintro e w8 ⟨rfl, hb⟩; refine ⟨_, rfl, ?_⟩; have n0_ := Aside0.mk (below_step (by repeat (first | (with_reducible first | exact HB.out | apply below_alloc | apply pw_below_drewN | apply below_drew1) | exact HB.out)) hb); clear HB; have HB := n0_; clear n0_; (try clear hb); (try clear hb2); (try clear hk); (try clear hi)) | ((with_reducible refine gate_dst (N := 11) rfl ?_); (try (refine gate_guard (by rfl) ?_; dsimp only)); refine Kd.R_lit (Kd.int .i64) _ 3 ?hg (N := 11) ?hd (xs := ([a1] : List Int)) (inner := [.int .i64 a1]) (ok := fun _ => True) (okp := fun _ => True) ?hr ?hp (fun _ hk => hk) trivial (Below.refl _ _) (Nat.le_refl _) (by simp) ?_; (case hd => rfl); (case hg => rfl); (case hr => first | (go_simp; done) | (go_simp; rfl)); (case hp => exact (Reps.one (show Kd.M (Kd.int .i64) _ _ _ a1 [.int .i64 a1] from rfl) (Reps.none _ _))); intro v320 w9 ho10 hb hg_ hnew_; clear hg_ hnew_; (first | rw [← Ny319.out] at ho10 | (simp only [Int.reduceToNat] at ho10; rw [← Ny319.out] at ho10)); have n0_ := Aside0.mk (Kd.R_lower ho10 (below_size (by repeat (first | (with_reducible first | exact HB.out | apply below_alloc | apply pw_below_drewN | apply below_drew1) | exact HB.out)))); have n1_ := Aside0.mk (below_step (by repeat (first | (with_reducible first | exact HB.out | apply below_alloc | apply pw_below_drewN | apply below_drew1) | exact HB.out)) hb); clear HB; have HO321 := n0_; have HB := n1_; clear n0_ n1_; clear hb ho10; obtain ⟨Ao11, co11, eo11⟩ := Kd.R_slice HO321.out; subst eo11) | (go_at_call 87; (with_reducible refine (spec_l07Reach.calls k _ _ l0 _ _ y319 t322 _ ?side1 ?side2 ?side3 ?side4 A5.out).mono ?_); (case side1 => repeat (first | exact (Kd.C_below HR0.out HB.out) | (with_reducible refine Kd.C_alloc ?_ _) | (with_reducible refine Kd.C_drewN ?_ _) | (with_reducible refine Kd.C_drew ?_))); (case side2 => exact HC0.out); (case side3 => repeat (first | exact (Kd.R_reads' HO321.out).2.2 | (with_reducible refine Kd.C_alloc ?_ _) | (with_reducible refine Kd.C_drewN ?_ _) | (with_reducible refine Kd.C_drew ?_))); (case side4 => exact (Kd.R_reads' HO321.out).2.1); rintro e w12 ⟨v323, rfl, ho0, hb⟩; have n0_ := Aside0.mk (Kd.R_below (by (with_reducible repeat (first | apply Kd.R_alloc | apply Kd.R_drewN | apply Kd.R_drew)); exact HO321.out) hb); have n1_ := Aside0.mk (Kd.R_lower ho0 (below_size (by repeat (first | (with_reducible first | exact HB.out | apply below_alloc | apply pw_below_drewN | apply below_drew1) | exact HB.out)))); have n2_ := Aside0.mk (below_step (by repeat (first | (with_reducible first | exact HB.out | apply below_alloc | apply pw_below_drewN | apply below_drew1) | exact HB.out)) hb); clear HO321; clear HB; have HO321 := n0_; have HO324 := n1_; have HB := n2_; clear n0_ n1_ n2_; (try clear hb); (try clear hb2); (try clear hk); (try clear hi); (try clear ho0); obtain ⟨Ao13, co13, eo13⟩ := Kd.R_slice HO324.out; subst eo13; have p325 : 0 ≤ ((l0.length : Int) : Int) := of_decide_eq_true (by first | (with_reducible assumption) | assumption); have q325 : (l0.length : Int) < (t322.length : Int) := of_decide_eq_true (by first | (with_reducible assumption) | assumption); obtain ⟨ad325, e325, hx325_0⟩ := Kd.at_bool (Kd.R_reads' HO324.out).2.2 (l0.length : Int) p325 q325; cases e325; (try simp only [Go.IntWalk.toNatUp] at hx325_0); replace p325 := eq_true p325; replace q325 := eq_true q325))
        go_ret
        exact ⟨by first | rfl | (simp [errW_none, errW_some] <;> rfl) | (simp [*, errW_none, errW_some] <;> rfl), by repeat (first | (with_reducible first | exact HB.out | apply below_alloc | apply pw_below_drewN | apply below_drew1) | exact HB.out)⟩
      · rw [if_neg c7] at H
        exact absurd H (by simp)
    · rw [if_neg c6] at H
      exact absurd H (by simp)
  · replace c4 := Bool.eq_false_iff.mpr c4
    subst c4
    have H1 : (some false) = some r := by rw [if_neg (show ¬ (false = true) by decide)] at H; exact H
    clear H
    have H := H1
    clear H1
    obtain rfl := Option.some.inj H
    go_enter Try.func64, Try.ntmps64
    go_wp2_with (first | ((with_reducible refine gate_callee (f := 86) rfl ?_); refine goesL_ (some 7) rfl rfl Try.func86 (by kernel_rfl) rfl #[.slice A0 l0.length c0, .int .i64 a1] rfl (by (try simp only [List.map_toArray, List.map_cons, List.map_nil]); first | done | rfl | (simp only [List.length_drop, List.length_take]; rfl)) ?_; (with_reducible refine (spec_l07Ok.calls k _ _ l0 a1 false _ ?side1 ?side2 A3.out).mono ?_); (case side1 => repeat (first | exact HR0.out | (with_reducible refine Kd.C_alloc ?_ _) | (with_reducible refine Kd.C_drewN ?_ _) | (with_reducible refine Kd.C_drew ?_))); (case side2 => exact HC0.out); rintro e w14 ⟨rfl, hb⟩; refine ⟨_, rfl, ?_⟩; have n0_ := Aside0.mk (below_step (by repeat (first | (with_reducible first | exact HB.out | apply below_alloc | apply pw_below_drewN | apply below_drew1) | exact HB.out)) hb); clear HB; have HB := n0_; clear n0_; (try clear hb); (try clear hb2); (try clear hk); (try clear hi)))
    go_ret
    exact ⟨by first | rfl | (simp [errW_none, errW_some] <;> rfl) | (simp [*, errW_none, errW_some] <;> rfl), by repeat (first | (with_reducible first | exact HB.out | apply below_alloc | apply pw_below_drewN | apply below_drew1) | exact HB.out)⟩

/-! ### spec_l08After: function 65 -/
def afterS (l0 : List S53) (wo : Int) : Nat → List Bool → List Int → Option Bool
  | 0, _, _ => none
  | _ + 1, out, [] => some true
  | k + 1, out, x :: t => if 0 ≤ x ∧ x < (out.length : Int) then (if rdOf false out x = true then afterS l0 wo k out t else if x = wo then afterS l0 wo k out t else if x = (l0.length : Int) then some false else (spec_l07Next.f k l0 x).bind fun ns => if (t.length + ns.length) * 8 ≤ 140737488355328 then afterS l0 wo k (out.set x.toNat true) (t ++ ns) else none) else none
theorem afterS_mono (l0 : List S53) (wo : Int) : ∀ k out t, LeO (afterS l0 wo k out t) (afterS l0 wo (k + 1) out t)
  | 0, out, t => fun r h => by simp [afterS] at h
  | k + 1, out, [] => LeO.refl _
  | k + 1, out, x :: t => by
    rw [afterS, afterS]
    refine LeO.ite (LeO.ite (afterS_mono l0 wo k _ _) (LeO.ite (afterS_mono l0 wo k _ _) (LeO.ite (LeO.refl _) (LeO.bind (spec_l07Next.mono _ _ _) fun _ => LeO.ite (afterS_mono l0 wo k _ _) (LeO.none _))))) (LeO.none _)
def spec_l08After.f (k : Nat) (l0 : List S53) (a1 : Int) (a2 : Int) : Option Bool := if a1 = a2 then some true else if l0.length ≤ 1048576 then afterS l0 a2 k (List.replicate (l0.length + 1) false) [a1] else none
theorem spec_l08After.mono : ∀ a0 a1 a2 k, LeO (spec_l08After.f k a0 a1 a2) (spec_l08After.f (k + 1) a0 a1 a2) := by
  intro a0 a1 a2 k
  unfold spec_l08After.f
  exact LeO.ite (LeO.refl _) (LeO.ite (afterS_mono _ _ _ _ _) (LeO.none _))
set_option maxHeartbeats 4000000 in
set_option maxRecDepth 100000 in
theorem spec_l08After.calls (k : Nat) (A0 : Option Addr) (c0 : Nat) (l0 : List S53) (a1 : Int) (a2 : Int) (r : Bool) (w : World) (hr0 : Kd.C k53 w A0 l0.length l0) (hc0 : l0.length ≤ c0) (h : spec_l08After.f k l0 a1 a2 = some r) :
    Calls Try.prog 65 #[.slice A0 l0.length c0, .int .i64 a1, .int .i64 a2] w fun e w' => e = .returned (.bool r) ∧ Below w.heap.size w w' := by
  unfold spec_l08After.f at h
  by_cases e0 : a1 = a2
  · rw [if_pos e0] at h
    obtain rfl := Option.some.inj h
    have b0 : (a1 == a2) = true := beq_iff_eq.mpr e0
    clear e0 h
    go_enter Try.func65, Try.ntmps65
    go_wp2
    go_ret
    exact ⟨rfl, Below.refl _ _⟩
  rw [if_neg e0] at h
  have b0 : (a1 == a2) = false := beq_eq_false_iff_ne.mpr e0
  clear e0
  by_cases h20 : ¬ l0.length ≤ 1048576
  · rw [if_neg h20] at h; exact absurd h (by simp)
  replace h20 := Decidable.not_not.1 h20
  rw [if_pos h20] at h
  have HL := Aside0.mk h
  have HR0 := Aside0.mk hr0
  have HC0 := Aside0.mk hc0
  have HB := Aside0.mk (Below.refl w.heap.size w)
  clear h hr0 hc0
  have hw1 : IntKind.i64.wrap ((l0.length : Int) + 1) = (l0.length : Int) + 1 := by rw [i64_w]; unfold wrap64; omega
  have hn1 : ((l0.length : Int) + 1).toNat = l0.length + 1 := by omega
  go_enter Try.func65, Try.ntmps65
  go_wp2_with (first
    | ((with_reducible refine gate_dst (N := 16) rfl ?_); refine Kd.R_make Kd.bool _ 4 rfl (N := 16) rfl 48 _ _ rfl ((l0.length : Int) + 1) rfl rfl Try.underlying48 (.bool false) 1 info4 rfl (by decide) (by omega) false (ok := fun _ => True) (okp := fun _ => True) rfl (fun _ hk => hk) trivial (by omega) (by omega) (by exact HB.out) (below_size HB.out) ?_; intro v1 w1 ho1 hb1 _ _; rw [hn1] at ho1; obtain ⟨go, co, eo, hgo, _, _⟩ := Kd.R_form ho1 (by simp); rw [List.length_replicate] at eo; subst eo; have HO := Aside0.mk ho1; have HG := Aside0.mk hgo; clear HB; have HB := Aside0.mk hb1; clear ho1 hb1 hgo)
    | ((with_reducible refine gate_dst (N := 18) rfl ?_); refine Kd.R_lit (Kd.int .i64) _ 3 ?hg (N := 18) ?hd (xs := [a1]) (inner := [.int .i64 a1]) (ok := fun _ => True) (okp := fun _ => True) ?hr ?hp (fun _ hk => hk) trivial HB.out (below_size HB.out) (by simp) ?_; (case hd => rfl); (case hg => rfl); (case hr => first | (go_simp; done) | (go_simp; rfl)); (case hp => exact Reps.one rfl (Reps.none _ _)); intro v12 w2 ho2 hb2 hg2 _; have HQ := Aside0.mk (Kd.Q_of_R ho2); have HO2 := Aside0.mk (Kd.R_grown HO.out hg2 (fun _ _ => by simp)); have HB2 := Aside0.mk hb2; clear hg2 ho2 hb2))
  go_loopg [8, 9] k (fun kq v8 _ wr => ∃ (out : List Bool) (todo : List Int), out.length = l0.length + 1 ∧ Aside0 (afterS l0 a2 kq out todo = some r) ∧ Aside0 (Kd.R Kd.bool 4 wr w.heap.size (fun _ => True) (.slice (some ⟨go, 0, none⟩) (l0.length + 1) co) out) ∧ Aside0 (Kd.Q (Kd.int .i64) 3 wr w.heap.size (fun _ => True) v8 todo) ∧ Aside0 (Below w.heap.size w wr))
  case atStart => exact ⟨_, _, List.length_replicate .., HL, ⟨HO2.out⟩, ⟨HQ.out⟩, ⟨HB2.out⟩⟩
  case round =>
    clear HL HO2 HQ HB2 HO HB
    obtain ⟨out, todo, hol, HA, HO, HQ, HB⟩ := hrel
    cases gk with
    | zero => exact absurd HA.out (by simp [afterS])
    | succ k1 =>
      obtain ⟨A8, c8, e8, _⟩ := Kd.Q_slice HQ.out
      subst e8
      cases todo with
      | nil =>
        obtain rfl := Option.some.inj HA.out
        go_wp2
        go_ret
        exact ⟨rfl, HB.out⟩
      | cons x t =>
        have hpos : decide (((t.length + 1 : Nat) : Int) > 0) = true := decide_eq_true (by omega)
        obtain ⟨ad, ea, hx⟩ := Kd.at_int (Kd.Q_reads' HQ.out).2.2 0 (by omega) (by simp)
        subst ea
        rw [show (0 : Int).toNat = 0 from rfl, Addr.add_zero'] at hx
        replace hx : wr.cell? ad = some (Value.int .i64 x) := hx
        have hq9 : (c8 = 1 ∧ Kd.Q (Kd.int .i64) 3 wr w.heap.size (fun _ => True) (.slice (some ad) t.length 0) t) ∨ (¬ c8 = 1 ∧ Kd.Q (Kd.int .i64) 3 wr w.heap.size (fun _ => True) (.slice (some (ad.add 1)) t.length (c8 - 1)) t) := by
          have hq := Kd.Q_drop (k := 1) HQ.out (by simp)
          by_cases hc : c8 = 1
          · subst hc; exact .inl ⟨rfl, hq⟩
          · rw [if_neg hc] at hq; exact .inr ⟨hc, hq⟩
        have HOL := Aside0.mk hol
        have H := HA.out
        clear HA
        rw [afterS] at H
        rcases hq9 with ⟨hc, hq9⟩ | ⟨hc, hq9⟩
        · subst hc
          have HQ9 := Aside0.mk hq9
          clear hq9
          by_cases hr : 0 ≤ x ∧ x < (out.length : Int)
          · rw [if_pos hr] at H
            rw [hol] at hr
            obtain ⟨hm, hf⟩ := Kd.R_celln false HO.out x hr.1 hr.2
            have q1 : decide (0 ≤ x) = true := decide_eq_true hr.1
            have q2 : decide (x < ((l0.length + 1 : Nat) : Int)) = true := decide_eq_true hr.2
            have q3 : decide (x < (l0.length : Int) + 1) = true := decide_eq_true (by omega)
            have q4 : 0 ≤ x := hr.1
            have q5 : x < (l0.length : Int) + 1 := by omega
            clear hr hol
            by_cases hv : rdOf false out x = true
            · rw [if_pos hv] at H
              have HF := Aside0.mk H
              rw [hv] at hm
              clear hv H
              go_wp2
              go_roundg k1
              case measure => omega
              case rel => exact ⟨out, t, HOL.out, HF, ⟨HO.out⟩, ⟨HQ9.out⟩, ⟨HB.out⟩⟩
            · rw [if_neg hv] at H
              replace hv : rdOf false out x = false := by simpa using hv
              rw [hv] at hm
              clear hv
              by_cases e1 : x = a2
              · rw [if_pos e1] at H
                have HF := Aside0.mk H
                have b1 : (x == a2) = true := beq_iff_eq.mpr e1
                clear e1 H
                go_wp2
                go_roundg k1
                case measure => omega
                case rel => exact ⟨out, t, HOL.out, HF, ⟨HO.out⟩, ⟨HQ9.out⟩, ⟨HB.out⟩⟩
              · rw [if_neg e1] at H
                have b1 : (x == a2) = false := beq_eq_false_iff_ne.mpr e1
                clear e1
                by_cases e2 : x = (l0.length : Int)
                · rw [if_pos e2] at H
                  obtain rfl := Option.some.inj H
                  have b2 : (x == (l0.length : Int)) = true := beq_iff_eq.mpr e2
                  clear e2
                  go_wp2
                  go_ret
                  exact ⟨rfl, HB.out⟩
                · rw [if_neg e2] at H
                  have b2 : (x == (l0.length : Int)) = false := beq_eq_false_iff_ne.mpr e2
                  clear e2
                  obtain ⟨ns, hns, H⟩ := Option.bind_eq_some_iff.mp H
                  have HN := Aside0.mk hns
                  clear hns
                  by_cases hlen : (t.length + ns.length) * 8 ≤ 140737488355328
                  · rw [if_pos hlen] at H
                    have HF := Aside0.mk H
                    have HLEN := Aside0.mk hlen
                    clear H hlen
                    have HP := Aside0.mk (Kd.R_putg HO.out x true)
                    have HS := Aside0.mk (below_set (j := x.toNat) (v := .bool true) HB.out HG.out)
                    have HQ3 := Aside0.mk (Kd.Q_over' HQ9.out (Kd.R_typed HO.out) (by decide) HP.out.2)
                    go_wp2_with (first | (go_at_call 71; (with_reducible refine (spec_l07Next.calls k1 A0 c0 l0 x ns _ (Kd.C_below HR0.out HS.out) HC0.out HN.out).mono ?_); rintro e w4 ⟨v4, rfl, ho4, hb4⟩; obtain ⟨A4, c4, e4⟩ := Kd.R_slice ho4; subst e4; have HQ4 := Aside0.mk (Kd.Q_below HQ3.out hb4); have HO4 := Aside0.mk (Kd.R_below HP.out.1 hb4); have HB4 := Aside0.mk (below_step HS.out hb4); have HN4 := Aside0.mk (Kd.R_reads' ho4).2.2; clear ho4 hb4) | ((with_reducible refine gate_builtin (b := .append) (xs := #[.tmp 43, .tmp 46]) rfl ?_); at_builtin; refine Q_app (w0 := w) w.heap.size rfl (.tmp 43) (.tmp 46) rfl _ t ns A4 ns.length c4 (fun _ => True) rfl rfl HQ4.out HN4.out (fun _ _ => trivial) HB4.out (below_size HB4.out) HLEN.out ?_; intro v5 w5 hq5 hb5 hg5; have HO5 := Aside0.mk (Kd.R_over' HO4.out (Kd.Q_typed HQ4.out) (by decide) hg5); have HQ5 := Aside0.mk hq5; have HB5 := Aside0.mk hb5; clear hq5 hb5 hg5))
                    go_roundg k1
                    case measure => omega
                    case rel => exact ⟨out.set x.toNat true, t ++ ns, by rw [List.length_set]; exact HOL.out, HF, ⟨HO5.out⟩, ⟨HQ5.out⟩, ⟨HB5.out⟩⟩
                  · rw [if_neg hlen] at H
                    exact absurd H (by simp)
          · rw [if_neg hr] at H
            exact absurd H (by simp)
        · have HQ9 := Aside0.mk hq9
          clear hq9
          by_cases hr : 0 ≤ x ∧ x < (out.length : Int)
          · rw [if_pos hr] at H
            rw [hol] at hr
            obtain ⟨hm, hf⟩ := Kd.R_celln false HO.out x hr.1 hr.2
            have q1 : decide (0 ≤ x) = true := decide_eq_true hr.1
            have q2 : decide (x < ((l0.length + 1 : Nat) : Int)) = true := decide_eq_true hr.2
            have q3 : decide (x < (l0.length : Int) + 1) = true := decide_eq_true (by omega)
            have q4 : 0 ≤ x := hr.1
            have q5 : x < (l0.length : Int) + 1 := by omega
            clear hr hol
            by_cases hv : rdOf false out x = true
            · rw [if_pos hv] at H
              have HF := Aside0.mk H
              rw [hv] at hm
              clear hv H
              go_wp2
              go_roundg k1
              case measure => omega
              case rel => exact ⟨out, t, HOL.out, HF, ⟨HO.out⟩, ⟨HQ9.out⟩, ⟨HB.out⟩⟩
            · rw [if_neg hv] at H
              replace hv : rdOf false out x = false := by simpa using hv
              rw [hv] at hm
              clear hv
              by_cases e1 : x = a2
              · rw [if_pos e1] at H
                have HF := Aside0.mk H
                have b1 : (x == a2) = true := beq_iff_eq.mpr e1
                clear e1 H
                go_wp2
                go_roundg k1
                case measure => omega
                case rel => exact ⟨out, t, HOL.out, HF, ⟨HO.out⟩, ⟨HQ9.out⟩, ⟨HB.out⟩⟩
              · rw [if_neg e1] at H
                have b1 : (x == a2) = false := beq_eq_false_iff_ne.mpr e1
                clear e1
                by_cases e2 : x = (l0.length : Int)
                · rw [if_pos e2] at H
                  obtain rfl := Option.some.inj H
                  have b2 : (x == (l0.length : Int)) = true := beq_iff_eq.mpr e2
                  clear e2
                  go_wp2
                  go_ret
                  exact ⟨rfl, HB.out⟩
                · rw [if_neg e2] at H
                  have b2 : (x == (l0.length : Int)) = false := beq_eq_false_iff_ne.mpr e2
                  clear e2
                  obtain ⟨ns, hns, H⟩ := Option.bind_eq_some_iff.mp H
                  have HN := Aside0.mk hns
                  clear hns
                  by_cases hlen : (t.length + ns.length) * 8 ≤ 140737488355328
                  · rw [if_pos hlen] at H
                    have HF := Aside0.mk H
                    have HLEN := Aside0.mk hlen
                    clear H hlen
                    have HP := Aside0.mk (Kd.R_putg HO.out x true)
                    have HS := Aside0.mk (below_set (j := x.toNat) (v := .bool true) HB.out HG.out)
                    have HQ3 := Aside0.mk (Kd.Q_over' HQ9.out (Kd.R_typed HO.out) (by decide) HP.out.2)
                    go_wp2_with (first | (go_at_call 71; (with_reducible refine (spec_l07Next.calls k1 A0 c0 l0 x ns _ (Kd.C_below HR0.out HS.out) HC0.out HN.out).mono ?_); rintro e w4 ⟨v4, rfl, ho4, hb4⟩; obtain ⟨A4, c4, e4⟩ := Kd.R_slice ho4; subst e4; have HQ4 := Aside0.mk (Kd.Q_below HQ3.out hb4); have HO4 := Aside0.mk (Kd.R_below HP.out.1 hb4); have HB4 := Aside0.mk (below_step HS.out hb4); have HN4 := Aside0.mk (Kd.R_reads' ho4).2.2; clear ho4 hb4) | ((with_reducible refine gate_builtin (b := .append) (xs := #[.tmp 43, .tmp 46]) rfl ?_); at_builtin; refine Q_app (w0 := w) w.heap.size rfl (.tmp 43) (.tmp 46) rfl _ t ns A4 ns.length c4 (fun _ => True) rfl rfl HQ4.out HN4.out (fun _ _ => trivial) HB4.out (below_size HB4.out) HLEN.out ?_; intro v5 w5 hq5 hb5 hg5; have HO5 := Aside0.mk (Kd.R_over' HO4.out (Kd.Q_typed HQ4.out) (by decide) hg5); have HQ5 := Aside0.mk hq5; have HB5 := Aside0.mk hb5; clear hq5 hb5 hg5))
                    go_roundg k1
                    case measure => omega
                    case rel => exact ⟨out.set x.toNat true, t ++ ns, by rw [List.length_set]; exact HOL.out, HF, ⟨HO5.out⟩, ⟨HQ5.out⟩, ⟨HB5.out⟩⟩
                  · rw [if_neg hlen] at H
                    exact absurd H (by simp)
          · rw [if_neg hr] at H
            exact absurd H (by simp)

/-! ### spec_AftersOf: function 31 -/
def spec_AftersOf.l0 : Nat → List (S53) → Int → List Int → Int → Option (List Int)
  | 0, _, _, _, _ => none
  | k + 1, x0, x1, x5, x6 => if x6 ≤ (x0.length : Int) then ((spec_l08After.f k x0 x1 x6).bind fun t330 => (if t330 = true then (if x5.length < 17592186044416 then (spec_AftersOf.l0 k x0 x1 (x5 ++ [x6]) (wrap64 (x6 + 1))) else (none)) else (spec_AftersOf.l0 k x0 x1 x5 (wrap64 (x6 + 1))))) else (some x5)
def spec_AftersOf.f (k : Nat) (l0 : List (S53)) (a1 : Int) : Option (List Int) := (some (([] : List Int) : List Int)).bind fun y326 => ((spec_ReachesExit.f k l0 a1).bind fun t329 => (if t329 = true then (spec_AftersOf.l0 k l0 a1 y326 0) else (some y326)))
theorem spec_AftersOf.mono_l : ∀ k, (∀ y0 y1 y2 y3, LeO (spec_AftersOf.l0 k y0 y1 y2 y3) (spec_AftersOf.l0 (k + 1) y0 y1 y2 y3))
  | 0 => fun _ _ _ _ r h => by simp [spec_AftersOf.l0] at h
  | k + 1 => by
    have ih0 := spec_AftersOf.mono_l k
    · intro y0 y1 y2 y3
      unfold spec_AftersOf.l0
      repeat' first
      | (with_reducible exact ih0 _ _ _ _)
      | (with_reducible exact spec_ReachesExit.mono _ _ _)
      | (with_reducible exact spec_l08After.mono _ _ _ _)
      | (with_reducible exact LeO.refl _)
      | (with_reducible exact LeO.none _)
      | (with_reducible refine LeO.ite ?_ ?_)
      | (with_reducible refine LeO.bind ?_ (fun _ => ?_))
      | exact ih0 _ _ _ _
      | exact spec_ReachesExit.mono _ _ _
      | exact spec_l08After.mono _ _ _ _
      | exact LeO.none _
      | refine LeO.ite ?_ ?_
      | refine LeO.bind ?_ (fun _ => ?_)
theorem spec_AftersOf.mono : ∀ a0 a1 k, LeO (spec_AftersOf.f k a0 a1) (spec_AftersOf.f (k + 1) a0 a1) := by
  intro a0 a1 k
  have ih0 := spec_AftersOf.mono_l k
  unfold spec_AftersOf.f
  repeat' first
      | (with_reducible exact ih0 _ _ _ _)
      | (with_reducible exact spec_ReachesExit.mono _ _ _)
      | (with_reducible exact spec_l08After.mono _ _ _ _)
      | (with_reducible exact LeO.refl _)
      | (with_reducible exact LeO.none _)
      | (with_reducible refine LeO.ite ?_ ?_)
      | (with_reducible refine LeO.bind ?_ (fun _ => ?_))
      | exact ih0 _ _ _ _
      | exact spec_ReachesExit.mono _ _ _
      | exact spec_l08After.mono _ _ _ _
      | exact LeO.none _
      | refine LeO.ite ?_ ?_
      | refine LeO.bind ?_ (fun _ => ?_)
set_option maxHeartbeats 8000000 in
set_option maxRecDepth 100000 in
theorem spec_AftersOf.calls (k : Nat) (A0 : Option Addr) (c0 : Nat) (l0 : List (S53)) (a1 : Int) (r : List Int) (w : World) (hr0 : Kd.C k53 w A0 l0.length l0) (hc0 : l0.length ≤ c0) (h : spec_AftersOf.f k l0 a1 = some r) :
    Calls Try.prog 31 #[.slice A0 l0.length c0, .int .i64 a1] w fun e w' => ∃ v0_ : Value, e = .returned (v0_) ∧ Kd.R (Kd.int .i64) 3 w' w.heap.size (fun _ => True) v0_ r ∧ Below w.heap.size w w' := by
  have HR0 := Aside0.mk hr0
  have HC0 := Aside0.mk hc0
  clear hr0 hc0
  have HB := Aside0.mk (Below.refl w.heap.size w)
  have H : ((some (([] : List Int) : List Int)).bind fun y326 => ((spec_ReachesExit.f k l0 a1).bind fun t329 => (if t329 = true then (spec_AftersOf.l0 k l0 a1 y326 0) else (some y326)))) = some r := h
  clear h
  obtain ⟨y326, hy326⟩ : ∃ y_ : List Int, y_ = (([] : List Int)) := ⟨_, rfl⟩
  replace H : ((spec_ReachesExit.f k l0 a1).bind fun t329 => (if t329 = true then (spec_AftersOf.l0 k l0 a1 y326 0) else (some y326))) = some r := by first | (rw [hy326]; with_reducible exact H) | (have H2_ := (Option.bind_some _ _).symm.trans H; rw [hy326]; with_reducible exact H2_) | (have H2_ := (Option.bind_some _ _).symm.trans H; with_reducible exact H2_) | with_reducible exact H | (rw [hy326]; exact H) | exact H
  have Ny326 := Aside0.mk hy326
  clear hy326
  replace H := Option.bind_eq_some_iff.mp H
  obtain ⟨t329, A30, H⟩ := H
  replace H : (if t329 = true then (spec_AftersOf.l0 k l0 a1 y326 0) else (some y326)) = some r := H
  have A3 := Aside0.mk A30
  clear A30
  by_cases c4 : t329 = true
  · subst c4
    have H1 : (spec_AftersOf.l0 k l0 a1 y326 0) = some r := by rw [if_pos rfl] at H; exact H
    clear H
    have H := H1
    clear H1
    have H' := Aside0.mk H
    clear H
    go_enter Try.func31, Try.ntmps31
    go_wp2_with (first | ((with_reducible refine gate_dst (N := 7) rfl ?_); refine Kd.R_lit (Kd.int .i64) _ 3 ?hg (N := 7) ?hd (xs := ([] : List Int)) (inner := []) (ok := fun _ => True) (okp := fun _ => True) ?hr ?hp (fun _ hk => hk) trivial (Below.refl _ _) (Nat.le_refl _) (by simp) ?_; (case hd => rfl); (case hg => rfl); (case hr => first | (go_simp; done) | (go_simp; rfl)); (case hp => exact (Reps.none _ _)); intro v327 w5 ho6 hb hg_ hnew_; clear hg_ hnew_; (first | rw [← Ny326.out] at ho6 | (simp only [Int.reduceToNat] at ho6; rw [← Ny326.out] at ho6)); have n0_ := Aside0.mk (Kd.R_lower ho6 (below_size (by repeat (first | (with_reducible first | exact HB.out | apply below_alloc | apply pw_below_drewN | apply below_drew1) | exact HB.out)))); have n1_ := Aside0.mk (below_step (by repeat (first | (with_reducible first | exact HB.out | apply below_alloc | apply pw_below_drewN | apply below_drew1) | exact HB.out)) hb); clear HB; have HO328 := n0_; have HB := n1_; clear n0_ n1_; clear hb ho6) | ((with_reducible refine gate_callee (f := 64) rfl ?_); refine goesL_ (some 10) rfl rfl Try.func64 (by kernel_rfl) rfl #[.slice A0 l0.length c0, .int .i64 a1] rfl (by (try simp only [List.map_toArray, List.map_cons, List.map_nil]); first | done | rfl | (simp only [List.length_drop, List.length_take]; rfl)) ?_; (with_reducible refine (spec_ReachesExit.calls k _ _ l0 a1 true _ ?side1 ?side2 A3.out).mono ?_); (case side1 => repeat (first | exact (Kd.C_below HR0.out HB.out) | (with_reducible refine Kd.C_alloc ?_ _) | (with_reducible refine Kd.C_drewN ?_ _) | (with_reducible refine Kd.C_drew ?_))); (case side2 => exact HC0.out); rintro e w7 ⟨rfl, hb⟩; refine ⟨_, rfl, ?_⟩; have n0_ := Aside0.mk (Kd.R_below (by (with_reducible repeat (first | apply Kd.R_alloc | apply Kd.R_drewN | apply Kd.R_drew)); exact HO328.out) hb); have n1_ := Aside0.mk (below_step (by repeat (first | (with_reducible first | exact HB.out | apply below_alloc | apply pw_below_drewN | apply below_drew1) | exact HB.out)) hb); clear HO328; clear HB; have HO328 := n0_; have HB := n1_; clear n0_ n1_; (try clear hb); (try clear hb2); (try clear hk); (try clear hi)))
    go_loopg [5, 6] k (fun kq v5 v6 w' => ∃ (x5_1 : List Int) (x6_1 : Int), v6 = .int .i64 x6_1 ∧ Aside0 (spec_AftersOf.l0 kq l0 a1 x5_1 x6_1 = some r) ∧ Aside0 (kq ≤ k) ∧ Aside0 (Kd.R (Kd.int .i64) 3 w' w.heap.size (fun _ => True) v5 x5_1) ∧ Aside0 (Below w.heap.size w w'))
    case atStart => exact ⟨(y326), (0), (by first | rfl | (simp; done) | (simp [*]; done)), H', ⟨Nat.le_refl _⟩, ⟨by (with_reducible repeat (first | apply Kd.R_alloc | apply Kd.R_drewN | apply Kd.R_drew)); exact HO328.out⟩, ⟨by repeat (first | (with_reducible first | exact HB.out | apply below_alloc | apply pw_below_drewN | apply below_drew1) | exact HB.out)⟩⟩
    case round =>
      clear H'
      try clear p2
      try clear c3
      try clear c4
      try clear c6
      obtain ⟨x5_1, x6_1, rfl, HA, HK1, HO_5, HB⟩ := hrel
      cases gk with
      | zero => exact absurd HA.out (by simp [spec_AftersOf.l0])
      | succ k1 =>
        have H := HA.out
        clear HA
        simp only [spec_AftersOf.l0] at H
        by_cases c8 : x6_1 ≤ (l0.length : Int)
        · rw [if_pos c8] at H
          have c8b0 : decide (x6_1 ≤ (l0.length : Int)) = true := decide_eq_true c8
          clear c8
          replace H := Option.bind_eq_some_iff.mp H
          obtain ⟨t330, A90, H⟩ := H
          replace H : (if t330 = true then (if x5_1.length < 17592186044416 then (spec_AftersOf.l0 k1 l0 a1 (x5_1 ++ [x6_1]) (wrap64 (x6_1 + 1))) else (none)) else (spec_AftersOf.l0 k1 l0 a1 x5_1 (wrap64 (x6_1 + 1)))) = some r := H
          have A9 := Aside0.mk A90
          clear A90
          by_cases c10 : t330 = true
          · subst c10
            have H1 : (if x5_1.length < 17592186044416 then (spec_AftersOf.l0 k1 l0 a1 (x5_1 ++ [x6_1]) (wrap64 (x6_1 + 1))) else (none)) = some r := by rw [if_pos rfl] at H; exact H
            clear H
            have H := H1
            clear H1
            by_cases c11 : x5_1.length < 17592186044416
            · rw [if_pos c11] at H
              have LMc11 := Aside0.mk c11
              clear c11
              obtain ⟨y331, hy331⟩ : ∃ y_ : List Int, y_ = (x5_1 ++ [x6_1]) := ⟨_, rfl⟩
              replace H : (spec_AftersOf.l0 k1 l0 a1 y331 (wrap64 (x6_1 + 1))) = some r := by first | (rw [hy331]; with_reducible exact H) | (have H2_ := (Option.bind_some _ _).symm.trans H; rw [hy331]; with_reducible exact H2_) | (have H2_ := (Option.bind_some _ _).symm.trans H; with_reducible exact H2_) | with_reducible exact H | (rw [hy331]; exact H) | exact H
              have Ny331 := Aside0.mk hy331
              clear hy331
              have H' := Aside0.mk H
              clear H
              go_wp2_with (first | ((with_reducible refine gate_callee (f := 65) rfl ?_); refine goesL_ (some 22) rfl rfl Try.func65 (by kernel_rfl) rfl #[.slice A0 l0.length c0, .int .i64 a1, .int .i64 x6_1] rfl (by (try simp only [List.map_toArray, List.map_cons, List.map_nil]); first | done | rfl | (simp only [List.length_drop, List.length_take]; rfl)) ?_; (with_reducible refine (spec_l08After.calls k1 _ _ l0 a1 x6_1 true _ ?side1 ?side2 A9.out).mono ?_); (case side1 => repeat (first | exact (Kd.C_below HR0.out HB.out) | (with_reducible refine Kd.C_alloc ?_ _) | (with_reducible refine Kd.C_drewN ?_ _) | (with_reducible refine Kd.C_drew ?_))); (case side2 => exact HC0.out); rintro e w12 ⟨rfl, hb⟩; refine ⟨_, rfl, ?_⟩; have n0_ := Aside0.mk (Kd.R_below (by (with_reducible repeat (first | apply Kd.R_alloc | apply Kd.R_drewN | apply Kd.R_drew)); exact HO_5.out) hb); have n1_ := Aside0.mk (below_step (by repeat (first | (with_reducible first | exact HB.out | apply below_alloc | apply pw_below_drewN | apply below_drew1) | exact HB.out)) hb); clear HO_5; clear HB; have HO_5 := n0_; have HB := n1_; clear n0_ n1_; (try clear hb); (try clear hb2); (try clear hk); (try clear hi)) | ((with_reducible refine gate_builtin (b := .append) (xs := #[.tmp 23, .tmp 25]) rfl ?_); at_builtin; refine Kd.R_append (Kd.int .i64) (w0 := w) w.heap.size rfl (.tmp 23) (.tmp 25) 26 3 (.int .i64 0) 8 rfl Try.underlying26 info3 rfl (by decide) (by omega) u5 x5_1 x6_1 [.int .i64 x6_1] (fun _ => True) (fun _ => False) rfl rfl ?aP (fun _ hk => hk.elim) ?aF ?aO ?aB ?aS ?aL ?_; (case aP => exact rfl); (case aB => exact (by repeat (first | (with_reducible first | exact HB.out | apply below_alloc | apply pw_below_drewN | apply below_drew1) | exact HB.out))); (case aF => exact (fun _ _ => trivial)); (case aO => exact (by (with_reducible repeat (first | apply Kd.R_alloc | apply Kd.R_drewN | apply Kd.R_drew)); exact HO_5.out)); (case aS => exact (below_size (by repeat (first | (with_reducible first | exact HB.out | apply below_alloc | apply pw_below_drewN | apply below_drew1) | exact HB.out)))); (case aL => have := LMc11.out; omega); intro v332 w13 ho hb hg hat; rw [← Ny331.out] at ho; have n0_ := Aside0.mk (hb); have n1_ := Aside0.mk (ho); clear HB; clear HO_5; have HB := n0_; have HO333 := n1_; clear n0_ n1_; clear ho hb hg hat))
              go_roundg k1
              case measure => have := HK1.out; omega
              case rel => exact ⟨(y331), (wrap64 (x6_1 + 1)), (by first | rfl | (simp; done) | (simp [*]; done)), H', ⟨by have := HK1.out; omega⟩, ⟨by (with_reducible repeat (first | apply Kd.R_alloc | apply Kd.R_drewN | apply Kd.R_drew)); exact HO333.out⟩, ⟨by repeat (first | (with_reducible first | exact HB.out | apply below_alloc | apply pw_below_drewN | apply below_drew1) | exact HB.out)⟩⟩
            · rw [if_neg c11] at H
              exact absurd H (by simp)
          · replace c10 := Bool.eq_false_iff.mpr c10
            subst c10
            have H1 : (spec_AftersOf.l0 k1 l0 a1 x5_1 (wrap64 (x6_1 + 1))) = some r := by rw [if_neg (show ¬ (false = true) by decide)] at H; exact H
            clear H
            have H := H1
            clear H1
            have H' := Aside0.mk H
            clear H
            go_wp2_with (first | ((with_reducible refine gate_callee (f := 65) rfl ?_); refine goesL_ (some 22) rfl rfl Try.func65 (by kernel_rfl) rfl #[.slice A0 l0.length c0, .int .i64 a1, .int .i64 x6_1] rfl (by (try simp only [List.map_toArray, List.map_cons, List.map_nil]); first | done | rfl | (simp only [List.length_drop, List.length_take]; rfl)) ?_; (with_reducible refine (spec_l08After.calls k1 _ _ l0 a1 x6_1 false _ ?side1 ?side2 A9.out).mono ?_); (case side1 => repeat (first | exact (Kd.C_below HR0.out HB.out) | (with_reducible refine Kd.C_alloc ?_ _) | (with_reducible refine Kd.C_drewN ?_ _) | (with_reducible refine Kd.C_drew ?_))); (case side2 => exact HC0.out); rintro e w14 ⟨rfl, hb⟩; refine ⟨_, rfl, ?_⟩; have n0_ := Aside0.mk (Kd.R_below (by (with_reducible repeat (first | apply Kd.R_alloc | apply Kd.R_drewN | apply Kd.R_drew)); exact HO_5.out) hb); have n1_ := Aside0.mk (below_step (by repeat (first | (with_reducible first | exact HB.out | apply below_alloc | apply pw_below_drewN | apply below_drew1) | exact HB.out)) hb); clear HO_5; clear HB; have HO_5 := n0_; have HB := n1_; clear n0_ n1_; (try clear hb); (try clear hb2); (try clear hk); (try clear hi)))
            go_roundg k1
            case measure => have := HK1.out; omega
            case rel => exact ⟨(x5_1), (wrap64 (x6_1 + 1)), (by first | rfl | (simp; done) | (simp [*]; done)), H', ⟨by have := HK1.out; omega⟩, ⟨by (with_reducible repeat (first | apply Kd.R_alloc | apply Kd.R_drewN | apply Kd.R_drew)); exact HO_5.out⟩, ⟨by repeat (first | (with_reducible first | exact HB.out | apply below_alloc | apply pw_below_drewN | apply below_drew1) | exact HB.out)⟩⟩
        · rw [if_neg c8] at H
          have c8b0 : decide (x6_1 ≤ (l0.length : Int)) = false := decide_eq_false c8
          clear c8
          obtain rfl := Option.some.inj H
          go_wp2
          go_ret
          exact ⟨_, by first | rfl | (simp [errW_none, errW_some] <;> rfl) | (simp [*, errW_none, errW_some] <;> rfl), by (with_reducible repeat (first | apply Kd.R_alloc | apply Kd.R_drewN | apply Kd.R_drew)); exact HO_5.out, by repeat (first | (with_reducible first | exact HB.out | apply below_alloc | apply pw_below_drewN | apply below_drew1) | exact HB.out)⟩
  · replace c4 := Bool.eq_false_iff.mpr c4
    subst c4
    have H1 : (some y326) = some r := by rw [if_neg (show ¬ (false = true) by decide)] at H; exact H
    clear H
    have H := H1
    clear H1
    obtain rfl := Option.some.inj H
    go_enter Try.func31, Try.ntmps31
    go_wp2_with (first | ((with_reducible refine gate_dst (N := 7) rfl ?_); refine Kd.R_lit (Kd.int .i64) _ 3 ?hg (N := 7) ?hd (xs := ([] : List Int)) (inner := []) (ok := fun _ => True) (okp := fun _ => True) ?hr ?hp (fun _ hk => hk) trivial (Below.refl _ _) (Nat.le_refl _) (by simp) ?_; (case hd => rfl); (case hg => rfl); (case hr => first | (go_simp; done) | (go_simp; rfl)); (case hp => exact (Reps.none _ _)); intro v327 w15 ho16 hb hg_ hnew_; clear hg_ hnew_; (first | rw [← Ny326.out] at ho16 | (simp only [Int.reduceToNat] at ho16; rw [← Ny326.out] at ho16)); have n0_ := Aside0.mk (Kd.R_lower ho16 (below_size (by repeat (first | (with_reducible first | exact HB.out | apply below_alloc | apply pw_below_drewN | apply below_drew1) | exact HB.out)))); have n1_ := Aside0.mk (below_step (by repeat (first | (with_reducible first | exact HB.out | apply below_alloc | apply pw_below_drewN | apply below_drew1) | exact HB.out)) hb); clear HB; have HO328 := n0_; have HB := n1_; clear n0_ n1_; clear hb ho16) | ((with_reducible refine gate_callee (f := 64) rfl ?_); refine goesL_ (some 10) rfl rfl Try.func64 (by kernel_rfl) rfl #[.slice A0 l0.length c0, .int .i64 a1] rfl (by (try simp only [List.map_toArray, List.map_cons, List.map_nil]); first | done | rfl | (simp only [List.length_drop, List.length_take]; rfl)) ?_; (with_reducible refine (spec_ReachesExit.calls k _ _ l0 a1 false _ ?side1 ?side2 A3.out).mono ?_); (case side1 => repeat (first | exact (Kd.C_below HR0.out HB.out) | (with_reducible refine Kd.C_alloc ?_ _) | (with_reducible refine Kd.C_drewN ?_ _) | (with_reducible refine Kd.C_drew ?_))); (case side2 => exact HC0.out); rintro e w17 ⟨rfl, hb⟩; refine ⟨_, rfl, ?_⟩; have n0_ := Aside0.mk (Kd.R_below (by (with_reducible repeat (first | apply Kd.R_alloc | apply Kd.R_drewN | apply Kd.R_drew)); exact HO328.out) hb); have n1_ := Aside0.mk (below_step (by repeat (first | (with_reducible first | exact HB.out | apply below_alloc | apply pw_below_drewN | apply below_drew1) | exact HB.out)) hb); clear HO328; clear HB; have HO328 := n0_; have HB := n1_; clear n0_ n1_; (try clear hb); (try clear hb2); (try clear hk); (try clear hi)))
    go_ret
    exact ⟨_, by first | rfl | (simp [errW_none, errW_some] <;> rfl) | (simp [*, errW_none, errW_some] <;> rfl), by (with_reducible repeat (first | apply Kd.R_alloc | apply Kd.R_drewN | apply Kd.R_drew)); exact HO328.out, by repeat (first | (with_reducible first | exact HB.out | apply below_alloc | apply pw_below_drewN | apply below_drew1) | exact HB.out)⟩

end Go.Proofs.Ytbgpnendblmdaaa.PFnExactIsForward
