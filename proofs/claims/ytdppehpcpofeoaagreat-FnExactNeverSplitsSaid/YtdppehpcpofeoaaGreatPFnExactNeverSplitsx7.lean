-- Written by myprint.py (a program of this session, over the kit's print): not trusted, Lean checks it.
import Derived.Test.YtdppehpcpofeoaaGreatPFnExactNeverSplitsx0
import Derived.Test.YtdppehpcpofeoaaGreatPFnExactNeverSplitsx3
import Derived.Test.YtdppehpcpofeoaaGreatPFnExactNeverSplitsx4
import Derived.Test.YtdppehpcpofeoaaGreatPFnExactNeverSplitsx5
import Derived.Test.YtdppehpcpofeoaaGreatPFnExactNeverSplitsx6
namespace Go.Proofs.YtdppehpcpofeoaaGreat.PFnExactNeverSplits
open Go.RowKit Go.Proofs.YtdppehpcpofeoaaGreatW.PrintWords Go.Proofs.YtdppehpcpofeoaaGreatW.PrintLast Go.Proofs.YtdppehpcpofeoaaGreatW.PrintMore
attribute [local go_sem] max2_int min2_int max_two min_two max_three min_three max_four min_four   -- for this text's walks alone
set_option linter.unusedVariables false
set_option linter.unusedSimpArgs false

/-! ### spec_l07Marked: function 57 -/
def spec_l07Marked.l0 : Nat → List Bool → List Int → Int → Option (List Int)
 | 0, _, _, _ => none
 | k + 1, x0, x3, x4 => if x4 < (x0.length : Int) then (if 0 ≤ x4 then (if rdOf false x0 x4 = true then (if x3.length < 17592186044416 then (spec_l07Marked.l0 k x0 (x3 ++ [x4]) (wrap64 (x4 + 1))) else (none)) else (spec_l07Marked.l0 k x0 x3 (wrap64 (x4 + 1)))) else (none)) else (some x3)
def spec_l07Marked.f (k : Nat) (l0 : List Bool) : Option (List Int) := spec_l07Marked.l0 k l0 (([] : List Int)) 0
theorem spec_l07Marked.mono_l : ∀ k, (∀ y0 y1 y2, LeO (spec_l07Marked.l0 k y0 y1 y2) (spec_l07Marked.l0 (k + 1) y0 y1 y2))
 | 0 => fun _ _ _ r h => by simp [spec_l07Marked.l0] at h
 | k + 1 => by
  have ih0 := spec_l07Marked.mono_l k
  ·intro y0 y1 y2
   unfold spec_l07Marked.l0
   repeat' first
   | (with_reducible exact ih0 _ _ _)
   | (with_reducible exact LeO.refl _)
   | (with_reducible exact LeO.none _)
   | (with_reducible refine LeO.ite ?_ ?_)
   | (with_reducible refine LeO.bind ?_ (fun _ => ?_))
   | exact ih0 _ _ _
   | exact LeO.none _
   | refine LeO.ite ?_ ?_
   | refine LeO.bind ?_ (fun _ => ?_)
theorem spec_l07Marked.mono : ∀ a0 k, LeO (spec_l07Marked.f k a0) (spec_l07Marked.f (k + 1) a0) := by
 intro a0 k
 have ih0 := spec_l07Marked.mono_l k
 unfold spec_l07Marked.f
 repeat' first
   | (with_reducible exact ih0 _ _ _)
   | (with_reducible exact LeO.refl _)
   | (with_reducible exact LeO.none _)
   | (with_reducible refine LeO.ite ?_ ?_)
   | (with_reducible refine LeO.bind ?_ (fun _ => ?_))
   | exact ih0 _ _ _
   | exact LeO.none _
   | refine LeO.ite ?_ ?_
   | refine LeO.bind ?_ (fun _ => ?_)
set_option maxHeartbeats 8000000 in
set_option maxRecDepth 100000 in
theorem spec_l07Marked.calls (k : Nat) (A0 : Option Addr) (c0 : Nat) (l0 : List Bool) (r : List Int) (w : World) (hr0 : Kd.C Kd.bool w A0 l0.length l0) (hc0 : l0.length ≤ c0) (h : spec_l07Marked.f k l0 = some r) :
  Calls Tryz.prog 57 #[.slice A0 l0.length c0] w fun e w' => ∃ v0_ : Value, e = .returned (v0_) ∧ Kd.R (Kd.int .i64) 3 w' w.heap.size (fun _ => True) v0_ r ∧ Below w.heap.size w w' := by
 have HR0 := Aside0.mk hr0
 have HC0 := Aside0.mk hc0
 clear hr0 hc0
 have HB := Aside0.mk (Below.refl w.heap.size w)
 have H : (spec_l07Marked.l0 k l0 (([] : List Int)) 0) = some r := h
 clear h
 obtain ⟨y299, hy299⟩ : ∃ y_ : List Int, y_ = (([] : List Int)) := ⟨_, rfl⟩
 replace H : (spec_l07Marked.l0 k l0 y299 0) = some r := rP hy299 H
 have Ny299 := Aside0.mk hy299
 clear hy299
 have H' := Aside0.mk H
 clear H
 go_enter Tryz.func57, Tryz.ntmps57
 go_wp2_with (first | ((with_reducible refine gate_dst (N := 5) rfl ?_); refine Kd.R_lit (Kd.int .i64) _ 3 ?hg (N := 5) ?hd (xs := ([] : List Int)) (inner := []) (ok := fun _ => True) (okp := fun _ => True) ?hr ?hp (fun _ hk => hk) trivial (Below.refl _ _) (Nat.le_refl _) (by simp) ?_; (case hd => rfl); (case hg => rfl); (case hr => first | (go_simp; done) | (go_simp; rfl)); (case hp => exact (Reps.none _ _)); intro v300 w2 ho3 hb hg_ hnew_; clear hg_ hnew_; (first | rw [← Ny299.out] at ho3 | (simp only [Int.reduceToNat] at ho3; rw [← Ny299.out] at ho3)); have HO301 := Aside0.mk (Kd.R_lower ho3 (below_size bw)); replace HB := Aside0.mk (below_step bw hb); clear hb ho3))
 go_loopg [3, 4] k (fun kq v3 v4 w' => ∃ (x3_1 : List Int) (x4_1 : Int), v4 = .int .i64 x4_1 ∧ Aside0 (spec_l07Marked.l0 kq l0 x3_1 x4_1 = some r) ∧ Aside0 (kq ≤ k) ∧ Aside0 (Kd.R (Kd.int .i64) 3 w' w.heap.size (fun _ => True) v3 x3_1) ∧ Aside0 (Below w.heap.size w w'))
 case atStart => exact ⟨(y299), (0), tR, H', ⟨Nat.le_refl _⟩, ⟨rS HO301.out⟩, ⟨bw⟩⟩
 case round =>
  clear H'
  try clear p2
  obtain ⟨x3_1, x4_1, rfl, HA, HK1, HO_3, HB⟩ := hrel
  cases gk with
  | zero => exact absurd HA.out (by simp [spec_l07Marked.l0])
  | succ k1 =>
   have H := HA.out
   clear HA
   simp only [spec_l07Marked.l0] at H
   by_cases c4 : x4_1 < (l0.length : Int)
   ·rw [if_pos c4] at H
    have c4b0 : decide (x4_1 < (l0.length : Int)) = true := decide_eq_true c4
    clear c4
    by_cases c5 : 0 ≤ x4_1
    ·rw [if_pos c5] at H
     have c5b0 : decide (0 ≤ x4_1) = true := decide_eq_true c5
     clear c5
     obtain ⟨bq6, hbq6⟩ : ∃ b_ : Bool, b_ = (rdOf false l0 x4_1) := ⟨_, rfl⟩
     replace H : (if bq6 = true then (if x3_1.length < 17592186044416 then (spec_l07Marked.l0 k1 l0 (x3_1 ++ [x4_1]) (wrap64 (x4_1 + 1))) else (none)) else (spec_l07Marked.l0 k1 l0 x3_1 (wrap64 (x4_1 + 1)))) = some r := by rw [← hbq6] at H; exact H
     have Nbq6 := Aside0.mk hbq6
     clear hbq6
     by_cases c7 : bq6 = true
     ·subst c7
      have H1 : (if x3_1.length < 17592186044416 then (spec_l07Marked.l0 k1 l0 (x3_1 ++ [x4_1]) (wrap64 (x4_1 + 1))) else (none)) = some r := by rw [if_pos rfl] at H; exact H
      clear H
      have H := H1
      clear H1
      by_cases c8 : x3_1.length < 17592186044416
      ·rw [if_pos c8] at H
       have LMc8 := Aside0.mk c8
       clear c8
       obtain ⟨y303, hy303⟩ : ∃ y_ : List Int, y_ = (x3_1 ++ [x4_1]) := ⟨_, rfl⟩
       replace H : (spec_l07Marked.l0 k1 l0 y303 (wrap64 (x4_1 + 1))) = some r := rP hy303 H
       have Ny303 := Aside0.mk hy303
       clear hy303
       have H' := Aside0.mk H
       clear H
       have p302 : 0 ≤ (x4_1 : Int) := dT
       have q302 : x4_1 < (l0.length : Int) := dT
       obtain ⟨ad302, e302, hx302_0⟩ := Kd.at_bool HR0.out x4_1 p302 q302
       (try rw [← Nbq6.out] at hx302_0)
       cases e302
       replace hx302_0 := (HB.out.cell (World.block_lt_of_cell? w _ hx302_0)).trans hx302_0
       replace p302 := eq_true p302
       replace q302 := eq_true q302
       go_wp2_with (first | ((with_reducible refine gate_builtin (b := .append) (xs := #[.tmp 16, .tmp 18]) rfl ?_); at_builtin; refine Kd.R_append (Kd.int .i64) (w0 := w) w.heap.size rfl (.tmp 16) (.tmp 18) 31 3 (.int .i64 0) 8 rfl Tryz.underlying31 info3 rfl (by decide) (by omega) u3 x3_1 x4_1 [.int .i64 x4_1] (fun _ => True) (fun _ => False) rfl rfl ?aP (fun _ hk => hk.elim) ?aF ?aO ?aB ?aS ?aL ?_; (case aP => exact rfl); (case aB => exact bw); (case aF => exact (fun _ _ => trivial)); (case aO => exact (rS HO_3.out)); (case aS => exact (below_size bw)); (case aL => have := LMc8.out; omega); intro v304 w9 ho hb hg hat; rw [← Ny303.out] at ho; replace HB := Aside0.mk (hb); have HO305 := Aside0.mk (ho); clear HO_3; clear ho hb hg hat))
       go_roundg k1
       case measure => have := HK1.out; omega
       case rel => exact ⟨(y303), (wrap64 (x4_1 + 1)), tR, H', ⟨by have := HK1.out; omega⟩, ⟨rS HO305.out⟩, ⟨bw⟩⟩
      ·rw [if_neg c8] at H
       exact absurd H (by simp)
     ·replace c7 := Bool.eq_false_iff.mpr c7
      subst c7
      have H1 : (spec_l07Marked.l0 k1 l0 x3_1 (wrap64 (x4_1 + 1))) = some r := by rw [if_neg (show ¬ (false = true) by decide)] at H; exact H
      clear H
      have H := H1
      clear H1
      have H' := Aside0.mk H
      clear H
      have p302 : 0 ≤ (x4_1 : Int) := dT
      have q302 : x4_1 < (l0.length : Int) := dT
      obtain ⟨ad302, e302, hx302_0⟩ := Kd.at_bool HR0.out x4_1 p302 q302
      (try rw [← Nbq6.out] at hx302_0)
      cases e302
      replace hx302_0 := (HB.out.cell (World.block_lt_of_cell? w _ hx302_0)).trans hx302_0
      replace p302 := eq_true p302
      replace q302 := eq_true q302
      go_wp2
      go_roundg k1
      case measure => have := HK1.out; omega
      case rel => exact ⟨(x3_1), (wrap64 (x4_1 + 1)), tR, H', ⟨by have := HK1.out; omega⟩, ⟨rS HO_3.out⟩, ⟨bw⟩⟩
    ·rw [if_neg c5] at H
     exact absurd H (by simp)
   ·rw [if_neg c4] at H
    have c4b0 : decide (x4_1 < (l0.length : Int)) = false := decide_eq_false c4
    clear c4
    obtain rfl := Option.some.inj H
    go_wp2
    go_ret
    exact ⟨_, eR, rS HO_3.out, bw⟩

/-! ### spec_InsideOf: function 32 -/
def searchS (l0 : List S38) (wo : Int) : Nat → List Bool → List Int → Option (List Bool)
  | 0, _, _ => none
  | _ + 1, out, [] => some out
  | k + 1, out, x :: t => if 0 ≤ x ∧ x < (out.length : Int) then (if rdOf false out x = true then searchS l0 wo k out t else if x = wo then searchS l0 wo k out t else (spec_l07Next.f k l0 x).bind fun ns => if (t.length + ns.length) * 8 ≤ 140737488355328 then searchS l0 wo k (out.set x.toNat true) (t ++ ns) else none) else none
theorem searchS_mono (l0 : List S38) (wo : Int) : ∀ k out t, LeO (searchS l0 wo k out t) (searchS l0 wo (k + 1) out t)
  | 0, out, t => fun r h => by simp [searchS] at h
  | k + 1, out, [] => LeO.refl _
  | k + 1, out, x :: t => by
    rw [searchS, searchS]
    refine LeO.ite (LeO.ite (searchS_mono l0 wo k _ _) (LeO.ite (searchS_mono l0 wo k _ _) (LeO.bind (spec_l07Next.mono _ _ _) fun _ => LeO.ite (searchS_mono l0 wo k _ _) (LeO.none _)))) (LeO.none _)
def spec_InsideOf.f (k : Nat) (l0 : List S38) (a1 : Int) : Option (List Int) := (spec_BranchesOf.f k l0).bind fun b => (spec_l08Has.f k b a1).bind fun t => if t = true then (if l0.length ≤ 1048576 then (spec_l09Join.f k l0 a1).bind fun j => (spec_l07Next.f k l0 a1).bind fun ns => (searchS l0 j k (List.replicate (l0.length + 1) false) ns).bind fun O => spec_l07Marked.f k O else none) else some []
theorem spec_InsideOf.mono : ∀ a0 a1 k, LeO (spec_InsideOf.f k a0 a1) (spec_InsideOf.f (k + 1) a0 a1) := by
  intro a0 a1 k
  unfold spec_InsideOf.f
  exact LeO.bind (spec_BranchesOf.mono _ _) fun _ => LeO.bind (spec_l08Has.mono _ _ _) fun _ => LeO.ite (LeO.ite (LeO.bind (spec_l09Join.mono _ _ _) fun _ => LeO.bind (spec_l07Next.mono _ _ _) fun _ => LeO.bind (searchS_mono _ _ _ _ _) fun _ => spec_l07Marked.mono _ _) (LeO.none _)) (LeO.refl _)
set_option maxHeartbeats 4000000 in
set_option maxRecDepth 100000 in
theorem spec_InsideOf.calls (k : Nat) (A0 : Option Addr) (c0 : Nat) (l0 : List S38) (a1 : Int) (r : List Int) (w : World) (hr0 : Kd.C k38 w A0 l0.length l0) (hc0 : l0.length ≤ c0) (h : spec_InsideOf.f k l0 a1 = some r) :
    Calls Tryz.prog 32 #[.slice A0 l0.length c0, .int .i64 a1] w fun e w' => ∃ v0_ : Value, e = .returned (v0_) ∧ Kd.R (Kd.int .i64) 3 w' w.heap.size (fun _ => True) v0_ r ∧ Below w.heap.size w w' := by
  unfold spec_InsideOf.f at h
  obtain ⟨b, hb, h⟩ := Option.bind_eq_some_iff.mp h
  obtain ⟨t, ht, h⟩ := Option.bind_eq_some_iff.mp h
  have HBR := Aside0.mk hb
  have HT := Aside0.mk ht
  have HR0 := Aside0.mk hr0
  have HC0 := Aside0.mk hc0
  have HB := Aside0.mk (Below.refl w.heap.size w)
  clear hb ht hr0 hc0
  cases t with
  | false =>
    rw [if_neg (by decide)] at h
    obtain rfl := Option.some.inj h
    clear h
    go_enter Tryz.func32, Tryz.ntmps32
    go_wp2_with (first
      | (go_at_call 21; (with_reducible refine (spec_BranchesOf.calls k A0 c0 l0 b _ (Kd.C_below HR0.out HB.out) HC0.out HBR.out).mono ?_); rintro e w1 ⟨v1, rfl, ho1, hb1⟩; obtain ⟨A1, c1, e1⟩ := Kd.R_slice ho1; subst e1; have HC1 := Aside0.mk (Kd.R_reads' ho1).2; have HB1 := Aside0.mk hb1; clear ho1 hb1)
      | (go_at_call 20; (with_reducible refine (spec_l08Has.calls k A1 c1 b a1 _ _ HC1.out.2 HC1.out.1 HT.out).mono ?_); rintro e w2 ⟨rfl, hb2⟩; have HB2 := Aside0.mk (below_step HB1.out hb2); clear hb2)
      | ((with_reducible refine gate_dst (N := 14) rfl ?_); refine Kd.R_lit (Kd.int .i64) _ 3 ?hg (N := 14) ?hd (xs := ([] : List Int)) (inner := []) (ok := fun _ => True) (okp := fun _ => True) ?hr ?hp (fun _ hk => hk) trivial HB2.out (below_size HB2.out) (by simp) ?_; (case hd => rfl); (case hg => rfl); (case hr => first | (go_simp; done) | (go_simp; rfl)); (case hp => exact (Reps.none _ _)); intro v12 w3 ho3 hb3 hg3 _; have HO3 := Aside0.mk ho3; have HB3 := Aside0.mk hb3; clear hg3 ho3 hb3))
    go_ret
    exact ⟨_, rfl, HO3.out, HB3.out⟩
  | true =>
  rw [if_pos rfl] at h
  by_cases h20 : ¬ l0.length ≤ 1048576
  · rw [if_neg h20] at h; exact absurd h (by simp)
  replace h20 := Decidable.not_not.1 h20
  rw [if_pos h20] at h
  obtain ⟨j, hj, h⟩ := Option.bind_eq_some_iff.mp h
  obtain ⟨n0, hn0, h⟩ := Option.bind_eq_some_iff.mp h
  obtain ⟨O, hO, h⟩ := Option.bind_eq_some_iff.mp h
  have HJ := Aside0.mk hj
  have HN0 := Aside0.mk hn0
  have HL := Aside0.mk hO
  have HM := Aside0.mk h
  clear hj hn0 hO h
  have hw1 : IntKind.i64.wrap ((l0.length : Int) + 1) = (l0.length : Int) + 1 := by rw [i64_w]; unfold wrap64; omega
  have hn1 : ((l0.length : Int) + 1).toNat = l0.length + 1 := by omega
  go_enter Tryz.func32, Tryz.ntmps32
  go_wp2_with (first
    | (go_at_call 21; (with_reducible refine (spec_BranchesOf.calls k A0 c0 l0 b _ (Kd.C_below HR0.out HB.out) HC0.out HBR.out).mono ?_); rintro e w1 ⟨v1, rfl, ho1, hb1⟩; obtain ⟨A1, c1, e1⟩ := Kd.R_slice ho1; subst e1; have HC1 := Aside0.mk (Kd.R_reads' ho1).2; have HB1 := Aside0.mk hb1; clear ho1 hb1)
    | (go_at_call 20; (with_reducible refine (spec_l08Has.calls k A1 c1 b a1 _ _ HC1.out.2 HC1.out.1 HT.out).mono ?_); rintro e w2 ⟨rfl, hb2⟩; have HB2 := Aside0.mk (below_step HB1.out hb2); clear hb2)
    | (go_at_call 34; (with_reducible refine (spec_l09Join.calls k A0 c0 l0 a1 j _ (Kd.C_below HR0.out HB2.out) HC0.out HJ.out).mono ?_); rintro e w3 ⟨rfl, hb3⟩; clear HB; have HB := Aside0.mk (below_step HB2.out hb3); clear hb3)
    | ((with_reducible refine gate_dst (N := 21) rfl ?_); refine Kd.R_make Kd.bool _ 4 rfl (N := 21) rfl 57 _ _ rfl ((l0.length : Int) + 1) rfl rfl Tryz.underlying57 (.bool false) 1 info4 rfl (by decide) (by omega) false (ok := fun _ => True) (okp := fun _ => True) rfl (fun _ hk => hk) trivial (by omega) (by omega) (by exact HB.out) (below_size HB.out) ?_; intro v1 w1 ho1 hb1 _ _; rw [hn1] at ho1; obtain ⟨go, co, eo, hgo, _, _⟩ := Kd.R_form ho1 (by simp); rw [List.length_replicate] at eo; subst eo; have HO := Aside0.mk ho1; have HG := Aside0.mk hgo; clear HB; have HB := Aside0.mk hb1; clear ho1 hb1 hgo)
    | (go_at_call 29; (with_reducible refine (spec_l07Next.calls k A0 c0 l0 a1 n0 _ (Kd.C_below HR0.out HB.out) HC0.out HN0.out).mono ?_); rintro e w5 ⟨v5, rfl, ho5, hb5⟩; have HQ := Aside0.mk (Kd.Q_of_R (Kd.R_lower ho5 (below_size HB.out))); have HO2 := Aside0.mk (Kd.R_below HO.out hb5); have HB5 := Aside0.mk (below_step HB.out hb5); clear ho5 hb5))
  have HB2 := Aside0.mk HB5.out
  clear HB5
  go_loopg [7, 8] k (fun kq v8 _ wr => ∃ (out : List Bool) (todo : List Int), out.length = l0.length + 1 ∧ Aside0 (searchS l0 j kq out todo = some O) ∧ Aside0 (Kd.R Kd.bool 4 wr w.heap.size (fun _ => True) (.slice (some ⟨go, 0, none⟩) (l0.length + 1) co) out) ∧ Aside0 (Kd.Q (Kd.int .i64) 3 wr w.heap.size (fun _ => True) v8 todo) ∧ Aside0 (Below w.heap.size w wr))
  case atStart => exact ⟨_, _, List.length_replicate .., HL, ⟨HO2.out⟩, ⟨HQ.out⟩, ⟨HB2.out⟩⟩
  case round =>
    clear HL HO2 HQ HB2 HO HB
    obtain ⟨out, todo, hol, HA, HO, HQ, HB⟩ := hrel
    cases gk with
    | zero => exact absurd HA.out (by simp [searchS])
    | succ k1 =>
      obtain ⟨A8, c8, e8, _⟩ := Kd.Q_slice HQ.out
      subst e8
      cases todo with
      | nil =>
        have eO := Option.some.inj HA.out
        have hm := HM.out
        rw [← eO] at hm
        have HM1 := Aside0.mk hm
        have HOL := Aside0.mk hol
        clear hm eO hol HA
        go_wp2_with (first
          | (go_at_call 57; have hm := spec_l07Marked.calls k (some ⟨go, 0, none⟩) co out r wr (HOL.out ▸ (Kd.R_reads' HO.out).2.2) (HOL.out ▸ (Kd.R_reads' HO.out).2.1) HM1.out; rw [HOL.out] at hm; (with_reducible refine hm.mono ?_); rintro e w7 ⟨v7, rfl, ho7, hb7⟩; have HO7 := Aside0.mk (Kd.R_lower ho7 (below_size HB.out)); have HB7 := Aside0.mk (below_step HB.out hb7); clear ho7 hb7))
        go_ret
        exact ⟨_, rfl, HO7.out, HB7.out⟩
      | cons x t =>
        have hpos : decide (((t.length + 1 : Nat) : Int) > 0) = true := decide_eq_true (by omega)
        obtain ⟨ad, ea, hx⟩ := Kd.at_int (Kd.Q_reads' HQ.out).2.2 0 (by omega) (by simp)
        subst ea
        rw [show (0 : Int).toNat = 0 from rfl, Addr.add_zero'] at hx
        replace hx : wr.cell? ad = some (Value.int .i64 x) := hx
        have hq9 : (c8 = 1 ∧ Kd.Q (Kd.int .i64) 3 wr w.heap.size (fun _ => True) (.slice (some ad) t.length 0) t) ∨ (¬ c8 = 1 ∧ Kd.Q (Kd.int .i64) 3 wr w.heap.size (fun _ => True) (.slice (some (ad.add 1)) t.length (c8 - 1)) t) := by
          have hq := Kd.Q_drop (k := 1) HQ.out (by simp)
          by_cases hc : c8 = 1
          · subst hc; exact .inl ⟨rfl, hq⟩
          · rw [if_neg hc] at hq; exact .inr ⟨hc, hq⟩
        have HOL := Aside0.mk hol
        have H := HA.out
        clear HA
        rw [searchS] at H
        rcases hq9 with ⟨hc, hq9⟩ | ⟨hc, hq9⟩
        · subst hc
          have HQ9 := Aside0.mk hq9
          clear hq9
          by_cases hr : 0 ≤ x ∧ x < (out.length : Int)
          · rw [if_pos hr] at H
            rw [hol] at hr
            obtain ⟨hm, hf⟩ := Kd.R_celln false HO.out x hr.1 hr.2
            have q1 : decide (0 ≤ x) = true := decide_eq_true hr.1
            have q2 : decide (x < ((l0.length + 1 : Nat) : Int)) = true := decide_eq_true hr.2
            have q3 : decide (x < (l0.length : Int) + 1) = true := decide_eq_true (by omega)
            have q4 : 0 ≤ x := hr.1
            have q5 : x < (l0.length : Int) + 1 := by omega
            clear hr hol
            by_cases hv : rdOf false out x = true
            · rw [if_pos hv] at H
              have HF := Aside0.mk H
              rw [hv] at hm
              clear hv H
              go_wp2
              go_roundg k1
              case measure => omega
              case rel => exact ⟨out, t, HOL.out, HF, ⟨HO.out⟩, ⟨HQ9.out⟩, ⟨HB.out⟩⟩
            · rw [if_neg hv] at H
              replace hv : rdOf false out x = false := by simpa using hv
              rw [hv] at hm
              clear hv
              by_cases e1 : x = j
              · rw [if_pos e1] at H
                have HF := Aside0.mk H
                have b1 : (x == j) = true := beq_iff_eq.mpr e1
                clear e1 H
                go_wp2
                go_roundg k1
                case measure => omega
                case rel => exact ⟨out, t, HOL.out, HF, ⟨HO.out⟩, ⟨HQ9.out⟩, ⟨HB.out⟩⟩
              · rw [if_neg e1] at H
                have b1 : (x == j) = false := beq_eq_false_iff_ne.mpr e1
                clear e1
                obtain ⟨ns, hns, H⟩ := Option.bind_eq_some_iff.mp H
                have HN := Aside0.mk hns
                clear hns
                by_cases hlen : (t.length + ns.length) * 8 ≤ 140737488355328
                · rw [if_pos hlen] at H
                  have HF := Aside0.mk H
                  have HLEN := Aside0.mk hlen
                  clear H hlen
                  have HP := Aside0.mk (Kd.R_putg HO.out x true)
                  have HS := Aside0.mk (below_set (j := x.toNat) (v := .bool true) HB.out HG.out)
                  have HQ3 := Aside0.mk (Kd.Q_over' HQ9.out (Kd.R_typed HO.out) (by decide) HP.out.2)
                  go_wp2_with (first | (go_at_call 29; (with_reducible refine (spec_l07Next.calls k1 A0 c0 l0 x ns _ (Kd.C_below HR0.out HS.out) HC0.out HN.out).mono ?_); rintro e w4 ⟨v4, rfl, ho4, hb4⟩; obtain ⟨A4, c4, e4⟩ := Kd.R_slice ho4; subst e4; have HQ4 := Aside0.mk (Kd.Q_below HQ3.out hb4); have HO4 := Aside0.mk (Kd.R_below HP.out.1 hb4); have HB4 := Aside0.mk (below_step HS.out hb4); have HN4 := Aside0.mk (Kd.R_reads' ho4).2.2; clear ho4 hb4) | ((with_reducible refine gate_builtin (b := .append) (xs := #[.tmp 45, .tmp 48]) rfl ?_); at_builtin; refine Q_app (w0 := w) w.heap.size rfl (.tmp 45) (.tmp 48) rfl _ t ns A4 ns.length c4 (fun _ => True) rfl rfl HQ4.out HN4.out (fun _ _ => trivial) HB4.out (below_size HB4.out) HLEN.out ?_; intro v5 w5 hq5 hb5 hg5; have HO5 := Aside0.mk (Kd.R_over' HO4.out (Kd.Q_typed HQ4.out) (by decide) hg5); have HQ5 := Aside0.mk hq5; have HB5 := Aside0.mk hb5; clear hq5 hb5 hg5))
                  go_roundg k1
                  case measure => omega
                  case rel => exact ⟨out.set x.toNat true, t ++ ns, by rw [List.length_set]; exact HOL.out, HF, ⟨HO5.out⟩, ⟨HQ5.out⟩, ⟨HB5.out⟩⟩
                · rw [if_neg hlen] at H
                  exact absurd H (by simp)
          · rw [if_neg hr] at H
            exact absurd H (by simp)
        · have HQ9 := Aside0.mk hq9
          clear hq9
          by_cases hr : 0 ≤ x ∧ x < (out.length : Int)
          · rw [if_pos hr] at H
            rw [hol] at hr
            obtain ⟨hm, hf⟩ := Kd.R_celln false HO.out x hr.1 hr.2
            have q1 : decide (0 ≤ x) = true := decide_eq_true hr.1
            have q2 : decide (x < ((l0.length + 1 : Nat) : Int)) = true := decide_eq_true hr.2
            have q3 : decide (x < (l0.length : Int) + 1) = true := decide_eq_true (by omega)
            have q4 : 0 ≤ x := hr.1
            have q5 : x < (l0.length : Int) + 1 := by omega
            clear hr hol
            by_cases hv : rdOf false out x = true
            · rw [if_pos hv] at H
              have HF := Aside0.mk H
              rw [hv] at hm
              clear hv H
              go_wp2
              go_roundg k1
              case measure => omega
              case rel => exact ⟨out, t, HOL.out, HF, ⟨HO.out⟩, ⟨HQ9.out⟩, ⟨HB.out⟩⟩
            · rw [if_neg hv] at H
              replace hv : rdOf false out x = false := by simpa using hv
              rw [hv] at hm
              clear hv
              by_cases e1 : x = j
              · rw [if_pos e1] at H
                have HF := Aside0.mk H
                have b1 : (x == j) = true := beq_iff_eq.mpr e1
                clear e1 H
                go_wp2
                go_roundg k1
                case measure => omega
                case rel => exact ⟨out, t, HOL.out, HF, ⟨HO.out⟩, ⟨HQ9.out⟩, ⟨HB.out⟩⟩
              · rw [if_neg e1] at H
                have b1 : (x == j) = false := beq_eq_false_iff_ne.mpr e1
                clear e1
                obtain ⟨ns, hns, H⟩ := Option.bind_eq_some_iff.mp H
                have HN := Aside0.mk hns
                clear hns
                by_cases hlen : (t.length + ns.length) * 8 ≤ 140737488355328
                · rw [if_pos hlen] at H
                  have HF := Aside0.mk H
                  have HLEN := Aside0.mk hlen
                  clear H hlen
                  have HP := Aside0.mk (Kd.R_putg HO.out x true)
                  have HS := Aside0.mk (below_set (j := x.toNat) (v := .bool true) HB.out HG.out)
                  have HQ3 := Aside0.mk (Kd.Q_over' HQ9.out (Kd.R_typed HO.out) (by decide) HP.out.2)
                  go_wp2_with (first | (go_at_call 29; (with_reducible refine (spec_l07Next.calls k1 A0 c0 l0 x ns _ (Kd.C_below HR0.out HS.out) HC0.out HN.out).mono ?_); rintro e w4 ⟨v4, rfl, ho4, hb4⟩; obtain ⟨A4, c4, e4⟩ := Kd.R_slice ho4; subst e4; have HQ4 := Aside0.mk (Kd.Q_below HQ3.out hb4); have HO4 := Aside0.mk (Kd.R_below HP.out.1 hb4); have HB4 := Aside0.mk (below_step HS.out hb4); have HN4 := Aside0.mk (Kd.R_reads' ho4).2.2; clear ho4 hb4) | ((with_reducible refine gate_builtin (b := .append) (xs := #[.tmp 45, .tmp 48]) rfl ?_); at_builtin; refine Q_app (w0 := w) w.heap.size rfl (.tmp 45) (.tmp 48) rfl _ t ns A4 ns.length c4 (fun _ => True) rfl rfl HQ4.out HN4.out (fun _ _ => trivial) HB4.out (below_size HB4.out) HLEN.out ?_; intro v5 w5 hq5 hb5 hg5; have HO5 := Aside0.mk (Kd.R_over' HO4.out (Kd.Q_typed HQ4.out) (by decide) hg5); have HQ5 := Aside0.mk hq5; have HB5 := Aside0.mk hb5; clear hq5 hb5 hg5))
                  go_roundg k1
                  case measure => omega
                  case rel => exact ⟨out.set x.toNat true, t ++ ns, by rw [List.length_set]; exact HOL.out, HF, ⟨HO5.out⟩, ⟨HQ5.out⟩, ⟨HB5.out⟩⟩
                · rw [if_neg hlen] at H
                  exact absurd H (by simp)
          · rw [if_neg hr] at H
            exact absurd H (by simp)

/-! ### spec_l17Writes: function 33 -/
def spec_l17Writes.l0 : Nat → List (S38) → List Int → Int → Int → Option (Int)
 | 0, _, _, _, _ => none
 | k + 1, x0, x1, x5, x6 => if x6 < (x1.length : Int) then (if 0 ≤ x6 then (if (rd x1 x6) < (x0.length : Int) then (if 0 ≤ (rd x1 x6) then ((spec_WritesReg.f ((rd_T38 x0 (rd x1 x6)).f0) ((rd_T38 x0 (rd x1 x6)).f1) ((rd_T38 x0 (rd x1 x6)).f2) ((rd_T38 x0 (rd x1 x6)).f3)).bind fun t309 => (if t309 ≥ 0 then ((spec_WritesReg.f ((rd_T38 x0 (rd x1 x6)).f0) ((rd_T38 x0 (rd x1 x6)).f1) ((rd_T38 x0 (rd x1 x6)).f2) ((rd_T38 x0 (rd x1 x6)).f3)).bind fun t312 => (if 0 ≤ t312 then (spec_l17Writes.l0 k x0 x1 (Go.bits .or .i64 x5 (shl .i64 1 t312)) (wrap64 (x6 + 1))) else (none))) else (spec_l17Writes.l0 k x0 x1 x5 (wrap64 (x6 + 1))))) else (none)) else (spec_l17Writes.l0 k x0 x1 x5 (wrap64 (x6 + 1)))) else (none)) else (some x5)
def spec_l17Writes.f (k : Nat) (l0 : List (S38)) (l1 : List Int) : Option (Int) := spec_l17Writes.l0 k l0 l1 0 0
theorem spec_l17Writes.mono_l : ∀ k, (∀ y0 y1 y2 y3, LeO (spec_l17Writes.l0 k y0 y1 y2 y3) (spec_l17Writes.l0 (k + 1) y0 y1 y2 y3))
 | 0 => fun _ _ _ _ r h => by simp [spec_l17Writes.l0] at h
 | k + 1 => by
  have ih0 := spec_l17Writes.mono_l k
  ·intro y0 y1 y2 y3
   unfold spec_l17Writes.l0
   repeat' first
   | (with_reducible exact ih0 _ _ _ _)
   | (with_reducible exact LeO.refl _)
   | (with_reducible exact LeO.none _)
   | (with_reducible refine LeO.ite ?_ ?_)
   | (with_reducible refine LeO.bind ?_ (fun _ => ?_))
   | exact ih0 _ _ _ _
   | exact LeO.none _
   | refine LeO.ite ?_ ?_
   | refine LeO.bind ?_ (fun _ => ?_)
theorem spec_l17Writes.mono : ∀ a0 a1 k, LeO (spec_l17Writes.f k a0 a1) (spec_l17Writes.f (k + 1) a0 a1) := by
 intro a0 a1 k
 have ih0 := spec_l17Writes.mono_l k
 unfold spec_l17Writes.f
 repeat' first
   | (with_reducible exact ih0 _ _ _ _)
   | (with_reducible exact LeO.refl _)
   | (with_reducible exact LeO.none _)
   | (with_reducible refine LeO.ite ?_ ?_)
   | (with_reducible refine LeO.bind ?_ (fun _ => ?_))
   | exact ih0 _ _ _ _
   | exact LeO.none _
   | refine LeO.ite ?_ ?_
   | refine LeO.bind ?_ (fun _ => ?_)
set_option maxHeartbeats 8000000 in
set_option maxRecDepth 100000 in
theorem spec_l17Writes.calls (k : Nat) (A0 : Option Addr) (c0 : Nat) (l0 : List (S38)) (A1 : Option Addr) (c1 : Nat) (l1 : List Int) (r : Int) (w : World) (hr0 : Kd.C k38 w A0 l0.length l0) (hc0 : l0.length ≤ c0) (hr1 : Kd.C (Kd.int .i64) w A1 l1.length l1) (hc1 : l1.length ≤ c1) (h : spec_l17Writes.f k l0 l1 = some r) :
  Calls Tryz.prog 33 #[.slice A0 l0.length c0, .slice A1 l1.length c1] w fun e w' => e = .returned (.int .i64 r) ∧ Below w.heap.size w w' := by
 have hu38 := Tryz.underlying38
 have HR0 := Aside0.mk hr0
 have HC0 := Aside0.mk hc0
 clear hr0 hc0
 have HR1 := Aside0.mk hr1
 have HC1 := Aside0.mk hc1
 clear hr1 hc1
 have HB := Aside0.mk (Below.refl w.heap.size w)
 have H : (spec_l17Writes.l0 k l0 l1 0 0) = some r := h
 clear h
 have H' := Aside0.mk H
 clear H
 go_enter Tryz.func33, Tryz.ntmps33
 go_wp2
 go_loopg [5, 6] k (fun kq v5 v6 w' => ∃ (x5_1 : Int) (x6_1 : Int), v5 = .int .i64 x5_1 ∧ v6 = .int .i64 x6_1 ∧ Aside0 (spec_l17Writes.l0 kq l0 l1 x5_1 x6_1 = some r) ∧ Aside0 (kq ≤ k) ∧ Aside0 (Below w.heap.size w w'))
 case atStart => exact ⟨(0), (0), tR, tR, H', ⟨Nat.le_refl _⟩, ⟨bw⟩⟩
 case round =>
  clear H'
  try clear c1;try clear p2
  obtain ⟨x5_1, x6_1, rfl, rfl, HA, HK1, HB⟩ := hrel
  cases gk with
  | zero => exact absurd HA.out (by simp [spec_l17Writes.l0])
  | succ k1 =>
   have H := HA.out
   clear HA
   simp only [spec_l17Writes.l0] at H
   by_cases c3 : x6_1 < (l1.length : Int)
   ·rw [if_pos c3] at H
    have c3b0 : decide (x6_1 < (l1.length : Int)) = true := decide_eq_true c3
    clear c3
    by_cases c4 : 0 ≤ x6_1
    ·rw [if_pos c4] at H
     have c4b0 : decide (0 ≤ x6_1) = true := decide_eq_true c4
     clear c4
     by_cases c5 : (rd l1 x6_1) < (l0.length : Int)
     ·rw [if_pos c5] at H
      have c5b0 : decide ((rd l1 x6_1) < (l0.length : Int)) = true := decide_eq_true c5
      clear c5
      by_cases c6 : 0 ≤ (rd l1 x6_1)
      ·rw [if_pos c6] at H
       have c6b0 : decide (0 ≤ (rd l1 x6_1)) = true := decide_eq_true c6
       clear c6
       replace H := Option.bind_eq_some_iff.mp H
       obtain ⟨t309, A70, H⟩ := H
       replace H : (if t309 ≥ 0 then ((spec_WritesReg.f ((rd_T38 l0 (rd l1 x6_1)).f0) ((rd_T38 l0 (rd l1 x6_1)).f1) ((rd_T38 l0 (rd l1 x6_1)).f2) ((rd_T38 l0 (rd l1 x6_1)).f3)).bind fun t312 => (if 0 ≤ t312 then (spec_l17Writes.l0 k1 l0 l1 (Go.bits .or .i64 x5_1 (shl .i64 1 t312)) (wrap64 (x6_1 + 1))) else (none))) else (spec_l17Writes.l0 k1 l0 l1 x5_1 (wrap64 (x6_1 + 1)))) = some r := H
       have A7 := Aside0.mk A70
       clear A70
       by_cases c8 : t309 ≥ 0
       ·rw [if_pos c8] at H
        have c8b0 : decide (0 ≤ t309) = true := decide_eq_true c8
        clear c8
        replace H := Option.bind_eq_some_iff.mp H
        obtain ⟨t312, A90, H⟩ := H
        replace H : (if 0 ≤ t312 then (spec_l17Writes.l0 k1 l0 l1 (Go.bits .or .i64 x5_1 (shl .i64 1 t312)) (wrap64 (x6_1 + 1))) else (none)) = some r := H
        have A9 := Aside0.mk A90
        clear A90
        by_cases c10 : 0 ≤ t312
        ·rw [if_pos c10] at H
         have c10b0 := eq_true c10
         have c10b1 : decide (0 ≤ t312) = true := decide_eq_true c10
         clear c10
         obtain ⟨ji11, hji11⟩ : ∃ j_ : Int, (shl .i64 1 t312) = j_ := ⟨_, rfl⟩
         replace H : (spec_l17Writes.l0 k1 l0 l1 (Go.bits .or .i64 x5_1 (ji11)) (wrap64 (x6_1 + 1))) = some r := by first | (rw [hji11] at H; exact H) | (simp only [hji11] at H ⊢; exact H)
         (try rw [hji11] at A7)
         (try rw [hji11] at A9)
         have hji11_ : (IntKind.i64.wrap (1 * 2 ^ min t312.toNat 64)) = ji11 := hji11
         have hji11z : t312 ≤ 64 → (IntKind.i64.wrap (1 * 2 ^ t312.toNat)) = ji11 := shl_small hji11
         have hji11u : (IntKind.i64.wrap (2 ^ min t312.toNat 64)) = ji11 := by have h_ := hji11_; rw [Int.one_mul] at h_; exact h_
         have hji11v : t312 ≤ 64 → (IntKind.i64.wrap (2 ^ t312.toNat)) = ji11 := fun hle_ => by have h_ := hji11z hle_; rw [Int.one_mul] at h_; exact h_
         have hji11y : (wrap64 (1 * 2 ^ min t312.toNat 64)) = ji11 := (i64_w _).symm.trans hji11_
         have hji11x : t312 ≤ 64 → (wrap64 (1 * 2 ^ t312.toNat)) = ji11 := fun h_ => (i64_w _).symm.trans (hji11z h_)
         have H' := Aside0.mk H
         clear H
         have p306 : 0 ≤ (x6_1 : Int) := dT
         have q306 : x6_1 < (l1.length : Int) := dT
         obtain ⟨ad306, e306, hx306_0⟩ := Kd.at_int HR1.out x6_1 p306 q306
         cases e306
         replace hx306_0 := (HB.out.cell (World.block_lt_of_cell? w _ hx306_0)).trans hx306_0
         replace p306 := eq_true p306
         replace q306 := eq_true q306
         have p307 : 0 ≤ (x6_1 : Int) := dT
         have q307 : x6_1 < (l1.length : Int) := dT
         obtain ⟨ad307, e307, hx307_0⟩ := Kd.at_int HR1.out x6_1 p307 q307
         obtain rfl : ad306 = ad307 := (by injection e307)
         replace hx307_0 := (HB.out.cell (World.block_lt_of_cell? w _ hx307_0)).trans hx307_0
         replace p307 := eq_true p307
         replace q307 := eq_true q307
         have p308 : 0 ≤ ((rd l1 x6_1) : Int) := dT
         have q308 : (rd l1 x6_1) < (l0.length : Int) := dT
         obtain ⟨ad308, e308, hx308_0, hx308_1, hx308_2, hx308_3⟩ := at_T38 HR0.out (rd l1 x6_1) p308 q308
         cases e308
         replace hx308_0 := (HB.out.cell (World.block_lt_of_cell? w _ hx308_0)).trans hx308_0
         replace hx308_1 := (HB.out.cell (World.block_lt_of_cell? w _ hx308_1)).trans hx308_1
         replace hx308_2 := (HB.out.cell (World.block_lt_of_cell? w _ hx308_2)).trans hx308_2
         replace hx308_3 := (HB.out.cell (World.block_lt_of_cell? w _ hx308_3)).trans hx308_3
         replace p308 := eq_true p308
         replace q308 := eq_true q308
         go_wp2_with (first | (go_at_call 55; (with_reducible refine (spec_WritesReg.calls ((rd_T38 l0 (rd l1 x6_1)).f0) ((rd_T38 l0 (rd l1 x6_1)).f1) ((rd_T38 l0 (rd l1 x6_1)).f2) ((rd_T38 l0 (rd l1 x6_1)).f3) t309 _ A7.out).mono ?_); rintro e w12 ⟨rfl, hb⟩; replace HB := Aside0.mk (below_step bw hb); (try clear hb); have p310 : 0 ≤ (x6_1 : Int) := dT; have q310 : x6_1 < (l1.length : Int) := dT; obtain ⟨ad310, e310, hx310_0⟩ := Kd.at_int HR1.out x6_1 p310 q310; obtain rfl : ad306 = ad310 := (by injection e310); replace hx310_0 := (HB.out.cell (World.block_lt_of_cell? w _ hx310_0)).trans hx310_0; replace p310 := eq_true p310; replace q310 := eq_true q310; have p311 : 0 ≤ ((rd l1 x6_1) : Int) := dT; have q311 : (rd l1 x6_1) < (l0.length : Int) := dT; obtain ⟨ad311, e311, hx311_0, hx311_1, hx311_2, hx311_3⟩ := at_T38 HR0.out (rd l1 x6_1) p311 q311; obtain rfl : ad308 = ad311 := (by injection e311); replace hx311_0 := (HB.out.cell (World.block_lt_of_cell? w _ hx311_0)).trans hx311_0; replace hx311_1 := (HB.out.cell (World.block_lt_of_cell? w _ hx311_1)).trans hx311_1; replace hx311_2 := (HB.out.cell (World.block_lt_of_cell? w _ hx311_2)).trans hx311_2; replace hx311_3 := (HB.out.cell (World.block_lt_of_cell? w _ hx311_3)).trans hx311_3; replace p311 := eq_true p311; replace q311 := eq_true q311) | ((with_reducible refine gate_callee (f := 55) rfl ?_); refine gL (some 39) Tryz.func55 #[.agg #[.int .i64 ((rd_T38 l0 (rd l1 x6_1)).f0), .int .i64 ((rd_T38 l0 (rd l1 x6_1)).f1), .int .i64 ((rd_T38 l0 (rd l1 x6_1)).f2), .int .i64 ((rd_T38 l0 (rd l1 x6_1)).f3)]] ?_; (with_reducible refine (spec_WritesReg.calls ((rd_T38 l0 (rd l1 x6_1)).f0) ((rd_T38 l0 (rd l1 x6_1)).f1) ((rd_T38 l0 (rd l1 x6_1)).f2) ((rd_T38 l0 (rd l1 x6_1)).f3) t312 _ A9.out).mono ?_); rintro e w13 ⟨rfl, hb⟩; refine ⟨_, rfl, ?_⟩; replace HB := Aside0.mk (below_step bw hb); (try clear hb)))
         go_roundg k1
         case measure => have := HK1.out; omega
         case rel => exact ⟨(Go.bits .or .i64 x5_1 (ji11)), (wrap64 (x6_1 + 1)), (by first | rfl | (simp; done) | (simp only [← hji11] <;> (first | rfl | simp)) | (simp [*]; done)), tR, H', ⟨by have := HK1.out; omega⟩, ⟨bw⟩⟩
        ·rw [if_neg c10] at H
         exact absurd H (by simp)
       ·rw [if_neg c8] at H
        have c8b0 : decide (0 ≤ t309) = false := decide_eq_false c8
        clear c8
        have H' := Aside0.mk H
        clear H
        have p306 : 0 ≤ (x6_1 : Int) := dT
        have q306 : x6_1 < (l1.length : Int) := dT
        obtain ⟨ad306, e306, hx306_0⟩ := Kd.at_int HR1.out x6_1 p306 q306
        cases e306
        replace hx306_0 := (HB.out.cell (World.block_lt_of_cell? w _ hx306_0)).trans hx306_0
        replace p306 := eq_true p306
        replace q306 := eq_true q306
        have p307 : 0 ≤ (x6_1 : Int) := dT
        have q307 : x6_1 < (l1.length : Int) := dT
        obtain ⟨ad307, e307, hx307_0⟩ := Kd.at_int HR1.out x6_1 p307 q307
        obtain rfl : ad306 = ad307 := (by injection e307)
        replace hx307_0 := (HB.out.cell (World.block_lt_of_cell? w _ hx307_0)).trans hx307_0
        replace p307 := eq_true p307
        replace q307 := eq_true q307
        have p308 : 0 ≤ ((rd l1 x6_1) : Int) := dT
        have q308 : (rd l1 x6_1) < (l0.length : Int) := dT
        obtain ⟨ad308, e308, hx308_0, hx308_1, hx308_2, hx308_3⟩ := at_T38 HR0.out (rd l1 x6_1) p308 q308
        cases e308
        replace hx308_0 := (HB.out.cell (World.block_lt_of_cell? w _ hx308_0)).trans hx308_0
        replace hx308_1 := (HB.out.cell (World.block_lt_of_cell? w _ hx308_1)).trans hx308_1
        replace hx308_2 := (HB.out.cell (World.block_lt_of_cell? w _ hx308_2)).trans hx308_2
        replace hx308_3 := (HB.out.cell (World.block_lt_of_cell? w _ hx308_3)).trans hx308_3
        replace p308 := eq_true p308
        replace q308 := eq_true q308
        go_wp2_with (first | (go_at_call 55; (with_reducible refine (spec_WritesReg.calls ((rd_T38 l0 (rd l1 x6_1)).f0) ((rd_T38 l0 (rd l1 x6_1)).f1) ((rd_T38 l0 (rd l1 x6_1)).f2) ((rd_T38 l0 (rd l1 x6_1)).f3) t309 _ A7.out).mono ?_); rintro e w14 ⟨rfl, hb⟩; replace HB := Aside0.mk (below_step bw hb); (try clear hb)))
        go_roundg k1
        case measure => have := HK1.out; omega
        case rel => exact ⟨(x5_1), (wrap64 (x6_1 + 1)), tR, tR, H', ⟨by have := HK1.out; omega⟩, ⟨bw⟩⟩
      ·rw [if_neg c6] at H
       exact absurd H (by simp)
     ·rw [if_neg c5] at H
      have c5b0 : decide ((rd l1 x6_1) < (l0.length : Int)) = false := decide_eq_false c5
      clear c5
      have H' := Aside0.mk H
      clear H
      have p306 : 0 ≤ (x6_1 : Int) := dT
      have q306 : x6_1 < (l1.length : Int) := dT
      obtain ⟨ad306, e306, hx306_0⟩ := Kd.at_int HR1.out x6_1 p306 q306
      cases e306
      replace hx306_0 := (HB.out.cell (World.block_lt_of_cell? w _ hx306_0)).trans hx306_0
      replace p306 := eq_true p306
      replace q306 := eq_true q306
      go_wp2
      go_roundg k1
      case measure => have := HK1.out; omega
      case rel => exact ⟨(x5_1), (wrap64 (x6_1 + 1)), tR, tR, H', ⟨by have := HK1.out; omega⟩, ⟨bw⟩⟩
    ·rw [if_neg c4] at H
     exact absurd H (by simp)
   ·rw [if_neg c3] at H
    have c3b0 : decide (x6_1 < (l1.length : Int)) = false := decide_eq_false c3
    clear c3
    obtain rfl := Option.some.inj H
    go_wp2
    go_ret
    exact ⟨eR, bw⟩

end Go.Proofs.YtdppehpcpofeoaaGreat.PFnExactNeverSplits
