-- Written by myprint.py (a program of this session, over the kit's print): not trusted, Lean checks it.
import Derived.Test.YtdppehpcpofeoaaGreatPFnExactNeverSplitsx0
import Derived.Test.YtdppehpcpofeoaaGreatPFnExactNeverSplitsx5
import Derived.Test.YtdppehpcpofeoaaGreatPFnExactNeverSplitsx9
import Derived.Test.YtdppehpcpofeoaaGreatPFnExactNeverSplitsx10
import Derived.Test.YtdppehpcpofeoaaGreatPFnExactNeverSplitsx11
import Derived.Test.YtdppehpcpofeoaaGreatPFnExactNeverSplitsx12
namespace Go.Proofs.YtdppehpcpofeoaaGreat.PFnExactNeverSplits
open Go.RowKit Go.Proofs.YtdppehpcpofeoaaGreatW.PrintWords Go.Proofs.YtdppehpcpofeoaaGreatW.PrintLast Go.Proofs.YtdppehpcpofeoaaGreatW.PrintMore
attribute [local go_sem] max2_int min2_int max_two min_two max_three min_three max_four min_four   -- for this text's walks alone
set_option linter.unusedVariables false
set_option linter.unusedSimpArgs false

/-! ### slices_DeleteFunc_int_int: function 87 -/
theorem idxF_cases (p : Int → Bool) : ∀ (l : List Int) (i : Nat), (idxF p l (i : Int) = -1 ∧ l.any p = false) ∨ ∃ m : Nat, idxF p l (i : Int) = ((i + m : Nat) : Int) ∧ m < l.length ∧ (l.take m).any p = false ∧ p (l.getD m 0) = true
  | [], i => .inl ⟨rfl, rfl⟩
  | x :: r, i => by
    rw [idxF]
    by_cases hp : p x = true
    · rw [if_pos hp]
      exact .inr ⟨0, rfl, by simp, by simp, hp⟩
    · rw [if_neg hp]
      have hp' : p x = false := by simpa using hp
      rcases idxF_cases p r (i + 1) with ⟨h1, h2⟩ | ⟨m, h1, h2, h3, h4⟩
      · rw [show ((i : Int) + 1) = ((i + 1 : Nat) : Int) from rfl, h1]
        exact .inl ⟨rfl, by rw [List.any_cons, hp', h2]; rfl⟩
      · refine .inr ⟨m + 1, ?_, by simpa using h2, by rw [List.take_succ_cons, List.any_cons, hp', h3]; rfl, h4⟩
        rw [show ((i : Int) + 1) = ((i + 1 : Nat) : Int) from rfl, h1, show i + 1 + m = i + (m + 1) by omega]
theorem filter_not_any {p : Int → Bool} : ∀ {l : List Int}, l.any p = false → l.filter (fun x => !p x) = l
  | [], _ => rfl
  | x :: r, h => by
    rw [List.any_cons, Bool.or_eq_false_iff] at h
    rw [List.filter_cons, if_pos (by rw [h.1]; rfl), filter_not_any h.2]
theorem setCells_R {base g c : Nat} {ok : Nat → Prop} {n : Nat} : ∀ (m : Nat) (W : World) (xs : List Int) (o : Nat), n = xs.length → Kd.R (Kd.int .i64) 3 W base ok (.slice (some ⟨g, 0, none⟩) n c) xs →
    ∃ ys : List Int, Kd.R (Kd.int .i64) 3 (W.setCells g o (List.replicate m (.int .i64 0))) base ok (.slice (some ⟨g, 0, none⟩) n c) ys ∧ ys.length = n ∧ ys.take o = xs.take o
  | 0, W, xs, o, hn, h => ⟨xs, h, hn.symm, rfl⟩
  | m + 1, W, xs, o, hn, h => by
    obtain ⟨ys, h1, h2, h3⟩ := setCells_R m (W.setCell ⟨g, o, none⟩ (.int .i64 0)) (xs.set o 0) (o + 1) (by rw [List.length_set]; exact hn) (R_put_at n hn h o 0)
    refine ⟨ys, h1, h2, ?_⟩
    have := congrArg (List.take o) h3
    rw [List.take_take, List.take_take, Nat.min_eq_left (Nat.le_succ o), List.take_set_of_le (Nat.le_refl o)] at this
    exact this
theorem setCells_below {w0 : World} {g : Nat} (hg : w0.heap.size ≤ g) : ∀ (vs : List Value) (W : World) (o : Nat), Below w0.heap.size w0 W → Below w0.heap.size w0 (W.setCells g o vs)
  | [], _, _, h => h
  | v :: r, W, o, h => setCells_below hg r _ (o + 1) (below_set h hg)
set_option maxHeartbeats 4000000 in
set_option maxRecDepth 100000 in
/-- slices.DeleteFunc at ints, over a row that was made behind w0; the function value looks at what stood at w0 alone. -/
theorem deleteFunc_int (g : Nat) (lb : Array Value) (eg : ∀ args w, (callFunc g args).run Tryz.prog w = .ok (.enter g args) w) (p : Int → Bool) (u : Value) (l : List Int) (w0 w : World)
    (hB : Below w0.heap.size w0 w) (ho : Kd.R (Kd.int .i64) 3 w w0.heap.size (fun _ => True) u l)
    (hp : ∀ x, x ∈ l → ∀ W, Below w0.heap.size w0 W → Calls Tryz.prog g (#[.int .i64 x] ++ lb) W fun e W' => e = .returned (.bool (p x)) ∧ Below W.heap.size W W') :
    Calls Tryz.prog 87 #[u, .func (.func g) #[] lb] w fun e w' => ∃ v0_ : Value, e = .returned (v0_) ∧ Kd.R (Kd.int .i64) 3 w' w0.heap.size (fun _ => True) v0_ (l.filter fun x => !p x) ∧ Below w0.heap.size w0 w' := by
  obtain ⟨A, c, e, hlc, hC⟩ := Kd.R_reads ho
  subst e
  have hidx := indexFunc_int (Below w.heap.size w) g lb eg p A c l w (Below.refl _ _) (fun W hW => Kd.C_below hC hW) (fun x hx W hW => (hp x hx W (below_step hB hW)).mono fun e W' ⟨he, h2⟩ => ⟨he, below_step hW h2⟩)
  have HI := Aside0.mk hidx
  have HO := Aside0.mk ho
  have HB := Aside0.mk hB
  have HP := Aside0.mk hp
  clear hidx ho hB hp
  rcases idxF_cases p l 0 with ⟨h1, h2⟩ | ⟨m, h1, h2, h3, h4⟩
  · have HF := Aside0.mk (filter_not_any h2)
    rw [show ((0 : Nat) : Int) = 0 from rfl] at h1
    have H1 := Aside0.mk h1
    clear h1 h2 hC
    rw [HF.out]
    go_enter Tryz.func87, Tryz.ntmps87
    go_wp2_with (go_at_call 51; refine HI.out.mono ?_; rintro e w1 ⟨rfl, hb1⟩; rw [H1.out]; have HB1 := Aside0.mk hb1; clear hb1)
    go_ret
    exact ⟨_, rfl, Kd.R_below HO.out HB1.out, below_step HB.out HB1.out⟩
  · obtain ⟨gb, c', e', hgb, hglt, _⟩ := Kd.R_form HO.out (by omega)
    injection e' with e1 _ e2
    subst e1 e2
    rw [show ((0 : Nat) : Int) = 0 from rfl, Nat.zero_add] at h1
    have H1 := Aside0.mk h1
    have HG := Aside0.mk hgb
    have hbig := hC.2.1
    have HFm : Aside0 (l.take m = (l.take (m + 1)).filter fun x => !p x) := ⟨by
      rw [List.take_succ_eq_append_getElem h2, List.filter_append, filter_not_any h3]
      have : p (l[m]'h2) = true := by rw [← h4, List.getD_eq_getElem?_getD, List.getElem?_eq_getElem h2]; rfl
      simp [this]⟩
    have H2 := Aside0.mk h2
    have HLC := Aside0.mk hlc
    clear h1 h3 h4 hC hgb hglt
    have hwm : IntKind.i64.wrap ((m : Int) + 1) = (m : Int) + 1 := by rw [i64_w]; unfold wrap64; omega
    have b0 : ((m : Int) == -1) = false := beq_eq_false_iff_ne.mpr (by omega)
    go_enter Tryz.func87, Tryz.ntmps87
    go_wp2_with (go_at_call 51; refine HI.out.mono ?_; rintro e w1 ⟨rfl, hb1⟩; rw [H1.out]; have HO1 := Aside0.mk (Kd.R_below HO.out hb1); have HB1 := Aside0.mk (below_step HB.out hb1); clear hb1)
    clear hwm b0
    go_loopg [5, 6, 7] l.length (fun gg s5 s6 _ wr => ∃ (i j : Nat) (xs : List Int), i < j ∧ j ≤ l.length ∧ l.length - j ≤ gg ∧ s5 = .int .i64 i ∧ s6 = .int .i64 j ∧ xs.length = l.length ∧ Aside0 (xs.take i = (l.take j).filter fun x => !p x) ∧ Aside0 (xs.drop j = l.drop j) ∧ Aside0 (Kd.R (Kd.int .i64) 3 wr w0.heap.size (fun _ => True) (.slice (some ⟨gb, 0, none⟩) l.length c) xs) ∧ Aside0 (Below w0.heap.size w0 wr))
    case atStart => exact ⟨m, m + 1, l, by omega, by have := H2.out; omega, by omega, rfl, by go_num, rfl, HFm, ⟨rfl⟩, ⟨HO1.out⟩, ⟨HB1.out⟩⟩
    case round =>
      clear HO1 HB1 HFm
      obtain ⟨i, j, xs, hij, hj, hg, rfl, rfl, hxl, HT, HD, HR, HW⟩ := hrel
      have HXL := Aside0.mk hxl
      clear hxl
      by_cases hlt : j < l.length
      · have hltz : (j : Int) < (l.length : Int) := by omega
        obtain ⟨hcj, hfj⟩ := Kd.R_celln 0 HR.out (j : Int) (by omega) hltz
        obtain ⟨hci, hfi⟩ := Kd.R_celln 0 HR.out (i : Int) (by omega) (by omega)
        rw [Int.toNat_natCast] at hcj hfj hci hfi
        obtain ⟨y, hy⟩ : ∃ y, rdOf 0 xs (j : Int) = y := ⟨_, rfl⟩
        have hyl : l[j]'hlt = y := by
          have h5 := congrArg (fun z : List Int => z.head?) HD.out
          simp only [List.head?_drop] at h5
          rw [List.getElem?_eq_getElem hlt, List.getElem?_eq_getElem (by rw [HXL.out]; exact hlt)] at h5
          rw [← hy]
          unfold rdOf
          rw [Int.toNat_natCast, List.getD_eq_getElem?_getD, List.getElem?_eq_getElem (by rw [HXL.out]; exact hlt)]
          exact (Option.some.inj h5).symm
        rw [hy] at hcj
        have HY := Aside0.mk hyl
        have hcall := HP.out y (by rw [← hyl]; exact List.getElem_mem hlt) wr HW.out
        have HDn := Aside0.mk (show ∀ zs : List Int, zs.drop j = l.drop j → zs.drop (j + 1) = l.drop (j + 1) from fun zs hz => by
          have := congrArg (List.drop 1) hz
          rwa [List.drop_drop, List.drop_drop] at this)
        clear hy hyl
        cases hq : p y with
        | true =>
          rw [hq] at hcall
          have HQ := Aside0.mk hq
          clear hq
          go_wp2_with (go_at_fn g; refine hcall.mono ?_; rintro e w2 ⟨rfl, hb2⟩)
          go_roundg (l.length - (j + 1))
          case measure => omega
          case rel =>
            refine ⟨i, j + 1, xs, by omega, by omega, by omega, rfl, by go_num, HXL.out, ⟨?_⟩, ⟨HDn.out _ HD.out⟩, ⟨Kd.R_below HR.out hb2⟩, ⟨below_step HW.out hb2⟩⟩
            rw [List.take_succ_eq_append_getElem hlt, List.filter_append, HT.out, HY.out]
            simp [HQ.out]
        | false =>
          rw [hq] at hcall
          have HQ := Aside0.mk hq
          clear hq
          have hwi : IntKind.i64.wrap ((i : Int) + 1) = (i : Int) + 1 := by rw [i64_w]; unfold wrap64; omega
          have q1 : (i : Int) < (l.length : Int) := by omega
          go_wp2_with (go_at_fn g; refine hcall.mono ?_; rintro e w2 ⟨rfl, hb2⟩; have HR2 := Aside0.mk (Kd.R_below HR.out hb2); have HW2 := Aside0.mk (below_step HW.out hb2); obtain ⟨hci2, hfi2⟩ := Kd.R_celln 0 HR2.out (i : Int) (by omega) (by omega); rw [Int.toNat_natCast] at hci2 hfi2; clear hb2 hcall)
          go_roundg (l.length - (j + 1))
          case measure => omega
          case rel =>
            refine ⟨i + 1, j + 1, xs.set i y, by omega, by omega, by omega, by go_num, by go_num, by rw [List.length_set]; exact HXL.out, ⟨?_⟩, ⟨?_⟩, ⟨R_put_at _ HXL.out.symm HR2.out i y⟩, ⟨below_set HW2.out HG.out⟩⟩
            · rw [List.take_succ_eq_append_getElem hlt, List.filter_append, ← HT.out, HY.out, List.take_succ_eq_append_getElem (by rw [List.length_set, HXL.out]; omega), List.take_set_of_le (Nat.le_refl i), List.getElem_set_self]
              simp [HQ.out]
            · have := HDn.out xs HD.out
              rw [List.drop_set_of_lt (by omega)]
              exact this
      · have hltz : ¬ (j : Int) < (l.length : Int) := by omega
        have ej : j = l.length := by omega
        have HZ := Aside0.mk (show xs.take i = l.filter fun x => !p x by rw [HT.out, ej, List.take_of_length_le (Nat.le_refl _)])
        have hin : i < l.length := by omega
        have hic : ¬ c = i := by have := HLC.out; omega
        have hil : i ≤ c := by have := HLC.out; omega
        have hcl := clear_own wr gb i (l.length - i) (c - i) (by omega) (fun q hq => by
          obtain ⟨hcq, _⟩ := Kd.R_celln 0 HR.out ((i + q : Nat) : Int) (by omega) (by omega)
          rw [Int.toNat_natCast] at hcq
          rw [hcq]; rfl) (fun q hq => by
          obtain ⟨_, hfq⟩ := Kd.R_celln 0 HR.out ((i + q : Nat) : Int) (by omega) (by omega)
          rw [Int.toNat_natCast] at hfq
          exact hfq)
        have q1 : (i : Int) ≤ (l.length : Int) := by omega
        clear hij hj hg hlt ej
        go_wp2
        go_ret
        obtain ⟨ys, h6, h7, h8⟩ := setCells_R (l.length - i) wr xs i HXL.out.symm HR.out
        have h9 := Kd.R_take h6 (m := i) (by rw [h7]; omega)
        rw [h8, HZ.out] at h9
        exact ⟨_, rfl, h9, setCells_below HG.out _ _ _ HW.out⟩

/-! ### impl_isNode: function 115 -/
def impl_isNode.f (l0 : List (S38)) (a1 : Int) : Option (Bool) := (impl_ProgramOk.f l0).bind fun t447 => (if t447 = true then ((impl_within.f a1 0 (l0.length : Int)).bind fun t448 => (some t448)) else (some false))
set_option maxHeartbeats 8000000 in
set_option maxRecDepth 100000 in
theorem impl_isNode.calls (A0 : Option Addr) (c0 : Nat) (l0 : List (S38)) (a1 : Int) (r : Bool) (w : World) (hr0 : Kd.C k38 w A0 l0.length l0) (hc0 : l0.length ≤ c0) (h : impl_isNode.f l0 a1 = some r) :
  Calls Tryz.prog 115 #[.slice A0 l0.length c0, .int .i64 a1] w fun e w' => e = .returned (.bool r) ∧ Below w.heap.size w w' := by
 have HR0 := Aside0.mk hr0
 have HC0 := Aside0.mk hc0
 clear hr0 hc0
 have HB := Aside0.mk (Below.refl w.heap.size w)
 have H : ((impl_ProgramOk.f l0).bind fun t447 => (if t447 = true then ((impl_within.f a1 0 (l0.length : Int)).bind fun t448 => (some t448)) else (some false))) = some r := h
 clear h
 replace H := Option.bind_eq_some_iff.mp H
 obtain ⟨t447, A30, H⟩ := H
 replace H : (if t447 = true then ((impl_within.f a1 0 (l0.length : Int)).bind fun t448 => (some t448)) else (some false)) = some r := H
 have A3 := Aside0.mk A30
 clear A30
 by_cases c4 : t447 = true
 ·subst c4
  have H1 : ((impl_within.f a1 0 (l0.length : Int)).bind fun t448 => (some t448)) = some r := by rw [if_pos rfl] at H; exact H
  clear H
  have H := H1
  clear H1
  replace H := Option.bind_eq_some_iff.mp H
  obtain ⟨t448, A50, H⟩ := H
  replace H : (some t448) = some r := H
  have A5 := Aside0.mk A50
  clear A50
  obtain rfl := Option.some.inj H
  go_enter Tryz.func115, Tryz.ntmps115
  go_wp2_with (first | ((with_reducible refine gate_callee (f := 46) rfl ?_); refine gL (some 6) Tryz.func46 #[.slice A0 l0.length c0] ?_; (with_reducible refine (impl_ProgramOk.calls _ _ l0 true _ ?side1 ?side2 A3.out).mono ?_); (case side1 => exact cS HR0.out); (case side2 => exact HC0.out); rintro e w6 ⟨rfl, hb⟩; refine ⟨_, rfl, ?_⟩; replace HB := Aside0.mk (below_step bw hb); (try clear hb)) | (go_at_call 73; (with_reducible refine (impl_within.calls a1 0 (l0.length : Int) t448 _ A5.out).mono ?_); rintro e w' ⟨rfl, ⟨nd, rfl⟩⟩))
  go_ret
  exact ⟨eR, bw⟩
 ·replace c4 := Bool.eq_false_iff.mpr c4
  subst c4
  have H1 : (some false) = some r := by rw [if_neg (show ¬ (false = true) by decide)] at H; exact H
  clear H
  have H := H1
  clear H1
  obtain rfl := Option.some.inj H
  go_enter Tryz.func115, Tryz.ntmps115
  go_wp2_with (first | ((with_reducible refine gate_callee (f := 46) rfl ?_); refine gL (some 6) Tryz.func46 #[.slice A0 l0.length c0] ?_; (with_reducible refine (impl_ProgramOk.calls _ _ l0 false _ ?side1 ?side2 A3.out).mono ?_); (case side1 => exact cS HR0.out); (case side2 => exact HC0.out); rintro e w7 ⟨rfl, hb⟩; refine ⟨_, rfl, ?_⟩; replace HB := Aside0.mk (below_step bw hb); (try clear hb)))
  go_ret
  exact ⟨eR, bw⟩

/-! ### impl_IsAfter: function 106 -/
def impl_IsAfter.f (k : Nat) (l0 : List (S38)) (a1 : Int) (a2 : Int) : Option (Bool) := (impl_isNode.f l0 a1).bind fun t449 => (if t449 = true then ((impl_isNode.f l0 a2).bind fun t450 => (if t450 = true then ((impl_isAfter.f k l0 a1 a2).bind fun t451 => (some t451)) else (some false))) else (some false))
theorem impl_IsAfter.mono : ∀ a0 a1 a2 k, LeO (impl_IsAfter.f k a0 a1 a2) (impl_IsAfter.f (k + 1) a0 a1 a2) := by
 intro a0 a1 a2 k
 unfold impl_IsAfter.f
 repeat' first
   | (with_reducible exact impl_isAfter.mono _ _ _ _)
   | (with_reducible exact LeO.refl _)
   | (with_reducible exact LeO.none _)
   | (with_reducible refine LeO.ite ?_ ?_)
   | (with_reducible refine LeO.bind ?_ (fun _ => ?_))
   | exact impl_isAfter.mono _ _ _ _
   | exact LeO.none _
   | refine LeO.ite ?_ ?_
   | refine LeO.bind ?_ (fun _ => ?_)
set_option maxHeartbeats 8000000 in
set_option maxRecDepth 100000 in
theorem impl_IsAfter.calls (k : Nat) (A0 : Option Addr) (c0 : Nat) (l0 : List (S38)) (a1 : Int) (a2 : Int) (r : Bool) (w : World) (hr0 : Kd.C k38 w A0 l0.length l0) (hc0 : l0.length ≤ c0) (h : impl_IsAfter.f k l0 a1 a2 = some r) :
  Calls Tryz.prog 106 #[.slice A0 l0.length c0, .int .i64 a1, .int .i64 a2] w fun e w' => e = .returned (.bool r) ∧ Below w.heap.size w w' := by
 have HR0 := Aside0.mk hr0
 have HC0 := Aside0.mk hc0
 clear hr0 hc0
 have HB := Aside0.mk (Below.refl w.heap.size w)
 have H : ((impl_isNode.f l0 a1).bind fun t449 => (if t449 = true then ((impl_isNode.f l0 a2).bind fun t450 => (if t450 = true then ((impl_isAfter.f k l0 a1 a2).bind fun t451 => (some t451)) else (some false))) else (some false))) = some r := h
 clear h
 replace H := Option.bind_eq_some_iff.mp H
 obtain ⟨t449, A40, H⟩ := H
 replace H : (if t449 = true then ((impl_isNode.f l0 a2).bind fun t450 => (if t450 = true then ((impl_isAfter.f k l0 a1 a2).bind fun t451 => (some t451)) else (some false))) else (some false)) = some r := H
 have A4 := Aside0.mk A40
 clear A40
 by_cases c5 : t449 = true
 ·subst c5
  have H1 : ((impl_isNode.f l0 a2).bind fun t450 => (if t450 = true then ((impl_isAfter.f k l0 a1 a2).bind fun t451 => (some t451)) else (some false))) = some r := by rw [if_pos rfl] at H; exact H
  clear H
  have H := H1
  clear H1
  replace H := Option.bind_eq_some_iff.mp H
  obtain ⟨t450, A60, H⟩ := H
  replace H : (if t450 = true then ((impl_isAfter.f k l0 a1 a2).bind fun t451 => (some t451)) else (some false)) = some r := H
  have A6 := Aside0.mk A60
  clear A60
  by_cases c7 : t450 = true
  ·subst c7
   have H1 : ((impl_isAfter.f k l0 a1 a2).bind fun t451 => (some t451)) = some r := by rw [if_pos rfl] at H; exact H
   clear H
   have H := H1
   clear H1
   replace H := Option.bind_eq_some_iff.mp H
   obtain ⟨t451, A80, H⟩ := H
   replace H : (some t451) = some r := H
   have A8 := Aside0.mk A80
   clear A80
   obtain rfl := Option.some.inj H
   go_enter Tryz.func106, Tryz.ntmps106
   go_wp2_with (first | ((with_reducible refine gate_callee (f := 115) rfl ?_); refine gL (some 9) Tryz.func115 #[.slice A0 l0.length c0, .int .i64 a1] ?_; (with_reducible refine (impl_isNode.calls _ _ l0 a1 true _ ?side1 ?side2 A4.out).mono ?_); (case side1 => exact cS HR0.out); (case side2 => exact HC0.out); rintro e w9 ⟨rfl, hb⟩; refine ⟨_, rfl, ?_⟩; replace HB := Aside0.mk (below_step bw hb); (try clear hb)) | (go_at_call 115; (with_reducible refine (impl_isNode.calls _ _ l0 a2 true _ ?side1 ?side2 A6.out).mono ?_); (case side1 => repeat (first | exact (Kd.C_below HR0.out HB.out) | (with_reducible refine Kd.C_alloc ?_ _) | (with_reducible refine Kd.C_drewN ?_ _) | (with_reducible refine Kd.C_drew ?_))); (case side2 => exact HC0.out); rintro e w10 ⟨rfl, hb⟩; replace HB := Aside0.mk (below_step bw hb); (try clear hb)) | (go_at_call 105; (with_reducible refine (impl_isAfter.calls k _ _ l0 a1 a2 t451 _ ?side1 ?side2 A8.out).mono ?_); (case side1 => repeat (first | exact (Kd.C_below HR0.out HB.out) | (with_reducible refine Kd.C_alloc ?_ _) | (with_reducible refine Kd.C_drewN ?_ _) | (with_reducible refine Kd.C_drew ?_))); (case side2 => exact HC0.out); rintro e w11 ⟨rfl, hb⟩; replace HB := Aside0.mk (below_step bw hb); (try clear hb)))
   go_ret
   exact ⟨eR, bw⟩
  ·replace c7 := Bool.eq_false_iff.mpr c7
   subst c7
   have H1 : (some false) = some r := by rw [if_neg (show ¬ (false = true) by decide)] at H; exact H
   clear H
   have H := H1
   clear H1
   obtain rfl := Option.some.inj H
   go_enter Tryz.func106, Tryz.ntmps106
   go_wp2_with (first | ((with_reducible refine gate_callee (f := 115) rfl ?_); refine gL (some 9) Tryz.func115 #[.slice A0 l0.length c0, .int .i64 a1] ?_; (with_reducible refine (impl_isNode.calls _ _ l0 a1 true _ ?side1 ?side2 A4.out).mono ?_); (case side1 => exact cS HR0.out); (case side2 => exact HC0.out); rintro e w12 ⟨rfl, hb⟩; refine ⟨_, rfl, ?_⟩; replace HB := Aside0.mk (below_step bw hb); (try clear hb)) | (go_at_call 115; (with_reducible refine (impl_isNode.calls _ _ l0 a2 false _ ?side1 ?side2 A6.out).mono ?_); (case side1 => repeat (first | exact (Kd.C_below HR0.out HB.out) | (with_reducible refine Kd.C_alloc ?_ _) | (with_reducible refine Kd.C_drewN ?_ _) | (with_reducible refine Kd.C_drew ?_))); (case side2 => exact HC0.out); rintro e w13 ⟨rfl, hb⟩; replace HB := Aside0.mk (below_step bw hb); (try clear hb)))
   go_ret
   exact ⟨eR, bw⟩
 ·replace c5 := Bool.eq_false_iff.mpr c5
  subst c5
  have H1 : (some false) = some r := by rw [if_neg (show ¬ (false = true) by decide)] at H; exact H
  clear H
  have H := H1
  clear H1
  obtain rfl := Option.some.inj H
  go_enter Tryz.func106, Tryz.ntmps106
  go_wp2_with (first | ((with_reducible refine gate_callee (f := 115) rfl ?_); refine gL (some 9) Tryz.func115 #[.slice A0 l0.length c0, .int .i64 a1] ?_; (with_reducible refine (impl_isNode.calls _ _ l0 a1 false _ ?side1 ?side2 A4.out).mono ?_); (case side1 => exact cS HR0.out); (case side2 => exact HC0.out); rintro e w14 ⟨rfl, hb⟩; refine ⟨_, rfl, ?_⟩; replace HB := Aside0.mk (below_step bw hb); (try clear hb)))
  go_ret
  exact ⟨eR, bw⟩

/-! ### impl_AftersOf: function 88 -/
def impl_AftersOf.l0 : Nat → List (S38) → Int → List Int → Int → Int → Option (List Int)
 | 0, _, _, _, _, _ => none
 | k + 1, x0, x1, x5, x10, x11 => if x11 < x10 then ((impl_IsAfter.f k x0 x1 x11).bind fun t455 => (if t455 = true then (if x5.length < 17592186044416 then (impl_AftersOf.l0 k x0 x1 (x5 ++ [x11]) x10 (wrap64 (x11 + 1))) else (none)) else (impl_AftersOf.l0 k x0 x1 x5 x10 (wrap64 (x11 + 1))))) else (some x5)
def impl_AftersOf.f (k : Nat) (l0 : List (S38)) (a1 : Int) : Option (List Int) := impl_AftersOf.l0 k l0 a1 (([] : List Int)) (wrap64 ((l0.length : Int) + 1)) 0
theorem impl_AftersOf.mono_l : ∀ k, (∀ y0 y1 y2 y3 y4, LeO (impl_AftersOf.l0 k y0 y1 y2 y3 y4) (impl_AftersOf.l0 (k + 1) y0 y1 y2 y3 y4))
 | 0 => fun _ _ _ _ _ r h => by simp [impl_AftersOf.l0] at h
 | k + 1 => by
  have ih0 := impl_AftersOf.mono_l k
  ·intro y0 y1 y2 y3 y4
   unfold impl_AftersOf.l0
   repeat' first
   | (with_reducible exact ih0 _ _ _ _ _)
   | (with_reducible exact impl_IsAfter.mono _ _ _ _)
   | (with_reducible exact LeO.refl _)
   | (with_reducible exact LeO.none _)
   | (with_reducible refine LeO.ite ?_ ?_)
   | (with_reducible refine LeO.bind ?_ (fun _ => ?_))
   | exact ih0 _ _ _ _ _
   | exact impl_IsAfter.mono _ _ _ _
   | exact LeO.none _
   | refine LeO.ite ?_ ?_
   | refine LeO.bind ?_ (fun _ => ?_)
theorem impl_AftersOf.mono : ∀ a0 a1 k, LeO (impl_AftersOf.f k a0 a1) (impl_AftersOf.f (k + 1) a0 a1) := by
 intro a0 a1 k
 have ih0 := impl_AftersOf.mono_l k
 unfold impl_AftersOf.f
 repeat' first
   | (with_reducible exact ih0 _ _ _ _ _)
   | (with_reducible exact impl_IsAfter.mono _ _ _ _)
   | (with_reducible exact LeO.refl _)
   | (with_reducible exact LeO.none _)
   | (with_reducible refine LeO.ite ?_ ?_)
   | (with_reducible refine LeO.bind ?_ (fun _ => ?_))
   | exact ih0 _ _ _ _ _
   | exact impl_IsAfter.mono _ _ _ _
   | exact LeO.none _
   | refine LeO.ite ?_ ?_
   | refine LeO.bind ?_ (fun _ => ?_)
set_option maxHeartbeats 8000000 in
set_option maxRecDepth 100000 in
theorem impl_AftersOf.calls (k : Nat) (A0 : Option Addr) (c0 : Nat) (l0 : List (S38)) (a1 : Int) (r : List Int) (w : World) (hr0 : Kd.C k38 w A0 l0.length l0) (hc0 : l0.length ≤ c0) (h : impl_AftersOf.f k l0 a1 = some r) :
  Calls Tryz.prog 88 #[.slice A0 l0.length c0, .int .i64 a1] w fun e w' => ∃ v0_ : Value, e = .returned (v0_) ∧ Kd.R (Kd.int .i64) 3 w' w.heap.size (fun _ => True) v0_ r ∧ Below w.heap.size w w' := by
 have HR0 := Aside0.mk hr0
 have HC0 := Aside0.mk hc0
 clear hr0 hc0
 have HB := Aside0.mk (Below.refl w.heap.size w)
 have H : (impl_AftersOf.l0 k l0 a1 (([] : List Int)) (wrap64 ((l0.length : Int) + 1)) 0) = some r := h
 clear h
 obtain ⟨y452, hy452⟩ : ∃ y_ : List Int, y_ = (([] : List Int)) := ⟨_, rfl⟩
 replace H : (impl_AftersOf.l0 k l0 a1 y452 (wrap64 ((l0.length : Int) + 1)) 0) = some r := rP hy452 H
 have Ny452 := Aside0.mk hy452
 clear hy452
 have H' := Aside0.mk H
 clear H
 go_enter Tryz.func88, Tryz.ntmps88
 go_wp2_with (first | ((with_reducible refine gate_dst (N := 7) rfl ?_); refine Kd.R_lit (Kd.int .i64) _ 3 ?hg (N := 7) ?hd (xs := ([] : List Int)) (inner := []) (ok := fun _ => True) (okp := fun _ => True) ?hr ?hp (fun _ hk => hk) trivial (Below.refl _ _) (Nat.le_refl _) (by simp) ?_; (case hd => rfl); (case hg => rfl); (case hr => first | (go_simp; done) | (go_simp; rfl)); (case hp => exact (Reps.none _ _)); intro v453 w3 ho4 hb hg_ hnew_; clear hg_ hnew_; (first | rw [← Ny452.out] at ho4 | (simp only [Int.reduceToNat] at ho4; rw [← Ny452.out] at ho4)); have HO454 := Aside0.mk (Kd.R_lower ho4 (below_size bw)); replace HB := Aside0.mk (below_step bw hb); clear hb ho4))
 go_loopg [5, 11] k (fun kq v5 v11 w' => ∃ (x5_1 : List Int) (x11_1 : Int), v11 = .int .i64 x11_1 ∧ Aside0 (impl_AftersOf.l0 kq l0 a1 x5_1 (wrap64 ((l0.length : Int) + 1)) x11_1 = some r) ∧ Aside0 (kq ≤ k) ∧ Aside0 (Kd.R (Kd.int .i64) 3 w' w.heap.size (fun _ => True) v5 x5_1) ∧ Aside0 (Below w.heap.size w w'))
 case atStart => exact ⟨(y452), (0), tR, H', ⟨Nat.le_refl _⟩, ⟨rS HO454.out⟩, ⟨bw⟩⟩
 case round =>
  clear H'
  try clear p2
  obtain ⟨x5_1, x11_1, rfl, HA, HK1, HO_5, HB⟩ := hrel
  cases gk with
  | zero => exact absurd HA.out (by simp [impl_AftersOf.l0])
  | succ k1 =>
   have H := HA.out
   clear HA
   simp only [impl_AftersOf.l0] at H
   by_cases c5 : x11_1 < (wrap64 ((l0.length : Int) + 1))
   ·rw [if_pos c5] at H
    have c5b0 : decide (x11_1 < (wrap64 ((l0.length : Int) + 1))) = true := decide_eq_true c5
    clear c5
    replace H := Option.bind_eq_some_iff.mp H
    obtain ⟨t455, A60, H⟩ := H
    replace H : (if t455 = true then (if x5_1.length < 17592186044416 then (impl_AftersOf.l0 k1 l0 a1 (x5_1 ++ [x11_1]) (wrap64 ((l0.length : Int) + 1)) (wrap64 (x11_1 + 1))) else (none)) else (impl_AftersOf.l0 k1 l0 a1 x5_1 (wrap64 ((l0.length : Int) + 1)) (wrap64 (x11_1 + 1)))) = some r := H
    have A6 := Aside0.mk A60
    clear A60
    by_cases c7 : t455 = true
    ·subst c7
     have H1 : (if x5_1.length < 17592186044416 then (impl_AftersOf.l0 k1 l0 a1 (x5_1 ++ [x11_1]) (wrap64 ((l0.length : Int) + 1)) (wrap64 (x11_1 + 1))) else (none)) = some r := by rw [if_pos rfl] at H; exact H
     clear H
     have H := H1
     clear H1
     by_cases c8 : x5_1.length < 17592186044416
     ·rw [if_pos c8] at H
      have LMc8 := Aside0.mk c8
      clear c8
      obtain ⟨y456, hy456⟩ : ∃ y_ : List Int, y_ = (x5_1 ++ [x11_1]) := ⟨_, rfl⟩
      replace H : (impl_AftersOf.l0 k1 l0 a1 y456 (wrap64 ((l0.length : Int) + 1)) (wrap64 (x11_1 + 1))) = some r := rP hy456 H
      have Ny456 := Aside0.mk hy456
      clear hy456
      have H' := Aside0.mk H
      clear H
      go_wp2_with (first | ((with_reducible refine gate_callee (f := 106) rfl ?_); refine gL (some 17) Tryz.func106 #[.slice A0 l0.length c0, .int .i64 a1, .int .i64 x11_1] ?_; (with_reducible refine (impl_IsAfter.calls k1 _ _ l0 a1 x11_1 true _ ?side1 ?side2 A6.out).mono ?_); (case side1 => repeat (first | exact (Kd.C_below HR0.out HB.out) | (with_reducible refine Kd.C_alloc ?_ _) | (with_reducible refine Kd.C_drewN ?_ _) | (with_reducible refine Kd.C_drew ?_))); (case side2 => exact HC0.out); rintro e w9 ⟨rfl, hb⟩; refine ⟨_, rfl, ?_⟩; replace HO_5 := Aside0.mk (Kd.R_below (rS HO_5.out) hb); replace HB := Aside0.mk (below_step bw hb); (try clear hb)) | ((with_reducible refine gate_builtin (b := .append) (xs := #[.tmp 18, .tmp 20]) rfl ?_); at_builtin; refine Kd.R_append (Kd.int .i64) (w0 := w) w.heap.size rfl (.tmp 18) (.tmp 20) 31 3 (.int .i64 0) 8 rfl Tryz.underlying31 info3 rfl (by decide) (by omega) u5 x5_1 x11_1 [.int .i64 x11_1] (fun _ => True) (fun _ => False) rfl rfl ?aP (fun _ hk => hk.elim) ?aF ?aO ?aB ?aS ?aL ?_; (case aP => exact rfl); (case aB => exact bw); (case aF => exact (fun _ _ => trivial)); (case aO => exact (rS HO_5.out)); (case aS => exact (below_size bw)); (case aL => have := LMc8.out; omega); intro v457 w10 ho hb hg hat; rw [← Ny456.out] at ho; replace HB := Aside0.mk (hb); have HO458 := Aside0.mk (ho); clear HO_5; clear ho hb hg hat))
      go_roundg k1
      case measure => have := HK1.out; omega
      case rel => exact ⟨(y456), (wrap64 (x11_1 + 1)), tR, H', ⟨by have := HK1.out; omega⟩, ⟨rS HO458.out⟩, ⟨bw⟩⟩
     ·rw [if_neg c8] at H
      exact absurd H (by simp)
    ·replace c7 := Bool.eq_false_iff.mpr c7
     subst c7
     have H1 : (impl_AftersOf.l0 k1 l0 a1 x5_1 (wrap64 ((l0.length : Int) + 1)) (wrap64 (x11_1 + 1))) = some r := by rw [if_neg (show ¬ (false = true) by decide)] at H; exact H
     clear H
     have H := H1
     clear H1
     have H' := Aside0.mk H
     clear H
     go_wp2_with (first | ((with_reducible refine gate_callee (f := 106) rfl ?_); refine gL (some 17) Tryz.func106 #[.slice A0 l0.length c0, .int .i64 a1, .int .i64 x11_1] ?_; (with_reducible refine (impl_IsAfter.calls k1 _ _ l0 a1 x11_1 false _ ?side1 ?side2 A6.out).mono ?_); (case side1 => repeat (first | exact (Kd.C_below HR0.out HB.out) | (with_reducible refine Kd.C_alloc ?_ _) | (with_reducible refine Kd.C_drewN ?_ _) | (with_reducible refine Kd.C_drew ?_))); (case side2 => exact HC0.out); rintro e w11 ⟨rfl, hb⟩; refine ⟨_, rfl, ?_⟩; replace HO_5 := Aside0.mk (Kd.R_below (rS HO_5.out) hb); replace HB := Aside0.mk (below_step bw hb); (try clear hb)))
     go_roundg k1
     case measure => have := HK1.out; omega
     case rel => exact ⟨(x5_1), (wrap64 (x11_1 + 1)), tR, H', ⟨by have := HK1.out; omega⟩, ⟨rS HO_5.out⟩, ⟨bw⟩⟩
   ·rw [if_neg c5] at H
    have c5b0 : decide (x11_1 < (wrap64 ((l0.length : Int) + 1))) = false := decide_eq_false c5
    clear c5
    obtain rfl := Option.some.inj H
    go_wp2
    go_ret
    exact ⟨_, eR, rS HO_5.out, bw⟩

/-! ### impl_FirstAfter: function 69 -/
def impl_FirstAfter.f (k : Nat) (l0 : List S38) (a1 : Int) : Option (Int) := (impl_AftersOf.f k l0 a1).bind fun L => impl_firstOf.f k l0 (L.filter fun x => !(x == a1))
theorem impl_FirstAfter.mono : ∀ a0 a1 k, LeO (impl_FirstAfter.f k a0 a1) (impl_FirstAfter.f (k + 1) a0 a1) := by
  intro a0 a1 k
  unfold impl_FirstAfter.f
  exact LeO.bind (impl_AftersOf.mono _ _ _) fun _ => impl_firstOf.mono _ _ _
set_option maxHeartbeats 1000000 in
theorem impl_FirstAfter.fn (g : Nat) (a1 x : Int) (w : World) (hg : w.heap[g]? = some (.cells #[.int .i64 a1] 3 (0, 0))) :
    Calls Tryz.prog 89 #[.int .i64 x, .pointer (some ⟨g, 0, none⟩)] w fun e w' => e = .returned (.bool (x == a1)) ∧ Below w.heap.size w w' := by
  have hz := one_cellF hg
  clear hg
  go_enter Tryz.func89, Tryz.ntmps89
  go_wp2
  go_ret
  exact ⟨rfl, Below.refl _ _⟩
set_option maxHeartbeats 2000000 in
set_option maxRecDepth 100000 in
theorem impl_FirstAfter.calls (k : Nat) (A0 : Option Addr) (c0 : Nat) (l0 : List S38) (a1 : Int) (r : Int) (w : World) (hr0 : Kd.C k38 w A0 l0.length l0) (hc0 : l0.length ≤ c0) (h : impl_FirstAfter.f k l0 a1 = some r) :
    Calls Tryz.prog 69 #[.slice A0 l0.length c0, .int .i64 a1] w fun e w' => e = .returned (.int .i64 r) ∧ Below w.heap.size w w' := by
  obtain ⟨L, hL, h⟩ := Option.bind_eq_some_iff.mp h
  have HL := Aside0.mk hL
  have HF := Aside0.mk h
  have HR0 := Aside0.mk hr0
  have HC0 := Aside0.mk hc0
  clear hL h hr0 hc0
  have eg := Aside0.mk (enters_of Tryz.func89 (by kernel_rfl) rfl)
  go_enter Tryz.func69, Tryz.ntmps69
  go_wp2_with (first
    | ((with_reducible refine gate_dst (N := 3) rfl ?_); refine box_event ?hg (N := 3) ?hd (cs := #[.int .i64 a1]) (t := 3) ?hr ?_; (case hd => rfl); (case hg => rfl); (case hr => first | (go_simp; done) | (go_simp; rfl)); intro g3 hgb w1 hbox hb; have HB := Aside0.mk hb; have B3 := Aside0.mk hbox; have z3 := one_cellF hbox; clear hgb hb hbox)
    | (go_at_call 88; (with_reducible refine (impl_AftersOf.calls k A0 c0 l0 a1 L _ (Kd.C_below HR0.out HB.out) HC0.out HL.out).mono ?_); rintro e w2 ⟨v2, rfl, ho2, hb2⟩; have HO2 := Aside0.mk ho2; have HB2 := Aside0.mk hb2; clear ho2 hb2)
    | (go_at_call 87; refine (deleteFunc_int 89 #[.pointer (some ⟨g3, 0, none⟩)] eg.out (fun x => x == a1) v2 L w1 _ HB2.out HO2.out (fun x _ W hW => impl_FirstAfter.fn g3 a1 x W (blk_below B3.out hW))).mono ?_; rintro e w3 ⟨v3, rfl, ho3, hb3⟩; obtain ⟨A3, c3, e3⟩ := Kd.R_slice ho3; subst e3; have HC3 := Aside0.mk (Kd.R_reads' ho3).2; have HB3 := Aside0.mk (below_step HB.out hb3); clear ho3 hb3)
    | (go_at_call 86; (with_reducible refine (impl_firstOf.calls k A0 c0 l0 A3 c3 (L.filter fun x => !(x == a1)) r _ (Kd.C_below HR0.out HB3.out) HC0.out HC3.out.2 HC3.out.1 HF.out).mono ?_); rintro e w4 ⟨rfl, hb4⟩; have HB4 := Aside0.mk (below_step HB3.out hb4); clear hb4))
  go_ret
  exact ⟨rfl, HB4.out⟩

/-! ### impl_JoinOf: function 41 -/
def impl_JoinOf.l0 : Nat → List (S38) → Int → List Int → Int → Int → Option (Int)
 | 0, _, _, _, _, _ => none
 | k + 1, x0, x1, x13, x14, x15 => if x15 < x14 then (if 0 ≤ x15 then (if x15 < (x13.length : Int) then ((impl_reachesExit.f k x0 (rd x13 x15)).bind fun t464 => (if t464 = true then (impl_JoinOf.l0 k x0 x1 x13 x14 (wrap64 (x15 + 1))) else (some (x0.length : Int)))) else (none)) else (none)) else ((impl_FirstAfter.f k x0 x1).bind fun t465 => (some t465))
def impl_JoinOf.f (k : Nat) (l0 : List (S38)) (a1 : Int) : Option (Int) := (impl_isBranch.f k l0 a1).bind fun t459 => (if t459 = true then ((impl_next.f k l0 a1).bind fun t460 => (impl_JoinOf.l0 k l0 a1 t460 (t460.length : Int) 0)) else (some (-1)))
theorem impl_JoinOf.mono_l : ∀ k, (∀ y0 y1 y2 y3 y4, LeO (impl_JoinOf.l0 k y0 y1 y2 y3 y4) (impl_JoinOf.l0 (k + 1) y0 y1 y2 y3 y4))
 | 0 => fun _ _ _ _ _ r h => by simp [impl_JoinOf.l0] at h
 | k + 1 => by
  have ih0 := impl_JoinOf.mono_l k
  ·intro y0 y1 y2 y3 y4
   unfold impl_JoinOf.l0
   repeat' first
   | (with_reducible exact ih0 _ _ _ _ _)
   | (with_reducible exact impl_FirstAfter.mono _ _ _)
   | (with_reducible exact impl_isBranch.mono _ _ _)
   | (with_reducible exact impl_next.mono _ _ _)
   | (with_reducible exact impl_reachesExit.mono _ _ _)
   | (with_reducible exact LeO.refl _)
   | (with_reducible exact LeO.none _)
   | (with_reducible refine LeO.ite ?_ ?_)
   | (with_reducible refine LeO.bind ?_ (fun _ => ?_))
   | exact ih0 _ _ _ _ _
   | exact impl_FirstAfter.mono _ _ _
   | exact impl_isBranch.mono _ _ _
   | exact impl_next.mono _ _ _
   | exact impl_reachesExit.mono _ _ _
   | exact LeO.none _
   | refine LeO.ite ?_ ?_
   | refine LeO.bind ?_ (fun _ => ?_)
theorem impl_JoinOf.mono : ∀ a0 a1 k, LeO (impl_JoinOf.f k a0 a1) (impl_JoinOf.f (k + 1) a0 a1) := by
 intro a0 a1 k
 have ih0 := impl_JoinOf.mono_l k
 unfold impl_JoinOf.f
 repeat' first
   | (with_reducible exact ih0 _ _ _ _ _)
   | (with_reducible exact impl_FirstAfter.mono _ _ _)
   | (with_reducible exact impl_isBranch.mono _ _ _)
   | (with_reducible exact impl_next.mono _ _ _)
   | (with_reducible exact impl_reachesExit.mono _ _ _)
   | (with_reducible exact LeO.refl _)
   | (with_reducible exact LeO.none _)
   | (with_reducible refine LeO.ite ?_ ?_)
   | (with_reducible refine LeO.bind ?_ (fun _ => ?_))
   | exact ih0 _ _ _ _ _
   | exact impl_FirstAfter.mono _ _ _
   | exact impl_isBranch.mono _ _ _
   | exact impl_next.mono _ _ _
   | exact impl_reachesExit.mono _ _ _
   | exact LeO.none _
   | refine LeO.ite ?_ ?_
   | refine LeO.bind ?_ (fun _ => ?_)
set_option maxHeartbeats 8000000 in
set_option maxRecDepth 100000 in
theorem impl_JoinOf.calls (k : Nat) (A0 : Option Addr) (c0 : Nat) (l0 : List (S38)) (a1 : Int) (r : Int) (w : World) (hr0 : Kd.C k38 w A0 l0.length l0) (hc0 : l0.length ≤ c0) (h : impl_JoinOf.f k l0 a1 = some r) :
  Calls Tryz.prog 41 #[.slice A0 l0.length c0, .int .i64 a1] w fun e w' => e = .returned (.int .i64 r) ∧ Below w.heap.size w w' := by
 have HR0 := Aside0.mk hr0
 have HC0 := Aside0.mk hc0
 clear hr0 hc0
 have HB := Aside0.mk (Below.refl w.heap.size w)
 have H : ((impl_isBranch.f k l0 a1).bind fun t459 => (if t459 = true then ((impl_next.f k l0 a1).bind fun t460 => (impl_JoinOf.l0 k l0 a1 t460 (t460.length : Int) 0)) else (some (-1)))) = some r := h
 clear h
 replace H := Option.bind_eq_some_iff.mp H
 obtain ⟨t459, A30, H⟩ := H
 replace H : (if t459 = true then ((impl_next.f k l0 a1).bind fun t460 => (impl_JoinOf.l0 k l0 a1 t460 (t460.length : Int) 0)) else (some (-1))) = some r := H
 have A3 := Aside0.mk A30
 clear A30
 by_cases c4 : t459 = true
 ·subst c4
  have H1 : ((impl_next.f k l0 a1).bind fun t460 => (impl_JoinOf.l0 k l0 a1 t460 (t460.length : Int) 0)) = some r := by rw [if_pos rfl] at H; exact H
  clear H
  have H := H1
  clear H1
  replace H := Option.bind_eq_some_iff.mp H
  obtain ⟨t460, A50, H⟩ := H
  replace H : (impl_JoinOf.l0 k l0 a1 t460 (t460.length : Int) 0) = some r := H
  have A5 := Aside0.mk A50
  clear A50
  have H' := Aside0.mk H
  clear H
  go_enter Tryz.func41, Tryz.ntmps41
  go_wp2_with (first | ((with_reducible refine gate_callee (f := 24) rfl ?_); refine gL (some 9) Tryz.func24 #[.slice A0 l0.length c0, .int .i64 a1] ?_; (with_reducible refine (impl_isBranch.calls k _ _ l0 a1 true _ ?side1 ?side2 A3.out).mono ?_); (case side1 => exact cS HR0.out); (case side2 => exact HC0.out); rintro e w6 ⟨rfl, hb⟩; refine ⟨_, rfl, ?_⟩; replace HB := Aside0.mk (below_step bw hb); (try clear hb)) | ((with_reducible refine gate_callee (f := 38) rfl ?_); refine gL (some 13) Tryz.func38 #[.slice A0 l0.length c0, .int .i64 a1] ?_; (with_reducible refine (impl_next.calls k _ _ l0 a1 t460 _ ?side1 ?side2 A5.out).mono ?_); (case side1 => repeat (first | exact (Kd.C_below HR0.out HB.out) | (with_reducible refine Kd.C_alloc ?_ _) | (with_reducible refine Kd.C_drewN ?_ _) | (with_reducible refine Kd.C_drew ?_))); (case side2 => exact HC0.out); rintro e w7 ⟨v461, rfl, ho0, hb⟩; refine ⟨_, rfl, ?_⟩; have HO462 := Aside0.mk (Kd.R_lower ho0 (below_size bw)); replace HB := Aside0.mk (below_step bw hb); (try clear hb); (try clear ho0); obtain ⟨Ao8, co8, eo8⟩ := Kd.R_slice HO462.out; subst eo8))
  go_loopg [15] k (fun kq v15 w' => ∃ (x15_1 : Int), v15 = .int .i64 x15_1 ∧ Aside0 (impl_JoinOf.l0 kq l0 a1 t460 (t460.length : Int) x15_1 = some r) ∧ Aside0 (kq ≤ k) ∧ Aside0 (Kd.R (Kd.int .i64) 3 w' w.heap.size (fun _ => True) (.slice Ao8 t460.length co8) t460) ∧ Aside0 (Below w.heap.size w w'))
  case atStart => exact ⟨(0), tR, H', ⟨Nat.le_refl _⟩, ⟨rS HO462.out⟩, ⟨bw⟩⟩
  case round =>
   clear H'
   try clear c2;try clear p2;try clear c3;try clear c4
   obtain ⟨x15_1, rfl, HA, HK1, HO_13, HB⟩ := hrel
   cases gk with
   | zero => exact absurd HA.out (by simp [impl_JoinOf.l0])
   | succ k1 =>
    have H := HA.out
    clear HA
    simp only [impl_JoinOf.l0] at H
    by_cases c9 : x15_1 < (t460.length : Int)
    ·rw [if_pos c9] at H
     have c9b0 : decide (x15_1 < (t460.length : Int)) = true := decide_eq_true c9
     clear c9
     by_cases c10 : 0 ≤ x15_1
     ·rw [if_pos c10] at H
      have c10b0 : decide (0 ≤ x15_1) = true := decide_eq_true c10
      clear c10
      by_cases c11 : x15_1 < (t460.length : Int)
      ·rw [if_pos c11] at H
       have c11b0 : decide (x15_1 < (t460.length : Int)) = true := decide_eq_true c11
       clear c11
       replace H := Option.bind_eq_some_iff.mp H
       obtain ⟨t464, A120, H⟩ := H
       replace H : (if t464 = true then (impl_JoinOf.l0 k1 l0 a1 t460 (t460.length : Int) (wrap64 (x15_1 + 1))) else (some (l0.length : Int))) = some r := H
       have A12 := Aside0.mk A120
       clear A120
       by_cases c13 : t464 = true
       ·subst c13
        have H1 : (impl_JoinOf.l0 k1 l0 a1 t460 (t460.length : Int) (wrap64 (x15_1 + 1))) = some r := by rw [if_pos rfl] at H; exact H
        clear H
        have H := H1
        clear H1
        have H' := Aside0.mk H
        clear H
        have p463 : 0 ≤ (x15_1 : Int) := dT
        have q463 : x15_1 < (t460.length : Int) := dT
        obtain ⟨ad463, e463, hx463_0⟩ := Kd.at_int (Kd.R_reads' HO_13.out).2.2 x15_1 p463 q463
        cases e463
        replace p463 := eq_true p463
        replace q463 := eq_true q463
        go_wp2_with (first | ((with_reducible refine gate_callee (f := 68) rfl ?_); refine gL (some 21) Tryz.func68 #[.slice A0 l0.length c0, .int .i64 (rd t460 x15_1)] ?_; (with_reducible refine (impl_reachesExit.calls k1 _ _ l0 (rd t460 x15_1) true _ ?side1 ?side2 A12.out).mono ?_); (case side1 => repeat (first | exact (Kd.C_below HR0.out HB.out) | (with_reducible refine Kd.C_alloc ?_ _) | (with_reducible refine Kd.C_drewN ?_ _) | (with_reducible refine Kd.C_drew ?_))); (case side2 => exact HC0.out); rintro e w14 ⟨rfl, hb⟩; refine ⟨_, rfl, ?_⟩; replace HO_13 := Aside0.mk (Kd.R_below (rS HO_13.out) hb); replace HB := Aside0.mk (below_step bw hb); (try clear hb)))
        go_roundg k1
        case measure => have := HK1.out; omega
        case rel => exact ⟨(wrap64 (x15_1 + 1)), tR, H', ⟨by have := HK1.out; omega⟩, ⟨rS HO_13.out⟩, ⟨bw⟩⟩
       ·replace c13 := Bool.eq_false_iff.mpr c13
        subst c13
        have H1 : (some (l0.length : Int)) = some r := by rw [if_neg (show ¬ (false = true) by decide)] at H; exact H
        clear H
        have H := H1
        clear H1
        obtain rfl := Option.some.inj H
        have p463 : 0 ≤ (x15_1 : Int) := dT
        have q463 : x15_1 < (t460.length : Int) := dT
        obtain ⟨ad463, e463, hx463_0⟩ := Kd.at_int (Kd.R_reads' HO_13.out).2.2 x15_1 p463 q463
        cases e463
        replace p463 := eq_true p463
        replace q463 := eq_true q463
        go_wp2_with (first | ((with_reducible refine gate_callee (f := 68) rfl ?_); refine gL (some 21) Tryz.func68 #[.slice A0 l0.length c0, .int .i64 (rd t460 x15_1)] ?_; (with_reducible refine (impl_reachesExit.calls k1 _ _ l0 (rd t460 x15_1) false _ ?side1 ?side2 A12.out).mono ?_); (case side1 => repeat (first | exact (Kd.C_below HR0.out HB.out) | (with_reducible refine Kd.C_alloc ?_ _) | (with_reducible refine Kd.C_drewN ?_ _) | (with_reducible refine Kd.C_drew ?_))); (case side2 => exact HC0.out); rintro e w15 ⟨rfl, hb⟩; refine ⟨_, rfl, ?_⟩; replace HO_13 := Aside0.mk (Kd.R_below (rS HO_13.out) hb); replace HB := Aside0.mk (below_step bw hb); (try clear hb)))
        go_ret
        exact ⟨eR, bw⟩
      ·rw [if_neg c11] at H
       exact absurd H (by simp)
     ·rw [if_neg c10] at H
      exact absurd H (by simp)
    ·rw [if_neg c9] at H
     have c9b0 : decide (x15_1 < (t460.length : Int)) = false := decide_eq_false c9
     clear c9
     replace H := Option.bind_eq_some_iff.mp H
     obtain ⟨t465, A160, H⟩ := H
     replace H : (some t465) = some r := H
     have A16 := Aside0.mk A160
     clear A160
     obtain rfl := Option.some.inj H
     go_wp2_with (first | ((with_reducible refine gate_callee (f := 69) rfl ?_); refine gL (some 28) Tryz.func69 #[.slice A0 l0.length c0, .int .i64 a1] ?_; (with_reducible refine (impl_FirstAfter.calls k1 _ _ l0 a1 t465 _ ?side1 ?side2 A16.out).mono ?_); (case side1 => repeat (first | exact (Kd.C_below HR0.out HB.out) | (with_reducible refine Kd.C_alloc ?_ _) | (with_reducible refine Kd.C_drewN ?_ _) | (with_reducible refine Kd.C_drew ?_))); (case side2 => exact HC0.out); rintro e w17 ⟨rfl, hb⟩; refine ⟨_, rfl, ?_⟩; replace HO_13 := Aside0.mk (Kd.R_below (rS HO_13.out) hb); replace HB := Aside0.mk (below_step bw hb); (try clear hb)))
     go_ret
     exact ⟨eR, bw⟩
 ·replace c4 := Bool.eq_false_iff.mpr c4
  subst c4
  have H1 : (some (-1)) = some r := by rw [if_neg (show ¬ (false = true) by decide)] at H; exact H
  clear H
  have H := H1
  clear H1
  obtain rfl := Option.some.inj H
  go_enter Tryz.func41, Tryz.ntmps41
  go_wp2_with (first | ((with_reducible refine gate_callee (f := 24) rfl ?_); refine gL (some 9) Tryz.func24 #[.slice A0 l0.length c0, .int .i64 a1] ?_; (with_reducible refine (impl_isBranch.calls k _ _ l0 a1 false _ ?side1 ?side2 A3.out).mono ?_); (case side1 => exact cS HR0.out); (case side2 => exact HC0.out); rintro e w18 ⟨rfl, hb⟩; refine ⟨_, rfl, ?_⟩; replace HB := Aside0.mk (below_step bw hb); (try clear hb)))
  go_ret
  exact ⟨eR, bw⟩

/-! ### impl_trues: function 66 -/
def impl_trues.l0 : Nat → List Int → List Bool → Int → Int → Option (List Int)
 | 0, _, _, _, _ => none
 | k + 1, x3, x7, x8, x9 => if x9 < x8 then (if 0 ≤ x9 then (if x9 < (x7.length : Int) then (if rdOf false x7 x9 = true then (if x3.length < 17592186044416 then (impl_trues.l0 k (x3 ++ [x9]) x7 x8 (wrap64 (x9 + 1))) else (none)) else (impl_trues.l0 k x3 x7 x8 (wrap64 (x9 + 1)))) else (none)) else (none)) else (some x3)
def impl_trues.f (k : Nat) (l0 : List Bool) : Option (List Int) := impl_trues.l0 k (([] : List Int)) l0 (l0.length : Int) 0
theorem impl_trues.mono_l : ∀ k, (∀ y0 y1 y2 y3, LeO (impl_trues.l0 k y0 y1 y2 y3) (impl_trues.l0 (k + 1) y0 y1 y2 y3))
 | 0 => fun _ _ _ _ r h => by simp [impl_trues.l0] at h
 | k + 1 => by
  have ih0 := impl_trues.mono_l k
  ·intro y0 y1 y2 y3
   unfold impl_trues.l0
   repeat' first
   | (with_reducible exact ih0 _ _ _ _)
   | (with_reducible exact LeO.refl _)
   | (with_reducible exact LeO.none _)
   | (with_reducible refine LeO.ite ?_ ?_)
   | (with_reducible refine LeO.bind ?_ (fun _ => ?_))
   | exact ih0 _ _ _ _
   | exact LeO.none _
   | refine LeO.ite ?_ ?_
   | refine LeO.bind ?_ (fun _ => ?_)
theorem impl_trues.mono : ∀ a0 k, LeO (impl_trues.f k a0) (impl_trues.f (k + 1) a0) := by
 intro a0 k
 have ih0 := impl_trues.mono_l k
 unfold impl_trues.f
 repeat' first
   | (with_reducible exact ih0 _ _ _ _)
   | (with_reducible exact LeO.refl _)
   | (with_reducible exact LeO.none _)
   | (with_reducible refine LeO.ite ?_ ?_)
   | (with_reducible refine LeO.bind ?_ (fun _ => ?_))
   | exact ih0 _ _ _ _
   | exact LeO.none _
   | refine LeO.ite ?_ ?_
   | refine LeO.bind ?_ (fun _ => ?_)
set_option maxHeartbeats 8000000 in
set_option maxRecDepth 100000 in
theorem impl_trues.calls (k : Nat) (A0 : Option Addr) (c0 : Nat) (l0 : List Bool) (r : List Int) (w : World) (hr0 : Kd.C Kd.bool w A0 l0.length l0) (hc0 : l0.length ≤ c0) (h : impl_trues.f k l0 = some r) :
  Calls Tryz.prog 66 #[.slice A0 l0.length c0] w fun e w' => ∃ v0_ : Value, e = .returned (v0_) ∧ Kd.R (Kd.int .i64) 3 w' w.heap.size (fun _ => True) v0_ r ∧ Below w.heap.size w w' := by
 have HR0 := Aside0.mk hr0
 have HC0 := Aside0.mk hc0
 clear hr0 hc0
 have HB := Aside0.mk (Below.refl w.heap.size w)
 have H : (impl_trues.l0 k (([] : List Int)) l0 (l0.length : Int) 0) = some r := h
 clear h
 obtain ⟨y466, hy466⟩ : ∃ y_ : List Int, y_ = (([] : List Int)) := ⟨_, rfl⟩
 replace H : (impl_trues.l0 k y466 l0 (l0.length : Int) 0) = some r := rP hy466 H
 have Ny466 := Aside0.mk hy466
 clear hy466
 have H' := Aside0.mk H
 clear H
 go_enter Tryz.func66, Tryz.ntmps66
 go_wp2_with (first | ((with_reducible refine gate_dst (N := 6) rfl ?_); refine Kd.R_lit (Kd.int .i64) _ 3 ?hg (N := 6) ?hd (xs := ([] : List Int)) (inner := []) (ok := fun _ => True) (okp := fun _ => True) ?hr ?hp (fun _ hk => hk) trivial (Below.refl _ _) (Nat.le_refl _) (by simp) ?_; (case hd => rfl); (case hg => rfl); (case hr => first | (go_simp; done) | (go_simp; rfl)); (case hp => exact (Reps.none _ _)); intro v467 w2 ho3 hb hg_ hnew_; clear hg_ hnew_; (first | rw [← Ny466.out] at ho3 | (simp only [Int.reduceToNat] at ho3; rw [← Ny466.out] at ho3)); have HO468 := Aside0.mk (Kd.R_lower ho3 (below_size bw)); replace HB := Aside0.mk (below_step bw hb); clear hb ho3))
 go_loopg [3, 9] k (fun kq v3 v9 w' => ∃ (x3_1 : List Int) (x9_1 : Int), v9 = .int .i64 x9_1 ∧ Aside0 (impl_trues.l0 kq x3_1 l0 (l0.length : Int) x9_1 = some r) ∧ Aside0 (kq ≤ k) ∧ Aside0 (Kd.R (Kd.int .i64) 3 w' w.heap.size (fun _ => True) v3 x3_1) ∧ Aside0 (Below w.heap.size w w'))
 case atStart => exact ⟨(y466), (0), tR, H', ⟨Nat.le_refl _⟩, ⟨rS HO468.out⟩, ⟨bw⟩⟩
 case round =>
  clear H'
  try clear p2
  obtain ⟨x3_1, x9_1, rfl, HA, HK1, HO_3, HB⟩ := hrel
  cases gk with
  | zero => exact absurd HA.out (by simp [impl_trues.l0])
  | succ k1 =>
   have H := HA.out
   clear HA
   simp only [impl_trues.l0] at H
   by_cases c4 : x9_1 < (l0.length : Int)
   ·rw [if_pos c4] at H
    have c4b0 : decide (x9_1 < (l0.length : Int)) = true := decide_eq_true c4
    clear c4
    by_cases c5 : 0 ≤ x9_1
    ·rw [if_pos c5] at H
     have c5b0 : decide (0 ≤ x9_1) = true := decide_eq_true c5
     clear c5
     by_cases c6 : x9_1 < (l0.length : Int)
     ·rw [if_pos c6] at H
      have c6b0 : decide (x9_1 < (l0.length : Int)) = true := decide_eq_true c6
      clear c6
      obtain ⟨bq7, hbq7⟩ : ∃ b_ : Bool, b_ = (rdOf false l0 x9_1) := ⟨_, rfl⟩
      replace H : (if bq7 = true then (if x3_1.length < 17592186044416 then (impl_trues.l0 k1 (x3_1 ++ [x9_1]) l0 (l0.length : Int) (wrap64 (x9_1 + 1))) else (none)) else (impl_trues.l0 k1 x3_1 l0 (l0.length : Int) (wrap64 (x9_1 + 1)))) = some r := by rw [← hbq7] at H; exact H
      have Nbq7 := Aside0.mk hbq7
      clear hbq7
      by_cases c8 : bq7 = true
      ·subst c8
       have H1 : (if x3_1.length < 17592186044416 then (impl_trues.l0 k1 (x3_1 ++ [x9_1]) l0 (l0.length : Int) (wrap64 (x9_1 + 1))) else (none)) = some r := by rw [if_pos rfl] at H; exact H
       clear H
       have H := H1
       clear H1
       by_cases c9 : x3_1.length < 17592186044416
       ·rw [if_pos c9] at H
        have LMc9 := Aside0.mk c9
        clear c9
        obtain ⟨y470, hy470⟩ : ∃ y_ : List Int, y_ = (x3_1 ++ [x9_1]) := ⟨_, rfl⟩
        replace H : (impl_trues.l0 k1 y470 l0 (l0.length : Int) (wrap64 (x9_1 + 1))) = some r := rP hy470 H
        have Ny470 := Aside0.mk hy470
        clear hy470
        have H' := Aside0.mk H
        clear H
        have p469 : 0 ≤ (x9_1 : Int) := dT
        have q469 : x9_1 < (l0.length : Int) := dT
        obtain ⟨ad469, e469, hx469_0⟩ := Kd.at_bool HR0.out x9_1 p469 q469
        (try rw [← Nbq7.out] at hx469_0)
        cases e469
        replace hx469_0 := (HB.out.cell (World.block_lt_of_cell? w _ hx469_0)).trans hx469_0
        replace p469 := eq_true p469
        replace q469 := eq_true q469
        go_wp2_with (first | ((with_reducible refine gate_builtin (b := .append) (xs := #[.tmp 15, .tmp 17]) rfl ?_); at_builtin; refine Kd.R_append (Kd.int .i64) (w0 := w) w.heap.size rfl (.tmp 15) (.tmp 17) 31 3 (.int .i64 0) 8 rfl Tryz.underlying31 info3 rfl (by decide) (by omega) u3 x3_1 x9_1 [.int .i64 x9_1] (fun _ => True) (fun _ => False) rfl rfl ?aP (fun _ hk => hk.elim) ?aF ?aO ?aB ?aS ?aL ?_; (case aP => exact rfl); (case aB => exact bw); (case aF => exact (fun _ _ => trivial)); (case aO => exact (rS HO_3.out)); (case aS => exact (below_size bw)); (case aL => have := LMc9.out; omega); intro v471 w10 ho hb hg hat; rw [← Ny470.out] at ho; replace HB := Aside0.mk (hb); have HO472 := Aside0.mk (ho); clear HO_3; clear ho hb hg hat))
        go_roundg k1
        case measure => have := HK1.out; omega
        case rel => exact ⟨(y470), (wrap64 (x9_1 + 1)), tR, H', ⟨by have := HK1.out; omega⟩, ⟨rS HO472.out⟩, ⟨bw⟩⟩
       ·rw [if_neg c9] at H
        exact absurd H (by simp)
      ·replace c8 := Bool.eq_false_iff.mpr c8
       subst c8
       have H1 : (impl_trues.l0 k1 x3_1 l0 (l0.length : Int) (wrap64 (x9_1 + 1))) = some r := by rw [if_neg (show ¬ (false = true) by decide)] at H; exact H
       clear H
       have H := H1
       clear H1
       have H' := Aside0.mk H
       clear H
       have p469 : 0 ≤ (x9_1 : Int) := dT
       have q469 : x9_1 < (l0.length : Int) := dT
       obtain ⟨ad469, e469, hx469_0⟩ := Kd.at_bool HR0.out x9_1 p469 q469
       (try rw [← Nbq7.out] at hx469_0)
       cases e469
       replace hx469_0 := (HB.out.cell (World.block_lt_of_cell? w _ hx469_0)).trans hx469_0
       replace p469 := eq_true p469
       replace q469 := eq_true q469
       go_wp2
       go_roundg k1
       case measure => have := HK1.out; omega
       case rel => exact ⟨(x3_1), (wrap64 (x9_1 + 1)), tR, H', ⟨by have := HK1.out; omega⟩, ⟨rS HO_3.out⟩, ⟨bw⟩⟩
     ·rw [if_neg c6] at H
      exact absurd H (by simp)
    ·rw [if_neg c5] at H
     exact absurd H (by simp)
   ·rw [if_neg c4] at H
    have c4b0 : decide (x9_1 < (l0.length : Int)) = false := decide_eq_false c4
    clear c4
    obtain rfl := Option.some.inj H
    go_wp2
    go_ret
    exact ⟨_, eR, rS HO_3.out, bw⟩

/-! ### impl_InsideOf: function 39 -/
def impl_InsideOf.f (k : Nat) (l0 : List (S38)) (a1 : Int) : Option (List Int) := (impl_isBranch.f k l0 a1).bind fun t473 => (if t473 = true then ((impl_next.f k l0 a1).bind fun t474 => ((impl_JoinOf.f k l0 a1).bind fun t477 => ((impl_reached.f k l0 t474 t477).bind fun t478 => ((impl_trues.f k t478).bind fun t481 => (some t481))))) else (some ([] : List Int)))
theorem impl_InsideOf.mono : ∀ a0 a1 k, LeO (impl_InsideOf.f k a0 a1) (impl_InsideOf.f (k + 1) a0 a1) := by
 intro a0 a1 k
 unfold impl_InsideOf.f
 repeat' first
   | (with_reducible exact impl_JoinOf.mono _ _ _)
   | (with_reducible exact impl_isBranch.mono _ _ _)
   | (with_reducible exact impl_next.mono _ _ _)
   | (with_reducible exact impl_reached.mono _ _ _ _)
   | (with_reducible exact impl_trues.mono _ _)
   | (with_reducible exact LeO.refl _)
   | (with_reducible exact LeO.none _)
   | (with_reducible refine LeO.ite ?_ ?_)
   | (with_reducible refine LeO.bind ?_ (fun _ => ?_))
   | exact impl_JoinOf.mono _ _ _
   | exact impl_isBranch.mono _ _ _
   | exact impl_next.mono _ _ _
   | exact impl_reached.mono _ _ _ _
   | exact impl_trues.mono _ _
   | exact LeO.none _
   | refine LeO.ite ?_ ?_
   | refine LeO.bind ?_ (fun _ => ?_)
set_option maxHeartbeats 8000000 in
set_option maxRecDepth 100000 in
theorem impl_InsideOf.calls (k : Nat) (A0 : Option Addr) (c0 : Nat) (l0 : List (S38)) (a1 : Int) (r : List Int) (w : World) (hr0 : Kd.C k38 w A0 l0.length l0) (hc0 : l0.length ≤ c0) (h : impl_InsideOf.f k l0 a1 = some r) :
  Calls Tryz.prog 39 #[.slice A0 l0.length c0, .int .i64 a1] w fun e w' => ∃ v0_ : Value, e = .returned (v0_) ∧ Kd.R (Kd.int .i64) 3 w' w.heap.size (fun _ => True) v0_ r ∧ Below w.heap.size w w' := by
 have HR0 := Aside0.mk hr0
 have HC0 := Aside0.mk hc0
 clear hr0 hc0
 have HB := Aside0.mk (Below.refl w.heap.size w)
 have H : ((impl_isBranch.f k l0 a1).bind fun t473 => (if t473 = true then ((impl_next.f k l0 a1).bind fun t474 => ((impl_JoinOf.f k l0 a1).bind fun t477 => ((impl_reached.f k l0 t474 t477).bind fun t478 => ((impl_trues.f k t478).bind fun t481 => (some t481))))) else (some ([] : List Int)))) = some r := h
 clear h
 replace H := Option.bind_eq_some_iff.mp H
 obtain ⟨t473, A30, H⟩ := H
 replace H : (if t473 = true then ((impl_next.f k l0 a1).bind fun t474 => ((impl_JoinOf.f k l0 a1).bind fun t477 => ((impl_reached.f k l0 t474 t477).bind fun t478 => ((impl_trues.f k t478).bind fun t481 => (some t481))))) else (some ([] : List Int))) = some r := H
 have A3 := Aside0.mk A30
 clear A30
 by_cases c4 : t473 = true
 ·subst c4
  have H1 : ((impl_next.f k l0 a1).bind fun t474 => ((impl_JoinOf.f k l0 a1).bind fun t477 => ((impl_reached.f k l0 t474 t477).bind fun t478 => ((impl_trues.f k t478).bind fun t481 => (some t481))))) = some r := by rw [if_pos rfl] at H; exact H
  clear H
  have H := H1
  clear H1
  replace H := Option.bind_eq_some_iff.mp H
  obtain ⟨t474, A50, H⟩ := H
  replace H : ((impl_JoinOf.f k l0 a1).bind fun t477 => ((impl_reached.f k l0 t474 t477).bind fun t478 => ((impl_trues.f k t478).bind fun t481 => (some t481)))) = some r := H
  have A5 := Aside0.mk A50
  clear A50
  replace H := Option.bind_eq_some_iff.mp H
  obtain ⟨t477, A60, H⟩ := H
  replace H : ((impl_reached.f k l0 t474 t477).bind fun t478 => ((impl_trues.f k t478).bind fun t481 => (some t481))) = some r := H
  have A6 := Aside0.mk A60
  clear A60
  replace H := Option.bind_eq_some_iff.mp H
  obtain ⟨t478, A70, H⟩ := H
  replace H : ((impl_trues.f k t478).bind fun t481 => (some t481)) = some r := H
  have A7 := Aside0.mk A70
  clear A70
  replace H := Option.bind_eq_some_iff.mp H
  obtain ⟨t481, A80, H⟩ := H
  replace H : (some t481) = some r := H
  have A8 := Aside0.mk A80
  clear A80
  obtain rfl := Option.some.inj H
  go_enter Tryz.func39, Tryz.ntmps39
  go_wp2_with (first | ((with_reducible refine gate_callee (f := 24) rfl ?_); refine gL (some 7) Tryz.func24 #[.slice A0 l0.length c0, .int .i64 a1] ?_; (with_reducible refine (impl_isBranch.calls k _ _ l0 a1 true _ ?side1 ?side2 A3.out).mono ?_); (case side1 => exact cS HR0.out); (case side2 => exact HC0.out); rintro e w9 ⟨rfl, hb⟩; refine ⟨_, rfl, ?_⟩; replace HB := Aside0.mk (below_step bw hb); (try clear hb)) | ((with_reducible refine gate_callee (f := 38) rfl ?_); refine gL (some 12) Tryz.func38 #[.slice A0 l0.length c0, .int .i64 a1] ?_; (with_reducible refine (impl_next.calls k _ _ l0 a1 t474 _ ?side1 ?side2 A5.out).mono ?_); (case side1 => repeat (first | exact (Kd.C_below HR0.out HB.out) | (with_reducible refine Kd.C_alloc ?_ _) | (with_reducible refine Kd.C_drewN ?_ _) | (with_reducible refine Kd.C_drew ?_))); (case side2 => exact HC0.out); rintro e w10 ⟨v475, rfl, ho0, hb⟩; refine ⟨_, rfl, ?_⟩; have HO476 := Aside0.mk (Kd.R_lower ho0 (below_size bw)); replace HB := Aside0.mk (below_step bw hb); (try clear hb); (try clear ho0)) | ((with_reducible refine gate_callee (f := 41) rfl ?_); refine gL (some 15) Tryz.func41 #[.slice A0 l0.length c0, .int .i64 a1] ?_; (with_reducible refine (impl_JoinOf.calls k _ _ l0 a1 t477 _ ?side1 ?side2 A6.out).mono ?_); (case side1 => repeat (first | exact (Kd.C_below HR0.out HB.out) | (with_reducible refine Kd.C_alloc ?_ _) | (with_reducible refine Kd.C_drewN ?_ _) | (with_reducible refine Kd.C_drew ?_))); (case side2 => exact HC0.out); rintro e w11 ⟨rfl, hb⟩; refine ⟨_, rfl, ?_⟩; replace HO476 := Aside0.mk (Kd.R_below (rS HO476.out) hb); replace HB := Aside0.mk (below_step bw hb); (try clear hb); obtain ⟨Ao12, co12, eo12⟩ := Kd.R_slice HO476.out; subst eo12) | ((with_reducible refine gate_callee (f := 67) rfl ?_); refine gL (some 16) Tryz.func67 #[.slice A0 l0.length c0, .slice Ao12 t474.length co12, .int .i64 t477] ?_; (with_reducible refine (impl_reached.calls k _ _ l0 _ _ t474 t477 t478 _ ?side1 ?side2 ?side3 ?side4 A7.out).mono ?_); (case side1 => repeat (first | exact (Kd.C_below HR0.out HB.out) | (with_reducible refine Kd.C_alloc ?_ _) | (with_reducible refine Kd.C_drewN ?_ _) | (with_reducible refine Kd.C_drew ?_))); (case side2 => exact HC0.out); (case side3 => exact cS (Kd.R_reads' HO476.out).2.2); (case side4 => exact (Kd.R_reads' HO476.out).2.1); rintro e w13 ⟨v479, rfl, ho0, hb⟩; refine ⟨_, rfl, ?_⟩; replace HO476 := Aside0.mk (Kd.R_below (rS HO476.out) hb); have HO480 := Aside0.mk (Kd.R_lower ho0 (below_size bw)); replace HB := Aside0.mk (below_step bw hb); (try clear hb); (try clear ho0); obtain ⟨Ao14, co14, eo14⟩ := Kd.R_slice HO480.out; subst eo14) | ((with_reducible refine gate_callee (f := 66) rfl ?_); refine gL (some 17) Tryz.func66 #[.slice Ao14 t478.length co14] ?_; (with_reducible refine (impl_trues.calls k _ _ t478 t481 _ ?side1 ?side2 A8.out).mono ?_); (case side1 => exact cS (Kd.R_reads' HO480.out).2.2); (case side2 => exact (Kd.R_reads' HO480.out).2.1); rintro e w15 ⟨v482, rfl, ho0, hb⟩; refine ⟨_, rfl, ?_⟩; replace HO480 := Aside0.mk (Kd.R_below (rS HO480.out) hb); have HO483 := Aside0.mk (Kd.R_lower (Kd.R_new' ho0 (Kd.R_lt (rS HO476.out))) (below_size bw)); replace HO476 := Aside0.mk (Kd.R_elder' (rS HO476.out) (Kd.R_base ho0) hb); replace HB := Aside0.mk (below_step bw hb); (try clear hb); (try clear ho0)))
  go_ret
  exact ⟨_, eR, by (with_reducible repeat (first | apply Kd.R_alloc | apply Kd.R_drewN | apply Kd.R_drew)); exact Kd.R_mono HO483.out (fun _ hk => trivial), bw⟩
 ·replace c4 := Bool.eq_false_iff.mpr c4
  subst c4
  have H1 : (some ([] : List Int)) = some r := by rw [if_neg (show ¬ (false = true) by decide)] at H; exact H
  clear H
  have H := H1
  clear H1
  obtain rfl := Option.some.inj H
  go_enter Tryz.func39, Tryz.ntmps39
  go_wp2_with (first | ((with_reducible refine gate_callee (f := 24) rfl ?_); refine gL (some 7) Tryz.func24 #[.slice A0 l0.length c0, .int .i64 a1] ?_; (with_reducible refine (impl_isBranch.calls k _ _ l0 a1 false _ ?side1 ?side2 A3.out).mono ?_); (case side1 => exact cS HR0.out); (case side2 => exact HC0.out); rintro e w16 ⟨rfl, hb⟩; refine ⟨_, rfl, ?_⟩; replace HB := Aside0.mk (below_step bw hb); (try clear hb)))
  go_ret
  exact ⟨_, eR, by first | exact Kd.R_nil _ _ _ _ _ | exact Kd.N_nil _ _ _ _ _ | exact Kd.V_nil _ _ _ _ _ | exact Kd.Q_nil _ _ _ _ _ | exact Kd.S_nil _ _ _ _ _, bw⟩

end Go.Proofs.YtdppehpcpofeoaaGreat.PFnExactNeverSplits
