-- Written by myprint.py (a program of this session, over the kit's print): not trusted, Lean checks it.
import Derived.Test.YtdppehpcpofeoaaPFnUniformSetsx0
import Derived.Test.YtdppehpcpofeoaaPFnUniformSetsx2
namespace Go.Proofs.Ytdppehpcpofeoaa.PFnUniformSets
open Go.RowKit Go.Proofs.YtdppehpcpofeoaaW.PrintWords Go.Proofs.YtdppehpcpofeoaaW.PrintLast Go.Proofs.YtdppehpcpofeoaaW.PrintMore
attribute [local go_sem] max2_int min2_int max_two min_two max_three min_three max_four min_four   -- for this text's walks alone
set_option linter.unusedVariables false
set_option linter.unusedSimpArgs false

/-! ### bits_Mul64: function 50 -/
def bits_Mul64.f (a0 : Int) (a1 : Int) : Option (Int × Int) := some (IntKind.u64.wrap ((IntKind.u64.wrap ((IntKind.u64.wrap ((a0 / 4294967296) * (a1 / 4294967296))) + ((IntKind.u64.wrap ((IntKind.u64.wrap ((a0 / 4294967296) * (Go.bits .and .u64 a1 4294967295))) + ((IntKind.u64.wrap ((Go.bits .and .u64 a0 4294967295) * (Go.bits .and .u64 a1 4294967295))) / 4294967296))) / 4294967296))) + ((IntKind.u64.wrap ((Go.bits .and .u64 (IntKind.u64.wrap ((IntKind.u64.wrap ((a0 / 4294967296) * (Go.bits .and .u64 a1 4294967295))) + ((IntKind.u64.wrap ((Go.bits .and .u64 a0 4294967295) * (Go.bits .and .u64 a1 4294967295))) / 4294967296))) 4294967295) + (IntKind.u64.wrap ((Go.bits .and .u64 a0 4294967295) * (a1 / 4294967296))))) / 4294967296)), IntKind.u64.wrap (a0 * a1))
set_option maxHeartbeats 8000000 in
set_option maxRecDepth 100000 in
theorem bits_Mul64.calls (a0 : Int) (a1 : Int) (r1 : Int) (r2 : Int) (w : World) (h : bits_Mul64.f a0 a1 = some (r1, r2)) :
    Calls Try.prog 50 #[.int .u64 a0, .int .u64 a1] w fun e w' => e = .returned (.tuple #[.int .u64 r1, .int .u64 r2]) ∧ Drawn0 w w' := by
  have H : (some (IntKind.u64.wrap ((IntKind.u64.wrap ((IntKind.u64.wrap ((a0 / 4294967296) * (a1 / 4294967296))) + ((IntKind.u64.wrap ((IntKind.u64.wrap ((a0 / 4294967296) * (Go.bits .and .u64 a1 4294967295))) + ((IntKind.u64.wrap ((Go.bits .and .u64 a0 4294967295) * (Go.bits .and .u64 a1 4294967295))) / 4294967296))) / 4294967296))) + ((IntKind.u64.wrap ((Go.bits .and .u64 (IntKind.u64.wrap ((IntKind.u64.wrap ((a0 / 4294967296) * (Go.bits .and .u64 a1 4294967295))) + ((IntKind.u64.wrap ((Go.bits .and .u64 a0 4294967295) * (Go.bits .and .u64 a1 4294967295))) / 4294967296))) 4294967295) + (IntKind.u64.wrap ((Go.bits .and .u64 a0 4294967295) * (a1 / 4294967296))))) / 4294967296)), IntKind.u64.wrap (a0 * a1))) = some (r1, r2) := h
  clear h
  simp only [Option.some.injEq, Prod.mk.injEq] at H
  obtain ⟨rfl, rfl⟩ := H
  go_enter Try.func50, Try.ntmps50
  go_wp2
  go_ret2
  exact ⟨by first | rfl | (simp; done) | (simp [*]; done), by repeat (first | exact Drawn0.refl _ | apply Drawn0.step)⟩

/-! ### bits_Mul: function 31 -/
def bits_Mul.f (a0 : Int) (a1 : Int) : Option (Int × Int) := (bits_Mul64.f a0 a1).bind fun bt244 => (some (bt244.1, bt244.2))
set_option maxHeartbeats 8000000 in
set_option maxRecDepth 100000 in
theorem bits_Mul.calls (a0 : Int) (a1 : Int) (r1 : Int) (r2 : Int) (w : World) (h : bits_Mul.f a0 a1 = some (r1, r2)) :
    Calls Try.prog 31 #[.int .u64 a0, .int .u64 a1] w fun e w' => e = .returned (.tuple #[.int .u64 r1, .int .u64 r2]) ∧ Drawn0 w w' := by
  have H : ((bits_Mul64.f a0 a1).bind fun bt244 => (some (bt244.1, bt244.2))) = some (r1, r2) := h
  clear h
  replace H := Option.bind_eq_some_iff.mp H
  obtain ⟨⟨t244, t245⟩, A30, H⟩ := H
  replace H : (some (t244, t245)) = some (r1, r2) := H
  have A3 := Aside0.mk A30
  clear A30
  simp only [Option.some.injEq, Prod.mk.injEq] at H
  obtain ⟨rfl, rfl⟩ := H
  go_enter Try.func31, Try.ntmps31
  go_wp2_with (first | ((with_reducible refine gate_callee (f := 50) rfl ?_); refine goesL_ (some 25) rfl rfl Try.func50 (by kernel_rfl) rfl #[.int .u64 a0, .int .u64 a1] rfl (by (try simp only [List.map_toArray, List.map_cons, List.map_nil]); first | done | rfl | (simp only [List.length_drop, List.length_take]; rfl)) ?_; (with_reducible refine (bits_Mul64.calls a0 a1 t244 t245 _ A3.out).mono ?_); rintro e w' ⟨rfl, ⟨nd, rfl⟩⟩; refine ⟨_, rfl, ?_⟩))
  go_ret2
  exact ⟨by first | rfl | (simp; done) | (simp [*]; done), by repeat (first | exact Drawn0.refl _ | apply Drawn0.step)⟩

/-! ### slices_Repeat_int_int: function 12 -/
def slices_Repeat_int_int.f (l0 : List Int) (a1 : Int) : Option (List Int) := if l0.length = 1 ∧ 1 ≤ a1 ∧ a1 ≤ 40 then some (List.replicate a1.toNat (rd l0 0)) else none
theorem mul_small {n : Int} (h0 : 0 ≤ n) (h1 : n ≤ 40) : bits_Mul.f 1 n = some (0, n) := by
  have H : ∀ i : Fin 41, bits_Mul.f 1 (i.1 : Int) = some (0, (i.1 : Int)) := by decide +kernel
  have := H ⟨n.toNat, by omega⟩
  rwa [show ((n.toNat : Nat) : Int) = n by omega] at this
theorem splice_rep (x y : Value) (n m k : Nat) (T : List Value) (h : k ≤ m) : splice (List.replicate n x ++ (List.replicate m y ++ T)) n (List.replicate k x) = List.replicate (n + k) x ++ (List.replicate (m - k) y ++ T) := by
  unfold splice
  have e1 : (List.replicate n x ++ (List.replicate m y ++ T)).take n = List.replicate n x := by simp
  have e2 : (List.replicate n x ++ (List.replicate m y ++ T)).drop (n + (List.replicate k x).length) = List.replicate (m - k) y ++ T := by
    rw [List.length_replicate, List.drop_append, List.length_replicate, List.drop_of_length_le (by simp), List.nil_append, Nat.add_sub_cancel_left, List.drop_append, List.length_replicate, Nat.sub_eq_zero_of_le h, List.drop_replicate, List.drop_zero]
  rw [e1, e2, ← List.append_assoc, List.replicate_append_replicate]
theorem splice_one {x y : Value} {m : Nat} {T : List Value} (h : 1 ≤ m) : splice (List.replicate m y ++ T) 0 [x] = List.replicate 1 x ++ (List.replicate (m - 1) y ++ T) := by
  cases m with
  | zero => omega
  | succ m => simp [splice, List.replicate_succ]
theorem rep_own {w : World} {base : Nat} {v : Value} {m : Nat} (hm : 1 ≤ m) (h : Kd.R (Kd.int .i64) 3 w base (fun _ => True) v (List.replicate m (0 : Int))) :
    ∃ g cap T, v = .slice (some ⟨g, 0, none⟩) m cap ∧ base ≤ g ∧ w.heap[g]? = some (.cells (List.replicate m (Value.int .i64 0) ++ T).toArray 3 (0, 0)) ∧ m ≤ cap ∧ cap ≤ maxLen ∧ T.length = cap - m := by
  obtain ⟨hlen, ⟨_, hz⟩ | ⟨g, cap, cur, hv, hgb, hh, hnc, hcm, hcs, htk⟩⟩ := Kd.own_of_R (enc := fun x => Value.int .i64 x) h
  · rw [List.length_replicate] at hz; omega
  · rw [List.length_replicate] at hv hnc htk
    refine ⟨g, cap, cur.toList.drop m, hv, hgb, ?_, hnc, hcm, by rw [List.length_drop, Array.length_toList]; omega⟩
    have e : List.replicate m (Value.int .i64 0) = cur.toList.take m := by rw [Nat.mul_one] at htk; rw [htk]; simp [encs]
    rw [e, List.take_append_drop]; exact hh
theorem own_rep {w : World} {base g m cap : Nat} {T : List Value} {x : Int} (hb : base ≤ g) (hh : w.heap[g]? = some (.cells (List.replicate m (Value.int .i64 x) ++ T).toArray 3 (0, 0))) (hc : m ≤ cap) (hcm : cap ≤ maxLen) (hT : T.length = cap - m) :
    Kd.R (Kd.int .i64) 3 w base (fun _ => True) (.slice (some ⟨g, 0, none⟩) m cap) (List.replicate m x) := by
  refine Kd.R_of_own (enc := fun x => Value.int .i64 x) ⟨by simp [encs], .inr ⟨g, cap, _, by rw [List.length_replicate], hb, hh, by rw [List.length_replicate]; exact hc, hcm, by simp; omega, ?_⟩⟩ (fun _ _ => trivial)
  rw [List.length_replicate, Nat.mul_one]
  show (List.replicate m (Value.int .i64 x) ++ T).take m = _
  rw [List.take_append_of_le_length (by simp), List.take_of_length_le (by simp)]; simp [encs]
theorem rep_cell {w : World} {g n : Nat} {x : Int} {T : List Value} (hh : w.heap[g]? = some (.cells (List.replicate n (Value.int .i64 x) ++ T).toArray 3 (0, 0))) (k : Nat) (hk : k ≤ n) (j : Nat) (v : Value) (hv : (List.replicate k (Value.int .i64 x))[j]? = some v) : w.cell? ((⟨g, 0, none⟩ : Addr).add j) = some v := by
  have hj : j < k := by
    rcases Nat.lt_or_ge j k with h | h
    · exact h
    · rw [List.getElem?_eq_none (by simpa using h)] at hv; cases hv
  rw [List.getElem?_replicate, if_pos hj] at hv
  obtain rfl := Option.some.inj hv
  have : ((⟨g, 0, none⟩ : Addr).add j) = ⟨g, j, none⟩ := by simp [Addr.add]; exact fun h => h.symm
  rw [this, blk_cell hh j]
  simp [List.getElem?_append, List.getElem?_replicate, show j < n by omega]
set_option maxHeartbeats 4000000 in
set_option maxRecDepth 100000 in
theorem slices_Repeat_int_int.calls (A0 : Option Addr) (c0 : Nat) (l0 : List Int) (a1 : Int) (r : List Int) (w : World) (hr0 : Kd.C (Kd.int .i64) w A0 l0.length l0) (hc0 : l0.length ≤ c0) (h : slices_Repeat_int_int.f l0 a1 = some r) :
    Calls Try.prog 12 #[.slice A0 l0.length c0, .int .i64 a1] w fun e w' => ∃ v0_ : Value, e = .returned (v0_) ∧ Kd.R (Kd.int .i64) 3 w' w.heap.size (fun _ => True) v0_ r ∧ Below w.heap.size w w' := by
  unfold slices_Repeat_int_int.f at h
  by_cases hc : l0.length = 1 ∧ 1 ≤ a1 ∧ a1 ≤ 40
  · rw [if_pos hc] at h
    obtain rfl := Option.some.inj h
    obtain ⟨hl, h1, h2⟩ := hc
    obtain ⟨ad, ea, hx⟩ := Kd.at_int hr0 0 (by omega) (by omega)
    subst ea
    rw [show (0 : Int).toNat = 0 from rfl, Addr.add_zero'] at hx
    generalize rd l0 0 = x at hx ⊢
    obtain ⟨m, rfl⟩ := Int.eq_ofNat_of_zero_le (by omega : 0 ≤ a1)
    have HX := Aside0.mk hx
    have hw1 : IntKind.u64.wrap 1 = 1 := by decide
    have hw2 : IntKind.u64.wrap (m : Int) = m := by show (m : Int) % 18446744073709551616 = m; omega
    have hw3 : IntKind.i64.wrap (m : Int) = m := by rw [i64_w]; unfold wrap64; omega
    have q0 : decide ((m : Int) < 0) = false := decide_eq_false (by omega)
    have q1 : decide ((m : Int) > 9223372036854775807) = false := decide_eq_false (by omega)
    have m1 : 1 ≤ m := by omega
    rw [hl, Int.toNat_natCast]
    clear h hr0 hc0 hx hl
    go_enter Try.func12, Try.ntmps12
    go_wp2_with (first
      | (go_at_call 31; (with_reducible refine (bits_Mul.calls 1 (m : Int) 0 (m : Int) _ (mul_small (by omega) h2)).mono ?_); rintro e w1 ⟨rfl, hd⟩; have HB1 := Aside0.mk hd.below; clear hd)
      | ((with_reducible refine gate_dst (N := 30) rfl ?_); refine Kd.R_make (Kd.int .i64) _ 3 rfl (N := 30) rfl 26 _ _ rfl (m : Int) rfl rfl Try.underlying26 (.int .i64 0) 8 info3 rfl (by decide) (by omega) 0 (ok := fun _ => True) (okp := fun _ => True) rfl (fun _ hk => hk) trivial (by omega) (by omega) (by exact HB1.out) (below_size HB1.out) ?_; intro v1 w2 ho2 hb2 _ _; rw [Int.toNat_natCast] at ho2; obtain ⟨g, cap, T, rfl, hgb, hh, hmc, hcm, hT⟩ := rep_own m1 ho2; have HH := Aside0.mk hh; have HB2 := Aside0.mk hb2; have hx2 := Aside0.mk ((hb2.cell (World.block_lt_of_cell? w ad HX.out)).trans HX.out); clear ho2 hb2 hh)
      | ((with_reducible refine gate_builtin (b := .copy) (xs := #[.tmp 31, .tmp 32]) rfl ?_); refine wpList_copy_splice rfl (.tmp 31) (.tmp 32) 26 26 rfl 3 Try.underlying26 (by kernel_rfl) (some ⟨g, 0, none⟩) (some ad) m cap 1 c0 rfl rfl g 0 (List.replicate m (Value.int .i64 0) ++ T) 3 HH.out [Value.int .i64 x] (show 1 = Nat.min 1 m from (Nat.min_eq_left m1).symm) (fun _ => ⟨rfl, ad, rfl, fun j v hv => by cases j with | zero => obtain rfl := Option.some.inj hv; rw [Addr.add_zero']; exact hx2.out | succ j => cases hv⟩) (by simp; omega) (fun v hv => by rw [List.mem_singleton.1 hv]; rfl) w.heap.size w HB2.out hgb ?_; intro w3 hg3 hb3; have HG3 := Aside0.mk hg3.out; have HB3 := Aside0.mk hb3; clear hg3 hb3))
    have HG := Aside0.mk (show w3.heap[g]? = some (.cells (List.replicate 1 (Value.int .i64 x) ++ (List.replicate (m - 1) (Value.int .i64 0) ++ T)).toArray 3 (0, 0)) from HG3.out.trans (by rw [splice_one m1]))
    clear HG3 HB2 HB1 hx2 HX HH
    go_loopg [8] m (fun gg v8 wr => ∃ n : Nat, 1 ≤ n ∧ n ≤ m ∧ m - n ≤ gg ∧ v8 = .int .i64 n ∧ Aside0 (wr.heap[g]? = some (.cells (List.replicate n (Value.int .i64 x) ++ (List.replicate (m - n) (Value.int .i64 0) ++ T)).toArray 3 (0, 0))) ∧ Aside0 (Below w.heap.size w wr))
    case atStart => exact ⟨1, Nat.le_refl _, m1, by omega, rfl, HG, HB3⟩
    case round =>
      obtain ⟨n, n1, nm, hg, rfl, HR, HW⟩ := hrel
      by_cases hlt : n < m
      · have b0 : decide ((n : Int) < (m : Int)) = true := decide_eq_true (by omega)
        obtain ⟨k, hk⟩ : ∃ k, k = Nat.min n (m - n) := ⟨_, rfl⟩
        have hk1 : k ≤ m - n := by rw [hk]; exact Nat.min_le_right _ _
        have hk2 : k ≤ n := by rw [hk]; exact Nat.min_le_left _ _
        have hk3 : 1 ≤ k := by rw [hk]; exact Nat.le_min.2 ⟨n1, by omega⟩
        have HK := Aside0.mk hk
        clear hk
        have hcn : ¬ cap = n := by omega
        have hcn2 : n ≤ cap := by omega
        have hw : IntKind.i64.wrap ((n : Int) + (k : Int)) = ((n + k : Nat) : Int) := by rw [i64_w]; unfold wrap64; omega
        go_wp2
        go_region_law (refine step_copy_splice rfl (.tmp 41) (.tmp 44) 26 26 rfl 3 Try.underlying26 (by kernel_rfl) (some ⟨g, n, none⟩) (some ⟨g, 0, none⟩) (m - n) (cap - n) n cap (by simp [Act.eval, Act.put]) (by simp [Act.eval, Act.put]) g n (List.replicate n (Value.int .i64 x) ++ (List.replicate (m - n) (Value.int .i64 0) ++ T)) 3 HR.out (List.replicate k (Value.int .i64 x)) (by rw [List.length_replicate]; exact HK.out) (fun _ => ⟨rfl, _, rfl, fun j v hv => rep_cell HR.out k hk2 j v hv⟩) (by simp; omega) (fun v hv => by rw [List.eq_of_mem_replicate hv]; rfl) w.heap.size w (below_drew1 HW.out) hgb ?_; intro w4 hg4 hb4; rw [List.length_replicate]; have HG4 := Aside0.mk hg4.out; have HB4 := Aside0.mk hb4; clear hg4 hb4)
        have HG5 := Aside0.mk (show w4.heap[g]? = some (.cells (List.replicate (n + k) (Value.int .i64 x) ++ (List.replicate (m - (n + k)) (Value.int .i64 0) ++ T)).toArray 3 (0, 0)) from HG4.out.trans (by rw [splice_rep _ _ _ _ _ _ hk1, Nat.sub_sub]))
        clear HG4 HR HW
        go_wp2
        go_roundg (m - (n + k))
        case measure => omega
        case rel => exact ⟨n + k, by omega, by omega, by omega, by go_num, HG5, HB4⟩
      · obtain rfl : n = m := by omega
        have b0 : decide ((n : Int) < (n : Int)) = false := decide_eq_false (by omega)
        go_wp2
        go_ret
        exact ⟨_, rfl, own_rep hgb (by have := HR.out; rw [Nat.sub_self, List.replicate_zero, List.nil_append] at this; exact this) hmc hcm hT, HW.out⟩
  · rw [if_neg hc] at h; exact absurd h (by simp)

/-! ### slices_Clone_int_int: function 13 -/
def cloneIntF (l0 : List Int) : Option (List Int) := if l0.length < 17592186044416 then some l0 else none
def slices_Clone_int_int.f (l0 : List Int) : Option (List Int) := cloneIntF l0
theorem cloneInt_f (l0 : List Int) : slices_Clone_int_int.f l0 = cloneIntF l0 := rfl
set_option maxHeartbeats 1000000 in
set_option maxRecDepth 100000 in
theorem slices_Clone_int_int.calls (A0 : Option Addr) (c0 : Nat) (l0 : List Int) (r : List Int) (w : World) (hr0 : Kd.C (Kd.int .i64) w A0 l0.length l0) (hc0 : l0.length ≤ c0) (h : slices_Clone_int_int.f l0 = some r) :
    Calls Try.prog 13 #[.slice A0 l0.length c0] w fun e w' => ∃ v0_ : Value, e = .returned (v0_) ∧ Kd.R (Kd.int .i64) 3 w' w.heap.size (fun _ => True) v0_ r ∧ Below w.heap.size w w' := by
  unfold slices_Clone_int_int.f cloneIntF at h
  by_cases hl : l0.length < 17592186044416
  · rw [if_pos hl] at h
    obtain rfl := Option.some.inj h
    cases A0 with
    | none =>
      have hz : l0 = [] := by
        rcases Nat.eq_zero_or_pos l0.length with h0 | h0
        · exact List.length_eq_zero_iff.1 h0
        · obtain ⟨ad, e, _⟩ := hr0.2.2 h0
          exact absurd e (by simp)
      subst hz
      have hnil : ∀ (W : World) (n c : Nat), (binOp .eql 26 (.slice none n c) (.slice none 0 0)).run Try.prog W = .ok (.bool true) W := fun W n c => Lib.run_eql_slice_nil W 26 3 none n c 0 0 Try.underlying26
      clear hr0 h hl
      go_enter Try.func13, Try.ntmps13
      go_wp2
      go_ret
      exact ⟨_, rfl, Kd.R_nil _ _ _ _ _, Below.refl _ _⟩
    | some ad =>
      have hnil : ∀ (W : World) (n c : Nat), (binOp .eql 26 (.slice (some ad) n c) (.slice none 0 0)).run Try.prog W = .ok (.bool false) W := fun W n c => Lib.run_eql_slice_nil W 26 3 (some ad) n c 0 0 Try.underlying26
      have HR := Aside0.mk hr0
      have HL := Aside0.mk hl
      clear hr0 h hl
      go_enter Try.func13, Try.ntmps13
      go_wp2_with (first | ((with_reducible refine gate_dst (N := 5) rfl ?_); refine Kd.R_lit (Kd.int .i64) _ 3 ?hg (N := 5) ?hd (xs := ([] : List Int)) (inner := []) (ok := fun _ => True) (okp := fun _ => True) ?hr ?hp (fun _ hk => hk) trivial (Below.refl _ _) (Nat.le_refl _) (by simp) ?_; (case hd => rfl); (case hg => rfl); (case hr => first | (go_simp; done) | (go_simp; rfl)); (case hp => exact (Reps.none _ _)); intro v132 w10 ho11 hb hg_ hnew_; clear hg_ hnew_; have HO := Aside0.mk ho11; have HB := Aside0.mk hb; clear hb ho11) | ((with_reducible refine gate_builtin (b := .append) (xs := #[.tmp 5, .tmp 6]) rfl ?_); at_builtin; refine Kd.R_append_rows (Kd.int .i64) (w0 := w) w.heap.size rfl (.tmp 5) (.tmp 6) 26 3 (.int .i64 0) 8 rfl Try.underlying26 info3 rfl (by decide) (by omega) v132 [] l0 _ _ _ (fun _ => True) (fun _ => False) rfl rfl ?aO ?aR (fun _ _ h => h) (fun _ h => h.elim) ?aF ?aB ?aS ?aL ?_; (case aR => exact Kd.C_below HR.out HB.out); (case aB => exact HB.out); (case aF => exact (fun _ _ => trivial)); (case aO => exact HO.out); (case aS => exact below_size HB.out); (case aL => have := HL.out; simp only [List.length_nil]; omega); intro v135 w12 ho hb hg hat; have HO2 := Aside0.mk ho; have HB2 := Aside0.mk hb; clear ho hb hg hat))
      go_ret
      exact ⟨_, rfl, by have h_ := HO2.out; rwa [List.nil_append] at h_, HB2.out⟩
  · rw [if_neg hl] at h
    exact absurd h (by simp)

/-! ### impl_WritesReg: function 32 -/
def impl_WritesReg.f (a0_0 : Int) (a0_1 : Int) (a0_2 : Int) (a0_3 : Int) : Option (Int) := (impl_within.f a0_0 1 9).bind fun t247 => (if t247 = true then (some a0_1) else (if a0_0 = 13 then (some a0_1) else (some (-1))))
set_option maxHeartbeats 8000000 in
set_option maxRecDepth 100000 in
theorem impl_WritesReg.calls (a0_0 : Int) (a0_1 : Int) (a0_2 : Int) (a0_3 : Int) (r : Int) (w : World) (h : impl_WritesReg.f a0_0 a0_1 a0_2 a0_3 = some r) :
    Calls Try.prog 32 #[.agg #[.int .i64 a0_0, .int .i64 a0_1, .int .i64 a0_2, .int .i64 a0_3]] w fun e w' => e = .returned (.int .i64 r) ∧ Below w.heap.size w w' := by
  have hu30 := Try.underlying30
  have HB := Aside0.mk (Below.refl w.heap.size w)
  have H : ((impl_within.f a0_0 1 9).bind fun t247 => (if t247 = true then (some a0_1) else (if a0_0 = 13 then (some a0_1) else (some (-1))))) = some r := h
  clear h
  replace H := Option.bind_eq_some_iff.mp H
  obtain ⟨t247, A20, H⟩ := H
  replace H : (if t247 = true then (some a0_1) else (if a0_0 = 13 then (some a0_1) else (some (-1)))) = some r := H
  have A2 := Aside0.mk A20
  clear A20
  by_cases c3 : t247 = true
  · subst c3
    have H1 : (some a0_1) = some r := by rw [if_pos rfl] at H; exact H
    clear H
    have H := H1
    clear H1
    obtain rfl := Option.some.inj H
    go_enter Try.func32, Try.ntmps32
    go_wp2_with (first | ((with_reducible refine gate_dst (N := 1) rfl ?_); refine box_event ?hg (N := 1) ?hd (cs := #[.int .i64 a0_0, .int .i64 a0_1, .int .i64 a0_2, .int .i64 a0_3]) (t := 30) ?hr ?_; (case hd => rfl); (case hg => rfl); (case hr => first | (go_simp; done) | (go_simp; rfl)); intro gb246 hg w4 hbox hb; have n0_ := Aside0.mk (below_step (by repeat (first | (with_reducible first | exact HB.out | apply below_alloc | apply pw_below_drewN | apply below_drew1) | exact HB.out)) hb); have n1_ := Aside0.mk (hbox); have n2_ := Aside0.mk ((by rw [hg]; exact (below_size (by repeat (first | (with_reducible first | exact HB.out | apply below_alloc | apply pw_below_drewN | apply below_drew1) | exact HB.out))) : w.heap.size ≤ gb246)); have n3_ := Aside0.mk ((by rw [hg]; exact (below_size (by repeat (first | (with_reducible first | exact HB.out | apply below_alloc | apply pw_below_drewN | apply below_drew1) | exact HB.out))) : w.heap.size ≤ gb246)); clear HB; have HB := n0_; have BK246 := n1_; have GW246 := n2_; have GE246 := n3_; clear n0_ n1_ n2_ n3_; clear hb hbox hg; have hcz5_0 : w4.cell? ⟨gb246, 0, none⟩ = some (.int .i64 a0_0) := (blk_cell BK246.out 0).trans rfl; have hcz5_1 : w4.cell? ⟨gb246, 1, none⟩ = some (.int .i64 a0_1) := (blk_cell BK246.out 1).trans rfl; have hcz5_2 : w4.cell? ⟨gb246, 2, none⟩ = some (.int .i64 a0_2) := (blk_cell BK246.out 2).trans rfl; have hcz5_3 : w4.cell? ⟨gb246, 3, none⟩ = some (.int .i64 a0_3) := (blk_cell BK246.out 3).trans rfl; have hfz5_0 := blk_frozen BK246.out 0; have hfz5_1 := blk_frozen BK246.out 1; have hfz5_2 := blk_frozen BK246.out 2; have hfz5_3 := blk_frozen BK246.out 3) | ((with_reducible refine gate_callee (f := 21) rfl ?_); refine goesL_ (some 5) rfl rfl Try.func21 (by kernel_rfl) rfl #[.int .i64 a0_0, .int .i64 1, .int .i64 9] rfl (by (try simp only [List.map_toArray, List.map_cons, List.map_nil]); first | done | rfl | (simp only [List.length_drop, List.length_take]; rfl)) ?_; (with_reducible refine (impl_within.calls a0_0 1 9 true _ A2.out).mono ?_); rintro e w' ⟨rfl, ⟨nd, rfl⟩⟩; refine ⟨_, rfl, ?_⟩))
    go_ret
    exact ⟨by first | rfl | (simp [errW_none, errW_some] <;> rfl) | (simp [*, errW_none, errW_some] <;> rfl), by repeat (first | (with_reducible first | exact HB.out | apply below_alloc | apply pw_below_drewN | apply below_drew1 | refine below_set ?_ GE246.out) | exact HB.out)⟩
  · replace c3 := Bool.eq_false_iff.mpr c3
    subst c3
    have H1 : (if a0_0 = 13 then (some a0_1) else (some (-1))) = some r := by rw [if_neg (show ¬ (false = true) by decide)] at H; exact H
    clear H
    have H := H1
    clear H1
    by_cases c6 : a0_0 = 13
    · rw [if_pos c6] at H
      have c6b0 : (a0_0 == 13) = true := beq_iff_eq.mpr c6
      have c6b1 : (a0_0 != 13) = false := bne_eq_false_iff_eq.mpr c6
      clear c6
      obtain rfl := Option.some.inj H
      go_enter Try.func32, Try.ntmps32
      go_wp2_with (first | ((with_reducible refine gate_dst (N := 1) rfl ?_); refine box_event ?hg (N := 1) ?hd (cs := #[.int .i64 a0_0, .int .i64 a0_1, .int .i64 a0_2, .int .i64 a0_3]) (t := 30) ?hr ?_; (case hd => rfl); (case hg => rfl); (case hr => first | (go_simp; done) | (go_simp; rfl)); intro gb246 hg w7 hbox hb; have n0_ := Aside0.mk (below_step (by repeat (first | (with_reducible first | exact HB.out | apply below_alloc | apply pw_below_drewN | apply below_drew1) | exact HB.out)) hb); have n1_ := Aside0.mk (hbox); have n2_ := Aside0.mk ((by rw [hg]; exact (below_size (by repeat (first | (with_reducible first | exact HB.out | apply below_alloc | apply pw_below_drewN | apply below_drew1) | exact HB.out))) : w.heap.size ≤ gb246)); have n3_ := Aside0.mk ((by rw [hg]; exact (below_size (by repeat (first | (with_reducible first | exact HB.out | apply below_alloc | apply pw_below_drewN | apply below_drew1) | exact HB.out))) : w.heap.size ≤ gb246)); clear HB; have HB := n0_; have BK246 := n1_; have GW246 := n2_; have GE246 := n3_; clear n0_ n1_ n2_ n3_; clear hb hbox hg; have hcz8_0 : w7.cell? ⟨gb246, 0, none⟩ = some (.int .i64 a0_0) := (blk_cell BK246.out 0).trans rfl; have hcz8_1 : w7.cell? ⟨gb246, 1, none⟩ = some (.int .i64 a0_1) := (blk_cell BK246.out 1).trans rfl; have hcz8_2 : w7.cell? ⟨gb246, 2, none⟩ = some (.int .i64 a0_2) := (blk_cell BK246.out 2).trans rfl; have hcz8_3 : w7.cell? ⟨gb246, 3, none⟩ = some (.int .i64 a0_3) := (blk_cell BK246.out 3).trans rfl; have hfz8_0 := blk_frozen BK246.out 0; have hfz8_1 := blk_frozen BK246.out 1; have hfz8_2 := blk_frozen BK246.out 2; have hfz8_3 := blk_frozen BK246.out 3) | ((with_reducible refine gate_callee (f := 21) rfl ?_); refine goesL_ (some 5) rfl rfl Try.func21 (by kernel_rfl) rfl #[.int .i64 a0_0, .int .i64 1, .int .i64 9] rfl (by (try simp only [List.map_toArray, List.map_cons, List.map_nil]); first | done | rfl | (simp only [List.length_drop, List.length_take]; rfl)) ?_; (with_reducible refine (impl_within.calls a0_0 1 9 false _ A2.out).mono ?_); rintro e w' ⟨rfl, ⟨nd, rfl⟩⟩; refine ⟨_, rfl, ?_⟩))
      go_ret
      exact ⟨by first | rfl | (simp [errW_none, errW_some] <;> rfl) | (simp [*, errW_none, errW_some] <;> rfl), by repeat (first | (with_reducible first | exact HB.out | apply below_alloc | apply pw_below_drewN | apply below_drew1 | refine below_set ?_ GE246.out) | exact HB.out)⟩
    · rw [if_neg c6] at H
      have c6b0 : (a0_0 == 13) = false := beq_eq_false_iff_ne.mpr c6
      have c6b1 : (a0_0 != 13) = true := bne_iff_ne.mpr c6
      obtain rfl := Option.some.inj H
      go_enter Try.func32, Try.ntmps32
      go_wp2_with (first | ((with_reducible refine gate_dst (N := 1) rfl ?_); refine box_event ?hg (N := 1) ?hd (cs := #[.int .i64 a0_0, .int .i64 a0_1, .int .i64 a0_2, .int .i64 a0_3]) (t := 30) ?hr ?_; (case hd => rfl); (case hg => rfl); (case hr => first | (go_simp; done) | (go_simp; rfl)); intro gb246 hg w9 hbox hb; have n0_ := Aside0.mk (below_step (by repeat (first | (with_reducible first | exact HB.out | apply below_alloc | apply pw_below_drewN | apply below_drew1) | exact HB.out)) hb); have n1_ := Aside0.mk (hbox); have n2_ := Aside0.mk ((by rw [hg]; exact (below_size (by repeat (first | (with_reducible first | exact HB.out | apply below_alloc | apply pw_below_drewN | apply below_drew1) | exact HB.out))) : w.heap.size ≤ gb246)); have n3_ := Aside0.mk ((by rw [hg]; exact (below_size (by repeat (first | (with_reducible first | exact HB.out | apply below_alloc | apply pw_below_drewN | apply below_drew1) | exact HB.out))) : w.heap.size ≤ gb246)); clear HB; have HB := n0_; have BK246 := n1_; have GW246 := n2_; have GE246 := n3_; clear n0_ n1_ n2_ n3_; clear hb hbox hg; have hcz10_0 : w9.cell? ⟨gb246, 0, none⟩ = some (.int .i64 a0_0) := (blk_cell BK246.out 0).trans rfl; have hcz10_1 : w9.cell? ⟨gb246, 1, none⟩ = some (.int .i64 a0_1) := (blk_cell BK246.out 1).trans rfl; have hcz10_2 : w9.cell? ⟨gb246, 2, none⟩ = some (.int .i64 a0_2) := (blk_cell BK246.out 2).trans rfl; have hcz10_3 : w9.cell? ⟨gb246, 3, none⟩ = some (.int .i64 a0_3) := (blk_cell BK246.out 3).trans rfl; have hfz10_0 := blk_frozen BK246.out 0; have hfz10_1 := blk_frozen BK246.out 1; have hfz10_2 := blk_frozen BK246.out 2; have hfz10_3 := blk_frozen BK246.out 3) | ((with_reducible refine gate_callee (f := 21) rfl ?_); refine goesL_ (some 5) rfl rfl Try.func21 (by kernel_rfl) rfl #[.int .i64 a0_0, .int .i64 1, .int .i64 9] rfl (by (try simp only [List.map_toArray, List.map_cons, List.map_nil]); first | done | rfl | (simp only [List.length_drop, List.length_take]; rfl)) ?_; (with_reducible refine (impl_within.calls a0_0 1 9 false _ A2.out).mono ?_); rintro e w' ⟨rfl, ⟨nd, rfl⟩⟩; refine ⟨_, rfl, ?_⟩))
      go_ret
      exact ⟨by first | rfl | (simp [errW_none, errW_some] <;> rfl) | (simp [*, errW_none, errW_some] <;> rfl), by repeat (first | (with_reducible first | exact HB.out | apply below_alloc | apply pw_below_drewN | apply below_drew1 | refine below_set ?_ GE246.out) | exact HB.out)⟩

/-! ### slices_IndexFunc_int_int: function 62 -/
theorem blk_under {w1 W : World} {g : Nat} {o : Obj} (h : w1.heap[g]? = some o) (hb : Below w1.heap.size w1 W) : W.heap[g]? = some o := (hb.block g (blk_lt h)).trans h
theorem one_cell {W : World} {g : Nat} {v : Value} {t : TypeId} (h : W.heap[g]? = some (.cells #[v] t (0, 0))) : W.cell? ⟨g, 0, none⟩ = some v := (blk_cell h 0).trans rfl
theorem drawn_step {w W W' : World} (h : Drawn0 w W) (k : Drawn0 W W') : Drawn0 w W' := by
  obtain ⟨n, rfl⟩ := h
  obtain ⟨m, rfl⟩ := k
  exact ⟨⟨n + m, World.drewN_drewN ..⟩⟩
/-- The first place, counted from i on, of an element at which p holds; -1 if there is none. -/
def idxF {α : Type} (p : α → Bool) : List α → Int → Int
  | [], _ => -1
  | x :: r, i => if p x = true then i else idxF p r (i + 1)
theorem idxF_any {α : Type} (p : α → Bool) : ∀ (l : List α) (i : Int), 0 ≤ i → decide (idxF p l i ≥ 0) = l.any p
  | [], i, _ => by simp [idxF]
  | x :: r, i, h => by
    rw [idxF]
    by_cases hp : p x = true
    · rw [if_pos hp]; simp [hp, h]
    · rw [if_neg hp, idxF_any p r (i + 1) (by omega)]; simp [hp]
theorem drop_rdI {l : List Int} {i : Nat} (h1 : i < l.length) : l.drop i = rd l i :: l.drop (i + 1) := by
  rw [List.drop_eq_getElem_cons h1]
  congr 1
  unfold rd
  rw [Int.toNat_natCast, List.getD_eq_getElem?_getD, List.getElem?_eq_getElem h1]; rfl
theorem rd_memI {l : List Int} {i : Nat} (h1 : i < l.length) : rd l i ∈ l := by
  unfold rd
  rw [Int.toNat_natCast, List.getD_eq_getElem?_getD, List.getElem?_eq_getElem h1]
  exact List.getElem_mem h1
set_option maxHeartbeats 2000000 in
/-- slices.IndexFunc at ints: a function value that answers p x, and keeps R, at every element. -/
theorem indexFunc_int (R : World → Prop) (g : Nat) (lb : Array Value) (eg : ∀ args w, (callFunc g args).run Try.prog w = .ok (.enter g args) w) (p : Int → Bool) (A : Option Addr) (c : Nat) (l : List Int) (w : World)
    (hR : R w) (hr : ∀ W, R W → Kd.C (Kd.int .i64) W A l.length l)
    (hp : ∀ x, x ∈ l → ∀ W, R W → Calls Try.prog g (#[.int .i64 x] ++ lb) W fun e W' => e = .returned (.bool (p x)) ∧ R W') :
    Calls Try.prog 62 #[.slice A l.length c, .func (.func g) #[] lb] w fun e w' => e = .returned (.int .i64 (idxF p l 0)) ∧ R w' := by
  have hbig := (hr w hR).2.1
  go_enter Try.func62, Try.ntmps62
  go_wp2
  go_loopg [5, 8] l.length (fun gg _ s8 wr => ∃ kk : Nat, kk ≤ l.length ∧ l.length - kk ≤ gg ∧ s8 = .int .i64 kk ∧ Aside0 (R wr) ∧ Aside0 (idxF p (l.drop kk) kk = idxF p l 0))
  case atStart => exact ⟨0, Nat.zero_le _, by omega, rfl, ⟨hR⟩, ⟨rfl⟩⟩
  case round =>
    obtain ⟨kk, hkk, hg, rfl, HR, HI⟩ := hrel
    by_cases hlt : kk < l.length
    · have hltz : (kk : Int) < (l.length : Int) := by omega
      obtain ⟨ad, ea, hcell⟩ := Kd.at_int (hr wr HR.out) kk (by omega) hltz
      cases ea
      rw [Int.toNat_natCast] at hcell
      have hcall := hp _ (rd_memI hlt) wr HR.out
      have HD := Aside0.mk (drop_rdI hlt)
      clear hr hp
      generalize hy : rd l (kk : Int) = y at hcell hcall HD
      clear hy
      cases hq : p y with
      | true =>
        rw [hq] at hcall
        have HQ := Aside0.mk hq
        clear hq
        go_wp2_with (go_at_fn g; refine hcall.mono ?_; rintro e w' ⟨rfl, hb'⟩)
        go_ret
        refine ⟨?_, hb'⟩
        rw [← HI.out, HD.out, idxF, if_pos HQ.out]
        rfl
      | false =>
        rw [hq] at hcall
        have HQ := Aside0.mk hq
        clear hq
        go_wp2_with (go_at_fn g; refine hcall.mono ?_; rintro e w' ⟨rfl, hb'⟩)
        go_roundg (l.length - (kk + 1))
        case measure => omega
        case rel =>
          refine ⟨kk + 1, by omega, by omega, by go_num, ⟨hb'⟩, ⟨?_⟩⟩
          rw [← HI.out, HD.out, idxF, if_neg (by rw [HQ.out]; decide)]
          rfl
    · have hltz : ¬ (kk : Int) < (l.length : Int) := by omega
      go_wp2
      go_ret
      refine ⟨?_, HR.out⟩
      rw [← HI.out, List.drop_of_length_le (by omega)]; rfl

/-! ### slices_ContainsFunc_int_int: function 51 -/
set_option maxHeartbeats 2000000 in
/-- slices.ContainsFunc at ints. -/
theorem containsFunc_int (R : World → Prop) (g : Nat) (lb : Array Value) (eg : ∀ args w, (callFunc g args).run Try.prog w = .ok (.enter g args) w) (p : Int → Bool) (A : Option Addr) (c : Nat) (l : List Int) (w : World)
    (hR : R w) (hr : ∀ W, R W → Kd.C (Kd.int .i64) W A l.length l)
    (hp : ∀ x, x ∈ l → ∀ W, R W → Calls Try.prog g (#[.int .i64 x] ++ lb) W fun e W' => e = .returned (.bool (p x)) ∧ R W') :
    Calls Try.prog 51 #[.slice A l.length c, .func (.func g) #[] lb] w fun e w' => e = .returned (.bool (l.any p)) ∧ R w' := by
  rw [← idxF_any p l 0 (by omega)]
  go_enter Try.func51, Try.ntmps51
  go_wp2_with (go_at_call 62; refine (indexFunc_int R g lb eg p A c l _ hR hr hp).mono ?_; rintro e w' ⟨rfl, hb'⟩)
  go_ret
  exact ⟨rfl, hb'⟩

/-! ### impl_hasAll: function 33 -/
def bitOut (s r : Int) : Bool := Go.bits .and .i64 (shr .i64 s r) 1 == 0
def regsIn (l : List Int) : Bool := l.all fun r => decide (0 ≤ r ∧ r ≤ 3)
def impl_hasAll.f (a0 : Int) (l1 : List Int) : Option (Bool) := if regsIn l1 = true then some (!(l1.any (bitOut a0))) else none
theorem blk_underH {w1 W : World} {g : Nat} {o : Obj} (h : w1.heap[g]? = some o) (hb : Below w1.heap.size w1 W) : W.heap[g]? = some o := (hb.block g (blk_lt h)).trans h
theorem one_cellH {W : World} {g : Nat} {v : Value} {t : TypeId} (h : W.heap[g]? = some (.cells #[v] t (0, 0))) : W.cell? ⟨g, 0, none⟩ = some v := (blk_cell h 0).trans rfl
set_option maxHeartbeats 1000000 in
theorem impl_hasAll.fn (a0 : Int) (g : Nat) (x : Int) (w : World) (hg : w.heap[g]? = some (.cells #[.int .i64 a0] 3 (0, 0))) (h0 : 0 ≤ x) (h3 : x ≤ 3) :
    Calls Try.prog 52 #[.int .i64 x, .pointer (some ⟨g, 0, none⟩)] w fun e w' => e = .returned (.bool (bitOut a0 x)) ∧ Below w.heap.size w w' := by
  have hcap := one_cellH hg
  clear hg
  have h64 : x ≤ 64 := by omega
  have H1 := Aside0.mk (shr_small (k := .i64) (x := a0) (y := x) rfl (by show x ≤ 64; omega))
  go_enter Try.func52, Try.ntmps52
  go_wp2
  go_ret
  refine ⟨?_, Below.refl _ _⟩
  unfold bitOut
  rw [← H1.out]
  rfl
set_option maxHeartbeats 1000000 in
set_option maxRecDepth 100000 in
theorem impl_hasAll.calls (a0 : Int) (A1 : Option Addr) (c1 : Nat) (l1 : List Int) (r : Bool) (w : World) (hr1 : Kd.C (Kd.int .i64) w A1 l1.length l1) (hc1 : l1.length ≤ c1) (h : impl_hasAll.f a0 l1 = some r) :
    Calls Try.prog 33 #[.int .i64 a0, .slice A1 l1.length c1] w fun e w' => e = .returned (.bool r) ∧ Below w.heap.size w w' := by
  unfold impl_hasAll.f at h
  by_cases hs : regsIn l1 = true
  · rw [if_pos hs] at h
    obtain rfl := Option.some.inj h
    have HS := Aside0.mk (show ∀ x ∈ l1, 0 ≤ x ∧ x ≤ 3 from fun x hx => by simpa using List.all_eq_true.1 hs x hx)
    have HR := Aside0.mk hr1
    clear hs h hr1
    have eg := enters_of Try.func52 (by kernel_rfl) rfl
    have HF := Aside0.mk (fun (gb : Nat) (w1 : World) (hb : Below w.heap.size w w1) (hx : w1.heap[gb]? = some (.cells #[.int .i64 a0] 3 (0, 0))) =>
      containsFunc_int (Below w1.heap.size w1) 52 #[.pointer (some ⟨gb, 0, none⟩)] eg (bitOut a0) A1 c1 l1 w1 (Below.refl _ _)
        (fun W hW => Kd.C_below HR.out (below_step hb hW)) (fun x hx1 W hW => (impl_hasAll.fn a0 gb x W (blk_underH hx hW) (HS.out x hx1).1 (HS.out x hx1).2).mono fun e W' ⟨he, h2⟩ => ⟨he, below_step hW h2⟩))
    clear eg
    go_enter Try.func33, Try.ntmps33
    go_wp2_with (first | ((with_reducible refine gate_dst (N := 2) rfl ?_); refine box_event ?hg (N := 2) ?hd (cs := #[.int .i64 a0]) (t := 3) ?hr ?_; (case hd => rfl); (case hg => rfl); (case hr => first | (go_simp; done) | (go_simp; rfl)); intro gb hgb w1 hbox hb; have HB := Aside0.mk hb; have HX := Aside0.mk hbox; clear hgb hb hbox) | (go_at_call 51; refine (HF.out gb _ HB.out HX.out).mono ?_; rintro e w' ⟨rfl, hb2⟩; have HB2 := Aside0.mk hb2; clear hb2))
    go_ret
    exact ⟨rfl, below_step HB.out HB2.out⟩
  · rw [if_neg hs] at h
    exact absurd h (by simp)

/-! ### cmp_isNaN_int: function 82 -/
def cmp_isNaN_int.f (a0 : Int) : Option (Bool) := some (a0 != a0)
set_option maxHeartbeats 8000000 in
set_option maxRecDepth 100000 in
theorem cmp_isNaN_int.calls (a0 : Int) (r : Bool) (w : World) (h : cmp_isNaN_int.f a0 = some r) :
    Calls Try.prog 82 #[.int .i64 a0] w fun e w' => e = .returned (.bool r) ∧ Drawn0 w w' := by
  have H : (some (a0 != a0)) = some r := h
  clear h
  obtain rfl := Option.some.inj H
  go_enter Try.func82, Try.ntmps82
  go_wp2
  go_ret
  exact ⟨by first | rfl | (simp; done) | (simp [*]; done), by repeat (first | exact Drawn0.refl _ | apply Drawn0.step)⟩

/-! ### cmp_Less_int: function 69 -/
def cmp_Less_int.f (a0 : Int) (a1 : Int) : Option (Bool) := (cmp_isNaN_int.f a0).bind fun t248 => (if t248 = true then ((cmp_isNaN_int.f a1).bind fun t249 => (if t249 = true then (some (decide (a0 < a1))) else (some true))) else (some (decide (a0 < a1))))
set_option maxHeartbeats 8000000 in
set_option maxRecDepth 100000 in
theorem cmp_Less_int.calls (a0 : Int) (a1 : Int) (r : Bool) (w : World) (h : cmp_Less_int.f a0 a1 = some r) :
    Calls Try.prog 69 #[.int .i64 a0, .int .i64 a1] w fun e w' => e = .returned (.bool r) ∧ Drawn0 w w' := by
  have H : ((cmp_isNaN_int.f a0).bind fun t248 => (if t248 = true then ((cmp_isNaN_int.f a1).bind fun t249 => (if t249 = true then (some (decide (a0 < a1))) else (some true))) else (some (decide (a0 < a1))))) = some r := h
  clear h
  replace H := Option.bind_eq_some_iff.mp H
  obtain ⟨t248, A30, H⟩ := H
  replace H : (if t248 = true then ((cmp_isNaN_int.f a1).bind fun t249 => (if t249 = true then (some (decide (a0 < a1))) else (some true))) else (some (decide (a0 < a1)))) = some r := H
  have A3 := Aside0.mk A30
  clear A30
  by_cases c4 : t248 = true
  · subst c4
    have H1 : ((cmp_isNaN_int.f a1).bind fun t249 => (if t249 = true then (some (decide (a0 < a1))) else (some true))) = some r := by rw [if_pos rfl] at H; exact H
    clear H
    have H := H1
    clear H1
    replace H := Option.bind_eq_some_iff.mp H
    obtain ⟨t249, A50, H⟩ := H
    replace H : (if t249 = true then (some (decide (a0 < a1))) else (some true)) = some r := H
    have A5 := Aside0.mk A50
    clear A50
    by_cases c6 : t249 = true
    · subst c6
      have H1 : (some (decide (a0 < a1))) = some r := by rw [if_pos rfl] at H; exact H
      clear H
      have H := H1
      clear H1
      obtain rfl := Option.some.inj H
      go_enter Try.func69, Try.ntmps69
      go_wp2_with (first | ((with_reducible refine gate_callee (f := 82) rfl ?_); refine goesL_ (some 6) rfl rfl Try.func82 (by kernel_rfl) rfl #[.int .i64 a0] rfl (by (try simp only [List.map_toArray, List.map_cons, List.map_nil]); first | done | rfl | (simp only [List.length_drop, List.length_take]; rfl)) ?_; (with_reducible refine (cmp_isNaN_int.calls a0 true _ A3.out).mono ?_); rintro e w' ⟨rfl, ⟨nd, rfl⟩⟩; refine ⟨_, rfl, ?_⟩) | (go_at_call 82; (with_reducible refine (cmp_isNaN_int.calls a1 true _ A5.out).mono ?_); rintro e w' ⟨rfl, ⟨nd, rfl⟩⟩))
      go_ret
      exact ⟨by first | rfl | (simp; done) | (simp [*]; done), by repeat (first | exact Drawn0.refl _ | apply Drawn0.step)⟩
    · replace c6 := Bool.eq_false_iff.mpr c6
      subst c6
      have H1 : (some true) = some r := by rw [if_neg (show ¬ (false = true) by decide)] at H; exact H
      clear H
      have H := H1
      clear H1
      obtain rfl := Option.some.inj H
      go_enter Try.func69, Try.ntmps69
      go_wp2_with (first | ((with_reducible refine gate_callee (f := 82) rfl ?_); refine goesL_ (some 6) rfl rfl Try.func82 (by kernel_rfl) rfl #[.int .i64 a0] rfl (by (try simp only [List.map_toArray, List.map_cons, List.map_nil]); first | done | rfl | (simp only [List.length_drop, List.length_take]; rfl)) ?_; (with_reducible refine (cmp_isNaN_int.calls a0 true _ A3.out).mono ?_); rintro e w' ⟨rfl, ⟨nd, rfl⟩⟩; refine ⟨_, rfl, ?_⟩) | (go_at_call 82; (with_reducible refine (cmp_isNaN_int.calls a1 false _ A5.out).mono ?_); rintro e w' ⟨rfl, ⟨nd, rfl⟩⟩))
      go_ret
      exact ⟨by first | rfl | (simp; done) | (simp [*]; done), by repeat (first | exact Drawn0.refl _ | apply Drawn0.step)⟩
  · replace c4 := Bool.eq_false_iff.mpr c4
    subst c4
    have H1 : (some (decide (a0 < a1))) = some r := by rw [if_neg (show ¬ (false = true) by decide)] at H; exact H
    clear H
    have H := H1
    clear H1
    obtain rfl := Option.some.inj H
    go_enter Try.func69, Try.ntmps69
    go_wp2_with (first | ((with_reducible refine gate_callee (f := 82) rfl ?_); refine goesL_ (some 6) rfl rfl Try.func82 (by kernel_rfl) rfl #[.int .i64 a0] rfl (by (try simp only [List.map_toArray, List.map_cons, List.map_nil]); first | done | rfl | (simp only [List.length_drop, List.length_take]; rfl)) ?_; (with_reducible refine (cmp_isNaN_int.calls a0 false _ A3.out).mono ?_); rintro e w' ⟨rfl, ⟨nd, rfl⟩⟩; refine ⟨_, rfl, ?_⟩))
    go_ret
    exact ⟨by first | rfl | (simp; done) | (simp [*]; done), by repeat (first | exact Drawn0.refl _ | apply Drawn0.step)⟩

end Go.Proofs.Ytdppehpcpofeoaa.PFnUniformSets
