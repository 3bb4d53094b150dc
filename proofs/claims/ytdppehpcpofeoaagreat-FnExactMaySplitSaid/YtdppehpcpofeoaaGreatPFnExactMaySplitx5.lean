-- Written by myprint.py (a program of this session, over the kit's print): not trusted, Lean checks it.
import Derived.Test.YtdppehpcpofeoaaGreatPFnExactMaySplitx0
import Derived.Test.YtdppehpcpofeoaaGreatPFnExactMaySplitx3
import Derived.Test.YtdppehpcpofeoaaGreatPFnExactMaySplitx4
namespace Go.Proofs.YtdppehpcpofeoaaGreat.PFnExactMaySplit
open Go.RowKit Go.Proofs.YtdppehpcpofeoaaGreatW.PrintWords Go.Proofs.YtdppehpcpofeoaaGreatW.PrintLast Go.Proofs.YtdppehpcpofeoaaGreatW.PrintMore
attribute [local go_sem] max2_int min2_int max_two min_two max_three min_three max_four min_four   -- for this text's walks alone
set_option linter.unusedVariables false
set_option linter.unusedSimpArgs false

/-! ### slices_Compact_int_int: function 65 -/
def compL : List Int → List Int
  | [] => []
  | [x] => [x]
  | x :: y :: r => if x = y then compL (y :: r) else x :: compL (y :: r)
def slices_Compact_int_int.f (l0 : List Int) : Option (List Int) := if l0.length ≤ 3 then some (compL l0) else none
theorem kept_putN {w W : World} {P0_ : Nat → Prop} {g : Nat} (h : Kept w W P0_) (hg : P0_ g) (o : Nat) : ∀ (vs : List Value), Kept w (W.setCells g o vs) P0_ := by
  intro vs
  induction vs generalizing W o with
  | nil => exact h
  | cons v r ih => exact ih (Kept.setCell h (.inl hg) v) (o + 1)
theorem clear_own (w : World) (g o n c : Nat) (hn : 0 < n) (hc : ∀ j, j < n → (w.cell? ⟨g, o + j, none⟩).isSome = true) (hf : ∀ j, j < n → w.frozen? ⟨g, o + j, none⟩ = false) (ty : TypeId) :
    (Builtin.clear_ #[31] ty #[.slice (some ⟨g, o, none⟩) n c]).run Tryz.prog w = .ok (.tuple #[]) (w.setCells g o (List.replicate n (.int .i64 0))) :=
  Lib.run_clear_slice w _ 3 ty (.int .i64 0) Tryz.underlying31 (fun _ => by kernel_rfl) rfl rfl g o n c hn hc hf
/-- append(v, ys...), v a queue of ints of the call's own. -/
theorem Q_app {ops : Array Oper} {rest : List Oper} {o : Oper} {a : Act} {Q' : Exit → Act → World → Prop} {w0 W : World} (base : Nat) (hgd : o.guard = none) (s x : Operand)
    (ho : o.op = .call { callee := .builtin .append, args := #[s, x], argTypes := #[31, 31] }) (v : Value) (xs ys : List Int) (A : Option Addr) (m c : Nat) (ok : Nat → Prop) (hs : a.eval s = v) (hx : a.eval x = .slice A m c)
    (HO : Kd.Q (Kd.int .i64) 3 W base ok v xs) (HR : Kd.C (Kd.int .i64) W A m ys) (hfresh : ∀ k, W.heap.size ≤ k → ok k) (HB : Below base w0 W) (hbase : base ≤ W.heap.size) (hl : (xs.length + m) * 8 ≤ 140737488355328)
    (h : ∀ v1 w1, Kd.Q (Kd.int .i64) 3 w1 base ok v1 (xs ++ ys) → Below base w0 w1 → W.grownBy w1 v.ownBlock → wpList Tryz.prog ops Q' rest (a.put o.dst v1) w1) :
    wpList Tryz.prog ops Q' (o :: rest) a W := by
  obtain ⟨i0, hi, hzz⟩ := Option.map_eq_some_iff.1 info3
  simp only [Prod.mk.injEq] at hzz
  obtain ⟨hz0, hz1, hz2⟩ := hzz
  have ht := Tryz.underlying31
  have hm : ys.length = m := HR.1
  have HB0 := HO
  obtain ⟨hok, inner, hq, hr⟩ := HO
  have hrun : ∃ v1 w1, (Builtin.append_ #[31, 31] o.type #[v, .slice A m c]).run Tryz.prog W = .ok v1 w1 ∧ Kd.Q (Kd.int .i64) 3 w1 base ok v1 (xs ++ ys) ∧ W.grownBy w1 v.ownBlock := by
    rcases Nat.eq_zero_or_pos m with h0 | h0
    · subst h0
      obtain rfl : ys = [] := List.eq_nil_of_length_eq_zero hm
      refine ⟨v, W, ?_, by rw [List.append_nil]; exact HB0, World.grownBy.refl W _⟩
      obtain ⟨B, d, e, hnd⟩ := Kd.Q_slice HB0
      subst e
      cases A <;> cases B <;> simp [Builtin.append_, run_underlying ht, sizeOf, typeInfo, hi, Builtin.lenOf, Builtin.firstCells, hnd, storeCells, loadCells, loadCellsFrom]
    · obtain ⟨ad, e, hc⟩ := HR.2.2 h0
      subst e
      have hnews : ∀ (j : Nat) (u : Value), (ys.map (Value.int .i64))[j]? = some u → W.cell? (ad.add j) = some u := by
        intro j u hu
        rw [List.getElem?_map] at hu
        obtain ⟨y, hy, rfl⟩ := Option.map_eq_some_iff.1 hu
        obtain ⟨cs, _, hk, hcs⟩ := hc j y hy
        have hk' : cs = [.int .i64 y] := hk
        have := hcs 0 (.int .i64 y) (by rw [hk']; rfl)
        rwa [show j * (Kd.int .i64).sz + 0 = j from Nat.mul_one j] at this
      obtain ⟨v1, w1, hrun, h2, hg, hat⟩ := q_append (P := Tryz.prog) W base 31 o.type 3 i0 (.int .i64 0) 1 8 ht hi hz0 hz1 hz2 rfl (by decide) v xs.length inner hq ad m c (ys.map (Value.int .i64)) (by rw [List.length_map, hm, Nat.mul_one]) hnews (by
        intro u hu
        obtain ⟨y, _, rfl⟩ := List.mem_map.1 hu
        rfl) h0 (by simp only [maxLen]; omega) (by omega) hbase
      refine ⟨v1, w1, hrun, ⟨fun k hk => ?_, inner ++ ys.map (Value.int .i64), by rw [List.length_append, hm]; exact h2, ?_⟩, hg⟩
      · rcases hat with hat | ⟨b, hb, hle⟩
        · exact hok k (hat ▸ hk)
        · rw [hb] at hk
          injection hk with hk
          exact hfresh k (by omega)
      · exact Kd.reps_append (hr.imp_ (fun _ _ hq => hq)) (Kd.reps_scalar (enc := Value.int .i64) ys)
  obtain ⟨v1, w1, hr1, h1, hg⟩ := hrun
  refine wpList_plain hgd fun K hK => ?_
  unfold Oper.wp execOp
  simp only [ho, resolve, invoke, builtin, Sem.run_bind, Sem.run_pure, Result.andThen_ok, List.map_toArray, List.map_cons, List.map_nil, hs, hx, hr1]
  exact hK _ _ (h v1 w1 h1 (HB.grown hg hbase (Kd.Q_base HB0)) hg)
/-- v[1:] of a queue that is not empty. -/
theorem Q_cut1 {W : World} {base n c : Nat} {ok : Nat → Prop} {A : Option Addr} {x : Int} {t : List Int} (h : Kd.Q (Kd.int .i64) 3 W base ok (.slice A n c) (x :: t)) :
    ∃ A' c', (∀ W', (Instr.slice 31 (.slice A n c) (some (.int .i64 1)) none none).run Tryz.prog W' = .ok (.slice A' t.length c') W') ∧ Kd.Q (Kd.int .i64) 3 W base ok (.slice A' t.length c') t := by
  obtain ⟨i0, hi, hzz⟩ := Option.map_eq_some_iff.1 info3
  simp only [Prod.mk.injEq] at hzz
  have hn : n = t.length + 1 := (Kd.Q_reads' h).1
  subst hn
  have hq := Kd.Q_drop (k := 1) h (by simp)
  have hr := cut_from (P := Tryz.prog) 31 3 .i64 Tryz.underlying31 hi 1 hzz.2.1 A (t.length + 1) c 1 (by decide) (by omega)
  exact ⟨_, _, hr, hq⟩
set_option maxHeartbeats 1000000 in
set_option maxRecDepth 100000 in
theorem slices_Compact_int_int.short (P0_ : Nat → Prop) (u9000_ : Value) (l0 : List Int) (w0 w : World) (hl : l0.length < 2) (hB : Below w0.heap.size w0 w) (ho0 : Kd.R (Kd.int .i64) 3 w w0.heap.size P0_ u9000_ l0) :
    Calls Tryz.prog 65 #[u9000_] w fun e w' => ∃ v0_ : Value, e = .returned (v0_) ∧ Kd.R (Kd.int .i64) 3 w' w0.heap.size (fun k_ => (P0_ k_ ∨ w.heap.size ≤ k_)) v0_ l0 ∧ Below w0.heap.size w0 w' ∧ Kept w w' (fun k_ => P0_ k_) := by
  have HO := Aside0.mk (Kd.R_mono ho0 (fun k_ hk => (Or.inl hk : P0_ k_ ∨ w.heap.size ≤ k_)))
  have HB := Aside0.mk hB
  obtain ⟨A, c, e⟩ := Kd.R_slice ho0
  subst e
  have hd : decide ((l0.length : Int) < 2) = true := decide_eq_true (by omega)
  clear ho0 hB
  go_enter Tryz.func65, Tryz.ntmps65
  go_wp2
  go_ret
  exact ⟨_, rfl, HO.out, HB.out, Kept.refl _ _⟩
theorem R_put_at {W : World} {base g c : Nat} {ok : Nat → Prop} {xs : List Int} (n : Nat) (hn : n = xs.length) (h : Kd.R (Kd.int .i64) 3 W base ok (.slice (some ⟨g, 0, none⟩) n c) xs) (i : Nat) (x : Int) :
    Kd.R (Kd.int .i64) 3 (W.setCell ⟨g, i, none⟩ (.int .i64 x)) base ok (.slice (some ⟨g, 0, none⟩) n c) (xs.set i x) := by
  have := (Kd.R_putg h (i : Int) x).1
  rwa [Int.toNat_natCast] at this
theorem world_isSome {w : World} {p : Addr} {v : Value} (h : w.cell? p = some v) (q : Nat) : ((w.drewN q).cell? p).isSome = true := by
  rw [World.cell?_drewN, h]; rfl
theorem world_free {w : World} {p : Addr} (h : w.frozen? p = false) (q : Nat) : (w.drewN q).frozen? p = false := by
  rw [World.frozen?_drewN]; exact h
set_option maxHeartbeats 1000000 in
set_option maxRecDepth 100000 in
theorem slices_Compact_int_int.two (P0_ : Nat → Prop) (u9000_ : Value) (x y : Int) (w0 w : World) (hB : Below w0.heap.size w0 w) (ho0 : Kd.R (Kd.int .i64) 3 w w0.heap.size P0_ u9000_ [x, y]) :
    Calls Tryz.prog 65 #[u9000_] w fun e w' => ∃ v0_ : Value, e = .returned (v0_) ∧ Kd.R (Kd.int .i64) 3 w' w0.heap.size (fun k_ => (P0_ k_ ∨ w.heap.size ≤ k_)) v0_ (compL [x, y]) ∧ Below w0.heap.size w0 w' ∧ Kept w w' (fun k_ => P0_ k_) := by
  have HO := Aside0.mk (Kd.R_mono ho0 (fun k_ hk => (Or.inl hk : P0_ k_ ∨ w.heap.size ≤ k_)))
  have HB := Aside0.mk hB
  obtain ⟨g, c, e, hg, hlt, _⟩ := Kd.R_form ho0 (by simp)
  subst e
  have HG := Aside0.mk hg
  have HP := Aside0.mk (ho0.1 g rfl)
  have hc2 : 2 ≤ c := (Kd.R_reads' ho0).2.1
  obtain ⟨c0, f0⟩ := Kd.R_celln 0 ho0 0 (by omega) (by simp)
  obtain ⟨c1, f1⟩ := Kd.R_celln 0 ho0 1 (by omega) (by simp)
  replace c0 : w.cell? ⟨g, 0, none⟩ = some (.int .i64 x) := c0
  replace c1 : w.cell? ⟨g, 1, none⟩ = some (.int .i64 y) := c1
  replace f0 : w.frozen? ⟨g, 0, none⟩ = false := f0
  replace f1 : w.frozen? ⟨g, 1, none⟩ = false := f1
  have HC1 := Aside0.mk c1
  have HF1 := Aside0.mk f1
  clear ho0 hB hg
  show Calls Tryz.prog 65 #[.slice (some ⟨g, 0, none⟩) 2 c] w _
  have e1 : ¬ c = 1 := by omega
  have q0 : 1 ≤ c := by omega
  by_cases exy : x = y
  · subst exy
    go_enter Tryz.func65, Tryz.ntmps65
    go_wp2
    refine wp_loop_rounds 2 ?_
    rw [rounds_succ]
    go_wp2
    go_quiet (fail)
    have hcl := clear_own (w.drewN nq) g 1 1 (c - 1) (by omega) (fun j hj => by obtain rfl : j = 0 := (by omega); exact world_isSome HC1.out nq) (fun j hj => by obtain rfl : j = 0 := (by omega); exact world_free HF1.out nq)
    go_wp2
    refine wp_loop_rounds 1 ?_
    rw [rounds_succ]
    go_wp2
    go_ret
    refine ⟨_, rfl, ?_, ?_, ?_⟩
    · have := Kd.R_take (R_put_at 2 rfl (Kd.R_drewN HO.out nq) 1 0) (m := 1) (by simp)
      rw [compL, if_pos rfl]
      exact this
    · exact below_set (pw_below_drewN HB.out nq) HG.out
    · exact Kept.setCell (Kept.drewN (Kept.refl _ _) nq) (.inl HP.out) _
  · have hne : (y == x) = false := beq_eq_false_iff_ne.mpr (fun h => exy h.symm)
    have HX := Aside0.mk exy
    clear exy
    go_enter Tryz.func65, Tryz.ntmps65
    go_wp2
    refine wp_loop_rounds 2 ?_
    rw [rounds_succ]
    go_wp2
    go_quiet (fail)
    go_wp2
    rw [rounds_succ]
    go_wp2
    go_ret
    refine ⟨_, rfl, ?_, pw_below_drewN HB.out nq, Kept.drewN (Kept.refl _ _) nq⟩
    rw [compL, if_neg HX.out]
    exact Kd.R_drewN HO.out nq
set_option maxHeartbeats 2000000 in
set_option maxRecDepth 100000 in
theorem slices_Compact_int_int.three (P0_ : Nat → Prop) (u9000_ : Value) (x y z : Int) (w0 w : World) (hB : Below w0.heap.size w0 w) (ho0 : Kd.R (Kd.int .i64) 3 w w0.heap.size P0_ u9000_ [x, y, z]) :
    Calls Tryz.prog 65 #[u9000_] w fun e w' => ∃ v0_ : Value, e = .returned (v0_) ∧ Kd.R (Kd.int .i64) 3 w' w0.heap.size (fun k_ => (P0_ k_ ∨ w.heap.size ≤ k_)) v0_ (compL [x, y, z]) ∧ Below w0.heap.size w0 w' ∧ Kept w w' (fun k_ => P0_ k_) := by
  have HO := Aside0.mk (Kd.R_mono ho0 (fun k_ hk => (Or.inl hk : P0_ k_ ∨ w.heap.size ≤ k_)))
  have HB := Aside0.mk hB
  obtain ⟨g, c, e, hg, hlt, _⟩ := Kd.R_form ho0 (by simp)
  subst e
  have HG := Aside0.mk hg
  have HP := Aside0.mk (ho0.1 g rfl)
  have hc2 : 3 ≤ c := (Kd.R_reads' ho0).2.1
  obtain ⟨c0, f0⟩ := Kd.R_celln 0 ho0 0 (by omega) (by simp)
  obtain ⟨c1, f1⟩ := Kd.R_celln 0 ho0 1 (by omega) (by simp)
  obtain ⟨c2, f2⟩ := Kd.R_celln 0 ho0 2 (by omega) (by simp)
  replace c0 : w.cell? ⟨g, 0, none⟩ = some (.int .i64 x) := c0
  replace c1 : w.cell? ⟨g, 1, none⟩ = some (.int .i64 y) := c1
  replace c2 : w.cell? ⟨g, 2, none⟩ = some (.int .i64 z) := c2
  replace f0 : w.frozen? ⟨g, 0, none⟩ = false := f0
  replace f1 : w.frozen? ⟨g, 1, none⟩ = false := f1
  replace f2 : w.frozen? ⟨g, 2, none⟩ = false := f2
  have HC1 := Aside0.mk c1
  have HF1 := Aside0.mk f1
  have HC2 := Aside0.mk c2
  have HF2 := Aside0.mk f2
  clear ho0 hB hg
  show Calls Tryz.prog 65 #[.slice (some ⟨g, 0, none⟩) 3 c] w _
  have e1 : ¬ c = 1 := by omega
  have e2 : ¬ c = 2 := by omega
  have q0 : 1 ≤ c := by omega
  have q1 : 2 ≤ c := by omega
  by_cases exy : x = y
  · subst exy
    by_cases exz : x = z
    · subst exz
      go_enter Tryz.func65, Tryz.ntmps65
      go_wp2
      refine wp_loop_rounds 3 ?_
      rw [rounds_succ]
      go_wp2
      go_quiet (fail)
      revert nq; intro n1
      go_wp2
      refine wp_loop_rounds 2 ?_
      rw [rounds_succ]
      go_wp2
      go_quiet (fail)
      go_wp2
      rw [rounds_succ]
      have hcl := clear_own (w.drewN (n1 + nq)) g 1 2 (c - 1) (by omega) (fun j hj => by
        rcases (by omega : j = 0 ∨ j = 1) with rfl | rfl
        · exact world_isSome HC1.out _
        · exact world_isSome HC2.out _) (fun j hj => by
        rcases (by omega : j = 0 ∨ j = 1) with rfl | rfl
        · exact world_free HF1.out _
        · exact world_free HF2.out _)
      go_wp2
      go_ret
      refine ⟨_, rfl, ?_, ?_, ?_⟩
      · have := Kd.R_take (R_put_at (W := (w.drewN (n1 + nq)).setCell ⟨g, 1, none⟩ (.int .i64 0)) 3 rfl (R_put_at 3 rfl (Kd.R_drewN HO.out (n1 + nq)) 1 0) 2 0) (m := 1) (by simp)
        rw [compL, if_pos rfl, compL, if_pos rfl]
        exact this
      · exact below_set (below_set (pw_below_drewN HB.out _) HG.out) HG.out
      · exact Kept.setCell (Kept.setCell (Kept.drewN (Kept.refl _ _) _) (.inl HP.out) _) (.inl HP.out) _
    · have hne : (z == x) = false := beq_eq_false_iff_ne.mpr (fun h => exz h.symm)
      have hne2 : (z != x) = true := by rw [bne, hne]; rfl
      have HX := Aside0.mk exz
      clear exz
      go_enter Tryz.func65, Tryz.ntmps65
      go_wp2
      refine wp_loop_rounds 3 ?_
      rw [rounds_succ]
      go_wp2
      go_quiet (fail)
      revert nq; intro n1
      go_wp2
      refine wp_loop_rounds 2 ?_
      rw [rounds_succ]
      go_wp2
      go_quiet (fail)
      have hcl := clear_own ((w.drewN (n1 + nq)).setCell ⟨g, 1, none⟩ (.int .i64 z)) g 2 1 (c - 2) (by omega) (fun j hj => by
        obtain rfl : j = 0 := (by omega)
        exact (congrArg Option.isSome (World.cell?_setCell_other _ ⟨g, 1, none⟩ ⟨g, 2, none⟩ _ (fun q => by injection q with _ q _; exact absurd q (by decide)))).trans (world_isSome HC2.out _)) (fun j hj => by
        obtain rfl : j = 0 := (by omega)
        rw [World.frozen?_setCell]
        exact world_free HF2.out _)
      go_wp2
      rw [rounds_succ]
      go_wp2
      go_ret
      refine ⟨_, rfl, ?_, ?_, ?_⟩
      · have := Kd.R_take (R_put_at (W := (w.drewN (n1 + nq)).setCell ⟨g, 1, none⟩ (.int .i64 z)) 3 rfl (R_put_at 3 rfl (Kd.R_drewN HO.out (n1 + nq)) 1 z) 2 0) (m := 2) (by simp)
        rw [compL, if_pos rfl, compL, if_neg HX.out]
        exact this
      · exact below_set (below_set (pw_below_drewN HB.out _) HG.out) HG.out
      · exact Kept.setCell (Kept.setCell (Kept.drewN (Kept.refl _ _) _) (.inl HP.out) _) (.inl HP.out) _
  · have hne : (y == x) = false := beq_eq_false_iff_ne.mpr (fun h => exy h.symm)
    have HX := Aside0.mk exy
    clear exy
    by_cases eyz : y = z
    · subst eyz
      go_enter Tryz.func65, Tryz.ntmps65
      go_wp2
      refine wp_loop_rounds 3 ?_
      rw [rounds_succ]
      go_wp2
      go_quiet (fail)
      revert nq; intro n1
      go_wp2
      rw [rounds_succ]
      go_wp2
      go_quiet (fail)
      have hcl := clear_own (w.drewN (n1 + nq)) g 2 1 (c - 2) (by omega) (fun j hj => by obtain rfl : j = 0 := (by omega); exact world_isSome HC2.out _) (fun j hj => by obtain rfl : j = 0 := (by omega); exact world_free HF2.out _)
      go_wp2
      refine wp_loop_rounds 1 ?_
      rw [rounds_succ]
      go_wp2
      go_ret
      refine ⟨_, rfl, ?_, ?_, ?_⟩
      · have := Kd.R_take (R_put_at 3 rfl (Kd.R_drewN HO.out (n1 + nq)) 2 0) (m := 2) (by simp)
        rw [compL, if_neg HX.out, compL, if_pos rfl]
        exact this
      · exact below_set (pw_below_drewN HB.out _) HG.out
      · exact Kept.setCell (Kept.drewN (Kept.refl _ _) _) (.inl HP.out) _
    · have hne2 : (z == y) = false := beq_eq_false_iff_ne.mpr (fun h => eyz h.symm)
      have HX2 := Aside0.mk eyz
      clear eyz
      go_enter Tryz.func65, Tryz.ntmps65
      go_wp2
      refine wp_loop_rounds 3 ?_
      rw [rounds_succ]
      go_wp2
      go_quiet (fail)
      revert nq; intro n1
      go_wp2
      rw [rounds_succ]
      go_wp2
      go_quiet (fail)
      go_wp2
      rw [rounds_succ]
      go_wp2
      go_ret
      refine ⟨_, rfl, ?_, pw_below_drewN HB.out _, Kept.drewN (Kept.refl _ _) _⟩
      rw [compL, if_neg HX.out, compL, if_neg HX2.out]
      exact Kd.R_drewN HO.out _
theorem slices_Compact_int_int.calls (P0_ : Nat → Prop) (u9000_ : Value) (l0 : List Int) (r : List Int) (w0 w : World) (hB : Below w0.heap.size w0 w) (ho0 : Kd.R (Kd.int .i64) 3 w w0.heap.size P0_ u9000_ l0) (h : slices_Compact_int_int.f l0 = some r) :
    Calls Tryz.prog 65 #[u9000_] w fun e w' => ∃ v0_ : Value, e = .returned (v0_) ∧ Kd.R (Kd.int .i64) 3 w' w0.heap.size (fun k_ => (P0_ k_ ∨ w.heap.size ≤ k_)) v0_ r ∧ Below w0.heap.size w0 w' ∧ Kept w w' (fun k_ => P0_ k_) := by
  unfold slices_Compact_int_int.f at h
  by_cases hl : l0.length ≤ 3
  · rw [if_pos hl] at h
    obtain rfl := Option.some.inj h
    match l0, hl with
    | [], _ => exact slices_Compact_int_int.short P0_ u9000_ [] w0 w (by simp) hB ho0
    | [x], _ => exact slices_Compact_int_int.short P0_ u9000_ [x] w0 w (by simp) hB ho0
    | [x, y], _ => exact slices_Compact_int_int.two P0_ u9000_ x y w0 w hB ho0
    | [x, y, z], _ => exact slices_Compact_int_int.three P0_ u9000_ x y z w0 w hB ho0
  · rw [if_neg hl] at h
    exact absurd h (by simp)

/-! ### spec_l07Reach: function 78 -/
def reachS (l0 : List S38) : Nat → List Bool → List Int → Option (List Bool)
  | 0, _, _ => none
  | _ + 1, out, [] => some out
  | k + 1, out, x :: t => if 0 ≤ x ∧ x < (out.length : Int) then (if rdOf false out x = true then reachS l0 k out t else (spec_l07Next.f k l0 x).bind fun ns => if (t.length + ns.length) * 8 ≤ 140737488355328 then reachS l0 k (out.set x.toNat true) (t ++ ns) else none) else none
theorem reachS_mono (l0 : List S38) : ∀ k out t, LeO (reachS l0 k out t) (reachS l0 (k + 1) out t)
  | 0, out, t => fun r h => by simp [reachS] at h
  | k + 1, out, [] => LeO.refl _
  | k + 1, out, x :: t => by
    rw [reachS, reachS]
    refine LeO.ite (LeO.ite (reachS_mono l0 k _ _) (LeO.bind (spec_l07Next.mono _ _ _) fun _ => LeO.ite (reachS_mono l0 k _ _) (LeO.none _))) (LeO.none _)
def spec_l07Reach.f (k : Nat) (l0 : List S38) (l1 : List Int) : Option (List Bool) := if l0.length ≤ 1048576 then (if l1.length * 8 ≤ 140737488355328 then reachS l0 k (List.replicate (l0.length + 1) false) l1 else none) else none
theorem spec_l07Reach.mono : ∀ a0 a1 k, LeO (spec_l07Reach.f k a0 a1) (spec_l07Reach.f (k + 1) a0 a1) := by
  intro a0 a1 k
  unfold spec_l07Reach.f
  exact LeO.ite (LeO.ite (reachS_mono _ _ _ _) (LeO.none _)) (LeO.none _)
set_option maxHeartbeats 4000000 in
set_option maxRecDepth 100000 in
theorem spec_l07Reach.calls (k : Nat) (A0 : Option Addr) (c0 : Nat) (l0 : List S38) (A1 : Option Addr) (c1 : Nat) (l1 : List Int) (r : List Bool) (w : World) (hr0 : Kd.C k38 w A0 l0.length l0) (hc0 : l0.length ≤ c0) (hr1 : Kd.C (Kd.int .i64) w A1 l1.length l1) (hc1 : l1.length ≤ c1) (h : spec_l07Reach.f k l0 l1 = some r) :
    Calls Tryz.prog 78 #[.slice A0 l0.length c0, .slice A1 l1.length c1] w fun e w' => ∃ v0_ : Value, e = .returned (v0_) ∧ Kd.R Kd.bool 4 w' w.heap.size (fun _ => True) v0_ r ∧ Below w.heap.size w w' := by
  unfold spec_l07Reach.f at h
  by_cases h20 : ¬ l0.length ≤ 1048576
  · rw [if_neg h20] at h; exact absurd h (by simp)
  replace h20 := Decidable.not_not.1 h20
  rw [if_pos h20] at h
  by_cases h8 : ¬ l1.length * 8 ≤ 140737488355328
  · rw [if_neg h8] at h; exact absurd h (by simp)
  replace h8 := Decidable.not_not.1 h8
  rw [if_pos h8] at h
  have H8 := Aside0.mk h8
  have HL := Aside0.mk h
  have HR0 := Aside0.mk hr0
  have HC0 := Aside0.mk hc0
  have HR1 := Aside0.mk hr1
  have HB := Aside0.mk (Below.refl w.heap.size w)
  clear h hr0 hc0 hr1 hc1 h8
  have hw1 : IntKind.i64.wrap ((l0.length : Int) + 1) = (l0.length : Int) + 1 := by rw [i64_w]; unfold wrap64; omega
  have hn1 : ((l0.length : Int) + 1).toNat = l0.length + 1 := by omega
  go_enter Tryz.func78, Tryz.ntmps78
  go_wp2_with (first
    | ((with_reducible refine gate_dst (N := 11) rfl ?_); refine Kd.R_make Kd.bool _ 4 rfl (N := 11) rfl 57 _ _ rfl ((l0.length : Int) + 1) rfl rfl Tryz.underlying57 (.bool false) 1 info4 rfl (by decide) (by omega) false (ok := fun _ => True) (okp := fun _ => True) rfl (fun _ hk => hk) trivial (by omega) (by omega) (by exact HB.out) (below_size HB.out) ?_; intro v1 w1 ho1 hb1 _ _; rw [hn1] at ho1; obtain ⟨go, co, eo, hgo, _, _⟩ := Kd.R_form ho1 (by simp); rw [List.length_replicate] at eo; subst eo; have HO := Aside0.mk ho1; have HG := Aside0.mk hgo; clear HB; have HB := Aside0.mk hb1; clear ho1 hb1 hgo)
    | ((with_reducible refine gate_dst (N := 12) rfl ?_); refine Kd.R_lit (Kd.int .i64) _ 3 ?hg (N := 12) ?hd (xs := ([] : List Int)) (inner := []) (ok := fun _ => True) (okp := fun _ => True) ?hr ?hp (fun _ hk => hk) trivial HB.out (below_size HB.out) (by simp) ?_; (case hd => rfl); (case hg => rfl); (case hr => first | (go_simp; done) | (go_simp; rfl)); (case hp => exact (Reps.none _ _)); intro v12 w2 ho2 hb2 hg2 _; have HQ1 := Aside0.mk (Kd.Q_of_R ho2); have HO1 := Aside0.mk (Kd.R_grown HO.out hg2 (fun _ _ => by simp)); have HB1 := Aside0.mk hb2; clear hg2 ho2 hb2)
    | ((with_reducible refine gate_builtin (b := .append) (xs := #[.tmp 12, .tmp 13]) rfl ?_); at_builtin; refine Q_app (w0 := w) w.heap.size rfl (.tmp 12) (.tmp 13) rfl v12 [] l1 A1 l1.length c1 (fun _ => True) rfl rfl HQ1.out (Kd.C_below HR1.out HB1.out) (fun _ _ => trivial) HB1.out (below_size HB1.out) (by have := H8.out; simp only [List.length_nil]; omega) ?_; intro v5 w5 hq5 hb5 hg5; have HO2 := Aside0.mk (Kd.R_over' HO1.out (Kd.Q_typed HQ1.out) (by decide) hg5); have HQ := Aside0.mk hq5; have HB2 := Aside0.mk hb5; clear hq5 hb5 hg5))
  go_loopg [6, 7] k (fun kq v8 _ wr => ∃ (out : List Bool) (todo : List Int), out.length = l0.length + 1 ∧ Aside0 (reachS l0 kq out todo = some r) ∧ Aside0 (Kd.R Kd.bool 4 wr w.heap.size (fun _ => True) (.slice (some ⟨go, 0, none⟩) (l0.length + 1) co) out) ∧ Aside0 (Kd.Q (Kd.int .i64) 3 wr w.heap.size (fun _ => True) v8 todo) ∧ Aside0 (Below w.heap.size w wr))
  case atStart => exact ⟨_, _, List.length_replicate .., HL, ⟨HO2.out⟩, ⟨HQ.out⟩, ⟨HB2.out⟩⟩
  case round =>
    clear HL HO2 HQ HB2 HO HB
    obtain ⟨out, todo, hol, HA, HO, HQ, HB⟩ := hrel
    cases gk with
    | zero => exact absurd HA.out (by simp [reachS])
    | succ k1 =>
      obtain ⟨A8, c8, e8, _⟩ := Kd.Q_slice HQ.out
      subst e8
      cases todo with
      | nil =>
        obtain rfl := Option.some.inj HA.out
        go_wp2
        go_ret
        exact ⟨_, rfl, HO.out, HB.out⟩
      | cons x t =>
        have hpos : decide (((t.length + 1 : Nat) : Int) > 0) = true := decide_eq_true (by omega)
        obtain ⟨ad, ea, hx⟩ := Kd.at_int (Kd.Q_reads' HQ.out).2.2 0 (by omega) (by simp)
        subst ea
        rw [show (0 : Int).toNat = 0 from rfl, Addr.add_zero'] at hx
        replace hx : wr.cell? ad = some (Value.int .i64 x) := hx
        have hq9 : (c8 = 1 ∧ Kd.Q (Kd.int .i64) 3 wr w.heap.size (fun _ => True) (.slice (some ad) t.length 0) t) ∨ (¬ c8 = 1 ∧ Kd.Q (Kd.int .i64) 3 wr w.heap.size (fun _ => True) (.slice (some (ad.add 1)) t.length (c8 - 1)) t) := by
          have hq := Kd.Q_drop (k := 1) HQ.out (by simp)
          by_cases hc : c8 = 1
          · subst hc; exact .inl ⟨rfl, hq⟩
          · rw [if_neg hc] at hq; exact .inr ⟨hc, hq⟩
        have HOL := Aside0.mk hol
        have H := HA.out
        clear HA
        rw [reachS] at H
        rcases hq9 with ⟨hc, hq9⟩ | ⟨hc, hq9⟩
        · subst hc
          have HQ9 := Aside0.mk hq9
          clear hq9
          by_cases hr : 0 ≤ x ∧ x < (out.length : Int)
          · rw [if_pos hr] at H
            rw [hol] at hr
            obtain ⟨hm, hf⟩ := Kd.R_celln false HO.out x hr.1 hr.2
            have q1 : decide (0 ≤ x) = true := decide_eq_true hr.1
            have q2 : decide (x < ((l0.length + 1 : Nat) : Int)) = true := decide_eq_true hr.2
            have q3 : decide (x < (l0.length : Int) + 1) = true := decide_eq_true (by omega)
            have q4 : 0 ≤ x := hr.1
            have q5 : x < (l0.length : Int) + 1 := by omega
            clear hr hol
            by_cases hv : rdOf false out x = true
            · rw [if_pos hv] at H
              have HF := Aside0.mk H
              rw [hv] at hm
              clear hv H
              go_wp2
              go_roundg k1
              case measure => omega
              case rel => exact ⟨out, t, HOL.out, HF, ⟨HO.out⟩, ⟨HQ9.out⟩, ⟨HB.out⟩⟩
            · rw [if_neg hv] at H
              replace hv : rdOf false out x = false := by simpa using hv
              rw [hv] at hm
              clear hv
              obtain ⟨ns, hns, H⟩ := Option.bind_eq_some_iff.mp H
              have HN := Aside0.mk hns
              clear hns
              by_cases hlen : (t.length + ns.length) * 8 ≤ 140737488355328
              · rw [if_pos hlen] at H
                have HF := Aside0.mk H
                have HLEN := Aside0.mk hlen
                clear H hlen
                have HP := Aside0.mk (Kd.R_putg HO.out x true)
                have HS := Aside0.mk (below_set (j := x.toNat) (v := .bool true) HB.out HG.out)
                have HQ3 := Aside0.mk (Kd.Q_over' HQ9.out (Kd.R_typed HO.out) (by decide) HP.out.2)
                go_wp2_with (first | (go_at_call 29; (with_reducible refine (spec_l07Next.calls k1 A0 c0 l0 x ns _ (Kd.C_below HR0.out HS.out) HC0.out HN.out).mono ?_); rintro e w4 ⟨v4, rfl, ho4, hb4⟩; obtain ⟨A4, c4, e4⟩ := Kd.R_slice ho4; subst e4; have HQ4 := Aside0.mk (Kd.Q_below HQ3.out hb4); have HO4 := Aside0.mk (Kd.R_below HP.out.1 hb4); have HB4 := Aside0.mk (below_step HS.out hb4); have HN4 := Aside0.mk (Kd.R_reads' ho4).2.2; clear ho4 hb4) | ((with_reducible refine gate_builtin (b := .append) (xs := #[.tmp 30, .tmp 33]) rfl ?_); at_builtin; refine Q_app (w0 := w) w.heap.size rfl (.tmp 30) (.tmp 33) rfl _ t ns A4 ns.length c4 (fun _ => True) rfl rfl HQ4.out HN4.out (fun _ _ => trivial) HB4.out (below_size HB4.out) HLEN.out ?_; intro v5 w5 hq5 hb5 hg5; have HO5 := Aside0.mk (Kd.R_over' HO4.out (Kd.Q_typed HQ4.out) (by decide) hg5); have HQ5 := Aside0.mk hq5; have HB5 := Aside0.mk hb5; clear hq5 hb5 hg5))
                go_roundg k1
                case measure => omega
                case rel => exact ⟨out.set x.toNat true, t ++ ns, by rw [List.length_set]; exact HOL.out, HF, ⟨HO5.out⟩, ⟨HQ5.out⟩, ⟨HB5.out⟩⟩
              · rw [if_neg hlen] at H
                exact absurd H (by simp)
          · rw [if_neg hr] at H
            exact absurd H (by simp)
        · have HQ9 := Aside0.mk hq9
          clear hq9
          by_cases hr : 0 ≤ x ∧ x < (out.length : Int)
          · rw [if_pos hr] at H
            rw [hol] at hr
            obtain ⟨hm, hf⟩ := Kd.R_celln false HO.out x hr.1 hr.2
            have q1 : decide (0 ≤ x) = true := decide_eq_true hr.1
            have q2 : decide (x < ((l0.length + 1 : Nat) : Int)) = true := decide_eq_true hr.2
            have q3 : decide (x < (l0.length : Int) + 1) = true := decide_eq_true (by omega)
            have q4 : 0 ≤ x := hr.1
            have q5 : x < (l0.length : Int) + 1 := by omega
            clear hr hol
            by_cases hv : rdOf false out x = true
            · rw [if_pos hv] at H
              have HF := Aside0.mk H
              rw [hv] at hm
              clear hv H
              go_wp2
              go_roundg k1
              case measure => omega
              case rel => exact ⟨out, t, HOL.out, HF, ⟨HO.out⟩, ⟨HQ9.out⟩, ⟨HB.out⟩⟩
            · rw [if_neg hv] at H
              replace hv : rdOf false out x = false := by simpa using hv
              rw [hv] at hm
              clear hv
              obtain ⟨ns, hns, H⟩ := Option.bind_eq_some_iff.mp H
              have HN := Aside0.mk hns
              clear hns
              by_cases hlen : (t.length + ns.length) * 8 ≤ 140737488355328
              · rw [if_pos hlen] at H
                have HF := Aside0.mk H
                have HLEN := Aside0.mk hlen
                clear H hlen
                have HP := Aside0.mk (Kd.R_putg HO.out x true)
                have HS := Aside0.mk (below_set (j := x.toNat) (v := .bool true) HB.out HG.out)
                have HQ3 := Aside0.mk (Kd.Q_over' HQ9.out (Kd.R_typed HO.out) (by decide) HP.out.2)
                go_wp2_with (first | (go_at_call 29; (with_reducible refine (spec_l07Next.calls k1 A0 c0 l0 x ns _ (Kd.C_below HR0.out HS.out) HC0.out HN.out).mono ?_); rintro e w4 ⟨v4, rfl, ho4, hb4⟩; obtain ⟨A4, c4, e4⟩ := Kd.R_slice ho4; subst e4; have HQ4 := Aside0.mk (Kd.Q_below HQ3.out hb4); have HO4 := Aside0.mk (Kd.R_below HP.out.1 hb4); have HB4 := Aside0.mk (below_step HS.out hb4); have HN4 := Aside0.mk (Kd.R_reads' ho4).2.2; clear ho4 hb4) | ((with_reducible refine gate_builtin (b := .append) (xs := #[.tmp 30, .tmp 33]) rfl ?_); at_builtin; refine Q_app (w0 := w) w.heap.size rfl (.tmp 30) (.tmp 33) rfl _ t ns A4 ns.length c4 (fun _ => True) rfl rfl HQ4.out HN4.out (fun _ _ => trivial) HB4.out (below_size HB4.out) HLEN.out ?_; intro v5 w5 hq5 hb5 hg5; have HO5 := Aside0.mk (Kd.R_over' HO4.out (Kd.Q_typed HQ4.out) (by decide) hg5); have HQ5 := Aside0.mk hq5; have HB5 := Aside0.mk hb5; clear hq5 hb5 hg5))
                go_roundg k1
                case measure => omega
                case rel => exact ⟨out.set x.toNat true, t ++ ns, by rw [List.length_set]; exact HOL.out, HF, ⟨HO5.out⟩, ⟨HQ5.out⟩, ⟨HB5.out⟩⟩
              · rw [if_neg hlen] at H
                exact absurd H (by simp)
          · rw [if_neg hr] at H
            exact absurd H (by simp)

/-! ### spec_ReachesExit: function 58 -/
def spec_ReachesExit.f (k : Nat) (l0 : List (S38)) (a1 : Int) : Option (Bool) := (spec_l07Ok.f k l0 a1).bind fun t251 => (if t251 = true then ((spec_l07Reach.f k l0 (([a1] : List Int))).bind fun t255 => (if 0 ≤ (l0.length : Int) then (if (l0.length : Int) < (t255.length : Int) then (some (rdOf false t255 (l0.length : Int))) else (none)) else (none))) else (some false))
theorem spec_ReachesExit.mono : ∀ a0 a1 k, LeO (spec_ReachesExit.f k a0 a1) (spec_ReachesExit.f (k + 1) a0 a1) := by
 intro a0 a1 k
 unfold spec_ReachesExit.f
 repeat' first
   | (with_reducible exact spec_l07Ok.mono _ _ _)
   | (with_reducible exact spec_l07Reach.mono _ _ _)
   | (with_reducible exact LeO.refl _)
   | (with_reducible exact LeO.none _)
   | (with_reducible refine LeO.ite ?_ ?_)
   | (with_reducible refine LeO.bind ?_ (fun _ => ?_))
   | exact spec_l07Ok.mono _ _ _
   | exact spec_l07Reach.mono _ _ _
   | exact LeO.none _
   | refine LeO.ite ?_ ?_
   | refine LeO.bind ?_ (fun _ => ?_)
set_option maxHeartbeats 8000000 in
set_option maxRecDepth 100000 in
theorem spec_ReachesExit.calls (k : Nat) (A0 : Option Addr) (c0 : Nat) (l0 : List (S38)) (a1 : Int) (r : Bool) (w : World) (hr0 : Kd.C k38 w A0 l0.length l0) (hc0 : l0.length ≤ c0) (h : spec_ReachesExit.f k l0 a1 = some r) :
  Calls Tryz.prog 58 #[.slice A0 l0.length c0, .int .i64 a1] w fun e w' => e = .returned (.bool r) ∧ Below w.heap.size w w' := by
 have HR0 := Aside0.mk hr0
 have HC0 := Aside0.mk hc0
 clear hr0 hc0
 have HB := Aside0.mk (Below.refl w.heap.size w)
 have H : ((spec_l07Ok.f k l0 a1).bind fun t251 => (if t251 = true then ((spec_l07Reach.f k l0 (([a1] : List Int))).bind fun t255 => (if 0 ≤ (l0.length : Int) then (if (l0.length : Int) < (t255.length : Int) then (some (rdOf false t255 (l0.length : Int))) else (none)) else (none))) else (some false))) = some r := h
 clear h
 replace H := Option.bind_eq_some_iff.mp H
 obtain ⟨t251, A30, H⟩ := H
 replace H : (if t251 = true then ((spec_l07Reach.f k l0 (([a1] : List Int))).bind fun t255 => (if 0 ≤ (l0.length : Int) then (if (l0.length : Int) < (t255.length : Int) then (some (rdOf false t255 (l0.length : Int))) else (none)) else (none))) else (some false)) = some r := H
 have A3 := Aside0.mk A30
 clear A30
 by_cases c4 : t251 = true
 ·subst c4
  have H1 : ((spec_l07Reach.f k l0 (([a1] : List Int))).bind fun t255 => (if 0 ≤ (l0.length : Int) then (if (l0.length : Int) < (t255.length : Int) then (some (rdOf false t255 (l0.length : Int))) else (none)) else (none))) = some r := by rw [if_pos rfl] at H; exact H
  clear H
  have H := H1
  clear H1
  obtain ⟨y252, hy252⟩ : ∃ y_ : List Int, y_ = (([a1] : List Int)) := ⟨_, rfl⟩
  replace H : ((spec_l07Reach.f k l0 y252).bind fun t255 => (if 0 ≤ (l0.length : Int) then (if (l0.length : Int) < (t255.length : Int) then (some (rdOf false t255 (l0.length : Int))) else (none)) else (none))) = some r := rP hy252 H
  have Ny252 := Aside0.mk hy252
  clear hy252
  replace H := Option.bind_eq_some_iff.mp H
  obtain ⟨t255, A50, H⟩ := H
  replace H : (if 0 ≤ (l0.length : Int) then (if (l0.length : Int) < (t255.length : Int) then (some (rdOf false t255 (l0.length : Int))) else (none)) else (none)) = some r := H
  have A5 := Aside0.mk A50
  clear A50
  by_cases c6 : 0 ≤ (l0.length : Int)
  ·rw [if_pos c6] at H
   have c6b0 : decide (0 ≤ (l0.length : Int)) = true := decide_eq_true c6
   have c6b1 : decide (0 ≤ l0.length) = true := decide_eq_true (by omega)
   clear c6
   by_cases c7 : (l0.length : Int) < (t255.length : Int)
   ·rw [if_pos c7] at H
    have c7b0 : decide ((l0.length : Int) < (t255.length : Int)) = true := decide_eq_true c7
    have c7b1 : decide (l0.length < t255.length) = true := decide_eq_true (Int.ofNat_lt.mp c7)
    clear c7
    obtain rfl := Option.some.inj H
    go_enter Tryz.func58, Tryz.ntmps58
    go_wp2_with (first | ((with_reducible refine gate_callee (f := 77) rfl ?_); refine gL (some 7) Tryz.func77 #[.slice A0 l0.length c0, .int .i64 a1] ?_; (with_reducible refine (spec_l07Ok.calls k _ _ l0 a1 true _ ?side1 ?side2 A3.out).mono ?_); (case side1 => exact cS HR0.out); (case side2 => exact HC0.out); rintro e w8 ⟨rfl, hb⟩; refine ⟨_, rfl, ?_⟩; replace HB := Aside0.mk (below_step bw hb); (try clear hb)) | ((with_reducible refine gate_dst (N := 11) rfl ?_); (try (refine gate_guard (by rfl) ?_; dsimp only)); refine Kd.R_lit (Kd.int .i64) _ 3 ?hg (N := 11) ?hd (xs := ([a1] : List Int)) (inner := [.int .i64 a1]) (ok := fun _ => True) (okp := fun _ => True) ?hr ?hp (fun _ hk => hk) trivial (Below.refl _ _) (Nat.le_refl _) (by simp) ?_; (case hd => rfl); (case hg => rfl); (case hr => first | (go_simp; done) | (go_simp; rfl)); (case hp => exact (Reps.one (show Kd.M (Kd.int .i64) _ _ _ a1 [.int .i64 a1] from rfl) (Reps.none _ _))); intro v253 w9 ho10 hb hg_ hnew_; clear hg_ hnew_; (first | rw [← Ny252.out] at ho10 | (simp only [Int.reduceToNat] at ho10; rw [← Ny252.out] at ho10)); have HO254 := Aside0.mk (Kd.R_lower ho10 (below_size bw)); replace HB := Aside0.mk (below_step bw hb); clear hb ho10; obtain ⟨Ao11, co11, eo11⟩ := Kd.R_slice HO254.out; subst eo11) | (go_at_call 78; (with_reducible refine (spec_l07Reach.calls k _ _ l0 _ _ y252 t255 _ ?side1 ?side2 ?side3 ?side4 A5.out).mono ?_); (case side1 => repeat (first | exact (Kd.C_below HR0.out HB.out) | (with_reducible refine Kd.C_alloc ?_ _) | (with_reducible refine Kd.C_drewN ?_ _) | (with_reducible refine Kd.C_drew ?_))); (case side2 => exact HC0.out); (case side3 => exact cS (Kd.R_reads' HO254.out).2.2); (case side4 => exact (Kd.R_reads' HO254.out).2.1); rintro e w12 ⟨v256, rfl, ho0, hb⟩; replace HO254 := Aside0.mk (Kd.R_below (rS HO254.out) hb); have HO257 := Aside0.mk (Kd.R_lower ho0 (below_size bw)); replace HB := Aside0.mk (below_step bw hb); (try clear hb); (try clear ho0); obtain ⟨Ao13, co13, eo13⟩ := Kd.R_slice HO257.out; subst eo13; have p258 : 0 ≤ ((l0.length : Int) : Int) := dT; have q258 : (l0.length : Int) < (t255.length : Int) := dT; obtain ⟨ad258, e258, hx258_0⟩ := Kd.at_bool (Kd.R_reads' HO257.out).2.2 (l0.length : Int) p258 q258; cases e258; (try simp only [Go.IntWalk.toNatUp] at hx258_0); replace p258 := eq_true p258; replace q258 := eq_true q258))
    go_ret
    exact ⟨eR, bw⟩
   ·rw [if_neg c7] at H
    exact absurd H (by simp)
  ·rw [if_neg c6] at H
   exact absurd H (by simp)
 ·replace c4 := Bool.eq_false_iff.mpr c4
  subst c4
  have H1 : (some false) = some r := by rw [if_neg (show ¬ (false = true) by decide)] at H; exact H
  clear H
  have H := H1
  clear H1
  obtain rfl := Option.some.inj H
  go_enter Tryz.func58, Tryz.ntmps58
  go_wp2_with (first | ((with_reducible refine gate_callee (f := 77) rfl ?_); refine gL (some 7) Tryz.func77 #[.slice A0 l0.length c0, .int .i64 a1] ?_; (with_reducible refine (spec_l07Ok.calls k _ _ l0 a1 false _ ?side1 ?side2 A3.out).mono ?_); (case side1 => exact cS HR0.out); (case side2 => exact HC0.out); rintro e w14 ⟨rfl, hb⟩; refine ⟨_, rfl, ?_⟩; replace HB := Aside0.mk (below_step bw hb); (try clear hb)))
  go_ret
  exact ⟨eR, bw⟩

/-! ### spec_l08After: function 92 -/
def afterS (l0 : List S38) (wo : Int) : Nat → List Bool → List Int → Option Bool
  | 0, _, _ => none
  | _ + 1, out, [] => some true
  | k + 1, out, x :: t => if 0 ≤ x ∧ x < (out.length : Int) then (if rdOf false out x = true then afterS l0 wo k out t else if x = wo then afterS l0 wo k out t else if x = (l0.length : Int) then some false else (spec_l07Next.f k l0 x).bind fun ns => if (t.length + ns.length) * 8 ≤ 140737488355328 then afterS l0 wo k (out.set x.toNat true) (t ++ ns) else none) else none
theorem afterS_mono (l0 : List S38) (wo : Int) : ∀ k out t, LeO (afterS l0 wo k out t) (afterS l0 wo (k + 1) out t)
  | 0, out, t => fun r h => by simp [afterS] at h
  | k + 1, out, [] => LeO.refl _
  | k + 1, out, x :: t => by
    rw [afterS, afterS]
    refine LeO.ite (LeO.ite (afterS_mono l0 wo k _ _) (LeO.ite (afterS_mono l0 wo k _ _) (LeO.ite (LeO.refl _) (LeO.bind (spec_l07Next.mono _ _ _) fun _ => LeO.ite (afterS_mono l0 wo k _ _) (LeO.none _))))) (LeO.none _)
def spec_l08After.f (k : Nat) (l0 : List S38) (a1 : Int) (a2 : Int) : Option Bool := if a1 = a2 then some true else if l0.length ≤ 1048576 then afterS l0 a2 k (List.replicate (l0.length + 1) false) [a1] else none
theorem spec_l08After.mono : ∀ a0 a1 a2 k, LeO (spec_l08After.f k a0 a1 a2) (spec_l08After.f (k + 1) a0 a1 a2) := by
  intro a0 a1 a2 k
  unfold spec_l08After.f
  exact LeO.ite (LeO.refl _) (LeO.ite (afterS_mono _ _ _ _ _) (LeO.none _))
set_option maxHeartbeats 4000000 in
set_option maxRecDepth 100000 in
theorem spec_l08After.calls (k : Nat) (A0 : Option Addr) (c0 : Nat) (l0 : List S38) (a1 : Int) (a2 : Int) (r : Bool) (w : World) (hr0 : Kd.C k38 w A0 l0.length l0) (hc0 : l0.length ≤ c0) (h : spec_l08After.f k l0 a1 a2 = some r) :
    Calls Tryz.prog 92 #[.slice A0 l0.length c0, .int .i64 a1, .int .i64 a2] w fun e w' => e = .returned (.bool r) ∧ Below w.heap.size w w' := by
  unfold spec_l08After.f at h
  by_cases e0 : a1 = a2
  · rw [if_pos e0] at h
    obtain rfl := Option.some.inj h
    have b0 : (a1 == a2) = true := beq_iff_eq.mpr e0
    clear e0 h
    go_enter Tryz.func92, Tryz.ntmps92
    go_wp2
    go_ret
    exact ⟨rfl, Below.refl _ _⟩
  rw [if_neg e0] at h
  have b0 : (a1 == a2) = false := beq_eq_false_iff_ne.mpr e0
  clear e0
  by_cases h20 : ¬ l0.length ≤ 1048576
  · rw [if_neg h20] at h; exact absurd h (by simp)
  replace h20 := Decidable.not_not.1 h20
  rw [if_pos h20] at h
  have HL := Aside0.mk h
  have HR0 := Aside0.mk hr0
  have HC0 := Aside0.mk hc0
  have HB := Aside0.mk (Below.refl w.heap.size w)
  clear h hr0 hc0
  have hw1 : IntKind.i64.wrap ((l0.length : Int) + 1) = (l0.length : Int) + 1 := by rw [i64_w]; unfold wrap64; omega
  have hn1 : ((l0.length : Int) + 1).toNat = l0.length + 1 := by omega
  go_enter Tryz.func92, Tryz.ntmps92
  go_wp2_with (first
    | ((with_reducible refine gate_dst (N := 16) rfl ?_); refine Kd.R_make Kd.bool _ 4 rfl (N := 16) rfl 57 _ _ rfl ((l0.length : Int) + 1) rfl rfl Tryz.underlying57 (.bool false) 1 info4 rfl (by decide) (by omega) false (ok := fun _ => True) (okp := fun _ => True) rfl (fun _ hk => hk) trivial (by omega) (by omega) (by exact HB.out) (below_size HB.out) ?_; intro v1 w1 ho1 hb1 _ _; rw [hn1] at ho1; obtain ⟨go, co, eo, hgo, _, _⟩ := Kd.R_form ho1 (by simp); rw [List.length_replicate] at eo; subst eo; have HO := Aside0.mk ho1; have HG := Aside0.mk hgo; clear HB; have HB := Aside0.mk hb1; clear ho1 hb1 hgo)
    | ((with_reducible refine gate_dst (N := 18) rfl ?_); refine Kd.R_lit (Kd.int .i64) _ 3 ?hg (N := 18) ?hd (xs := [a1]) (inner := [.int .i64 a1]) (ok := fun _ => True) (okp := fun _ => True) ?hr ?hp (fun _ hk => hk) trivial HB.out (below_size HB.out) (by simp) ?_; (case hd => rfl); (case hg => rfl); (case hr => first | (go_simp; done) | (go_simp; rfl)); (case hp => exact Reps.one rfl (Reps.none _ _)); intro v12 w2 ho2 hb2 hg2 _; have HQ := Aside0.mk (Kd.Q_of_R ho2); have HO2 := Aside0.mk (Kd.R_grown HO.out hg2 (fun _ _ => by simp)); have HB2 := Aside0.mk hb2; clear hg2 ho2 hb2))
  go_loopg [8, 9] k (fun kq v8 _ wr => ∃ (out : List Bool) (todo : List Int), out.length = l0.length + 1 ∧ Aside0 (afterS l0 a2 kq out todo = some r) ∧ Aside0 (Kd.R Kd.bool 4 wr w.heap.size (fun _ => True) (.slice (some ⟨go, 0, none⟩) (l0.length + 1) co) out) ∧ Aside0 (Kd.Q (Kd.int .i64) 3 wr w.heap.size (fun _ => True) v8 todo) ∧ Aside0 (Below w.heap.size w wr))
  case atStart => exact ⟨_, _, List.length_replicate .., HL, ⟨HO2.out⟩, ⟨HQ.out⟩, ⟨HB2.out⟩⟩
  case round =>
    clear HL HO2 HQ HB2 HO HB
    obtain ⟨out, todo, hol, HA, HO, HQ, HB⟩ := hrel
    cases gk with
    | zero => exact absurd HA.out (by simp [afterS])
    | succ k1 =>
      obtain ⟨A8, c8, e8, _⟩ := Kd.Q_slice HQ.out
      subst e8
      cases todo with
      | nil =>
        obtain rfl := Option.some.inj HA.out
        go_wp2
        go_ret
        exact ⟨rfl, HB.out⟩
      | cons x t =>
        have hpos : decide (((t.length + 1 : Nat) : Int) > 0) = true := decide_eq_true (by omega)
        obtain ⟨ad, ea, hx⟩ := Kd.at_int (Kd.Q_reads' HQ.out).2.2 0 (by omega) (by simp)
        subst ea
        rw [show (0 : Int).toNat = 0 from rfl, Addr.add_zero'] at hx
        replace hx : wr.cell? ad = some (Value.int .i64 x) := hx
        have hq9 : (c8 = 1 ∧ Kd.Q (Kd.int .i64) 3 wr w.heap.size (fun _ => True) (.slice (some ad) t.length 0) t) ∨ (¬ c8 = 1 ∧ Kd.Q (Kd.int .i64) 3 wr w.heap.size (fun _ => True) (.slice (some (ad.add 1)) t.length (c8 - 1)) t) := by
          have hq := Kd.Q_drop (k := 1) HQ.out (by simp)
          by_cases hc : c8 = 1
          · subst hc; exact .inl ⟨rfl, hq⟩
          · rw [if_neg hc] at hq; exact .inr ⟨hc, hq⟩
        have HOL := Aside0.mk hol
        have H := HA.out
        clear HA
        rw [afterS] at H
        rcases hq9 with ⟨hc, hq9⟩ | ⟨hc, hq9⟩
        · subst hc
          have HQ9 := Aside0.mk hq9
          clear hq9
          by_cases hr : 0 ≤ x ∧ x < (out.length : Int)
          · rw [if_pos hr] at H
            rw [hol] at hr
            obtain ⟨hm, hf⟩ := Kd.R_celln false HO.out x hr.1 hr.2
            have q1 : decide (0 ≤ x) = true := decide_eq_true hr.1
            have q2 : decide (x < ((l0.length + 1 : Nat) : Int)) = true := decide_eq_true hr.2
            have q3 : decide (x < (l0.length : Int) + 1) = true := decide_eq_true (by omega)
            have q4 : 0 ≤ x := hr.1
            have q5 : x < (l0.length : Int) + 1 := by omega
            clear hr hol
            by_cases hv : rdOf false out x = true
            · rw [if_pos hv] at H
              have HF := Aside0.mk H
              rw [hv] at hm
              clear hv H
              go_wp2
              go_roundg k1
              case measure => omega
              case rel => exact ⟨out, t, HOL.out, HF, ⟨HO.out⟩, ⟨HQ9.out⟩, ⟨HB.out⟩⟩
            · rw [if_neg hv] at H
              replace hv : rdOf false out x = false := by simpa using hv
              rw [hv] at hm
              clear hv
              by_cases e1 : x = a2
              · rw [if_pos e1] at H
                have HF := Aside0.mk H
                have b1 : (x == a2) = true := beq_iff_eq.mpr e1
                clear e1 H
                go_wp2
                go_roundg k1
                case measure => omega
                case rel => exact ⟨out, t, HOL.out, HF, ⟨HO.out⟩, ⟨HQ9.out⟩, ⟨HB.out⟩⟩
              · rw [if_neg e1] at H
                have b1 : (x == a2) = false := beq_eq_false_iff_ne.mpr e1
                clear e1
                by_cases e2 : x = (l0.length : Int)
                · rw [if_pos e2] at H
                  obtain rfl := Option.some.inj H
                  have b2 : (x == (l0.length : Int)) = true := beq_iff_eq.mpr e2
                  clear e2
                  go_wp2
                  go_ret
                  exact ⟨rfl, HB.out⟩
                · rw [if_neg e2] at H
                  have b2 : (x == (l0.length : Int)) = false := beq_eq_false_iff_ne.mpr e2
                  clear e2
                  obtain ⟨ns, hns, H⟩ := Option.bind_eq_some_iff.mp H
                  have HN := Aside0.mk hns
                  clear hns
                  by_cases hlen : (t.length + ns.length) * 8 ≤ 140737488355328
                  · rw [if_pos hlen] at H
                    have HF := Aside0.mk H
                    have HLEN := Aside0.mk hlen
                    clear H hlen
                    have HP := Aside0.mk (Kd.R_putg HO.out x true)
                    have HS := Aside0.mk (below_set (j := x.toNat) (v := .bool true) HB.out HG.out)
                    have HQ3 := Aside0.mk (Kd.Q_over' HQ9.out (Kd.R_typed HO.out) (by decide) HP.out.2)
                    go_wp2_with (first | (go_at_call 29; (with_reducible refine (spec_l07Next.calls k1 A0 c0 l0 x ns _ (Kd.C_below HR0.out HS.out) HC0.out HN.out).mono ?_); rintro e w4 ⟨v4, rfl, ho4, hb4⟩; obtain ⟨A4, c4, e4⟩ := Kd.R_slice ho4; subst e4; have HQ4 := Aside0.mk (Kd.Q_below HQ3.out hb4); have HO4 := Aside0.mk (Kd.R_below HP.out.1 hb4); have HB4 := Aside0.mk (below_step HS.out hb4); have HN4 := Aside0.mk (Kd.R_reads' ho4).2.2; clear ho4 hb4) | ((with_reducible refine gate_builtin (b := .append) (xs := #[.tmp 43, .tmp 46]) rfl ?_); at_builtin; refine Q_app (w0 := w) w.heap.size rfl (.tmp 43) (.tmp 46) rfl _ t ns A4 ns.length c4 (fun _ => True) rfl rfl HQ4.out HN4.out (fun _ _ => trivial) HB4.out (below_size HB4.out) HLEN.out ?_; intro v5 w5 hq5 hb5 hg5; have HO5 := Aside0.mk (Kd.R_over' HO4.out (Kd.Q_typed HQ4.out) (by decide) hg5); have HQ5 := Aside0.mk hq5; have HB5 := Aside0.mk hb5; clear hq5 hb5 hg5))
                    go_roundg k1
                    case measure => omega
                    case rel => exact ⟨out.set x.toNat true, t ++ ns, by rw [List.length_set]; exact HOL.out, HF, ⟨HO5.out⟩, ⟨HQ5.out⟩, ⟨HB5.out⟩⟩
                  · rw [if_neg hlen] at H
                    exact absurd H (by simp)
          · rw [if_neg hr] at H
            exact absurd H (by simp)
        · have HQ9 := Aside0.mk hq9
          clear hq9
          by_cases hr : 0 ≤ x ∧ x < (out.length : Int)
          · rw [if_pos hr] at H
            rw [hol] at hr
            obtain ⟨hm, hf⟩ := Kd.R_celln false HO.out x hr.1 hr.2
            have q1 : decide (0 ≤ x) = true := decide_eq_true hr.1
            have q2 : decide (x < ((l0.length + 1 : Nat) : Int)) = true := decide_eq_true hr.2
            have q3 : decide (x < (l0.length : Int) + 1) = true := decide_eq_true (by omega)
            have q4 : 0 ≤ x := hr.1
            have q5 : x < (l0.length : Int) + 1 := by omega
            clear hr hol
            by_cases hv : rdOf false out x = true
            · rw [if_pos hv] at H
              have HF := Aside0.mk H
              rw [hv] at hm
              clear hv H
              go_wp2
              go_roundg k1
              case measure => omega
              case rel => exact ⟨out, t, HOL.out, HF, ⟨HO.out⟩, ⟨HQ9.out⟩, ⟨HB.out⟩⟩
            · rw [if_neg hv] at H
              replace hv : rdOf false out x = false := by simpa using hv
              rw [hv] at hm
              clear hv
              by_cases e1 : x = a2
              · rw [if_pos e1] at H
                have HF := Aside0.mk H
                have b1 : (x == a2) = true := beq_iff_eq.mpr e1
                clear e1 H
                go_wp2
                go_roundg k1
                case measure => omega
                case rel => exact ⟨out, t, HOL.out, HF, ⟨HO.out⟩, ⟨HQ9.out⟩, ⟨HB.out⟩⟩
              · rw [if_neg e1] at H
                have b1 : (x == a2) = false := beq_eq_false_iff_ne.mpr e1
                clear e1
                by_cases e2 : x = (l0.length : Int)
                · rw [if_pos e2] at H
                  obtain rfl := Option.some.inj H
                  have b2 : (x == (l0.length : Int)) = true := beq_iff_eq.mpr e2
                  clear e2
                  go_wp2
                  go_ret
                  exact ⟨rfl, HB.out⟩
                · rw [if_neg e2] at H
                  have b2 : (x == (l0.length : Int)) = false := beq_eq_false_iff_ne.mpr e2
                  clear e2
                  obtain ⟨ns, hns, H⟩ := Option.bind_eq_some_iff.mp H
                  have HN := Aside0.mk hns
                  clear hns
                  by_cases hlen : (t.length + ns.length) * 8 ≤ 140737488355328
                  · rw [if_pos hlen] at H
                    have HF := Aside0.mk H
                    have HLEN := Aside0.mk hlen
                    clear H hlen
                    have HP := Aside0.mk (Kd.R_putg HO.out x true)
                    have HS := Aside0.mk (below_set (j := x.toNat) (v := .bool true) HB.out HG.out)
                    have HQ3 := Aside0.mk (Kd.Q_over' HQ9.out (Kd.R_typed HO.out) (by decide) HP.out.2)
                    go_wp2_with (first | (go_at_call 29; (with_reducible refine (spec_l07Next.calls k1 A0 c0 l0 x ns _ (Kd.C_below HR0.out HS.out) HC0.out HN.out).mono ?_); rintro e w4 ⟨v4, rfl, ho4, hb4⟩; obtain ⟨A4, c4, e4⟩ := Kd.R_slice ho4; subst e4; have HQ4 := Aside0.mk (Kd.Q_below HQ3.out hb4); have HO4 := Aside0.mk (Kd.R_below HP.out.1 hb4); have HB4 := Aside0.mk (below_step HS.out hb4); have HN4 := Aside0.mk (Kd.R_reads' ho4).2.2; clear ho4 hb4) | ((with_reducible refine gate_builtin (b := .append) (xs := #[.tmp 43, .tmp 46]) rfl ?_); at_builtin; refine Q_app (w0 := w) w.heap.size rfl (.tmp 43) (.tmp 46) rfl _ t ns A4 ns.length c4 (fun _ => True) rfl rfl HQ4.out HN4.out (fun _ _ => trivial) HB4.out (below_size HB4.out) HLEN.out ?_; intro v5 w5 hq5 hb5 hg5; have HO5 := Aside0.mk (Kd.R_over' HO4.out (Kd.Q_typed HQ4.out) (by decide) hg5); have HQ5 := Aside0.mk hq5; have HB5 := Aside0.mk hb5; clear hq5 hb5 hg5))
                    go_roundg k1
                    case measure => omega
                    case rel => exact ⟨out.set x.toNat true, t ++ ns, by rw [List.length_set]; exact HOL.out, HF, ⟨HO5.out⟩, ⟨HQ5.out⟩, ⟨HB5.out⟩⟩
                  · rw [if_neg hlen] at H
                    exact absurd H (by simp)
          · rw [if_neg hr] at H
            exact absurd H (by simp)

end Go.Proofs.YtdppehpcpofeoaaGreat.PFnExactMaySplit
