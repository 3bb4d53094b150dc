/-
  The program's UniformAfter returns what the reference's returns, for all arguments.
  No condition.
-/
import Derived.Test.YtdhifoacbpjpoaaPFnExactUniformAfterx10
namespace Go.Proofs.Ytdhifoacbpjpoaa.Pure
open Go.RowKit Go.Proofs.Ytdhifoacbpjpoaa.PFnExactUniformAfter Go.Proofs.YtdhifoacbpjpoaaW.PrintWords Go.Proofs.YtdhifoacbpjpoaaW.PrintLast Go.Proofs.YtdhifoacbpjpoaaW.PrintMore
set_option linter.unusedVariables false
set_option linter.unusedSimpArgs false

theorem w64 {x : Int} (h0 : -9223372036854775808 ≤ x) (h1 : x < 9223372036854775808) : wrap64 x = x := by unfold wrap64; omega
theorem drop_rd {l : List Int} {i : Int} (h0 : 0 ≤ i) (h1 : i < (l.length : Int)) : l.drop i.toNat = rd l i :: l.drop (i + 1).toNat := by
  have hi : i.toNat < l.length := by omega
  rw [show (i + 1).toNat = i.toNat + 1 by omega, List.drop_eq_getElem_cons hi]
  congr 1
  unfold rd
  rw [List.getD_eq_getElem?_getD, List.getElem?_eq_getElem hi]; rfl
theorem rd_mem {l : List Int} {i : Int} (h0 : 0 ≤ i) (h1 : i < (l.length : Int)) : rd l i ∈ l := by
  have hi : i.toNat < l.length := by omega
  unfold rd
  rw [List.getD_eq_getElem?_getD, List.getElem?_eq_getElem hi]
  exact List.getElem_mem hi
theorem take_set_succ {α : Type} {l x : List α} {i : Nat} (v : α) (hl : i < l.length) (hx : i < x.length) (h : x.take i = l.take i) (hv : l[i]'hl = v) : (x.set i v).take (i + 1) = l.take (i + 1) := by
  rw [List.take_succ_eq_append_getElem (by simpa using hx), List.take_succ_eq_append_getElem hl, List.take_set_of_le (Nat.le_refl i), h]
  simp [hv]
theorem rd_get {l : List Int} {i : Int} (h0 : 0 ≤ i) (h1 : i.toNat < l.length) : l[i.toNat]'h1 = rd l i := by
  unfold rd
  rw [List.getD_eq_getElem?_getD, List.getElem?_eq_getElem h1]; rfl
theorem need {p : Prop} (h : p) : p := h
theorem within_some (x a b : Int) : impl_within.f x a b = some (decide (a ≤ x ∧ x ≤ b)) := by
  unfold impl_within.f
  by_cases h : a ≤ x
  · rw [if_pos h]; simp [h]
  · rw [if_neg h]; simp [h]
theorem in_some (x a b : Int) : spec_l01In.f x a b = some (decide (a ≤ x ∧ x ≤ b)) := by
  unfold spec_l01In.f
  by_cases h : a ≤ x
  · rw [if_pos h]; simp [h]
  · rw [if_neg h]; simp [h]
def fldR (x : Int) : Bool := decide (0 ≤ x ∧ x ≤ 3)
def fldW (x : Int) : Bool := decide (0 ≤ x ∧ x ≤ 65535)
def fldT (n x : Int) : Bool := decide (0 ≤ x ∧ x ≤ n)
def fldB (n ch x : Int) : Bool := if ch = 82 then fldR x else if ch = 87 then fldW x else if ch = 84 then fldT n x else x == 0
def insB (n a b c d : Int) : Bool := if a = 0 ∨ a = 12 ∨ a = 16 then b == 0 && (c == 0 && d == 0) else if a = 1 then fldR b && (fldW c && d == 0) else if a = 2 ∨ a = 13 ∨ a = 14 ∨ a = 15 then fldR b && (fldR c && d == 0) else if a = 8 then fldR b && (c == 0 && d == 0) else if a = 10 then fldR b && (fldT n c && d == 0) else if a = 11 then b == 0 && (fldT n c && d == 0) else if 3 ≤ a ∧ a ≤ 9 then fldR b && (fldR c && fldR d) else false
theorem isField_eq (ch x n : Int) : impl_isField.f ch x n = some (fldB n ch x) := by
  unfold impl_isField.f impl_isReg.f impl_IsWord.f fldB
  simp only [within_some, Option.bind_some]
  split
  · rfl
  · split
    · rfl
    · split <;> rfl
theorem str3_ne (p q r : UInt8) : (⟨#[p, q, r]⟩ : ByteArray).toList ≠ [] := by
  unfold ByteArray.toList
  unfold ByteArray.toList.loop
  rw [if_pos (by show 0 < 3; decide)]
  unfold ByteArray.toList.loop
  rw [if_pos (by show 1 < 3; decide)]
  unfold ByteArray.toList.loop
  rw [if_pos (by show 2 < 3; decide)]
  unfold ByteArray.toList.loop
  rw [if_neg (by show ¬ 3 < 3; decide)]
  simp
theorem str0_eq : (⟨#[]⟩ : ByteArray).toList = [] := by
  unfold ByteArray.toList
  unfold ByteArray.toList.loop
  rw [if_neg (by show ¬ 0 < 0; decide)]; rfl
theorem insOk_str (p q r : UInt8) (a b c d n : Int) (h : impl_formOf.f a = some (⟨#[p, q, r]⟩ : ByteArray)) : impl_InsOk.f a b c d n = some (decide (0 ≤ n ∧ n ≤ 32) && (fldB n p.toNat b && (fldB n q.toNat c && fldB n r.toNat d))) := by
  unfold impl_InsOk.f
  rw [h]; simp only [Option.bind_some, within_some, isField_eq]
  rw [if_neg (str3_ne p q r)]
  have e0 : bt (⟨#[p, q, r]⟩ : ByteArray) 0 = p.toNat := rfl
  have e1 : bt (⟨#[p, q, r]⟩ : ByteArray) 1 = q.toNat := rfl
  have e2 : bt (⟨#[p, q, r]⟩ : ByteArray) 2 = r.toNat := rfl
  have es : ((⟨#[p, q, r]⟩ : ByteArray).size : Int) = 3 := rfl
  rw [e0, e1, e2, es]
  cases decide (0 ≤ n ∧ n ≤ 32) <;> cases fldB n p.toNat b <;> cases fldB n q.toNat c <;> cases fldB n r.toNat d <;> rfl
theorem insOk_none (a b c d n : Int) (h : ¬ (0 ≤ a ∧ a ≤ 16)) : impl_InsOk.f a b c d n = some false := by
  unfold impl_InsOk.f impl_formOf.f
  rw [within_some]; simp only [Option.bind_some]
  rw [if_neg (by simpa using h)]; simp only [Option.bind_some]
  rw [if_pos str0_eq]
theorem impl_insOk_eq (a b c d n : Int) : impl_InsOk.f a b c d n = some (decide (0 ≤ n ∧ n ≤ 32) && insB n a b c d) := by
  by_cases h : 0 ≤ a ∧ a ≤ 16
  · rcases (by omega : a = 0 ∨ a = 1 ∨ a = 2 ∨ a = 3 ∨ a = 4 ∨ a = 5 ∨ a = 6 ∨ a = 7 ∨ a = 8 ∨ a = 9 ∨ a = 10 ∨ a = 11 ∨ a = 12 ∨ a = 13 ∨ a = 14 ∨ a = 15 ∨ a = 16) with e | e | e | e | e | e | e | e | e | e | e | e | e | e | e | e | e <;> subst e <;> (first | (rw [insOk_str 45 45 45 _ b c d n rfl]; rfl) | (rw [insOk_str 82 87 45 _ b c d n rfl]; rfl) | (rw [insOk_str 82 82 45 _ b c d n rfl]; rfl) | (rw [insOk_str 82 82 82 _ b c d n rfl]; rfl) | (rw [insOk_str 82 45 45 _ b c d n rfl]; rfl) | (rw [insOk_str 82 84 45 _ b c d n rfl]; rfl) | (rw [insOk_str 45 84 45 _ b c d n rfl]; rfl))
  · rw [insOk_none a b c d n h]
    have : insB n a b c d = false := by
      unfold insB
      rw [if_neg (by omega), if_neg (by omega), if_neg (by omega), if_neg (by omega), if_neg (by omega), if_neg (by omega), if_neg (by omega)]
    rw [this, Bool.and_false]
theorem spec_reg_eq (x : Int) : spec_l04Reg.f x = some (fldR x) := by unfold spec_l04Reg.f; rw [in_some]; rfl
theorem spec_word_eq (x : Int) : spec_IsWord.f x = some (fldW x) := by unfold spec_IsWord.f; rw [in_some]; rfl
theorem spec_insOk_eq {k : Nat} (a b c d n : Int) (hk : 2 < k) : spec_InsOk.f k a b c d n = some (decide (0 ≤ n ∧ n ≤ 32) && insB n a b c d) := by
  obtain ⟨k, rfl⟩ : ∃ q, k = q + 1 + 1 := ⟨k - 2, by omega⟩
  have ht : spec_l01In.f c 0 n = some (fldT n c) := in_some _ _ _
  unfold spec_InsOk.f insB
  rw [in_some]; simp only [Option.bind_some]
  by_cases hn : 0 ≤ n ∧ n ≤ 32
  · rw [if_pos (by simpa using hn), decide_eq_true hn, Bool.true_and]
    simp only [spec_InsOk.j0, spec_InsOk.j1, spec_reg_eq, spec_word_eq, ht, in_some a 3 9, Option.bind_some]
    by_cases h : 0 ≤ a ∧ a ≤ 16
    · rcases (by omega : a = 0 ∨ a = 1 ∨ a = 2 ∨ a = 3 ∨ a = 4 ∨ a = 5 ∨ a = 6 ∨ a = 7 ∨ a = 8 ∨ a = 9 ∨ a = 10 ∨ a = 11 ∨ a = 12 ∨ a = 13 ∨ a = 14 ∨ a = 15 ∨ a = 16) with e | e | e | e | e | e | e | e | e | e | e | e | e | e | e | e | e <;> subst e <;> simp <;> by_cases hb : b = 0 <;> by_cases hc : c = 0 <;> (try simp [hb, hc]) <;> (try cases fldR b) <;> (try cases fldR 0) <;> (try cases fldR c) <;> (try cases fldW c) <;> (try cases fldW 0) <;> (try cases fldT n c) <;> (try cases fldT n 0) <;> (try simp)
    · have q0 : a ≠ 0 := by omega
      have q1 : a ≠ 1 := by omega
      have q2 : a ≠ 2 := by omega
      have q8 : a ≠ 8 := by omega
      have q10 : a ≠ 10 := by omega
      have q11 : a ≠ 11 := by omega
      have q12 : a ≠ 12 := by omega
      have q13 : a ≠ 13 := by omega
      have q14 : a ≠ 14 := by omega
      have q15 : a ≠ 15 := by omega
      have q16 : a ≠ 16 := by omega
      have q3 : ¬ (3 ≤ a ∧ a ≤ 9) := by omega
      simp [q0, q1, q2, q8, q10, q11, q12, q13, q14, q15, q16, q3]
  · rw [if_neg (by simpa using hn), decide_eq_false hn]; rfl
/-- The registers that an instruction's fields name as read, in the text's order. -/
def rawReads (a b c d : Int) : List Int := if a = 2 ∨ a = 13 then [c] else if 3 ≤ a ∧ a ≤ 7 then [c, d] else if a = 9 then [b, c, d] else if a = 10 then [b] else if a = 14 ∨ a = 15 then [b, c] else []
def readsB (a b c d : Int) : List Int := [0, 1, 2, 3].filter fun r => (rawReads a b c d).contains r
theorem readsB_in {a b c d r : Int} (h : r ∈ readsB a b c d) : 0 ≤ r ∧ r ≤ 3 := by
  unfold readsB at h
  rw [List.mem_filter] at h
  obtain ⟨h, _⟩ := h
  simp only [List.mem_cons, List.not_mem_nil, or_false] at h
  omega
theorem fldR4 {x : Int} (h : fldR x = true) : x = 0 ∨ x = 1 ∨ x = 2 ∨ x = 3 := by
  unfold fldR at h
  have := of_decide_eq_true h
  omega
/-- What a valid instruction's fields are. -/
theorem insB_cases {n a b c d : Int} (h : insB n a b c d = true) : (a = 0 ∨ a = 1 ∨ a = 8 ∨ a = 11 ∨ a = 12 ∨ a = 16) ∨ ((a = 2 ∨ a = 13) ∧ fldR c = true) ∨ ((a = 3 ∨ a = 4 ∨ a = 5 ∨ a = 6 ∨ a = 7) ∧ fldR c = true ∧ fldR d = true) ∨ (a = 9 ∧ fldR b = true ∧ fldR c = true ∧ fldR d = true) ∨ (a = 10 ∧ fldR b = true) ∨ ((a = 14 ∨ a = 15) ∧ fldR b = true ∧ fldR c = true) := by
  unfold insB at h
  split at h
  · exact .inl (by omega)
  split at h
  · exact .inl (by omega)
  split at h
  · rename_i q
    simp only [Bool.and_eq_true] at h
    rcases q with q | q | q | q
    · exact .inr (.inl ⟨.inl q, h.2.1⟩)
    · exact .inr (.inl ⟨.inr q, h.2.1⟩)
    · exact .inr (.inr (.inr (.inr (.inr ⟨.inl q, h.1, h.2.1⟩))))
    · exact .inr (.inr (.inr (.inr (.inr ⟨.inr q, h.1, h.2.1⟩))))
  split at h
  · exact .inl (by omega)
  split at h
  · rename_i q
    simp only [Bool.and_eq_true] at h
    exact .inr (.inr (.inr (.inr (.inl ⟨q, h.1⟩))))
  split at h
  · exact .inl (by omega)
  split at h
  · simp only [Bool.and_eq_true] at h
    by_cases e : a = 9
    · exact .inr (.inr (.inr (.inl ⟨e, h.1, h.2.1, h.2.2⟩)))
    · by_cases e8 : a = 8
      · exact .inl (by omega)
      · exact .inr (.inr (.inl ⟨by omega, h.2.1, h.2.2⟩))
  · exact absurd h (by simp)
theorem impl_reads40 {a b c d n : Int} (h : insB n a b c d = true) : impl_ReadsRegs.f 40 a b c d = some (readsB a b c d) := by
  rcases insB_cases h with q | ⟨q, hc⟩ | ⟨q, hc, hd⟩ | ⟨q, hb, hc, hd⟩ | ⟨q, hb⟩ | ⟨q, hb, hc⟩
  · rcases q with q | q | q | q | q | q <;> subst q <;> kernel_rfl
  · rcases q with q | q <;> subst q <;> rcases fldR4 hc with e | e | e | e <;> subst e <;> kernel_rfl
  · rcases q with q | q | q | q | q <;> subst q <;> rcases fldR4 hc with e | e | e | e <;> subst e <;> rcases fldR4 hd with e | e | e | e <;> subst e <;> kernel_rfl
  · subst q; rcases fldR4 hb with e | e | e | e <;> subst e <;> rcases fldR4 hc with e | e | e | e <;> subst e <;> rcases fldR4 hd with e | e | e | e <;> subst e <;> kernel_rfl
  · subst q; rcases fldR4 hb with e | e | e | e <;> subst e <;> kernel_rfl
  · rcases q with q | q <;> subst q <;> rcases fldR4 hb with e | e | e | e <;> subst e <;> rcases fldR4 hc with e | e | e | e <;> subst e <;> kernel_rfl
theorem impl_reads_eq {k : Nat} {a b c d n : Int} (h : insB n a b c d = true) (hk : 40 ≤ k) : impl_ReadsRegs.f k a b c d = some (readsB a b c d) :=
  at_rounds (g := fun k => impl_ReadsRegs.f k a b c d) (fun k => impl_ReadsRegs.mono a b c d k) hk (impl_reads40 h)
theorem spec_reads40 {a b c d n : Int} (h : insB n a b c d = true) : spec_ReadsRegs.f 40 a b c d = some (readsB a b c d) := by
  rcases insB_cases h with q | ⟨q, hc⟩ | ⟨q, hc, hd⟩ | ⟨q, hb, hc, hd⟩ | ⟨q, hb⟩ | ⟨q, hb, hc⟩
  · rcases q with q | q | q | q | q | q <;> subst q <;> kernel_rfl
  · rcases q with q | q <;> subst q <;> rcases fldR4 hc with e | e | e | e <;> subst e <;> kernel_rfl
  · rcases q with q | q | q | q | q <;> subst q <;> rcases fldR4 hc with e | e | e | e <;> subst e <;> rcases fldR4 hd with e | e | e | e <;> subst e <;> kernel_rfl
  · subst q; rcases fldR4 hb with e | e | e | e <;> subst e <;> rcases fldR4 hc with e | e | e | e <;> subst e <;> rcases fldR4 hd with e | e | e | e <;> subst e <;> kernel_rfl
  · subst q; rcases fldR4 hb with e | e | e | e <;> subst e <;> kernel_rfl
  · rcases q with q | q <;> subst q <;> rcases fldR4 hb with e | e | e | e <;> subst e <;> rcases fldR4 hc with e | e | e | e <;> subst e <;> kernel_rfl
theorem spec_reads_eq {k : Nat} {a b c d n : Int} (h : insB n a b c d = true) (hk : 40 ≤ k) : spec_ReadsRegs.f k a b c d = some (readsB a b c d) :=
  at_rounds (g := fun k => spec_ReadsRegs.f k a b c d) (fun k => spec_ReadsRegs.mono a b c d k) hk (spec_reads40 h)
def onB (s r : Int) : Bool := (Go.bits .and .i64 (shr .i64 s r) 1) == 1
theorem onB_fin : ∀ (s : Fin 16) (r : Fin 4), ((Go.bits .and .i64 (shr .i64 (s.val : Int) (r.val : Int)) 1) == 0) = !(onB (s.val : Int) (r.val : Int)) := by decide +kernel
theorem fin16 {s : Int} (h : 0 ≤ s ∧ s ≤ 15) : ∃ f : Fin 16, (f.val : Int) = s := ⟨⟨s.toNat, by omega⟩, by show ((s.toNat : Nat) : Int) = s; omega⟩
theorem fin4 {s : Int} (h : 0 ≤ s ∧ s ≤ 3) : ∃ f : Fin 4, (f.val : Int) = s := ⟨⟨s.toNat, by omega⟩, by show ((s.toNat : Nat) : Int) = s; omega⟩
theorem onB_not {s r : Int} (hs : 0 ≤ s ∧ s ≤ 15) (hr : 0 ≤ r ∧ r ≤ 3) : ((Go.bits .and .i64 (shr .i64 s r) 1) == 0) = !(onB s r) := by
  obtain ⟨f, rfl⟩ := fin16 hs
  obtain ⟨g, rfl⟩ := fin4 hr
  exact onB_fin f g
def writesB (a b : Int) : Int := if 1 ≤ a ∧ a ≤ 9 ∨ a = 13 then b else -1
theorem writesB_in {n a b c d : Int} (h : insB n a b c d = true) (hw : ¬ writesB a b < 0) : 0 ≤ b ∧ b ≤ 3 := by
  unfold writesB at hw
  split at hw
  · rename_i q
    have hf : fldR b = true := by
      unfold insB at h
      split at h
      · omega
      split at h
      · simp only [Bool.and_eq_true] at h; exact h.1
      split at h
      · simp only [Bool.and_eq_true] at h; exact h.1
      split at h
      · simp only [Bool.and_eq_true] at h; exact h.1
      split at h
      · omega
      split at h
      · omega
      split at h
      · simp only [Bool.and_eq_true] at h; exact h.1
      · exact absurd h (by simp)
    unfold fldR at hf
    exact of_decide_eq_true hf
  · omega
theorem impl_writes_eq (a b c d : Int) : impl_WritesReg.f a b c d = some (writesB a b) := by
  unfold impl_WritesReg.f writesB
  rw [within_some]; simp only [Option.bind_some]
  by_cases h : 1 ≤ a ∧ a ≤ 9
  · rw [if_pos (by simpa using h), if_pos (.inl h)]
  · rw [if_neg (by simpa using h)]
    by_cases h2 : a = 13
    · rw [if_pos h2, if_pos (.inr h2)]
    · rw [if_neg h2, if_neg (by omega)]
theorem spec_writes_eq (a b c d : Int) : spec_WritesReg.f a b c d = some (writesB a b) := by
  unfold spec_WritesReg.f writesB
  rw [in_some]; simp only [Option.bind_some]
  by_cases h : 1 ≤ a ∧ a ≤ 9
  · rw [if_pos (by simpa using h), if_pos (.inl h)]
  · rw [if_neg (by simpa using h)]
    by_cases h2 : a = 13
    · rw [if_pos h2, if_pos (.inr h2)]
    · rw [if_neg h2, if_neg (by omega)]
def keepB (a b c d s : Int) : Bool := !(a == 8) && (!(a == 13) && (readsB a b c d).all (onB s))
def uniB (a b c d s : Int) : Int := if writesB a b < 0 then s else if keepB a b c d s = true then Go.bits .or .i64 s (shl .i64 1 b) else Go.bits .andNot .i64 s (shl .i64 1 b)
theorem hasAll_eq {s a b c d : Int} (hs : 0 ≤ s ∧ s ≤ 15) : impl_hasAll.f s (readsB a b c d) = some ((readsB a b c d).all (onB s)) := by
  unfold impl_hasAll.f
  rw [if_pos]
  · congr 1
    have : ∀ l : List Int, (∀ r ∈ l, 0 ≤ r ∧ r ≤ 3) → (!(l.any (bitOut s))) = l.all (onB s) := by
      intro l
      induction l with
      | nil => intro _; rfl
      | cons x r ih =>
        intro h
        rw [List.any_cons, List.all_cons, ← ih (fun y hy => h y (List.mem_cons_of_mem _ hy)), Bool.not_or]
        congr 1
        unfold bitOut
        rw [onB_not hs (h x (List.mem_cons_self ..)), Bool.not_not]
    exact this _ fun r h => readsB_in h
  · unfold regsIn
    rw [List.all_eq_true]
    intro r h
    exact decide_eq_true (readsB_in h)
theorem impl_uniformAfter_eq {k : Nat} {a b c d s n : Int} (h : insB n a b c d = true) (hs : 0 ≤ s ∧ s ≤ 15) (hk : 41 ≤ k) : impl_uniformAfter.f k a b c d s = some (uniB a b c d s) := by
  obtain ⟨k, rfl⟩ : ∃ q, k = q + 1 := ⟨k - 1, by omega⟩
  unfold impl_uniformAfter.f uniB
  rw [impl_writes_eq]; simp only [Option.bind_some]
  by_cases hw : writesB a b < 0
  · rw [if_pos hw, if_pos hw]
  · have hb := writesB_in h hw
    rw [if_neg hw, if_neg hw]
    simp only [impl_uniformAfter.j0, impl_reads_eq (k := k) h (by omega), hasAll_eq hs, Option.bind_some]
    unfold keepB
    by_cases h1 : a = 1
    · subst h1
      rw [if_pos rfl, if_pos hb.1, if_pos]
      rfl
    · rw [if_neg h1]
      by_cases h8 : a = 8
      · subst h8
        rw [if_pos rfl, if_neg (by decide), if_neg (by decide), if_pos hb.1, if_neg (by simp)]
      · rw [if_neg h8]
        have e8 : (a == 8) = false := beq_eq_false_iff_ne.mpr h8
        by_cases h13 : a = 13
        · subst h13
          rw [if_neg (by decide), if_neg (by decide), if_pos hb.1, if_neg (by simp)]
        · have e13 : (a == 13) = false := beq_eq_false_iff_ne.mpr h13
          rw [if_pos (by rw [bne, e13]; rfl), if_pos hb.1, if_pos hb.1, e8, e13]
          cases (readsB a b c d).all (onB s) <;> rfl
theorem spec_uniformAfter_l0 {s b : Int} (hb : 0 ≤ b) (l : List Int) (hl : l.length ≤ 4) (hr : ∀ r ∈ l, 0 ≤ r) : ∀ (q k : Nat) (x : Bool) (i : Int), 0 ≤ i → (l.length : Int) - i = q → q < k →
    spec_UniformAfter.l0 k s b x l i = some (if (x && (l.drop i.toNat).all (onB s)) = true then Go.bits .or .i64 s (shl .i64 1 b) else Go.bits .andNot .i64 s (shl .i64 1 b)) := by
  intro q
  induction q with
  | zero =>
    intro k x i h0 hd hk
    obtain ⟨k, rfl⟩ : ∃ q, k = q + 1 := ⟨k - 1, by omega⟩
    simp only [spec_UniformAfter.l0]
    rw [if_neg (by omega), List.drop_of_length_le (by omega), List.all_nil, Bool.and_true, if_pos hb, if_pos hb]
    cases x <;> rfl
  | succ q ih =>
    intro k x i h0 hd hk
    obtain ⟨k, rfl⟩ : ∃ q, k = q + 1 := ⟨k - 1, by omega⟩
    simp only [spec_UniformAfter.l0]
    have hi : i < (l.length : Int) := by omega
    rw [if_pos hi, w64 (by omega) (by omega), drop_rd h0 hi, List.all_cons]
    cases x with
    | false => rw [if_neg (by decide), ih k false (i + 1) (by omega) (by omega) (by omega), Bool.false_and, Bool.false_and]
    | true =>
      rw [if_pos rfl, if_pos h0, if_pos (hr _ (rd_mem h0 hi)), ih k _ (i + 1) (by omega) (by omega) (by omega)]
      rfl
theorem readsB_len (a b c d : Int) : (readsB a b c d).length ≤ 4 := by
  unfold readsB
  exact Nat.le_trans (List.length_filter_le _ _) (Nat.le_refl 4)
theorem spec_UniformAfter_eq {k : Nat} (a b c d s : Int) (hk : 50 ≤ k) : spec_UniformAfter.f k a b c d s = some (if 0 ≤ s ∧ s ≤ 15 ∧ insB 32 a b c d = true then uniB a b c d s else -1) := by
  obtain ⟨k, rfl⟩ : ∃ q, k = q + 1 + 1 := ⟨k - 2, by omega⟩
  unfold spec_UniformAfter.f
  rw [in_some]; simp only [Option.bind_some]
  by_cases hs : 0 ≤ s ∧ s ≤ 15
  · rw [if_pos (by simpa using hs), spec_insOk_eq _ _ _ _ _ (by omega)]; simp only [Option.bind_some, spec_UniformAfter.j0]
    by_cases h : insB 32 a b c d = true
    · rw [h, if_neg (by simp), if_pos ⟨hs.1, hs.2, rfl⟩, spec_writes_eq]; simp only [Option.bind_some, spec_UniformAfter.j1, spec_reads_eq (k := k) h (by omega)]
      unfold uniB
      by_cases hw : writesB a b < 0
      · rw [if_pos hw, if_pos hw]
      · have hb := writesB_in h hw
        have e : writesB a b = b := by unfold writesB at hw ⊢; split <;> simp_all
        rw [if_neg hw, if_neg hw, e]
        have hl := readsB_len a b c d
        rw [spec_uniformAfter_l0 hb.1 _ hl (fun r q => (readsB_in q).1) (readsB a b c d).length k _ 0 (by omega) (by omega) (by omega), spec_uniformAfter_l0 hb.1 _ hl (fun r q => (readsB_in q).1) (readsB a b c d).length k _ 0 (by omega) (by omega) (by omega)]
        rw [Int.toNat_zero, List.drop_zero]
        unfold keepB
        by_cases h8 : a = 8
        · subst h8
          rw [if_pos rfl]; simp
        · have e8 : (a == 8) = false := beq_eq_false_iff_ne.mpr h8
          rw [if_neg h8, e8, bne]; simp
    · have e : insB 32 a b c d = false := by simpa using h
      rw [e, Bool.and_false, if_pos (by rfl), if_neg (fun q => absurd q.2.2 (by simp))]
  · rw [if_neg (by simpa using hs), if_neg (fun q => hs ⟨q.1, q.2.1⟩)]; simp [spec_UniformAfter.j0]
theorem impl_UniformAfter_eq {k : Nat} (a b c d s : Int) (hk : 50 ≤ k) : impl_UniformAfter.f k a b c d s = some (if 0 ≤ s ∧ s ≤ 15 ∧ insB 32 a b c d = true then uniB a b c d s else -1) := by
  unfold impl_UniformAfter.f
  rw [within_some]; simp only [Option.bind_some]
  by_cases hs : 0 ≤ s ∧ s ≤ 15
  · rw [if_pos (by simpa using hs), impl_insOk_eq]; simp only [Option.bind_some]
    by_cases h : insB 32 a b c d = true
    · rw [h, if_pos (by simp), if_pos ⟨hs.1, hs.2, rfl⟩, impl_uniformAfter_eq (k := k) h hs (by omega)]; rfl
    · have e : insB 32 a b c d = false := by simpa using h
      rw [e, Bool.and_false, if_neg (by simp), if_neg (fun q => absurd q.2.2 (by simp))]
  · rw [if_neg (by simpa using hs), if_neg (fun q => hs ⟨q.1, q.2.1⟩)]

theorem FnExactUniformAfter : laws_FnExactUniformAfter.Pure := by
  intro a b c d s _ _ _ _ _
  refine ⟨50, ?_⟩
  unfold laws_FnExactUniformAfter.f laws_toIns.f
  simp only [Option.bind_some, spec_UniformAfter_eq a b c d s (Nat.le_refl 50), impl_UniformAfter_eq a b c d s (Nat.le_refl 50), if_true]

end Go.Proofs.Ytdhifoacbpjpoaa.Pure
