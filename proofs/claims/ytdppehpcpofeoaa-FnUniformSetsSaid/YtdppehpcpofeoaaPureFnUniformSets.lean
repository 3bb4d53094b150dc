/-
  There is one set for each instruction, and what is known to be uniform stays so behind it.
  No condition.
-/
import Derived.Test.YtdppehpcpofeoaaPFnUniformSetsx11
namespace Go.Proofs.Ytdppehpcpofeoaa.Pure
open Go.RowKit Go.Proofs.Ytdppehpcpofeoaa.PFnUniformSets Go.Proofs.YtdppehpcpofeoaaW.PrintWords Go.Proofs.YtdppehpcpofeoaaW.PrintLast Go.Proofs.YtdppehpcpofeoaaW.PrintMore
set_option linter.unusedVariables false
set_option linter.unusedSimpArgs false

theorem w64 {x : Int} (h0 : -9223372036854775808 ≤ x) (h1 : x < 9223372036854775808) : wrap64 x = x := by unfold wrap64; omega
theorem drop_rd {l : List Int} {i : Int} (h0 : 0 ≤ i) (h1 : i < (l.length : Int)) : l.drop i.toNat = rd l i :: l.drop (i + 1).toNat := by
  have hi : i.toNat < l.length := by omega
  rw [show (i + 1).toNat = i.toNat + 1 by omega, List.drop_eq_getElem_cons hi]
  congr 1
  unfold rd
  rw [List.getD_eq_getElem?_getD, List.getElem?_eq_getElem hi]; rfl
theorem rd_mem {l : List Int} {i : Int} (h0 : 0 ≤ i) (h1 : i < (l.length : Int)) : rd l i ∈ l := by
  have hi : i.toNat < l.length := by omega
  unfold rd
  rw [List.getD_eq_getElem?_getD, List.getElem?_eq_getElem hi]
  exact List.getElem_mem hi
theorem take_set_succ {α : Type} {l x : List α} {i : Nat} (v : α) (hl : i < l.length) (hx : i < x.length) (h : x.take i = l.take i) (hv : l[i]'hl = v) : (x.set i v).take (i + 1) = l.take (i + 1) := by
  rw [List.take_succ_eq_append_getElem (by simpa using hx), List.take_succ_eq_append_getElem hl, List.take_set_of_le (Nat.le_refl i), h]
  simp [hv]
theorem rd_get {l : List Int} {i : Int} (h0 : 0 ≤ i) (h1 : i.toNat < l.length) : l[i.toNat]'h1 = rd l i := by
  unfold rd
  rw [List.getD_eq_getElem?_getD, List.getElem?_eq_getElem h1]; rfl
theorem need {p : Prop} (h : p) : p := h
/-- Option.bind_some as an equation that is rewritten, not reckoned. -/
theorem bindS {α β : Type} (x : α) (f : α → Option β) : (some x).bind f = f x := by
  have h : ∀ o : Option α, o = some x → o.bind f = f x := fun o e => by rw [e]; rfl
  exact h _ rfl
theorem within_some (x a b : Int) : impl_within.f x a b = some (decide (a ≤ x ∧ x ≤ b)) := by
  unfold impl_within.f
  by_cases h : a ≤ x
  · rw [if_pos h]; simp [h]
  · rw [if_neg h]; simp [h]
def ups : Nat → Int → List Int
  | 0, _ => []
  | n + 1, i => i :: ups n (i + 1)
theorem ups_mem : ∀ (n : Nat) (i x : Int), x ∈ ups n i → i ≤ x ∧ x < i + n
  | 0, _, _, h => by simp [ups] at h
  | n + 1, i, x, h => by
    rw [ups, List.mem_cons] at h
    rcases h with rfl | h
    · omega
    · have := ups_mem n (i + 1) x h; omega
theorem ups_mem_of : ∀ (n : Nat) (i x : Int), i ≤ x → x < i + n → x ∈ ups n i
  | 0, _, _, _, _ => by omega
  | n + 1, i, x, h0, h1 => by
    rw [ups, List.mem_cons]
    by_cases e : x = i
    · exact .inl e
    · exact .inr (ups_mem_of n (i + 1) x (by omega) (by omega))
theorem ups_len : ∀ (n : Nat) (i : Int), (ups n i).length = n
  | 0, _ => rfl
  | n + 1, i => by rw [ups, List.length_cons, ups_len]
theorem drop_getD {α : Type} {l : List α} {i : Int} (z : α) (h0 : 0 ≤ i) (h1 : i < (l.length : Int)) : l.drop i.toNat = l.getD i.toNat z :: l.drop (i + 1).toNat := by
  have hi : i.toNat < l.length := by omega
  rw [show (i + 1).toNat = i.toNat + 1 by omega, List.drop_eq_getElem_cons hi, List.getD_eq_getElem?_getD, List.getElem?_eq_getElem hi]; rfl
theorem getD_get {α : Type} {l : List α} {n : Nat} (z : α) (h : n < l.length) : l.getD n z = l[n]'h := by
  rw [List.getD_eq_getElem?_getD, List.getElem?_eq_getElem h]; rfl
theorem getD_map {α β : Type} {l : List α} {n : Nat} (g : α → β) (z : α) (z2 : β) (h : n < l.length) : (l.map g).getD n z2 = g (l.getD n z) := by
  rw [getD_get z h, getD_get z2 (by simpa using h), List.getElem_map]
def left (a : Int) (n : Nat) : Int := if a - n < 0 then -1 else a - n
def fldR (x : Int) : Bool := decide (0 ≤ x ∧ x ≤ 3)
def fldW (x : Int) : Bool := decide (0 ≤ x ∧ x ≤ 65535)
def fldT (n x : Int) : Bool := decide (0 ≤ x ∧ x ≤ n)
def fldB (n ch x : Int) : Bool := if ch = 82 then fldR x else if ch = 87 then fldW x else if ch = 84 then fldT n x else x == 0
def insB (n a b c d : Int) : Bool := if a = 0 ∨ a = 12 ∨ a = 16 then b == 0 && (c == 0 && d == 0) else if a = 1 then fldR b && (fldW c && d == 0) else if a = 2 ∨ a = 13 ∨ a = 14 ∨ a = 15 then fldR b && (fldR c && d == 0) else if a = 8 then fldR b && (c == 0 && d == 0) else if a = 10 then fldR b && (fldT n c && d == 0) else if a = 11 then b == 0 && (fldT n c && d == 0) else if 3 ≤ a ∧ a ≤ 9 then fldR b && (fldR c && fldR d) else false
theorem isField_eq (ch x n : Int) : impl_isField.f ch x n = some (fldB n ch x) := by
  unfold impl_isField.f impl_isReg.f impl_IsWord.f fldB
  simp only [within_some, Option.bind_some]
  split
  · rfl
  · split
    · rfl
    · split <;> rfl
theorem str3_ne (p q r : UInt8) : (⟨#[p, q, r]⟩ : ByteArray).toList ≠ [] := by
  unfold ByteArray.toList
  unfold ByteArray.toList.loop
  rw [if_pos (by show 0 < 3; decide)]
  unfold ByteArray.toList.loop
  rw [if_pos (by show 1 < 3; decide)]
  unfold ByteArray.toList.loop
  rw [if_pos (by show 2 < 3; decide)]
  unfold ByteArray.toList.loop
  rw [if_neg (by show ¬ 3 < 3; decide)]
  simp
theorem str0_eq : (⟨#[]⟩ : ByteArray).toList = [] := by
  unfold ByteArray.toList
  unfold ByteArray.toList.loop
  rw [if_neg (by show ¬ 0 < 0; decide)]; rfl
theorem insOk_str (p q r : UInt8) (a b c d n : Int) (h : impl_formOf.f a = some (⟨#[p, q, r]⟩ : ByteArray)) : impl_InsOk.f a b c d n = some (decide (0 ≤ n ∧ n ≤ 32) && (fldB n p.toNat b && (fldB n q.toNat c && fldB n r.toNat d))) := by
  unfold impl_InsOk.f
  rw [h]; simp only [Option.bind_some, within_some, isField_eq]
  rw [if_neg (str3_ne p q r)]
  have e0 : bt (⟨#[p, q, r]⟩ : ByteArray) 0 = p.toNat := rfl
  have e1 : bt (⟨#[p, q, r]⟩ : ByteArray) 1 = q.toNat := rfl
  have e2 : bt (⟨#[p, q, r]⟩ : ByteArray) 2 = r.toNat := rfl
  have es : ((⟨#[p, q, r]⟩ : ByteArray).size : Int) = 3 := rfl
  rw [e0, e1, e2, es]
  cases decide (0 ≤ n ∧ n ≤ 32) <;> cases fldB n p.toNat b <;> cases fldB n q.toNat c <;> cases fldB n r.toNat d <;> rfl
theorem insOk_none (a b c d n : Int) (h : ¬ (0 ≤ a ∧ a ≤ 16)) : impl_InsOk.f a b c d n = some false := by
  unfold impl_InsOk.f impl_formOf.f
  rw [within_some]; simp only [Option.bind_some]
  rw [if_neg (by simpa using h)]; simp only [Option.bind_some]
  rw [if_pos str0_eq]
theorem impl_insOk_eq (a b c d n : Int) : impl_InsOk.f a b c d n = some (decide (0 ≤ n ∧ n ≤ 32) && insB n a b c d) := by
  by_cases h : 0 ≤ a ∧ a ≤ 16
  · rcases (by omega : a = 0 ∨ a = 1 ∨ a = 2 ∨ a = 3 ∨ a = 4 ∨ a = 5 ∨ a = 6 ∨ a = 7 ∨ a = 8 ∨ a = 9 ∨ a = 10 ∨ a = 11 ∨ a = 12 ∨ a = 13 ∨ a = 14 ∨ a = 15 ∨ a = 16) with e | e | e | e | e | e | e | e | e | e | e | e | e | e | e | e | e <;> subst e <;> (first | (rw [insOk_str 45 45 45 _ b c d n rfl]; rfl) | (rw [insOk_str 82 87 45 _ b c d n rfl]; rfl) | (rw [insOk_str 82 82 45 _ b c d n rfl]; rfl) | (rw [insOk_str 82 82 82 _ b c d n rfl]; rfl) | (rw [insOk_str 82 45 45 _ b c d n rfl]; rfl) | (rw [insOk_str 82 84 45 _ b c d n rfl]; rfl) | (rw [insOk_str 45 84 45 _ b c d n rfl]; rfl))
  · rw [insOk_none a b c d n h]
    have : insB n a b c d = false := by
      unfold insB
      rw [if_neg (by omega), if_neg (by omega), if_neg (by omega), if_neg (by omega), if_neg (by omega), if_neg (by omega), if_neg (by omega)]
    rw [this, Bool.and_false]
def insOk (n : Int) (x : S30) : Bool := decide (0 ≤ n ∧ n ≤ 32) && insB n x.f0 x.f1 x.f2 x.f3
def programOk (l : List S30) : Bool := decide (l.length ≤ 32) && l.all (insOk l.length)
theorem impl_programOk_eq (l : List S30) : impl_ProgramOk.f l = some (programOk l) := by
  unfold impl_ProgramOk.f programOk
  have hi : ∀ x : S30, insOkAt (l.length : Int) x = some (insOk l.length x) := fun x => impl_insOk_eq _ _ _ _ _
  have e : (fun x => insOkAt (l.length : Int) x == some true) = insOk (l.length : Int) := by
    funext x; rw [hi]; cases insOk (l.length : Int) x <;> rfl
  rw [if_pos, e]
  rw [List.all_eq_true]
  intro x _
  rw [hi]; rfl
theorem and255 (n : Int) : Go.bits .and .i64 n 255 = n % 256 := by
  unfold Go.bits
  have h : (BitVec.ofInt 64 n &&& BitVec.ofInt 64 255).toNat = ((n % 256).toNat) := by
    rw [BitVec.toNat_and, show (BitVec.ofInt 64 255).toNat = 2 ^ 8 - 1 by decide, Nat.and_two_pow_sub_one_eq_mod, BitVec.toNat_ofInt]
    omega
  show IntKind.i64.wrap (((BitVec.ofInt 64 n &&& BitVec.ofInt 64 255).toNat : Nat) : Int) = _
  rw [h]
  unfold IntKind.wrap
  have e : ((2 : Int) ^ IntKind.i64.bits) = 18446744073709551616 := by decide
  have e2 : ((2 : Int) ^ (IntKind.i64.bits - 1)) = 9223372036854775808 := by decide
  rw [e, e2]
  have h2 : (((n % 256).toNat : Nat) : Int) % 18446744073709551616 = n % 256 := by omega
  simp only [h2]
  rw [if_neg (by simp; omega)]
theorem byte_ok {xs : List Int} {p : Int} (s : Int) (hl : xs.length ≤ 1048576) (hp : 0 ≤ p) : ∃ v p' s', spec_l01Byte.f xs p s = some (v, p', s') ∧ 0 ≤ v ∧ v ≤ 255 ∧ 0 ≤ p' := by
  unfold spec_l01Byte.f
  by_cases h : p < (xs.length : Int)
  · rw [if_pos h, if_pos hp, w64 (x := p + 1) (by omega) (by omega)]
    exact ⟨_, _, _, rfl, by rw [and255]; omega, by rw [and255]; omega, by omega⟩
  · rw [if_neg h]
    exact ⟨_, _, _, rfl, by rw [and255]; omega, by rw [and255]; omega, hp⟩
theorem below_ok {xs : List Int} {p : Int} (s n : Int) (hl : xs.length ≤ 1048576) (hp : 0 ≤ p) (hn : 0 < n) : ∃ v p' s', spec_l01Below.f xs p s n = some (v, p', s') ∧ 0 ≤ v ∧ v < n ∧ 0 ≤ p' := by
  unfold spec_l01Below.f
  obtain ⟨v1, p1, s1, e1, a1, b1, c1⟩ := byte_ok s hl hp
  rw [if_neg (by omega), e1]; simp only [Option.bind_some]
  by_cases h : n ≤ 256
  · rw [if_pos h, if_neg (by omega)]
    refine ⟨_, _, _, rfl, ?_, ?_, c1⟩
    · rw [Int.tmod_eq_emod_of_nonneg a1]; exact Int.emod_nonneg _ (by omega)
    · rw [Int.tmod_eq_emod_of_nonneg a1]; exact Int.emod_lt_of_pos _ hn
  · obtain ⟨v2, p2, s2, e2, a2, b2, c2⟩ := byte_ok s1 hl c1
    obtain ⟨v3, p3, s3, e3, a3, b3, c3⟩ := byte_ok s2 hl c2
    obtain ⟨v4, p4, s4, e4, a4, b4, c4⟩ := byte_ok s3 hl c3
    rw [if_neg h, e2]; simp only [Option.bind_some]
    rw [e3]; simp only [Option.bind_some]
    rw [e4]; simp only [Option.bind_some]
    rw [if_neg (by omega), w64 (x := v1 * 16777216) (by omega) (by omega), w64 (x := v2 * 65536) (by omega) (by omega), w64 (x := v3 * 256) (by omega) (by omega), w64 (x := v1 * 16777216 + v2 * 65536) (by omega) (by omega), w64 (x := v1 * 16777216 + v2 * 65536 + v3 * 256) (by omega) (by omega), w64 (x := v1 * 16777216 + v2 * 65536 + v3 * 256 + v4) (by omega) (by omega)]
    refine ⟨_, _, _, rfl, ?_, ?_, c4⟩
    · rw [Int.tmod_eq_emod_of_nonneg (by omega)]; exact Int.emod_nonneg _ (by omega)
    · rw [Int.tmod_eq_emod_of_nonneg (by omega)]; exact Int.emod_lt_of_pos _ hn
theorem new_l0 (l : List Int) (hl : l.length ≤ 1048576) : ∀ (d k : Nat) (s i : Int), 0 ≤ i → (l.length : Int) - i = d → d < k → ∃ s', spec_l01New.l0 k l s i = some (l, 0, s') := by
  intro d
  induction d with
  | zero =>
    intro k s i h0 hd hk
    obtain ⟨k, rfl⟩ : ∃ q, k = q + 1 := ⟨k - 1, by omega⟩
    simp only [spec_l01New.l0]
    rw [if_neg (by omega)]
    exact ⟨_, rfl⟩
  | succ d ih =>
    intro k s i h0 hd hk
    obtain ⟨k, rfl⟩ : ∃ q, k = q + 1 := ⟨k - 1, by omega⟩
    simp only [spec_l01New.l0]
    rw [if_pos (by omega)]
    by_cases h : i < 4000
    · rw [if_pos h, if_pos h0, w64 (x := i + 1) (by omega) (by omega)]
      exact ih k _ (i + 1) (by omega) (by omega) (by omega)
    · rw [if_neg h]; exact ⟨_, rfl⟩
theorem new_ok {k : Nat} {l : List Int} (hl : l.length ≤ 1048576) (hk : l.length < k) : ∃ s', spec_l01New.f k l = some (l, 0, s') := by
  unfold spec_l01New.f
  exact new_l0 l hl l.length k _ 0 (by omega) (by omega) hk
def P5 (n : Int) (x : S30) : Prop := insB n x.f0 x.f1 x.f2 x.f3 = true ∧ 0 ≤ x.f0 ∧ x.f0 ≤ 12
theorem insB_mono {n m a b c d : Int} (h : n ≤ m) (hi : insB n a b c d = true) : insB m a b c d = true := by
  have ht : fldT n c = true → fldT m c = true := fun q => by unfold fldT at q ⊢; rw [decide_eq_true_eq] at q ⊢; omega
  unfold insB at hi ⊢
  split at hi
  · rename_i q; rw [if_pos q]; exact hi
  · rename_i q; rw [if_neg q]
    split at hi
    · rename_i q; rw [if_pos q]; exact hi
    · rename_i q; rw [if_neg q]
      split at hi
      · rename_i q; rw [if_pos q]; exact hi
      · rename_i q; rw [if_neg q]
        split at hi
        · rename_i q; rw [if_pos q]; exact hi
        · rename_i q; rw [if_neg q]
          split at hi
          · rename_i q; rw [if_pos q]; rw [Bool.and_eq_true, Bool.and_eq_true] at hi ⊢; exact ⟨hi.1, ht hi.2.1, hi.2.2⟩
          · rename_i q; rw [if_neg q]
            split at hi
            · rename_i q; rw [if_pos q]; rw [Bool.and_eq_true, Bool.and_eq_true] at hi ⊢; exact ⟨hi.1, ht hi.2.1, hi.2.2⟩
            · rename_i q; rw [if_neg q]; exact hi
theorem plain_ok {xs : List Int} {p : Int} (s n : Int) (hl : xs.length ≤ 1048576) (hp : 0 ≤ p) : ∃ a b c d p' s', spec_l04Plain.f xs p s = some (a, b, c, d, p', s') ∧ (insB n a b c d = true ∧ 0 ≤ a ∧ a ≤ 12) ∧ 0 ≤ p' := by
  have hR : ∀ x : Int, 0 ≤ x → x < 4 → fldR x = true := fun x h0 h1 => decide_eq_true (by omega)
  unfold spec_l04Plain.f
  obtain ⟨v1, p1, s1, e1, a1, b1, c1⟩ := below_ok s 9 hl hp (by omega)
  rw [e1]; simp only [Option.bind_some]
  obtain ⟨v2, p2, s2, e2, a2, b2, c2⟩ := below_ok s1 4 hl c1 (by omega)
  rw [e2]; simp only [Option.bind_some]
  rw [w64 (by omega) (by omega)]
  by_cases h1 : 1 + v1 = 1
  · obtain ⟨v3, p3, s3, e3, a3, b3, c3⟩ := below_ok s2 6 hl c2 (by omega)
    rw [if_pos h1, e3]
    refine ⟨_, _, _, _, _, _, rfl, ⟨?_, by omega, by omega⟩, c3⟩
    have : fldW v3 = true := decide_eq_true (by omega)
    rw [h1]; simp [insB, hR v2 a2 b2, this]
  rw [if_neg h1]
  by_cases h8 : 1 + v1 = 8
  · rw [if_pos h8]
    refine ⟨_, _, _, _, _, _, rfl, ⟨?_, by omega, by omega⟩, c2⟩
    rw [h8]; simp [insB, hR v2 a2 b2]
  rw [if_neg h8]
  by_cases h2 : 1 + v1 = 2
  · obtain ⟨v3, p3, s3, e3, a3, b3, c3⟩ := below_ok s2 4 hl c2 (by omega)
    rw [if_pos h2, e3]
    refine ⟨_, _, _, _, _, _, rfl, ⟨?_, by omega, by omega⟩, c3⟩
    rw [h2]; simp [insB, hR v2 a2 b2, hR v3 a3 b3]
  rw [if_neg h2]
  obtain ⟨v3, p3, s3, e3, a3, b3, c3⟩ := below_ok s2 4 hl c2 (by omega)
  rw [e3]; simp only [Option.bind_some]
  obtain ⟨v4, p4, s4, e4, a4, b4, c4⟩ := below_ok s3 4 hl c3 (by omega)
  rw [e4]
  refine ⟨_, _, _, _, _, _, rfl, ⟨?_, by omega, by omega⟩, c4⟩
  unfold insB
  rw [if_neg (by omega), if_neg (by omega), if_neg (by omega), if_neg (by omega), if_neg (by omega), if_neg (by omega), if_pos (by omega), hR v2 a2 b2, hR v3 a3 b3, hR v4 a4 b4]; rfl
theorem P5_up {n m : Int} {x : S30} (h : n ≤ m) (hx : P5 n x) : P5 m x := ⟨insB_mono h hx.1, hx.2⟩
theorem P5_branch {n r t : Int} (hr : 0 ≤ r ∧ r < 4) (ht : 0 ≤ t ∧ t ≤ n) : P5 n (⟨10, r, t, 0⟩ : S30) := by
  have h1 : fldR r = true := decide_eq_true (by omega)
  have h2 : fldT n t = true := decide_eq_true (by omega)
  simp [P5, insB, h1, h2]
theorem P5_jump {n t : Int} (ht : 0 ≤ t ∧ t ≤ n) : P5 n (⟨11, 0, t, 0⟩ : S30) := by
  have h2 : fldT n t = true := decide_eq_true (by omega)
  simp [P5, insB, h2]
theorem once_ok {xs : List Int} {p : Int} (s n : Int) (hl : xs.length ≤ 1048576) (hp : 0 ≤ p) (hn : 0 < n) : ∃ v p' s', spec_l01Once.f xs p s n = some (v, p', s') ∧ 0 ≤ p' := by
  unfold spec_l01Once.f
  obtain ⟨v1, p1, s1, e1, a1, b1, c1⟩ := below_ok s n hl hp hn
  rw [e1]
  exact ⟨_, _, _, rfl, c1⟩
structure Grown (d : Nat) (l l' : List S30) : Prop where
  ge : l.length ≤ l'.length
  le : l'.length ≤ max l.length (20 + d)
  pre : ∀ i : Nat, i < l.length → l'.getD i z30 = l.getD i z30
  ok : (∀ x ∈ l, P5 l.length x) → ∀ x ∈ l', P5 l'.length x
theorem Grown.refl (d : Nat) (l : List S30) : Grown d l l := ⟨by omega, by omega, fun _ _ => rfl, fun h => h⟩
theorem Grown.trans {d : Nat} {l m n : List S30} (h : Grown d l m) (h2 : Grown d m n) : Grown d l n :=
  ⟨by have := h.ge; have := h2.ge; omega, by have := h.le; have := h2.le; omega, fun i hi => by rw [h2.pre i (by have := h.ge; omega), h.pre i hi], fun q => h2.ok (h.ok q)⟩
theorem Grown.up {d e : Nat} {l m : List S30} (h : Grown d l m) (hd : d ≤ e) : Grown e l m := ⟨h.ge, by have := h.le; omega, h.pre, h.ok⟩
theorem Grown.app {d : Nat} {l : List S30} {r : List S30} (hl : l.length + r.length ≤ 20 + d) (hr : ∀ x ∈ r, P5 (l.length + r.length : Nat) x) : Grown d l (l ++ r) := by
  refine ⟨by simp, by simp; omega, fun i hi => ?_, fun h x hx => ?_⟩
  · rw [List.getD_eq_getElem?_getD, List.getD_eq_getElem?_getD, List.getElem?_append_left hi]
  · rw [List.length_append]
    rcases List.mem_append.1 hx with q | q
    · exact P5_up (by omega) (h x q)
    · exact hr x q
theorem Grown.set {d : Nat} {l m : List S30} {i : Nat} {x : S30} (h : Grown d l m) (hi : l.length ≤ i) (hx : P5 m.length x) : Grown d l (m.set i x) := by
  refine ⟨by simpa using h.ge, by simpa using h.le, fun j hj => ?_, fun q y hy => ?_⟩
  · rw [← h.pre j hj, List.getD_eq_getElem?_getD, List.getD_eq_getElem?_getD, List.getElem?_set_ne (by omega)]
  · rw [List.length_set]
    rcases List.mem_or_eq_of_mem_set hy with q2 | rfl
    · exact h.ok q y q2
    · exact hx
def BodyOk (xs : List Int) (d : Nat) : Prop := ∀ (k : Nat) (l : List S30) (p s : Int), 20 * d + 10 < k → l.length ≤ 30 → 0 ≤ p → ∃ l' p' s', spec_l05Body.f k xs p s l d = some (l', p', s') ∧ 0 ≤ p' ∧ Grown d l l'
theorem body_l0 {xs : List Int} (hl : xs.length ≤ 1048576) (d : Nat) (hd2 : d ≤ 2) (hrec : ∀ e, d = e + 1 → BodyOk xs e) : ∀ (n k : Nat) (l : List S30) (p s : Int), n ≤ 3 → 20 * d + 2 * n + 1 < k → l.length ≤ 30 → 0 ≤ p →
    ∃ l' p' s', spec_l05Body.l0 k l d n xs p s = some (l', p', s') ∧ 0 ≤ p' ∧ Grown d l l' := by
  intro n
  induction n with
  | zero =>
    intro k l p s hn hk hl2 hp
    obtain ⟨k, rfl⟩ : ∃ q, k = q + 1 + 1 := ⟨k - 2, by omega⟩
    simp only [spec_l05Body.l0, spec_l05Body.j1]
    rw [if_neg (by omega), if_neg (by decide)]
    exact ⟨_, _, _, rfl, hp, Grown.refl d l⟩
  | succ n ih =>
    intro k l p s hn hk hl2 hp
    obtain ⟨k, rfl⟩ : ∃ q, k = q + 1 + 1 := ⟨k - 2, by omega⟩
    simp only [spec_l05Body.l0, spec_l05Body.j1]
    rw [if_pos (by omega), w64 (x := ((n + 1 : Nat) : Int) - 1) (by omega) (by omega), show ((n + 1 : Nat) : Int) - 1 = (n : Int) by omega]
    by_cases h20 : (l.length : Int) < 20
    · rw [if_pos (by simpa using h20)]
      obtain ⟨v, p1, s1, e1, a1, b1, c1⟩ := below_ok s 5 hl hp (by omega)
      rw [e1]; simp only [Option.bind_some]
      have next : ∀ (m : List S30) (p s : Int), 0 ≤ p → Grown d l m → ∃ l' p' s', spec_l05Body.l0 k m d n xs p s = some (l', p', s') ∧ 0 ≤ p' ∧ Grown d l l' := fun m p s hp hg => by
        have := hg.le
        obtain ⟨l', p', s', e, hp', hg'⟩ := ih k m p s (by omega) (by omega) (by omega) hp
        exact ⟨l', p', s', e, hp', hg.trans hg'⟩
      by_cases hv0 : v = 0
      · rw [if_pos hv0]
        by_cases hd0 : d = 0
        · rw [if_pos (by omega)]; exact next l p1 s1 c1 (Grown.refl d l)
        rw [if_neg (by omega)]
        obtain ⟨e, rfl⟩ : ∃ e, d = e + 1 := ⟨d - 1, by omega⟩
        have hb := hrec e rfl
        obtain ⟨r, p2, s2, e2, a2, b2, c2⟩ := below_ok s1 4 hl c1 (by omega)
        rw [e2]; simp only [Option.bind_some]
        rw [if_pos (by omega), w64 (x := ((e + 1 : Nat) : Int) - 1) (by omega) (by omega), show ((e + 1 : Nat) : Int) - 1 = (e : Int) by omega]
        have g0 : Grown (e + 1) l (l ++ [⟨10, r, 0, 0⟩]) := Grown.app (by simp; omega) (fun x hx => by
          rw [List.mem_singleton.1 hx]; exact P5_branch ⟨a2, b2⟩ (by simp; omega))
        obtain ⟨m, p3, s3, e3, c3, g1⟩ := hb k (l ++ [⟨10, r, 0, 0⟩]) p2 s2 (by omega) (by simp; omega) c2
        have g1' := g0.trans (g1.up (by omega))
        have hm : (m.getD l.length z30) = ⟨10, r, 0, 0⟩ := by
          rw [g1.pre l.length (by simp), List.getD_eq_getElem?_getD]; simp
        have hml : l.length + 1 ≤ m.length := by have := g1.ge; simpa using this
        have hmu : m.length ≤ 20 + e := by have := g1.le; simp at this; omega
        rw [e3]; simp only [Option.bind_some]
        obtain ⟨w, p4, s4, e4, c4⟩ := once_ok s3 2 hl c3 (by omega)
        rw [e4]; simp only [Option.bind_some]
        cases w
        · rw [if_neg (by decide), if_pos (by omega), if_pos (by omega), if_pos (by simp; omega)]
          have hy : ∀ x : S30, ((m ++ [(⟨11, 0, 0, 0⟩ : S30)]).getD (l.length : Int).toNat x) = (⟨10, r, 0, 0⟩ : S30) := fun x => by
            rw [Int.toNat_natCast, List.getD_eq_getElem?_getD, List.getElem?_append_left (by omega)]
            rw [List.getD_eq_getElem?_getD, List.getElem?_eq_getElem (by omega)] at hm
            rw [List.getElem?_eq_getElem (by omega)]; exact hm
          unfold rd_T30
          simp only [hy]
          have g2 : Grown (e + 1) l ((m ++ [(⟨11, 0, 0, 0⟩ : S30)]).set (l.length : Int).toNat (⟨10, r, ((m ++ [(⟨11, 0, 0, 0⟩ : S30)]).length : Int), 0⟩ : S30)) := by
            refine Grown.set (g1'.trans (Grown.app (by simp; omega) fun x hx => ?_)) (by omega) (P5_branch ⟨a2, b2⟩ (by omega))
            rw [List.mem_singleton.1 hx]; exact P5_jump (by simp; omega)
          obtain ⟨m2, p5, s5, e5, c5, g3⟩ := hb k ((m ++ [(⟨11, 0, 0, 0⟩ : S30)]).set (l.length : Int).toNat (⟨10, r, ((m ++ [(⟨11, 0, 0, 0⟩ : S30)]).length : Int), 0⟩ : S30)) p4 s4 (by omega) (by simp; omega) c4
          rw [e5]; simp only [Option.bind_some]
          have g3l := g3.ge
          simp only [List.length_set, List.length_append, List.length_singleton] at g3l
          rw [if_pos (by omega), if_pos (by omega)]
          have hj : m2.getD (m.length : Int).toNat z30 = ⟨11, 0, 0, 0⟩ := by
            rw [Int.toNat_natCast, g3.pre m.length (by simp), List.getD_eq_getElem?_getD, List.getElem?_set_ne (by omega)]; simp
          simp only [hj]
          exact next _ _ _ c5 (Grown.set (g2.trans (g3.up (by omega))) (by omega) (P5_jump (by omega)))
        · rw [if_pos rfl, if_pos (by omega), if_pos (by omega)]
          unfold rd_T30
          rw [Int.toNat_natCast]
          simp only [hm]
          exact next _ _ _ c4 (g1'.set (by omega) (P5_branch ⟨a2, b2⟩ (by omega)))
      rw [if_neg hv0]
      by_cases hv1 : v = 1
      · rw [if_pos hv1]
        by_cases hd0 : d = 0
        · rw [if_pos (by omega)]; exact next l p1 s1 c1 (Grown.refl d l)
        rw [if_neg (by omega)]
        by_cases h14 : (l.length : Int) > 14
        · rw [if_pos h14]; exact next l p1 s1 c1 (Grown.refl d l)
        rw [if_neg h14, if_pos (by omega), if_pos (by simp <;> omega), if_pos (by simp <;> omega), if_pos (by simp <;> omega), if_pos (by omega), if_pos (by simp <;> omega)]
        have hy : ∀ x : S30, ((l ++ [(⟨8, 3, 0, 0⟩ : S30)] ++ [(⟨10, 3, 0, 0⟩ : S30)] ++ [(⟨3, 0, 0, 1⟩ : S30), (⟨1, 2, 1, 0⟩ : S30), (⟨4, 3, 3, 2⟩ : S30)] ++ [(⟨11, 0, ((l ++ [(⟨8, 3, 0, 0⟩ : S30)]).length : Int), 0⟩ : S30)]).getD (((l ++ [(⟨8, 3, 0, 0⟩ : S30)]).length : Int)).toNat x) = (⟨10, 3, 0, 0⟩ : S30) := fun x => by
          rw [Int.toNat_natCast, List.getD_eq_getElem?_getD, List.append_assoc, List.append_assoc, List.getElem?_append_right (by omega), Nat.sub_self] <;> rfl
        unfold rd_T30
        simp only [hy]
        refine next _ _ _ c1 (Grown.set ?_ (by simp <;> omega) (P5_branch (by omega) (by omega)))
        rw [List.append_assoc, List.append_assoc, List.append_assoc]
        refine Grown.app (by simp; omega) fun x hx => ?_
        simp only [List.cons_append, List.nil_append, List.mem_cons, List.not_mem_nil, or_false] at hx
        rcases hx with rfl | rfl | rfl | rfl | rfl | rfl
        · refine ⟨?_, by decide, by decide⟩; show insB _ 8 3 0 0 = true; simp [insB]; decide
        · exact P5_branch (by omega) (by simp; omega)
        · refine ⟨?_, by decide, by decide⟩; show insB _ 3 0 0 1 = true; simp [insB]; decide
        · refine ⟨?_, by decide, by decide⟩; show insB _ 1 2 1 0 = true; simp [insB]; decide
        · refine ⟨?_, by decide, by decide⟩; show insB _ 4 3 3 2 = true; simp [insB]; decide
        · exact P5_jump (by simp; omega)
      rw [if_neg hv1]
      obtain ⟨a, b, c, f, p2, s2, e2, hi, c2⟩ := plain_ok s1 ((l.length + 1 : Nat) : Int) hl c1
      rw [e2]; simp only [Option.bind_some]
      rw [if_pos (by omega)]
      refine next _ _ _ c2 (Grown.app (by simp; omega) fun x hx => ?_)
      rw [List.mem_singleton.1 hx]; exact hi
    · rw [if_neg (by simpa using h20)]
      exact ⟨_, _, _, rfl, hp, Grown.refl d l⟩
theorem body_ok {xs : List Int} (hl : xs.length ≤ 1048576) : ∀ d : Nat, d ≤ 2 → BodyOk xs d := by
  intro d
  induction d with
  | zero =>
    intro hd k l p s hk hl2 hp
    obtain ⟨k, rfl⟩ : ∃ q, k = q + 1 := ⟨k - 1, by omega⟩
    simp only [spec_l05Body.f]
    obtain ⟨v, p1, s1, e1, a1, b1, c1⟩ := below_ok s 4 hl hp (by omega)
    rw [e1]; simp only [Option.bind_some]
    obtain ⟨n, rfl⟩ := Int.eq_ofNat_of_zero_le a1
    exact body_l0 hl 0 (by omega) (fun e he => by omega) n k l p1 s1 (by omega) (by omega) hl2 c1
  | succ d ih =>
    intro hd k l p s hk hl2 hp
    obtain ⟨k, rfl⟩ : ∃ q, k = q + 1 := ⟨k - 1, by omega⟩
    simp only [spec_l05Body.f]
    obtain ⟨v, p1, s1, e1, a1, b1, c1⟩ := below_ok s 4 hl hp (by omega)
    rw [e1]; simp only [Option.bind_some]
    obtain ⟨n, rfl⟩ := Int.eq_ofNat_of_zero_le a1
    exact body_l0 hl (d + 1) hd (fun e he => (show d = e by omega) ▸ ih (by omega)) n k l p1 s1 (by omega) (by omega) hl2 c1
theorem drawQuiet_all {k : Nat} {xs : List Int} (hl : xs.length ≤ 1048576) (hk : xs.length + 60 < k) : ∃ z, spec_DrawQuiet.f k xs = some z ∧ programOk z = true ∧ z.length ≤ 22 ∧ ∀ x ∈ z, 0 ≤ x.f0 ∧ x.f0 ≤ 12 := by
  obtain ⟨k, rfl⟩ : ∃ q, k = q + 1 := ⟨k - 1, by omega⟩
  unfold spec_DrawQuiet.f spec_l05Quiet.f
  obtain ⟨s, e⟩ := new_ok (k := k + 1) hl (by omega)
  rw [e]; simp only [Option.bind_some, spec_l05Quiet.j0]
  have fin : ∀ (l : List S30) (p s : Int), 0 ≤ p → l.length ≤ 1 → (∀ x ∈ l, P5 l.length x) → ∃ z, ((spec_l05Body.f k xs p s l 2).bind fun bt208 => ((spec_l01Once.f xs bt208.2.1 bt208.2.2 6).bind fun bt213 => (if bt213.1 = true then (if (bt208.1.length : Int) > 1 then ((spec_l01Below.f xs bt213.2.1 bt213.2.2 (bt208.1.length : Int)).bind fun bt216 => (if 0 ≤ bt216.1 then (if bt216.1 < (bt208.1.length : Int) then (some ((bt208.1.set (bt216.1 : Int).toNat (⟨12, 0, 0, 0⟩ : S30)), bt216.2.1, bt216.2.2)) else (none)) else (none))) else (some (bt208.1, bt213.2.1, bt213.2.2))) else (some (bt208.1, bt213.2.1, bt213.2.2))))) = some z ∧ programOk z.1 = true ∧ z.1.length ≤ 22 ∧ ∀ x ∈ z.1, 0 ≤ x.f0 ∧ x.f0 ≤ 12 := by
    intro l p s hp h1 hP
    obtain ⟨m, p1, s1, e1, c1, g⟩ := body_ok hl 2 (by omega) k l p s (by omega) (by omega) hp
    have e1' : spec_l05Body.f k xs p s l 2 = some (m, p1, s1) := e1
    rw [e1']; simp only [Option.bind_some]
    have hm := g.le
    have hPm := g.ok hP
    have fit : ∀ z : List S30, z.length ≤ 22 → (∀ x ∈ z, P5 z.length x) → programOk z = true := fun z hz h => by
      unfold programOk
      rw [decide_eq_true (by omega), Bool.true_and, List.all_eq_true]
      intro x hx
      unfold insOk
      rw [decide_eq_true (by omega), Bool.true_and]
      exact (h x hx).1
    obtain ⟨w, p2, s2, e2, c2⟩ := once_ok s1 6 hl c1 (by omega)
    rw [e2]; simp only [Option.bind_some]
    cases w
    · rw [if_neg (by decide)]
      exact ⟨_, rfl, fit m (by omega) hPm, by show m.length ≤ 22; omega, fun x hx => (hPm x hx).2⟩
    · rw [if_pos rfl]
      by_cases h2 : (m.length : Int) > 1
      · obtain ⟨v, p3, s3, e3, a3, b3, c3⟩ := below_ok s2 (m.length : Int) hl c2 (by omega)
        rw [if_pos h2, e3]; simp only [Option.bind_some]
        rw [if_pos a3, if_pos b3]
        have hs : ∀ x ∈ m.set v.toNat (⟨12, 0, 0, 0⟩ : S30), P5 (m.set v.toNat (⟨12, 0, 0, 0⟩ : S30)).length x := fun x hx => by
          rw [List.length_set]
          rcases List.mem_or_eq_of_mem_set hx with q | rfl
          · exact hPm x q
          · refine ⟨?_, by decide, by decide⟩; show insB _ 12 0 0 0 = true; simp [insB]
        exact ⟨_, rfl, fit _ (by simp; omega) hs, by show (m.set _ _).length ≤ 22; simp; omega, fun x hx => (hs x hx).2⟩
      · rw [if_neg h2]
        exact ⟨_, rfl, fit m (by omega) hPm, by show m.length ≤ 22; omega, fun x hx => (hPm x hx).2⟩
  obtain ⟨w, p1, s1, e1, c1⟩ := once_ok s 4 hl (by omega : (0 : Int) ≤ 0) (by omega)
  rw [e1]; simp only [Option.bind_some]
  cases w
  · rw [if_neg (by decide)]
    obtain ⟨v, p2, s2, e2, a2, b2, c2⟩ := below_ok s1 2 hl c1 (by omega)
    rw [e2]; simp only [Option.bind_some]
    rw [if_pos (by simp)]
    obtain ⟨z, hz, h1⟩ := fin ([] ++ [⟨8, v, 0, 0⟩]) p2 s2 c2 (by simp) (fun x hx => by
      rw [List.mem_singleton.1 hx]
      have : fldR v = true := decide_eq_true (by omega)
      simp [P5, insB, this])
    rw [hz]
    exact ⟨z.1, rfl, h1⟩
  · rw [if_pos rfl]
    obtain ⟨z, hz, h1⟩ := fin [] p1 s1 c1 (by simp) (fun x hx => by simp at hx)
    rw [hz]
    exact ⟨z.1, rfl, h1⟩
theorem drawQuiet_ok {k : Nat} {xs : List Int} (hl : xs.length ≤ 1048576) (hk : xs.length + 60 < k) : ∃ z, spec_DrawQuiet.f k xs = some z ∧ programOk z = true ∧ z.length ≤ 22 := by
  obtain ⟨z, h1, h2, h3, _⟩ := drawQuiet_all hl hk
  exact ⟨z, h1, h2, h3⟩
def localB (x : S30) : Bool := decide (0 ≤ x.f0 ∧ x.f0 ≤ 12)
def quietOk (l : List S30) : Bool := programOk l && l.all localB
theorem impl_quiet_eq (l : List S30) : impl_IsQuiet.f l = some (quietOk l) := by
  have hi : ∀ x : S30, isLocalAt x = some (localB x) := fun x => by unfold isLocalAt impl_IsLocal.f; rw [within_some]; rfl
  have e : (fun x => isLocalAt x == some true) = localB := by funext x; rw [hi]; cases localB x <;> rfl
  unfold impl_IsQuiet.f quietOk
  rw [impl_programOk_eq, e]; simp only [Option.bind_some]
  cases programOk l
  · rfl
  · rw [if_pos rfl, if_pos (List.all_eq_true.2 fun x _ => by rw [hi]; rfl)]; rfl
theorem quietOk_len {l : List S30} (h : quietOk l = true) : l.length ≤ 32 := by
  simp [quietOk, programOk] at h; exact h.1.1
/-- The registers that an instruction's fields name as read, in the text's order. -/
def rawReads (a b c d : Int) : List Int := if a = 2 ∨ a = 13 then [c] else if 3 ≤ a ∧ a ≤ 7 then [c, d] else if a = 9 then [b, c, d] else if a = 10 then [b] else if a = 14 ∨ a = 15 then [b, c] else []
def readsB (a b c d : Int) : List Int := [0, 1, 2, 3].filter fun r => (rawReads a b c d).contains r
theorem readsB_in {a b c d r : Int} (h : r ∈ readsB a b c d) : 0 ≤ r ∧ r ≤ 3 := by
  unfold readsB at h
  rw [List.mem_filter] at h
  obtain ⟨h, _⟩ := h
  simp only [List.mem_cons, List.not_mem_nil, or_false] at h
  omega
theorem fldR4 {x : Int} (h : fldR x = true) : x = 0 ∨ x = 1 ∨ x = 2 ∨ x = 3 := by
  unfold fldR at h
  have := of_decide_eq_true h
  omega
/-- What a valid instruction's fields are. -/
theorem insB_cases {n a b c d : Int} (h : insB n a b c d = true) : (a = 0 ∨ a = 1 ∨ a = 8 ∨ a = 11 ∨ a = 12 ∨ a = 16) ∨ ((a = 2 ∨ a = 13) ∧ fldR c = true) ∨ ((a = 3 ∨ a = 4 ∨ a = 5 ∨ a = 6 ∨ a = 7) ∧ fldR c = true ∧ fldR d = true) ∨ (a = 9 ∧ fldR b = true ∧ fldR c = true ∧ fldR d = true) ∨ (a = 10 ∧ fldR b = true) ∨ ((a = 14 ∨ a = 15) ∧ fldR b = true ∧ fldR c = true) := by
  unfold insB at h
  split at h
  · exact .inl (by omega)
  split at h
  · exact .inl (by omega)
  split at h
  · rename_i q
    simp only [Bool.and_eq_true] at h
    rcases q with q | q | q | q
    · exact .inr (.inl ⟨.inl q, h.2.1⟩)
    · exact .inr (.inl ⟨.inr q, h.2.1⟩)
    · exact .inr (.inr (.inr (.inr (.inr ⟨.inl q, h.1, h.2.1⟩))))
    · exact .inr (.inr (.inr (.inr (.inr ⟨.inr q, h.1, h.2.1⟩))))
  split at h
  · exact .inl (by omega)
  split at h
  · rename_i q
    simp only [Bool.and_eq_true] at h
    exact .inr (.inr (.inr (.inr (.inl ⟨q, h.1⟩))))
  split at h
  · exact .inl (by omega)
  split at h
  · simp only [Bool.and_eq_true] at h
    by_cases e : a = 9
    · exact .inr (.inr (.inr (.inl ⟨e, h.1, h.2.1, h.2.2⟩)))
    · by_cases e8 : a = 8
      · exact .inl (by omega)
      · exact .inr (.inr (.inl ⟨by omega, h.2.1, h.2.2⟩))
  · exact absurd h (by simp)
theorem impl_reads40 {a b c d n : Int} (h : insB n a b c d = true) : impl_ReadsRegs.f 40 a b c d = some (readsB a b c d) := by
  rcases insB_cases h with q | ⟨q, hc⟩ | ⟨q, hc, hd⟩ | ⟨q, hb, hc, hd⟩ | ⟨q, hb⟩ | ⟨q, hb, hc⟩
  · rcases q with q | q | q | q | q | q <;> subst q <;> kernel_rfl
  · rcases q with q | q <;> subst q <;> rcases fldR4 hc with e | e | e | e <;> subst e <;> kernel_rfl
  · rcases q with q | q | q | q | q <;> subst q <;> rcases fldR4 hc with e | e | e | e <;> subst e <;> rcases fldR4 hd with e | e | e | e <;> subst e <;> kernel_rfl
  · subst q; rcases fldR4 hb with e | e | e | e <;> subst e <;> rcases fldR4 hc with e | e | e | e <;> subst e <;> rcases fldR4 hd with e | e | e | e <;> subst e <;> kernel_rfl
  · subst q; rcases fldR4 hb with e | e | e | e <;> subst e <;> kernel_rfl
  · rcases q with q | q <;> subst q <;> rcases fldR4 hb with e | e | e | e <;> subst e <;> rcases fldR4 hc with e | e | e | e <;> subst e <;> kernel_rfl
theorem impl_reads_eq {k : Nat} {a b c d n : Int} (h : insB n a b c d = true) (hk : 40 ≤ k) : impl_ReadsRegs.f k a b c d = some (readsB a b c d) :=
  at_rounds (g := fun k => impl_ReadsRegs.f k a b c d) (fun k => impl_ReadsRegs.mono a b c d k) hk (impl_reads40 h)
def onB (s r : Int) : Bool := (Go.bits .and .i64 (shr .i64 s r) 1) == 1
theorem onB_fin : ∀ (s : Fin 16) (r : Fin 4), ((Go.bits .and .i64 (shr .i64 (s.val : Int) (r.val : Int)) 1) == 0) = !(onB (s.val : Int) (r.val : Int)) := by decide +kernel
theorem fin16 {s : Int} (h : 0 ≤ s ∧ s ≤ 15) : ∃ f : Fin 16, (f.val : Int) = s := ⟨⟨s.toNat, by omega⟩, by show ((s.toNat : Nat) : Int) = s; omega⟩
theorem fin4 {s : Int} (h : 0 ≤ s ∧ s ≤ 3) : ∃ f : Fin 4, (f.val : Int) = s := ⟨⟨s.toNat, by omega⟩, by show ((s.toNat : Nat) : Int) = s; omega⟩
theorem onB_not {s r : Int} (hs : 0 ≤ s ∧ s ≤ 15) (hr : 0 ≤ r ∧ r ≤ 3) : ((Go.bits .and .i64 (shr .i64 s r) 1) == 0) = !(onB s r) := by
  obtain ⟨f, rfl⟩ := fin16 hs
  obtain ⟨g, rfl⟩ := fin4 hr
  exact onB_fin f g
def writesB (a b : Int) : Int := if 1 ≤ a ∧ a ≤ 9 ∨ a = 13 then b else -1
theorem writesB_in {n a b c d : Int} (h : insB n a b c d = true) (hw : ¬ writesB a b < 0) : 0 ≤ b ∧ b ≤ 3 := by
  unfold writesB at hw
  split at hw
  · rename_i q
    have hf : fldR b = true := by
      unfold insB at h
      split at h
      · omega
      split at h
      · simp only [Bool.and_eq_true] at h; exact h.1
      split at h
      · simp only [Bool.and_eq_true] at h; exact h.1
      split at h
      · simp only [Bool.and_eq_true] at h; exact h.1
      split at h
      · omega
      split at h
      · omega
      split at h
      · simp only [Bool.and_eq_true] at h; exact h.1
      · exact absurd h (by simp)
    unfold fldR at hf
    exact of_decide_eq_true hf
  · omega
theorem impl_writes_eq (a b c d : Int) : impl_WritesReg.f a b c d = some (writesB a b) := by
  unfold impl_WritesReg.f writesB
  rw [within_some]; simp only [Option.bind_some]
  by_cases h : 1 ≤ a ∧ a ≤ 9
  · rw [if_pos (by simpa using h), if_pos (.inl h)]
  · rw [if_neg (by simpa using h)]
    by_cases h2 : a = 13
    · rw [if_pos h2, if_pos (.inr h2)]
    · rw [if_neg h2, if_neg (by omega)]
def keepB (a b c d s : Int) : Bool := !(a == 8) && (!(a == 13) && (readsB a b c d).all (onB s))
def uniB (a b c d s : Int) : Int := if writesB a b < 0 then s else if keepB a b c d s = true then Go.bits .or .i64 s (shl .i64 1 b) else Go.bits .andNot .i64 s (shl .i64 1 b)
theorem hasAll_eq {s a b c d : Int} (hs : 0 ≤ s ∧ s ≤ 15) : impl_hasAll.f s (readsB a b c d) = some ((readsB a b c d).all (onB s)) := by
  unfold impl_hasAll.f
  rw [if_pos]
  · congr 1
    have : ∀ l : List Int, (∀ r ∈ l, 0 ≤ r ∧ r ≤ 3) → (!(l.any (bitOut s))) = l.all (onB s) := by
      intro l
      induction l with
      | nil => intro _; rfl
      | cons x r ih =>
        intro h
        rw [List.any_cons, List.all_cons, ← ih (fun y hy => h y (List.mem_cons_of_mem _ hy)), Bool.not_or]
        congr 1
        unfold bitOut
        rw [onB_not hs (h x (List.mem_cons_self ..)), Bool.not_not]
    exact this _ fun r h => readsB_in h
  · unfold regsIn
    rw [List.all_eq_true]
    intro r h
    exact decide_eq_true (readsB_in h)
theorem impl_uniformAfter_eq {k : Nat} {a b c d s n : Int} (h : insB n a b c d = true) (hs : 0 ≤ s ∧ s ≤ 15) (hk : 41 ≤ k) : impl_uniformAfter.f k a b c d s = some (uniB a b c d s) := by
  obtain ⟨k, rfl⟩ : ∃ q, k = q + 1 := ⟨k - 1, by omega⟩
  unfold impl_uniformAfter.f uniB
  rw [impl_writes_eq]; simp only [Option.bind_some]
  by_cases hw : writesB a b < 0
  · rw [if_pos hw, if_pos hw]
  · have hb := writesB_in h hw
    rw [if_neg hw, if_neg hw]
    simp only [impl_uniformAfter.j0, impl_reads_eq (k := k) h (by omega), hasAll_eq hs, Option.bind_some]
    unfold keepB
    by_cases h1 : a = 1
    · subst h1
      rw [if_pos rfl, if_pos hb.1, if_pos]
      rfl
    · rw [if_neg h1]
      by_cases h8 : a = 8
      · subst h8
        rw [if_pos rfl, if_neg (by decide), if_neg (by decide), if_pos hb.1, if_neg (by simp)]
      · rw [if_neg h8]
        have e8 : (a == 8) = false := beq_eq_false_iff_ne.mpr h8
        by_cases h13 : a = 13
        · subst h13
          rw [if_neg (by decide), if_neg (by decide), if_pos hb.1, if_neg (by simp)]
        · have e13 : (a == 13) = false := beq_eq_false_iff_ne.mpr h13
          rw [if_pos (by rw [bne, e13]; rfl), if_pos hb.1, if_pos hb.1, e8, e13]
          cases (readsB a b c d).all (onB s) <;> rfl
theorem impl_UniformAfter_eq {k : Nat} (a b c d s : Int) (hk : 50 ≤ k) : impl_UniformAfter.f k a b c d s = some (if 0 ≤ s ∧ s ≤ 15 ∧ insB 32 a b c d = true then uniB a b c d s else -1) := by
  unfold impl_UniformAfter.f
  rw [within_some]; simp only [Option.bind_some]
  by_cases hs : 0 ≤ s ∧ s ≤ 15
  · rw [if_pos (by simpa using hs), impl_insOk_eq]; simp only [Option.bind_some]
    by_cases h : insB 32 a b c d = true
    · rw [h, if_pos (by simp), if_pos ⟨hs.1, hs.2, rfl⟩, impl_uniformAfter_eq (k := k) h hs (by omega)]; rfl
    · have e : insB 32 a b c d = false := by simpa using h
      rw [e, Bool.and_false, if_neg (by simp), if_neg (fun q => absurd q.2.2 (by simp))]
  · rw [if_neg (by simpa using hs), if_neg (fun q => hs ⟨q.1, q.2.1⟩)]

namespace Gr
inductive Reach (nx : Int → List Int) (w : Int) (S : List Int) : Int → Prop
  | base {v : Int} : v ∈ S → v ≠ w → Reach nx w S v
  | step {u v : Int} : Reach nx w S u → v ∈ nx u → v ≠ w → Reach nx w S v
def mk (out : List Bool) (x : Int) : Bool := out.getD x.toNat false
def bfs (nx : Int → List Int) (w : Int) : Nat → List Bool → List Int → Option (List Bool)
  | 0, _, _ => none
  | _ + 1, out, [] => some out
  | k + 1, out, x :: t => if x = w then bfs nx w k out t else if mk out x = true then bfs nx w k out t else bfs nx w k (out.set x.toNat true) (t ++ nx x)
theorem mk_set {out : List Bool} {x v : Int} (hx : 0 ≤ x ∧ x.toNat < out.length) (hv : 0 ≤ v) : mk (out.set x.toNat true) v = (decide (v = x) || mk out v) := by
  unfold mk
  by_cases h : v = x
  · subst h
    rw [List.getD_eq_getElem?_getD, List.getElem?_set_self hx.2]; simp
  · rw [List.getD_eq_getElem?_getD, List.getD_eq_getElem?_getD, List.getElem?_set_ne (by omega)]; simp [h]
theorem count_set : ∀ (out : List Bool) (i : Nat), i < out.length → out.getD i false = false → (out.set i true).count false + 1 = out.count false
  | [], i, h, _ => absurd h (Nat.not_lt_zero _)
  | b :: r, 0, _, hb => by
    have e : b = false := by simpa using hb
    subst e
    simp
  | b :: r, i + 1, h, hb => by
    have := count_set r i (by simpa using h) (by simpa using hb)
    rw [List.set_cons_succ, List.count_cons, List.count_cons]
    omega
/-- What holds of a round of the search. -/
structure Inv (nx : Int → List Int) (w : Int) (S : List Int) (n : Nat) (out : List Bool) (todo : List Int) : Prop where
  len : out.length = n + 1
  rng : ∀ x ∈ todo, 0 ≤ x ∧ x ≤ n
  sound : ∀ v : Int, 0 ≤ v → mk out v = true → Reach nx w S v
  tsound : ∀ x ∈ todo, x ≠ w → Reach nx w S x
  start : ∀ s ∈ S, s = w ∨ mk out s = true ∨ s ∈ todo
  closed : ∀ u : Int, 0 ≤ u → mk out u = true → ∀ v ∈ nx u, v = w ∨ mk out v = true ∨ v ∈ todo
theorem bfs_ok {nx : Int → List Int} {w : Int} {S : List Int} {n : Nat} (hr : ∀ u : Int, 0 ≤ u → u ≤ n → ∀ v ∈ nx u, 0 ≤ v ∧ v ≤ n) (hs : ∀ s ∈ S, 0 ≤ s ∧ s ≤ n) (h2 : ∀ u : Int, 0 ≤ u → u ≤ n → (nx u).length ≤ 2) :
    ∀ (k : Nat) (out : List Bool) (todo : List Int), Inv nx w S n out todo → todo.length + 3 * out.count false < k →
    ∃ r, bfs nx w k out todo = some r ∧ r.length = n + 1 ∧ ∀ v : Int, 0 ≤ v → v ≤ n → (mk r v = true ↔ Reach nx w S v) := by
  intro k
  induction k with
  | zero => intro out todo _ h; omega
  | succ k ih =>
    intro out todo I hk
    cases todo with
    | nil =>
      refine ⟨out, rfl, I.len, fun v h0 h1 => ⟨I.sound v h0, fun h => ?_⟩⟩
      have key : ∀ v, Reach nx w S v → 0 ≤ v ∧ v ≤ n ∧ mk out v = true := by
        intro v h
        induction h with
        | base hv hw =>
          have := hs _ hv
          rcases I.start _ hv with q | q | q
          · exact absurd q hw
          · exact ⟨this.1, this.2, q⟩
          · exact absurd q (by simp)
        | step hu hv hw ih =>
          have := hr _ ih.1 ih.2.1 _ hv
          rcases I.closed _ ih.1 ih.2.2 _ hv with q | q | q
          · exact absurd q hw
          · exact ⟨this.1, this.2, q⟩
          · exact absurd q (by simp)
      exact (key v h).2.2
    | cons x t =>
      have hx := I.rng x (List.mem_cons_self ..)
      have hxl : 0 ≤ x ∧ x.toNat < out.length := ⟨hx.1, by rw [I.len]; omega⟩
      simp only [bfs]
      simp only [List.length_cons] at hk
      by_cases hw : x = w
      · rw [if_pos hw]
        refine ih out t ⟨I.len, fun y hy => I.rng y (List.mem_cons_of_mem _ hy), I.sound, fun y hy => I.tsound y (List.mem_cons_of_mem _ hy), fun s h => ?_, fun u h0 hu v hv => ?_⟩ (by omega)
        · rcases I.start s h with q | q | q
          · exact .inl q
          · exact .inr (.inl q)
          · rcases List.mem_cons.1 q with q | q
            · exact .inl (q.trans hw)
            · exact .inr (.inr q)
        · rcases I.closed u h0 hu v hv with q | q | q
          · exact .inl q
          · exact .inr (.inl q)
          · rcases List.mem_cons.1 q with q | q
            · exact .inl (q.trans hw)
            · exact .inr (.inr q)
      · rw [if_neg hw]
        by_cases hm : mk out x = true
        · rw [if_pos hm]
          refine ih out t ⟨I.len, fun y hy => I.rng y (List.mem_cons_of_mem _ hy), I.sound, fun y hy => I.tsound y (List.mem_cons_of_mem _ hy), fun s h => ?_, fun u h0 hu v hv => ?_⟩ (by omega)
          · rcases I.start s h with q | q | q
            · exact .inl q
            · exact .inr (.inl q)
            · rcases List.mem_cons.1 q with q | q
              · exact .inr (.inl (q ▸ hm))
              · exact .inr (.inr q)
          · rcases I.closed u h0 hu v hv with q | q | q
            · exact .inl q
            · exact .inr (.inl q)
            · rcases List.mem_cons.1 q with q | q
              · exact .inr (.inl (q ▸ hm))
              · exact .inr (.inr q)
        · rw [if_neg hm]
          have hR := I.tsound x (List.mem_cons_self ..) hw
          have hc := count_set out x.toNat hxl.2 (by unfold mk at hm; simpa using hm)
          have hn2 := h2 x hx.1 hx.2
          refine ih _ _ ⟨by rw [List.length_set]; exact I.len, fun y hy => ?_, fun v h0 hv => ?_, fun y hy hyw => ?_, fun s h => ?_, fun u h0 hu v hv => ?_⟩ (by rw [List.length_append]; omega)
          · rcases List.mem_append.1 hy with q | q
            · exact I.rng y (List.mem_cons_of_mem _ q)
            · exact hr x hx.1 hx.2 y q
          · rw [mk_set hxl h0] at hv
            by_cases e : v = x
            · rw [e]; exact hR
            · exact I.sound v h0 (by simpa [e] using hv)
          · rcases List.mem_append.1 hy with q | q
            · exact I.tsound y (List.mem_cons_of_mem _ q) hyw
            · exact .step hR q hyw
          · have h0 := (hs s h).1
            rcases I.start s h with q | q | q
            · exact .inl q
            · exact .inr (.inl (by rw [mk_set hxl h0, q]; simp))
            · rcases List.mem_cons.1 q with q | q
              · exact .inr (.inl (by rw [mk_set hxl h0]; simp [q]))
              · exact .inr (.inr (List.mem_append_left _ q))
          · rw [mk_set hxl h0] at hu
            by_cases e : u = x
            · subst e
              exact .inr (.inr (List.mem_append_right _ hv))
            · have hu' : mk out u = true := by simpa [e] using hu
              have hun : 0 ≤ u ∧ u ≤ n := by
                refine ⟨h0, ?_⟩
                by_cases q : u.toNat < out.length
                · rw [I.len] at q; omega
                · unfold mk at hu'
                  rw [List.getD_eq_getElem?_getD, List.getElem?_eq_none (by omega)] at hu'
                  exact absurd hu' (by simp)
              have hv0 := (hr u hun.1 hun.2 v hv).1
              rcases I.closed u h0 hu' v hv with q | q | q
              · exact .inl q
              · exact .inr (.inl (by rw [mk_set hxl hv0, q]; simp))
              · rcases List.mem_cons.1 q with q | q
                · exact .inr (.inl (by rw [mk_set hxl hv0]; simp [q]))
                · exact .inr (.inr (List.mem_append_left _ q))
theorem count_rep (m : Nat) : (List.replicate m false).count false = m := by simp
theorem mk_rep (m : Nat) (v : Int) : mk (List.replicate m false) v = false := by
  unfold mk
  rw [List.getD_eq_getElem?_getD, List.getElem?_replicate]
  split <;> rfl
/-- The search from a list: it ends, and marks just what is reached. -/
theorem bfs_from {nx : Int → List Int} {w : Int} {S : List Int} {n : Nat} (hr : ∀ u : Int, 0 ≤ u → u ≤ n → ∀ v ∈ nx u, 0 ≤ v ∧ v ≤ n) (hs : ∀ s ∈ S, 0 ≤ s ∧ s ≤ n) (h2 : ∀ u : Int, 0 ≤ u → u ≤ n → (nx u).length ≤ 2) {k : Nat} (hk : S.length + 3 * (n + 1) < k) :
    ∃ r, bfs nx w k (List.replicate (n + 1) false) S = some r ∧ r.length = n + 1 ∧ ∀ v : Int, 0 ≤ v → v ≤ n → (mk r v = true ↔ Reach nx w S v) :=
  bfs_ok hr hs h2 k _ _ ⟨by simp, hs, fun v _ h => by rw [mk_rep] at h; exact absurd h (by simp), fun x hx hw => .base hx hw, fun s h => .inr (.inr h), fun u _ hu => by rw [mk_rep] at hu; exact absurd hu (by simp)⟩ (by rw [count_rep]; omega)
theorem bfs_keeps {nx : Int → List Int} {w : Int} : ∀ (k : Nat) (out : List Bool) (todo : List Int) (r : List Bool), bfs nx w k out todo = some r → r.length = out.length ∧ ∀ v : Int, mk out v = true → mk r v = true := by
  intro k
  induction k with
  | zero => intro out todo r h; exact absurd h (by simp [bfs])
  | succ k ih =>
    intro out todo r h
    cases todo with
    | nil => simp only [bfs, Option.some.injEq] at h; subst h; exact ⟨rfl, fun _ h => h⟩
    | cons x t =>
      simp only [bfs] at h
      by_cases hw : x = w
      · rw [if_pos hw] at h; exact ih _ _ _ h
      · rw [if_neg hw] at h
        by_cases hm : mk out x = true
        · rw [if_pos hm] at h; exact ih _ _ _ h
        · rw [if_neg hm] at h
          have := ih _ _ _ h
          refine ⟨by rw [this.1, List.length_set], fun v hv => this.2 v ?_⟩
          unfold mk at hv ⊢
          by_cases e : x.toNat = v.toNat
          · rw [List.getD_eq_getElem?_getD] at hv ⊢
            rw [e]
            by_cases q : v.toNat < out.length
            · rw [List.getElem?_set_self q]; rfl
            · rw [List.getElem?_eq_none (by omega)] at hv; exact absurd hv (by simp)
          · rw [List.getD_eq_getElem?_getD, List.getElem?_set_ne e, ← List.getD_eq_getElem?_getD]; exact hv
section
variable {nx : Int → List Int} {x : Int}
theorem reach_ne {w : Int} {S : List Int} {v : Int} (h : Reach nx w S v) : v ≠ w := by cases h <;> assumption
theorem reach_trans {w u v : Int} {S : List Int} (h : Reach nx w S u) (k : Reach nx w [u] v) : Reach nx w S v := by
  induction k with
  | base hv hw => rw [List.mem_singleton.1 hv]; exact h
  | step _ hv hw ih => exact .step ih hv hw
/-- A way either avoids w, or goes on from w. -/
theorem reach_split {w : Int} {S : List Int} {v : Int} {z : Int} (h : Reach nx z S v) : Reach nx w S v ∨ Reach nx z [w] v := by
  induction h with
  | @base v hv hz =>
    by_cases e : v = w
    · exact .inr (.base (by simp [e]) hz)
    · exact .inl (.base hv e)
  | @step u v _ hv hz ih =>
    rcases ih with q | q
    · by_cases e : v = w
      · exact .inr (.base (by simp [e]) hz)
      · exact .inl (.step q hv e)
    · exact .inr (.step q hv hz)
end
section
variable {nx : Int → List Int} {x : Int}
theorem reach_self {w v : Int} (h : Reach nx w [w] v) : False := by
  induction h with
  | base hv hw => exact hw (List.mem_singleton.1 hv)
  | step _ _ _ ih => exact ih
theorem reach_start {w u v : Int} (h : Reach nx w [u] v) : u ≠ w := fun e => reach_self (e ▸ h)
theorem reach_pre {w b u v : Int} (hb : b ≠ w) (hu : u ∈ nx b) (h : Reach nx w [u] v) : Reach nx w [b] v := by
  induction h with
  | base hv hw => rw [List.mem_singleton.1 hv] at hw ⊢; exact .step (.base (by simp) hb) hu hw
  | step _ hv hw ih => exact .step ih hv hw
/-- v is after u: u reaches the exit x, and no way to it avoids v. -/
def Aft (nx : Int → List Int) (x u v : Int) : Prop := Reach nx (-1) [u] x ∧ ¬ Reach nx v [u] x
theorem aft_reach {u v : Int} (h : Aft nx x u v) : Reach nx (-1) [v] x := by
  rcases reach_split (w := v) h.1 with q | q
  · exact absurd q h.2
  · exact q
theorem aft_refl {u : Int} (h : Reach nx (-1) [u] x) : Aft nx x u u := ⟨h, fun q => reach_self q⟩
theorem aft_trans {u v t : Int} (h : Aft nx x u v) (k : Aft nx x v t) : Aft nx x u t :=
  ⟨h.1, fun q => (reach_split (w := v) q).elim h.2 k.2⟩
theorem aft_total {b d e : Int} (h : Aft nx x b d) (k : Aft nx x b e) : Aft nx x d e ∨ Aft nx x e d := by
  by_cases hde : d = e
  · subst hde; exact .inl (aft_refl (aft_reach h))
  by_cases h1 : Reach nx e [d] x
  · refine .inr ⟨aft_reach k, fun h2 => ?_⟩
    have key : ∀ v, Reach nx (-1) [b] v → (Reach nx d [b] v ∧ Reach nx e [b] v) ∨ Reach nx e [b] d ∨ Reach nx d [b] e := by
      intro v hv
      induction hv with
      | @base v hv _ =>
        by_cases e1 : v = d
        · exact .inr (.inl (by subst e1; exact .base hv hde))
        · by_cases e2 : v = e
          · exact .inr (.inr (by subst e2; exact .base hv (fun q => hde q.symm)))
          · exact .inl ⟨.base hv e1, .base hv e2⟩
      | @step u v _ hv _ ih =>
        rcases ih with q | q
        · by_cases e1 : v = d
          · exact .inr (.inl (by subst e1; exact .step q.2 hv hde))
          · by_cases e2 : v = e
            · exact .inr (.inr (by subst e2; exact .step q.1 hv (fun q => hde q.symm)))
            · exact .inl ⟨.step q.1 hv e1, .step q.2 hv e2⟩
        · exact .inr q
    rcases key x h.1 with q | q | q
    · exact h.2 q.1
    · exact k.2 (reach_trans q h1)
    · exact h.2 (reach_trans q h2)
  · exact .inl ⟨aft_reach h, h1⟩
/-- Of nodes that are all after one node, one has all of them after it. -/
theorem aft_first {b : Int} : ∀ (L : List Int), L ≠ [] → (∀ d ∈ L, Aft nx x b d) → ∃ d ∈ L, ∀ e ∈ L, Aft nx x d e
  | [], h, _ => absurd rfl h
  | [d], _, h => ⟨d, by simp, fun e he => by rw [List.mem_singleton.1 he]; exact aft_refl (aft_reach (h d (by simp)))⟩
  | a :: c :: r, _, h => by
    obtain ⟨d, hd, hd2⟩ := aft_first (c :: r) (by simp) (fun e he => h e (List.mem_cons_of_mem _ he))
    rcases aft_total (h a (by simp)) (h d (List.mem_cons_of_mem _ hd)) with q | q
    · refine ⟨a, by simp, fun e he => ?_⟩
      rcases List.mem_cons.1 he with e1 | e1
      · rw [e1]; exact aft_refl (aft_reach (h a (by simp)))
      · exact aft_trans q (hd2 e e1)
    · refine ⟨d, List.mem_cons_of_mem _ hd, fun e he => ?_⟩
      rcases List.mem_cons.1 he with e1 | e1
      · rw [e1]; exact q
      · exact hd2 e e1
end
end Gr
/-- The successors of a node. -/
def nxB (P : List S30) (v : Int) : List Int :=
  if v = (P.length : Int) then [] else if (rd_T30 P v).f0 = 12 then [(P.length : Int)] else if (rd_T30 P v).f0 = 11 then [(rd_T30 P v).f2] else if (rd_T30 P v).f0 = 10 then (if (rd_T30 P v).f2 < v + 1 then [(rd_T30 P v).f2, v + 1] else if (rd_T30 P v).f2 = v + 1 then [(rd_T30 P v).f2] else [v + 1, (rd_T30 P v).f2]) else [v + 1]
theorem programOk_at {P : List S30} (h : programOk P = true) {v : Int} (h0 : 0 ≤ v) (h1 : v < (P.length : Int)) : insB (P.length : Int) (rd_T30 P v).f0 (rd_T30 P v).f1 (rd_T30 P v).f2 (rd_T30 P v).f3 = true := by
  unfold programOk at h
  rw [Bool.and_eq_true] at h
  have := List.all_eq_true.1 h.2 (rd_T30 P v) (by
    unfold rd_T30
    rw [List.getD_eq_getElem?_getD, List.getElem?_eq_getElem (by omega : v.toNat < P.length)]
    exact List.getElem_mem _)
  unfold insOk at this
  rw [Bool.and_eq_true] at this
  exact this.2
theorem programOk_len {P : List S30} (h : programOk P = true) : P.length ≤ 32 := by
  unfold programOk at h
  rw [Bool.and_eq_true] at h
  exact of_decide_eq_true h.1
theorem insB_target {n a b c d : Int} (h : insB n a b c d = true) (ha : a = 10 ∨ a = 11) : 0 ≤ c ∧ c ≤ n := by
  have hf : fldT n c = true := by
    unfold insB at h
    rcases ha with e | e <;> subst e <;> simp at h <;> first | exact h.2.1 | exact h.1.2 | exact h.2 | (simp_all)
  unfold fldT at hf
  exact of_decide_eq_true hf
theorem nxB_in {P : List S30} (h : programOk P = true) {v : Int} (h0 : 0 ≤ v) (h1 : v ≤ (P.length : Int)) : ∀ w ∈ nxB P v, 0 ≤ w ∧ w ≤ (P.length : Int) := by
  intro w hw
  unfold nxB at hw
  by_cases e : v = (P.length : Int)
  · rw [if_pos e] at hw; exact absurd hw (by simp)
  rw [if_neg e] at hw
  have hi := programOk_at h h0 (by omega)
  by_cases e1 : (rd_T30 P v).f0 = 12
  · rw [if_pos e1] at hw; rw [List.mem_singleton.1 hw]; omega
  rw [if_neg e1] at hw
  by_cases e2 : (rd_T30 P v).f0 = 11
  · rw [if_pos e2] at hw; rw [List.mem_singleton.1 hw]; exact insB_target hi (.inr e2)
  rw [if_neg e2] at hw
  by_cases e3 : (rd_T30 P v).f0 = 10
  · rw [if_pos e3] at hw
    have ht := insB_target hi (.inl e3)
    split at hw
    · simp only [List.mem_cons, List.not_mem_nil, or_false] at hw; omega
    · split at hw <;> simp only [List.mem_cons, List.not_mem_nil, or_false] at hw <;> omega
  · rw [if_neg e3] at hw; rw [List.mem_singleton.1 hw]; omega
theorem nxB_len (P : List S30) (v : Int) : (nxB P v).length ≤ 2 := by
  unfold nxB
  repeat' split
  all_goals simp
theorem sort2 (x y : Int) : ∀ k, 10 ≤ k → slices_insertionSortOrdered_int.f k [x, y] 0 2 = some (if y < x then [y, x] else [x, y]) := by
  intro k hk
  obtain ⟨k, rfl⟩ : ∃ q, k = q + 1 + 1 + 1 + 1 + 1 := ⟨k - 5, by omega⟩
  have hl : ∀ a b : Int, cmp_Less_int.f a b = some (decide (a < b)) := by
    intro a b
    unfold cmp_Less_int.f cmp_isNaN_int.f
    simp
  unfold slices_insertionSortOrdered_int.f
  have e0 : wrap64 (0 + 1) = 1 := by unfold wrap64; omega
  have e1 : wrap64 (1 - 1) = 0 := by unfold wrap64; omega
  have e2 : wrap64 (1 + 1) = 2 := by unfold wrap64; omega
  rw [e0]
  simp only [slices_insertionSortOrdered_int.l0, slices_insertionSortOrdered_int.l1, hl, Option.bind_some, e1, e2]
  have r1 : rd [x, y] 1 = y := rfl
  have r0 : rd [x, y] 0 = x := rfl
  by_cases h : y < x
  · simp [h, r0, r1, slices_insertionSortOrdered_int.l0, slices_insertionSortOrdered_int.l1, e1, e2]
  · simp [h, r0, r1, slices_insertionSortOrdered_int.l0, slices_insertionSortOrdered_int.l1, e1, e2]
theorem impl_next_eq {P : List S30} (h : programOk P = true) {v : Int} (h0 : 0 ≤ v) (h1 : v ≤ (P.length : Int)) {k : Nat} (hk : 10 ≤ k) : impl_next.f k P v = some (nxB P v) := by
  have hn := programOk_len h
  unfold impl_next.f nxB
  by_cases e : v = (P.length : Int)
  · rw [if_pos e, if_pos e]
  rw [if_neg e, if_neg e, if_pos h0, if_pos (by omega)]
  have hi := programOk_at h h0 (by omega)
  by_cases e1 : (rd_T30 P v).f0 = 12
  · rw [if_pos e1, if_pos e1]
  rw [if_neg e1, if_neg e1]
  by_cases e2 : (rd_T30 P v).f0 = 11
  · rw [if_pos e2, if_pos e2]
  rw [if_neg e2, if_neg e2, w64 (by omega) (by omega)]
  by_cases e3 : (rd_T30 P v).f0 = 10
  · rw [if_pos e3, if_pos e3]
    unfold slices_Sort_int_int.f
    rw [if_pos (by simp), show ((([(rd_T30 P v).f2, v + 1] : List Int).length : Nat) : Int) = 2 from rfl, sort2 _ _ k hk]
    simp only [Option.bind_some]
    unfold slices_Compact_int_int.f
    generalize (rd_T30 P v).f2 = t
    by_cases q : v + 1 < t
    · rw [if_pos q, if_pos (by simp), if_neg (by omega), if_neg (by omega), compL, if_neg (by omega)]; rfl
    · rw [if_neg q, if_pos (by simp), compL]
      by_cases q2 : t = v + 1
      · rw [if_pos q2, if_neg (by omega), if_pos q2]; subst q2; rfl
      · rw [if_neg q2, if_pos (by omega)]; rfl
  · rw [if_neg e3, if_neg e3]
/-- What the search from S that avoids wo marks. -/
def reachL (P : List S30) (wo : Int) (S : List Int) : List Bool := (Gr.bfs (nxB P) wo 300 (List.replicate (P.length + 1) false) S).getD []
def reachB (P : List S30) (wo : Int) (S : List Int) (v : Int) : Bool := Gr.mk (reachL P wo S) v
theorem reachL_ok {P : List S30} (h : programOk P = true) (wo : Int) {S : List Int} (hs : ∀ s ∈ S, 0 ≤ s ∧ s ≤ (P.length : Int)) (hl : S.length ≤ 40) :
    Gr.bfs (nxB P) wo 300 (List.replicate (P.length + 1) false) S = some (reachL P wo S) ∧ (reachL P wo S).length = P.length + 1 ∧ ∀ v : Int, 0 ≤ v → v ≤ (P.length : Int) → (reachB P wo S v = true ↔ Gr.Reach (nxB P) wo S v) := by
  have hn := programOk_len h
  obtain ⟨r, h1, h2, h3⟩ := Gr.bfs_from (nx := nxB P) (w := wo) (S := S) (n := P.length) (fun u h0 h1 => nxB_in h h0 h1) hs (fun u _ _ => nxB_len P u) (k := 300) (by omega)
  have e : reachL P wo S = r := by unfold reachL; rw [h1]; rfl
  refine ⟨by rw [e]; exact h1, by rw [e]; exact h2, fun v h0 hv => ?_⟩
  unfold reachB
  rw [e]; exact h3 v h0 hv
theorem reachB_iff {P : List S30} (h : programOk P = true) (wo : Int) {S : List Int} (hs : ∀ s ∈ S, 0 ≤ s ∧ s ≤ (P.length : Int)) (hl : S.length ≤ 40) {v : Int} (h0 : 0 ≤ v) (h1 : v ≤ (P.length : Int)) : reachB P wo S v = true ↔ Gr.Reach (nxB P) wo S v := (reachL_ok h wo hs hl).2.2 v h0 h1
theorem mk_rdOf (out : List Bool) (x : Int) : rdOf false out x = Gr.mk out x := rfl
theorem count_rep' (n : Nat) : (List.replicate n false).count false = n := by simp
theorem reachI_bfs {P : List S30} (h : programOk P = true) (wo : Int) : ∀ (k : Nat) (out : List Bool) (todo : List Int) (r : List Bool), out.length = P.length + 1 → (∀ x ∈ todo, 0 ≤ x ∧ x ≤ (P.length : Int)) → todo.length + 3 * out.count false ≤ 1000 → Gr.bfs (nxB P) wo k out todo = some r → reachI P wo (k + 10) out todo = some r := by
  intro k
  induction k with
  | zero => intro out todo r _ _ _ h; exact absurd h (by simp [Gr.bfs])
  | succ k ih =>
    intro out todo r ho ht hm hb
    rw [show k + 1 + 10 = (k + 10) + 1 by omega]
    cases todo with
    | nil => exact hb
    | cons x t =>
      have hx := ht x (List.mem_cons_self ..)
      have ht' : ∀ y ∈ t, 0 ≤ y ∧ y ≤ (P.length : Int) := fun y hy => ht y (List.mem_cons_of_mem _ hy)
      rw [List.length_cons] at hm
      rw [Gr.bfs] at hb
      rw [reachI]
      by_cases e : x = wo
      · rw [if_pos e] at hb ⊢; exact ih out t r ho ht' (by omega) hb
      rw [if_neg e] at hb ⊢
      rw [if_pos ⟨hx.1, by rw [ho]; omega⟩, mk_rdOf]
      by_cases em : Gr.mk out x = true
      · rw [if_pos em] at hb ⊢; exact ih out t r ho ht' (by omega) hb
      rw [if_neg em] at hb ⊢
      have hl := nxB_len P x
      rw [impl_next_eq h hx.1 hx.2 (by omega)]; simp only [Option.bind_some]
      have hc := Gr.count_set out x.toNat (by omega) (by unfold Gr.mk at em; simpa using em)
      rw [if_pos (by omega)]
      refine ih _ _ r (by rw [List.length_set]; exact ho) (fun y hy => ?_) (by rw [List.length_append]; omega) hb
      rcases List.mem_append.1 hy with q | q
      · exact ht' y q
      · exact nxB_in h hx.1 hx.2 y q
theorem impl_reached_eq {P : List S30} (h : programOk P = true) (wo : Int) {S : List Int} (hs : ∀ s ∈ S, 0 ≤ s ∧ s ≤ (P.length : Int)) (hl : S.length ≤ 40) {k : Nat} (hk : 310 ≤ k) : impl_reached.f k P S wo = some (reachL P wo S) := by
  have hn := programOk_len h
  have hb := (reachL_ok h wo hs hl).1
  have h2 := reachI_bfs h wo 300 _ S _ (by simp) hs (by rw [count_rep']; omega) hb
  refine at_rounds (g := fun k => impl_reached.f k P S wo) (fun k => impl_reached.mono P S wo k) hk ?_
  show impl_reached.f 310 P S wo = _
  unfold impl_reached.f slices_Clone_int_int.f cloneIntF
  rw [if_pos (by omega), if_pos (by omega)]
  exact h2
/-- b is after a: a reaches the exit, and no way to it avoids b. -/
def aftB (P : List S30) (a b : Int) : Bool := reachB P (-1) [a] (P.length : Int) && !(reachB P b [a] (P.length : Int))
theorem in1 {P : List S30} {a : Int} (h0 : 0 ≤ a) (h1 : a ≤ (P.length : Int)) : ∀ s ∈ [a], 0 ≤ s ∧ s ≤ (P.length : Int) := fun s hs => by rw [List.mem_singleton.1 hs]; exact ⟨h0, h1⟩
theorem aftB_iff {P : List S30} (h : programOk P = true) {a : Int} (h0 : 0 ≤ a) (h1 : a ≤ (P.length : Int)) (b : Int) : aftB P a b = true ↔ Gr.Aft (nxB P) (P.length : Int) a b := by
  unfold aftB Gr.Aft
  rw [Bool.and_eq_true, Bool.not_eq_true', Bool.eq_false_iff, reachB_iff h (-1) (in1 h0 h1) (by simp) (by omega) (Int.le_refl _), Ne, reachB_iff h b (in1 h0 h1) (by simp) (by omega) (Int.le_refl _)]
def nodeB (P : List S30) (a : Int) : Bool := programOk P && decide (0 ≤ a ∧ a ≤ (P.length : Int))
theorem nodeB_ok {P : List S30} {a : Int} (h : nodeB P a = true) : programOk P = true ∧ 0 ≤ a ∧ a ≤ (P.length : Int) := by
  unfold nodeB at h
  rw [Bool.and_eq_true] at h
  have := of_decide_eq_true h.2
  exact ⟨h.1, this.1, this.2⟩
theorem impl_reachesExit_eq {P : List S30} (h : programOk P = true) {a : Int} (h0 : 0 ≤ a) (h1 : a ≤ (P.length : Int)) {k : Nat} (hk : 310 ≤ k) : impl_reachesExit.f k P a = some (reachB P (-1) [a] (P.length : Int)) := by
  have hl := (reachL_ok h (-1) (in1 h0 h1) (by simp)).2.1
  unfold impl_reachesExit.f
  rw [impl_reached_eq h (-1) (in1 h0 h1) (by simp) hk]; simp only [Option.bind_some]
  rw [if_pos (by omega), if_pos (by omega)]; rfl
theorem impl_isAfter_eq {P : List S30} (h : programOk P = true) {a : Int} (h0 : 0 ≤ a) (h1 : a ≤ (P.length : Int)) (b : Int) {k : Nat} (hk : 310 ≤ k) : impl_isAfter.f k P a b = some (aftB P a b) := by
  have hl := (reachL_ok h b (in1 h0 h1) (by simp)).2.1
  unfold impl_isAfter.f aftB
  rw [impl_reachesExit_eq h h0 h1 hk]; simp only [Option.bind_some]
  cases reachB P (-1) [a] (P.length : Int)
  · rfl
  rw [if_pos rfl, impl_reached_eq h b (in1 h0 h1) (by simp) hk]; simp only [Option.bind_some]
  rw [if_pos (by omega), if_pos (by omega)]; rfl
theorem impl_isNode_eq (P : List S30) (a : Int) : impl_isNode.f P a = some (nodeB P a) := by
  unfold impl_isNode.f nodeB
  rw [impl_programOk_eq]; simp only [Option.bind_some, within_some]
  cases programOk P <;> rfl
theorem impl_IsAfter_eq (P : List S30) (a b : Int) {k : Nat} (hk : 310 ≤ k) : impl_IsAfter.f k P a b = some (nodeB P a && (nodeB P b && aftB P a b)) := by
  unfold impl_IsAfter.f
  rw [impl_isNode_eq, impl_isNode_eq]; simp only [Option.bind_some]
  cases ha : nodeB P a
  · rfl
  cases hb : nodeB P b
  · rfl
  obtain ⟨h, h0, h1⟩ := nodeB_ok ha
  rw [if_pos rfl, if_pos rfl, impl_isAfter_eq h h0 h1 b hk]; rfl
/-- All nodes after a node, ascending. -/
def aftersL (P : List S30) (a : Int) : List Int := (ups (P.length + 1) 0).filter fun x => nodeB P a && aftB P a x
theorem mem_ups : ∀ (d : Nat) (i x : Int), x ∈ ups d i ↔ i ≤ x ∧ x < i + d
  | 0, i, x => by simp only [ups, List.not_mem_nil, false_iff]; omega
  | d + 1, i, x => by rw [ups, List.mem_cons, mem_ups d (i + 1) x]; omega
theorem len_ups : ∀ (d : Nat) (i : Int), (ups d i).length = d
  | 0, _ => rfl
  | d + 1, i => by rw [ups, List.length_cons, len_ups d (i + 1)]
theorem mem_aftersL {P : List S30} {a x : Int} : x ∈ aftersL P a ↔ nodeB P a = true ∧ 0 ≤ x ∧ x ≤ (P.length : Int) ∧ aftB P a x = true := by
  unfold aftersL
  rw [List.mem_filter, mem_ups, Bool.and_eq_true]
  constructor
  · rintro ⟨h1, h2, h3⟩; exact ⟨h2, h1.1, by omega, h3⟩
  · rintro ⟨h1, h2, h3, h4⟩; exact ⟨⟨h2, by omega⟩, h1, h4⟩
theorem aftersL_len (P : List S30) (a : Int) : (aftersL P a).length ≤ P.length + 1 := by
  unfold aftersL
  exact Nat.le_trans (List.length_filter_le _ _) (by rw [len_ups]; exact Nat.le_refl _)
theorem impl_AftersOf_l0 (P : List S30) (hP : P.length ≤ 1048576) (a : Int) : ∀ (d k : Nat) (out : List Int) (i : Int), 0 ≤ i → (P.length : Int) + 1 - i = d → d + 310 < k → out.length ≤ i →
    impl_AftersOf.l0 k P a out ((P.length : Int) + 1) i = some (out ++ (ups d i).filter fun x => nodeB P a && aftB P a x) := by
  intro d
  induction d with
  | zero =>
    intro k out i h0 hd hk ho
    obtain ⟨k, rfl⟩ : ∃ q, k = q + 1 := ⟨k - 1, by omega⟩
    simp only [impl_AftersOf.l0]
    rw [if_neg (by omega), ups]; simp
  | succ d ih =>
    intro k out i h0 hd hk ho
    obtain ⟨k, rfl⟩ : ∃ q, k = q + 1 := ⟨k - 1, by omega⟩
    simp only [impl_AftersOf.l0]
    rw [if_pos (by omega), impl_IsAfter_eq P a i (by omega)]; simp only [Option.bind_some]
    rw [w64 (by omega) (by omega), ups, List.filter_cons]
    have e : (nodeB P a && (nodeB P i && aftB P a i)) = (nodeB P a && aftB P a i) := by
      cases ha : nodeB P a
      · rfl
      have hi : nodeB P i = true := by unfold nodeB; rw [(nodeB_ok ha).1, decide_eq_true (by omega)]; rfl
      rw [hi]; rfl
    rw [e]
    by_cases q : (nodeB P a && aftB P a i) = true
    · rw [if_pos q, if_pos q, if_pos (by omega), ih k (out ++ [i]) (i + 1) (by omega) (by omega) (by omega) (by rw [List.length_append, List.length_singleton]; omega), List.append_assoc]; rfl
    · rw [if_neg q, if_neg q, ih k out (i + 1) (by omega) (by omega) (by omega) (by omega)]
theorem impl_AftersOf_eq {P : List S30} (hP : P.length ≤ 1048576) (a : Int) {k : Nat} (hk : P.length + 320 < k) : impl_AftersOf.f k P a = some (aftersL P a) := by
  unfold impl_AftersOf.f
  rw [w64 (by omega) (by omega), impl_AftersOf_l0 P hP a (P.length + 1) k [] 0 (by omega) (by omega) (by omega) (by simp)]; rfl
/-- The first of a list's nodes from which all of them are after; -1 if there is none. -/
def firstL (P : List S30) (L : List Int) : Int := (L.find? fun x => L.all (aftB P x)).getD (-1)
theorem firstF_eq {P : List S30} (h : programOk P = true) (L : List Int) {k : Nat} (hk : 310 ≤ k) : ∀ l : List Int, (∀ x ∈ l, 0 ≤ x ∧ x ≤ (P.length : Int)) → firstF k P L l = some ((l.find? fun x => L.all (aftB P x)).getD (-1))
  | [], _ => rfl
  | x :: r, hl => by
    have hx := hl x (List.mem_cons_self ..)
    have he : ∀ y, impl_isAfter.f k P x y = some (aftB P x y) := fun y => impl_isAfter_eq h hx.1 hx.2 y hk
    rw [firstF, if_pos (List.all_eq_true.2 fun y _ => by rw [he]; rfl), List.find?_cons]
    have e2 : (L.any fun y => !(aftAt k P x y)) = !(L.all (aftB P x)) := by
      have : ∀ m : List Int, (m.any fun y => !(aftAt k P x y)) = !(m.all (aftB P x)) := by
        intro m
        induction m with
        | nil => rfl
        | cons z m ih =>
          rw [List.any_cons, List.all_cons, ih, Bool.not_and]
          congr 1
          unfold aftAt
          rw [he]
          cases aftB P x z <;> rfl
      exact this L
    rw [e2]
    cases L.all (aftB P x)
    · simp only [Bool.not_false, if_true]; exact firstF_eq h L hk r fun y hy => hl y (List.mem_cons_of_mem _ hy)
    · simp only [Bool.not_true, if_false, Option.getD_some, Bool.false_eq_true]
theorem impl_firstOf_eq {P : List S30} (h : programOk P = true) {L : List Int} (hl : ∀ x ∈ L, 0 ≤ x ∧ x ≤ (P.length : Int)) {k : Nat} (hk : 310 ≤ k) : impl_firstOf.f k P L = some (firstL P L) := firstF_eq h L hk L hl
theorem aftersL_re {P : List S30} {a x : Int} (hx : x ∈ aftersL P a) : programOk P = true ∧ (0 ≤ x ∧ x ≤ (P.length : Int)) ∧ reachB P (-1) [x] (P.length : Int) = true := by
  obtain ⟨hn, h0, h1, ha⟩ := mem_aftersL.1 hx
  obtain ⟨h, h2, h3⟩ := nodeB_ok hn
  exact ⟨h, ⟨h0, h1⟩, (reachB_iff h (-1) (in1 h0 h1) (by simp) (by omega) (Int.le_refl _)).2 (Gr.aft_reach ((aftB_iff h h2 h3 x).1 ha))⟩
theorem aftersL_nil {P : List S30} {a : Int} (h : ¬ nodeB P a = true) : aftersL P a = [] := by
  unfold aftersL
  rw [List.filter_eq_nil_iff]
  intro x _ q
  rw [Bool.and_eq_true] at q
  exact h q.1
def firstAfter (P : List S30) (a : Int) : Int := firstL P ((aftersL P a).filter fun x => !(x == a))
theorem impl_FirstAfter_eq {P : List S30} (hP : P.length ≤ 1048576) (a : Int) {k : Nat} (hk : P.length + 320 < k) : impl_FirstAfter.f k P a = some (firstAfter P a) := by
  unfold impl_FirstAfter.f firstAfter
  rw [impl_AftersOf_eq hP a hk, bindS]
  by_cases hn : nodeB P a = true
  · exact impl_firstOf_eq (nodeB_ok hn).1 (fun x hx => (aftersL_re (List.mem_filter.1 hx).1).2.1) (by omega)
  · rw [aftersL_nil hn]; rfl
/-- A branch: a conditional jump that does not jump to the next instruction. -/
def isBrB (P : List S30) (x : Int) : Bool := decide ((rd_T30 P x).f0 = 10) && !(decide ((rd_T30 P x).f2 = x + 1))
def branchesL (P : List S30) : List Int := if programOk P = true then (ups P.length 0).filter (isBrB P) else []
theorem nxB_two {P : List S30} {v : Int} (h1 : v < (P.length : Int)) : ((nxB P v).length : Int) = 2 ↔ isBrB P v = true := by
  unfold nxB isBrB
  rw [if_neg (by omega), Bool.and_eq_true, Bool.not_eq_true', decide_eq_true_eq, decide_eq_false_iff_not]
  by_cases e1 : (rd_T30 P v).f0 = 12
  · rw [if_pos e1]; simp; omega
  rw [if_neg e1]
  by_cases e2 : (rd_T30 P v).f0 = 11
  · rw [if_pos e2]; simp; omega
  rw [if_neg e2]
  by_cases e3 : (rd_T30 P v).f0 = 10
  · rw [if_pos e3]
    by_cases q : (rd_T30 P v).f2 < v + 1
    · rw [if_pos q]; simp; omega
    rw [if_neg q]
    by_cases q2 : (rd_T30 P v).f2 = v + 1
    · rw [if_pos q2]; simp; omega
    · rw [if_neg q2]; simp; omega
  · rw [if_neg e3]; simp; omega
theorem brL_mem {P : List S30} {b : Int} : b ∈ branchesL P ↔ programOk P = true ∧ 0 ≤ b ∧ b < (P.length : Int) ∧ isBrB P b = true := by
  unfold branchesL
  by_cases h : programOk P = true
  · rw [if_pos h, List.mem_filter]
    constructor
    · rintro ⟨h1, h2⟩; have := ups_mem _ _ _ h1; exact ⟨h, by omega, by omega, h2⟩
    · rintro ⟨_, h1, h2, h3⟩; exact ⟨ups_mem_of _ _ _ h1 (by omega), h3⟩
  · rw [if_neg h]; exact ⟨fun q => absurd q (by simp), fun q => absurd q.1 h⟩
theorem brL_nx {P : List S30} {b : Int} (h : b ∈ branchesL P) : ((rd_T30 P b).f2 ≠ b + 1 ∧ (rd_T30 P b).f0 = 10) ∧ (nxB P b = [(rd_T30 P b).f2, b + 1] ∨ nxB P b = [b + 1, (rd_T30 P b).f2]) := by
  obtain ⟨_, h0, h1, h2⟩ := brL_mem.1 h
  unfold isBrB at h2
  rw [Bool.and_eq_true, Bool.not_eq_true', decide_eq_true_eq, decide_eq_false_iff_not] at h2
  refine ⟨⟨h2.2, h2.1⟩, ?_⟩
  unfold nxB
  rw [if_neg (by omega), if_neg (by omega), if_neg (by omega), if_pos h2.1]
  by_cases q : (rd_T30 P b).f2 < b + 1
  · rw [if_pos q]; exact .inl rfl
  · rw [if_neg q, if_neg h2.2]; exact .inr rfl
theorem brL_len (P : List S30) : (branchesL P).length ≤ P.length ∧ (programOk P = true → (branchesL P).length ≤ 32) ∧ (¬ programOk P = true → branchesL P = []) := by
  unfold branchesL
  have hu : ∀ (d : Nat) (i : Int), (ups d i).length = d := by
    intro d
    induction d with
    | zero => intro i; rfl
    | succ d ih => intro i; rw [ups, List.length_cons, ih]
  have hl := List.length_filter_le (isBrB P) (ups P.length 0)
  rw [hu] at hl
  by_cases h : programOk P = true
  · rw [if_pos h]; exact ⟨hl, fun _ => Nat.le_trans hl (programOk_len h), fun q => absurd h q⟩
  · rw [if_neg h]; exact ⟨Nat.zero_le _, fun q => absurd q h, fun _ => rfl⟩
theorem impl_BranchesOf_l0 {P : List S30} (h : programOk P = true) : ∀ (d k : Nat) (out : List Int) (i : Int), 0 ≤ i → (P.length : Int) - i = d → d + 10 < k → out.length ≤ i →
    impl_BranchesOf.l0 k P out (P.length : Int) i = some (out ++ (ups d i).filter (isBrB P)) := by
  have hn := programOk_len h
  intro d
  induction d with
  | zero =>
    intro k out i h0 hd hk ho
    obtain ⟨k, rfl⟩ : ∃ q, k = q + 1 := ⟨k - 1, by omega⟩
    simp only [impl_BranchesOf.l0]
    rw [if_neg (by omega), ups]; simp
  | succ d ih =>
    intro k out i h0 hd hk ho
    obtain ⟨k, rfl⟩ : ∃ q, k = q + 1 := ⟨k - 1, by omega⟩
    simp only [impl_BranchesOf.l0]
    rw [if_pos (by omega), impl_next_eq h h0 (by omega) (by omega), bindS, w64 (by omega) (by omega), ups, List.filter_cons]
    by_cases q : isBrB P i = true
    · rw [if_pos ((nxB_two (by omega)).2 q), if_pos q, if_pos (by omega), ih k (out ++ [i]) (i + 1) (by omega) (by omega) (by omega) (by rw [List.length_append, List.length_singleton]; omega), List.append_assoc]; rfl
    · rw [if_neg (fun e => q ((nxB_two (by omega)).1 e)), if_neg q, ih k out (i + 1) (by omega) (by omega) (by omega) (by omega)]
theorem impl_BranchesOf_eq (P : List S30) {k : Nat} (hk : 50 ≤ k) : impl_BranchesOf.f k P = some (branchesL P) := by
  unfold impl_BranchesOf.f branchesL
  rw [impl_programOk_eq, bindS]
  by_cases h : programOk P = true
  · have hn := programOk_len h
    rw [if_pos h, if_pos h, impl_BranchesOf_l0 h P.length k [] 0 (by omega) (by omega) (by omega) (by simp)]; rfl
  · rw [if_neg h, if_neg h]
theorem impl_index_l0 (L : List Int) (hL : L.length ≤ 1048577) (a : Int) : ∀ (d k : Nat) (i : Int), 0 ≤ i → (L.length : Int) - i = d → d < k →
    ∃ r, slices_Index_int_int.l0 k L a (L.length : Int) i = some r ∧ (r ≥ 0 ↔ a ∈ L.drop i.toNat) := by
  intro d
  induction d with
  | zero =>
    intro k i h0 hd hk
    obtain ⟨k, rfl⟩ : ∃ q, k = q + 1 := ⟨k - 1, by omega⟩
    refine ⟨-1, ?_, ?_⟩
    · simp only [slices_Index_int_int.l0]; rw [if_neg (by omega)]
    · rw [List.drop_of_length_le (by omega)]; simp
  | succ d ih =>
    intro k i h0 hd hk
    obtain ⟨k, rfl⟩ : ∃ q, k = q + 1 := ⟨k - 1, by omega⟩
    have hi : i < (L.length : Int) := by omega
    simp only [slices_Index_int_int.l0]
    rw [if_pos hi, if_pos h0, if_pos hi, drop_rd h0 hi]
    by_cases e : a = rd L i
    · rw [if_pos e]; exact ⟨i, rfl, fun _ => by rw [e]; exact List.mem_cons_self .., fun _ => h0⟩
    · rw [if_neg e, w64 (by omega) (by omega)]
      obtain ⟨r, h1, h2⟩ := ih k (i + 1) (by omega) (by omega) (by omega)
      refine ⟨r, h1, h2.trans ⟨fun q => List.mem_cons_of_mem _ q, fun q => ?_⟩⟩
      rcases List.mem_cons.1 q with q | q
      · exact absurd q e
      · exact q
theorem impl_contains_eq {L : List Int} (hL : L.length ≤ 1048577) (a : Int) {k : Nat} (hk : L.length < k) : slices_Contains_int_int.f k L a = some (L.contains a) := by
  unfold slices_Contains_int_int.f slices_Index_int_int.f
  obtain ⟨r, h1, h2⟩ := impl_index_l0 L hL a L.length k 0 (by omega) (by omega) hk
  rw [h1, bindS]
  congr 1
  rw [Bool.eq_iff_iff, decide_eq_true_eq, List.contains_iff_mem, h2]; rfl
theorem impl_isBranch_eq {P : List S30} (hP : P.length ≤ 1048576) (b : Int) {k : Nat} (hk : P.length + 50 ≤ k) : impl_isBranch.f k P b = some ((branchesL P).contains b) := by
  have hl := (brL_len P).1
  unfold impl_isBranch.f
  rw [impl_BranchesOf_eq P (by omega), bindS, impl_contains_eq (by omega) b (by omega), bindS]
/-- The join of a branch. -/
def joinB (P : List S30) (b : Int) : Int := if ((nxB P b).all fun x => reachB P (-1) [x] (P.length : Int)) = true then firstAfter P b else (P.length : Int)
def joinOr (P : List S30) (b : Int) : Int := if (branchesL P).contains b = true then joinB P b else -1
theorem impl_JoinOf_l0 {P : List S30} (h : programOk P = true) (b : Int) (L : List Int) (hl : ∀ x ∈ L, 0 ≤ x ∧ x ≤ (P.length : Int)) (h2 : L.length ≤ 2) : ∀ (d k : Nat) (i : Int), 0 ≤ i → (L.length : Int) - i = d → d + P.length + 330 < k →
    impl_JoinOf.l0 k P b L (L.length : Int) i = some (if ((L.drop i.toNat).all fun x => reachB P (-1) [x] (P.length : Int)) = true then firstAfter P b else (P.length : Int)) := by
  have hn := programOk_len h
  intro d
  induction d with
  | zero =>
    intro k i h0 hd hk
    obtain ⟨k, rfl⟩ : ∃ q, k = q + 1 := ⟨k - 1, by omega⟩
    simp only [impl_JoinOf.l0]
    rw [if_neg (by omega), List.drop_of_length_le (by omega), List.all_nil, if_pos rfl, impl_FirstAfter_eq (by omega) b (by omega), bindS]
  | succ d ih =>
    intro k i h0 hd hk
    obtain ⟨k, rfl⟩ : ∃ q, k = q + 1 := ⟨k - 1, by omega⟩
    have hi : i < (L.length : Int) := by omega
    have hx := hl _ (rd_mem h0 hi)
    simp only [impl_JoinOf.l0]
    rw [if_pos hi, if_pos h0, if_pos hi, impl_reachesExit_eq h hx.1 hx.2 (by omega), bindS, drop_rd h0 hi, List.all_cons]
    cases reachB P (-1) [rd L i] (P.length : Int)
    · rw [if_neg (by decide), Bool.false_and, if_neg (by decide)]
    · rw [if_pos rfl, w64 (by omega) (by omega), ih k (i + 1) (by omega) (by omega) (by omega), Bool.true_and]
theorem impl_JoinOf_eq {P : List S30} (hP : P.length ≤ 1048576) (b : Int) {k : Nat} (hk : P.length + 340 < k) : impl_JoinOf.f k P b = some (joinOr P b) := by
  unfold impl_JoinOf.f joinOr
  rw [impl_isBranch_eq hP b (by omega), bindS]
  by_cases hb : (branchesL P).contains b = true
  · rw [if_pos hb, if_pos hb]
    obtain ⟨h, h0, h1, _⟩ := brL_mem.1 (List.contains_iff_mem.1 hb)
    have h2 := nxB_len P b
    rw [impl_next_eq h h0 (by omega) (by omega), bindS, impl_JoinOf_l0 h b (nxB P b) (nxB_in h h0 (by omega)) h2 (nxB P b).length k 0 (by omega) (by omega) (by omega)]; rfl
  · rw [if_neg hb, if_neg hb]
/-- The marked places of a list. -/
def trueL (O : List Bool) : List Int := (ups O.length 0).filter (Gr.mk O)
/-- The nodes between a branch and its join. -/
def insideL (P : List S30) (b : Int) : List Int := if (branchesL P).contains b = true then trueL (reachL P (joinB P b) (nxB P b)) else []
theorem trueL_len (O : List Bool) : (trueL O).length ≤ O.length := by
  have hu : ∀ (d : Nat) (i : Int), (ups d i).length = d := by
    intro d
    induction d with
    | zero => intro i; rfl
    | succ d ih => intro i; rw [ups, List.length_cons, ih]
  have hl := List.length_filter_le (Gr.mk O) (ups O.length 0)
  rw [hu] at hl; exact hl
theorem insideL_len (P : List S30) (b : Int) : (insideL P b).length ≤ 33 := by
  unfold insideL
  by_cases hb : (branchesL P).contains b = true
  · rw [if_pos hb]
    obtain ⟨h, h0, h1, _⟩ := brL_mem.1 (List.contains_iff_mem.1 hb)
    have hn := programOk_len h
    have hl := (reachL_ok h (joinB P b) (nxB_in h h0 (by omega)) (by have := nxB_len P b; omega)).2.1
    exact Nat.le_trans (trueL_len _) (by omega)
  · rw [if_neg hb]; exact Nat.zero_le _
theorem impl_trues_l0 (O : List Bool) (hO : O.length ≤ 1048577) : ∀ (d k : Nat) (out : List Int) (i : Int), 0 ≤ i → (O.length : Int) - i = d → d < k → out.length ≤ i →
    impl_trues.l0 k out O (O.length : Int) i = some (out ++ (ups d i).filter (Gr.mk O)) := by
  intro d
  induction d with
  | zero =>
    intro k out i h0 hd hk ho
    obtain ⟨k, rfl⟩ : ∃ q, k = q + 1 := ⟨k - 1, by omega⟩
    simp only [impl_trues.l0]
    rw [if_neg (by omega), ups]; simp
  | succ d ih =>
    intro k out i h0 hd hk ho
    obtain ⟨k, rfl⟩ : ∃ q, k = q + 1 := ⟨k - 1, by omega⟩
    simp only [impl_trues.l0]
    rw [if_pos (by omega), if_pos h0, if_pos (by omega), mk_rdOf, w64 (by omega) (by omega), ups, List.filter_cons]
    by_cases q : Gr.mk O i = true
    · rw [if_pos q, if_pos q, if_pos (by omega), ih k (out ++ [i]) (i + 1) (by omega) (by omega) (by omega) (by rw [List.length_append, List.length_singleton]; omega), List.append_assoc]; rfl
    · rw [if_neg q, if_neg q, ih k out (i + 1) (by omega) (by omega) (by omega) (by omega)]
theorem impl_trues_eq {O : List Bool} (hO : O.length ≤ 1048577) {k : Nat} (hk : O.length < k) : impl_trues.f k O = some (trueL O) := by
  unfold impl_trues.f
  rw [impl_trues_l0 O hO O.length k [] 0 (by omega) (by omega) hk (by simp)]; rfl
theorem impl_InsideOf_eq {P : List S30} (hP : P.length ≤ 1048576) (b : Int) {k : Nat} (hk : P.length + 340 < k) : impl_InsideOf.f k P b = some (insideL P b) := by
  unfold impl_InsideOf.f insideL
  rw [impl_isBranch_eq hP b (by omega), bindS]
  by_cases hb : (branchesL P).contains b = true
  · rw [if_pos hb, if_pos hb]
    obtain ⟨h, h0, h1, _⟩ := brL_mem.1 (List.contains_iff_mem.1 hb)
    have hn := programOk_len h
    have h2 := nxB_len P b
    have hin := nxB_in h h0 (by omega)
    have hj : joinOr P b = joinB P b := by unfold joinOr; rw [if_pos hb]
    have hl := (reachL_ok h (joinB P b) hin (by omega)).2.1
    rw [impl_next_eq h h0 (by omega) (by omega), bindS, impl_JoinOf_eq hP b (by omega), bindS, hj, impl_reached_eq h (joinB P b) hin (by omega) (by omega), bindS, impl_trues_eq (by omega) (by omega), bindS]
  · rw [if_neg hb, if_neg hb]
theorem firstL_mem {P : List S30} (h : programOk P = true) {b : Int} {L : List Int} (hne : L ≠ []) (hl : ∀ x ∈ L, 0 ≤ x ∧ x ≤ (P.length : Int)) (ha : ∀ d ∈ L, Gr.Aft (nxB P) (P.length : Int) b d) : firstL P L ∈ L := by
  obtain ⟨d, hd, hall⟩ := Gr.aft_first (nx := nxB P) (x := (P.length : Int)) (b := b) L hne ha
  unfold firstL
  have hx := hl d hd
  cases hf : L.find? fun x => L.all (aftB P x) with
  | none =>
    have := List.find?_eq_none.1 hf d hd
    exact absurd (List.all_eq_true.2 fun e he => (aftB_iff h hx.1 hx.2 e).2 (hall e he)) this
  | some m => exact List.mem_of_find?_eq_some hf
theorem firstL_nil (P : List S30) : firstL P [] = -1 := rfl
theorem exit_aft {P : List S30} {a : Int} (hr : Gr.Reach (nxB P) (-1) [a] (P.length : Int)) : Gr.Aft (nxB P) (P.length : Int) a (P.length : Int) := ⟨hr, fun q => Gr.reach_ne q rfl⟩
theorem aftersL_aft {P : List S30} {a x : Int} (hx : x ∈ aftersL P a) : Gr.Aft (nxB P) (P.length : Int) a x := by
  obtain ⟨hn, _, _, ha⟩ := mem_aftersL.1 hx
  obtain ⟨h, h0, h1⟩ := nodeB_ok hn
  exact (aftB_iff h h0 h1 x).1 ha
theorem exit_in {P : List S30} {a : Int} (hn : nodeB P a = true) (hr : reachB P (-1) [a] (P.length : Int) = true) : (P.length : Int) ∈ aftersL P a := by
  obtain ⟨h, h0, h1⟩ := nodeB_ok hn
  exact mem_aftersL.2 ⟨hn, by omega, Int.le_refl _, (aftB_iff h h0 h1 _).2 (exit_aft ((reachB_iff h (-1) (in1 h0 h1) (by simp) (by omega) (Int.le_refl _)).1 hr))⟩
theorem isAfter_in {P : List S30} {a x : Int} (hx : x ∈ aftersL P a) : (nodeB P a && (nodeB P x && aftB P a x)) = true := by
  obtain ⟨hn, _, _, ha⟩ := mem_aftersL.1 hx
  obtain ⟨h, h2, _⟩ := aftersL_re hx
  have hx1 : nodeB P x = true := by unfold nodeB; rw [h, decide_eq_true h2]; rfl
  rw [hn, hx1, ha]; rfl
theorem aftersL_no {P : List S30} {a : Int} (hr : ¬ reachB P (-1) [a] (P.length : Int) = true) : aftersL P a = [] := by
  rcases h : aftersL P a with _ | ⟨x, r⟩
  · rfl
  · have hx : x ∈ aftersL P a := by rw [h]; exact List.mem_cons_self ..
    have := (mem_aftersL.1 hx).2.2.2
    unfold aftB at this
    rw [Bool.and_eq_true] at this
    exact absurd this.1 hr
theorem branch_reach {P : List S30} {b x : Int} (hb : b ∈ branchesL P) (hx : x ∈ nxB P b) (hr : reachB P (-1) [x] (P.length : Int) = true) : reachB P (-1) [b] (P.length : Int) = true := by
  obtain ⟨h, h0, h1, _⟩ := brL_mem.1 hb
  have hi := nxB_in h h0 (by omega) x hx
  exact (reachB_iff h (-1) (in1 h0 (by omega)) (by simp) (by omega) (Int.le_refl _)).2 (Gr.reach_pre (by omega) hx ((reachB_iff h (-1) (in1 hi.1 hi.2) (by simp) (by omega) (Int.le_refl _)).1 hr))
theorem firstAfter_in {P : List S30} {b : Int} (hb : b ∈ branchesL P) (hr : reachB P (-1) [b] (P.length : Int) = true) : firstAfter P b ∈ aftersL P b ∧ firstAfter P b ≠ b := by
  obtain ⟨h, h0, h1, _⟩ := brL_mem.1 hb
  have hn : nodeB P b = true := by unfold nodeB; rw [h, decide_eq_true (by omega)]; rfl
  have hm : (P.length : Int) ∈ (aftersL P b).filter fun x => !(x == b) := List.mem_filter.2 ⟨exit_in hn hr, by simp; omega⟩
  have := firstL_mem h (b := b) (List.ne_nil_of_mem hm) (fun x hx => (aftersL_re (List.mem_filter.1 hx).1).2.1) (fun d hd => aftersL_aft (List.mem_filter.1 hd).1)
  have := List.mem_filter.1 this
  refine ⟨this.1, ?_⟩
  unfold firstAfter
  simpa using this.2
theorem impl_NextOf_eq {P : List S30} {a : Int} (hn : nodeB P a = true) {k : Nat} (hk : 10 ≤ k) : impl_NextOf.f k P a = some (nxB P a) := by
  obtain ⟨h, h0, h1⟩ := nodeB_ok hn
  unfold impl_NextOf.f
  rw [impl_isNode_eq, bindS, if_pos hn, impl_next_eq h h0 h1 hk, bindS]
/-- x is a part of y (sets of registers). -/
def leB (x y : Int) : Bool := Go.bits .and .i64 x y == x
def S4 (x : Int) : Prop := 0 ≤ x ∧ x ≤ 15
theorem and_fin : ∀ x y : Fin 16, 0 ≤ Go.bits .and .i64 (x.val : Int) (y.val : Int) ∧ Go.bits .and .i64 (x.val : Int) (y.val : Int) ≤ (x.val : Int) ∧ leB (Go.bits .and .i64 (x.val : Int) (y.val : Int)) (x.val : Int) = true ∧ leB (Go.bits .and .i64 (x.val : Int) (y.val : Int)) (y.val : Int) = true := by decide +kernel
theorem nand_fin : ∀ x y : Fin 16, 0 ≤ Go.bits .andNot .i64 (x.val : Int) (y.val : Int) ∧ Go.bits .andNot .i64 (x.val : Int) (y.val : Int) ≤ (x.val : Int) ∧ leB (Go.bits .andNot .i64 (x.val : Int) (y.val : Int)) (x.val : Int) = true ∧ Go.bits .and .i64 (Go.bits .andNot .i64 (x.val : Int) (y.val : Int)) (y.val : Int) = 0 := by decide +kernel
theorem or_fin : ∀ (x : Fin 16) (b : Fin 4), 0 ≤ Go.bits .or .i64 (x.val : Int) (shl .i64 1 (b.val : Int)) ∧ Go.bits .or .i64 (x.val : Int) (shl .i64 1 (b.val : Int)) ≤ 15 ∧ 0 ≤ Go.bits .andNot .i64 (x.val : Int) (shl .i64 1 (b.val : Int)) ∧ Go.bits .andNot .i64 (x.val : Int) (shl .i64 1 (b.val : Int)) ≤ 15 := by decide +kernel
theorem le_fin : ∀ x y : Fin 16, (leB (x.val : Int) (y.val : Int) = true → leB (y.val : Int) (x.val : Int) = true → x = y) ∧ leB (x.val : Int) (x.val : Int) = true ∧ (leB (x.val : Int) (y.val : Int) = true → x.val ≤ y.val) := by decide +kernel
theorem and_ok {x y : Int} (hx : S4 x) (hy : S4 y) : S4 (Go.bits .and .i64 x y) ∧ Go.bits .and .i64 x y ≤ x ∧ leB (Go.bits .and .i64 x y) x = true ∧ leB (Go.bits .and .i64 x y) y = true := by
  obtain ⟨f, rfl⟩ := fin16 hx
  obtain ⟨g, rfl⟩ := fin16 hy
  have := and_fin f g
  exact ⟨⟨this.1, Int.le_trans this.2.1 hx.2⟩, this.2⟩
theorem nand_ok {x y : Int} (hx : S4 x) (hy : S4 y) : S4 (Go.bits .andNot .i64 x y) ∧ Go.bits .andNot .i64 x y ≤ x ∧ leB (Go.bits .andNot .i64 x y) x = true ∧ Go.bits .and .i64 (Go.bits .andNot .i64 x y) y = 0 := by
  obtain ⟨f, rfl⟩ := fin16 hx
  obtain ⟨g, rfl⟩ := fin16 hy
  have := nand_fin f g
  exact ⟨⟨this.1, Int.le_trans this.2.1 hx.2⟩, this.2⟩
theorem or_ok {x b : Int} (hx : S4 x) (hb : 0 ≤ b ∧ b ≤ 3) : S4 (Go.bits .or .i64 x (shl .i64 1 b)) ∧ S4 (Go.bits .andNot .i64 x (shl .i64 1 b)) := by
  obtain ⟨f, rfl⟩ := fin16 hx
  obtain ⟨g, rfl⟩ := fin4 hb
  have := or_fin f g
  exact ⟨⟨this.1, this.2.1⟩, this.2.2⟩
theorem le_anti {x y : Int} (hx : S4 x) (hy : S4 y) (h : leB x y = true) (h2 : leB y x = true) : x = y := by
  obtain ⟨f, rfl⟩ := fin16 hx
  obtain ⟨g, rfl⟩ := fin16 hy
  rw [(le_fin f g).1 h h2]
theorem le_self {x : Int} (hx : S4 x) : leB x x = true := by
  obtain ⟨f, rfl⟩ := fin16 hx
  exact (le_fin f f).2.1
theorem le_int {x y : Int} (hx : S4 x) (hy : S4 y) (h : leB x y = true) : x ≤ y := by
  obtain ⟨f, rfl⟩ := fin16 hx
  obtain ⟨g, rfl⟩ := fin16 hy
  have := (le_fin f g).2.2 h
  omega
/-- A list of sets of registers, one for each node. -/
def GoodS (m : Nat) (S : List Int) : Prop := S.length = m ∧ ∀ v : Int, 0 ≤ v → v < (m : Int) → S4 (rd S v)
def meetAt (a : Int) (S : List Int) (v : Int) : List Int := S.set v.toNat (Go.bits .and .i64 (rd S v) a)
def dropAt (a : Int) (S : List Int) (v : Int) : List Int := S.set v.toNat (Go.bits .andNot .i64 (rd S v) a)
theorem rd_set {S : List Int} {v x u : Int} (hv : 0 ≤ v ∧ v < (S.length : Int)) (hu : 0 ≤ u) : rd (S.set v.toNat x) u = if u = v then x else rd S u := by
  unfold rd
  rw [List.getD_eq_getElem?_getD, List.getD_eq_getElem?_getD, List.getElem?_set]
  by_cases e : u = v
  · subst e; rw [if_pos rfl, if_pos (by omega), if_pos rfl]; rfl
  · rw [if_neg (by omega), if_neg e]
theorem eq_rd {S T : List Int} {m : Nat} (hS : S.length = m) (hT : T.length = m) (h : ∀ v : Int, 0 ≤ v → v < (m : Int) → rd S v = rd T v) : S = T := by
  refine List.ext_getElem (by omega) fun i h1 h2 => ?_
  have := h i (by omega) (by omega)
  unfold rd at this
  rw [Int.toNat_natCast, List.getD_eq_getElem?_getD, List.getD_eq_getElem?_getD, List.getElem?_eq_getElem h1, List.getElem?_eq_getElem h2] at this
  exact this
/-- Less: by the sum of the sets as numbers, never more at any place. -/
def LeS (m : Nat) (S T : List Int) : Prop := ∀ v : Int, 0 ≤ v → v < (m : Int) → rd S v ≤ rd T v
theorem LeS.refl (m : Nat) (S : List Int) : LeS m S S := fun _ _ _ => Int.le_refl _
theorem LeS.trans {m : Nat} {S T U : List Int} (h : LeS m S T) (k : LeS m T U) : LeS m S U := fun v h0 h1 => Int.le_trans (h v h0 h1) (k v h0 h1)
theorem LeS.anti {m : Nat} {S T : List Int} (hS : S.length = m) (hT : T.length = m) (h : LeS m S T) (k : LeS m T S) : S = T := eq_rd hS hT fun v h0 h1 => Int.le_antisymm (h v h0 h1) (k v h0 h1)
theorem meetAt_ok {m : Nat} {S : List Int} {a v : Int} (hS : GoodS m S) (ha : S4 a) (hv : 0 ≤ v ∧ v < (m : Int)) : GoodS m (meetAt a S v) ∧ LeS m (meetAt a S v) S := by
  have hx := and_ok (hS.2 v hv.1 hv.2) ha
  have hl := hS.1
  refine ⟨⟨by unfold meetAt; rw [List.length_set]; exact hl, fun u h0 h1 => ?_⟩, fun u h0 h1 => ?_⟩ <;> unfold meetAt <;> rw [rd_set ⟨hv.1, by omega⟩ h0] <;> by_cases e : u = v
  · rw [if_pos e]; exact hx.1
  · rw [if_neg e]; exact hS.2 u h0 h1
  · rw [if_pos e, e]; exact hx.2.1
  · rw [if_neg e]; exact Int.le_refl _
theorem dropAt_ok {m : Nat} {S : List Int} {a v : Int} (hS : GoodS m S) (ha : S4 a) (hv : 0 ≤ v ∧ v < (m : Int)) : GoodS m (dropAt a S v) ∧ LeS m (dropAt a S v) S := by
  have hx := nand_ok (hS.2 v hv.1 hv.2) ha
  have hl := hS.1
  refine ⟨⟨by unfold dropAt; rw [List.length_set]; exact hl, fun u h0 h1 => ?_⟩, fun u h0 h1 => ?_⟩ <;> unfold dropAt <;> rw [rd_set ⟨hv.1, by omega⟩ h0] <;> by_cases e : u = v
  · rw [if_pos e]; exact hx.1
  · rw [if_neg e]; exact hS.2 u h0 h1
  · rw [if_pos e, e]; exact hx.2.1
  · rw [if_neg e]; exact Int.le_refl _
/-- Steps that keep what is good and never add. -/
theorem fold_ok {m : Nat} {f : List Int → Int → List Int} : ∀ (L : List Int), (∀ v ∈ L, ∀ S, GoodS m S → GoodS m (f S v) ∧ LeS m (f S v) S) → ∀ S, GoodS m S → GoodS m (L.foldl f S) ∧ LeS m (L.foldl f S) S
  | [], _, S, hS => ⟨hS, LeS.refl m S⟩
  | v :: L, hf, S, hS => by
    have h1 := hf v (List.mem_cons_self ..) S hS
    have h2 := fold_ok L (fun u hu => hf u (List.mem_cons_of_mem _ hu)) (f S v) h1.1
    exact ⟨h2.1, h2.2.trans h1.2⟩
/-- If nothing is lost in the end, nothing is lost at any step. -/
theorem fold_fix {m : Nat} {f : List Int → Int → List Int} {S : List Int} : ∀ (L : List Int), (∀ v ∈ L, ∀ S, GoodS m S → GoodS m (f S v) ∧ LeS m (f S v) S) → GoodS m S → L.foldl f S = S → ∀ v ∈ L, f S v = S
  | [], _, _, _, v, hv => by simp at hv
  | u :: L, hf, hS, he, v, hv => by
    have h1 := hf u (List.mem_cons_self ..) S hS
    have hf' := fun w hw => hf w (List.mem_cons_of_mem _ hw)
    have h2 := fold_ok L hf' (f S u) h1.1
    rw [List.foldl_cons] at he
    have e1 : f S u = S := LeS.anti h1.1.1 hS.1 h1.2 (by rw [he] at h2; exact h2.2)
    rcases List.mem_cons.1 hv with rfl | hv
    · exact e1
    · exact fold_fix L hf' hS (by rw [e1] at he; exact he) v hv
def sumS (S : List Int) : Int := S.foldr (fun x r => x + r) 0
theorem sum_le : ∀ (S T : List Int), S.length = T.length → (∀ i : Nat, i < S.length → S.getD i 0 ≤ T.getD i 0) → sumS S ≤ sumS T ∧ (sumS S = sumS T → S = T)
  | [], [], _, _ => ⟨Int.le_refl _, fun _ => rfl⟩
  | [], _ :: _, h, _ => by simp at h
  | _ :: _, [], h, _ => by simp at h
  | x :: S, y :: T, h, hl => by
    have ih := sum_le S T (by simpa using h) (fun i hi => by have := hl (i + 1) (by simpa using hi); simpa using this)
    have h0 : x ≤ y := by have := hl 0 (by simp); simpa using this
    show x + sumS S ≤ y + sumS T ∧ _
    refine ⟨by omega, fun e => ?_⟩
    have e : x + sumS S = y + sumS T := e
    rw [ih.2 (by omega), show x = y by omega]
theorem LeS.sum {m : Nat} {S T : List Int} (hS : S.length = m) (hT : T.length = m) (h : LeS m S T) : sumS S ≤ sumS T ∧ (sumS S = sumS T → S = T) := by
  refine sum_le S T (by omega) fun i hi => ?_
  have := h i (by omega) (by omega)
  unfold rd at this
  rwa [Int.toNat_natCast] at this
theorem sum_in : ∀ (S : List Int), (∀ x ∈ S, S4 x) → 0 ≤ sumS S ∧ sumS S ≤ 15 * (S.length : Int)
  | [], _ => by simp [sumS]
  | x :: S, h => by
    have ih := sum_in S fun y hy => h y (List.mem_cons_of_mem _ hy)
    have hx := h x (List.mem_cons_self ..)
    unfold S4 at hx
    show 0 ≤ x + sumS S ∧ x + sumS S ≤ _
    rw [List.length_cons]
    omega
theorem GoodS.sum {m : Nat} {S : List Int} (hS : GoodS m S) : 0 ≤ sumS S ∧ sumS S ≤ 15 * (m : Int) := by
  have := sum_in S fun x hx => by
    obtain ⟨i, hi, rfl⟩ := List.getElem_of_mem hx
    have := hS.2 i (by omega) (by have := hS.1; omega)
    unfold rd at this
    rwa [Int.toNat_natCast, List.getD_eq_getElem?_getD, List.getElem?_eq_getElem hi] at this
  rwa [hS.1] at this
/-- The registers that some nodes' instructions change. -/
def writtenB (P : List S30) (L : List Int) : Int := L.foldl (fun s v => if v < (P.length : Int) ∧ ¬ writesB (rd_T30 P v).f0 (rd_T30 P v).f1 < 0 then Go.bits .or .i64 s (shl .i64 1 (rd_T30 P v).f1) else s) 0
def uaB (P : List S30) (S : List Int) (i : Int) : Int := uniB (rd_T30 P i).f0 (rd_T30 P i).f1 (rd_T30 P i).f2 (rd_T30 P i).f3 (rd S i)
def step1 (P : List S30) (S : List Int) (i : Int) : List Int := (nxB P i).foldl (meetAt (uaB P S i)) S
def step2 (P : List S30) (S : List Int) (i : Int) : List Int := if (branchesL P).contains i = true ∧ onB (rd S i) (rd_T30 P i).f1 = false then (insideL P i ++ [joinB P i]).foldl (dropAt (writtenB P (insideL P i))) S else S
def stepB (P : List S30) (S : List Int) (i : Int) : List Int := step2 P (step1 P S i) i
def roundB (P : List S30) (S : List Int) : List Int := (ups P.length 0).foldl (stepB P) S
theorem uniB_in {n a b c d s : Int} (h : insB n a b c d = true) (hs : S4 s) : S4 (uniB a b c d s) := by
  unfold uniB
  by_cases hw : writesB a b < 0
  · rw [if_pos hw]; exact hs
  · rw [if_neg hw]
    have hb := or_ok hs (writesB_in h hw)
    split
    · exact hb.1
    · exact hb.2
theorem writtenB_in {P : List S30} (h : programOk P = true) (L : List Int) (hl : ∀ v ∈ L, 0 ≤ v) : S4 (writtenB P L) := by
  have key : ∀ (L : List Int) (s : Int), (∀ v ∈ L, 0 ≤ v) → S4 s → S4 (L.foldl (fun s v => if v < (P.length : Int) ∧ ¬ writesB (rd_T30 P v).f0 (rd_T30 P v).f1 < 0 then Go.bits .or .i64 s (shl .i64 1 (rd_T30 P v).f1) else s) s) := by
    intro L
    induction L with
    | nil => intro s _ hs; exact hs
    | cons v L ih =>
      intro s hl hs
      rw [List.foldl_cons]
      refine ih _ (fun u hu => hl u (List.mem_cons_of_mem _ hu)) ?_
      split
      · rename_i q
        exact (or_ok hs (writesB_in (programOk_at h (hl v (List.mem_cons_self ..)) q.1) q.2)).1
      · exact hs
  exact key L 0 hl ⟨by omega, by omega⟩
theorem insideL_in {P : List S30} {b : Int} (hb : b ∈ branchesL P) : ∀ v ∈ insideL P b, 0 ≤ v ∧ v ≤ (P.length : Int) := by
  obtain ⟨h, h0, h1, _⟩ := brL_mem.1 hb
  intro v hv
  unfold insideL at hv
  rw [if_pos (List.contains_iff_mem.2 hb)] at hv
  have hl := (reachL_ok h (joinB P b) (nxB_in h h0 (by omega)) (by have := nxB_len P b; omega)).2.1
  have := ups_mem _ _ _ (List.mem_filter.1 hv).1
  omega
theorem joinB_in {P : List S30} {b : Int} (hb : b ∈ branchesL P) : 0 ≤ joinB P b ∧ joinB P b ≤ (P.length : Int) := by
  unfold joinB
  split
  · rename_i q
    obtain ⟨x, hx⟩ : ∃ x, x ∈ nxB P b := by rcases (brL_nx hb).2 with e | e <;> rw [e] <;> exact ⟨_, List.mem_cons_self ..⟩
    exact (aftersL_re (firstAfter_in hb (branch_reach hb hx (List.all_eq_true.1 q x hx))).1).2.1
  · omega
theorem step1_ok {P : List S30} (h : programOk P = true) {i : Int} (hi : 0 ≤ i ∧ i < (P.length : Int)) {S : List Int} (hS : GoodS (P.length + 1) S) : GoodS (P.length + 1) (step1 P S i) ∧ LeS (P.length + 1) (step1 P S i) S := by
  have ha : S4 (uaB P S i) := uniB_in (programOk_at h hi.1 hi.2) (hS.2 i hi.1 (by omega))
  refine fold_ok (nxB P i) (fun v hv S hS => meetAt_ok hS ha ?_) S hS
  have := nxB_in h hi.1 (by omega) v hv
  omega
theorem step2_ok {P : List S30} {i : Int} {S : List Int} (hS : GoodS (P.length + 1) S) : GoodS (P.length + 1) (step2 P S i) ∧ LeS (P.length + 1) (step2 P S i) S := by
  unfold step2
  split
  · rename_i q
    have hb := List.contains_iff_mem.1 q.1
    have h := (brL_mem.1 hb).1
    refine fold_ok _ (fun v hv S hS => dropAt_ok hS (writtenB_in h _ fun u hu => (insideL_in hb u hu).1) ?_) S hS
    rcases List.mem_append.1 hv with q | q
    · have := insideL_in hb v q; omega
    · rw [List.mem_singleton.1 q]; have := joinB_in hb; omega
  · exact ⟨hS, LeS.refl _ S⟩
theorem stepB_ok {P : List S30} (h : programOk P = true) : ∀ i ∈ ups P.length 0, ∀ S, GoodS (P.length + 1) S → GoodS (P.length + 1) (stepB P S i) ∧ LeS (P.length + 1) (stepB P S i) S := by
  intro i hi S hS
  have := ups_mem _ _ _ hi
  have h1 := step1_ok h (i := i) (by omega) hS
  have h2 := step2_ok (i := i) h1.1
  exact ⟨h2.1, h2.2.trans h1.2⟩
theorem roundB_ok {P : List S30} (h : programOk P = true) {S : List Int} (hS : GoodS (P.length + 1) S) : GoodS (P.length + 1) (roundB P S) ∧ LeS (P.length + 1) (roundB P S) S := fold_ok _ (stepB_ok h) S hS
/-- What holds where a whole round changes nothing. -/
theorem round_fix {P : List S30} (h : programOk P = true) {S : List Int} (hS : GoodS (P.length + 1) S) (hr : roundB P S = S) {i : Int} (hi : 0 ≤ i ∧ i < (P.length : Int)) :
    (∀ v ∈ nxB P i, leB (rd S v) (uaB P S i) = true) ∧ ((branchesL P).contains i = true → onB (rd S i) (rd_T30 P i).f1 = false → ∀ v ∈ insideL P i ++ [joinB P i], Go.bits .and .i64 (rd S v) (writtenB P (insideL P i)) = 0) := by
  have hstep := fold_fix _ (stepB_ok h) hS hr i (ups_mem_of _ _ _ hi.1 (by omega))
  have h1 := step1_ok h hi hS
  have h2 := step2_ok (i := i) h1.1
  have e1 : step1 P S i = S := LeS.anti h1.1.1 hS.1 h1.2 (by have := h2.2; unfold stepB at hstep; rwa [hstep] at this)
  have ha : S4 (uaB P S i) := uniB_in (programOk_at h hi.1 hi.2) (hS.2 i hi.1 (by omega))
  have hin := nxB_in h hi.1 (by omega : i ≤ (P.length : Int))
  refine ⟨fun v hv => ?_, fun hb hon v hv => ?_⟩
  · have := fold_fix _ (fun v hv S hS => meetAt_ok hS ha (by have := hin v hv; omega)) hS e1 v hv
    have hv2 := hin v hv
    have hl := hS.1
    have e : rd (meetAt (uaB P S i) S v) v = rd S v := by rw [this]
    unfold meetAt at e
    rw [rd_set (by omega) hv2.1, if_pos rfl] at e
    exact beq_iff_eq.2 e
  · unfold stepB at hstep
    rw [e1] at hstep
    unfold step2 at hstep
    rw [if_pos ⟨hb, hon⟩] at hstep
    have hbm := List.contains_iff_mem.1 hb
    have hw := writtenB_in h _ fun u hu => (insideL_in hbm u hu).1
    have hvi : ∀ v ∈ insideL P i ++ [joinB P i], 0 ≤ v ∧ v < ((P.length + 1 : Nat) : Int) := by
      intro v hv
      rcases List.mem_append.1 hv with q | q
      · have := insideL_in hbm v q; omega
      · rw [List.mem_singleton.1 q]; have := joinB_in hbm; omega
    have := fold_fix _ (fun v hv S hS => dropAt_ok hS hw (hvi v hv)) hS hstep v hv
    have hv2 := hvi v hv
    have hl := hS.1
    have e : rd (dropAt (writtenB P (insideL P i)) S v) v = rd S v := by rw [this]
    unfold dropAt at e
    rw [rd_set (by omega) hv2.1, if_pos rfl] at e
    have := (nand_ok (hS.2 v hv2.1 hv2.2) hw).2.2.2
    rwa [e] at this
theorem writesB_eq {a b : Int} (h : ¬ writesB a b < 0) : writesB a b = b := by
  unfold writesB at h ⊢
  split
  · rfl
  · rename_i q; rw [if_neg q] at h; omega
theorem impl_writtenIn_l0 {P : List S30} (h : programOk P = true) (L : List Int) (hl : ∀ v ∈ L, 0 ≤ v) (hL : L.length ≤ 40) : ∀ (d k : Nat) (s i : Int), 0 ≤ i → (L.length : Int) - i = d → d < k →
    impl_writtenIn.l0 k P s L (L.length : Int) i = some ((L.drop i.toNat).foldl (fun s v => if v < (P.length : Int) ∧ ¬ writesB (rd_T30 P v).f0 (rd_T30 P v).f1 < 0 then Go.bits .or .i64 s (shl .i64 1 (rd_T30 P v).f1) else s) s) := by
  intro d
  induction d with
  | zero =>
    intro k s i h0 hd hk
    obtain ⟨k, rfl⟩ : ∃ q, k = q + 1 := ⟨k - 1, by omega⟩
    simp only [impl_writtenIn.l0]
    rw [if_neg (by omega), List.drop_of_length_le (by omega)]; rfl
  | succ d ih =>
    intro k s i h0 hd hk
    obtain ⟨k, rfl⟩ : ∃ q, k = q + 1 := ⟨k - 1, by omega⟩
    have hi : i < (L.length : Int) := by omega
    have hv := hl _ (rd_mem h0 hi)
    simp only [impl_writtenIn.l0]
    rw [if_pos hi, if_pos h0, if_pos hi, drop_rd h0 hi, List.foldl_cons, w64 (x := i + 1) (by omega) (by omega)]
    by_cases e : rd L i < (P.length : Int)
    · rw [if_pos e, if_pos hv, impl_writes_eq, bindS]
      by_cases e2 : writesB (rd_T30 P (rd L i)).f0 (rd_T30 P (rd L i)).f1 < 0
      · rw [if_neg (by omega), if_neg (fun q => q.2 e2), ih k s (i + 1) (by omega) (by omega) (by omega)]
      · rw [if_pos (by omega), bindS, if_pos (by omega), if_pos ⟨e, e2⟩, writesB_eq e2, ih k _ (i + 1) (by omega) (by omega) (by omega)]
    · rw [if_neg e, if_neg (fun q => e q.1), ih k s (i + 1) (by omega) (by omega) (by omega)]
theorem impl_writtenIn_eq {P : List S30} (h : programOk P = true) {L : List Int} (hl : ∀ v ∈ L, 0 ≤ v) (hL : L.length ≤ 40) {k : Nat} (hk : 41 ≤ k) : impl_writtenIn.f k P L = some (writtenB P L) := by
  unfold impl_writtenIn.f writtenB
  rw [impl_writtenIn_l0 h L hl hL L.length k 0 0 (by omega) (by omega) (by omega), Int.toNat_zero, List.drop_zero]
theorem impl_equal_l0 (S T : List Int) (he : S.length = T.length) (hL : S.length ≤ 40) : ∀ (d k : Nat) (i : Int), 0 ≤ i → (S.length : Int) - i = d → d < k →
    slices_Equal_int_int.l0 k S T (S.length : Int) i = some (decide (S.drop i.toNat = T.drop i.toNat)) := by
  intro d
  induction d with
  | zero =>
    intro k i h0 hd hk
    obtain ⟨k, rfl⟩ : ∃ q, k = q + 1 := ⟨k - 1, by omega⟩
    simp only [slices_Equal_int_int.l0]
    rw [if_neg (by omega), List.drop_of_length_le (by omega), List.drop_of_length_le (by omega), decide_eq_true rfl]
  | succ d ih =>
    intro k i h0 hd hk
    obtain ⟨k, rfl⟩ : ∃ q, k = q + 1 := ⟨k - 1, by omega⟩
    have hi : i < (S.length : Int) := by omega
    simp only [slices_Equal_int_int.l0]
    rw [if_pos hi, if_pos h0, if_pos hi, if_pos (by omega), drop_rd h0 hi, drop_rd h0 (by omega : i < (T.length : Int)), w64 (by omega) (by omega), ih k (i + 1) (by omega) (by omega) (by omega)]
    by_cases e : rd S i = rd T i
    · rw [if_pos e, e]
      congr 1
      rw [Bool.eq_iff_iff, decide_eq_true_eq, decide_eq_true_eq, List.cons.injEq]
      exact ⟨fun q => ⟨rfl, q⟩, fun q => q.2⟩
    · rw [if_neg e]
      congr 1
      rw [eq_comm, decide_eq_false_iff_not, List.cons.injEq]
      exact fun q => e q.1
theorem impl_equal_eq {S T : List Int} (he : S.length = T.length) (hL : S.length ≤ 40) {k : Nat} (hk : 41 ≤ k) : slices_Equal_int_int.f k S T = some (decide (S = T)) := by
  unfold slices_Equal_int_int.f
  rw [if_pos (by omega), impl_equal_l0 S T he hL S.length k 0 (by omega) (by omega) (by omega)]; rfl
theorem uniI_l3 {P : List S30} (h : programOk P = true) (B : List Int) (W : Int) {n i : Int} (hi : 0 ≤ i ∧ i ≤ 40) (L : List Int) (hl : ∀ v ∈ L, 0 ≤ v ∧ v ≤ (P.length : Int)) (hL : L.length ≤ 40) : ∀ (d k : Nat) (S : List Int) (j : Int), 0 ≤ j → (L.length : Int) - j = d → d < k → S.length = P.length + 1 →
    impl_UniformAt.l3 k P S B W P n i L (L.length : Int) j = impl_UniformAt.l1 (k - d - 1) P ((L.drop j.toNat).foldl (dropAt W) S) B P n (i + 1) := by
  intro d
  induction d with
  | zero =>
    intro k S j h0 hd hk hS
    obtain ⟨k, rfl⟩ : ∃ q, k = q + 1 := ⟨k - 1, by omega⟩
    simp only [impl_UniformAt.l3]
    rw [if_neg (by omega), List.drop_of_length_le (by omega), w64 (by omega) (by omega), show k + 1 - 0 - 1 = k by omega]; rfl
  | succ d ih =>
    intro k S j h0 hd hk hS
    obtain ⟨k, rfl⟩ : ∃ q, k = q + 1 := ⟨k - 1, by omega⟩
    have hj : j < (L.length : Int) := by omega
    have hv := hl _ (rd_mem h0 hj)
    simp only [impl_UniformAt.l3]
    rw [if_pos hj, if_pos h0, if_pos hj, if_pos hv.1, if_pos (by omega), w64 (x := j + 1) (by omega) (by omega), ih k _ (j + 1) (by omega) (by omega) (by omega) (by rw [List.length_set]; exact hS), drop_rd h0 hj, List.foldl_cons, show k + 1 - (d + 1) - 1 = k - d - 1 by omega]; rfl
theorem uniI_l2 {P : List S30} (h : programOk P = true) (B : List Int) (a : Int) {n i f0 f1 f2 f3 : Int} (L : List Int) (hl : ∀ v ∈ L, 0 ≤ v ∧ v ≤ (P.length : Int)) (hL : L.length ≤ 40) : ∀ (d k : Nat) (S : List Int) (j : Int), 0 ≤ j → (L.length : Int) - j = d → d < k → S.length = P.length + 1 →
    impl_UniformAt.l2 k P S B i a P n i L (L.length : Int) j f0 f1 f2 f3 = impl_UniformAt.l2 (k - d) P ((L.drop j.toNat).foldl (meetAt a) S) B i a P n i L (L.length : Int) (L.length : Int) f0 f1 f2 f3 := by
  intro d
  induction d with
  | zero =>
    intro k S j h0 hd hk hS
    rw [List.drop_of_length_le (by omega), show j = (L.length : Int) by omega, show k - 0 = k by omega]; rfl
  | succ d ih =>
    intro k S j h0 hd hk hS
    obtain ⟨k, rfl⟩ : ∃ q, k = q + 1 := ⟨k - 1, by omega⟩
    have hj : j < (L.length : Int) := by omega
    have hv := hl _ (rd_mem h0 hj)
    conv => lhs; rw [impl_UniformAt.l2]
    rw [if_pos hj, if_pos h0, if_pos hj, if_pos hv.1, if_pos (by omega), w64 (x := j + 1) (by omega) (by omega), ih k _ (j + 1) (by omega) (by omega) (by omega) (by rw [List.length_set]; exact hS), drop_rd h0 hj, List.foldl_cons, show k + 1 - (d + 1) = k - d by omega]; rfl
theorem branch_reg {P : List S30} {b : Int} (hb : b ∈ branchesL P) : 0 ≤ (rd_T30 P b).f1 ∧ (rd_T30 P b).f1 ≤ 3 := by
  obtain ⟨h, h0, h1, _⟩ := brL_mem.1 hb
  have h10 := (brL_nx hb).1.2
  rcases insB_cases (programOk_at h h0 h1) with q | q | q | q | q | q
  · omega
  · omega
  · omega
  · omega
  · have := fldR4 q.2; omega
  · omega
theorem uniI_node {P : List S30} (h : programOk P = true) (B : List Int) {i : Int} (hi : 0 ≤ i ∧ i < (P.length : Int)) {S : List Int} (hS : GoodS (P.length + 1) S) {k : Nat} (hk : 500 ≤ k) :
    ∃ k', k ≤ k' + 60 ∧ impl_UniformAt.l1 k P S B P (P.length : Int) i = impl_UniformAt.l1 k' P (stepB P S i) B P (P.length : Int) (i + 1) := by
  have hn := programOk_len h
  have hl := hS.1
  have hin := nxB_in h hi.1 (by omega : i ≤ (P.length : Int))
  have hn2 := nxB_len P i
  have h1 := step1_ok h hi hS
  have hl1 := h1.1.1
  obtain ⟨k, rfl⟩ : ∃ q, k = q + 1 := ⟨k - 1, by omega⟩
  rw [impl_UniformAt.l1, if_pos hi.2, if_pos hi.1, if_pos hi.2, if_pos (by omega), impl_uniformAfter_eq (programOk_at h hi.1 hi.2) (hS.2 i hi.1 (by omega)) (by omega), bindS, impl_next_eq h hi.1 (by omega) (by omega), bindS, uniI_l2 h B _ (nxB P i) hin (by omega) (nxB P i).length k S 0 (by omega) (by omega) (by omega) hl, Int.toNat_zero, List.drop_zero]
  change ∃ k', _ ∧ impl_UniformAt.l2 (k - (nxB P i).length) P (step1 P S i) B i _ P _ i _ _ _ _ _ _ _ = _
  obtain ⟨q, hq⟩ : ∃ q, k - (nxB P i).length = q + 2 := ⟨k - (nxB P i).length - 2, by omega⟩
  rw [hq, show q + 2 = (q + 1) + 1 from rfl, impl_UniformAt.l2, if_neg (by omega), impl_isBranch_eq (by omega) i (by omega), bindS]
  by_cases hb : (branchesL P).contains i = true
  · have hbm := List.contains_iff_mem.1 hb
    have hr := branch_reg hbm
    rw [if_pos hb, if_pos hi.1, if_pos (by omega), if_pos hr.1]
    change ∃ k', _ ∧ impl_UniformAt.j3 (q + 1) P (step1 P S i) B i P _ i (onB (rd (step1 P S i) i) (rd_T30 P i).f1) = _
    cases ho : onB (rd (step1 P S i) i) (rd_T30 P i).f1
    · have hil := insideL_len P i
      have hii := insideL_in hbm
      have hji := joinB_in hbm
      have hjo : joinOr P i = joinB P i := by unfold joinOr; rw [if_pos hb]
      have hL : ∀ v ∈ insideL P i ++ [joinB P i], 0 ≤ v ∧ v ≤ (P.length : Int) := by
        intro v hv
        rcases List.mem_append.1 hv with q | q
        · exact hii v q
        · rw [List.mem_singleton.1 q]; exact hji
      have hlen : (insideL P i ++ [joinB P i]).length = (insideL P i).length + 1 := by simp
      have e2 : stepB P S i = (insideL P i ++ [joinB P i]).foldl (dropAt (writtenB P (insideL P i))) (step1 P S i) := by
        unfold stepB step2
        rw [if_pos ⟨hb, ho⟩]
      rw [impl_UniformAt.j3, if_neg (by decide), impl_InsideOf_eq (by omega) i (by omega), bindS, impl_writtenIn_eq h (fun v hv => (hii v hv).1) (by omega) (by omega), bindS, impl_JoinOf_eq (by omega) i (by omega), bindS, if_pos (by omega), bindS, hjo, uniI_l3 h B _ ⟨hi.1, by omega⟩ _ hL (by omega) (insideL P i ++ [joinB P i]).length q _ 0 (by omega) (by omega) (by omega) hl1, Int.toNat_zero, List.drop_zero, ← e2]
      exact ⟨_, by omega, rfl⟩
    · have e2 : stepB P S i = step1 P S i := by
        unfold stepB step2
        rw [if_neg (by rw [ho]; exact fun q => absurd q.2 (by decide))]
      rw [impl_UniformAt.j3, if_pos rfl, w64 (by omega) (by omega), ← e2]
      exact ⟨_, by omega, rfl⟩
  · have e2 : stepB P S i = step1 P S i := by
      unfold stepB step2
      rw [if_neg (fun q => hb q.1)]
    rw [if_neg hb, impl_UniformAt.j3, if_pos rfl, w64 (by omega) (by omega), ← e2]
    exact ⟨_, by omega, rfl⟩
theorem uniI_nodes {P : List S30} (h : programOk P = true) (B : List Int) : ∀ (d k : Nat) (i : Int) (S : List Int), 0 ≤ i → (P.length : Int) - i = d → 60 * d + 500 ≤ k → GoodS (P.length + 1) S →
    ∃ k', k ≤ k' + 60 * d ∧ impl_UniformAt.l1 k P S B P (P.length : Int) i = impl_UniformAt.l1 k' P ((ups d i).foldl (stepB P) S) B P (P.length : Int) (P.length : Int) := by
  intro d
  induction d with
  | zero =>
    intro k i S h0 hd hk hS
    obtain rfl : i = (P.length : Int) := by omega
    exact ⟨k, by omega, rfl⟩
  | succ d ih =>
    intro k i S h0 hd hk hS
    obtain ⟨k1, e1, h1⟩ := uniI_node h B (i := i) ⟨h0, by omega⟩ hS (k := k) (by omega)
    have hg := stepB_ok h i (ups_mem_of _ _ _ h0 (by omega)) S hS
    obtain ⟨k2, e2, h2⟩ := ih k1 (i + 1) (stepB P S i) (by omega) (by omega) (by omega) hg.1
    exact ⟨k2, by omega, by rw [h1, h2, ups, List.foldl_cons]⟩
def fuelU : Nat → Nat
  | 0 => 2700
  | q + 1 => fuelU q + 2100
theorem fuelU_eq : ∀ q, fuelU q = 2100 * q + 2700
  | 0 => rfl
  | q + 1 => by rw [fuelU, fuelU_eq q, Nat.mul_succ, Nat.add_right_comm]
theorem uniI_loop {P : List S30} (h : programOk P = true) : ∀ (q : Nat) (S : List Int), GoodS (P.length + 1) S → sumS S ≤ (q : Int) → ∀ k : Nat, fuelU q ≤ k →
    ∃ F, impl_UniformAt.l0 k P S = some (F.take P.length) ∧ GoodS (P.length + 1) F ∧ roundB P F = F ∧ ∀ I : List Int → Prop, (∀ S, GoodS (P.length + 1) S → I S → I (roundB P S)) → I S → I F := by
  have hn := programOk_len h
  intro q
  induction q with
  | zero =>
    intro S hS hq k hk
    have hk : 2700 ≤ k := hk
    have hr := roundB_ok h hS
    have e : roundB P S = S := by
      have a := hr.1.sum
      have b := hS.sum
      have c := LeS.sum hr.1.1 hS.1 hr.2
      exact c.2 (by omega)
    obtain ⟨k, rfl⟩ : ∃ q, k = q + 1 := ⟨k - 1, by omega⟩
    have hl := hS.1
    obtain ⟨k1, e1, h1⟩ := uniI_nodes h S P.length k 0 S (by omega) (by omega) (by omega) hS
    obtain ⟨k1, rfl⟩ : ∃ q, k1 = q + 1 := ⟨k1 - 1, by omega⟩
    refine ⟨S, ?_, hS, e, fun I _ hI => hI⟩
    unfold roundB at e
    rw [impl_UniformAt.l0]
    unfold slices_Clone_int_int.f cloneIntF
    rw [if_pos (by omega), bindS, h1, e, impl_UniformAt.l1, if_neg (by omega), impl_equal_eq rfl (by omega) (by omega), bindS, decide_eq_true rfl, if_pos rfl, if_pos (by omega), if_pos (by omega)]
    unfold slices_Clone_int_int.f cloneIntF
    rw [Int.toNat_natCast, if_pos (by rw [List.length_take]; omega), bindS]
  | succ q ih =>
    intro S hS hq k hk
    have hk : fuelU q + 2100 ≤ k := hk
    have hf : 2700 ≤ fuelU q := by rw [fuelU_eq]; exact Nat.le_add_left _ _
    generalize fuelU q = fu at hk hf ih
    have hr := roundB_ok h hS
    obtain ⟨k, rfl⟩ : ∃ q, k = q + 1 := ⟨k - 1, by omega⟩
    have hl := hS.1
    have hl2 := hr.1.1
    obtain ⟨k1, e1, h1⟩ := uniI_nodes h S P.length k 0 S (by omega) (by omega) (by omega) hS
    obtain ⟨k1, rfl⟩ : ∃ q, k1 = q + 1 := ⟨k1 - 1, by omega⟩
    have hk1 : fu ≤ k1 := by clear h1 hr ih; omega
    have hq1 : sumS (roundB P S) ≤ sumS S → sumS (roundB P S) ≠ sumS S → sumS (roundB P S) ≤ (q : Int) := by
      generalize sumS (roundB P S) = x
      generalize sumS S = y at hq ⊢
      clear h1 hr ih hk1
      intro p r
      omega
    have start : impl_UniformAt.l0 (k + 1) P S = impl_UniformAt.l1 (k1 + 1) P (roundB P S) S P (P.length : Int) (P.length : Int) := by
      rw [impl_UniformAt.l0]
      unfold slices_Clone_int_int.f cloneIntF
      rw [if_pos (by omega), bindS, h1]; rfl
    by_cases e : roundB P S = S
    · refine ⟨S, ?_, hS, e, fun I _ hI => hI⟩
      rw [start, e, impl_UniformAt.l1, if_neg (by omega), impl_equal_eq rfl (by omega) (by omega), bindS, decide_eq_true rfl, if_pos rfl, if_pos (by omega), if_pos (by omega)]
      unfold slices_Clone_int_int.f cloneIntF
      rw [Int.toNat_natCast, if_pos (by rw [List.length_take]; omega), bindS]
    · have c := LeS.sum hr.1.1 hS.1 hr.2
      have c2 : sumS (roundB P S) ≠ sumS S := fun x => e (c.2 x)
      obtain ⟨F, f1, f2, f3, f4⟩ := ih (roundB P S) hr.1 (hq1 c.1 c2) k1 hk1
      refine ⟨F, ?_, f2, f3, fun I hI hs => f4 I hI (hI S hS hs)⟩
      rw [start, impl_UniformAt.l1, if_neg (by omega), impl_equal_eq (by omega) (by omega) (by omega), bindS, decide_eq_false e, if_neg (by decide), f1]
theorem allOn {P : List S30} : GoodS (P.length + 1) (List.replicate (P.length + 1) (15 : Int)) := by
  refine ⟨by simp, fun v h0 h1 => ?_⟩
  have : rd (List.replicate (P.length + 1) (15 : Int)) v = 15 := by
    unfold rd
    rw [List.getD_eq_getElem?_getD, List.getElem?_replicate, if_pos (by omega)]; rfl
  rw [this]; exact ⟨by omega, by omega⟩
theorem impl_UniformAt_ok {P : List S30} (hq : quietOk P = true) : ∃ F, (∀ k : Nat, 1050000 ≤ k → impl_UniformAt.f k P = some (F.take P.length)) ∧ GoodS (P.length + 1) F ∧ roundB P F = F ∧ ∀ I : List Int → Prop, (∀ S, GoodS (P.length + 1) S → I S → I (roundB P S)) → I (List.replicate (P.length + 1) 15) → I F := by
  have h : programOk P = true := by unfold quietOk at hq; rw [Bool.and_eq_true] at hq; exact hq.1
  have hn := programOk_len h
  have hs := (allOn (P := P)).sum
  obtain ⟨F, f1, f2⟩ := uniI_loop h 495 _ (allOn (P := P)) (by omega) 1050000 (by rw [fuelU_eq]; decide)
  refine ⟨F, fun k hk => ?_, f2⟩
  unfold impl_UniformAt.f slices_Repeat_int_int.f
  rw [impl_quiet_eq, hq, bindS, if_pos rfl, w64 (by omega) (by omega), if_pos ⟨rfl, by omega, by omega⟩, bindS, show ((P.length : Int) + 1).toNat = P.length + 1 by omega, show rd [15] 0 = 15 from rfl]
  exact at_rounds (g := fun k => impl_UniformAt.l0 k P (List.replicate (P.length + 1) 15)) (fun k => (impl_UniformAt.mono_l k).1 P _) hk f1

theorem sets_l1 {P : List S30} (u : List Int) (hu : u.length = P.length) (hn : P.length ≤ 32) (s : Int) {i : Int} (hi : 0 ≤ i ∧ i ≤ 40) (L : List Int) (hL : L.length ≤ 2) (hl : ∀ v ∈ L, 0 ≤ v) (hs : ∀ v ∈ L, v < (P.length : Int) → Go.bits .and .i64 (rd u v) s = rd u v) : ∀ (d k : Nat) (j : Int), 0 ≤ j → (L.length : Int) - j = d → d < k →
    laws_FnUniformSets.l1 k P u i s L j = laws_FnUniformSets.l0 (k - d - 1) P u (i + 1) := by
  intro d
  induction d with
  | zero =>
    intro k j h0 hd hk
    obtain ⟨k, rfl⟩ : ∃ q, k = q + 1 := ⟨k - 1, by omega⟩
    simp only [laws_FnUniformSets.l1]
    rw [if_neg (by omega), w64 (by omega) (by omega), show k + 1 - 0 - 1 = k by omega]
  | succ d ih =>
    intro k j h0 hd hk
    obtain ⟨k, rfl⟩ : ∃ q, k = q + 1 := ⟨k - 1, by omega⟩
    have hj : j < (L.length : Int) := by omega
    have hv := hl _ (rd_mem h0 hj)
    simp only [laws_FnUniformSets.l1]
    rw [if_pos hj, if_pos h0, if_neg (by omega), w64 (x := j + 1) (by omega) (by omega), ih k (j + 1) (by omega) (by omega) (by omega), show k + 1 - (d + 1) - 1 = k - d - 1 by omega]
    by_cases e : rd L j < (u.length : Int)
    · rw [if_pos e, if_pos hv, if_pos (hs _ (rd_mem h0 hj) (by omega))]
    · rw [if_neg e]
theorem sets_l0 {P : List S30} (h : programOk P = true) {F : List Int} (hF : GoodS (P.length + 1) F) (hr : roundB P F = F) : ∀ (d k : Nat) (i : Int), 0 ≤ i → (P.length : Int) - i = d → 5 * d + 100 < k →
    laws_FnUniformSets.l0 k P (F.take P.length) i = some true := by
  have hn := programOk_len h
  have hl := hF.1
  have hu : (F.take P.length).length = P.length := by rw [List.length_take]; omega
  have hrd : ∀ v : Int, 0 ≤ v → v < (P.length : Int) → rd (F.take P.length) v = rd F v := fun v h0 h1 => by
    unfold rd
    rw [List.getD_eq_getElem?_getD, List.getD_eq_getElem?_getD, List.getElem?_take, if_pos (by omega)]
  intro d
  induction d with
  | zero =>
    intro k i h0 hd hk
    obtain ⟨k, rfl⟩ : ∃ q, k = q + 1 := ⟨k - 1, by omega⟩
    simp only [laws_FnUniformSets.l0]
    rw [if_neg (by omega)]
  | succ d ih =>
    intro k i h0 hd hk
    obtain ⟨k, rfl⟩ : ∃ q, k = q + 1 := ⟨k - 1, by omega⟩
    have hi : i < (P.length : Int) := by omega
    have hin := nxB_in h h0 (by omega : i ≤ (P.length : Int))
    have hn2 := nxB_len P i
    have hnode : nodeB P i = true := by unfold nodeB; rw [h, decide_eq_true (by omega)]; rfl
    have hs := hF.2 i h0 (by omega)
    have hfix := (round_fix h hF hr ⟨h0, hi⟩).1
    simp only [laws_FnUniformSets.l0]
    rw [if_pos hi, if_pos h0, if_pos (by omega), impl_UniformAfter_eq _ _ _ _ _ (by omega), bindS, impl_NextOf_eq hnode (by omega), bindS, hrd i h0 hi, if_pos ⟨hs.1, hs.2, insB_mono (by omega) (programOk_at h h0 hi)⟩]
    change laws_FnUniformSets.l1 k P (F.take P.length) i (uaB P F i) (nxB P i) 0 = _
    rw [sets_l1 _ hu hn _ ⟨h0, by omega⟩ (nxB P i) (by omega) (fun v hv => (hin v hv).1) (fun v hv hv2 => by rw [hrd v (hin v hv).1 hv2]; exact beq_iff_eq.1 (hfix v hv)) (nxB P i).length k 0 (by omega) (by omega) (by omega)]
    exact ih _ (i + 1) (by omega) (by omega) (by omega)
theorem FnUniformSets : laws_FnUniformSets.Pure := by
  intro l hl
  unfold maxLen at hl
  by_cases h : (l.length : Int) > 1048576
  · exact ⟨0, by unfold laws_FnUniformSets.f laws_big.f; rw [bindS, decide_eq_true h, if_pos rfl]⟩
  have key : ∀ K, l.length + 1060000 ≤ K → laws_FnUniformSets.f K l = some true := by
    intro K hK
    obtain ⟨P, hP, hok, hlen, hloc⟩ := drawQuiet_all (k := K) (xs := l) (by omega) (by omega)
    have hq : quietOk P = true := by
      unfold quietOk
      rw [hok, Bool.true_and, List.all_eq_true]
      exact fun x hx => decide_eq_true (hloc x hx)
    obtain ⟨F, f1, f2, f3, _⟩ := impl_UniformAt_ok hq
    have hl := f2.1
    unfold laws_FnUniformSets.f laws_big.f
    rw [bindS, decide_eq_false h, if_neg (by decide), hP, bindS, f1 K (by omega), bindS, if_pos (by rw [List.length_take]; omega)]
    exact sets_l0 hok f2 f3 P.length K 0 (by omega) (by omega) (by omega)
  exact ⟨_, key _ (Nat.le_refl _)⟩

end Go.Proofs.Ytdppehpcpofeoaa.Pure
