/-
 A join lies behind both ways of its branch and not between them.
 No condition.
-/
import Derived.Test.YtbgpnendblmdaaaPFnJoinsx10
namespace Go.Proofs.Ytbgpnendblmdaaa.Pure
open Go.RowKit Go.Proofs.Ytbgpnendblmdaaa.PFnJoins Go.Proofs.YtbgpnendblmdaaaW.PrintWords Go.Proofs.YtbgpnendblmdaaaW.PrintLast Go.Proofs.YtbgpnendblmdaaaW.PrintMore
set_option linter.unusedVariables false
set_option linter.unusedSimpArgs false

theorem w64 {x : Int} (h0 : -9223372036854775808 ≤ x) (h1 : x < 9223372036854775808) : wrap64 x = x := by unfold wrap64; omega
theorem drop_rd {l : List Int} {i : Int} (h0 : 0 ≤ i) (h1 : i < (l.length : Int)) : l.drop i.toNat = rd l i :: l.drop (i + 1).toNat := by
 have hi : i.toNat < l.length := by omega
 rw [show (i + 1).toNat = i.toNat + 1 by omega, List.drop_eq_getElem_cons hi]
 congr 1
 unfold rd
 rw [List.getD_eq_getElem?_getD, List.getElem?_eq_getElem hi]; rfl
theorem rd_mem {l : List Int} {i : Int} (h0 : 0 ≤ i) (h1 : i < (l.length : Int)) : rd l i ∈ l := by
 have hi : i.toNat < l.length := by omega
 unfold rd
 rw [List.getD_eq_getElem?_getD, List.getElem?_eq_getElem hi]
 exact List.getElem_mem hi
theorem take_set_succ {α : Type} {l x : List α} {i : Nat} (v : α) (hl : i < l.length) (hx : i < x.length) (h : x.take i = l.take i) (hv : l[i]'hl = v) : (x.set i v).take (i + 1) = l.take (i + 1) := by
 rw [List.take_succ_eq_append_getElem (by simpa using hx), List.take_succ_eq_append_getElem hl, List.take_set_of_le (Nat.le_refl i), h]
 simp [hv]
theorem rd_get {l : List Int} {i : Int} (h0 : 0 ≤ i) (h1 : i.toNat < l.length) : l[i.toNat]'h1 = rd l i := by
 unfold rd
 rw [List.getD_eq_getElem?_getD, List.getElem?_eq_getElem h1]; rfl
theorem need {p : Prop} (h : p) : p := h
theorem bindS {α β : Type} (x : α) (f : α → Option β) : (some x).bind f = f x := by
 have h : ∀ o : Option α, o = some x → o.bind f = f x := fun o e => by rw [e]; rfl
 exact h _ rfl
theorem within_some (x a b : Int) : impl_within.f x a b = some (decide (a ≤ x ∧ x ≤ b)) := by
 unfold impl_within.f
 by_cases h : a ≤ x
 ·rw [if_pos h]; simp [h]
 ·rw [if_neg h]; simp [h]
theorem in_some (x a b : Int) : spec_l01In.f x a b = some (decide (a ≤ x ∧ x ≤ b)) := by
 unfold spec_l01In.f
 by_cases h : a ≤ x
 ·rw [if_pos h]; simp [h]
 ·rw [if_neg h]; simp [h]
def ups : Nat → Int → List Int
 | 0, _ => []
 | n + 1, i => i :: ups n (i + 1)
theorem ups_mem : ∀ (n : Nat) (i x : Int), x ∈ ups n i → i ≤ x ∧ x < i + n
 | 0, _, _, h => by simp [ups] at h
 | n + 1, i, x, h => by
  rw [ups, List.mem_cons] at h
  rcases h with rfl | h
  ·omega
  ·have := ups_mem n (i + 1) x h; omega
theorem ups_mem_of : ∀ (n : Nat) (i x : Int), i ≤ x → x < i + n → x ∈ ups n i
 | 0, _, _, _, _ => by omega
 | n + 1, i, x, h0, h1 => by
  rw [ups, List.mem_cons]
  by_cases e : x = i
  ·exact .inl e
  ·exact .inr (ups_mem_of n (i + 1) x (by omega) (by omega))
theorem ups_len : ∀ (n : Nat) (i : Int), (ups n i).length = n
 | 0, _ => rfl
 | n + 1, i => by rw [ups, List.length_cons, ups_len]
theorem drop_getD {α : Type} {l : List α} {i : Int} (z : α) (h0 : 0 ≤ i) (h1 : i < (l.length : Int)) : l.drop i.toNat = l.getD i.toNat z :: l.drop (i + 1).toNat := by
 have hi : i.toNat < l.length := by omega
 rw [show (i + 1).toNat = i.toNat + 1 by omega, List.drop_eq_getElem_cons hi, List.getD_eq_getElem?_getD, List.getElem?_eq_getElem hi]; rfl
theorem getD_get {α : Type} {l : List α} {n : Nat} (z : α) (h : n < l.length) : l.getD n z = l[n]'h := by
 rw [List.getD_eq_getElem?_getD, List.getElem?_eq_getElem h]; rfl
theorem getD_map {α β : Type} {l : List α} {n : Nat} (g : α → β) (z : α) (z2 : β) (h : n < l.length) : (l.map g).getD n z2 = g (l.getD n z) := by
 rw [getD_get z h, getD_get z2 (by simpa using h), List.getElem_map]
def left (a : Int) (n : Nat) : Int := if a - n < 0 then -1 else a - n
def fldR (x : Int) : Bool := decide (0 ≤ x ∧ x ≤ 3)
def fldW (x : Int) : Bool := decide (0 ≤ x ∧ x ≤ 65535)
def fldT (n x : Int) : Bool := decide (0 ≤ x ∧ x ≤ n)
def fldB (n ch x : Int) : Bool := if ch = 82 then fldR x else if ch = 87 then fldW x else if ch = 84 then fldT n x else x == 0
def insB (n a b c d : Int) : Bool := if a = 0 ∨ a = 12 ∨ a = 16 then b == 0 && (c == 0 && d == 0) else if a = 1 then fldR b && (fldW c && d == 0) else if a = 2 ∨ a = 13 ∨ a = 14 ∨ a = 15 then fldR b && (fldR c && d == 0) else if a = 8 then fldR b && (c == 0 && d == 0) else if a = 10 then fldR b && (fldT n c && d == 0) else if a = 11 then b == 0 && (fldT n c && d == 0) else if 3 ≤ a ∧ a ≤ 9 then fldR b && (fldR c && fldR d) else false
theorem isField_eq (ch x n : Int) : impl_isField.f ch x n = some (fldB n ch x) := by
 unfold impl_isField.f impl_isReg.f impl_IsWord.f fldB
 simp only [within_some, Option.bind_some]
 split
 ·rfl
 ·split
  ·rfl
  ·split <;> rfl
theorem str3_ne (p q r : UInt8) : (⟨#[p, q, r]⟩ : ByteArray).toList ≠ [] := by
 unfold ByteArray.toList
 unfold ByteArray.toList.loop
 rw [if_pos (by show 0 < 3; decide)]
 unfold ByteArray.toList.loop
 rw [if_pos (by show 1 < 3; decide)]
 unfold ByteArray.toList.loop
 rw [if_pos (by show 2 < 3; decide)]
 unfold ByteArray.toList.loop
 rw [if_neg (by show ¬ 3 < 3; decide)]
 simp
theorem str0_eq : (⟨#[]⟩ : ByteArray).toList = [] := by
 unfold ByteArray.toList
 unfold ByteArray.toList.loop
 rw [if_neg (by show ¬ 0 < 0; decide)]; rfl
theorem insOk_str (p q r : UInt8) (a b c d n : Int) (h : impl_formOf.f a = some (⟨#[p, q, r]⟩ : ByteArray)) : impl_InsOk.f a b c d n = some (decide (0 ≤ n ∧ n ≤ 32) && (fldB n p.toNat b && (fldB n q.toNat c && fldB n r.toNat d))) := by
 unfold impl_InsOk.f
 rw [h]; simp only [Option.bind_some, within_some, isField_eq]
 rw [if_neg (str3_ne p q r)]
 have e0 : bt (⟨#[p, q, r]⟩ : ByteArray) 0 = p.toNat := rfl
 have e1 : bt (⟨#[p, q, r]⟩ : ByteArray) 1 = q.toNat := rfl
 have e2 : bt (⟨#[p, q, r]⟩ : ByteArray) 2 = r.toNat := rfl
 have es : ((⟨#[p, q, r]⟩ : ByteArray).size : Int) = 3 := rfl
 rw [e0, e1, e2, es]
 cases decide (0 ≤ n ∧ n ≤ 32) <;> cases fldB n p.toNat b <;> cases fldB n q.toNat c <;> cases fldB n r.toNat d <;> rfl
theorem insOk_none (a b c d n : Int) (h : ¬ (0 ≤ a ∧ a ≤ 16)) : impl_InsOk.f a b c d n = some false := by
 unfold impl_InsOk.f impl_formOf.f
 rw [within_some]; simp only [Option.bind_some]
 rw [if_neg (by simpa using h)]; simp only [Option.bind_some]
 rw [if_pos str0_eq]
theorem impl_insOk_eq (a b c d n : Int) : impl_InsOk.f a b c d n = some (decide (0 ≤ n ∧ n ≤ 32) && insB n a b c d) := by
 by_cases h : 0 ≤ a ∧ a ≤ 16
 ·rcases (by omega : a = 0 ∨ a = 1 ∨ a = 2 ∨ a = 3 ∨ a = 4 ∨ a = 5 ∨ a = 6 ∨ a = 7 ∨ a = 8 ∨ a = 9 ∨ a = 10 ∨ a = 11 ∨ a = 12 ∨ a = 13 ∨ a = 14 ∨ a = 15 ∨ a = 16) with e | e | e | e | e | e | e | e | e | e | e | e | e | e | e | e | e <;> subst e <;> (first | (rw [insOk_str 45 45 45 _ b c d n rfl]; rfl) | (rw [insOk_str 82 87 45 _ b c d n rfl]; rfl) | (rw [insOk_str 82 82 45 _ b c d n rfl]; rfl) | (rw [insOk_str 82 82 82 _ b c d n rfl]; rfl) | (rw [insOk_str 82 45 45 _ b c d n rfl]; rfl) | (rw [insOk_str 82 84 45 _ b c d n rfl]; rfl) | (rw [insOk_str 45 84 45 _ b c d n rfl]; rfl))
 ·rw [insOk_none a b c d n h]
  have : insB n a b c d = false := by
   unfold insB
   rw [if_neg (by omega), if_neg (by omega), if_neg (by omega), if_neg (by omega), if_neg (by omega), if_neg (by omega), if_neg (by omega)]
  rw [this, Bool.and_false]
theorem spec_reg_eq (x : Int) : spec_l04Reg.f x = some (fldR x) := by unfold spec_l04Reg.f; rw [in_some]; rfl
theorem spec_word_eq (x : Int) : spec_IsWord.f x = some (fldW x) := by unfold spec_IsWord.f; rw [in_some]; rfl
theorem spec_insOk_eq {k : Nat} (a b c d n : Int) (hk : 2 < k) : spec_InsOk.f k a b c d n = some (decide (0 ≤ n ∧ n ≤ 32) && insB n a b c d) := by
 obtain ⟨k, rfl⟩ : ∃ q, k = q + 1 + 1 := ⟨k - 2, by omega⟩
 have ht : spec_l01In.f c 0 n = some (fldT n c) := in_some _ _ _
 unfold spec_InsOk.f insB
 rw [in_some]; simp only [Option.bind_some]
 by_cases hn : 0 ≤ n ∧ n ≤ 32
 ·rw [if_pos (by simpa using hn), decide_eq_true hn, Bool.true_and]
  simp only [spec_InsOk.j0, spec_InsOk.j1, spec_reg_eq, spec_word_eq, ht, in_some a 3 9, Option.bind_some]
  by_cases h : 0 ≤ a ∧ a ≤ 16
  ·rcases (by omega : a = 0 ∨ a = 1 ∨ a = 2 ∨ a = 3 ∨ a = 4 ∨ a = 5 ∨ a = 6 ∨ a = 7 ∨ a = 8 ∨ a = 9 ∨ a = 10 ∨ a = 11 ∨ a = 12 ∨ a = 13 ∨ a = 14 ∨ a = 15 ∨ a = 16) with e | e | e | e | e | e | e | e | e | e | e | e | e | e | e | e | e <;> subst e <;> simp <;> by_cases hb : b = 0 <;> by_cases hc : c = 0 <;> (try simp [hb, hc]) <;> (try cases fldR b) <;> (try cases fldR 0) <;> (try cases fldR c) <;> (try cases fldW c) <;> (try cases fldW 0) <;> (try cases fldT n c) <;> (try cases fldT n 0) <;> (try simp)
  ·have q0 : a ≠ 0 := by omega
   have q1 : a ≠ 1 := by omega
   have q2 : a ≠ 2 := by omega
   have q8 : a ≠ 8 := by omega
   have q10 : a ≠ 10 := by omega
   have q11 : a ≠ 11 := by omega
   have q12 : a ≠ 12 := by omega
   have q13 : a ≠ 13 := by omega
   have q14 : a ≠ 14 := by omega
   have q15 : a ≠ 15 := by omega
   have q16 : a ≠ 16 := by omega
   have q3 : ¬ (3 ≤ a ∧ a ≤ 9) := by omega
   simp [q0, q1, q2, q8, q10, q11, q12, q13, q14, q15, q16, q3]
 ·rw [if_neg (by simpa using hn), decide_eq_false hn]; rfl
def insOk (n : Int) (x : S53) : Bool := decide (0 ≤ n ∧ n ≤ 32) && insB n x.f0 x.f1 x.f2 x.f3
def programOk (l : List S53) : Bool := decide (l.length ≤ 32) && l.all (insOk l.length)
theorem impl_programOk_eq (l : List S53) : impl_ProgramOk.f l = some (programOk l) := by
 unfold impl_ProgramOk.f programOk
 have hi : ∀ x : S53, insOkAt (l.length : Int) x = some (insOk l.length x) := fun x => impl_insOk_eq _ _ _ _ _
 have e : (fun x => insOkAt (l.length : Int) x == some true) = insOk (l.length : Int) := by
  funext x; rw [hi]; cases insOk (l.length : Int) x <;> rfl
 rw [if_pos, e]
 rw [List.all_eq_true]
 intro x _
 rw [hi]; rfl
theorem spec_programOk_l0 (l : List S53) (hl : l.length ≤ 1048576) : ∀ (d k : Nat) (i : Int), 0 ≤ i → (l.length : Int) - i = d → d + 2 < k →
  spec_ProgramOk.l0 k l i = some (if (l.drop i.toNat).all (insOk l.length) = true then decide (l.length ≤ 32) else false) := by
 intro d
 induction d with
 | zero =>
  intro k i h0 hd hk
  obtain ⟨k, rfl⟩ : ∃ q, k = q + 1 := ⟨k - 1, by omega⟩
  simp only [spec_ProgramOk.l0]
  rw [if_neg (by omega), List.drop_of_length_le (by omega)]
  by_cases h : l.length ≤ 32
  ·rw [decide_eq_true (by omega : (l.length : Int) ≤ 32), decide_eq_true h]; rfl
  ·rw [decide_eq_false (by omega : ¬ (l.length : Int) ≤ 32), decide_eq_false h]; rfl
 | succ d ih =>
  intro k i h0 hd hk
  obtain ⟨k, rfl⟩ : ∃ q, k = q + 1 := ⟨k - 1, by omega⟩
  simp only [spec_ProgramOk.l0]
  rw [if_pos (by omega), if_pos h0, w64 (by omega) (by omega), spec_insOk_eq _ _ _ _ _ (by omega), drop_getD z53 h0 (by omega), ih k (i + 1) (by omega) (by omega) (by omega)]
  simp only [Option.bind_some, List.all_cons]
  change (if (insOk (l.length : Int) (rd_T53 l i)) = true then _ else _) = _
  change _ = some (if (insOk (l.length : Int) (rd_T53 l i) && _) = true then _ else _)
  cases insOk (l.length : Int) (rd_T53 l i) <;> rfl
theorem spec_programOk_eq {k : Nat} {l : List S53} (hl : l.length ≤ 1048576) (hk : l.length + 2 < k) : spec_ProgramOk.f k l = some (programOk l) := by
 unfold spec_ProgramOk.f programOk
 rw [spec_programOk_l0 l hl l.length k 0 (by omega) (by omega) hk, Int.toNat_zero, List.drop_zero]
 cases l.all (insOk (l.length : Int)) <;> simp
theorem and255 (n : Int) : Go.bits .and .i64 n 255 = n % 256 := by
 unfold Go.bits
 have h : (BitVec.ofInt 64 n &&& BitVec.ofInt 64 255).toNat = ((n % 256).toNat) := by
  rw [BitVec.toNat_and, show (BitVec.ofInt 64 255).toNat = 2 ^ 8 - 1 by decide, Nat.and_two_pow_sub_one_eq_mod, BitVec.toNat_ofInt]
  omega
 show IntKind.i64.wrap (((BitVec.ofInt 64 n &&& BitVec.ofInt 64 255).toNat : Nat) : Int) = _
 rw [h]
 unfold IntKind.wrap
 have e : ((2 : Int) ^ IntKind.i64.bits) = 18446744073709551616 := by decide
 have e2 : ((2 : Int) ^ (IntKind.i64.bits - 1)) = 9223372036854775808 := by decide
 rw [e, e2]
 have h2 : (((n % 256).toNat : Nat) : Int) % 18446744073709551616 = n % 256 := by omega
 simp only [h2]
 rw [if_neg (by simp; omega)]
theorem byte_ok {xs : List Int} {p : Int} (s : Int) (hl : xs.length ≤ 1048576) (hp : 0 ≤ p) : ∃ v p' s', spec_l01Byte.f xs p s = some (v, p', s') ∧ 0 ≤ v ∧ v ≤ 255 ∧ 0 ≤ p' := by
 unfold spec_l01Byte.f
 by_cases h : p < (xs.length : Int)
 ·rw [if_pos h, if_pos hp, w64 (x := p + 1) (by omega) (by omega)]
  exact ⟨_, _, _, rfl, by rw [and255]; omega, by rw [and255]; omega, by omega⟩
 ·rw [if_neg h]
  exact ⟨_, _, _, rfl, by rw [and255]; omega, by rw [and255]; omega, hp⟩
theorem below_ok {xs : List Int} {p : Int} (s n : Int) (hl : xs.length ≤ 1048576) (hp : 0 ≤ p) (hn : 0 < n) : ∃ v p' s', spec_l01Below.f xs p s n = some (v, p', s') ∧ 0 ≤ v ∧ v < n ∧ 0 ≤ p' := by
 unfold spec_l01Below.f
 obtain ⟨v1, p1, s1, e1, a1, b1, c1⟩ := byte_ok s hl hp
 rw [if_neg (by omega), e1]; simp only [Option.bind_some]
 by_cases h : n ≤ 256
 ·rw [if_pos h, if_neg (by omega)]
  refine ⟨_, _, _, rfl, ?_, ?_, c1⟩
  ·rw [Int.tmod_eq_emod_of_nonneg a1]; exact Int.emod_nonneg _ (by omega)
  ·rw [Int.tmod_eq_emod_of_nonneg a1]; exact Int.emod_lt_of_pos _ hn
 ·obtain ⟨v2, p2, s2, e2, a2, b2, c2⟩ := byte_ok s1 hl c1
  obtain ⟨v3, p3, s3, e3, a3, b3, c3⟩ := byte_ok s2 hl c2
  obtain ⟨v4, p4, s4, e4, a4, b4, c4⟩ := byte_ok s3 hl c3
  rw [if_neg h, e2]; simp only [Option.bind_some]
  rw [e3]; simp only [Option.bind_some]
  rw [e4]; simp only [Option.bind_some]
  rw [if_neg (by omega), w64 (x := v1 * 16777216) (by omega) (by omega), w64 (x := v2 * 65536) (by omega) (by omega), w64 (x := v3 * 256) (by omega) (by omega), w64 (x := v1 * 16777216 + v2 * 65536) (by omega) (by omega), w64 (x := v1 * 16777216 + v2 * 65536 + v3 * 256) (by omega) (by omega), w64 (x := v1 * 16777216 + v2 * 65536 + v3 * 256 + v4) (by omega) (by omega)]
  refine ⟨_, _, _, rfl, ?_, ?_, c4⟩
  ·rw [Int.tmod_eq_emod_of_nonneg (by omega)]; exact Int.emod_nonneg _ (by omega)
  ·rw [Int.tmod_eq_emod_of_nonneg (by omega)]; exact Int.emod_lt_of_pos _ hn
theorem new_l0 (l : List Int) (hl : l.length ≤ 1048576) : ∀ (d k : Nat) (s i : Int), 0 ≤ i → (l.length : Int) - i = d → d < k → ∃ s', spec_l01New.l0 k l s i = some (l, 0, s') := by
 intro d
 induction d with
 | zero =>
  intro k s i h0 hd hk
  obtain ⟨k, rfl⟩ : ∃ q, k = q + 1 := ⟨k - 1, by omega⟩
  simp only [spec_l01New.l0]
  rw [if_neg (by omega)]
  exact ⟨_, rfl⟩
 | succ d ih =>
  intro k s i h0 hd hk
  obtain ⟨k, rfl⟩ : ∃ q, k = q + 1 := ⟨k - 1, by omega⟩
  simp only [spec_l01New.l0]
  rw [if_pos (by omega)]
  by_cases h : i < 4000
  ·rw [if_pos h, if_pos h0, w64 (x := i + 1) (by omega) (by omega)]
   exact ih k _ (i + 1) (by omega) (by omega) (by omega)
  ·rw [if_neg h]; exact ⟨_, rfl⟩
theorem new_ok {k : Nat} {l : List Int} (hl : l.length ≤ 1048576) (hk : l.length < k) : ∃ s', spec_l01New.f k l = some (l, 0, s') := by
 unfold spec_l01New.f
 exact new_l0 l hl l.length k _ 0 (by omega) (by omega) hk
def P5 (n : Int) (x : S53) : Prop := insB n x.f0 x.f1 x.f2 x.f3 = true ∧ 0 ≤ x.f0 ∧ x.f0 ≤ 12
theorem insB_mono {n m a b c d : Int} (h : n ≤ m) (hi : insB n a b c d = true) : insB m a b c d = true := by
 have ht : fldT n c = true → fldT m c = true := fun q => by unfold fldT at q ⊢; rw [decide_eq_true_eq] at q ⊢; omega
 unfold insB at hi ⊢
 split at hi
 ·rename_i q; rw [if_pos q]; exact hi
 ·rename_i q; rw [if_neg q]
  split at hi
  ·rename_i q; rw [if_pos q]; exact hi
  ·rename_i q; rw [if_neg q]
   split at hi
   ·rename_i q; rw [if_pos q]; exact hi
   ·rename_i q; rw [if_neg q]
    split at hi
    ·rename_i q; rw [if_pos q]; exact hi
    ·rename_i q; rw [if_neg q]
     split at hi
     ·rename_i q; rw [if_pos q]; rw [Bool.and_eq_true, Bool.and_eq_true] at hi ⊢; exact ⟨hi.1, ht hi.2.1, hi.2.2⟩
     ·rename_i q; rw [if_neg q]
      split at hi
      ·rename_i q; rw [if_pos q]; rw [Bool.and_eq_true, Bool.and_eq_true] at hi ⊢; exact ⟨hi.1, ht hi.2.1, hi.2.2⟩
      ·rename_i q; rw [if_neg q]; exact hi
theorem plain_ok {xs : List Int} {p : Int} (s n : Int) (hl : xs.length ≤ 1048576) (hp : 0 ≤ p) : ∃ a b c d p' s', spec_l04Plain.f xs p s = some (a, b, c, d, p', s') ∧ (insB n a b c d = true ∧ 0 ≤ a ∧ a ≤ 12) ∧ 0 ≤ p' := by
 have hR : ∀ x : Int, 0 ≤ x → x < 4 → fldR x = true := fun x h0 h1 => decide_eq_true (by omega)
 unfold spec_l04Plain.f
 obtain ⟨v1, p1, s1, e1, a1, b1, c1⟩ := below_ok s 9 hl hp (by omega)
 rw [e1]; simp only [Option.bind_some]
 obtain ⟨v2, p2, s2, e2, a2, b2, c2⟩ := below_ok s1 4 hl c1 (by omega)
 rw [e2]; simp only [Option.bind_some]
 rw [w64 (by omega) (by omega)]
 by_cases h1 : 1 + v1 = 1
 ·obtain ⟨v3, p3, s3, e3, a3, b3, c3⟩ := below_ok s2 6 hl c2 (by omega)
  rw [if_pos h1, e3]
  refine ⟨_, _, _, _, _, _, rfl, ⟨?_, by omega, by omega⟩, c3⟩
  have : fldW v3 = true := decide_eq_true (by omega)
  rw [h1]; simp [insB, hR v2 a2 b2, this]
 rw [if_neg h1]
 by_cases h8 : 1 + v1 = 8
 ·rw [if_pos h8]
  refine ⟨_, _, _, _, _, _, rfl, ⟨?_, by omega, by omega⟩, c2⟩
  rw [h8]; simp [insB, hR v2 a2 b2]
 rw [if_neg h8]
 by_cases h2 : 1 + v1 = 2
 ·obtain ⟨v3, p3, s3, e3, a3, b3, c3⟩ := below_ok s2 4 hl c2 (by omega)
  rw [if_pos h2, e3]
  refine ⟨_, _, _, _, _, _, rfl, ⟨?_, by omega, by omega⟩, c3⟩
  rw [h2]; simp [insB, hR v2 a2 b2, hR v3 a3 b3]
 rw [if_neg h2]
 obtain ⟨v3, p3, s3, e3, a3, b3, c3⟩ := below_ok s2 4 hl c2 (by omega)
 rw [e3]; simp only [Option.bind_some]
 obtain ⟨v4, p4, s4, e4, a4, b4, c4⟩ := below_ok s3 4 hl c3 (by omega)
 rw [e4]
 refine ⟨_, _, _, _, _, _, rfl, ⟨?_, by omega, by omega⟩, c4⟩
 unfold insB
 rw [if_neg (by omega), if_neg (by omega), if_neg (by omega), if_neg (by omega), if_neg (by omega), if_neg (by omega), if_pos (by omega), hR v2 a2 b2, hR v3 a3 b3, hR v4 a4 b4]; rfl
theorem P5_up {n m : Int} {x : S53} (h : n ≤ m) (hx : P5 n x) : P5 m x := ⟨insB_mono h hx.1, hx.2⟩
theorem P5_branch {n r t : Int} (hr : 0 ≤ r ∧ r < 4) (ht : 0 ≤ t ∧ t ≤ n) : P5 n (⟨10, r, t, 0⟩ : S53) := by
 have h1 : fldR r = true := decide_eq_true (by omega)
 have h2 : fldT n t = true := decide_eq_true (by omega)
 simp [P5, insB, h1, h2]
theorem P5_jump {n t : Int} (ht : 0 ≤ t ∧ t ≤ n) : P5 n (⟨11, 0, t, 0⟩ : S53) := by
 have h2 : fldT n t = true := decide_eq_true (by omega)
 simp [P5, insB, h2]
namespace Gr
inductive Reach (nx : Int → List Int) (w : Int) (S : List Int) : Int → Prop
 | base {v : Int} : v ∈ S → v ≠ w → Reach nx w S v
 | step {u v : Int} : Reach nx w S u → v ∈ nx u → v ≠ w → Reach nx w S v
def mk (out : List Bool) (x : Int) : Bool := out.getD x.toNat false
def bfs (nx : Int → List Int) (w : Int) : Nat → List Bool → List Int → Option (List Bool)
 | 0, _, _ => none
 | _ + 1, out, [] => some out
 | k + 1, out, x :: t => if x = w then bfs nx w k out t else if mk out x = true then bfs nx w k out t else bfs nx w k (out.set x.toNat true) (t ++ nx x)
theorem mk_set {out : List Bool} {x v : Int} (hx : 0 ≤ x ∧ x.toNat < out.length) (hv : 0 ≤ v) : mk (out.set x.toNat true) v = (decide (v = x) || mk out v) := by
 unfold mk
 by_cases h : v = x
 ·subst h
  rw [List.getD_eq_getElem?_getD, List.getElem?_set_self hx.2]; simp
 ·rw [List.getD_eq_getElem?_getD, List.getD_eq_getElem?_getD, List.getElem?_set_ne (by omega)]; simp [h]
theorem count_set : ∀ (out : List Bool) (i : Nat), i < out.length → out.getD i false = false → (out.set i true).count false + 1 = out.count false
 | [], i, h, _ => absurd h (Nat.not_lt_zero _)
 | b :: r, 0, _, hb => by
  have e : b = false := by simpa using hb
  subst e
  simp
 | b :: r, i + 1, h, hb => by
  have := count_set r i (by simpa using h) (by simpa using hb)
  rw [List.set_cons_succ, List.count_cons, List.count_cons]
  omega
structure Inv (nx : Int → List Int) (w : Int) (S : List Int) (n : Nat) (out : List Bool) (todo : List Int) : Prop where
 len : out.length = n + 1
 rng : ∀ x ∈ todo, 0 ≤ x ∧ x ≤ n
 sound : ∀ v : Int, 0 ≤ v → mk out v = true → Reach nx w S v
 tsound : ∀ x ∈ todo, x ≠ w → Reach nx w S x
 start : ∀ s ∈ S, s = w ∨ mk out s = true ∨ s ∈ todo
 closed : ∀ u : Int, 0 ≤ u → mk out u = true → ∀ v ∈ nx u, v = w ∨ mk out v = true ∨ v ∈ todo
theorem bfs_ok {nx : Int → List Int} {w : Int} {S : List Int} {n : Nat} (hr : ∀ u : Int, 0 ≤ u → u ≤ n → ∀ v ∈ nx u, 0 ≤ v ∧ v ≤ n) (hs : ∀ s ∈ S, 0 ≤ s ∧ s ≤ n) (h2 : ∀ u : Int, 0 ≤ u → u ≤ n → (nx u).length ≤ 2) :
  ∀ (k : Nat) (out : List Bool) (todo : List Int), Inv nx w S n out todo → todo.length + 3 * out.count false < k →
  ∃ r, bfs nx w k out todo = some r ∧ r.length = n + 1 ∧ ∀ v : Int, 0 ≤ v → v ≤ n → (mk r v = true ↔ Reach nx w S v) := by
 intro k
 induction k with
 | zero => intro out todo _ h; omega
 | succ k ih =>
  intro out todo I hk
  cases todo with
  | nil =>
   refine ⟨out, rfl, I.len, fun v h0 h1 => ⟨I.sound v h0, fun h => ?_⟩⟩
   have key : ∀ v, Reach nx w S v → 0 ≤ v ∧ v ≤ n ∧ mk out v = true := by
    intro v h
    induction h with
    | base hv hw =>
     have := hs _ hv
     rcases I.start _ hv with q | q | q
     ·exact absurd q hw
     ·exact ⟨this.1, this.2, q⟩
     ·exact absurd q (by simp)
    | step hu hv hw ih =>
     have := hr _ ih.1 ih.2.1 _ hv
     rcases I.closed _ ih.1 ih.2.2 _ hv with q | q | q
     ·exact absurd q hw
     ·exact ⟨this.1, this.2, q⟩
     ·exact absurd q (by simp)
   exact (key v h).2.2
  | cons x t =>
   have hx := I.rng x (List.mem_cons_self ..)
   have hxl : 0 ≤ x ∧ x.toNat < out.length := ⟨hx.1, by rw [I.len]; omega⟩
   simp only [bfs]
   simp only [List.length_cons] at hk
   by_cases hw : x = w
   ·rw [if_pos hw]
    refine ih out t ⟨I.len, fun y hy => I.rng y (List.mem_cons_of_mem _ hy), I.sound, fun y hy => I.tsound y (List.mem_cons_of_mem _ hy), fun s h => ?_, fun u h0 hu v hv => ?_⟩ (by omega)
    ·rcases I.start s h with q | q | q
     ·exact .inl q
     ·exact .inr (.inl q)
     ·rcases List.mem_cons.1 q with q | q
      ·exact .inl (q.trans hw)
      ·exact .inr (.inr q)
    ·rcases I.closed u h0 hu v hv with q | q | q
     ·exact .inl q
     ·exact .inr (.inl q)
     ·rcases List.mem_cons.1 q with q | q
      ·exact .inl (q.trans hw)
      ·exact .inr (.inr q)
   ·rw [if_neg hw]
    by_cases hm : mk out x = true
    ·rw [if_pos hm]
     refine ih out t ⟨I.len, fun y hy => I.rng y (List.mem_cons_of_mem _ hy), I.sound, fun y hy => I.tsound y (List.mem_cons_of_mem _ hy), fun s h => ?_, fun u h0 hu v hv => ?_⟩ (by omega)
     ·rcases I.start s h with q | q | q
      ·exact .inl q
      ·exact .inr (.inl q)
      ·rcases List.mem_cons.1 q with q | q
       ·exact .inr (.inl (q ▸ hm))
       ·exact .inr (.inr q)
     ·rcases I.closed u h0 hu v hv with q | q | q
      ·exact .inl q
      ·exact .inr (.inl q)
      ·rcases List.mem_cons.1 q with q | q
       ·exact .inr (.inl (q ▸ hm))
       ·exact .inr (.inr q)
    ·rw [if_neg hm]
     have hR := I.tsound x (List.mem_cons_self ..) hw
     have hc := count_set out x.toNat hxl.2 (by unfold mk at hm; simpa using hm)
     have hn2 := h2 x hx.1 hx.2
     refine ih _ _ ⟨by rw [List.length_set]; exact I.len, fun y hy => ?_, fun v h0 hv => ?_, fun y hy hyw => ?_, fun s h => ?_, fun u h0 hu v hv => ?_⟩ (by rw [List.length_append]; omega)
     ·rcases List.mem_append.1 hy with q | q
      ·exact I.rng y (List.mem_cons_of_mem _ q)
      ·exact hr x hx.1 hx.2 y q
     ·rw [mk_set hxl h0] at hv
      by_cases e : v = x
      ·rw [e]; exact hR
      ·exact I.sound v h0 (by simpa [e] using hv)
     ·rcases List.mem_append.1 hy with q | q
      ·exact I.tsound y (List.mem_cons_of_mem _ q) hyw
      ·exact .step hR q hyw
     ·have h0 := (hs s h).1
      rcases I.start s h with q | q | q
      ·exact .inl q
      ·exact .inr (.inl (by rw [mk_set hxl h0, q]; simp))
      ·rcases List.mem_cons.1 q with q | q
       ·exact .inr (.inl (by rw [mk_set hxl h0]; simp [q]))
       ·exact .inr (.inr (List.mem_append_left _ q))
     ·rw [mk_set hxl h0] at hu
      by_cases e : u = x
      ·subst e
       exact .inr (.inr (List.mem_append_right _ hv))
      ·have hu' : mk out u = true := by simpa [e] using hu
       have hun : 0 ≤ u ∧ u ≤ n := by
        refine ⟨h0, ?_⟩
        by_cases q : u.toNat < out.length
        ·rw [I.len] at q; omega
        ·unfold mk at hu'
         rw [List.getD_eq_getElem?_getD, List.getElem?_eq_none (by omega)] at hu'
         exact absurd hu' (by simp)
       have hv0 := (hr u hun.1 hun.2 v hv).1
       rcases I.closed u h0 hu' v hv with q | q | q
       ·exact .inl q
       ·exact .inr (.inl (by rw [mk_set hxl hv0, q]; simp))
       ·rcases List.mem_cons.1 q with q | q
        ·exact .inr (.inl (by rw [mk_set hxl hv0]; simp [q]))
        ·exact .inr (.inr (List.mem_append_left _ q))
theorem count_rep (m : Nat) : (List.replicate m false).count false = m := by simp
theorem mk_rep (m : Nat) (v : Int) : mk (List.replicate m false) v = false := by
 unfold mk
 rw [List.getD_eq_getElem?_getD, List.getElem?_replicate]
 split <;> rfl
theorem bfs_from {nx : Int → List Int} {w : Int} {S : List Int} {n : Nat} (hr : ∀ u : Int, 0 ≤ u → u ≤ n → ∀ v ∈ nx u, 0 ≤ v ∧ v ≤ n) (hs : ∀ s ∈ S, 0 ≤ s ∧ s ≤ n) (h2 : ∀ u : Int, 0 ≤ u → u ≤ n → (nx u).length ≤ 2) {k : Nat} (hk : S.length + 3 * (n + 1) < k) :
  ∃ r, bfs nx w k (List.replicate (n + 1) false) S = some r ∧ r.length = n + 1 ∧ ∀ v : Int, 0 ≤ v → v ≤ n → (mk r v = true ↔ Reach nx w S v) :=
 bfs_ok hr hs h2 k _ _ ⟨by simp, hs, fun v _ h => by rw [mk_rep] at h; exact absurd h (by simp), fun x hx hw => .base hx hw, fun s h => .inr (.inr h), fun u _ hu => by rw [mk_rep] at hu; exact absurd hu (by simp)⟩ (by rw [count_rep]; omega)
theorem bfs_keeps {nx : Int → List Int} {w : Int} : ∀ (k : Nat) (out : List Bool) (todo : List Int) (r : List Bool), bfs nx w k out todo = some r → r.length = out.length ∧ ∀ v : Int, mk out v = true → mk r v = true := by
 intro k
 induction k with
 | zero => intro out todo r h; exact absurd h (by simp [bfs])
 | succ k ih =>
  intro out todo r h
  cases todo with
  | nil => simp only [bfs, Option.some.injEq] at h; subst h; exact ⟨rfl, fun _ h => h⟩
  | cons x t =>
   simp only [bfs] at h
   by_cases hw : x = w
   ·rw [if_pos hw] at h; exact ih _ _ _ h
   ·rw [if_neg hw] at h
    by_cases hm : mk out x = true
    ·rw [if_pos hm] at h; exact ih _ _ _ h
    ·rw [if_neg hm] at h
     have := ih _ _ _ h
     refine ⟨by rw [this.1, List.length_set], fun v hv => this.2 v ?_⟩
     unfold mk at hv ⊢
     by_cases e : x.toNat = v.toNat
     ·rw [List.getD_eq_getElem?_getD] at hv ⊢
      rw [e]
      by_cases q : v.toNat < out.length
      ·rw [List.getElem?_set_self q]; rfl
      ·rw [List.getElem?_eq_none (by omega)] at hv; exact absurd hv (by simp)
     ·rw [List.getD_eq_getElem?_getD, List.getElem?_set_ne e, ← List.getD_eq_getElem?_getD]; exact hv
section
variable {nx : Int → List Int} {x : Int}
theorem reach_ne {w : Int} {S : List Int} {v : Int} (h : Reach nx w S v) : v ≠ w := by cases h <;> assumption
theorem reach_trans {w u v : Int} {S : List Int} (h : Reach nx w S u) (k : Reach nx w [u] v) : Reach nx w S v := by
 induction k with
 | base hv hw => rw [List.mem_singleton.1 hv]; exact h
 | step _ hv hw ih => exact .step ih hv hw
theorem reach_split {w : Int} {S : List Int} {v : Int} {z : Int} (h : Reach nx z S v) : Reach nx w S v ∨ Reach nx z [w] v := by
 induction h with
 | @base v hv hz =>
  by_cases e : v = w
  ·exact .inr (.base (by simp [e]) hz)
  ·exact .inl (.base hv e)
 | @step u v _ hv hz ih =>
  rcases ih with q | q
  ·by_cases e : v = w
   ·exact .inr (.base (by simp [e]) hz)
   ·exact .inl (.step q hv e)
  ·exact .inr (.step q hv hz)
end
section
variable {nx : Int → List Int} {x : Int}
theorem reach_self {w v : Int} (h : Reach nx w [w] v) : False := by
 induction h with
 | base hv hw => exact hw (List.mem_singleton.1 hv)
 | step _ _ _ ih => exact ih
theorem reach_start {w u v : Int} (h : Reach nx w [u] v) : u ≠ w := fun e => reach_self (e ▸ h)
theorem reach_pre {w b u v : Int} (hb : b ≠ w) (hu : u ∈ nx b) (h : Reach nx w [u] v) : Reach nx w [b] v := by
 induction h with
 | base hv hw => rw [List.mem_singleton.1 hv] at hw ⊢; exact .step (.base (by simp) hb) hu hw
 | step _ hv hw ih => exact .step ih hv hw
def Aft (nx : Int → List Int) (x u v : Int) : Prop := Reach nx (-1) [u] x ∧ ¬ Reach nx v [u] x
theorem aft_reach {u v : Int} (h : Aft nx x u v) : Reach nx (-1) [v] x := by
 rcases reach_split (w := v) h.1 with q | q
 ·exact absurd q h.2
 ·exact q
theorem aft_refl {u : Int} (h : Reach nx (-1) [u] x) : Aft nx x u u := ⟨h, fun q => reach_self q⟩
theorem aft_trans {u v t : Int} (h : Aft nx x u v) (k : Aft nx x v t) : Aft nx x u t :=
 ⟨h.1, fun q => (reach_split (w := v) q).elim h.2 k.2⟩
theorem aft_total {b d e : Int} (h : Aft nx x b d) (k : Aft nx x b e) : Aft nx x d e ∨ Aft nx x e d := by
 by_cases hde : d = e
 ·subst hde; exact .inl (aft_refl (aft_reach h))
 by_cases h1 : Reach nx e [d] x
 ·refine .inr ⟨aft_reach k, fun h2 => ?_⟩
  have key : ∀ v, Reach nx (-1) [b] v → (Reach nx d [b] v ∧ Reach nx e [b] v) ∨ Reach nx e [b] d ∨ Reach nx d [b] e := by
   intro v hv
   induction hv with
   | @base v hv _ =>
    by_cases e1 : v = d
    ·exact .inr (.inl (by subst e1; exact .base hv hde))
    ·by_cases e2 : v = e
     ·exact .inr (.inr (by subst e2; exact .base hv (fun q => hde q.symm)))
     ·exact .inl ⟨.base hv e1, .base hv e2⟩
   | @step u v _ hv _ ih =>
    rcases ih with q | q
    ·by_cases e1 : v = d
     ·exact .inr (.inl (by subst e1; exact .step q.2 hv hde))
     ·by_cases e2 : v = e
      ·exact .inr (.inr (by subst e2; exact .step q.1 hv (fun q => hde q.symm)))
      ·exact .inl ⟨.step q.1 hv e1, .step q.2 hv e2⟩
    ·exact .inr q
  rcases key x h.1 with q | q | q
  ·exact h.2 q.1
  ·exact k.2 (reach_trans q h1)
  ·exact h.2 (reach_trans q h2)
 ·exact .inl ⟨aft_reach h, h1⟩
theorem aft_first {b : Int} : ∀ (L : List Int), L ≠ [] → (∀ d ∈ L, Aft nx x b d) → ∃ d ∈ L, ∀ e ∈ L, Aft nx x d e
 | [], h, _ => absurd rfl h
 | [d], _, h => ⟨d, by simp, fun e he => by rw [List.mem_singleton.1 he]; exact aft_refl (aft_reach (h d (by simp)))⟩
 | a :: c :: r, _, h => by
  obtain ⟨d, hd, hd2⟩ := aft_first (c :: r) (by simp) (fun e he => h e (List.mem_cons_of_mem _ he))
  rcases aft_total (h a (by simp)) (h d (List.mem_cons_of_mem _ hd)) with q | q
  ·refine ⟨a, by simp, fun e he => ?_⟩
   rcases List.mem_cons.1 he with e1 | e1
   ·rw [e1]; exact aft_refl (aft_reach (h a (by simp)))
   ·exact aft_trans q (hd2 e e1)
  ·refine ⟨d, List.mem_cons_of_mem _ hd, fun e he => ?_⟩
   rcases List.mem_cons.1 he with e1 | e1
   ·rw [e1]; exact q
   ·exact hd2 e e1
end
end Gr
def nxB (P : List S53) (v : Int) : List Int :=
 if v = (P.length : Int) then [] else if (rd_T53 P v).f0 = 12 then [(P.length : Int)] else if (rd_T53 P v).f0 = 11 then [(rd_T53 P v).f2] else if (rd_T53 P v).f0 = 10 then (if (rd_T53 P v).f2 < v + 1 then [(rd_T53 P v).f2, v + 1] else if (rd_T53 P v).f2 = v + 1 then [(rd_T53 P v).f2] else [v + 1, (rd_T53 P v).f2]) else [v + 1]
theorem programOk_at {P : List S53} (h : programOk P = true) {v : Int} (h0 : 0 ≤ v) (h1 : v < (P.length : Int)) : insB (P.length : Int) (rd_T53 P v).f0 (rd_T53 P v).f1 (rd_T53 P v).f2 (rd_T53 P v).f3 = true := by
 unfold programOk at h
 rw [Bool.and_eq_true] at h
 have := List.all_eq_true.1 h.2 (rd_T53 P v) (by
  unfold rd_T53
  rw [List.getD_eq_getElem?_getD, List.getElem?_eq_getElem (by omega : v.toNat < P.length)]
  exact List.getElem_mem _)
 unfold insOk at this
 rw [Bool.and_eq_true] at this
 exact this.2
theorem programOk_len {P : List S53} (h : programOk P = true) : P.length ≤ 32 := by
 unfold programOk at h
 rw [Bool.and_eq_true] at h
 exact of_decide_eq_true h.1
theorem insB_target {n a b c d : Int} (h : insB n a b c d = true) (ha : a = 10 ∨ a = 11) : 0 ≤ c ∧ c ≤ n := by
 have hf : fldT n c = true := by
  unfold insB at h
  rcases ha with e | e <;> subst e <;> simp at h <;> first | exact h.2.1 | exact h.1.2 | exact h.2 | (simp_all)
 unfold fldT at hf
 exact of_decide_eq_true hf
theorem nxB_in {P : List S53} (h : programOk P = true) {v : Int} (h0 : 0 ≤ v) (h1 : v ≤ (P.length : Int)) : ∀ w ∈ nxB P v, 0 ≤ w ∧ w ≤ (P.length : Int) := by
 intro w hw
 unfold nxB at hw
 by_cases e : v = (P.length : Int)
 ·rw [if_pos e] at hw; exact absurd hw (by simp)
 rw [if_neg e] at hw
 have hi := programOk_at h h0 (by omega)
 by_cases e1 : (rd_T53 P v).f0 = 12
 ·rw [if_pos e1] at hw; rw [List.mem_singleton.1 hw]; omega
 rw [if_neg e1] at hw
 by_cases e2 : (rd_T53 P v).f0 = 11
 ·rw [if_pos e2] at hw; rw [List.mem_singleton.1 hw]; exact insB_target hi (.inr e2)
 rw [if_neg e2] at hw
 by_cases e3 : (rd_T53 P v).f0 = 10
 ·rw [if_pos e3] at hw
  have ht := insB_target hi (.inl e3)
  split at hw
  ·simp only [List.mem_cons, List.not_mem_nil, or_false] at hw; omega
  ·split at hw <;> simp only [List.mem_cons, List.not_mem_nil, or_false] at hw <;> omega
 ·rw [if_neg e3] at hw; rw [List.mem_singleton.1 hw]; omega
theorem nxB_len (P : List S53) (v : Int) : (nxB P v).length ≤ 2 := by
 unfold nxB
 repeat' split
 all_goals simp
theorem sort2 (x y : Int) : ∀ k, 10 ≤ k → slices_insertionSortOrdered_int.f k [x, y] 0 2 = some (if y < x then [y, x] else [x, y]) := by
 intro k hk
 obtain ⟨k, rfl⟩ : ∃ q, k = q + 1 + 1 + 1 + 1 + 1 := ⟨k - 5, by omega⟩
 have hl : ∀ a b : Int, cmp_Less_int.f a b = some (decide (a < b)) := by
  intro a b
  unfold cmp_Less_int.f cmp_isNaN_int.f
  simp
 unfold slices_insertionSortOrdered_int.f
 have e0 : wrap64 (0 + 1) = 1 := by unfold wrap64; omega
 have e1 : wrap64 (1 - 1) = 0 := by unfold wrap64; omega
 have e2 : wrap64 (1 + 1) = 2 := by unfold wrap64; omega
 rw [e0]
 simp only [slices_insertionSortOrdered_int.l0, slices_insertionSortOrdered_int.l1, hl, Option.bind_some, e1, e2]
 have r1 : rd [x, y] 1 = y := rfl
 have r0 : rd [x, y] 0 = x := rfl
 by_cases h : y < x
 ·simp [h, r0, r1, slices_insertionSortOrdered_int.l0, slices_insertionSortOrdered_int.l1, e1, e2]
 ·simp [h, r0, r1, slices_insertionSortOrdered_int.l0, slices_insertionSortOrdered_int.l1, e1, e2]
theorem impl_next_eq {P : List S53} (h : programOk P = true) {v : Int} (h0 : 0 ≤ v) (h1 : v ≤ (P.length : Int)) {k : Nat} (hk : 10 ≤ k) : impl_next.f k P v = some (nxB P v) := by
 have hn := programOk_len h
 unfold impl_next.f nxB
 by_cases e : v = (P.length : Int)
 ·rw [if_pos e, if_pos e]
 rw [if_neg e, if_neg e, if_pos h0, if_pos (by omega)]
 have hi := programOk_at h h0 (by omega)
 by_cases e1 : (rd_T53 P v).f0 = 12
 ·rw [if_pos e1, if_pos e1]
 rw [if_neg e1, if_neg e1]
 by_cases e2 : (rd_T53 P v).f0 = 11
 ·rw [if_pos e2, if_pos e2]
 rw [if_neg e2, if_neg e2, w64 (by omega) (by omega)]
 by_cases e3 : (rd_T53 P v).f0 = 10
 ·rw [if_pos e3, if_pos e3]
  unfold slices_Sort_int_int.f
  rw [if_pos (by simp), show ((([(rd_T53 P v).f2, v + 1] : List Int).length : Nat) : Int) = 2 from rfl, sort2 _ _ k hk]
  simp only [Option.bind_some]
  unfold slices_Compact_int_int.f
  generalize (rd_T53 P v).f2 = t
  by_cases q : v + 1 < t
  ·rw [if_pos q, if_pos (by simp), if_neg (by omega), if_neg (by omega), compL, if_neg (by omega)]; rfl
  ·rw [if_neg q, if_pos (by simp), compL]
   by_cases q2 : t = v + 1
   ·rw [if_pos q2, if_neg (by omega), if_pos q2]; subst q2; rfl
   ·rw [if_neg q2, if_pos (by omega)]; rfl
 ·rw [if_neg e3, if_neg e3]
theorem put1 (x y : Int) : ∀ k, 5 ≤ k → spec_l04Put.f k [x] y = some (if y < x then [y, x] else if y = x then [x] else [x, y]) := by
 intro k hk
 obtain ⟨k, rfl⟩ : ∃ q, k = q + 1 + 1 + 1 := ⟨k - 3, by omega⟩
 have e1 : wrap64 (1 - 1) = 0 := by unfold wrap64; omega
 have r0 : rd [x] 0 = x := rfl
 unfold spec_l04Put.f
 simp only [spec_l04Put.l0, List.length_singleton, Option.bind_some]
 rw [show (((1 : Nat) : Int)) = 1 from rfl, e1, r0]
 by_cases h : y < x
 ·simp [h, spec_l04Put.l0]
 ·by_cases h2 : x = y
  ·subst h2; simp
  ·have h3 : ¬ y = x := fun q => h2 q.symm
   have h4 : ¬ x > y := by omega
   simp [h, h2, h3, h4]
theorem spec_next_eq {P : List S53} (h : programOk P = true) {v : Int} (h0 : 0 ≤ v) (h1 : v ≤ (P.length : Int)) {k : Nat} (hk : 10 ≤ k) : spec_l07Next.f k P v = some (nxB P v) := by
 have hn := programOk_len h
 unfold spec_l07Next.f nxB
 by_cases e : v = (P.length : Int)
 ·rw [if_pos e, if_pos e]
 rw [if_neg e, if_neg e, if_pos h0, if_pos (by omega)]
 have hi := programOk_at h h0 (by omega)
 by_cases e1 : (rd_T53 P v).f0 = 12
 ·rw [if_pos e1, if_pos e1]
 rw [if_neg e1, if_neg e1]
 by_cases e2 : (rd_T53 P v).f0 = 11
 ·rw [if_pos e2, if_pos e2]
 rw [if_neg e2, if_neg e2, w64 (by omega) (by omega)]
 by_cases e3 : (rd_T53 P v).f0 = 10
 ·rw [if_pos e3, if_pos e3, put1 _ _ k (by omega)]
  simp only [Option.bind_some]
  generalize (rd_T53 P v).f2 = t
  by_cases q : t < v + 1
  ·rw [if_pos q, if_pos q]
  ·rw [if_neg q, if_neg q]
   by_cases q2 : t = v + 1
   ·rw [if_pos q2, if_pos q2, q2]
   ·rw [if_neg q2, if_neg q2]
 ·rw [if_neg e3, if_neg e3]
def reachL (P : List S53) (wo : Int) (S : List Int) : List Bool := (Gr.bfs (nxB P) wo 300 (List.replicate (P.length + 1) false) S).getD []
def reachB (P : List S53) (wo : Int) (S : List Int) (v : Int) : Bool := Gr.mk (reachL P wo S) v
theorem reachL_ok {P : List S53} (h : programOk P = true) (wo : Int) {S : List Int} (hs : ∀ s ∈ S, 0 ≤ s ∧ s ≤ (P.length : Int)) (hl : S.length ≤ 40) :
  Gr.bfs (nxB P) wo 300 (List.replicate (P.length + 1) false) S = some (reachL P wo S) ∧ (reachL P wo S).length = P.length + 1 ∧ ∀ v : Int, 0 ≤ v → v ≤ (P.length : Int) → (reachB P wo S v = true ↔ Gr.Reach (nxB P) wo S v) := by
 have hn := programOk_len h
 obtain ⟨r, h1, h2, h3⟩ := Gr.bfs_from (nx := nxB P) (w := wo) (S := S) (n := P.length) (fun u h0 h1 => nxB_in h h0 h1) hs (fun u _ _ => nxB_len P u) (k := 300) (by omega)
 have e : reachL P wo S = r := by unfold reachL; rw [h1]; rfl
 refine ⟨by rw [e]; exact h1, by rw [e]; exact h2, fun v h0 hv => ?_⟩
 unfold reachB
 rw [e]; exact h3 v h0 hv
theorem reachB_iff {P : List S53} (h : programOk P = true) (wo : Int) {S : List Int} (hs : ∀ s ∈ S, 0 ≤ s ∧ s ≤ (P.length : Int)) (hl : S.length ≤ 40) {v : Int} (h0 : 0 ≤ v) (h1 : v ≤ (P.length : Int)) : reachB P wo S v = true ↔ Gr.Reach (nxB P) wo S v := (reachL_ok h wo hs hl).2.2 v h0 h1
theorem mk_rdOf (out : List Bool) (x : Int) : rdOf false out x = Gr.mk out x := rfl
theorem count_rep' (n : Nat) : (List.replicate n false).count false = n := by simp
theorem reachI_bfs {P : List S53} (h : programOk P = true) (wo : Int) : ∀ (k : Nat) (out : List Bool) (todo : List Int) (r : List Bool), out.length = P.length + 1 → (∀ x ∈ todo, 0 ≤ x ∧ x ≤ (P.length : Int)) → todo.length + 3 * out.count false ≤ 1000 → Gr.bfs (nxB P) wo k out todo = some r → reachI P wo (k + 10) out todo = some r := by
 intro k
 induction k with
 | zero => intro out todo r _ _ _ h; exact absurd h (by simp [Gr.bfs])
 | succ k ih =>
  intro out todo r ho ht hm hb
  rw [show k + 1 + 10 = (k + 10) + 1 by omega]
  cases todo with
  | nil => exact hb
  | cons x t =>
   have hx := ht x (List.mem_cons_self ..)
   have ht' : ∀ y ∈ t, 0 ≤ y ∧ y ≤ (P.length : Int) := fun y hy => ht y (List.mem_cons_of_mem _ hy)
   rw [List.length_cons] at hm
   rw [Gr.bfs] at hb
   rw [reachI]
   by_cases e : x = wo
   ·rw [if_pos e] at hb ⊢; exact ih out t r ho ht' (by omega) hb
   rw [if_neg e] at hb ⊢
   rw [if_pos ⟨hx.1, by rw [ho]; omega⟩, mk_rdOf]
   by_cases em : Gr.mk out x = true
   ·rw [if_pos em] at hb ⊢; exact ih out t r ho ht' (by omega) hb
   rw [if_neg em] at hb ⊢
   have hl := nxB_len P x
   rw [impl_next_eq h hx.1 hx.2 (by omega)]; simp only [Option.bind_some]
   have hc := Gr.count_set out x.toNat (by omega) (by unfold Gr.mk at em; simpa using em)
   rw [if_pos (by omega)]
   refine ih _ _ r (by rw [List.length_set]; exact ho) (fun y hy => ?_) (by rw [List.length_append]; omega) hb
   rcases List.mem_append.1 hy with q | q
   ·exact ht' y q
   ·exact nxB_in h hx.1 hx.2 y q
theorem impl_reached_eq {P : List S53} (h : programOk P = true) (wo : Int) {S : List Int} (hs : ∀ s ∈ S, 0 ≤ s ∧ s ≤ (P.length : Int)) (hl : S.length ≤ 40) {k : Nat} (hk : 310 ≤ k) : impl_reached.f k P S wo = some (reachL P wo S) := by
 have hn := programOk_len h
 have hb := (reachL_ok h wo hs hl).1
 have h2 := reachI_bfs h wo 300 _ S _ (by simp) hs (by rw [count_rep']; omega) hb
 refine at_rounds (g := fun k => impl_reached.f k P S wo) (fun k => impl_reached.mono P S wo k) hk ?_
 show impl_reached.f 310 P S wo = _
 unfold impl_reached.f slices_Clone_int_int.f cloneIntF
 rw [if_pos (by omega), if_pos (by omega)]
 exact h2
theorem reachS_bfs {P : List S53} (h : programOk P = true) : ∀ (k : Nat) (out : List Bool) (todo : List Int) (r : List Bool), out.length = P.length + 1 → (∀ x ∈ todo, 0 ≤ x ∧ x ≤ (P.length : Int)) → todo.length + 3 * out.count false ≤ 1000 → Gr.bfs (nxB P) (-1) k out todo = some r → reachS P (k + 10) out todo = some r := by
 intro k
 induction k with
 | zero => intro out todo r _ _ _ h; exact absurd h (by simp [Gr.bfs])
 | succ k ih =>
  intro out todo r ho ht hm hb
  rw [show k + 1 + 10 = (k + 10) + 1 by omega]
  cases todo with
  | nil => exact hb
  | cons x t =>
   have hx := ht x (List.mem_cons_self ..)
   have ht' : ∀ y ∈ t, 0 ≤ y ∧ y ≤ (P.length : Int) := fun y hy => ht y (List.mem_cons_of_mem _ hy)
   rw [List.length_cons] at hm
   rw [Gr.bfs, if_neg (by omega)] at hb
   rw [reachS, if_pos ⟨hx.1, by rw [ho]; omega⟩, mk_rdOf]
   by_cases em : Gr.mk out x = true
   ·rw [if_pos em] at hb ⊢; exact ih out t r ho ht' (by omega) hb
   rw [if_neg em] at hb ⊢
   have hl := nxB_len P x
   rw [spec_next_eq h hx.1 hx.2 (by omega)]; simp only [Option.bind_some]
   have hc := Gr.count_set out x.toNat (by omega) (by unfold Gr.mk at em; simpa using em)
   rw [if_pos (by omega)]
   refine ih _ _ r (by rw [List.length_set]; exact ho) (fun y hy => ?_) (by rw [List.length_append]; omega) hb
   rcases List.mem_append.1 hy with q | q
   ·exact ht' y q
   ·exact nxB_in h hx.1 hx.2 y q
theorem spec_reach_eq {P : List S53} (h : programOk P = true) {S : List Int} (hs : ∀ s ∈ S, 0 ≤ s ∧ s ≤ (P.length : Int)) (hl : S.length ≤ 40) {k : Nat} (hk : 310 ≤ k) : spec_l07Reach.f k P S = some (reachL P (-1) S) := by
 have hn := programOk_len h
 have hb := (reachL_ok h (-1) hs hl).1
 have h2 := reachS_bfs h 300 _ S _ (by simp) hs (by rw [count_rep']; omega) hb
 refine at_rounds (g := fun k => spec_l07Reach.f k P S) (fun k => spec_l07Reach.mono P S k) hk ?_
 show spec_l07Reach.f 310 P S = _
 unfold spec_l07Reach.f
 rw [if_pos (by omega), if_pos (by omega)]
 exact h2
theorem mk_ne {out : List Bool} {x v : Int} (hx : 0 ≤ x) (hv : 0 ≤ v) (e : x ≠ v) : Gr.mk (out.set x.toNat true) v = Gr.mk out v := by
 unfold Gr.mk
 rw [List.getD_eq_getElem?_getD, List.getD_eq_getElem?_getD, List.getElem?_set_ne (by omega)]
theorem afterS_bfs {P : List S53} (h : programOk P = true) (wo : Int) : ∀ (k : Nat) (out : List Bool) (todo : List Int) (r : List Bool), out.length = P.length + 1 → (∀ x ∈ todo, 0 ≤ x ∧ x ≤ (P.length : Int)) → todo.length + 3 * out.count false ≤ 1000 → Gr.mk out (P.length : Int) = false → Gr.bfs (nxB P) wo k out todo = some r → afterS P wo (k + 10) out todo = some (!(Gr.mk r (P.length : Int))) := by
 intro k
 induction k with
 | zero => intro out todo r _ _ _ _ h; exact absurd h (by simp [Gr.bfs])
 | succ k ih =>
  intro out todo r ho ht hm hz hb
  rw [show k + 1 + 10 = (k + 10) + 1 by omega]
  cases todo with
  | nil =>
   rw [Gr.bfs] at hb
   obtain rfl := Option.some.inj hb
   rw [afterS, hz]; rfl
  | cons x t =>
   have hx := ht x (List.mem_cons_self ..)
   have ht' : ∀ y ∈ t, 0 ≤ y ∧ y ≤ (P.length : Int) := fun y hy => ht y (List.mem_cons_of_mem _ hy)
   rw [List.length_cons] at hm
   rw [Gr.bfs] at hb
   rw [afterS, if_pos ⟨hx.1, by rw [ho]; omega⟩, mk_rdOf]
   by_cases em : Gr.mk out x = true
   ·rw [if_pos em] at hb ⊢
    refine ih out t r ho ht' (by omega) hz ?_
    split at hb <;> exact hb
   rw [if_neg em] at hb ⊢
   by_cases e : x = wo
   ·rw [if_pos e] at hb ⊢; exact ih out t r ho ht' (by omega) hz hb
   rw [if_neg e] at hb ⊢
   by_cases en : x = (P.length : Int)
   ·rw [if_pos en]
    have := (Gr.bfs_keeps _ _ _ _ hb).2 x (by rw [Gr.mk_set ⟨hx.1, by omega⟩ hx.1]; simp)
    rw [en] at this
    rw [this]; rfl
   rw [if_neg en]
   have hl := nxB_len P x
   rw [spec_next_eq h hx.1 hx.2 (by omega)]; simp only [Option.bind_some]
   have hc := Gr.count_set out x.toNat (by omega) (by unfold Gr.mk at em; simpa using em)
   rw [if_pos (by omega)]
   refine ih _ _ r (by rw [List.length_set]; exact ho) (fun y hy => ?_) (by rw [List.length_append]; omega) (by rw [mk_ne hx.1 (by omega) en]; exact hz) hb
   rcases List.mem_append.1 hy with q | q
   ·exact ht' y q
   ·exact nxB_in h hx.1 hx.2 y q
theorem reachB_self {P : List S53} (h : programOk P = true) {a : Int} (h0 : 0 ≤ a) (h1 : a ≤ (P.length : Int)) : reachB P a [a] (P.length : Int) = false := by
 rw [Bool.eq_false_iff]
 intro q
 exact Gr.reach_self ((reachB_iff h a (fun s hs => by rw [List.mem_singleton.1 hs]; exact ⟨h0, h1⟩) (by simp) (by omega) (Int.le_refl _)).1 q)
theorem spec_after_eq {P : List S53} (h : programOk P = true) {a : Int} (h0 : 0 ≤ a) (h1 : a ≤ (P.length : Int)) (b : Int) {k : Nat} (hk : 310 ≤ k) : spec_l08After.f k P a b = some (!(reachB P b [a] (P.length : Int))) := by
 have hn := programOk_len h
 have hs : ∀ s ∈ [a], 0 ≤ s ∧ s ≤ (P.length : Int) := fun s hs => by rw [List.mem_singleton.1 hs]; exact ⟨h0, h1⟩
 unfold spec_l08After.f
 by_cases e : a = b
 ·subst e
  rw [if_pos rfl, reachB_self h h0 h1]; rfl
 rw [if_neg e, if_pos (by omega)]
 have hb := (reachL_ok h b hs (by simp)).1
 have h2 := afterS_bfs h b 300 _ [a] _ (by simp) hs (by rw [count_rep', List.length_singleton]; omega) (Gr.mk_rep _ _) hb
 exact at_rounds (g := fun k => afterS P b k (List.replicate (P.length + 1) false) [a]) (fun k => afterS_mono P b k _ _) hk h2
def aftB (P : List S53) (a b : Int) : Bool := reachB P (-1) [a] (P.length : Int) && !(reachB P b [a] (P.length : Int))
theorem in1 {P : List S53} {a : Int} (h0 : 0 ≤ a) (h1 : a ≤ (P.length : Int)) : ∀ s ∈ [a], 0 ≤ s ∧ s ≤ (P.length : Int) := fun s hs => by rw [List.mem_singleton.1 hs]; exact ⟨h0, h1⟩
theorem aftB_iff {P : List S53} (h : programOk P = true) {a : Int} (h0 : 0 ≤ a) (h1 : a ≤ (P.length : Int)) (b : Int) : aftB P a b = true ↔ Gr.Aft (nxB P) (P.length : Int) a b := by
 unfold aftB Gr.Aft
 rw [Bool.and_eq_true, Bool.not_eq_true', Bool.eq_false_iff, reachB_iff h (-1) (in1 h0 h1) (by simp) (by omega) (Int.le_refl _), Ne, reachB_iff h b (in1 h0 h1) (by simp) (by omega) (Int.le_refl _)]
def nodeB (P : List S53) (a : Int) : Bool := programOk P && decide (0 ≤ a ∧ a ≤ (P.length : Int))
theorem nodeB_ok {P : List S53} {a : Int} (h : nodeB P a = true) : programOk P = true ∧ 0 ≤ a ∧ a ≤ (P.length : Int) := by
 unfold nodeB at h
 rw [Bool.and_eq_true] at h
 have := of_decide_eq_true h.2
 exact ⟨h.1, this.1, this.2⟩
theorem impl_reachesExit_eq {P : List S53} (h : programOk P = true) {a : Int} (h0 : 0 ≤ a) (h1 : a ≤ (P.length : Int)) {k : Nat} (hk : 310 ≤ k) : impl_reachesExit.f k P a = some (reachB P (-1) [a] (P.length : Int)) := by
 have hl := (reachL_ok h (-1) (in1 h0 h1) (by simp)).2.1
 unfold impl_reachesExit.f
 rw [impl_reached_eq h (-1) (in1 h0 h1) (by simp) hk]; simp only [Option.bind_some]
 rw [if_pos (by omega), if_pos (by omega)]; rfl
theorem impl_isAfter_eq {P : List S53} (h : programOk P = true) {a : Int} (h0 : 0 ≤ a) (h1 : a ≤ (P.length : Int)) (b : Int) {k : Nat} (hk : 310 ≤ k) : impl_isAfter.f k P a b = some (aftB P a b) := by
 have hl := (reachL_ok h b (in1 h0 h1) (by simp)).2.1
 unfold impl_isAfter.f aftB
 rw [impl_reachesExit_eq h h0 h1 hk]; simp only [Option.bind_some]
 cases reachB P (-1) [a] (P.length : Int)
 ·rfl
 rw [if_pos rfl, impl_reached_eq h b (in1 h0 h1) (by simp) hk]; simp only [Option.bind_some]
 rw [if_pos (by omega), if_pos (by omega)]; rfl
theorem impl_isNode_eq (P : List S53) (a : Int) : impl_isNode.f P a = some (nodeB P a) := by
 unfold impl_isNode.f nodeB
 rw [impl_programOk_eq]; simp only [Option.bind_some, within_some]
 cases programOk P <;> rfl
theorem impl_IsAfter_eq (P : List S53) (a b : Int) {k : Nat} (hk : 310 ≤ k) : impl_IsAfter.f k P a b = some (nodeB P a && (nodeB P b && aftB P a b)) := by
 unfold impl_IsAfter.f
 rw [impl_isNode_eq, impl_isNode_eq]; simp only [Option.bind_some]
 cases ha : nodeB P a
 ·rfl
 cases hb : nodeB P b
 ·rfl
 obtain ⟨h, h0, h1⟩ := nodeB_ok ha
 rw [if_pos rfl, if_pos rfl, impl_isAfter_eq h h0 h1 b hk]; rfl
def aftersL (P : List S53) (a : Int) : List Int := (ups (P.length + 1) 0).filter fun x => nodeB P a && aftB P a x
theorem mem_ups : ∀ (d : Nat) (i x : Int), x ∈ ups d i ↔ i ≤ x ∧ x < i + d
 | 0, i, x => by simp only [ups, List.not_mem_nil, false_iff]; omega
 | d + 1, i, x => by rw [ups, List.mem_cons, mem_ups d (i + 1) x]; omega
theorem len_ups : ∀ (d : Nat) (i : Int), (ups d i).length = d
 | 0, _ => rfl
 | d + 1, i => by rw [ups, List.length_cons, len_ups d (i + 1)]
theorem mem_aftersL {P : List S53} {a x : Int} : x ∈ aftersL P a ↔ nodeB P a = true ∧ 0 ≤ x ∧ x ≤ (P.length : Int) ∧ aftB P a x = true := by
 unfold aftersL
 rw [List.mem_filter, mem_ups, Bool.and_eq_true]
 constructor
 ·rintro ⟨h1, h2, h3⟩; exact ⟨h2, h1.1, by omega, h3⟩
 ·rintro ⟨h1, h2, h3, h4⟩; exact ⟨⟨h2, by omega⟩, h1, h4⟩
theorem aftersL_len (P : List S53) (a : Int) : (aftersL P a).length ≤ P.length + 1 := by
 unfold aftersL
 exact Nat.le_trans (List.length_filter_le _ _) (by rw [len_ups]; exact Nat.le_refl _)
theorem impl_AftersOf_l0 (P : List S53) (hP : P.length ≤ 1048576) (a : Int) : ∀ (d k : Nat) (out : List Int) (i : Int), 0 ≤ i → (P.length : Int) + 1 - i = d → d + 310 < k → out.length ≤ i →
  impl_AftersOf.l0 k P a out ((P.length : Int) + 1) i = some (out ++ (ups d i).filter fun x => nodeB P a && aftB P a x) := by
 intro d
 induction d with
 | zero =>
  intro k out i h0 hd hk ho
  obtain ⟨k, rfl⟩ : ∃ q, k = q + 1 := ⟨k - 1, by omega⟩
  simp only [impl_AftersOf.l0]
  rw [if_neg (by omega), ups]; simp
 | succ d ih =>
  intro k out i h0 hd hk ho
  obtain ⟨k, rfl⟩ : ∃ q, k = q + 1 := ⟨k - 1, by omega⟩
  simp only [impl_AftersOf.l0]
  rw [if_pos (by omega), impl_IsAfter_eq P a i (by omega)]; simp only [Option.bind_some]
  rw [w64 (by omega) (by omega), ups, List.filter_cons]
  have e : (nodeB P a && (nodeB P i && aftB P a i)) = (nodeB P a && aftB P a i) := by
   cases ha : nodeB P a
   ·rfl
   have hi : nodeB P i = true := by unfold nodeB; rw [(nodeB_ok ha).1, decide_eq_true (by omega)]; rfl
   rw [hi]; rfl
  rw [e]
  by_cases q : (nodeB P a && aftB P a i) = true
  ·rw [if_pos q, if_pos q, if_pos (by omega), ih k (out ++ [i]) (i + 1) (by omega) (by omega) (by omega) (by rw [List.length_append, List.length_singleton]; omega), List.append_assoc]; rfl
  ·rw [if_neg q, if_neg q, ih k out (i + 1) (by omega) (by omega) (by omega) (by omega)]
theorem impl_AftersOf_eq {P : List S53} (hP : P.length ≤ 1048576) (a : Int) {k : Nat} (hk : P.length + 320 < k) : impl_AftersOf.f k P a = some (aftersL P a) := by
 unfold impl_AftersOf.f
 rw [w64 (by omega) (by omega), impl_AftersOf_l0 P hP a (P.length + 1) k [] 0 (by omega) (by omega) (by omega) (by simp)]; rfl
theorem spec_l07Ok_eq {P : List S53} (hP : P.length ≤ 1048576) (a : Int) {k : Nat} (hk : P.length + 2 < k) : spec_l07Ok.f k P a = some (nodeB P a) := by
 unfold spec_l07Ok.f nodeB
 rw [spec_programOk_eq hP hk]; simp only [Option.bind_some, in_some]
 cases programOk P <;> rfl
theorem spec_ReachesExit_eq {P : List S53} (hP : P.length ≤ 1048576) (a : Int) {k : Nat} (hk : P.length + 320 < k) : spec_ReachesExit.f k P a = some (nodeB P a && reachB P (-1) [a] (P.length : Int)) := by
 unfold spec_ReachesExit.f
 rw [spec_l07Ok_eq hP a (by omega)]; simp only [Option.bind_some]
 cases ha : nodeB P a
 ·rfl
 obtain ⟨h, h0, h1⟩ := nodeB_ok ha
 have hl := (reachL_ok h (-1) (in1 h0 h1) (by simp)).2.1
 rw [if_pos rfl, spec_reach_eq h (in1 h0 h1) (by simp) (by omega)]; simp only [Option.bind_some]
 rw [if_pos (by omega), if_pos (by omega)]; rfl
theorem spec_AftersOf_l0 {P : List S53} {a : Int} (h : programOk P = true) (h0 : 0 ≤ a) (h1 : a ≤ (P.length : Int)) : ∀ (d k : Nat) (out : List Int) (i : Int), 0 ≤ i → (P.length : Int) + 1 - i = d → d + 310 < k → out.length ≤ i →
  spec_AftersOf.l0 k P a out i = some (out ++ (ups d i).filter fun x => !(reachB P x [a] (P.length : Int))) := by
 have hn := programOk_len h
 intro d
 induction d with
 | zero =>
  intro k out i h0 hd hk ho
  obtain ⟨k, rfl⟩ : ∃ q, k = q + 1 := ⟨k - 1, by omega⟩
  simp only [spec_AftersOf.l0]
  rw [if_neg (by omega), ups]; simp
 | succ d ih =>
  intro k out i h0' hd hk ho
  obtain ⟨k, rfl⟩ : ∃ q, k = q + 1 := ⟨k - 1, by omega⟩
  simp only [spec_AftersOf.l0]
  rw [if_pos (by omega), spec_after_eq h h0 h1 i (by omega)]; simp only [Option.bind_some]
  rw [w64 (by omega) (by omega), ups, List.filter_cons]
  by_cases q : (!(reachB P i [a] (P.length : Int))) = true
  ·rw [if_pos q, if_pos q, if_pos (by omega), ih k (out ++ [i]) (i + 1) (by omega) (by omega) (by omega) (by rw [List.length_append, List.length_singleton]; omega), List.append_assoc]; rfl
  ·rw [if_neg q, if_neg q, ih k out (i + 1) (by omega) (by omega) (by omega) (by omega)]
theorem filter_false {α : Type} (l : List α) : (l.filter fun _ => false) = [] := by
 induction l with
 | nil => rfl
 | cons x r ih => rw [List.filter_cons, if_neg (by decide), ih]
theorem spec_AftersOf_eq {P : List S53} (hP : P.length ≤ 1048576) (a : Int) {k : Nat} (hk : P.length + 320 < k) : spec_AftersOf.f k P a = some (aftersL P a) := by
 unfold spec_AftersOf.f aftersL
 simp only [Option.bind_some, spec_ReachesExit_eq hP a hk]
 cases ha : nodeB P a
 ·simp only [Bool.false_and]
  rw [if_neg (by decide), filter_false]
 obtain ⟨h, h0, h1⟩ := nodeB_ok ha
 unfold aftB
 cases hr : reachB P (-1) [a] (P.length : Int)
 ·simp only [Bool.true_and, Bool.false_and]
  rw [if_neg (by decide), filter_false]
 ·simp only [Bool.true_and, if_true]
  rw [spec_AftersOf_l0 h h0 h1 (P.length + 1) k [] 0 (by omega) (by omega) (by omega) (by simp)]; rfl

def firstL (P : List S53) (L : List Int) : Int := (L.find? fun x => L.all (aftB P x)).getD (-1)
theorem firstF_eq {P : List S53} (h : programOk P = true) (L : List Int) {k : Nat} (hk : 310 ≤ k) : ∀ l : List Int, (∀ x ∈ l, 0 ≤ x ∧ x ≤ (P.length : Int)) → firstF k P L l = some ((l.find? fun x => L.all (aftB P x)).getD (-1))
 | [], _ => rfl
 | x :: r, hl => by
  have hx := hl x (List.mem_cons_self ..)
  have he : ∀ y, impl_isAfter.f k P x y = some (aftB P x y) := fun y => impl_isAfter_eq h hx.1 hx.2 y hk
  rw [firstF, if_pos (List.all_eq_true.2 fun y _ => by rw [he]; rfl), List.find?_cons]
  have e2 : (L.any fun y => !(aftAt k P x y)) = !(L.all (aftB P x)) := by
   have : ∀ m : List Int, (m.any fun y => !(aftAt k P x y)) = !(m.all (aftB P x)) := by
    intro m
    induction m with
    | nil => rfl
    | cons z m ih =>
     rw [List.any_cons, List.all_cons, ih, Bool.not_and]
     congr 1
     unfold aftAt
     rw [he]
     cases aftB P x z <;> rfl
   exact this L
  rw [e2]
  cases L.all (aftB P x)
  ·simp only [Bool.not_false, if_true]; exact firstF_eq h L hk r fun y hy => hl y (List.mem_cons_of_mem _ hy)
  ·simp only [Bool.not_true, if_false, Option.getD_some, Bool.false_eq_true]
theorem impl_firstOf_eq {P : List S53} (h : programOk P = true) {L : List Int} (hl : ∀ x ∈ L, 0 ≤ x ∧ x ≤ (P.length : Int)) {k : Nat} (hk : 310 ≤ k) : impl_firstOf.f k P L = some (firstL P L) := firstF_eq h L hk L hl
theorem spec_first_l1 {P : List S53} (h : programOk P = true) {L : List Int} (hL : L.length ≤ 40) (hl : ∀ x ∈ L, 0 ≤ x ∧ x ≤ (P.length : Int)) {i : Int} (hi0 : 0 ≤ i) (hi1 : i < (L.length : Int)) : ∀ (d k : Nat) (b : Bool) (j : Int), 0 ≤ j → (L.length : Int) - j = d → d + 320 < k →
  spec_l08First.l1 k P L i b j = if (b && (L.drop j.toNat).all fun y => !(reachB P y [rd L i] (P.length : Int))) = true then some (rd L i) else spec_l08First.l0 (k - d - 1) P L (i + 1) := by
 intro d
 induction d with
 | zero =>
  intro k b j h0 hd hk
  obtain ⟨k, rfl⟩ : ∃ q, k = q + 1 := ⟨k - 1, by omega⟩
  simp only [spec_l08First.l1]
  rw [if_neg (by omega), List.drop_of_length_le (by omega), List.all_nil, Bool.and_true, if_pos hi0, if_pos hi1, w64 (by omega) (by omega)]; rfl
 | succ d ih =>
  intro k b j h0 hd hk
  obtain ⟨k, rfl⟩ : ∃ q, k = q + 1 := ⟨k - 1, by omega⟩
  simp only [spec_l08First.l1]
  have hj : j < (L.length : Int) := by omega
  have hx := hl _ (rd_mem hi0 hi1)
  rw [if_pos hj, w64 (by omega) (by omega), drop_rd h0 hj, List.all_cons, show k + 1 - (d + 1) - 1 = k - d - 1 by omega]
  cases b with
  | false => rw [if_neg (by decide), ih k false (j + 1) (by omega) (by omega) (by omega), Bool.false_and, Bool.false_and]
  | true =>
   rw [if_pos rfl, if_pos hi0, if_pos hi1, if_pos h0, spec_after_eq h hx.1 hx.2 _ (by omega), bindS, ih k _ (j + 1) (by omega) (by omega) (by omega), Bool.true_and]
theorem spec_first_l0 {P : List S53} (h : programOk P = true) {L : List Int} (hL : L.length ≤ 40) (hl : ∀ x ∈ L, 0 ≤ x ∧ x ≤ (P.length : Int)) : ∀ (d k : Nat) (i : Int), 0 ≤ i → (L.length : Int) - i = d → d * 42 + 400 < k →
  spec_l08First.l0 k P L i = some (((L.drop i.toNat).find? fun x => L.all fun y => !(reachB P y [x] (P.length : Int))).getD (-1)) := by
 intro d
 induction d with
 | zero =>
  intro k i h0 hd hk
  obtain ⟨k, rfl⟩ : ∃ q, k = q + 1 := ⟨k - 1, by omega⟩
  simp only [spec_l08First.l0]
  rw [if_neg (by omega), List.drop_of_length_le (by omega)]; rfl
 | succ d ih =>
  intro k i h0 hd hk
  obtain ⟨k, rfl⟩ : ∃ q, k = q + 1 := ⟨k - 1, by omega⟩
  simp only [spec_l08First.l0]
  have hi : i < (L.length : Int) := by omega
  rw [if_pos hi, spec_first_l1 h hL hl h0 hi L.length k true 0 (by omega) (by omega) (by omega), Int.toNat_zero, List.drop_zero, Bool.true_and, drop_rd h0 hi, List.find?_cons]
  cases (L.all fun y => !(reachB P y [rd L i] (P.length : Int)))
  ·rw [if_neg (by decide), ih _ (i + 1) (by omega) (by omega) (by omega)]
  ·rw [if_pos rfl]; rfl
theorem find_congr {α : Type} {p q : α → Bool} : ∀ {l : List α}, (∀ x ∈ l, p x = q x) → l.find? p = l.find? q
 | [], _ => rfl
 | x :: r, h => by rw [List.find?_cons, List.find?_cons, h x (List.mem_cons_self ..), find_congr fun y hy => h y (List.mem_cons_of_mem _ hy)]
theorem spec_first_eq {P : List S53} (h : programOk P = true) {L : List Int} (hL : L.length ≤ 40) (hl : ∀ x ∈ L, (0 ≤ x ∧ x ≤ (P.length : Int)) ∧ reachB P (-1) [x] (P.length : Int) = true) {k : Nat} (hk : 2200 ≤ k) : spec_l08First.f k P L = some (firstL P L) := by
 unfold spec_l08First.f firstL
 rw [spec_first_l0 h hL (fun x hx => (hl x hx).1) L.length k 0 (by omega) (by omega) (by omega), Int.toNat_zero, List.drop_zero]
 congr 2
 refine find_congr fun x hx => ?_
 congr 1
 funext y
 unfold aftB
 rw [(hl x hx).2, Bool.true_and]
theorem spec_first_nil (P : List S53) {k : Nat} (hk : 1 ≤ k) : spec_l08First.f k P [] = some (-1) := by
 obtain ⟨k, rfl⟩ : ∃ q, k = q + 1 := ⟨k - 1, by omega⟩
 unfold spec_l08First.f
 simp only [spec_l08First.l0]
 rw [if_neg (by simp)]
theorem spec_others_l0 (L : List Int) (hL : L.length ≤ 1048577) (a : Int) : ∀ (d k : Nat) (out : List Int) (i : Int), 0 ≤ i → (L.length : Int) - i = d → d < k → out.length ≤ i →
  spec_l08Others.l0 k L a out i = some (out ++ (L.drop i.toNat).filter fun x => !(x == a)) := by
 intro d
 induction d with
 | zero =>
  intro k out i h0 hd hk ho
  obtain ⟨k, rfl⟩ : ∃ q, k = q + 1 := ⟨k - 1, by omega⟩
  simp only [spec_l08Others.l0]
  rw [if_neg (by omega), List.drop_of_length_le (by omega)]; simp
 | succ d ih =>
  intro k out i h0 hd hk ho
  obtain ⟨k, rfl⟩ : ∃ q, k = q + 1 := ⟨k - 1, by omega⟩
  simp only [spec_l08Others.l0]
  have hi : i < (L.length : Int) := by omega
  rw [if_pos hi, if_pos h0, w64 (by omega) (by omega), drop_rd h0 hi, List.filter_cons]
  by_cases e : rd L i = a
  ·rw [if_pos e, ih k out (i + 1) (by omega) (by omega) (by omega) (by omega), if_neg (by rw [e]; simp)]
  ·rw [if_neg e, if_pos (by omega), ih k _ (i + 1) (by omega) (by omega) (by omega) (by rw [List.length_append, List.length_singleton]; omega), if_pos (by simpa using e), List.append_assoc]; rfl
theorem spec_others_eq {L : List Int} (hL : L.length ≤ 1048577) (a : Int) {k : Nat} (hk : L.length < k) : spec_l08Others.f k L a = some (L.filter fun x => !(x == a)) := by
 unfold spec_l08Others.f
 rw [spec_others_l0 L hL a L.length k [] 0 (by omega) (by omega) hk (by simp)]; rfl
theorem aftersL_re {P : List S53} {a x : Int} (hx : x ∈ aftersL P a) : programOk P = true ∧ (0 ≤ x ∧ x ≤ (P.length : Int)) ∧ reachB P (-1) [x] (P.length : Int) = true := by
 obtain ⟨hn, h0, h1, ha⟩ := mem_aftersL.1 hx
 obtain ⟨h, h2, h3⟩ := nodeB_ok hn
 exact ⟨h, ⟨h0, h1⟩, (reachB_iff h (-1) (in1 h0 h1) (by simp) (by omega) (Int.le_refl _)).2 (Gr.aft_reach ((aftB_iff h h2 h3 x).1 ha))⟩
theorem aftersL_nil {P : List S53} {a : Int} (h : ¬ nodeB P a = true) : aftersL P a = [] := by
 unfold aftersL
 rw [List.filter_eq_nil_iff]
 intro x _ q
 rw [Bool.and_eq_true] at q
 exact h q.1
def firstAfter (P : List S53) (a : Int) : Int := firstL P ((aftersL P a).filter fun x => !(x == a))
theorem impl_FirstAfter_eq {P : List S53} (hP : P.length ≤ 1048576) (a : Int) {k : Nat} (hk : P.length + 320 < k) : impl_FirstAfter.f k P a = some (firstAfter P a) := by
 unfold impl_FirstAfter.f firstAfter
 rw [impl_AftersOf_eq hP a hk, bindS]
 by_cases hn : nodeB P a = true
 ·exact impl_firstOf_eq (nodeB_ok hn).1 (fun x hx => (aftersL_re (List.mem_filter.1 hx).1).2.1) (by omega)
 ·rw [aftersL_nil hn]; rfl
theorem spec_FirstAfter_eq {P : List S53} (hP : P.length ≤ 1048576) (a : Int) {k : Nat} (hk : P.length + 2200 < k) : spec_FirstAfter.f k P a = some (firstAfter P a) := by
 have hl := aftersL_len P a
 unfold spec_FirstAfter.f firstAfter
 rw [spec_AftersOf_eq hP a (by omega), bindS, spec_others_eq (by omega) a (by omega), bindS]
 by_cases hn : nodeB P a = true
 ·have hp := programOk_len (nodeB_ok hn).1
  rw [spec_first_eq (nodeB_ok hn).1 (Nat.le_trans (List.length_filter_le _ _) (by omega)) (fun x hx => (aftersL_re (List.mem_filter.1 hx).1).2) (by omega), bindS]
 ·rw [aftersL_nil hn, List.filter_nil, spec_first_nil P (by omega), bindS]; rfl
def meetL (P : List S53) (a b : Int) : List Int := (aftersL P a).filter fun x => (aftersL P b).contains x
theorem meetL_eq (P : List S53) (a b : Int) : (aftersL P a).filter (fun x => nodeB P b && (nodeB P x && aftB P b x)) = meetL P a b := by
 unfold meetL
 refine List.filter_congr fun x hx => ?_
 obtain ⟨h, h2, _⟩ := aftersL_re hx
 have hx1 : nodeB P x = true := by unfold nodeB; rw [h, decide_eq_true h2]; rfl
 rw [hx1, Bool.true_and, Bool.eq_iff_iff, Bool.and_eq_true, List.contains_iff_mem, mem_aftersL]
 exact ⟨fun ⟨q1, q2⟩ => ⟨q1, h2.1, h2.2, q2⟩, fun ⟨q1, _, _, q2⟩ => ⟨q1, q2⟩⟩
def isBrB (P : List S53) (x : Int) : Bool := decide ((rd_T53 P x).f0 = 10) && !(decide ((rd_T53 P x).f2 = x + 1))
def branchesL (P : List S53) : List Int := if programOk P = true then (ups P.length 0).filter (isBrB P) else []
theorem nxB_two {P : List S53} {v : Int} (h1 : v < (P.length : Int)) : ((nxB P v).length : Int) = 2 ↔ isBrB P v = true := by
 unfold nxB isBrB
 rw [if_neg (by omega), Bool.and_eq_true, Bool.not_eq_true', decide_eq_true_eq, decide_eq_false_iff_not]
 by_cases e1 : (rd_T53 P v).f0 = 12
 ·rw [if_pos e1]; simp; omega
 rw [if_neg e1]
 by_cases e2 : (rd_T53 P v).f0 = 11
 ·rw [if_pos e2]; simp; omega
 rw [if_neg e2]
 by_cases e3 : (rd_T53 P v).f0 = 10
 ·rw [if_pos e3]
  by_cases q : (rd_T53 P v).f2 < v + 1
  ·rw [if_pos q]; simp; omega
  rw [if_neg q]
  by_cases q2 : (rd_T53 P v).f2 = v + 1
  ·rw [if_pos q2]; simp; omega
  ·rw [if_neg q2]; simp; omega
 ·rw [if_neg e3]; simp; omega
theorem brL_mem {P : List S53} {b : Int} : b ∈ branchesL P ↔ programOk P = true ∧ 0 ≤ b ∧ b < (P.length : Int) ∧ isBrB P b = true := by
 unfold branchesL
 by_cases h : programOk P = true
 ·rw [if_pos h, List.mem_filter]
  constructor
  ·rintro ⟨h1, h2⟩; have := ups_mem _ _ _ h1; exact ⟨h, by omega, by omega, h2⟩
  ·rintro ⟨_, h1, h2, h3⟩; exact ⟨ups_mem_of _ _ _ h1 (by omega), h3⟩
 ·rw [if_neg h]; exact ⟨fun q => absurd q (by simp), fun q => absurd q.1 h⟩
theorem brL_nx {P : List S53} {b : Int} (h : b ∈ branchesL P) : ((rd_T53 P b).f2 ≠ b + 1 ∧ (rd_T53 P b).f0 = 10) ∧ (nxB P b = [(rd_T53 P b).f2, b + 1] ∨ nxB P b = [b + 1, (rd_T53 P b).f2]) := by
 obtain ⟨_, h0, h1, h2⟩ := brL_mem.1 h
 unfold isBrB at h2
 rw [Bool.and_eq_true, Bool.not_eq_true', decide_eq_true_eq, decide_eq_false_iff_not] at h2
 refine ⟨⟨h2.2, h2.1⟩, ?_⟩
 unfold nxB
 rw [if_neg (by omega), if_neg (by omega), if_neg (by omega), if_pos h2.1]
 by_cases q : (rd_T53 P b).f2 < b + 1
 ·rw [if_pos q]; exact .inl rfl
 ·rw [if_neg q, if_neg h2.2]; exact .inr rfl
theorem brL_len (P : List S53) : (branchesL P).length ≤ P.length ∧ (programOk P = true → (branchesL P).length ≤ 32) ∧ (¬ programOk P = true → branchesL P = []) := by
 unfold branchesL
 have hu : ∀ (d : Nat) (i : Int), (ups d i).length = d := by
  intro d
  induction d with
  | zero => intro i; rfl
  | succ d ih => intro i; rw [ups, List.length_cons, ih]
 have hl := List.length_filter_le (isBrB P) (ups P.length 0)
 rw [hu] at hl
 by_cases h : programOk P = true
 ·rw [if_pos h]; exact ⟨hl, fun _ => Nat.le_trans hl (programOk_len h), fun q => absurd h q⟩
 ·rw [if_neg h]; exact ⟨Nat.zero_le _, fun q => absurd q h, fun _ => rfl⟩
theorem impl_BranchesOf_l0 {P : List S53} (h : programOk P = true) : ∀ (d k : Nat) (out : List Int) (i : Int), 0 ≤ i → (P.length : Int) - i = d → d + 10 < k → out.length ≤ i →
  impl_BranchesOf.l0 k P out (P.length : Int) i = some (out ++ (ups d i).filter (isBrB P)) := by
 have hn := programOk_len h
 intro d
 induction d with
 | zero =>
  intro k out i h0 hd hk ho
  obtain ⟨k, rfl⟩ : ∃ q, k = q + 1 := ⟨k - 1, by omega⟩
  simp only [impl_BranchesOf.l0]
  rw [if_neg (by omega), ups]; simp
 | succ d ih =>
  intro k out i h0 hd hk ho
  obtain ⟨k, rfl⟩ : ∃ q, k = q + 1 := ⟨k - 1, by omega⟩
  simp only [impl_BranchesOf.l0]
  rw [if_pos (by omega), impl_next_eq h h0 (by omega) (by omega), bindS, w64 (by omega) (by omega), ups, List.filter_cons]
  by_cases q : isBrB P i = true
  ·rw [if_pos ((nxB_two (by omega)).2 q), if_pos q, if_pos (by omega), ih k (out ++ [i]) (i + 1) (by omega) (by omega) (by omega) (by rw [List.length_append, List.length_singleton]; omega), List.append_assoc]; rfl
  ·rw [if_neg (fun e => q ((nxB_two (by omega)).1 e)), if_neg q, ih k out (i + 1) (by omega) (by omega) (by omega) (by omega)]
theorem impl_BranchesOf_eq (P : List S53) {k : Nat} (hk : 50 ≤ k) : impl_BranchesOf.f k P = some (branchesL P) := by
 unfold impl_BranchesOf.f branchesL
 rw [impl_programOk_eq, bindS]
 by_cases h : programOk P = true
 ·have hn := programOk_len h
  rw [if_pos h, if_pos h, impl_BranchesOf_l0 h P.length k [] 0 (by omega) (by omega) (by omega) (by simp)]; rfl
 ·rw [if_neg h, if_neg h]
theorem spec_BranchesOf_l0 {P : List S53} (h : programOk P = true) : ∀ (d k : Nat) (out : List Int) (i : Int), 0 ≤ i → (P.length : Int) - i = d → 2 * d + 10 < k → out.length ≤ i →
  spec_BranchesOf.l0 k P out true i = some (out ++ (ups d i).filter (isBrB P)) := by
 have hn := programOk_len h
 intro d
 induction d with
 | zero =>
  intro k out i h0 hd hk ho
  obtain ⟨k, rfl⟩ : ∃ q, k = q + 2 := ⟨k - 2, by omega⟩
  rw [spec_BranchesOf.l0, if_neg (by omega), spec_BranchesOf.j1, if_neg (by decide), ups]; simp
 | succ d ih =>
  intro k out i h0 hd hk ho
  obtain ⟨k, rfl⟩ : ∃ q, k = q + 2 := ⟨k - 2, by omega⟩
  have hi : i < (P.length : Int) := by omega
  rw [spec_BranchesOf.l0, if_pos hi, spec_BranchesOf.j1, if_pos rfl, if_pos h0, if_pos hi, w64 (by omega) (by omega), ups, List.filter_cons]
  unfold isBrB
  by_cases e1 : (rd_T53 P i).f0 = 10
  ·rw [if_pos e1, decide_eq_true e1, Bool.true_and]
   by_cases e2 : (rd_T53 P i).f2 = i + 1
   ·rw [if_pos e2, decide_eq_true e2, if_neg (show ¬ (!true) = true by decide), ih k out (i + 1) (by omega) (by omega) (by omega) (by omega)]; rfl
   ·rw [if_neg e2, decide_eq_false e2, if_pos (show (!false) = true from rfl), if_pos (by omega), ih k (out ++ [i]) (i + 1) (by omega) (by omega) (by omega) (by rw [List.length_append, List.length_singleton]; omega), List.append_assoc]; rfl
  ·rw [if_neg e1, decide_eq_false e1, Bool.false_and, if_neg (by decide), ih k out (i + 1) (by omega) (by omega) (by omega) (by omega)]; rfl
theorem spec_BranchesOf_eq {P : List S53} (hP : P.length ≤ 1048576) {k : Nat} (hk : P.length + 100 ≤ k) : spec_BranchesOf.f k P = some (branchesL P) := by
 unfold spec_BranchesOf.f branchesL
 rw [spec_programOk_eq hP (by omega), bindS]
 by_cases h : programOk P = true
 ·have hn := programOk_len h
  rw [if_pos h, h, spec_BranchesOf_l0 h P.length k [] 0 (by omega) (by omega) (by omega) (by simp)]; rfl
 ·rw [if_neg h, Bool.eq_false_iff.2 h]
  obtain ⟨k, rfl⟩ : ∃ q, k = q + 2 := ⟨k - 2, by omega⟩
  rw [spec_BranchesOf.l0]
  split <;> rw [spec_BranchesOf.j1, if_neg (by decide)]
theorem impl_index_l0 (L : List Int) (hL : L.length ≤ 1048577) (a : Int) : ∀ (d k : Nat) (i : Int), 0 ≤ i → (L.length : Int) - i = d → d < k →
  ∃ r, slices_Index_int_int.l0 k L a (L.length : Int) i = some r ∧ (r ≥ 0 ↔ a ∈ L.drop i.toNat) := by
 intro d
 induction d with
 | zero =>
  intro k i h0 hd hk
  obtain ⟨k, rfl⟩ : ∃ q, k = q + 1 := ⟨k - 1, by omega⟩
  refine ⟨-1, ?_, ?_⟩
  ·simp only [slices_Index_int_int.l0]; rw [if_neg (by omega)]
  ·rw [List.drop_of_length_le (by omega)]; simp
 | succ d ih =>
  intro k i h0 hd hk
  obtain ⟨k, rfl⟩ : ∃ q, k = q + 1 := ⟨k - 1, by omega⟩
  have hi : i < (L.length : Int) := by omega
  simp only [slices_Index_int_int.l0]
  rw [if_pos hi, if_pos h0, if_pos hi, drop_rd h0 hi]
  by_cases e : a = rd L i
  ·rw [if_pos e]; exact ⟨i, rfl, fun _ => by rw [e]; exact List.mem_cons_self .., fun _ => h0⟩
  ·rw [if_neg e, w64 (by omega) (by omega)]
   obtain ⟨r, h1, h2⟩ := ih k (i + 1) (by omega) (by omega) (by omega)
   refine ⟨r, h1, h2.trans ⟨fun q => List.mem_cons_of_mem _ q, fun q => ?_⟩⟩
   rcases List.mem_cons.1 q with q | q
   ·exact absurd q e
   ·exact q
theorem impl_contains_eq {L : List Int} (hL : L.length ≤ 1048577) (a : Int) {k : Nat} (hk : L.length < k) : slices_Contains_int_int.f k L a = some (L.contains a) := by
 unfold slices_Contains_int_int.f slices_Index_int_int.f
 obtain ⟨r, h1, h2⟩ := impl_index_l0 L hL a L.length k 0 (by omega) (by omega) hk
 rw [h1, bindS]
 congr 1
 rw [Bool.eq_iff_iff, decide_eq_true_eq, List.contains_iff_mem, h2]; rfl
theorem impl_isBranch_eq {P : List S53} (hP : P.length ≤ 1048576) (b : Int) {k : Nat} (hk : P.length + 50 ≤ k) : impl_isBranch.f k P b = some ((branchesL P).contains b) := by
 have hl := (brL_len P).1
 unfold impl_isBranch.f
 rw [impl_BranchesOf_eq P (by omega), bindS, impl_contains_eq (by omega) b (by omega), bindS]
def joinB (P : List S53) (b : Int) : Int := if ((nxB P b).all fun x => reachB P (-1) [x] (P.length : Int)) = true then firstAfter P b else (P.length : Int)
def joinOr (P : List S53) (b : Int) : Int := if (branchesL P).contains b = true then joinB P b else -1
theorem impl_JoinOf_l0 {P : List S53} (h : programOk P = true) (b : Int) (L : List Int) (hl : ∀ x ∈ L, 0 ≤ x ∧ x ≤ (P.length : Int)) (h2 : L.length ≤ 2) : ∀ (d k : Nat) (i : Int), 0 ≤ i → (L.length : Int) - i = d → d + P.length + 330 < k →
  impl_JoinOf.l0 k P b L (L.length : Int) i = some (if ((L.drop i.toNat).all fun x => reachB P (-1) [x] (P.length : Int)) = true then firstAfter P b else (P.length : Int)) := by
 have hn := programOk_len h
 intro d
 induction d with
 | zero =>
  intro k i h0 hd hk
  obtain ⟨k, rfl⟩ : ∃ q, k = q + 1 := ⟨k - 1, by omega⟩
  simp only [impl_JoinOf.l0]
  rw [if_neg (by omega), List.drop_of_length_le (by omega), List.all_nil, if_pos rfl, impl_FirstAfter_eq (by omega) b (by omega), bindS]
 | succ d ih =>
  intro k i h0 hd hk
  obtain ⟨k, rfl⟩ : ∃ q, k = q + 1 := ⟨k - 1, by omega⟩
  have hi : i < (L.length : Int) := by omega
  have hx := hl _ (rd_mem h0 hi)
  simp only [impl_JoinOf.l0]
  rw [if_pos hi, if_pos h0, if_pos hi, impl_reachesExit_eq h hx.1 hx.2 (by omega), bindS, drop_rd h0 hi, List.all_cons]
  cases reachB P (-1) [rd L i] (P.length : Int)
  ·rw [if_neg (by decide), Bool.false_and, if_neg (by decide)]
  ·rw [if_pos rfl, w64 (by omega) (by omega), ih k (i + 1) (by omega) (by omega) (by omega), Bool.true_and]
theorem impl_JoinOf_eq {P : List S53} (hP : P.length ≤ 1048576) (b : Int) {k : Nat} (hk : P.length + 340 < k) : impl_JoinOf.f k P b = some (joinOr P b) := by
 unfold impl_JoinOf.f joinOr
 rw [impl_isBranch_eq hP b (by omega), bindS]
 by_cases hb : (branchesL P).contains b = true
 ·rw [if_pos hb, if_pos hb]
  obtain ⟨h, h0, h1, _⟩ := brL_mem.1 (List.contains_iff_mem.1 hb)
  have h2 := nxB_len P b
  rw [impl_next_eq h h0 (by omega) (by omega), bindS, impl_JoinOf_l0 h b (nxB P b) (nxB_in h h0 (by omega)) h2 (nxB P b).length k 0 (by omega) (by omega) (by omega)]; rfl
 ·rw [if_neg hb, if_neg hb]
theorem spec_Join_eq {P : List S53} (hP : P.length ≤ 1048576) {b : Int} (hb : b ∈ branchesL P) {k : Nat} (hk : P.length + 2200 < k) : spec_l09Join.f k P b = some (joinB P b) := by
 obtain ⟨h, h0, h1, _⟩ := brL_mem.1 hb
 have hn := programOk_len h
 obtain ⟨⟨hne, hop⟩, hnx⟩ := brL_nx hb
 have hin := nxB_in h h0 (by omega)
 have hs : ∀ x : Int, x ∈ nxB P b → nodeB P x = true := fun x hx => by unfold nodeB; rw [h, decide_eq_true (hin x hx)]; rfl
 have m1 : b + 1 ∈ nxB P b := by rcases hnx with e | e <;> rw [e] <;> simp
 have m2 : (rd_T53 P b).f2 ∈ nxB P b := by rcases hnx with e | e <;> rw [e] <;> simp
 have hj : joinB P b = if reachB P (-1) [b + 1] (P.length : Int) = true then (if reachB P (-1) [(rd_T53 P b).f2] (P.length : Int) = true then firstAfter P b else (P.length : Int)) else (P.length : Int) := by
  unfold joinB
  rcases hnx with e | e <;> simp only [e, List.all_cons, List.all_nil, Bool.and_true] <;> cases reachB P (-1) [b + 1] (P.length : Int) <;> cases reachB P (-1) [(rd_T53 P b).f2] (P.length : Int) <;> simp
 unfold spec_l09Join.f
 rw [hj, w64 (by omega) (by omega), spec_ReachesExit_eq hP _ (by omega), bindS, hs _ m1, Bool.true_and]
 cases reachB P (-1) [b + 1] (P.length : Int)
 ·rw [if_neg (by decide), if_neg (by decide)]
 rw [if_pos rfl, if_pos rfl, if_pos h0, if_pos h1, spec_ReachesExit_eq hP _ (by omega), bindS, hs _ m2, Bool.true_and]
 cases reachB P (-1) [(rd_T53 P b).f2] (P.length : Int)
 ·rw [if_neg (by decide), if_neg (by decide)]
 ·rw [if_pos rfl, if_pos rfl, spec_FirstAfter_eq hP b hk, bindS]
theorem impl_JoinsOf_l0 {P : List S53} (h : programOk P = true) (L : List Int) (hm : ∀ b ∈ L, b ∈ branchesL P) (hL : L.length ≤ 40) : ∀ (d k : Nat) (out : List Int) (i : Int), 0 ≤ i → (L.length : Int) - i = d → d + P.length + 350 < k → out.length ≤ i →
  impl_JoinsOf.l0 k P out L (L.length : Int) i = some (out ++ (L.drop i.toNat).map (joinB P)) := by
 have hn := programOk_len h
 intro d
 induction d with
 | zero =>
  intro k out i h0 hd hk ho
  obtain ⟨k, rfl⟩ : ∃ q, k = q + 1 := ⟨k - 1, by omega⟩
  simp only [impl_JoinsOf.l0]
  rw [if_neg (by omega), List.drop_of_length_le (by omega)]; simp
 | succ d ih =>
  intro k out i h0 hd hk ho
  obtain ⟨k, rfl⟩ : ∃ q, k = q + 1 := ⟨k - 1, by omega⟩
  have hi : i < (L.length : Int) := by omega
  have hj : joinOr P (rd L i) = joinB P (rd L i) := by unfold joinOr; rw [if_pos (List.contains_iff_mem.2 (hm _ (rd_mem h0 hi)))]
  simp only [impl_JoinsOf.l0]
  rw [if_pos hi, if_pos h0, if_pos hi, impl_JoinOf_eq (by omega) _ (by omega), bindS, if_pos (by omega), hj, w64 (by omega) (by omega), ih k _ (i + 1) (by omega) (by omega) (by omega) (by rw [List.length_append, List.length_singleton]; omega), drop_rd h0 hi, List.map_cons, List.append_assoc]; rfl
theorem impl_JoinsOf_eq (P : List S53) {k : Nat} (hk : 450 ≤ k) : impl_JoinsOf.f k P = some ((branchesL P).map (joinB P)) := by
 unfold impl_JoinsOf.f
 rw [impl_BranchesOf_eq P (by omega), bindS]
 by_cases h : programOk P = true
 ·have hn := programOk_len h
  have hl := (brL_len P).2.1 h
  rw [impl_JoinsOf_l0 h (branchesL P) (fun _ q => q) (by omega) (branchesL P).length k [] 0 (by omega) (by omega) (by omega) (by simp)]; rfl
 ·rw [(brL_len P).2.2 h]
  obtain ⟨k, rfl⟩ : ∃ q, k = q + 1 := ⟨k - 1, by omega⟩
  simp only [impl_JoinsOf.l0]
  rw [if_neg (by simp)]; rfl
theorem spec_JoinsOf_l0 {P : List S53} (h : programOk P = true) (L : List Int) (hm : ∀ b ∈ L, b ∈ branchesL P) (hL : L.length ≤ 40) : ∀ (d k : Nat) (out : List Int) (i : Int), 0 ≤ i → (L.length : Int) - i = d → d + P.length + 2300 < k → out.length ≤ i →
  spec_JoinsOf.l0 k P out L i = some (out ++ (L.drop i.toNat).map (joinB P)) := by
 have hn := programOk_len h
 intro d
 induction d with
 | zero =>
  intro k out i h0 hd hk ho
  obtain ⟨k, rfl⟩ : ∃ q, k = q + 1 := ⟨k - 1, by omega⟩
  simp only [spec_JoinsOf.l0]
  rw [if_neg (by omega), List.drop_of_length_le (by omega)]; simp
 | succ d ih =>
  intro k out i h0 hd hk ho
  obtain ⟨k, rfl⟩ : ∃ q, k = q + 1 := ⟨k - 1, by omega⟩
  have hi : i < (L.length : Int) := by omega
  simp only [spec_JoinsOf.l0]
  rw [if_pos hi, if_pos h0, spec_Join_eq (by omega) (hm _ (rd_mem h0 hi)) (by omega), bindS, if_pos (by omega), w64 (by omega) (by omega), ih k _ (i + 1) (by omega) (by omega) (by omega) (by rw [List.length_append, List.length_singleton]; omega), drop_rd h0 hi, List.map_cons, List.append_assoc]; rfl
theorem spec_JoinsOf_eq {P : List S53} (hP : P.length ≤ 1048576) {k : Nat} (hk : P.length + 2400 ≤ k) : spec_JoinsOf.f k P = some ((branchesL P).map (joinB P)) := by
 unfold spec_JoinsOf.f
 rw [spec_BranchesOf_eq hP (by omega), bindS]
 by_cases h : programOk P = true
 ·have hn := programOk_len h
  have hl := (brL_len P).2.1 h
  rw [spec_JoinsOf_l0 h (branchesL P) (fun _ q => q) (by omega) (branchesL P).length k [] 0 (by omega) (by omega) (by omega) (by simp)]; rfl
 ·rw [(brL_len P).2.2 h]
  obtain ⟨k, rfl⟩ : ∃ q, k = q + 1 := ⟨k - 1, by omega⟩
  simp only [spec_JoinsOf.l0]
  rw [if_neg (by simp)]; rfl
def trueL (O : List Bool) : List Int := (ups O.length 0).filter (Gr.mk O)
def insideL (P : List S53) (b : Int) : List Int := if (branchesL P).contains b = true then trueL (reachL P (joinB P b) (nxB P b)) else []
theorem trueL_len (O : List Bool) : (trueL O).length ≤ O.length := by
 have hu : ∀ (d : Nat) (i : Int), (ups d i).length = d := by
  intro d
  induction d with
  | zero => intro i; rfl
  | succ d ih => intro i; rw [ups, List.length_cons, ih]
 have hl := List.length_filter_le (Gr.mk O) (ups O.length 0)
 rw [hu] at hl; exact hl
theorem insideL_len (P : List S53) (b : Int) : (insideL P b).length ≤ 33 := by
 unfold insideL
 by_cases hb : (branchesL P).contains b = true
 ·rw [if_pos hb]
  obtain ⟨h, h0, h1, _⟩ := brL_mem.1 (List.contains_iff_mem.1 hb)
  have hn := programOk_len h
  have hl := (reachL_ok h (joinB P b) (nxB_in h h0 (by omega)) (by have := nxB_len P b; omega)).2.1
  exact Nat.le_trans (trueL_len _) (by omega)
 ·rw [if_neg hb]; exact Nat.zero_le _
theorem impl_trues_l0 (O : List Bool) (hO : O.length ≤ 1048577) : ∀ (d k : Nat) (out : List Int) (i : Int), 0 ≤ i → (O.length : Int) - i = d → d < k → out.length ≤ i →
  impl_trues.l0 k out O (O.length : Int) i = some (out ++ (ups d i).filter (Gr.mk O)) := by
 intro d
 induction d with
 | zero =>
  intro k out i h0 hd hk ho
  obtain ⟨k, rfl⟩ : ∃ q, k = q + 1 := ⟨k - 1, by omega⟩
  simp only [impl_trues.l0]
  rw [if_neg (by omega), ups]; simp
 | succ d ih =>
  intro k out i h0 hd hk ho
  obtain ⟨k, rfl⟩ : ∃ q, k = q + 1 := ⟨k - 1, by omega⟩
  simp only [impl_trues.l0]
  rw [if_pos (by omega), if_pos h0, if_pos (by omega), mk_rdOf, w64 (by omega) (by omega), ups, List.filter_cons]
  by_cases q : Gr.mk O i = true
  ·rw [if_pos q, if_pos q, if_pos (by omega), ih k (out ++ [i]) (i + 1) (by omega) (by omega) (by omega) (by rw [List.length_append, List.length_singleton]; omega), List.append_assoc]; rfl
  ·rw [if_neg q, if_neg q, ih k out (i + 1) (by omega) (by omega) (by omega) (by omega)]
theorem impl_trues_eq {O : List Bool} (hO : O.length ≤ 1048577) {k : Nat} (hk : O.length < k) : impl_trues.f k O = some (trueL O) := by
 unfold impl_trues.f
 rw [impl_trues_l0 O hO O.length k [] 0 (by omega) (by omega) hk (by simp)]; rfl
theorem impl_InsideOf_eq {P : List S53} (hP : P.length ≤ 1048576) (b : Int) {k : Nat} (hk : P.length + 340 < k) : impl_InsideOf.f k P b = some (insideL P b) := by
 unfold impl_InsideOf.f insideL
 rw [impl_isBranch_eq hP b (by omega), bindS]
 by_cases hb : (branchesL P).contains b = true
 ·rw [if_pos hb, if_pos hb]
  obtain ⟨h, h0, h1, _⟩ := brL_mem.1 (List.contains_iff_mem.1 hb)
  have hn := programOk_len h
  have h2 := nxB_len P b
  have hin := nxB_in h h0 (by omega)
  have hj : joinOr P b = joinB P b := by unfold joinOr; rw [if_pos hb]
  have hl := (reachL_ok h (joinB P b) hin (by omega)).2.1
  rw [impl_next_eq h h0 (by omega) (by omega), bindS, impl_JoinOf_eq hP b (by omega), bindS, hj, impl_reached_eq h (joinB P b) hin (by omega) (by omega), bindS, impl_trues_eq (by omega) (by omega), bindS]
 ·rw [if_neg hb, if_neg hb]
theorem impl_IsInside_eq {P : List S53} (hP : P.length ≤ 1048576) (b x : Int) {k : Nat} (hk : P.length + 340 < k) : impl_IsInside.f k P b x = some ((insideL P b).contains x) := by
 have hl := insideL_len P b
 unfold impl_IsInside.f
 rw [impl_InsideOf_eq hP b hk, bindS, impl_contains_eq (by omega) x (by omega), bindS]
def outJ (P : List S53) (b x : Int) : Bool := decide (x ≤ b) || decide (x ≥ joinB P b)
def forwardB (P : List S53) (b : Int) : Bool := (branchesL P).contains b && !((insideL P b).any (outJ P b))
theorem impl_IsForward_eq {P : List S53} (hP : P.length ≤ 1048576) (b : Int) {k : Nat} (hk : P.length + 340 < k) : impl_IsForward.f k P b = some (forwardB P b) := by
 unfold impl_IsForward.f forwardB
 rw [impl_isBranch_eq hP b (by omega), bindS]
 cases hb : (branchesL P).contains b
 ·rw [if_neg (by decide), Bool.false_and]
 ·have hj : joinOr P b = joinB P b := by unfold joinOr; rw [if_pos hb]
  rw [if_pos rfl, impl_InsideOf_eq hP b hk, bindS, impl_JoinOf_eq hP b hk, bindS, hj, Bool.true_and]; rfl
theorem wild_l0 {xs : List Int} (hl : xs.length ≤ 1048576) {n : Int} (hn : n ≤ 8) : ∀ (d k : Nat) (out : List S53) (i p s : Int), 0 ≤ i → n - i = d → 2 * d + 1 < k → 0 ≤ p → (out.length : Int) = i → (∀ x ∈ out, P5 n x) →
  ∃ z p' s', spec_l07Wild.l0 k out n i xs p s = some (z, p', s') ∧ (z.length : Int) = n ∧ (∀ x ∈ z, P5 n x) ∧ 0 ≤ p' := by
 intro d
 induction d with
 | zero =>
  intro k out i p s h0 hd hk hp ho hP
  obtain ⟨k, rfl⟩ : ∃ q, k = q + 1 := ⟨k - 1, by omega⟩
  simp only [spec_l07Wild.l0]
  rw [if_neg (by omega)]
  exact ⟨_, _, _, rfl, by omega, hP, hp⟩
 | succ d ih =>
  intro k out i p s h0 hd hk hp ho hP
  obtain ⟨k, rfl⟩ : ∃ q, k = q + 2 := ⟨k - 2, by omega⟩
  have next : ∀ (x : S53) (p s : Int), 0 ≤ p → P5 n x → ∃ z p' s', spec_l07Wild.l0 k (out ++ [x]) n (i + 1) xs p s = some (z, p', s') ∧ (z.length : Int) = n ∧ (∀ x ∈ z, P5 n x) ∧ 0 ≤ p' := fun x p s hp hx =>
   ih k (out ++ [x]) (i + 1) p s (by omega) (by omega) (by omega) hp (by rw [List.length_append, List.length_singleton]; omega) (fun y hy => by
    rcases List.mem_append.1 hy with q | q
    ·exact hP y q
    ·rw [List.mem_singleton.1 q]; exact hx)
  obtain ⟨v, p1, s1, e1, a1, b1, c1⟩ := below_ok s 6 hl hp (by omega)
  have J : ∀ b : Bool, ∃ z p' s', spec_l07Wild.j1 (k + 1) out n i v b xs p1 s1 = some (z, p', s') ∧ (z.length : Int) = n ∧ (∀ x ∈ z, P5 n x) ∧ 0 ≤ p' := by
   intro b
   rw [spec_l07Wild.j1, w64 (x := n + 1) (by omega) (by omega), w64 (x := i + 1) (by omega) (by omega)]
   by_cases hb : b = true
   ·rw [if_pos hb]
    obtain ⟨r, p2, s2, e2, a2, b2, c2⟩ := below_ok s1 4 hl c1 (by omega)
    obtain ⟨t, p3, s3, e3, a3, b3, c3⟩ := below_ok s2 (n + 1) hl c2 (by omega)
    rw [e2, bindS, e3, bindS, if_pos (by omega)]
    exact next _ _ _ c3 (P5_branch ⟨a2, b2⟩ ⟨a3, by omega⟩)
   rw [if_neg hb]
   by_cases h2 : v = 2
   ·rw [if_pos h2]
    obtain ⟨t, p3, s3, e3, a3, b3, c3⟩ := below_ok s1 (n + 1) hl c1 (by omega)
    rw [e3, bindS, if_pos (by omega)]
    exact next _ _ _ c3 (P5_jump ⟨a3, by omega⟩)
   rw [if_neg h2]
   by_cases h3 : v = 3
   ·rw [if_pos h3, if_pos (by omega)]
    exact next _ _ _ c1 ⟨show insB _ 12 0 0 0 = true by simp [insB], by decide, by decide⟩
   rw [if_neg h3]
   obtain ⟨a, b, c, f, p2, s2, e2, hi, c2⟩ := plain_ok s1 n hl c1
   rw [e2, bindS, if_pos (by omega)]
   exact next _ _ _ c2 hi
  rw [show k + 2 = (k + 1) + 1 from rfl, spec_l07Wild.l0, if_pos (by omega), e1, bindS]
  by_cases h0 : v = 0
  ·rw [if_pos h0]; exact J _
  ·rw [if_neg h0]; exact J _
theorem drawWild_ok {k : Nat} {xs : List Int} (hl : xs.length ≤ 1048576) (hk : xs.length + 60 < k) : ∃ z, spec_DrawWild.f k xs = some z ∧ programOk z = true := by
 unfold spec_DrawWild.f spec_l07Wild.f
 obtain ⟨s, e⟩ := new_ok (k := k) hl (by omega)
 obtain ⟨n, p1, s1, e1, a1, b1, c1⟩ := below_ok s 9 hl (by omega : (0 : Int) ≤ 0) (by omega)
 obtain ⟨z, p', s', e2, h1, h2, _⟩ := wild_l0 hl (n := n) (by omega) n.toNat k [] 0 p1 s1 (by omega) (by omega) (by omega) c1 rfl (fun x hx => by simp at hx)
 rw [e, bindS, e1, bindS, e2, bindS]
 refine ⟨z, rfl, ?_⟩
 unfold programOk
 rw [decide_eq_true (by omega), Bool.true_and, List.all_eq_true]
 intro x hx
 unfold insOk
 rw [decide_eq_true (by omega), Bool.true_and, h1]
 exact (h2 x hx).1
theorem firstL_mem {P : List S53} (h : programOk P = true) {b : Int} {L : List Int} (hne : L ≠ []) (hl : ∀ x ∈ L, 0 ≤ x ∧ x ≤ (P.length : Int)) (ha : ∀ d ∈ L, Gr.Aft (nxB P) (P.length : Int) b d) : firstL P L ∈ L := by
 obtain ⟨d, hd, hall⟩ := Gr.aft_first (nx := nxB P) (x := (P.length : Int)) (b := b) L hne ha
 unfold firstL
 have hx := hl d hd
 cases hf : L.find? fun x => L.all (aftB P x) with
 | none =>
  have := List.find?_eq_none.1 hf d hd
  exact absurd (List.all_eq_true.2 fun e he => (aftB_iff h hx.1 hx.2 e).2 (hall e he)) this
 | some m => exact List.mem_of_find?_eq_some hf
theorem firstL_nil (P : List S53) : firstL P [] = -1 := rfl
theorem exit_aft {P : List S53} {a : Int} (hr : Gr.Reach (nxB P) (-1) [a] (P.length : Int)) : Gr.Aft (nxB P) (P.length : Int) a (P.length : Int) := ⟨hr, fun q => Gr.reach_ne q rfl⟩
theorem aftersL_aft {P : List S53} {a x : Int} (hx : x ∈ aftersL P a) : Gr.Aft (nxB P) (P.length : Int) a x := by
 obtain ⟨hn, _, _, ha⟩ := mem_aftersL.1 hx
 obtain ⟨h, h0, h1⟩ := nodeB_ok hn
 exact (aftB_iff h h0 h1 x).1 ha
theorem exit_in {P : List S53} {a : Int} (hn : nodeB P a = true) (hr : reachB P (-1) [a] (P.length : Int) = true) : (P.length : Int) ∈ aftersL P a := by
 obtain ⟨h, h0, h1⟩ := nodeB_ok hn
 exact mem_aftersL.2 ⟨hn, by omega, Int.le_refl _, (aftB_iff h h0 h1 _).2 (exit_aft ((reachB_iff h (-1) (in1 h0 h1) (by simp) (by omega) (Int.le_refl _)).1 hr))⟩
theorem isAfter_in {P : List S53} {a x : Int} (hx : x ∈ aftersL P a) : (nodeB P a && (nodeB P x && aftB P a x)) = true := by
 obtain ⟨hn, _, _, ha⟩ := mem_aftersL.1 hx
 obtain ⟨h, h2, _⟩ := aftersL_re hx
 have hx1 : nodeB P x = true := by unfold nodeB; rw [h, decide_eq_true h2]; rfl
 rw [hn, hx1, ha]; rfl
theorem aftersL_no {P : List S53} {a : Int} (hr : ¬ reachB P (-1) [a] (P.length : Int) = true) : aftersL P a = [] := by
 rcases h : aftersL P a with _ | ⟨x, r⟩
 ·rfl
 ·have hx : x ∈ aftersL P a := by rw [h]; exact List.mem_cons_self ..
  have := (mem_aftersL.1 hx).2.2.2
  unfold aftB at this
  rw [Bool.and_eq_true] at this
  exact absurd this.1 hr
theorem meetL_mem {P : List S53} {a b x : Int} : x ∈ meetL P a b ↔ x ∈ aftersL P a ∧ x ∈ aftersL P b := by
 unfold meetL
 rw [List.mem_filter, List.contains_iff_mem]
theorem meetL_comm (P : List S53) (a b : Int) : meetL P a b = meetL P b a := by
 have key : ∀ a b : Int, meetL P a b = (ups (P.length + 1) 0).filter fun x => (nodeB P a && aftB P a x) && (nodeB P b && aftB P b x) := by
  intro a b
  show ((ups (P.length + 1) 0).filter fun x => nodeB P a && aftB P a x).filter (fun x => (aftersL P b).contains x) = _
  rw [List.filter_filter]
  refine List.filter_congr fun x hx => ?_
  have hm := (mem_ups _ _ _).1 hx
  have : (aftersL P b).contains x = (nodeB P b && aftB P b x) := by
   rw [Bool.eq_iff_iff, List.contains_iff_mem, mem_aftersL, Bool.and_eq_true]
   exact ⟨fun ⟨q1, _, _, q2⟩ => ⟨q1, q2⟩, fun ⟨q1, q2⟩ => ⟨q1, hm.1, by omega, q2⟩⟩
  rw [this, Bool.and_comm]
 rw [key, key]
 exact List.filter_congr fun x _ => Bool.and_comm _ _
theorem meetL_first {P : List S53} {a b : Int} (ha : nodeB P a = true) (hb : nodeB P b = true) (ra : reachB P (-1) [a] (P.length : Int) = true) (rb : reachB P (-1) [b] (P.length : Int) = true) : firstL P (meetL P a b) ∈ meetL P a b := by
 have hn : (P.length : Int) ∈ meetL P a b := meetL_mem.2 ⟨exit_in ha ra, exit_in hb rb⟩
 refine firstL_mem (nodeB_ok ha).1 (b := a) (List.ne_nil_of_mem hn) (fun x hx => (aftersL_re (meetL_mem.1 hx).1).2.1) (fun d hd => aftersL_aft (meetL_mem.1 hd).1)
theorem meetL_no {P : List S53} {a b : Int} (h : ¬ (reachB P (-1) [a] (P.length : Int) = true ∧ reachB P (-1) [b] (P.length : Int) = true)) : firstL P (meetL P a b) = -1 := by
 have : meetL P a b = [] := by
  by_cases ha : reachB P (-1) [a] (P.length : Int) = true
  ·rw [meetL_comm]; unfold meetL; rw [aftersL_no fun hb => h ⟨ha, hb⟩]; rfl
  ·unfold meetL; rw [aftersL_no ha]; rfl
 rw [this]; rfl
theorem branch_reach {P : List S53} {b x : Int} (hb : b ∈ branchesL P) (hx : x ∈ nxB P b) (hr : reachB P (-1) [x] (P.length : Int) = true) : reachB P (-1) [b] (P.length : Int) = true := by
 obtain ⟨h, h0, h1, _⟩ := brL_mem.1 hb
 have hi := nxB_in h h0 (by omega) x hx
 exact (reachB_iff h (-1) (in1 h0 (by omega)) (by simp) (by omega) (Int.le_refl _)).2 (Gr.reach_pre (by omega) hx ((reachB_iff h (-1) (in1 hi.1 hi.2) (by simp) (by omega) (Int.le_refl _)).1 hr))
theorem firstAfter_in {P : List S53} {b : Int} (hb : b ∈ branchesL P) (hr : reachB P (-1) [b] (P.length : Int) = true) : firstAfter P b ∈ aftersL P b ∧ firstAfter P b ≠ b := by
 obtain ⟨h, h0, h1, _⟩ := brL_mem.1 hb
 have hn : nodeB P b = true := by unfold nodeB; rw [h, decide_eq_true (by omega)]; rfl
 have hm : (P.length : Int) ∈ (aftersL P b).filter fun x => !(x == b) := List.mem_filter.2 ⟨exit_in hn hr, by simp; omega⟩
 have := firstL_mem h (b := b) (List.ne_nil_of_mem hm) (fun x hx => (aftersL_re (List.mem_filter.1 hx).1).2.1) (fun d hd => aftersL_aft (List.mem_filter.1 hd).1)
 have := List.mem_filter.1 this
 refine ⟨this.1, ?_⟩
 unfold firstAfter
 simpa using this.2
theorem impl_NextOf_eq {P : List S53} {a : Int} (hn : nodeB P a = true) {k : Nat} (hk : 10 ≤ k) : impl_NextOf.f k P a = some (nxB P a) := by
 obtain ⟨h, h0, h1⟩ := nodeB_ok hn
 unfold impl_NextOf.f
 rw [impl_isNode_eq, bindS, if_pos hn, impl_next_eq h h0 h1 hk, bindS]
theorem impl_ReachesExit_eq {P : List S53} {a : Int} (hn : nodeB P a = true) {k : Nat} (hk : 310 ≤ k) : impl_ReachesExit.f k P a = some (reachB P (-1) [a] (P.length : Int)) := by
 obtain ⟨h, h0, h1⟩ := nodeB_ok hn
 unfold impl_ReachesExit.f
 rw [impl_isNode_eq, bindS, if_pos hn, impl_reachesExit_eq h h0 h1 hk, bindS]

theorem laws_has_l0 (L : List Int) (a : Int) (hL : L.length ≤ 1048576) : ∀ (d k : Nat) (i : Int), 0 ≤ i → (L.length : Int) - i = d → d < k → laws_has.l0 k L a i = some ((L.drop i.toNat).contains a) := by
 intro d
 induction d with
 | zero =>
  intro k i h0 hd hk
  obtain ⟨k, rfl⟩ : ∃ q, k = q + 1 := ⟨k - 1, by omega⟩
  simp only [laws_has.l0]
  rw [if_neg (by omega), List.drop_of_length_le (by omega)]; rfl
 | succ d ih =>
  intro k i h0 hd hk
  obtain ⟨k, rfl⟩ : ∃ q, k = q + 1 := ⟨k - 1, by omega⟩
  have hi : i < (L.length : Int) := by omega
  simp only [laws_has.l0]
  rw [if_pos hi, if_pos h0, drop_rd h0 hi, w64 (by omega) (by omega), ih k (i + 1) (by omega) (by omega) (by omega), List.contains_cons]
  by_cases e : rd L i = a
  ·rw [if_pos e, e, beq_self_eq_true, Bool.true_or]
  ·rw [if_neg e, show (a == rd L i) = false from beq_eq_false_iff_ne.2 (fun q => e q.symm), Bool.false_or]
theorem laws_has_eq {L : List Int} (hL : L.length ≤ 1048576) (a : Int) {k : Nat} (hk : L.length < k) : laws_has.f k L a = some (L.contains a) := by
 unfold laws_has.f
 rw [laws_has_l0 L a hL L.length k 0 (by omega) (by omega) hk, Int.toNat_zero, List.drop_zero]

theorem same_l0 (a : List Int) (ha : a.length ≤ 1048576) : ∀ (d k : Nat) (i : Int), 0 ≤ i → (a.length : Int) - i = d → d < k → laws_sameInts.l0 k a a i = some true := by
 intro d
 induction d with
 | zero =>
  intro k i h0 hd hk
  obtain ⟨k, rfl⟩ : ∃ q, k = q + 1 := ⟨k - 1, by omega⟩
  simp only [laws_sameInts.l0]
  rw [if_neg (by omega)]
 | succ d ih =>
  intro k i h0 hd hk
  obtain ⟨k, rfl⟩ : ∃ q, k = q + 1 := ⟨k - 1, by omega⟩
  simp only [laws_sameInts.l0, if_true]
  rw [if_pos (by omega), if_pos h0, if_pos (by omega), w64 (by omega) (by omega)]
  exact ih k (i + 1) (by omega) (by omega) (by omega)
theorem joinB_rng {P : List S53} {b : Int} (hb : b ∈ branchesL P) : 0 ≤ joinB P b ∧ joinB P b ≤ (P.length : Int) := by
 unfold joinB
 split
 ·rename_i q
  obtain ⟨x, hx⟩ : ∃ x, x ∈ nxB P b := by rcases (brL_nx hb).2 with e | e <;> rw [e] <;> exact ⟨_, List.mem_cons_self ..⟩
  exact (aftersL_re (firstAfter_in hb (branch_reach hb hx (List.all_eq_true.1 q x hx))).1).2.1
 ·omega
theorem inside_mem {P : List S53} {b : Int} (hb : b ∈ branchesL P) {v : Int} : v ∈ insideL P b ↔ (0 ≤ v ∧ v ≤ (P.length : Int)) ∧ Gr.Reach (nxB P) (joinB P b) (nxB P b) v := by
 obtain ⟨h, h0, h1, _⟩ := brL_mem.1 hb
 have hin := nxB_in h h0 (by omega)
 have hn2 := nxB_len P b
 have hl := (reachL_ok h (joinB P b) hin (by omega)).2.1
 unfold insideL trueL
 rw [if_pos (List.contains_iff_mem.2 hb), List.mem_filter]
 constructor
 ·rintro ⟨q1, q2⟩
  have := ups_mem _ _ _ q1
  have hv : 0 ≤ v ∧ v ≤ (P.length : Int) := by omega
  exact ⟨hv, (reachB_iff h (joinB P b) hin (by omega) hv.1 hv.2).1 q2⟩
 ·rintro ⟨hv, q⟩
  exact ⟨ups_mem_of _ _ _ hv.1 (by omega), (reachB_iff h (joinB P b) hin (by omega) hv.1 hv.2).2 q⟩
theorem join_out {P : List S53} {b : Int} (hb : b ∈ branchesL P) : (insideL P b).contains (joinB P b) = false := by
 rw [Bool.eq_false_iff]
 intro q
 exact Gr.reach_ne ((inside_mem hb).1 (List.contains_iff_mem.1 q)).2 rfl
theorem next_in {P : List S53} {b x : Int} (hb : b ∈ branchesL P) (hx : x ∈ nxB P b) (hne : x ≠ joinB P b) : (insideL P b).contains x = true := by
 obtain ⟨h, h0, h1, _⟩ := brL_mem.1 hb
 exact List.contains_iff_mem.2 ((inside_mem hb).2 ⟨nxB_in h h0 (by omega) x hx, .base hx hne⟩)
theorem next_after {P : List S53} {b x : Int} (hb : b ∈ branchesL P) (hx : x ∈ nxB P b) (hr : reachB P (-1) [x] (P.length : Int) = true) : (nodeB P x && (nodeB P (joinB P b) && aftB P x (joinB P b))) = true := by
 obtain ⟨h, h0, h1, _⟩ := brL_mem.1 hb
 have hi := nxB_in h h0 (by omega) x hx
 have hn : nodeB P x = true := by unfold nodeB; rw [h, decide_eq_true hi]; rfl
 have hg := (reachB_iff h (-1) (in1 hi.1 hi.2) (by simp) (by omega) (Int.le_refl _)).1 hr
 unfold joinB
 split
 ·rename_i q
  have hf := firstAfter_in hb (branch_reach hb hx hr)
  have ha := aftersL_aft hf.1
  have hf2 := (aftersL_re hf.1).2.1
  have hn2 : nodeB P (firstAfter P b) = true := by unfold nodeB; rw [h, decide_eq_true hf2]; rfl
  rw [hn, hn2, (aftB_iff h hi.1 hi.2 _).2 ⟨hg, fun w => ha.2 (Gr.reach_pre (fun e => hf.2 e.symm) hx w)⟩]; rfl
 ·exact isAfter_in (exit_in hn hr)
theorem joins_l2 {P : List S53} (h : programOk P = true) (B J : List Int) {i : Int} (hi : 0 ≤ i ∧ i < (B.length : Int)) (hiJ : i < (J.length : Int)) (hb : rd B i ∈ branchesL P) (hj : rd J i = joinB P (rd B i)) (L : List Int) (hL : L = insideL P (rd B i)) : ∀ (d k : Nat) (j : Int), 0 ≤ j → (L.length : Int) - j = d → d + P.length + 400 < k →
  laws_FnJoins.l2 k P B J i L j = laws_FnJoins.l0 (k - d - 1) P B J (wrap64 (i + 1)) := by
 have hn := programOk_len h
 have hl := insideL_len P (rd B i)
 rw [← hL] at hl
 intro d
 induction d with
 | zero =>
  intro k j h0 hd hk
  obtain ⟨k, rfl⟩ : ∃ q, k = q + 1 := ⟨k - 1, by omega⟩
  rw [laws_FnJoins.l2, if_neg (by omega), show k + 1 - 0 - 1 = k by omega]
 | succ d ih =>
  intro k j h0 hd hk
  obtain ⟨k, rfl⟩ : ∃ q, k = q + 1 := ⟨k - 1, by omega⟩
  have hj2 : j < (L.length : Int) := by omega
  rw [laws_FnJoins.l2, if_pos hj2, if_pos hi.1, if_pos hi.2, impl_IsForward_eq (by omega) _ (by omega), bindS, w64 (x := j + 1) (by omega) (by omega), ih k (j + 1) (by omega) (by omega) (by omega), show k + 1 - (d + 1) - 1 = k - d - 1 by omega]
  by_cases hf : forwardB P (rd B i) = true
  ·rw [if_pos hf, if_pos h0]
   unfold forwardB at hf
   rw [Bool.and_eq_true, Bool.not_eq_true', List.any_eq_false] at hf
   have := hf.2 (rd L j) (by rw [← hL]; exact rd_mem h0 hj2)
   unfold outJ at this
   rw [Bool.or_eq_true, decide_eq_true_eq, decide_eq_true_eq] at this
   rw [if_neg (fun q => this (.inl q)), if_pos hiJ, hj, if_neg (fun q => this (.inr q))]
  ·rw [if_neg hf]
theorem joins_l1 {P : List S53} (h : programOk P = true) (B J : List Int) {i : Int} (hi : 0 ≤ i ∧ i < (B.length : Int)) (hiJ : i < (J.length : Int)) (hb : rd B i ∈ branchesL P) (hj : rd J i = joinB P (rd B i)) (L N : List Int) (hN : ∀ v ∈ N, v ∈ nxB P (rd B i)) (hN2 : N.length ≤ 2) : ∀ (d k : Nat) (j : Int), 0 ≤ j → (N.length : Int) - j = d → d + P.length + 400 < k →
  laws_FnJoins.l1 k P B J i N L j = laws_FnJoins.l2 (k - d - 1) P B J i L 0 := by
 have hn := programOk_len h
 obtain ⟨_, b0, b1, _⟩ := brL_mem.1 hb
 intro d
 induction d with
 | zero =>
  intro k j h0 hd hk
  obtain ⟨k, rfl⟩ : ∃ q, k = q + 1 := ⟨k - 1, by omega⟩
  rw [laws_FnJoins.l1, if_neg (by omega), show k + 1 - 0 - 1 = k by omega]
 | succ d ih =>
  intro k j h0 hd hk
  obtain ⟨k, rfl⟩ : ∃ q, k = q + 1 := ⟨k - 1, by omega⟩
  have hj2 : j < (N.length : Int) := by omega
  have hv := hN _ (rd_mem h0 hj2)
  have hin := nxB_in h b0 (by omega) _ hv
  have hnd : nodeB P (rd N j) = true := by unfold nodeB; rw [h, decide_eq_true hin]; rfl
  rw [laws_FnJoins.l1, if_pos hj2, if_pos h0, if_pos hi.1, if_pos hiJ, if_pos hi.2, hj, impl_ReachesExit_eq hnd (by omega), bindS, impl_IsAfter_eq P _ _ (by omega), bindS, impl_IsInside_eq (by omega) _ _ (by omega), bindS, w64 (x := j + 1) (by omega) (by omega), ih k (j + 1) (by omega) (by omega) (by omega), show k + 1 - (d + 1) - 1 = k - d - 1 by omega]
  have fin : (if reachB P (-1) [rd N j] (P.length : Int) = true then (if (nodeB P (rd N j) && (nodeB P (joinB P (rd B i)) && aftB P (rd N j) (joinB P (rd B i)))) = true then laws_FnJoins.l2 (k - d - 1) P B J i L 0 else none) else laws_FnJoins.l2 (k - d - 1) P B J i L 0) = laws_FnJoins.l2 (k - d - 1) P B J i L 0 := by
   by_cases hr : reachB P (-1) [rd N j] (P.length : Int) = true
   ·rw [if_pos hr, if_pos (next_after hb hv hr)]
   ·rw [if_neg hr]
  by_cases e : rd N j = joinB P (rd B i)
  ·rw [if_pos e]; exact fin
  ·rw [if_neg e, if_pos (next_in hb hv e)]; exact fin
theorem joins_l0 {P : List S53} (h : programOk P = true) (B J : List Int) (hB : ∀ b ∈ B, b ∈ branchesL P) (hBl : B.length ≤ 40) (hJ : J = B.map (joinB P)) : ∀ (d k : Nat) (i : Int), 0 ≤ i → (B.length : Int) - i = d → 50 * d + P.length + 600 < k → laws_FnJoins.l0 k P B J i = some true := by
 have hn := programOk_len h
 have hJl : J.length = B.length := by rw [hJ, List.length_map]
 intro d
 induction d with
 | zero =>
  intro k i h0 hd hk
  obtain ⟨k, rfl⟩ : ∃ q, k = q + 1 := ⟨k - 1, by omega⟩
  rw [laws_FnJoins.l0, if_neg (by omega)]
 | succ d ih =>
  intro k i h0 hd hk
  obtain ⟨k, rfl⟩ : ∃ q, k = q + 2 := ⟨k - 2, by omega⟩
  have hi : i < (B.length : Int) := by omega
  have hb := hB _ (rd_mem h0 hi)
  obtain ⟨_, b0, b1, _⟩ := brL_mem.1 hb
  have hj : rd J i = joinB P (rd B i) := by
   rw [hJ]
   unfold rd
   rw [List.getD_eq_getElem?_getD, List.getD_eq_getElem?_getD, List.getElem?_map, List.getElem?_eq_getElem (by omega)]; rfl
  have hjr := joinB_rng hb
  have hnd : nodeB P (rd B i) = true := by unfold nodeB; rw [h, decide_eq_true (by omega)]; rfl
  have hil := insideL_len P (rd B i)
  have hn2 := nxB_len P (rd B i)
  have hjo : joinOr P (rd B i) = joinB P (rd B i) := by unfold joinOr; rw [if_pos (List.contains_iff_mem.2 hb)]
  rw [show k + 2 = (k + 1) + 1 from rfl, laws_FnJoins.l0, if_pos hi, if_pos h0, impl_NextOf_eq hnd (by omega), bindS, impl_InsideOf_eq (by omega) _ (by omega), bindS, if_pos (by omega), impl_JoinOf_eq (by omega) _ (by omega), bindS, hjo, if_pos hj, hj, laws_has_eq (by omega) _ (by omega), bindS, join_out hb, if_neg (by decide), if_neg (by omega), decide_eq_false (show ¬ joinB P (rd B i) > (P.length : Int) by omega), laws_FnJoins.j2, if_neg (by decide), joins_l1 h B J ⟨h0, hi⟩ (by omega) hb hj _ (nxB P (rd B i)) (fun _ q => q) hn2 (nxB P (rd B i)).length k 0 (by omega) (by omega) (by omega), joins_l2 h B J ⟨h0, hi⟩ (by omega) hb hj _ rfl (insideL P (rd B i)).length _ 0 (by omega) (by omega) (by omega), w64 (by omega) (by omega)]
  exact ih _ (i + 1) (by omega) (by omega) (by omega)
theorem FnJoins : laws_FnJoins.Pure := by
 intro l hl
 unfold maxLen at hl
 by_cases h : (l.length : Int) > 1048576
 ·exact ⟨0, by unfold laws_FnJoins.f laws_big.f; rw [bindS, decide_eq_true h, if_pos rfl]⟩
 have key : ∀ K, l.length + 5000 ≤ K → laws_FnJoins.f (K + 1) l = some true := by
  intro K hK
  obtain ⟨P, hP, hok⟩ := drawWild_ok (k := K + 1) (xs := l) (by omega) (by omega)
  have hn := programOk_len hok
  have hb := (brL_len P).2.1 hok
  have hJl : ((branchesL P).map (joinB P)).length = (branchesL P).length := List.length_map ..
  unfold laws_FnJoins.f laws_big.f
  rw [bindS, decide_eq_false h, if_neg (by decide), hP, bindS, impl_BranchesOf_eq P (by omega), bindS, impl_JoinsOf_eq P (by omega), bindS, if_pos (by omega), spec_JoinsOf_eq (by omega) (by omega), bindS]
  unfold laws_sameInts.f
  rw [if_pos rfl, same_l0 _ (by omega) ((branchesL P).map (joinB P)).length (K + 1) 0 (by omega) (by omega) (by omega), bindS, laws_FnJoins.j0, if_neg (by decide)]
  exact joins_l0 hok _ _ (fun _ q => q) (by omega) rfl (branchesL P).length K 0 (by omega) (by omega) (by omega)
 exact ⟨_, key _ (Nat.le_refl _)⟩

end Go.Proofs.Ytbgpnendblmdaaa.Pure
