/-
 An instruction changes only the register that it writes, and depends only on those that it reads.
 No condition.
-/
import Derived.Test.YtdhifoacbpjpoaaPFnAppliedx7
namespace Go.Proofs.Ytdhifoacbpjpoaa.Pure
open Go.RowKit Go.Proofs.Ytdhifoacbpjpoaa.PFnApplied Go.Proofs.YtdhifoacbpjpoaaW.PrintWords Go.Proofs.YtdhifoacbpjpoaaW.PrintLast Go.Proofs.YtdhifoacbpjpoaaW.PrintMore
set_option linter.unusedVariables false
set_option linter.unusedSimpArgs false

theorem w64 {x : Int} (h0 : -9223372036854775808 ≤ x) (h1 : x < 9223372036854775808) : wrap64 x = x := by unfold wrap64; omega
theorem drop_rd {l : List Int} {i : Int} (h0 : 0 ≤ i) (h1 : i < (l.length : Int)) : l.drop i.toNat = rd l i :: l.drop (i + 1).toNat := by
 have hi : i.toNat < l.length := by omega
 rw [show (i + 1).toNat = i.toNat + 1 by omega, List.drop_eq_getElem_cons hi]
 congr 1
 unfold rd
 rw [List.getD_eq_getElem?_getD, List.getElem?_eq_getElem hi]; rfl
theorem rd_mem {l : List Int} {i : Int} (h0 : 0 ≤ i) (h1 : i < (l.length : Int)) : rd l i ∈ l := by
 have hi : i.toNat < l.length := by omega
 unfold rd
 rw [List.getD_eq_getElem?_getD, List.getElem?_eq_getElem hi]
 exact List.getElem_mem hi
theorem take_set_succ {α : Type} {l x : List α} {i : Nat} (v : α) (hl : i < l.length) (hx : i < x.length) (h : x.take i = l.take i) (hv : l[i]'hl = v) : (x.set i v).take (i + 1) = l.take (i + 1) := by
 rw [List.take_succ_eq_append_getElem (by simpa using hx), List.take_succ_eq_append_getElem hl, List.take_set_of_le (Nat.le_refl i), h]
 simp [hv]
theorem rd_get {l : List Int} {i : Int} (h0 : 0 ≤ i) (h1 : i.toNat < l.length) : l[i.toNat]'h1 = rd l i := by
 unfold rd
 rw [List.getD_eq_getElem?_getD, List.getElem?_eq_getElem h1]; rfl
theorem need {p : Prop} (h : p) : p := h
theorem bindS {α β : Type} (x : α) (f : α → Option β) : (some x).bind f = f x := by
 have h : ∀ o : Option α, o = some x → o.bind f = f x := fun o e => by rw [e]; rfl
 exact h _ rfl
theorem within_some (x a b : Int) : impl_within.f x a b = some (decide (a ≤ x ∧ x ≤ b)) := by
 unfold impl_within.f
 by_cases h : a ≤ x
 ·rw [if_pos h]; simp [h]
 ·rw [if_neg h]; simp [h]
theorem drop_getD {α : Type} {l : List α} {i : Int} (z : α) (h0 : 0 ≤ i) (h1 : i < (l.length : Int)) : l.drop i.toNat = l.getD i.toNat z :: l.drop (i + 1).toNat := by
 have hi : i.toNat < l.length := by omega
 rw [show (i + 1).toNat = i.toNat + 1 by omega, List.drop_eq_getElem_cons hi, List.getD_eq_getElem?_getD, List.getElem?_eq_getElem hi]; rfl
theorem getD_get {α : Type} {l : List α} {n : Nat} (z : α) (h : n < l.length) : l.getD n z = l[n]'h := by
 rw [List.getD_eq_getElem?_getD, List.getElem?_eq_getElem h]; rfl
theorem getD_map {α β : Type} {l : List α} {n : Nat} (g : α → β) (z : α) (z2 : β) (h : n < l.length) : (l.map g).getD n z2 = g (l.getD n z) := by
 rw [getD_get z h, getD_get z2 (by simpa using h), List.getElem_map]
def left (a : Int) (n : Nat) : Int := if a - n < 0 then -1 else a - n
def fldR (x : Int) : Bool := decide (0 ≤ x ∧ x ≤ 3)
def fldW (x : Int) : Bool := decide (0 ≤ x ∧ x ≤ 65535)
def fldT (n x : Int) : Bool := decide (0 ≤ x ∧ x ≤ n)
def fldB (n ch x : Int) : Bool := if ch = 82 then fldR x else if ch = 87 then fldW x else if ch = 84 then fldT n x else x == 0
def insB (n a b c d : Int) : Bool := if a = 0 ∨ a = 12 ∨ a = 16 then b == 0 && (c == 0 && d == 0) else if a = 1 then fldR b && (fldW c && d == 0) else if a = 2 ∨ a = 13 ∨ a = 14 ∨ a = 15 then fldR b && (fldR c && d == 0) else if a = 8 then fldR b && (c == 0 && d == 0) else if a = 10 then fldR b && (fldT n c && d == 0) else if a = 11 then b == 0 && (fldT n c && d == 0) else if 3 ≤ a ∧ a ≤ 9 then fldR b && (fldR c && fldR d) else false
theorem isField_eq (ch x n : Int) : impl_isField.f ch x n = some (fldB n ch x) := by
 unfold impl_isField.f impl_isReg.f impl_IsWord.f fldB
 simp only [within_some, Option.bind_some]
 split
 ·rfl
 ·split
  ·rfl
  ·split <;> rfl
theorem str3_ne (p q r : UInt8) : (⟨#[p, q, r]⟩ : ByteArray).toList ≠ [] := by
 unfold ByteArray.toList
 unfold ByteArray.toList.loop
 rw [if_pos (by show 0 < 3; decide)]
 unfold ByteArray.toList.loop
 rw [if_pos (by show 1 < 3; decide)]
 unfold ByteArray.toList.loop
 rw [if_pos (by show 2 < 3; decide)]
 unfold ByteArray.toList.loop
 rw [if_neg (by show ¬ 3 < 3; decide)]
 simp
theorem str0_eq : (⟨#[]⟩ : ByteArray).toList = [] := by
 unfold ByteArray.toList
 unfold ByteArray.toList.loop
 rw [if_neg (by show ¬ 0 < 0; decide)]; rfl
theorem insOk_str (p q r : UInt8) (a b c d n : Int) (h : impl_formOf.f a = some (⟨#[p, q, r]⟩ : ByteArray)) : impl_InsOk.f a b c d n = some (decide (0 ≤ n ∧ n ≤ 32) && (fldB n p.toNat b && (fldB n q.toNat c && fldB n r.toNat d))) := by
 unfold impl_InsOk.f
 rw [h]; simp only [Option.bind_some, within_some, isField_eq]
 rw [if_neg (str3_ne p q r)]
 have e0 : bt (⟨#[p, q, r]⟩ : ByteArray) 0 = p.toNat := rfl
 have e1 : bt (⟨#[p, q, r]⟩ : ByteArray) 1 = q.toNat := rfl
 have e2 : bt (⟨#[p, q, r]⟩ : ByteArray) 2 = r.toNat := rfl
 have es : ((⟨#[p, q, r]⟩ : ByteArray).size : Int) = 3 := rfl
 rw [e0, e1, e2, es]
 cases decide (0 ≤ n ∧ n ≤ 32) <;> cases fldB n p.toNat b <;> cases fldB n q.toNat c <;> cases fldB n r.toNat d <;> rfl
theorem insOk_none (a b c d n : Int) (h : ¬ (0 ≤ a ∧ a ≤ 16)) : impl_InsOk.f a b c d n = some false := by
 unfold impl_InsOk.f impl_formOf.f
 rw [within_some]; simp only [Option.bind_some]
 rw [if_neg (by simpa using h)]; simp only [Option.bind_some]
 rw [if_pos str0_eq]
theorem impl_insOk_eq (a b c d n : Int) : impl_InsOk.f a b c d n = some (decide (0 ≤ n ∧ n ≤ 32) && insB n a b c d) := by
 by_cases h : 0 ≤ a ∧ a ≤ 16
 ·rcases (by omega : a = 0 ∨ a = 1 ∨ a = 2 ∨ a = 3 ∨ a = 4 ∨ a = 5 ∨ a = 6 ∨ a = 7 ∨ a = 8 ∨ a = 9 ∨ a = 10 ∨ a = 11 ∨ a = 12 ∨ a = 13 ∨ a = 14 ∨ a = 15 ∨ a = 16) with e | e | e | e | e | e | e | e | e | e | e | e | e | e | e | e | e <;> subst e <;> (first | (rw [insOk_str 45 45 45 _ b c d n rfl]; rfl) | (rw [insOk_str 82 87 45 _ b c d n rfl]; rfl) | (rw [insOk_str 82 82 45 _ b c d n rfl]; rfl) | (rw [insOk_str 82 82 82 _ b c d n rfl]; rfl) | (rw [insOk_str 82 45 45 _ b c d n rfl]; rfl) | (rw [insOk_str 82 84 45 _ b c d n rfl]; rfl) | (rw [insOk_str 45 84 45 _ b c d n rfl]; rfl))
 ·rw [insOk_none a b c d n h]
  have : insB n a b c d = false := by
   unfold insB
   rw [if_neg (by omega), if_neg (by omega), if_neg (by omega), if_neg (by omega), if_neg (by omega), if_neg (by omega), if_neg (by omega)]
  rw [this, Bool.and_false]
def regsOk (l : List Int) : Bool := decide (l.length = 4) && l.all isWordB
theorem impl_areRegs_eq (l : List Int) : impl_areRegs.f l = some (regsOk l) := by
 unfold impl_areRegs.f impl_AreWords.f regsOk
 by_cases h : l.length = 4
 ·rw [if_pos (by omega), decide_eq_true h]; rfl
 ·rw [if_neg (by omega), decide_eq_false h]; rfl
theorem and65535 (n : Int) : Go.bits .and .i64 n 65535 = n % 65536 := by
 unfold Go.bits
 have h : (BitVec.ofInt 64 n &&& BitVec.ofInt 64 65535).toNat = ((n % 65536).toNat) := by
  rw [BitVec.toNat_and, show (BitVec.ofInt 64 65535).toNat = 2 ^ 16 - 1 by decide, Nat.and_two_pow_sub_one_eq_mod, BitVec.toNat_ofInt]
  omega
 show IntKind.i64.wrap (((BitVec.ofInt 64 n &&& BitVec.ofInt 64 65535).toNat : Nat) : Int) = _
 rw [h]
 unfold IntKind.wrap
 have e : ((2 : Int) ^ IntKind.i64.bits) = 18446744073709551616 := by decide
 have e2 : ((2 : Int) ^ (IntKind.i64.bits - 1)) = 9223372036854775808 := by decide
 rw [e, e2]
 have h2 : (((n % 65536).toNat : Nat) : Int) % 18446744073709551616 = n % 65536 := by omega
 simp only [h2]
 rw [if_neg (by simp; omega)]
theorem impl_wordF_eq (x : Int) : impl_IsWord.f x = some (fldW x) := by unfold impl_IsWord.f; rw [within_some]; rfl
theorem addWords_some (x y : Int) : ∃ v, impl_AddWords.f x y = some v := by
 unfold impl_AddWords.f impl_wrapped.f impl_WrapWord.f
 simp only [impl_wordF_eq, Option.bind_some]
 cases fldW x <;> cases fldW y <;> exact ⟨_, rfl⟩
theorem subWords_some (x y : Int) : ∃ v, impl_SubWords.f x y = some v := by
 unfold impl_SubWords.f impl_wrapped.f impl_WrapWord.f
 simp only [impl_wordF_eq, Option.bind_some]
 cases fldW x <;> cases fldW y <;> exact ⟨_, rfl⟩
theorem mulWords_some (x y : Int) : ∃ v, impl_MulWords.f x y = some v := by
 unfold impl_MulWords.f impl_wrapped.f impl_WrapWord.f
 simp only [impl_wordF_eq, Option.bind_some]
 cases fldW x <;> cases fldW y <;> exact ⟨_, rfl⟩
theorem lessWords_some (x y : Int) : ∃ v, impl_LessWords.f x y = some v := by
 unfold impl_LessWords.f
 simp only [impl_wordF_eq, Option.bind_some]
 cases fldW x <;> cases fldW y <;> (first | exact ⟨_, rfl⟩ | (by_cases h : x < y <;> simp [h]))
theorem and255 (n : Int) : Go.bits .and .i64 n 255 = n % 256 := by
 unfold Go.bits
 have h : (BitVec.ofInt 64 n &&& BitVec.ofInt 64 255).toNat = ((n % 256).toNat) := by
  rw [BitVec.toNat_and, show (BitVec.ofInt 64 255).toNat = 2 ^ 8 - 1 by decide, Nat.and_two_pow_sub_one_eq_mod, BitVec.toNat_ofInt]
  omega
 show IntKind.i64.wrap (((BitVec.ofInt 64 n &&& BitVec.ofInt 64 255).toNat : Nat) : Int) = _
 rw [h]
 unfold IntKind.wrap
 have e : ((2 : Int) ^ IntKind.i64.bits) = 18446744073709551616 := by decide
 have e2 : ((2 : Int) ^ (IntKind.i64.bits - 1)) = 9223372036854775808 := by decide
 rw [e, e2]
 have h2 : (((n % 256).toNat : Nat) : Int) % 18446744073709551616 = n % 256 := by omega
 simp only [h2]
 rw [if_neg (by simp; omega)]
theorem byte_ok {xs : List Int} {p : Int} (s : Int) (hl : xs.length ≤ 1048576) (hp : 0 ≤ p) : ∃ v p' s', spec_l01Byte.f xs p s = some (v, p', s') ∧ 0 ≤ v ∧ v ≤ 255 ∧ 0 ≤ p' := by
 unfold spec_l01Byte.f
 by_cases h : p < (xs.length : Int)
 ·rw [if_pos h, if_pos hp, w64 (x := p + 1) (by omega) (by omega)]
  exact ⟨_, _, _, rfl, by rw [and255]; omega, by rw [and255]; omega, by omega⟩
 ·rw [if_neg h]
  exact ⟨_, _, _, rfl, by rw [and255]; omega, by rw [and255]; omega, hp⟩
theorem below_ok {xs : List Int} {p : Int} (s n : Int) (hl : xs.length ≤ 1048576) (hp : 0 ≤ p) (hn : 0 < n) : ∃ v p' s', spec_l01Below.f xs p s n = some (v, p', s') ∧ 0 ≤ v ∧ v < n ∧ 0 ≤ p' := by
 unfold spec_l01Below.f
 obtain ⟨v1, p1, s1, e1, a1, b1, c1⟩ := byte_ok s hl hp
 rw [if_neg (by omega), e1]; simp only [Option.bind_some]
 by_cases h : n ≤ 256
 ·rw [if_pos h, if_neg (by omega)]
  refine ⟨_, _, _, rfl, ?_, ?_, c1⟩
  ·rw [Int.tmod_eq_emod_of_nonneg a1]; exact Int.emod_nonneg _ (by omega)
  ·rw [Int.tmod_eq_emod_of_nonneg a1]; exact Int.emod_lt_of_pos _ hn
 ·obtain ⟨v2, p2, s2, e2, a2, b2, c2⟩ := byte_ok s1 hl c1
  obtain ⟨v3, p3, s3, e3, a3, b3, c3⟩ := byte_ok s2 hl c2
  obtain ⟨v4, p4, s4, e4, a4, b4, c4⟩ := byte_ok s3 hl c3
  rw [if_neg h, e2]; simp only [Option.bind_some]
  rw [e3]; simp only [Option.bind_some]
  rw [e4]; simp only [Option.bind_some]
  rw [if_neg (by omega), w64 (x := v1 * 16777216) (by omega) (by omega), w64 (x := v2 * 65536) (by omega) (by omega), w64 (x := v3 * 256) (by omega) (by omega), w64 (x := v1 * 16777216 + v2 * 65536) (by omega) (by omega), w64 (x := v1 * 16777216 + v2 * 65536 + v3 * 256) (by omega) (by omega), w64 (x := v1 * 16777216 + v2 * 65536 + v3 * 256 + v4) (by omega) (by omega)]
  refine ⟨_, _, _, rfl, ?_, ?_, c4⟩
  ·rw [Int.tmod_eq_emod_of_nonneg (by omega)]; exact Int.emod_nonneg _ (by omega)
  ·rw [Int.tmod_eq_emod_of_nonneg (by omega)]; exact Int.emod_lt_of_pos _ hn
theorem pick_ok {xs : List Int} {p : Int} (s : Int) {l : List Int} (hl : xs.length ≤ 1048576) (hp : 0 ≤ p) (h1 : 0 < l.length) : ∃ v p' s', spec_l01PickInt.f xs p s l = some (v, p', s') ∧ v ∈ l ∧ 0 ≤ p' := by
 unfold spec_l01PickInt.f
 obtain ⟨v1, p1, s1, e1, a1, b1, c1⟩ := below_ok s (l.length : Int) hl hp (by omega)
 rw [e1]; simp only [Option.bind_some]
 rw [if_pos a1, if_pos b1]
 exact ⟨_, _, _, rfl, rd_mem a1 b1, c1⟩
theorem new_l0 (l : List Int) (hl : l.length ≤ 1048576) : ∀ (d k : Nat) (s i : Int), 0 ≤ i → (l.length : Int) - i = d → d < k → ∃ s', spec_l01New.l0 k l s i = some (l, 0, s') := by
 intro d
 induction d with
 | zero =>
  intro k s i h0 hd hk
  obtain ⟨k, rfl⟩ : ∃ q, k = q + 1 := ⟨k - 1, by omega⟩
  simp only [spec_l01New.l0]
  rw [if_neg (by omega)]
  exact ⟨_, rfl⟩
 | succ d ih =>
  intro k s i h0 hd hk
  obtain ⟨k, rfl⟩ : ∃ q, k = q + 1 := ⟨k - 1, by omega⟩
  simp only [spec_l01New.l0]
  rw [if_pos (by omega)]
  by_cases h : i < 4000
  ·rw [if_pos h, if_pos h0, w64 (x := i + 1) (by omega) (by omega)]
   exact ih k _ (i + 1) (by omega) (by omega) (by omega)
  ·rw [if_neg h]; exact ⟨_, rfl⟩
theorem new_ok {k : Nat} {l : List Int} (hl : l.length ≤ 1048576) (hk : l.length < k) : ∃ s', spec_l01New.f k l = some (l, 0, s') := by
 unfold spec_l01New.f
 exact new_l0 l hl l.length k _ 0 (by omega) (by omega) hk
theorem places_l0 {xs : List Int} (hl : xs.length ≤ 1048576) : ∀ (d k : Nat) (y : List Int) (i p s : Int), 0 ≤ i → 12 - i = d → d < k → y.length = i.toNat → (∀ x ∈ y, 0 ≤ x ∧ x < 10000) → 0 ≤ p →
  ∃ z, spec_DrawPlaces.l0 k y i xs p s = some z ∧ z.length = 12 ∧ (∀ x ∈ z, 0 ≤ x ∧ x < 10000) := by
 intro d
 induction d with
 | zero =>
  intro k y i p s h0 hd hk hy hm hp
  obtain ⟨k, rfl⟩ : ∃ q, k = q + 1 := ⟨k - 1, by omega⟩
  simp only [spec_DrawPlaces.l0]
  rw [if_neg (by omega)]
  exact ⟨_, rfl, by omega, hm⟩
 | succ d ih =>
  intro k y i p s h0 hd hk hy hm hp
  obtain ⟨k, rfl⟩ : ∃ q, k = q + 1 := ⟨k - 1, by omega⟩
  simp only [spec_DrawPlaces.l0]
  obtain ⟨v1, p1, s1, e1, a1, b1, c1⟩ := below_ok s 10000 hl hp (by omega)
  rw [if_pos (by omega), e1]; simp only [Option.bind_some]
  rw [if_pos (by omega), w64 (x := i + 1) (by omega) (by omega)]
  refine ih k _ (i + 1) _ _ (by omega) (by omega) (by omega) (by simp; omega) ?_ c1
  intro x hx
  rw [List.mem_append, List.mem_singleton] at hx
  rcases hx with hx | rfl
  ·exact hm x hx
  ·omega
theorem drawPlaces_ok {k : Nat} {xs : List Int} (hl : xs.length ≤ 1048576) (hk : xs.length + 13 < k) : ∃ z, spec_DrawPlaces.f k xs = some z ∧ z.length = 12 ∧ (∀ x ∈ z, 0 ≤ x ∧ x < 10000) := by
 unfold spec_DrawPlaces.f
 obtain ⟨s, e⟩ := new_ok (k := k) hl (by omega)
 rw [e]; simp only [Option.bind_some]
 exact places_l0 hl 12 k [] 0 0 s (by omega) (by omega) (by omega) rfl (by simp) (by omega)
def P5 (n : Int) (x : S43) : Prop := insB n x.f0 x.f1 x.f2 x.f3 = true ∧ 0 ≤ x.f0 ∧ x.f0 ≤ 12
theorem insB_mono {n m a b c d : Int} (h : n ≤ m) (hi : insB n a b c d = true) : insB m a b c d = true := by
 have ht : fldT n c = true → fldT m c = true := fun q => by unfold fldT at q ⊢; rw [decide_eq_true_eq] at q ⊢; omega
 unfold insB at hi ⊢
 split at hi
 ·rename_i q; rw [if_pos q]; exact hi
 ·rename_i q; rw [if_neg q]
  split at hi
  ·rename_i q; rw [if_pos q]; exact hi
  ·rename_i q; rw [if_neg q]
   split at hi
   ·rename_i q; rw [if_pos q]; exact hi
   ·rename_i q; rw [if_neg q]
    split at hi
    ·rename_i q; rw [if_pos q]; exact hi
    ·rename_i q; rw [if_neg q]
     split at hi
     ·rename_i q; rw [if_pos q]; rw [Bool.and_eq_true, Bool.and_eq_true] at hi ⊢; exact ⟨hi.1, ht hi.2.1, hi.2.2⟩
     ·rename_i q; rw [if_neg q]
      split at hi
      ·rename_i q; rw [if_pos q]; rw [Bool.and_eq_true, Bool.and_eq_true] at hi ⊢; exact ⟨hi.1, ht hi.2.1, hi.2.2⟩
      ·rename_i q; rw [if_neg q]; exact hi
theorem plain_ok {xs : List Int} {p : Int} (s n : Int) (hl : xs.length ≤ 1048576) (hp : 0 ≤ p) : ∃ a b c d p' s', spec_l04Plain.f xs p s = some (a, b, c, d, p', s') ∧ (insB n a b c d = true ∧ 0 ≤ a ∧ a ≤ 12) ∧ 0 ≤ p' := by
 have hR : ∀ x : Int, 0 ≤ x → x < 4 → fldR x = true := fun x h0 h1 => decide_eq_true (by omega)
 unfold spec_l04Plain.f
 obtain ⟨v1, p1, s1, e1, a1, b1, c1⟩ := below_ok s 9 hl hp (by omega)
 rw [e1]; simp only [Option.bind_some]
 obtain ⟨v2, p2, s2, e2, a2, b2, c2⟩ := below_ok s1 4 hl c1 (by omega)
 rw [e2]; simp only [Option.bind_some]
 rw [w64 (by omega) (by omega)]
 by_cases h1 : 1 + v1 = 1
 ·obtain ⟨v3, p3, s3, e3, a3, b3, c3⟩ := below_ok s2 6 hl c2 (by omega)
  rw [if_pos h1, e3]
  refine ⟨_, _, _, _, _, _, rfl, ⟨?_, by omega, by omega⟩, c3⟩
  have : fldW v3 = true := decide_eq_true (by omega)
  rw [h1]; simp [insB, hR v2 a2 b2, this]
 rw [if_neg h1]
 by_cases h8 : 1 + v1 = 8
 ·rw [if_pos h8]
  refine ⟨_, _, _, _, _, _, rfl, ⟨?_, by omega, by omega⟩, c2⟩
  rw [h8]; simp [insB, hR v2 a2 b2]
 rw [if_neg h8]
 by_cases h2 : 1 + v1 = 2
 ·obtain ⟨v3, p3, s3, e3, a3, b3, c3⟩ := below_ok s2 4 hl c2 (by omega)
  rw [if_pos h2, e3]
  refine ⟨_, _, _, _, _, _, rfl, ⟨?_, by omega, by omega⟩, c3⟩
  rw [h2]; simp [insB, hR v2 a2 b2, hR v3 a3 b3]
 rw [if_neg h2]
 obtain ⟨v3, p3, s3, e3, a3, b3, c3⟩ := below_ok s2 4 hl c2 (by omega)
 rw [e3]; simp only [Option.bind_some]
 obtain ⟨v4, p4, s4, e4, a4, b4, c4⟩ := below_ok s3 4 hl c3 (by omega)
 rw [e4]
 refine ⟨_, _, _, _, _, _, rfl, ⟨?_, by omega, by omega⟩, c4⟩
 unfold insB
 rw [if_neg (by omega), if_neg (by omega), if_neg (by omega), if_neg (by omega), if_neg (by omega), if_neg (by omega), if_pos (by omega), hR v2 a2 b2, hR v3 a3 b3, hR v4 a4 b4]; rfl
theorem P5_up {n m : Int} {x : S43} (h : n ≤ m) (hx : P5 n x) : P5 m x := ⟨insB_mono h hx.1, hx.2⟩
theorem P5_branch {n r t : Int} (hr : 0 ≤ r ∧ r < 4) (ht : 0 ≤ t ∧ t ≤ n) : P5 n (⟨10, r, t, 0⟩ : S43) := by
 have h1 : fldR r = true := decide_eq_true (by omega)
 have h2 : fldT n t = true := decide_eq_true (by omega)
 simp [P5, insB, h1, h2]
theorem P5_jump {n t : Int} (ht : 0 ≤ t ∧ t ≤ n) : P5 n (⟨11, 0, t, 0⟩ : S43) := by
 have h2 : fldT n t = true := decide_eq_true (by omega)
 simp [P5, insB, h2]
def rawReads (a b c d : Int) : List Int := if a = 2 ∨ a = 13 then [c] else if 3 ≤ a ∧ a ≤ 7 then [c, d] else if a = 9 then [b, c, d] else if a = 10 then [b] else if a = 14 ∨ a = 15 then [b, c] else []
def readsB (a b c d : Int) : List Int := [0, 1, 2, 3].filter fun r => (rawReads a b c d).contains r
theorem readsB_in {a b c d r : Int} (h : r ∈ readsB a b c d) : 0 ≤ r ∧ r ≤ 3 := by
 unfold readsB at h
 rw [List.mem_filter] at h
 obtain ⟨h, _⟩ := h
 simp only [List.mem_cons, List.not_mem_nil, or_false] at h
 omega
theorem fldR4 {x : Int} (h : fldR x = true) : x = 0 ∨ x = 1 ∨ x = 2 ∨ x = 3 := by
 unfold fldR at h
 have := of_decide_eq_true h
 omega
theorem insB_cases {n a b c d : Int} (h : insB n a b c d = true) : (a = 0 ∨ a = 1 ∨ a = 8 ∨ a = 11 ∨ a = 12 ∨ a = 16) ∨ ((a = 2 ∨ a = 13) ∧ fldR c = true) ∨ ((a = 3 ∨ a = 4 ∨ a = 5 ∨ a = 6 ∨ a = 7) ∧ fldR c = true ∧ fldR d = true) ∨ (a = 9 ∧ fldR b = true ∧ fldR c = true ∧ fldR d = true) ∨ (a = 10 ∧ fldR b = true) ∨ ((a = 14 ∨ a = 15) ∧ fldR b = true ∧ fldR c = true) := by
 unfold insB at h
 split at h
 ·exact .inl (by omega)
 split at h
 ·exact .inl (by omega)
 split at h
 ·rename_i q
  simp only [Bool.and_eq_true] at h
  rcases q with q | q | q | q
  ·exact .inr (.inl ⟨.inl q, h.2.1⟩)
  ·exact .inr (.inl ⟨.inr q, h.2.1⟩)
  ·exact .inr (.inr (.inr (.inr (.inr ⟨.inl q, h.1, h.2.1⟩))))
  ·exact .inr (.inr (.inr (.inr (.inr ⟨.inr q, h.1, h.2.1⟩))))
 split at h
 ·exact .inl (by omega)
 split at h
 ·rename_i q
  simp only [Bool.and_eq_true] at h
  exact .inr (.inr (.inr (.inr (.inl ⟨q, h.1⟩))))
 split at h
 ·exact .inl (by omega)
 split at h
 ·simp only [Bool.and_eq_true] at h
  by_cases e : a = 9
  ·exact .inr (.inr (.inr (.inl ⟨e, h.1, h.2.1, h.2.2⟩)))
  ·by_cases e8 : a = 8
   ·exact .inl (by omega)
   ·exact .inr (.inr (.inl ⟨by omega, h.2.1, h.2.2⟩))
 ·exact absurd h (by simp)
theorem impl_reads40 {a b c d n : Int} (h : insB n a b c d = true) : impl_ReadsRegs.f 40 a b c d = some (readsB a b c d) := by
 rcases insB_cases h with q | ⟨q, hc⟩ | ⟨q, hc, hd⟩ | ⟨q, hb, hc, hd⟩ | ⟨q, hb⟩ | ⟨q, hb, hc⟩
 ·rcases q with q | q | q | q | q | q <;> subst q <;> kernel_rfl
 ·rcases q with q | q <;> subst q <;> rcases fldR4 hc with e | e | e | e <;> subst e <;> kernel_rfl
 ·rcases q with q | q | q | q | q <;> subst q <;> rcases fldR4 hc with e | e | e | e <;> subst e <;> rcases fldR4 hd with e | e | e | e <;> subst e <;> kernel_rfl
 ·subst q; rcases fldR4 hb with e | e | e | e <;> subst e <;> rcases fldR4 hc with e | e | e | e <;> subst e <;> rcases fldR4 hd with e | e | e | e <;> subst e <;> kernel_rfl
 ·subst q; rcases fldR4 hb with e | e | e | e <;> subst e <;> kernel_rfl
 ·rcases q with q | q <;> subst q <;> rcases fldR4 hb with e | e | e | e <;> subst e <;> rcases fldR4 hc with e | e | e | e <;> subst e <;> kernel_rfl
theorem impl_reads_eq {k : Nat} {a b c d n : Int} (h : insB n a b c d = true) (hk : 40 ≤ k) : impl_ReadsRegs.f k a b c d = some (readsB a b c d) :=
 at_rounds (g := fun k => impl_ReadsRegs.f k a b c d) (fun k => impl_ReadsRegs.mono a b c d k) hk (impl_reads40 h)
def writesB (a b : Int) : Int := if 1 ≤ a ∧ a ≤ 9 ∨ a = 13 then b else -1
theorem writesB_in {n a b c d : Int} (h : insB n a b c d = true) (hw : ¬ writesB a b < 0) : 0 ≤ b ∧ b ≤ 3 := by
 unfold writesB at hw
 split at hw
 ·rename_i q
  have hf : fldR b = true := by
   unfold insB at h
   split at h
   ·omega
   split at h
   ·simp only [Bool.and_eq_true] at h; exact h.1
   split at h
   ·simp only [Bool.and_eq_true] at h; exact h.1
   split at h
   ·simp only [Bool.and_eq_true] at h; exact h.1
   split at h
   ·omega
   split at h
   ·omega
   split at h
   ·simp only [Bool.and_eq_true] at h; exact h.1
   ·exact absurd h (by simp)
  unfold fldR at hf
  exact of_decide_eq_true hf
 ·omega
theorem impl_writes_eq (a b c d : Int) : impl_WritesReg.f a b c d = some (writesB a b) := by
 unfold impl_WritesReg.f writesB
 rw [within_some]; simp only [Option.bind_some]
 by_cases h : 1 ≤ a ∧ a ≤ 9
 ·rw [if_pos (by simpa using h), if_pos (.inl h)]
 ·rw [if_neg (by simpa using h)]
  by_cases h2 : a = 13
  ·rw [if_pos h2, if_pos (.inr h2)]
  ·rw [if_neg h2, if_neg (by omega)]
theorem wild_l0 {xs : List Int} (hl : xs.length ≤ 1048576) {n : Int} (hn : n ≤ 8) : ∀ (d k : Nat) (out : List S43) (i p s : Int), 0 ≤ i → n - i = d → 2 * d + 1 < k → 0 ≤ p → (out.length : Int) = i → (∀ x ∈ out, P5 n x) →
  ∃ z p' s', spec_l07Wild.l0 k out n i xs p s = some (z, p', s') ∧ (z.length : Int) = n ∧ (∀ x ∈ z, P5 n x) ∧ 0 ≤ p' := by
 intro d
 induction d with
 | zero =>
  intro k out i p s h0 hd hk hp ho hP
  obtain ⟨k, rfl⟩ : ∃ q, k = q + 1 := ⟨k - 1, by omega⟩
  simp only [spec_l07Wild.l0]
  rw [if_neg (by omega)]
  exact ⟨_, _, _, rfl, by omega, hP, hp⟩
 | succ d ih =>
  intro k out i p s h0 hd hk hp ho hP
  obtain ⟨k, rfl⟩ : ∃ q, k = q + 2 := ⟨k - 2, by omega⟩
  have next : ∀ (x : S43) (p s : Int), 0 ≤ p → P5 n x → ∃ z p' s', spec_l07Wild.l0 k (out ++ [x]) n (i + 1) xs p s = some (z, p', s') ∧ (z.length : Int) = n ∧ (∀ x ∈ z, P5 n x) ∧ 0 ≤ p' := fun x p s hp hx =>
   ih k (out ++ [x]) (i + 1) p s (by omega) (by omega) (by omega) hp (by rw [List.length_append, List.length_singleton]; omega) (fun y hy => by
    rcases List.mem_append.1 hy with q | q
    ·exact hP y q
    ·rw [List.mem_singleton.1 q]; exact hx)
  obtain ⟨v, p1, s1, e1, a1, b1, c1⟩ := below_ok s 6 hl hp (by omega)
  have J : ∀ b : Bool, ∃ z p' s', spec_l07Wild.j1 (k + 1) out n i v b xs p1 s1 = some (z, p', s') ∧ (z.length : Int) = n ∧ (∀ x ∈ z, P5 n x) ∧ 0 ≤ p' := by
   intro b
   rw [spec_l07Wild.j1, w64 (x := n + 1) (by omega) (by omega), w64 (x := i + 1) (by omega) (by omega)]
   by_cases hb : b = true
   ·rw [if_pos hb]
    obtain ⟨r, p2, s2, e2, a2, b2, c2⟩ := below_ok s1 4 hl c1 (by omega)
    obtain ⟨t, p3, s3, e3, a3, b3, c3⟩ := below_ok s2 (n + 1) hl c2 (by omega)
    rw [e2, bindS, e3, bindS, if_pos (by omega)]
    exact next _ _ _ c3 (P5_branch ⟨a2, b2⟩ ⟨a3, by omega⟩)
   rw [if_neg hb]
   by_cases h2 : v = 2
   ·rw [if_pos h2]
    obtain ⟨t, p3, s3, e3, a3, b3, c3⟩ := below_ok s1 (n + 1) hl c1 (by omega)
    rw [e3, bindS, if_pos (by omega)]
    exact next _ _ _ c3 (P5_jump ⟨a3, by omega⟩)
   rw [if_neg h2]
   by_cases h3 : v = 3
   ·rw [if_pos h3, if_pos (by omega)]
    exact next _ _ _ c1 ⟨show insB _ 12 0 0 0 = true by simp [insB], by decide, by decide⟩
   rw [if_neg h3]
   obtain ⟨a, b, c, f, p2, s2, e2, hi, c2⟩ := plain_ok s1 n hl c1
   rw [e2, bindS, if_pos (by omega)]
   exact next _ _ _ c2 hi
  rw [show k + 2 = (k + 1) + 1 from rfl, spec_l07Wild.l0, if_pos (by omega), e1, bindS]
  by_cases h0 : v = 0
  ·rw [if_pos h0]; exact J _
  ·rw [if_neg h0]; exact J _
theorem laws_has_l0 (L : List Int) (a : Int) (hL : L.length ≤ 1048576) : ∀ (d k : Nat) (i : Int), 0 ≤ i → (L.length : Int) - i = d → d < k → laws_has.l0 k L a i = some ((L.drop i.toNat).contains a) := by
 intro d
 induction d with
 | zero =>
  intro k i h0 hd hk
  obtain ⟨k, rfl⟩ : ∃ q, k = q + 1 := ⟨k - 1, by omega⟩
  simp only [laws_has.l0]
  rw [if_neg (by omega), List.drop_of_length_le (by omega)]; rfl
 | succ d ih =>
  intro k i h0 hd hk
  obtain ⟨k, rfl⟩ : ∃ q, k = q + 1 := ⟨k - 1, by omega⟩
  have hi : i < (L.length : Int) := by omega
  simp only [laws_has.l0]
  rw [if_pos hi, if_pos h0, drop_rd h0 hi, w64 (by omega) (by omega), ih k (i + 1) (by omega) (by omega) (by omega), List.contains_cons]
  by_cases e : rd L i = a
  ·rw [if_pos e, e, beq_self_eq_true, Bool.true_or]
  ·rw [if_neg e, show (a == rd L i) = false from beq_eq_false_iff_ne.2 (fun q => e q.symm), Bool.false_or]
theorem laws_has_eq {L : List Int} (hL : L.length ≤ 1048576) (a : Int) {k : Nat} (hk : L.length < k) : laws_has.f k L a = some (L.contains a) := by
 unfold laws_has.f
 rw [laws_has_l0 L a hL L.length k 0 (by omega) (by omega) hk, Int.toNat_zero, List.drop_zero]

theorem word1_ok {xs : List Int} {p : Int} (s : Int) (hl : xs.length ≤ 1048576) (hp : 0 ≤ p) : ∃ v p' s', spec_l02Word.f xs p s = some (v, p', s') ∧ (0 ≤ v ∧ v ≤ 65535) ∧ 0 ≤ p' := by
 unfold spec_l02Word.f
 obtain ⟨v1, p1, s1, e1, a1, b1, c1⟩ := below_ok s 9 hl hp (by omega)
 rw [e1, bindS]
 obtain ⟨v2, p2, s2, e2, a2, b2, c2⟩ := below_ok s1 9000 hl c1 (by omega)
 rw [e2, bindS]
 obtain ⟨v3, p3, s3, e3, a3, c3⟩ := pick_ok s2 (l := [0, 1, 2, 7, 100, 65535, 32768, v1, v2]) hl c2 (by simp)
 rw [e3, bindS]
 refine ⟨_, _, _, rfl, ?_, c3⟩
 simp only [List.mem_cons, List.not_mem_nil, or_false] at a3
 omega
theorem words_l0 {xs : List Int} (hl : xs.length ≤ 1048576) : ∀ (d k : Nat) (y : List Int) (i p s : Int), 0 ≤ i → 4 - i = d → d < k → y.length = i.toNat → (∀ x ∈ y, 0 ≤ x ∧ x ≤ 65535) → 0 ≤ p →
  ∃ z p' s', spec_l02Words.l0 k 4 y i xs p s = some (z, p', s') ∧ z.length = 4 ∧ (∀ x ∈ z, 0 ≤ x ∧ x ≤ 65535) := by
 intro d
 induction d with
 | zero =>
  intro k y i p s h0 hd hk hy hm hp
  obtain ⟨k, rfl⟩ : ∃ q, k = q + 1 := ⟨k - 1, by omega⟩
  rw [spec_l02Words.l0, if_neg (by omega)]
  exact ⟨_, _, _, rfl, by omega, hm⟩
 | succ d ih =>
  intro k y i p s h0 hd hk hy hm hp
  obtain ⟨k, rfl⟩ : ∃ q, k = q + 1 := ⟨k - 1, by omega⟩
  obtain ⟨v1, p1, s1, e1, a1, c1⟩ := word1_ok s hl hp
  rw [spec_l02Words.l0, if_pos (by omega), e1, bindS, if_pos (by omega), w64 (x := i + 1) (by omega) (by omega)]
  refine ih k _ (i + 1) _ _ (by omega) (by omega) (by omega) (by simp; omega) ?_ c1
  intro x hx
  rw [List.mem_append, List.mem_singleton] at hx
  rcases hx with hx | rfl
  ·exact hm x hx
  ·exact a1
theorem drawLane_ok {k : Nat} {xs : List Int} (hl : xs.length ≤ 1048576) (hk : xs.length + 60 < k) : ∃ P t c r, spec_DrawLane.f k xs = some (P, t, c, r) ∧ P.length ≤ 8 ∧ (∀ x ∈ P, P5 (P.length : Int) x) ∧ (0 ≤ t ∧ t ≤ 23) ∧ r.length = 4 ∧ ∀ x ∈ r, 0 ≤ x ∧ x ≤ 65535 := by
 obtain ⟨s, e⟩ := new_ok (k := k) hl (by omega)
 obtain ⟨n, p1, s1, e1, a1, b1, c1⟩ := below_ok s 9 hl (by omega : (0 : Int) ≤ 0) (by omega)
 obtain ⟨z, p', s', e2, h1, h2, c2⟩ := wild_l0 hl (n := n) (by omega) n.toNat k [] 0 p1 s1 (by omega) (by omega) (by omega) c1 rfl (fun x hx => by simp at hx)
 obtain ⟨t, p3, s3, e3, a3, b3, c3⟩ := below_ok s' 24 hl c2 (by omega)
 obtain ⟨pc, p4, s4, e4, a4, b4, c4⟩ := below_ok s3 ((z.length : Int) + 1) hl c3 (by omega)
 obtain ⟨r, p5, s5, e5, h4, hw⟩ := words_l0 hl 4 k [] 0 p4 s4 (by omega) (by omega) (by omega) rfl (fun x hx => by simp at hx) c4
 refine ⟨z, t, pc, r, ?_, by omega, by rw [h1]; exact h2, by omega, h4, hw⟩
 unfold spec_DrawLane.f spec_l07Wild.f spec_l10Case.f spec_l02Words.f
 rw [e, bindS, e1, bindS, e2, bindS]
 dsimp only
 rw [e3, bindS, w64 (by omega) (by omega), e4, bindS]
 dsimp only
 rw [e5, bindS, bindS]
def valA (a b c d t : Int) (r : List Int) : Option Int := if a = 1 then some c else if a = 2 then some (rd r c) else if a = 3 then impl_AddWords.f (rd r c) (rd r d) else if a = 4 then impl_SubWords.f (rd r c) (rd r d) else if a = 5 then impl_MulWords.f (rd r c) (rd r d) else if a = 6 then some (Go.bits .xor .i64 (rd r c) (rd r d)) else if a = 7 then impl_LessWords.f (rd r c) (rd r d) else if a = 8 then some t else if a = 9 then (if rd r d = 0 then none else some (rd r c)) else none
def putA (b : Int) (v : Option Int) (r : List Int) : List Int := match v with
 | none => r
 | some x => r.set b.toNat x
theorem putA_len (b : Int) (v : Option Int) (r : List Int) : (putA b v r).length = r.length := by
 cases v with
 | none => rfl
 | some x => exact List.length_set ..
theorem apply_put {n a b c d t : Int} {r : List Int} (hr : r.length = 4) (h : insB n a b c d = true) : impl_apply.f a b c d t r = some (putA b (valA a b c d t r) r) := by
 unfold impl_apply.f valA
 unfold insB at h
 by_cases e1 : a = 1
 ·subst e1
  simp [fldR] at h
  rw [if_pos rfl, if_pos rfl, if_pos (by omega), if_pos (by omega)]; rfl
 rw [if_neg e1, if_neg e1]
 by_cases e2 : a = 2
 ·subst e2
  simp [fldR] at h
  rw [if_pos rfl, if_pos rfl, if_pos (by omega), if_pos (by omega), if_pos (by omega), if_pos (by omega)]; rfl
 rw [if_neg e2, if_neg e2]
 by_cases e3 : a = 3
 ·subst e3
  simp [fldR] at h
  obtain ⟨v, hv⟩ := addWords_some (rd r c) (rd r d)
  rw [if_pos rfl, if_pos rfl, if_pos (by omega), if_pos (by omega), if_pos (by omega), if_pos (by omega), hv, bindS, if_pos (by omega), if_pos (by omega)]; rfl
 rw [if_neg e3, if_neg e3]
 by_cases e4 : a = 4
 ·subst e4
  simp [fldR] at h
  obtain ⟨v, hv⟩ := subWords_some (rd r c) (rd r d)
  rw [if_pos rfl, if_pos rfl, if_pos (by omega), if_pos (by omega), if_pos (by omega), if_pos (by omega), hv, bindS, if_pos (by omega), if_pos (by omega)]; rfl
 rw [if_neg e4, if_neg e4]
 by_cases e5 : a = 5
 ·subst e5
  simp [fldR] at h
  obtain ⟨v, hv⟩ := mulWords_some (rd r c) (rd r d)
  rw [if_pos rfl, if_pos rfl, if_pos (by omega), if_pos (by omega), if_pos (by omega), if_pos (by omega), hv, bindS, if_pos (by omega), if_pos (by omega)]; rfl
 rw [if_neg e5, if_neg e5]
 by_cases e6 : a = 6
 ·subst e6
  simp [fldR] at h
  rw [if_pos rfl, if_pos rfl, if_pos (by omega), if_pos (by omega), if_pos (by omega), if_pos (by omega), if_pos (by omega), if_pos (by omega)]; rfl
 rw [if_neg e6, if_neg e6]
 by_cases e7 : a = 7
 ·subst e7
  simp [fldR] at h
  obtain ⟨v, hv⟩ := lessWords_some (rd r c) (rd r d)
  rw [if_pos rfl, if_pos rfl, if_pos (by omega), if_pos (by omega), if_pos (by omega), if_pos (by omega), hv, bindS, if_pos (by omega), if_pos (by omega)]; rfl
 rw [if_neg e7, if_neg e7]
 by_cases e8 : a = 8
 ·subst e8
  simp [fldR] at h
  rw [if_pos rfl, if_pos rfl, if_pos (by omega), if_pos (by omega)]; rfl
 rw [if_neg e8, if_neg e8]
 by_cases e9 : a = 9
 ·subst e9
  simp [fldR] at h
  rw [if_pos rfl, if_pos rfl, if_pos (by omega), if_pos (by omega)]
  by_cases hz : rd r d = 0
  ·rw [if_pos hz, if_pos hz]; rfl
  ·rw [if_neg hz, if_neg hz, if_pos (by omega), if_pos (by omega), if_pos (by omega), if_pos (by omega)]; rfl
 rw [if_neg e9, if_neg e9]; rfl
def W16 (x : Int) : Prop := 0 ≤ x ∧ x ≤ 65535
theorem rd_in {r : List Int} {p : Int → Prop} (h : ∀ x ∈ r, p x) {i : Int} (h0 : 0 ≤ i) (h1 : i < (r.length : Int)) : p (rd r i) := h _ (rd_mem h0 h1)
theorem xor_word {x y : Int} (hx : W16 x) (hy : W16 y) : W16 (Go.bits .xor .i64 x y) := by
 unfold Go.bits W16
 have h1 : (BitVec.ofInt 64 x).toNat < 2 ^ 16 := by rw [BitVec.toNat_ofInt]; unfold W16 at hx; omega
 have h2 : (BitVec.ofInt 64 y).toNat < 2 ^ 16 := by rw [BitVec.toNat_ofInt]; unfold W16 at hy; omega
 have h : (BitVec.ofInt 64 x ^^^ BitVec.ofInt 64 y).toNat < 2 ^ 16 := by rw [BitVec.toNat_xor]; exact Nat.xor_lt_two_pow h1 h2
 show 0 ≤ IntKind.i64.wrap (((BitVec.ofInt 64 x ^^^ BitVec.ofInt 64 y).toNat : Nat) : Int) ∧ IntKind.i64.wrap (((BitVec.ofInt 64 x ^^^ BitVec.ofInt 64 y).toNat : Nat) : Int) ≤ 65535
 rw [i64_w, w64 (by omega) (by omega)]
 omega
theorem wrapped_word {x y z v : Int} (h : impl_wrapped.f x y z = some v) : W16 v := by
 unfold impl_wrapped.f impl_WrapWord.f at h
 rw [impl_wordF_eq, impl_wordF_eq, bindS, bindS, bindS, and65535] at h
 unfold W16
 split at h
 ·split at h
  ·obtain rfl := Option.some.inj h; omega
  ·obtain rfl := Option.some.inj h; omega
 ·obtain rfl := Option.some.inj h; omega
theorem valA_word {n a b c d t v : Int} {r : List Int} (hr : r.length = 4) (hw : ∀ x ∈ r, W16 x) (ht : 0 ≤ t ∧ t ≤ 23) (h : insB n a b c d = true) (hv : valA a b c d t r = some v) : W16 v := by
 have add : ∀ {p q : Int}, impl_AddWords.f p q = some v → W16 v := fun {p q} e => by
  unfold impl_AddWords.f at e; obtain ⟨u, hu, e⟩ := Option.bind_eq_some_iff.mp e; obtain rfl := Option.some.inj e; exact wrapped_word hu
 have sub : ∀ {p q : Int}, impl_SubWords.f p q = some v → W16 v := fun {p q} e => by
  unfold impl_SubWords.f at e; obtain ⟨u, hu, e⟩ := Option.bind_eq_some_iff.mp e; obtain rfl := Option.some.inj e; exact wrapped_word hu
 have mul : ∀ {p q : Int}, impl_MulWords.f p q = some v → W16 v := fun {p q} e => by
  unfold impl_MulWords.f at e; obtain ⟨u, hu, e⟩ := Option.bind_eq_some_iff.mp e; obtain rfl := Option.some.inj e; exact wrapped_word hu
 have less : ∀ {p q : Int}, impl_LessWords.f p q = some v → W16 v := fun {p q} e => by
  unfold impl_LessWords.f at e
  rw [impl_wordF_eq, impl_wordF_eq, bindS, bindS] at e
  unfold W16
  split at e
  ·split at e
   ·split at e <;> obtain rfl := Option.some.inj e <;> omega
   ·obtain rfl := Option.some.inj e; omega
  ·obtain rfl := Option.some.inj e; omega
 unfold valA at hv
 unfold insB at h
 by_cases e1 : a = 1
 ·subst e1
  rw [if_pos rfl] at hv
  obtain rfl := Option.some.inj hv
  simp [fldR, fldW] at h
  unfold W16; omega
 rw [if_neg e1] at hv
 by_cases e2 : a = 2
 ·subst e2
  rw [if_pos rfl] at hv
  obtain rfl := Option.some.inj hv
  simp [fldR] at h
  exact rd_in hw (by omega) (by omega)
 rw [if_neg e2] at hv
 by_cases e3 : a = 3
 ·rw [if_pos e3] at hv; exact add hv
 rw [if_neg e3] at hv
 by_cases e4 : a = 4
 ·rw [if_pos e4] at hv; exact sub hv
 rw [if_neg e4] at hv
 by_cases e5 : a = 5
 ·rw [if_pos e5] at hv; exact mul hv
 rw [if_neg e5] at hv
 by_cases e6 : a = 6
 ·subst e6
  rw [if_pos rfl] at hv
  obtain rfl := Option.some.inj hv
  simp [fldR] at h
  exact xor_word (rd_in hw (by omega) (by omega)) (rd_in hw (by omega) (by omega))
 rw [if_neg e6] at hv
 by_cases e7 : a = 7
 ·rw [if_pos e7] at hv; exact less hv
 rw [if_neg e7] at hv
 by_cases e8 : a = 8
 ·rw [if_pos e8] at hv
  obtain rfl := Option.some.inj hv
  unfold W16; omega
 rw [if_neg e8] at hv
 by_cases e9 : a = 9
 ·subst e9
  rw [if_pos rfl] at hv
  simp [fldR] at h
  split at hv
  ·exact absurd hv (by simp)
  ·obtain rfl := Option.some.inj hv
   exact rd_in hw (by omega) (by omega)
 rw [if_neg e9] at hv
 exact absurd hv (by simp)
theorem raw_in {a b c d x : Int} (h : x ∈ rawReads a b c d) (hx : fldR x = true) : x ∈ readsB a b c d := by
 unfold readsB
 rw [List.mem_filter]
 refine ⟨?_, List.contains_iff_mem.2 h⟩
 rcases fldR4 hx with e | e | e | e <;> subst e <;> simp
theorem valA_agree {n a b c d t : Int} {r o : List Int} (h : insB n a b c d = true) (ha : a ≤ 12) (hs : ∀ x ∈ readsB a b c d, rd r x = rd o x) : valA a b c d t r = valA a b c d t o ∧ (valA a b c d t r = none → ¬ writesB a b < 0 → rd r b = rd o b) := by
 have cd : ∀ x, x ∈ rawReads a b c d → fldR x = true → rd r x = rd o x := fun x hx hf => hs x (raw_in hx hf)
 unfold valA
 rcases insB_cases h with q | ⟨q, hc⟩ | ⟨q, hc, hd⟩ | ⟨q, hb, hc, hd⟩ | ⟨q, hb⟩ | ⟨q, hb, hc⟩
 ·rcases q with q | q | q | q | q | q
  ·subst q; exact ⟨by simp, fun _ w => absurd (by unfold writesB; rw [if_neg (by omega)]; omega) w⟩
  ·subst q; exact ⟨by simp, fun z => by simp at z⟩
  ·subst q; exact ⟨by simp, fun z => by simp at z⟩
  ·subst q; exact ⟨by simp, fun _ w => absurd (by unfold writesB; rw [if_neg (by omega)]; omega) w⟩
  ·subst q; exact ⟨by simp, fun _ w => absurd (by unfold writesB; rw [if_neg (by omega)]; omega) w⟩
  ·omega
 ·rcases q with q | q
  ·subst q
   have e := cd c (by unfold rawReads; simp) hc
   exact ⟨by simp [e], fun z => by simp at z⟩
  ·omega
 ·have hr : rawReads a b c d = [c, d] := by unfold rawReads; rw [if_neg (by omega), if_pos (by omega)]
  have e := cd c (by rw [hr]; simp) hc
  have f := cd d (by rw [hr]; simp) hd
  obtain ⟨va, hva⟩ := addWords_some (rd r c) (rd r d)
  obtain ⟨vs, hvs⟩ := subWords_some (rd r c) (rd r d)
  obtain ⟨vm, hvm⟩ := mulWords_some (rd r c) (rd r d)
  obtain ⟨vl, hvl⟩ := lessWords_some (rd r c) (rd r d)
  rw [← e, ← f, hva, hvs, hvm, hvl]
  refine ⟨rfl, fun z => ?_⟩
  exfalso
  rcases q with q | q | q | q | q <;> subst q <;> simp at z
 ·subst q
  have hr : rawReads 9 b c d = [b, c, d] := by unfold rawReads; rw [if_neg (by omega), if_neg (by omega), if_pos rfl]
  have e := cd c (by rw [hr]; simp) hc
  have f := cd d (by rw [hr]; simp) hd
  have g := cd b (by rw [hr]; simp) hb
  rw [e, f]
  exact ⟨rfl, fun _ _ => g⟩
 ·subst q
  refine ⟨by simp, fun _ w => absurd ?_ w⟩
  unfold writesB; rw [if_neg (by omega)]; omega
 ·omega
theorem regsOk_of {r : List Int} (hr : r.length = 4) (hw : ∀ x ∈ r, W16 x) : regsOk r = true := by
 unfold regsOk
 rw [decide_eq_true hr, Bool.true_and, List.all_eq_true]
 intro x hx
 have := hw x hx
 unfold W16 at this
 unfold isWordB
 exact decide_eq_true this
theorem applyIns_put {n a b c d t : Int} {r : List Int} (hr : r.length = 4) (hw : ∀ x ∈ r, W16 x) (ht : 0 ≤ t ∧ t ≤ 23) (h : insB n a b c d = true) (hn : n ≤ 32) {k : Nat} (hk : 0 < k) : impl_ApplyIns.f k a b c d t r = some (putA b (valA a b c d t r) r) := by
 obtain ⟨k, rfl⟩ : ∃ q, k = q + 1 := ⟨k - 1, by omega⟩
 unfold impl_ApplyIns.f impl_isThread.f
 rw [impl_areRegs_eq, bindS, regsOk_of hr hw, if_pos rfl, impl_insOk_eq, bindS, decide_eq_true (by omega : (0 : Int) ≤ 32 ∧ (32 : Int) ≤ 32), Bool.true_and, insB_mono hn h, if_pos rfl, within_some, bindS, bindS, decide_eq_true ht, impl_ApplyIns.j0, if_neg (by decide)]
 unfold slices_Clone_int_int.f cloneIntF
 rw [if_pos (by omega), bindS, apply_put hr h, bindS]
theorem putA_words {b : Int} {v : Option Int} {r : List Int} (hw : ∀ x ∈ r, W16 x) (hv : ∀ x, v = some x → W16 x) : ∀ x ∈ putA b v r, W16 x := by
 cases v with
 | none => exact hw
 | some y =>
  intro x hx
  rcases List.mem_or_eq_of_mem_set hx with q | q
  ·exact hw x q
  ·rw [q]; exact hv y rfl
theorem rd_putA {b : Int} {r : List Int} {y : Int} (hb : 0 ≤ b ∧ b < (r.length : Int)) {i : Int} (hi : 0 ≤ i) : rd (putA b (some y) r) i = if i = b then y else rd r i := by
 show rd (r.set b.toNat y) i = _
 unfold rd
 rw [List.getD_eq_getElem?_getD, List.getD_eq_getElem?_getD, List.getElem?_set]
 by_cases e : i = b
 ·subst e; rw [if_pos rfl, if_pos (by omega), if_pos rfl]; rfl
 ·rw [if_neg (by omega), if_neg e]
theorem valA_some {n a b c d t y : Int} {r : List Int} (h : insB n a b c d = true) (hv : valA a b c d t r = some y) : writesB a b = b ∧ 0 ≤ b ∧ b ≤ 3 := by
 have hw : writesB a b = b := by
  unfold writesB
  rw [if_pos]
  refine Decidable.byContradiction fun q => ?_
  unfold valA at hv
  rw [if_neg (by omega), if_neg (by omega), if_neg (by omega), if_neg (by omega), if_neg (by omega), if_neg (by omega), if_neg (by omega), if_neg (by omega), if_neg (by omega)] at hv
  exact absurd hv (by simp)
 refine ⟨hw, ?_⟩
 by_cases q : writesB a b < 0
 ·exfalso
  rw [hw] at q
  have hf : fldR b = true := by
   unfold valA at hv
   rcases insB_cases h with z | ⟨z, hc⟩ | ⟨z, hc, hd⟩ | ⟨z, hb, hc, hd⟩ | ⟨z, hb⟩ | ⟨z, hb, hc⟩
   ·unfold insB at h
    rcases z with z | z | z | z | z | z <;> subst z <;> simp at hv h <;> simp [h]
   ·unfold insB at h
    rcases z with z | z <;> subst z <;> simp at h <;> simp [h]
   ·unfold insB at h
    rcases z with z | z | z | z | z <;> subst z <;> simp at h <;> simp [h]
   ·exact hb
   ·exact hb
   ·exact hb
  unfold fldR at hf
  have := of_decide_eq_true hf
  omega
 ·exact writesB_in h q
theorem applied_l1 {P : List S43} (X : List Int) (hX : X.length = 12) (m : Int) (A R r : List Int) (w t pc : Int) (hR : R.length ≤ 10) (hr : r.length = 4) : ∀ (d k : Nat) (y : List Int) (i : Int), 0 ≤ i → 4 - i = d → d + 20 < k → y.length = 4 → (∀ j : Int, 0 ≤ j → j < 4 → rd y j = if j < i ∧ R.contains j = false then rd X j else rd r j) →
  ∃ O, laws_FnApplied.l1 k P X m A w R y i t pc r = laws_FnApplied.l1 (k - d) P X m A w R O 4 t pc r ∧ O.length = 4 ∧ ∀ j : Int, 0 ≤ j → j < 4 → rd O j = if R.contains j = false then rd X j else rd r j := by
 intro d
 induction d with
 | zero =>
  intro k y i h0 hd hk hy hj
  refine ⟨y, by rw [show i = 4 by omega, Nat.sub_zero], hy, fun j j0 j1 => ?_⟩
  rw [hj j j0 j1]
  by_cases e : R.contains j = false
  ·rw [if_pos ⟨by omega, e⟩, if_pos e]
  ·rw [if_neg (fun q => e q.2), if_neg e]
 | succ d ih =>
  intro k y i h0 hd hk hy hj
  obtain ⟨k, rfl⟩ : ∃ q, k = q + 1 := ⟨k - 1, by omega⟩
  rw [laws_FnApplied.l1, if_pos (by omega), laws_has_eq (by omega) i (by omega), bindS, w64 (x := i + 1) (by omega) (by omega)]
  by_cases e : R.contains i = true
  ·obtain ⟨O, e1, e2, e3⟩ := ih k y (i + 1) (by omega) (by omega) (by omega) hy (fun j j0 j1 => by
    rw [hj j j0 j1]
    by_cases q : j < i ∧ R.contains j = false
    ·rw [if_pos q, if_pos ⟨by omega, q.2⟩]
    ·rw [if_neg q, if_neg (fun z => q ⟨by
      refine Decidable.byContradiction fun z2 => ?_
      have : j = i := by omega
      rw [this, e] at z
      exact absurd z.2 (by decide), z.2⟩)])
   exact ⟨O, by rw [if_pos e, e1, show k + 1 - (d + 1) = k - d by omega], e2, e3⟩
  ·obtain ⟨O, e1, e2, e3⟩ := ih k (y.set i.toNat (rd X i)) (i + 1) (by omega) (by omega) (by omega) (by rw [List.length_set]; exact hy) (fun j j0 j1 => by
    have hs : rd (y.set i.toNat (rd X i)) j = if j = i then rd X i else rd y j := rd_putA (b := i) (r := y) (by omega) j0
    rw [hs]
    by_cases q : j = i
    ·rw [if_pos q, q, if_pos ⟨by omega, Bool.eq_false_iff.2 e⟩]
    ·rw [if_neg q, hj j j0 j1]
     by_cases z : j < i ∧ R.contains j = false
     ·rw [if_pos z, if_pos ⟨by omega, z.2⟩]
     ·rw [if_neg z, if_neg (fun z2 => z ⟨by omega, z2.2⟩)])
   exact ⟨O, by rw [if_neg e, if_pos h0, if_pos (by omega), e1, show k + 1 - (d + 1) = k - d by omega], e2, e3⟩
theorem applied_l2 {P : List S43} (X : List Int) (m : Int) (A O B r : List Int) (w t pc : Int) (hA : A.length = 4) (hO : O.length = 4) (hB : B.length = 4) (hr : r.length = 4) (hall : ∀ j : Int, 0 ≤ j → j < 4 → (j ≠ w → rd A j = rd r j ∧ rd B j = rd O j) ∧ (j = w → rd A j = rd B j)) : ∀ (d k : Nat) (i : Int), 0 ≤ i → 4 - i = d → d < k →
  laws_FnApplied.l2 k P X m A w O B i t pc r = laws_FnApplied.l0 (k - d - 1) P X (wrap64 (m + 1)) t pc r := by
 intro d
 induction d with
 | zero =>
  intro k i h0 hd hk
  obtain ⟨k, rfl⟩ : ∃ q, k = q + 1 := ⟨k - 1, by omega⟩
  rw [laws_FnApplied.l2, if_neg (by omega), show k + 1 - 0 - 1 = k by omega]
 | succ d ih =>
  intro k i h0 hd hk
  obtain ⟨k, rfl⟩ : ∃ q, k = q + 1 := ⟨k - 1, by omega⟩
  have h := hall i h0 (by omega)
  rw [laws_FnApplied.l2, if_pos (by omega), w64 (x := i + 1) (by omega) (by omega), ih k (i + 1) (by omega) (by omega) (by omega), show k + 1 - (d + 1) - 1 = k - d - 1 by omega]
  by_cases e : i = w
  ·rw [if_pos e, if_pos h0, if_pos (by omega), if_pos (by omega), if_pos (h.2 e)]
  ·have q := h.1 e
   rw [if_neg e, if_pos h0, if_pos (by omega), if_pos (by omega), if_pos q.1, if_pos (by omega), if_pos (by omega), if_pos q.2]
theorem applied_l0 {P : List S43} (hP : P.length ≤ 8) (h5 : ∀ x ∈ P, P5 (P.length : Int) x) (X r : List Int) (hX : X.length = 12) (hXw : ∀ x ∈ X, W16 x) (hr : r.length = 4) (hw : ∀ x ∈ r, W16 x) {t : Int} (ht : 0 ≤ t ∧ t ≤ 23) (pc : Int) : ∀ (d k : Nat) (m : Int), 0 ≤ m → (P.length : Int) - m = d → 20 * d + 100 < k → laws_FnApplied.l0 k P X m t pc r = some true := by
 intro d
 induction d with
 | zero =>
  intro k m h0 hd hk
  obtain ⟨k, rfl⟩ : ∃ q, k = q + 1 := ⟨k - 1, by omega⟩
  rw [laws_FnApplied.l0, if_neg (by omega)]
 | succ d ih =>
  intro k m h0 hd hk
  obtain ⟨k, rfl⟩ : ∃ q, k = q + 1 := ⟨k - 1, by omega⟩
  have hm : m < (P.length : Int) := by omega
  have hx : rd_T43 P m ∈ P := by
   unfold rd_T43
   rw [getD_get z43 (show m.toNat < P.length by omega)]
   exact List.getElem_mem _
  obtain ⟨hi, ha0, ha⟩ := h5 _ hx
  rw [laws_FnApplied.l0, if_pos hm, if_pos h0]
  obtain ⟨x, ex⟩ : ∃ x, rd_T43 P m = x := ⟨_, rfl⟩
  rw [ex] at hi ha0 ha ⊢
  have hRl : (readsB x.f0 x.f1 x.f2 x.f3).length ≤ 4 := List.length_filter_le _ _
  rw [applyIns_put hr hw ht hi (by omega) (by omega), bindS, impl_writes_eq, bindS, impl_reads_eq hi (by omega), bindS, bindS, List.nil_append, List.length_nil, if_pos (by omega)]
  obtain ⟨O, e1, hO, hOr⟩ := applied_l1 X hX m (putA x.f1 (valA x.f0 x.f1 x.f2 x.f3 t r) r) (readsB x.f0 x.f1 x.f2 x.f3) r (writesB x.f0 x.f1) t pc (by omega) hr 4 k r 0 (by omega) (by omega) (by omega) hr (fun j j0 j1 => by rw [if_neg (fun q => absurd q.1 (by omega))])
  have hOw : ∀ y ∈ O, W16 y := by
   intro y hy
   obtain ⟨j, hj, rfl⟩ := List.getElem_of_mem hy
   have e : O[j] = rd O (j : Int) := by unfold rd; rw [Int.toNat_natCast, List.getD_eq_getElem?_getD, List.getElem?_eq_getElem hj]; rfl
   rw [e, hOr j (by omega) (by omega)]
   split
   ·exact rd_in hXw (by omega) (by omega)
   ·exact rd_in hw (by omega) (by omega)
  have hag := valA_agree (t := t) (r := r) (o := O) hi ha (fun z hz => by
   have hz2 := readsB_in hz
   rw [hOr z hz2.1 (by omega), if_neg (by rw [List.contains_iff_mem.2 hz]; decide)])
  obtain ⟨q, hq⟩ : ∃ q, k - 4 = q + 2 := ⟨k - 6, by omega⟩
  rw [e1, hq, show q + 2 = (q + 1) + 1 from rfl, laws_FnApplied.l1, if_neg (by omega), if_pos h0, if_pos hm, ex, applyIns_put hO hOw ht hi (by omega) (by omega), bindS, if_pos (by rw [putA_len]; omega), if_pos (by rw [putA_len]; omega)]
  unfold impl_AreWords.f
  have hall : (putA x.f1 (valA x.f0 x.f1 x.f2 x.f3 t r) r).all isWordB = true := by
   rw [List.all_eq_true]
   intro y hy
   have := putA_words hw (fun z hz => valA_word hr hw ht hi hz) y hy
   unfold W16 at this
   unfold isWordB
   exact decide_eq_true this
  rw [bindS, hall, laws_FnApplied.j2, if_neg (by decide), applied_l2 X m _ O _ r (writesB x.f0 x.f1) t pc (by rw [putA_len]; exact hr) hO (by rw [putA_len]; exact hO) hr ?_ 4 q 0 (by omega) (by omega) (by omega), w64 (by omega) (by omega)]
  ·exact ih _ (m + 1) (by omega) (by omega) (by omega)
  ·intro j j0 j1
   rw [← hag.1]
   cases hv : valA x.f0 x.f1 x.f2 x.f3 t r with
   | none =>
    refine ⟨fun _ => ⟨rfl, rfl⟩, fun e => ?_⟩
    have hwb : ¬ writesB x.f0 x.f1 < 0 := by omega
    have := hag.2 hv hwb
    have e2 : writesB x.f0 x.f1 = x.f1 := by
     unfold writesB at hwb ⊢
     split
     ·rfl
     ·rename_i z; rw [if_neg z] at hwb; omega
    rw [e2] at e
    rw [e]; exact this
   | some v =>
    have hb := valA_some hi hv
    rw [hb.1, rd_putA (by omega) j0, rd_putA (by omega) j0]
    refine ⟨fun e => ⟨by rw [if_neg e], by rw [if_neg e]⟩, fun e => by rw [if_pos e, if_pos e]⟩
theorem FnApplied : laws_FnApplied.Pure := by
 intro l hl
 unfold maxLen at hl
 by_cases h : (l.length : Int) > 1048576
 ·exact ⟨0, by unfold laws_FnApplied.f laws_big.f; rw [bindS, decide_eq_true h, if_pos rfl]⟩
 have key : ∀ K, l.length + 5000 ≤ K → laws_FnApplied.f K l = some true := by
  intro K hK
  obtain ⟨P, t, pc, r, hP, h8, h5, ht, hr, hw⟩ := drawLane_ok (k := K) (xs := l) (by omega) (by omega)
  obtain ⟨X, hX, h12, hXw⟩ := drawPlaces_ok (k := K) (xs := l) (by omega) (by omega)
  unfold laws_FnApplied.f laws_big.f
  rw [bindS, decide_eq_false h, if_neg (by decide), hP, bindS, hX, bindS]
  exact applied_l0 h8 h5 X r h12 (fun x hx => ⟨(hXw x hx).1, by have := (hXw x hx).2; omega⟩) hr hw ht pc P.length K 0 (by omega) (by omega) (by omega)
 exact ⟨_, key _ (Nat.le_refl _)⟩

end Go.Proofs.Ytdhifoacbpjpoaa.Pure
