/-
  The program's WarpOk answers what the reference's answers, for all arguments, and leaves its arguments as they were.
  No condition.
-/
import Derived.Test.YtdhifoacbpjpoaaPFnExactWarpOkx10
namespace Go.Proofs.Ytdhifoacbpjpoaa.Pure
open Go.RowKit Go.Proofs.Ytdhifoacbpjpoaa.PFnExactWarpOk Go.Proofs.YtdhifoacbpjpoaaW.PrintWords Go.Proofs.YtdhifoacbpjpoaaW.PrintLast Go.Proofs.YtdhifoacbpjpoaaW.PrintMore
set_option linter.unusedVariables false
set_option linter.unusedSimpArgs false

theorem w64 {x : Int} (h0 : -9223372036854775808 ≤ x) (h1 : x < 9223372036854775808) : wrap64 x = x := by unfold wrap64; omega
theorem drop_rd {l : List Int} {i : Int} (h0 : 0 ≤ i) (h1 : i < (l.length : Int)) : l.drop i.toNat = rd l i :: l.drop (i + 1).toNat := by
  have hi : i.toNat < l.length := by omega
  rw [show (i + 1).toNat = i.toNat + 1 by omega, List.drop_eq_getElem_cons hi]
  congr 1
  unfold rd
  rw [List.getD_eq_getElem?_getD, List.getElem?_eq_getElem hi]; rfl
theorem rd_mem {l : List Int} {i : Int} (h0 : 0 ≤ i) (h1 : i < (l.length : Int)) : rd l i ∈ l := by
  have hi : i.toNat < l.length := by omega
  unfold rd
  rw [List.getD_eq_getElem?_getD, List.getElem?_eq_getElem hi]
  exact List.getElem_mem hi
theorem take_set_succ {α : Type} {l x : List α} {i : Nat} (v : α) (hl : i < l.length) (hx : i < x.length) (h : x.take i = l.take i) (hv : l[i]'hl = v) : (x.set i v).take (i + 1) = l.take (i + 1) := by
  rw [List.take_succ_eq_append_getElem (by simpa using hx), List.take_succ_eq_append_getElem hl, List.take_set_of_le (Nat.le_refl i), h]
  simp [hv]
theorem rd_get {l : List Int} {i : Int} (h0 : 0 ≤ i) (h1 : i.toNat < l.length) : l[i.toNat]'h1 = rd l i := by
  unfold rd
  rw [List.getD_eq_getElem?_getD, List.getElem?_eq_getElem h1]; rfl
theorem need {p : Prop} (h : p) : p := h
theorem within_some (x a b : Int) : impl_within.f x a b = some (decide (a ≤ x ∧ x ≤ b)) := by
  unfold impl_within.f
  by_cases h : a ≤ x
  · rw [if_pos h]; simp [h]
  · rw [if_neg h]; simp [h]
theorem in_some (x a b : Int) : spec_l01In.f x a b = some (decide (a ≤ x ∧ x ≤ b)) := by
  unfold spec_l01In.f
  by_cases h : a ≤ x
  · rw [if_pos h]; simp [h]
  · rw [if_neg h]; simp [h]
theorem toIntS_l0 (l : List Int) (hl : l.length ≤ 1048576) : ∀ (d k : Nat) (x : List Int) (i : Int), 0 ≤ i → (l.length : Int) - i = d → d < k → x.length = l.length → x.take i.toNat = l.take i.toNat →
    laws_toIntS.l0 k l x i = some l := by
  intro d
  induction d with
  | zero =>
    intro k x i h0 hd hk hx ht
    obtain ⟨k, rfl⟩ : ∃ q, k = q + 1 := ⟨k - 1, by omega⟩
    simp only [laws_toIntS.l0]
    rw [if_neg (by omega)]
    rw [List.take_of_length_le (by omega), List.take_of_length_le (by omega)] at ht
    rw [ht]
  | succ d ih =>
    intro k x i h0 hd hk hx ht
    obtain ⟨k, rfl⟩ : ∃ q, k = q + 1 := ⟨k - 1, by omega⟩
    simp only [laws_toIntS.l0]
    rw [if_pos (by omega), if_pos h0, if_pos (by omega), w64 (by omega) (by omega)]
    refine ih k _ (i + 1) (by omega) (by omega) (by omega) (by simpa using hx) ?_
    rw [show (i + 1).toNat = i.toNat + 1 by omega]
    exact take_set_succ _ (by omega) (by omega) ht (rd_get h0 _)
theorem toIntS_eq {k : Nat} {l : List Int} (hl : l.length ≤ 1048576) (hk : l.length < k) : laws_toIntS.f k l = some l := by
  unfold laws_toIntS.f
  rw [if_pos (by omega), if_pos (by omega)]
  exact toIntS_l0 l hl l.length k _ 0 (by omega) (by omega) hk (by simp) (by simp)
theorem eqIntS_l0 (a b : List Int) (hab : a.length = b.length) (ha : a.length ≤ 9223372036854775807) : ∀ (d k : Nat) (i : Int), 0 ≤ i → (a.length : Int) - i = d → d < k →
    laws_eqIntS.l0 k a b i = some (decide (a.drop i.toNat = b.drop i.toNat)) := by
  intro d
  induction d with
  | zero =>
    intro k i h0 hd hk
    obtain ⟨k, rfl⟩ : ∃ q, k = q + 1 := ⟨k - 1, by omega⟩
    simp only [laws_eqIntS.l0]
    rw [if_neg (by omega), List.drop_of_length_le (by omega), List.drop_of_length_le (by omega)]
    simp
  | succ d ih =>
    intro k i h0 hd hk
    obtain ⟨k, rfl⟩ : ∃ q, k = q + 1 := ⟨k - 1, by omega⟩
    simp only [laws_eqIntS.l0]
    rw [if_pos (by omega), if_pos h0, if_pos (by omega), w64 (by omega) (by omega), drop_rd h0 (by omega), drop_rd (l := b) h0 (by omega)]
    by_cases h : rd a i = rd b i
    · rw [if_pos h, ih k (i + 1) (by omega) (by omega) (by omega)]
      simp [h]
    · rw [if_neg h]; simp [h]
theorem eqIntS_eq {k : Nat} {a b : List Int} (ha : a.length ≤ 9223372036854775807) (hk : a.length < k) : laws_eqIntS.f k a b = some (decide (a = b)) := by
  unfold laws_eqIntS.f
  by_cases h : a.length = b.length
  · rw [if_pos (by omega), eqIntS_l0 a b h ha a.length k 0 (by omega) (by omega) hk]; simp
  · rw [if_neg (by omega)]
    have : a ≠ b := fun e => h (by rw [e])
    simp [this]
theorem eqIntS_self {k : Nat} {a : List Int} (ha : a.length ≤ 9223372036854775807) (hk : a.length < k) : laws_eqIntS.f k a a = some true := by
  rw [eqIntS_eq ha hk]; simp
theorem spec_areWords_l0 (l : List Int) (hl : l.length ≤ 1048576) : ∀ (d k : Nat) (i : Int), 0 ≤ i → (l.length : Int) - i = d → d < k → spec_AreWords.l0 k l i = some ((l.drop i.toNat).all isWordB) := by
  intro d
  induction d with
  | zero =>
    intro k i h0 hd hk
    obtain ⟨k, rfl⟩ : ∃ q, k = q + 1 := ⟨k - 1, by omega⟩
    simp only [spec_AreWords.l0]
    rw [if_neg (by omega), List.drop_of_length_le (by omega)]; rfl
  | succ d ih =>
    intro k i h0 hd hk
    obtain ⟨k, rfl⟩ : ∃ q, k = q + 1 := ⟨k - 1, by omega⟩
    simp only [spec_AreWords.l0, spec_IsWord.f, in_some, Option.bind_some]
    rw [if_pos (by omega), if_pos h0, w64 (by omega) (by omega), drop_rd h0 (by omega), List.all_cons]
    by_cases h : 0 ≤ rd l i ∧ rd l i ≤ 65535
    · rw [if_pos (by simpa using h), ih k (i + 1) (by omega) (by omega) (by omega)]
      simp [isWordB, h]
    · rw [if_neg (by simpa using h)]
      simp [isWordB, h]
theorem spec_areWords_eq {k : Nat} {l : List Int} (hl : l.length ≤ 1048576) (hk : l.length < k) : spec_AreWords.f k l = some (l.all isWordB) := by
  unfold spec_AreWords.f
  rw [spec_areWords_l0 l hl l.length k 0 (by omega) (by omega) hk, Int.toNat_zero, List.drop_zero]
def isMaskB (m : Int) : Bool := decide (0 ≤ m ∧ m ≤ 255)
theorem spec_isMask_eq (m : Int) : spec_IsMask.f m = some (isMaskB m) := by
  unfold spec_IsMask.f isMaskB
  rw [in_some]; rfl
theorem impl_isMask_eq (m : Int) : impl_IsMask.f m = some (isMaskB m) := by
  unfold impl_IsMask.f isMaskB
  rw [within_some]; rfl
theorem drop_getD {α : Type} {l : List α} {i : Int} (z : α) (h0 : 0 ≤ i) (h1 : i < (l.length : Int)) : l.drop i.toNat = l.getD i.toNat z :: l.drop (i + 1).toNat := by
  have hi : i.toNat < l.length := by omega
  rw [show (i + 1).toNat = i.toNat + 1 by omega, List.drop_eq_getElem_cons hi, List.getD_eq_getElem?_getD, List.getElem?_eq_getElem hi]; rfl
theorem getD_get {α : Type} {l : List α} {n : Nat} (z : α) (h : n < l.length) : l.getD n z = l[n]'h := by
  rw [List.getD_eq_getElem?_getD, List.getElem?_eq_getElem h]; rfl
theorem getD_map {α β : Type} {l : List α} {n : Nat} (g : α → β) (z : α) (z2 : β) (h : n < l.length) : (l.map g).getD n z2 = g (l.getD n z) := by
  rw [getD_get z h, getD_get z2 (by simpa using h), List.getElem_map]
def left (a : Int) (n : Nat) : Int := if a - n < 0 then -1 else a - n
def cvI (x : S41) : S43 := ⟨x.f0, x.f1, x.f2, x.f3⟩
theorem toInsS_l0 (l : List S41) (hl : l.length ≤ 1048576) : ∀ (d k : Nat) (x : List S43) (i : Int), 0 ≤ i → (l.length : Int) - i = d → d < k → x.length = l.length → x.take i.toNat = (l.map cvI).take i.toNat →
    laws_toInsS.l0 k l x i = some (l.map cvI) := by
  intro d
  induction d with
  | zero =>
    intro k x i h0 hd hk hx ht
    obtain ⟨k, rfl⟩ : ∃ q, k = q + 1 := ⟨k - 1, by omega⟩
    simp only [laws_toInsS.l0]
    rw [if_neg (by omega)]
    rw [List.take_of_length_le (by omega), List.take_of_length_le (by simp; omega)] at ht
    rw [ht]
  | succ d ih =>
    intro k x i h0 hd hk hx ht
    obtain ⟨k, rfl⟩ : ∃ q, k = q + 1 := ⟨k - 1, by omega⟩
    simp only [laws_toInsS.l0, laws_toIns.f, Option.bind_some]
    rw [if_pos (by omega), if_pos h0, if_pos (by omega), w64 (by omega) (by omega)]
    refine ih k _ (i + 1) (by omega) (by omega) (by omega) (by simpa using hx) ?_
    rw [show (i + 1).toNat = i.toNat + 1 by omega]
    refine take_set_succ _ (by simp; omega) (by omega) ht ?_
    rw [List.getElem_map]
    unfold rd_T41
    rw [getD_get _ (by omega : i.toNat < l.length)]; rfl
theorem toInsS_eq {k : Nat} {l : List S41} (hl : l.length ≤ 1048576) (hk : l.length < k) : laws_toInsS.f k l = some (l.map cvI) := by
  unfold laws_toInsS.f
  rw [if_pos (by omega), if_pos (by omega)]
  exact toInsS_l0 l hl l.length k _ 0 (by omega) (by omega) hk (by simp) (by simp)
theorem eqInsS_l0 (a : List S43) (ha : a.length ≤ 9223372036854775807) : ∀ (d k : Nat) (i : Int), 0 ≤ i → (a.length : Int) - i = d → d < k →
    laws_eqInsS.l0 k a a i = some true := by
  intro d
  induction d with
  | zero =>
    intro k i h0 hd hk
    obtain ⟨k, rfl⟩ : ∃ q, k = q + 1 := ⟨k - 1, by omega⟩
    simp only [laws_eqInsS.l0]
    rw [if_neg (by omega)]
  | succ d ih =>
    intro k i h0 hd hk
    obtain ⟨k, rfl⟩ : ∃ q, k = q + 1 := ⟨k - 1, by omega⟩
    simp only [laws_eqInsS.l0, laws_eqIns.f, if_true, Option.bind_some]
    rw [if_pos (by omega), if_pos h0, if_pos (by omega), w64 (by omega) (by omega), ih k (i + 1) (by omega) (by omega) (by omega)]
theorem eqInsS_self {k : Nat} {a : List S43} (ha : a.length ≤ 9223372036854775807) (hk : a.length < k) : laws_eqInsS.f k a a = some true := by
  unfold laws_eqInsS.f
  rw [if_pos rfl, eqInsS_l0 a ha a.length k 0 (by omega) (by omega) hk]
theorem szInsS_eq (l : List S41) {a : Int} (h0 : 0 ≤ a) (h1 : a ≤ 1048576) (hl : l.length ≤ 9223372036854775807) : laws_szInsS.f l a = some (left a l.length) := by
  unfold laws_szInsS.f left
  rw [w64 (by omega) (by omega)]
  by_cases h : a - (l.length : Int) < 0
  · rw [if_pos h, if_pos h]
  · rw [if_neg h, if_neg h]
theorem szFrameS_eq (l : List S111) {a : Int} (h0 : 0 ≤ a) (h1 : a ≤ 1048576) (hl : l.length ≤ 9223372036854775807) : laws_szFrameS.f l a = some (left a l.length) := by
  unfold laws_szFrameS.f left
  rw [w64 (by omega) (by omega)]
  by_cases h : a - (l.length : Int) < 0
  · rw [if_pos h, if_pos h]
  · rw [if_neg h, if_neg h]
theorem szIntS_eq (l : List Int) {a : Int} (h0 : 0 ≤ a) (h1 : a ≤ 1048576) (hl : l.length ≤ 9223372036854775807) : laws_szIntS.f l a = some (left a l.length) := by
  unfold laws_szIntS.f left
  rw [w64 (by omega) (by omega)]
  by_cases h : a - (l.length : Int) < 0
  · rw [if_pos h, if_pos h]
  · rw [if_neg h, if_neg h]
def fldR (x : Int) : Bool := decide (0 ≤ x ∧ x ≤ 3)
def fldW (x : Int) : Bool := decide (0 ≤ x ∧ x ≤ 65535)
def fldT (n x : Int) : Bool := decide (0 ≤ x ∧ x ≤ n)
def fldB (n ch x : Int) : Bool := if ch = 82 then fldR x else if ch = 87 then fldW x else if ch = 84 then fldT n x else x == 0
def insB (n a b c d : Int) : Bool := if a = 0 ∨ a = 12 ∨ a = 16 then b == 0 && (c == 0 && d == 0) else if a = 1 then fldR b && (fldW c && d == 0) else if a = 2 ∨ a = 13 ∨ a = 14 ∨ a = 15 then fldR b && (fldR c && d == 0) else if a = 8 then fldR b && (c == 0 && d == 0) else if a = 10 then fldR b && (fldT n c && d == 0) else if a = 11 then b == 0 && (fldT n c && d == 0) else if 3 ≤ a ∧ a ≤ 9 then fldR b && (fldR c && fldR d) else false
theorem isField_eq (ch x n : Int) : impl_isField.f ch x n = some (fldB n ch x) := by
  unfold impl_isField.f impl_isReg.f impl_IsWord.f fldB
  simp only [within_some, Option.bind_some]
  split
  · rfl
  · split
    · rfl
    · split <;> rfl
theorem str3_ne (p q r : UInt8) : (⟨#[p, q, r]⟩ : ByteArray).toList ≠ [] := by
  unfold ByteArray.toList
  unfold ByteArray.toList.loop
  rw [if_pos (by show 0 < 3; decide)]
  unfold ByteArray.toList.loop
  rw [if_pos (by show 1 < 3; decide)]
  unfold ByteArray.toList.loop
  rw [if_pos (by show 2 < 3; decide)]
  unfold ByteArray.toList.loop
  rw [if_neg (by show ¬ 3 < 3; decide)]
  simp
theorem str0_eq : (⟨#[]⟩ : ByteArray).toList = [] := by
  unfold ByteArray.toList
  unfold ByteArray.toList.loop
  rw [if_neg (by show ¬ 0 < 0; decide)]; rfl
theorem insOk_str (p q r : UInt8) (a b c d n : Int) (h : impl_formOf.f a = some (⟨#[p, q, r]⟩ : ByteArray)) : impl_InsOk.f a b c d n = some (decide (0 ≤ n ∧ n ≤ 32) && (fldB n p.toNat b && (fldB n q.toNat c && fldB n r.toNat d))) := by
  unfold impl_InsOk.f
  rw [h]; simp only [Option.bind_some, within_some, isField_eq]
  rw [if_neg (str3_ne p q r)]
  have e0 : bt (⟨#[p, q, r]⟩ : ByteArray) 0 = p.toNat := rfl
  have e1 : bt (⟨#[p, q, r]⟩ : ByteArray) 1 = q.toNat := rfl
  have e2 : bt (⟨#[p, q, r]⟩ : ByteArray) 2 = r.toNat := rfl
  have es : ((⟨#[p, q, r]⟩ : ByteArray).size : Int) = 3 := rfl
  rw [e0, e1, e2, es]
  cases decide (0 ≤ n ∧ n ≤ 32) <;> cases fldB n p.toNat b <;> cases fldB n q.toNat c <;> cases fldB n r.toNat d <;> rfl
theorem insOk_none (a b c d n : Int) (h : ¬ (0 ≤ a ∧ a ≤ 16)) : impl_InsOk.f a b c d n = some false := by
  unfold impl_InsOk.f impl_formOf.f
  rw [within_some]; simp only [Option.bind_some]
  rw [if_neg (by simpa using h)]; simp only [Option.bind_some]
  rw [if_pos str0_eq]
theorem impl_insOk_eq (a b c d n : Int) : impl_InsOk.f a b c d n = some (decide (0 ≤ n ∧ n ≤ 32) && insB n a b c d) := by
  by_cases h : 0 ≤ a ∧ a ≤ 16
  · rcases (by omega : a = 0 ∨ a = 1 ∨ a = 2 ∨ a = 3 ∨ a = 4 ∨ a = 5 ∨ a = 6 ∨ a = 7 ∨ a = 8 ∨ a = 9 ∨ a = 10 ∨ a = 11 ∨ a = 12 ∨ a = 13 ∨ a = 14 ∨ a = 15 ∨ a = 16) with e | e | e | e | e | e | e | e | e | e | e | e | e | e | e | e | e <;> subst e <;> (first | (rw [insOk_str 45 45 45 _ b c d n rfl]; rfl) | (rw [insOk_str 82 87 45 _ b c d n rfl]; rfl) | (rw [insOk_str 82 82 45 _ b c d n rfl]; rfl) | (rw [insOk_str 82 82 82 _ b c d n rfl]; rfl) | (rw [insOk_str 82 45 45 _ b c d n rfl]; rfl) | (rw [insOk_str 82 84 45 _ b c d n rfl]; rfl) | (rw [insOk_str 45 84 45 _ b c d n rfl]; rfl))
  · rw [insOk_none a b c d n h]
    have : insB n a b c d = false := by
      unfold insB
      rw [if_neg (by omega), if_neg (by omega), if_neg (by omega), if_neg (by omega), if_neg (by omega), if_neg (by omega), if_neg (by omega)]
    rw [this, Bool.and_false]
theorem spec_reg_eq (x : Int) : spec_l04Reg.f x = some (fldR x) := by unfold spec_l04Reg.f; rw [in_some]; rfl
theorem spec_word_eq (x : Int) : spec_IsWord.f x = some (fldW x) := by unfold spec_IsWord.f; rw [in_some]; rfl
theorem spec_insOk_eq {k : Nat} (a b c d n : Int) (hk : 2 < k) : spec_InsOk.f k a b c d n = some (decide (0 ≤ n ∧ n ≤ 32) && insB n a b c d) := by
  obtain ⟨k, rfl⟩ : ∃ q, k = q + 1 + 1 := ⟨k - 2, by omega⟩
  have ht : spec_l01In.f c 0 n = some (fldT n c) := in_some _ _ _
  unfold spec_InsOk.f insB
  rw [in_some]; simp only [Option.bind_some]
  by_cases hn : 0 ≤ n ∧ n ≤ 32
  · rw [if_pos (by simpa using hn), decide_eq_true hn, Bool.true_and]
    simp only [spec_InsOk.j0, spec_InsOk.j1, spec_reg_eq, spec_word_eq, ht, in_some a 3 9, Option.bind_some]
    by_cases h : 0 ≤ a ∧ a ≤ 16
    · rcases (by omega : a = 0 ∨ a = 1 ∨ a = 2 ∨ a = 3 ∨ a = 4 ∨ a = 5 ∨ a = 6 ∨ a = 7 ∨ a = 8 ∨ a = 9 ∨ a = 10 ∨ a = 11 ∨ a = 12 ∨ a = 13 ∨ a = 14 ∨ a = 15 ∨ a = 16) with e | e | e | e | e | e | e | e | e | e | e | e | e | e | e | e | e <;> subst e <;> simp <;> by_cases hb : b = 0 <;> by_cases hc : c = 0 <;> (try simp [hb, hc]) <;> (try cases fldR b) <;> (try cases fldR 0) <;> (try cases fldR c) <;> (try cases fldW c) <;> (try cases fldW 0) <;> (try cases fldT n c) <;> (try cases fldT n 0) <;> (try simp)
    · have q0 : a ≠ 0 := by omega
      have q1 : a ≠ 1 := by omega
      have q2 : a ≠ 2 := by omega
      have q8 : a ≠ 8 := by omega
      have q10 : a ≠ 10 := by omega
      have q11 : a ≠ 11 := by omega
      have q12 : a ≠ 12 := by omega
      have q13 : a ≠ 13 := by omega
      have q14 : a ≠ 14 := by omega
      have q15 : a ≠ 15 := by omega
      have q16 : a ≠ 16 := by omega
      have q3 : ¬ (3 ≤ a ∧ a ≤ 9) := by omega
      simp [q0, q1, q2, q8, q10, q11, q12, q13, q14, q15, q16, q3]
  · rw [if_neg (by simpa using hn), decide_eq_false hn]; rfl
def insOk (n : Int) (x : S43) : Bool := decide (0 ≤ n ∧ n ≤ 32) && insB n x.f0 x.f1 x.f2 x.f3
def programOk (l : List S43) : Bool := decide (l.length ≤ 32) && l.all (insOk l.length)
theorem impl_programOk_eq (l : List S43) : impl_ProgramOk.f l = some (programOk l) := by
  unfold impl_ProgramOk.f programOk
  have hi : ∀ x : S43, insOkAt (l.length : Int) x = some (insOk l.length x) := fun x => impl_insOk_eq _ _ _ _ _
  have e : (fun x => insOkAt (l.length : Int) x == some true) = insOk (l.length : Int) := by
    funext x; rw [hi]; cases insOk (l.length : Int) x <;> rfl
  rw [if_pos, e]
  rw [List.all_eq_true]
  intro x _
  rw [hi]; rfl
theorem spec_programOk_l0 (l : List S43) (hl : l.length ≤ 1048576) : ∀ (d k : Nat) (i : Int), 0 ≤ i → (l.length : Int) - i = d → d + 2 < k →
    spec_ProgramOk.l0 k l i = some (if (l.drop i.toNat).all (insOk l.length) = true then decide (l.length ≤ 32) else false) := by
  intro d
  induction d with
  | zero =>
    intro k i h0 hd hk
    obtain ⟨k, rfl⟩ : ∃ q, k = q + 1 := ⟨k - 1, by omega⟩
    simp only [spec_ProgramOk.l0]
    rw [if_neg (by omega), List.drop_of_length_le (by omega)]
    by_cases h : l.length ≤ 32
    · rw [decide_eq_true (by omega : (l.length : Int) ≤ 32), decide_eq_true h]; rfl
    · rw [decide_eq_false (by omega : ¬ (l.length : Int) ≤ 32), decide_eq_false h]; rfl
  | succ d ih =>
    intro k i h0 hd hk
    obtain ⟨k, rfl⟩ : ∃ q, k = q + 1 := ⟨k - 1, by omega⟩
    simp only [spec_ProgramOk.l0]
    rw [if_pos (by omega), if_pos h0, w64 (by omega) (by omega), spec_insOk_eq _ _ _ _ _ (by omega), drop_getD z43 h0 (by omega), ih k (i + 1) (by omega) (by omega) (by omega)]
    simp only [Option.bind_some, List.all_cons]
    change (if (insOk (l.length : Int) (rd_T43 l i)) = true then _ else _) = _
    change _ = some (if (insOk (l.length : Int) (rd_T43 l i) && _) = true then _ else _)
    cases insOk (l.length : Int) (rd_T43 l i) <;> rfl
theorem spec_programOk_eq {k : Nat} {l : List S43} (hl : l.length ≤ 1048576) (hk : l.length + 2 < k) : spec_ProgramOk.f k l = some (programOk l) := by
  unfold spec_ProgramOk.f programOk
  rw [spec_programOk_l0 l hl l.length k 0 (by omega) (by omega) hk, Int.toNat_zero, List.drop_zero]
  cases l.all (insOk (l.length : Int)) <;> simp
def cvF (x : S111) : S82 := ⟨x.f0, x.f1, x.f2⟩
theorem toFrameS_l0 (l : List S111) (hl : l.length ≤ 1048576) : ∀ (d k : Nat) (x : List S82) (i : Int), 0 ≤ i → (l.length : Int) - i = d → d < k → x.length = l.length → x.take i.toNat = (l.map cvF).take i.toNat →
    laws_toFrameS.l0 k l x i = some (l.map cvF) := by
  intro d
  induction d with
  | zero =>
    intro k x i h0 hd hk hx ht
    obtain ⟨k, rfl⟩ : ∃ q, k = q + 1 := ⟨k - 1, by omega⟩
    simp only [laws_toFrameS.l0]
    rw [if_neg (by omega)]
    rw [List.take_of_length_le (by omega), List.take_of_length_le (by simp; omega)] at ht
    rw [ht]
  | succ d ih =>
    intro k x i h0 hd hk hx ht
    obtain ⟨k, rfl⟩ : ∃ q, k = q + 1 := ⟨k - 1, by omega⟩
    simp only [laws_toFrameS.l0, laws_toFrame.f, Option.bind_some]
    rw [if_pos (by omega), if_pos h0, if_pos (by omega), w64 (by omega) (by omega)]
    refine ih k _ (i + 1) (by omega) (by omega) (by omega) (by simpa using hx) ?_
    rw [show (i + 1).toNat = i.toNat + 1 by omega]
    refine take_set_succ _ (by simp; omega) (by omega) ht ?_
    rw [List.getElem_map]
    unfold rd_T111
    rw [getD_get _ (by omega : i.toNat < l.length)]; rfl
theorem toFrameS_eq {k : Nat} {l : List S111} (hl : l.length ≤ 1048576) (hk : l.length < k) : laws_toFrameS.f k l = some (l.map cvF) := by
  unfold laws_toFrameS.f
  rw [if_pos (by omega), if_pos (by omega)]
  exact toFrameS_l0 l hl l.length k _ 0 (by omega) (by omega) hk (by simp) (by simp)
theorem eqFrameS_l0 (a : List S82) (ha : a.length ≤ 9223372036854775807) : ∀ (d k : Nat) (i : Int), 0 ≤ i → (a.length : Int) - i = d → d < k →
    laws_eqFrameS.l0 k a a i = some true := by
  intro d
  induction d with
  | zero =>
    intro k i h0 hd hk
    obtain ⟨k, rfl⟩ : ∃ q, k = q + 1 := ⟨k - 1, by omega⟩
    simp only [laws_eqFrameS.l0]
    rw [if_neg (by omega)]
  | succ d ih =>
    intro k i h0 hd hk
    obtain ⟨k, rfl⟩ : ∃ q, k = q + 1 := ⟨k - 1, by omega⟩
    simp only [laws_eqFrameS.l0, laws_eqFrame.f, if_true, Option.bind_some]
    rw [if_pos (by omega), if_pos h0, if_pos (by omega), w64 (by omega) (by omega), ih k (i + 1) (by omega) (by omega) (by omega)]
theorem eqFrameS_self {k : Nat} {a : List S82} (ha : a.length ≤ 9223372036854775807) (hk : a.length < k) : laws_eqFrameS.f k a a = some true := by
  unfold laws_eqFrameS.f
  rw [if_pos rfl, eqFrameS_l0 a ha a.length k 0 (by omega) (by omega) hk]
theorem left_ok {a : Int} {n : Nat} (ha : 0 ≤ a) (ha1 : a ≤ 1048576) (h : ¬ left a n < 0) : left a n = a - n ∧ 0 ≤ a - n ∧ n ≤ 1048576 := by
  unfold left at h ⊢
  split at h
  · omega
  · rename_i q; rw [if_neg q]; omega
theorem szWarp_neg (n : Int) (f : List S111) (r : List Int) {a : Int} (h0 : 0 ≤ a) (h1 : a ≤ 1048576) (hl : f.length ≤ 9223372036854775807) (h : left a f.length < 0) : laws_szWarp.f n f r a = some (-1) := by
  unfold laws_szWarp.f
  rw [szFrameS_eq f h0 h1 hl]; simp only [Option.bind_some]
  rw [if_pos h]
theorem szWarp_pos (n : Int) (f : List S111) (r : List Int) {a : Int} (h0 : 0 ≤ a) (h1 : a ≤ 1048576) (hl : f.length ≤ 9223372036854775807) (hr : r.length ≤ 9223372036854775807) (h : ¬ left a f.length < 0) : laws_szWarp.f n f r a = some (left (a - f.length) r.length) := by
  have hq := left_ok h0 h1 h
  unfold laws_szWarp.f
  rw [szFrameS_eq f h0 h1 hl]; simp only [Option.bind_some]
  rw [if_neg h, hq.1, szIntS_eq r (by omega) (by omega) hr]; simp only [Option.bind_some]
  by_cases h2 : left (a - f.length) r.length < 0
  · rw [if_pos h2]; unfold left at h2 ⊢; split at h2 <;> simp_all
  · rw [if_neg h2]
theorem toWarp_eq {k : Nat} {n : Int} {f : List S111} {r : List Int} (hf : f.length ≤ 1048576) (hr : r.length ≤ 1048576) (hk : f.length < k) (hk2 : r.length < k) : laws_toWarp.f k n f r = some (n, f.map cvF, r) := by
  unfold laws_toWarp.f
  rw [toFrameS_eq hf hk, toIntS_eq hr hk2]; rfl
theorem eqWarp_self {k : Nat} {n : Int} {f : List S82} {r : List Int} (hf : f.length ≤ 9223372036854775807) (hr : r.length ≤ 9223372036854775807) (hk : f.length < k) (hk2 : r.length < k) : laws_eqWarp.f k n f r n f r = some true := by
  unfold laws_eqWarp.f
  rw [if_pos rfl, eqFrameS_self hf hk, Option.bind_some, if_pos rfl, eqIntS_self hr hk2]; rfl
def frOk (n : Int) (x : S82) : Bool := decide (0 ≤ x.f0 ∧ x.f0 ≤ n) && (decide (0 ≤ x.f1 ∧ x.f1 ≤ n) && (isMaskB x.f2 && !(x.f2 == 0)))
def botB (n : Int) (f : List S82) : Bool := (rd_T82 f 0).f1 == n && (rd_T82 f 0).f2 == 255
def topB (n : Int) (f : List S82) : Bool := !((rd_T82 f ((f.length : Int) - 1)).f0 == (rd_T82 f ((f.length : Int) - 1)).f1) && !((rd_T82 f ((f.length : Int) - 1)).f0 == n)
def framesOk (n : Int) (f : List S82) : Bool := f.all (frOk n) && (decide (f.length = 0) || (decide (f.length ≤ 24) && (topB n f && botB n f)))
theorem impl_areFrames_l0 (f : List S82) (n : Int) (hf : f.length ≤ 1048576) : ∀ (d k : Nat) (i : Int), 0 ≤ i → (f.length : Int) - i = d → d < k →
    impl_areFrames.l0 k f n f (f.length : Int) i = some ((f.drop i.toNat).all (frOk n) && (decide (f.length = 0) || (decide (f.length ≤ 24) && (topB n f && botB n f)))) := by
  intro d
  induction d with
  | zero =>
    intro k i h0 hd hk
    obtain ⟨k, rfl⟩ : ∃ q, k = q + 1 := ⟨k - 1, by omega⟩
    simp only [impl_areFrames.l0]
    rw [if_neg (by omega), List.drop_of_length_le (by omega), List.all_nil, Bool.true_and]
    by_cases he : f.length = 0
    · rw [if_pos (by omega), decide_eq_true he]; rfl
    · rw [if_neg (by omega), w64 (by omega) (by omega), if_pos (by omega), if_pos (by omega), decide_eq_false he, Bool.false_or]
      by_cases h24 : f.length ≤ 24
      · rw [if_pos (by omega), decide_eq_true h24, Bool.true_and]
        unfold topB botB
        by_cases e1 : (rd_T82 f ((f.length : Int) - 1)).f0 = (rd_T82 f ((f.length : Int) - 1)).f1
        · rw [if_pos e1]; simp [e1]
        · rw [if_neg e1]
          by_cases e2 : (rd_T82 f ((f.length : Int) - 1)).f0 = n
          · rw [if_pos e2]; simp [e2]
          · rw [if_neg e2, if_pos (by omega)]
            by_cases e3 : (rd_T82 f 0).f1 = n
            · rw [if_pos e3]; simp [e1, e2, e3]
            · rw [if_neg e3]; simp [e3]
      · rw [if_neg (by omega), decide_eq_false h24]; rfl
  | succ d ih =>
    intro k i h0 hd hk
    obtain ⟨k, rfl⟩ : ∃ q, k = q + 1 := ⟨k - 1, by omega⟩
    simp only [impl_areFrames.l0, within_some, impl_isMask_eq, Option.bind_some]
    rw [if_pos (by omega), if_pos h0, if_pos (by omega), w64 (by omega) (by omega), drop_getD z82 h0 (by omega), ih k (i + 1) (by omega) (by omega) (by omega), List.all_cons]
    change _ = some ((frOk n (rd_T82 f i) && _) && _)
    unfold frOk
    cases decide (0 ≤ (rd_T82 f i).f0 ∧ (rd_T82 f i).f0 ≤ n)
    · rfl
    cases decide (0 ≤ (rd_T82 f i).f1 ∧ (rd_T82 f i).f1 ≤ n)
    · rfl
    cases isMaskB (rd_T82 f i).f2
    · rfl
    by_cases hz : (rd_T82 f i).f2 = 0
    · rw [if_pos rfl, if_pos rfl, if_pos rfl, if_pos hz, hz]; rfl
    · have hz2 : ((rd_T82 f i).f2 == 0) = false := by simpa using hz
      rw [if_pos rfl, if_pos rfl, if_pos rfl, if_neg hz, hz2]; rfl
theorem spec_warp_l0 (l : List S43) (m : Int) (f : List S82) (r : List Int) (hf : f.length ≤ 1048576) : ∀ (d k : Nat) (i : Int), 0 ≤ i → (f.length : Int) - i = d → 2 * d < k →
    spec_WarpOk.l0 k l i m f r = some ((f.drop i.toNat).all (frOk l.length) && ((decide (i ≠ 0 ∨ f.length = 0) || botB l.length f) && (decide ((f.length : Int) ≤ i) || topB l.length f))) := by
  intro d
  induction d with
  | zero =>
    intro k i h0 hd hk
    obtain ⟨k, rfl⟩ : ∃ q, k = q + 1 := ⟨k - 1, by omega⟩
    simp only [spec_WarpOk.l0]
    rw [if_neg (by omega), List.drop_of_length_le (by omega), List.all_nil, Bool.true_and, decide_eq_true (by omega : i ≠ 0 ∨ f.length = 0), decide_eq_true (by omega : (f.length : Int) ≤ i)]; rfl
  | succ d ih =>
    intro k i h0 hd hk
    obtain ⟨k, rfl⟩ : ∃ q, k = q + 1 + 1 := ⟨k - 2, by omega⟩
    simp only [spec_WarpOk.l0, spec_WarpOk.j2, in_some, spec_isMask_eq, Option.bind_some]
    rw [if_pos (by omega), if_pos h0, w64 (x := (f.length : Int) - 1) (by omega) (by omega), w64 (x := i + 1) (by omega) (by omega), drop_getD z82 h0 (by omega), ih k (i + 1) (by omega) (by omega) (by omega), List.all_cons, decide_eq_true (by omega : i + 1 ≠ 0 ∨ f.length = 0), decide_eq_false (by omega : ¬ (f.length : Int) ≤ i)]
    change _ = some ((frOk l.length (rd_T82 f i) && _) && _)
    unfold frOk
    cases decide (0 ≤ (rd_T82 f i).f0 ∧ (rd_T82 f i).f0 ≤ (l.length : Int))
    · rfl
    cases decide (0 ≤ (rd_T82 f i).f1 ∧ (rd_T82 f i).f1 ≤ (l.length : Int))
    · rfl
    cases isMaskB (rd_T82 f i).f2
    · rfl
    cases hz : (rd_T82 f i).f2 == 0
    · simp only [if_true, Bool.false_eq_true, if_false, Bool.not_false, Bool.and_self, Bool.true_and, Bool.true_or, Bool.false_or]
      generalize (f.drop (i + 1).toNat).all (frOk (l.length : Int)) = R
      by_cases hi : i = (f.length : Int) - 1
      · rw [if_pos hi, decide_eq_true (by omega : (f.length : Int) ≤ i + 1)]
        have ht : topB (l.length : Int) f = (!((rd_T82 f i).f0 == (rd_T82 f i).f1) && !((rd_T82 f i).f0 == (l.length : Int))) := by unfold topB; rw [← hi]
        rw [ht]
        by_cases hi0 : i = 0
        · rw [if_pos hi0, decide_eq_false (by omega : ¬ (i ≠ 0 ∨ f.length = 0))]
          have hb : botB (l.length : Int) f = ((rd_T82 f i).f1 == (l.length : Int) && (rd_T82 f i).f2 == 255) := by unfold botB; rw [hi0]
          rw [hb]
          by_cases e1 : (rd_T82 f i).f1 = (l.length : Int) <;> by_cases e2 : (rd_T82 f i).f2 = 255 <;> by_cases e3 : (rd_T82 f i).f0 = (rd_T82 f i).f1 <;> by_cases e4 : (rd_T82 f i).f0 = (l.length : Int) <;> simp_all
        · rw [if_neg hi0, decide_eq_true (by omega : i ≠ 0 ∨ f.length = 0)]
          by_cases e3 : (rd_T82 f i).f0 = (rd_T82 f i).f1 <;> by_cases e4 : (rd_T82 f i).f0 = (l.length : Int) <;> simp_all
      · rw [if_neg hi, decide_eq_false (by omega : ¬ (f.length : Int) ≤ i + 1)]
        by_cases hi0 : i = 0
        · rw [if_pos hi0, decide_eq_false (by omega : ¬ (i ≠ 0 ∨ f.length = 0))]
          have hb : botB (l.length : Int) f = ((rd_T82 f i).f1 == (l.length : Int) && (rd_T82 f i).f2 == 255) := by unfold botB; rw [hi0]
          rw [hb]
          by_cases e1 : (rd_T82 f i).f1 = (l.length : Int) <;> by_cases e2 : (rd_T82 f i).f2 = 255 <;> cases topB (l.length : Int) f <;> simp_all
        · rw [if_neg hi0, decide_eq_true (by omega : i ≠ 0 ∨ f.length = 0)]; simp
    · rfl
def warpOk (l : List S43) (m : Int) (f : List S82) (r : List Int) : Bool := programOk l && (decide (0 ≤ m ∧ m ≤ 2) && (decide (r.length = 32) && (r.all isWordB && framesOk l.length f)))
theorem impl_warpOk_eq {k : Nat} (l : List S43) (m : Int) {f : List S82} (r : List Int) (hf : f.length ≤ 1048576) (hk : f.length < k) : impl_WarpOk.f k l m f r = some (warpOk l m f r) := by
  unfold impl_WarpOk.f impl_isWarpOf.f impl_isWarpNumber.f impl_areAllRegs.f impl_AreWords.f impl_areFrames.f warpOk framesOk
  simp only [impl_programOk_eq, within_some, Option.bind_some, impl_areFrames_l0 f _ hf f.length k 0 (by omega) (by omega) hk, Int.toNat_zero, List.drop_zero]
  have e : ((r.length : Int) == 32) = decide (r.length = 32) := by
    by_cases h : r.length = 32
    · rw [decide_eq_true h, h]; rfl
    · rw [decide_eq_false h]; simp; omega
  rw [e]
  cases programOk l <;> cases decide (0 ≤ m ∧ m ≤ 2) <;> cases decide (r.length = 32) <;> cases r.all isWordB <;> rfl
theorem spec_warpOk_eq {k : Nat} {l : List S43} (m : Int) {f : List S82} {r : List Int} (hl : l.length ≤ 1048576) (hf : f.length ≤ 1048576) (hr : r.length ≤ 1048576) (hk : l.length + 2 < k) (hk2 : 2 * f.length + 1 < k) (hk3 : r.length < k) : spec_WarpOk.f k l m f r = some (warpOk l m f r) := by
  obtain ⟨k, rfl⟩ : ∃ q, k = q + 1 := ⟨k - 1, by omega⟩
  unfold spec_WarpOk.f warpOk framesOk
  simp only [spec_programOk_eq hl hk, in_some, spec_areWords_eq hr hk3, Option.bind_some, spec_WarpOk.j0, if_true, spec_warp_l0 l m f r hf f.length k 0 (by omega) (by omega) (by omega), Int.toNat_zero, List.drop_zero]
  cases programOk l
  · rfl
  cases decide (0 ≤ m ∧ m ≤ 2)
  · rfl
  by_cases h : r.length = 32
  · rw [if_pos rfl, if_pos rfl, if_pos (by omega), decide_eq_true h]
    cases r.all isWordB
    · rfl
    by_cases h24 : f.length ≤ 24
    · rw [decide_eq_false (by omega : ¬ (f.length : Int) > 24), decide_eq_true h24]
      by_cases he : f.length = 0
      · rw [decide_eq_true (by omega : (0 : Int) ≠ 0 ∨ f.length = 0), decide_eq_true (by omega : (f.length : Int) ≤ 0), decide_eq_true he]; simp
      · rw [decide_eq_false (by omega : ¬ ((0 : Int) ≠ 0 ∨ f.length = 0)), decide_eq_false (by omega : ¬ (f.length : Int) ≤ 0), decide_eq_false he]
        cases botB (l.length : Int) f <;> cases topB (l.length : Int) f <;> simp
    · rw [decide_eq_true (by omega : (f.length : Int) > 24), decide_eq_false h24, decide_eq_false (by omega : ¬ f.length = 0)]; simp
  · rw [if_pos rfl, if_pos rfl, if_neg (by omega), decide_eq_false h]; rfl

theorem FnExactWarpOk : laws_FnExactWarpOk.Pure := by
  intro l n f r hl _ hf hr
  unfold maxLen at hl hf hr
  by_cases h : left 1048576 l.length < 0
  · exact ⟨0, by unfold laws_FnExactWarpOk.f; rw [szInsS_eq l (by omega) (by omega) (by omega)]; simp only [Option.bind_some]; rw [if_pos h]⟩
  have h' := left_ok (by omega) (by omega) h
  by_cases h2 : left (1048576 - (l.length : Int)) f.length < 0
  · exact ⟨0, by unfold laws_FnExactWarpOk.f; rw [szInsS_eq l (by omega) (by omega) (by omega)]; simp only [Option.bind_some]; rw [if_neg h, h'.1, szWarp_neg n f r (by omega) (by omega) (by omega) h2]; rfl⟩
  have h2' := left_ok (by omega) (by omega) h2
  by_cases h3 : left (1048576 - (l.length : Int) - (f.length : Int)) r.length < 0
  · exact ⟨0, by unfold laws_FnExactWarpOk.f; rw [szInsS_eq l (by omega) (by omega) (by omega)]; simp only [Option.bind_some]; rw [if_neg h, h'.1, szWarp_pos n f r (by omega) (by omega) (by omega) (by omega) h2]; simp only [Option.bind_some]; rw [if_pos h3]⟩
  have h3' := left_ok (by omega) (by omega) h3
  have hm : (l.map cvI).length = l.length := List.length_map ..
  have hm2 : (f.map cvF).length = f.length := List.length_map ..
  refine ⟨l.length + 2 * f.length + r.length + 50, ?_⟩
  unfold laws_FnExactWarpOk.f
  rw [szInsS_eq l (by omega) (by omega) (by omega)]; simp only [Option.bind_some]
  rw [if_neg h, h'.1, szWarp_pos n f r (by omega) (by omega) (by omega) (by omega) h2]; simp only [Option.bind_some]
  rw [if_neg h3]
  simp only [toInsS_eq (k := l.length + 2 * f.length + r.length + 50) h'.2.2 (by omega), toWarp_eq (k := l.length + 2 * f.length + r.length + 50) (n := n) h2'.2.2 h3'.2.2 (by omega) (by omega), spec_warpOk_eq (k := l.length + 2 * f.length + r.length + 50) (l := l.map cvI) n (f := f.map cvF) (r := r) (by omega) (by omega) (by omega) (by omega) (by omega) (by omega), impl_warpOk_eq (k := l.length + 2 * f.length + r.length + 50) (l.map cvI) n (f := f.map cvF) r (by omega) (by omega), eqInsS_self (k := l.length + 2 * f.length + r.length + 50) (a := l.map cvI) (by omega) (by omega), eqWarp_self (k := l.length + 2 * f.length + r.length + 50) (n := n) (f := f.map cvF) (r := r) (by omega) (by omega) (by omega) (by omega), Option.bind_some, if_true]
  simp

end Go.Proofs.Ytdhifoacbpjpoaa.Pure
