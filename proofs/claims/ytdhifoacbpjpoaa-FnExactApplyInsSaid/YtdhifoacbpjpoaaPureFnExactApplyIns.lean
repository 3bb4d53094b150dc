/-
  The program's ApplyIns returns what the reference's returns, for all arguments, in new memory, and leaves its arguments as they were.
  No condition.
-/
import Derived.Test.YtdhifoacbpjpoaaPFnExactApplyInsx10
namespace Go.Proofs.Ytdhifoacbpjpoaa.Pure
open Go.RowKit Go.Proofs.Ytdhifoacbpjpoaa.PFnExactApplyIns Go.Proofs.YtdhifoacbpjpoaaW.PrintWords Go.Proofs.YtdhifoacbpjpoaaW.PrintLast Go.Proofs.YtdhifoacbpjpoaaW.PrintMore
set_option linter.unusedVariables false
set_option linter.unusedSimpArgs false

theorem w64 {x : Int} (h0 : -9223372036854775808 ≤ x) (h1 : x < 9223372036854775808) : wrap64 x = x := by unfold wrap64; omega
theorem drop_rd {l : List Int} {i : Int} (h0 : 0 ≤ i) (h1 : i < (l.length : Int)) : l.drop i.toNat = rd l i :: l.drop (i + 1).toNat := by
  have hi : i.toNat < l.length := by omega
  rw [show (i + 1).toNat = i.toNat + 1 by omega, List.drop_eq_getElem_cons hi]
  congr 1
  unfold rd
  rw [List.getD_eq_getElem?_getD, List.getElem?_eq_getElem hi]; rfl
theorem rd_mem {l : List Int} {i : Int} (h0 : 0 ≤ i) (h1 : i < (l.length : Int)) : rd l i ∈ l := by
  have hi : i.toNat < l.length := by omega
  unfold rd
  rw [List.getD_eq_getElem?_getD, List.getElem?_eq_getElem hi]
  exact List.getElem_mem hi
theorem take_set_succ {α : Type} {l x : List α} {i : Nat} (v : α) (hl : i < l.length) (hx : i < x.length) (h : x.take i = l.take i) (hv : l[i]'hl = v) : (x.set i v).take (i + 1) = l.take (i + 1) := by
  rw [List.take_succ_eq_append_getElem (by simpa using hx), List.take_succ_eq_append_getElem hl, List.take_set_of_le (Nat.le_refl i), h]
  simp [hv]
theorem rd_get {l : List Int} {i : Int} (h0 : 0 ≤ i) (h1 : i.toNat < l.length) : l[i.toNat]'h1 = rd l i := by
  unfold rd
  rw [List.getD_eq_getElem?_getD, List.getElem?_eq_getElem h1]; rfl
theorem need {p : Prop} (h : p) : p := h
theorem within_some (x a b : Int) : impl_within.f x a b = some (decide (a ≤ x ∧ x ≤ b)) := by
  unfold impl_within.f
  by_cases h : a ≤ x
  · rw [if_pos h]; simp [h]
  · rw [if_neg h]; simp [h]
theorem in_some (x a b : Int) : spec_l01In.f x a b = some (decide (a ≤ x ∧ x ≤ b)) := by
  unfold spec_l01In.f
  by_cases h : a ≤ x
  · rw [if_pos h]; simp [h]
  · rw [if_neg h]; simp [h]
theorem toIntS_l0 (l : List Int) (hl : l.length ≤ 1048576) : ∀ (d k : Nat) (x : List Int) (i : Int), 0 ≤ i → (l.length : Int) - i = d → d < k → x.length = l.length → x.take i.toNat = l.take i.toNat →
    laws_toIntS.l0 k l x i = some l := by
  intro d
  induction d with
  | zero =>
    intro k x i h0 hd hk hx ht
    obtain ⟨k, rfl⟩ : ∃ q, k = q + 1 := ⟨k - 1, by omega⟩
    simp only [laws_toIntS.l0]
    rw [if_neg (by omega)]
    rw [List.take_of_length_le (by omega), List.take_of_length_le (by omega)] at ht
    rw [ht]
  | succ d ih =>
    intro k x i h0 hd hk hx ht
    obtain ⟨k, rfl⟩ : ∃ q, k = q + 1 := ⟨k - 1, by omega⟩
    simp only [laws_toIntS.l0]
    rw [if_pos (by omega), if_pos h0, if_pos (by omega), w64 (by omega) (by omega)]
    refine ih k _ (i + 1) (by omega) (by omega) (by omega) (by simpa using hx) ?_
    rw [show (i + 1).toNat = i.toNat + 1 by omega]
    exact take_set_succ _ (by omega) (by omega) ht (rd_get h0 _)
theorem toIntS_eq {k : Nat} {l : List Int} (hl : l.length ≤ 1048576) (hk : l.length < k) : laws_toIntS.f k l = some l := by
  unfold laws_toIntS.f
  rw [if_pos (by omega), if_pos (by omega)]
  exact toIntS_l0 l hl l.length k _ 0 (by omega) (by omega) hk (by simp) (by simp)
theorem eqIntS_l0 (a b : List Int) (hab : a.length = b.length) (ha : a.length ≤ 9223372036854775807) : ∀ (d k : Nat) (i : Int), 0 ≤ i → (a.length : Int) - i = d → d < k →
    laws_eqIntS.l0 k a b i = some (decide (a.drop i.toNat = b.drop i.toNat)) := by
  intro d
  induction d with
  | zero =>
    intro k i h0 hd hk
    obtain ⟨k, rfl⟩ : ∃ q, k = q + 1 := ⟨k - 1, by omega⟩
    simp only [laws_eqIntS.l0]
    rw [if_neg (by omega), List.drop_of_length_le (by omega), List.drop_of_length_le (by omega)]
    simp
  | succ d ih =>
    intro k i h0 hd hk
    obtain ⟨k, rfl⟩ : ∃ q, k = q + 1 := ⟨k - 1, by omega⟩
    simp only [laws_eqIntS.l0]
    rw [if_pos (by omega), if_pos h0, if_pos (by omega), w64 (by omega) (by omega), drop_rd h0 (by omega), drop_rd (l := b) h0 (by omega)]
    by_cases h : rd a i = rd b i
    · rw [if_pos h, ih k (i + 1) (by omega) (by omega) (by omega)]
      simp [h]
    · rw [if_neg h]; simp [h]
theorem eqIntS_eq {k : Nat} {a b : List Int} (ha : a.length ≤ 9223372036854775807) (hk : a.length < k) : laws_eqIntS.f k a b = some (decide (a = b)) := by
  unfold laws_eqIntS.f
  by_cases h : a.length = b.length
  · rw [if_pos (by omega), eqIntS_l0 a b h ha a.length k 0 (by omega) (by omega) hk]; simp
  · rw [if_neg (by omega)]
    have : a ≠ b := fun e => h (by rw [e])
    simp [this]
theorem eqIntS_self {k : Nat} {a : List Int} (ha : a.length ≤ 9223372036854775807) (hk : a.length < k) : laws_eqIntS.f k a a = some true := by
  rw [eqIntS_eq ha hk]; simp
theorem markIntS_l0 (s : Int) (n : Nat) (hs : 0 ≤ s) (hb : s + n < 9223372036854775807) : ∀ (d k : Nat) (x : List Int) (i : Int), 0 ≤ i → (n : Int) - i = d → d < k → x.length = n → (∀ j : Nat, (j : Int) < i → rd x j = s + j) →
    ∃ y, laws_markIntS.l0 k x (s + i) i = some (s + n, y) ∧ y.length = n ∧ ∀ j : Nat, j < n → rd y j = s + j := by
  intro d
  induction d with
  | zero =>
    intro k x i h0 hd hk hx hr
    obtain ⟨k, rfl⟩ : ∃ q, k = q + 1 := ⟨k - 1, by omega⟩
    simp only [laws_markIntS.l0]
    rw [if_neg (by omega)]
    exact ⟨x, by rw [show s + i = s + n by omega], hx, fun j hj => hr j (by omega)⟩
  | succ d ih =>
    intro k x i h0 hd hk hx hr
    obtain ⟨k, rfl⟩ : ∃ q, k = q + 1 := ⟨k - 1, by omega⟩
    simp only [laws_markIntS.l0]
    rw [if_pos (by omega), if_pos h0, w64 (by omega) (by omega), w64 (by omega) (by omega), show s + i + 1 = s + (i + 1) by omega]
    refine ih k _ (i + 1) (by omega) (by omega) (by omega) (by simpa using hx) fun j hj => ?_
    by_cases e : (j : Int) = i
    · unfold rd
      rw [show i.toNat = j by omega, Int.toNat_natCast, List.getD_eq_getElem?_getD, List.getElem?_set_self (by omega)]
      simp; omega
    · have := hr j (by omega)
      unfold rd at this ⊢
      rw [Int.toNat_natCast] at this ⊢
      rw [← this, List.getD_eq_getElem?_getD, List.getD_eq_getElem?_getD, List.getElem?_set_ne (by omega)]
theorem heldIntS_l0 (s : Int) (n : Nat) (y : List Int) (hs : 0 ≤ s) (hb : s + n < 9223372036854775807) (hy : y.length = n) (hr : ∀ j : Nat, j < n → rd y j = s + j) : ∀ (d k : Nat) (i : Int), 0 ≤ i → (n : Int) - i = d → d < k →
    laws_heldIntS.l0 k y (s + i) i = some (s + n) := by
  intro d
  induction d with
  | zero =>
    intro k i h0 hd hk
    obtain ⟨k, rfl⟩ : ∃ q, k = q + 1 := ⟨k - 1, by omega⟩
    simp only [laws_heldIntS.l0]
    rw [if_neg (by omega), show s + i = s + n by omega]
  | succ d ih =>
    intro k i h0 hd hk
    obtain ⟨k, rfl⟩ : ∃ q, k = q + 1 := ⟨k - 1, by omega⟩
    have := hr i.toNat (by omega)
    rw [show ((i.toNat : Nat) : Int) = i by omega] at this
    simp only [laws_heldIntS.l0]
    rw [if_pos (by omega), if_pos h0, if_pos this, w64 (by omega) (by omega), w64 (by omega) (by omega), show s + i + 1 = s + (i + 1) by omega]
    exact ih k (i + 1) (by omega) (by omega) (by omega)
theorem markIntS_eq {k : Nat} {l : List Int} {s : Int} (hs : 0 ≤ s) (hb : s + l.length < 9223372036854775807) (hk : l.length < k) :
    ∃ y, laws_markIntS.f k l s = some (s + l.length, y) ∧ ∀ q, l.length < q → laws_heldIntS.f q y s = some (s + l.length) := by
  obtain ⟨y, h1, h2, h3⟩ := markIntS_l0 s l.length hs hb l.length k l 0 (by omega) (by omega) hk rfl (fun j hj => by omega)
  rw [Int.add_zero] at h1
  refine ⟨y, h1, fun q hq => ?_⟩
  have := heldIntS_l0 s l.length y hs hb h2 h3 l.length q 0 (by omega) (by omega) hq
  rwa [Int.add_zero] at this
theorem spec_areWords_l0 (l : List Int) (hl : l.length ≤ 1048576) : ∀ (d k : Nat) (i : Int), 0 ≤ i → (l.length : Int) - i = d → d < k → spec_AreWords.l0 k l i = some ((l.drop i.toNat).all isWordB) := by
  intro d
  induction d with
  | zero =>
    intro k i h0 hd hk
    obtain ⟨k, rfl⟩ : ∃ q, k = q + 1 := ⟨k - 1, by omega⟩
    simp only [spec_AreWords.l0]
    rw [if_neg (by omega), List.drop_of_length_le (by omega)]; rfl
  | succ d ih =>
    intro k i h0 hd hk
    obtain ⟨k, rfl⟩ : ∃ q, k = q + 1 := ⟨k - 1, by omega⟩
    simp only [spec_AreWords.l0, spec_IsWord.f, in_some, Option.bind_some]
    rw [if_pos (by omega), if_pos h0, w64 (by omega) (by omega), drop_rd h0 (by omega), List.all_cons]
    by_cases h : 0 ≤ rd l i ∧ rd l i ≤ 65535
    · rw [if_pos (by simpa using h), ih k (i + 1) (by omega) (by omega) (by omega)]
      simp [isWordB, h]
    · rw [if_neg (by simpa using h)]
      simp [isWordB, h]
theorem spec_areWords_eq {k : Nat} {l : List Int} (hl : l.length ≤ 1048576) (hk : l.length < k) : spec_AreWords.f k l = some (l.all isWordB) := by
  unfold spec_AreWords.f
  rw [spec_areWords_l0 l hl l.length k 0 (by omega) (by omega) hk, Int.toNat_zero, List.drop_zero]
def ups : Nat → Int → List Int
  | 0, _ => []
  | n + 1, i => i :: ups n (i + 1)
theorem ups_mem : ∀ (n : Nat) (i x : Int), x ∈ ups n i → i ≤ x ∧ x < i + n
  | 0, _, _, h => by simp [ups] at h
  | n + 1, i, x, h => by
    rw [ups, List.mem_cons] at h
    rcases h with rfl | h
    · omega
    · have := ups_mem n (i + 1) x h; omega
theorem ups_mem_of : ∀ (n : Nat) (i x : Int), i ≤ x → x < i + n → x ∈ ups n i
  | 0, _, _, _, _ => by omega
  | n + 1, i, x, h0, h1 => by
    rw [ups, List.mem_cons]
    by_cases e : x = i
    · exact .inl e
    · exact .inr (ups_mem_of n (i + 1) x (by omega) (by omega))
theorem ups_len : ∀ (n : Nat) (i : Int), (ups n i).length = n
  | 0, _ => rfl
  | n + 1, i => by rw [ups, List.length_cons, ups_len]
def fldR (x : Int) : Bool := decide (0 ≤ x ∧ x ≤ 3)
def fldW (x : Int) : Bool := decide (0 ≤ x ∧ x ≤ 65535)
def fldT (n x : Int) : Bool := decide (0 ≤ x ∧ x ≤ n)
def fldB (n ch x : Int) : Bool := if ch = 82 then fldR x else if ch = 87 then fldW x else if ch = 84 then fldT n x else x == 0
def insB (n a b c d : Int) : Bool := if a = 0 ∨ a = 12 ∨ a = 16 then b == 0 && (c == 0 && d == 0) else if a = 1 then fldR b && (fldW c && d == 0) else if a = 2 ∨ a = 13 ∨ a = 14 ∨ a = 15 then fldR b && (fldR c && d == 0) else if a = 8 then fldR b && (c == 0 && d == 0) else if a = 10 then fldR b && (fldT n c && d == 0) else if a = 11 then b == 0 && (fldT n c && d == 0) else if 3 ≤ a ∧ a ≤ 9 then fldR b && (fldR c && fldR d) else false
theorem isField_eq (ch x n : Int) : impl_isField.f ch x n = some (fldB n ch x) := by
  unfold impl_isField.f impl_isReg.f impl_IsWord.f fldB
  simp only [within_some, Option.bind_some]
  split
  · rfl
  · split
    · rfl
    · split <;> rfl
theorem str3_ne (p q r : UInt8) : (⟨#[p, q, r]⟩ : ByteArray).toList ≠ [] := by
  unfold ByteArray.toList
  unfold ByteArray.toList.loop
  rw [if_pos (by show 0 < 3; decide)]
  unfold ByteArray.toList.loop
  rw [if_pos (by show 1 < 3; decide)]
  unfold ByteArray.toList.loop
  rw [if_pos (by show 2 < 3; decide)]
  unfold ByteArray.toList.loop
  rw [if_neg (by show ¬ 3 < 3; decide)]
  simp
theorem str0_eq : (⟨#[]⟩ : ByteArray).toList = [] := by
  unfold ByteArray.toList
  unfold ByteArray.toList.loop
  rw [if_neg (by show ¬ 0 < 0; decide)]; rfl
theorem insOk_str (p q r : UInt8) (a b c d n : Int) (h : impl_formOf.f a = some (⟨#[p, q, r]⟩ : ByteArray)) : impl_InsOk.f a b c d n = some (decide (0 ≤ n ∧ n ≤ 32) && (fldB n p.toNat b && (fldB n q.toNat c && fldB n r.toNat d))) := by
  unfold impl_InsOk.f
  rw [h]; simp only [Option.bind_some, within_some, isField_eq]
  rw [if_neg (str3_ne p q r)]
  have e0 : bt (⟨#[p, q, r]⟩ : ByteArray) 0 = p.toNat := rfl
  have e1 : bt (⟨#[p, q, r]⟩ : ByteArray) 1 = q.toNat := rfl
  have e2 : bt (⟨#[p, q, r]⟩ : ByteArray) 2 = r.toNat := rfl
  have es : ((⟨#[p, q, r]⟩ : ByteArray).size : Int) = 3 := rfl
  rw [e0, e1, e2, es]
  cases decide (0 ≤ n ∧ n ≤ 32) <;> cases fldB n p.toNat b <;> cases fldB n q.toNat c <;> cases fldB n r.toNat d <;> rfl
theorem insOk_none (a b c d n : Int) (h : ¬ (0 ≤ a ∧ a ≤ 16)) : impl_InsOk.f a b c d n = some false := by
  unfold impl_InsOk.f impl_formOf.f
  rw [within_some]; simp only [Option.bind_some]
  rw [if_neg (by simpa using h)]; simp only [Option.bind_some]
  rw [if_pos str0_eq]
theorem impl_insOk_eq (a b c d n : Int) : impl_InsOk.f a b c d n = some (decide (0 ≤ n ∧ n ≤ 32) && insB n a b c d) := by
  by_cases h : 0 ≤ a ∧ a ≤ 16
  · rcases (by omega : a = 0 ∨ a = 1 ∨ a = 2 ∨ a = 3 ∨ a = 4 ∨ a = 5 ∨ a = 6 ∨ a = 7 ∨ a = 8 ∨ a = 9 ∨ a = 10 ∨ a = 11 ∨ a = 12 ∨ a = 13 ∨ a = 14 ∨ a = 15 ∨ a = 16) with e | e | e | e | e | e | e | e | e | e | e | e | e | e | e | e | e <;> subst e <;> (first | (rw [insOk_str 45 45 45 _ b c d n rfl]; rfl) | (rw [insOk_str 82 87 45 _ b c d n rfl]; rfl) | (rw [insOk_str 82 82 45 _ b c d n rfl]; rfl) | (rw [insOk_str 82 82 82 _ b c d n rfl]; rfl) | (rw [insOk_str 82 45 45 _ b c d n rfl]; rfl) | (rw [insOk_str 82 84 45 _ b c d n rfl]; rfl) | (rw [insOk_str 45 84 45 _ b c d n rfl]; rfl))
  · rw [insOk_none a b c d n h]
    have : insB n a b c d = false := by
      unfold insB
      rw [if_neg (by omega), if_neg (by omega), if_neg (by omega), if_neg (by omega), if_neg (by omega), if_neg (by omega), if_neg (by omega)]
    rw [this, Bool.and_false]
theorem spec_reg_eq (x : Int) : spec_l04Reg.f x = some (fldR x) := by unfold spec_l04Reg.f; rw [in_some]; rfl
theorem spec_word_eq (x : Int) : spec_IsWord.f x = some (fldW x) := by unfold spec_IsWord.f; rw [in_some]; rfl
theorem spec_insOk_eq {k : Nat} (a b c d n : Int) (hk : 2 < k) : spec_InsOk.f k a b c d n = some (decide (0 ≤ n ∧ n ≤ 32) && insB n a b c d) := by
  obtain ⟨k, rfl⟩ : ∃ q, k = q + 1 + 1 := ⟨k - 2, by omega⟩
  have ht : spec_l01In.f c 0 n = some (fldT n c) := in_some _ _ _
  unfold spec_InsOk.f insB
  rw [in_some]; simp only [Option.bind_some]
  by_cases hn : 0 ≤ n ∧ n ≤ 32
  · rw [if_pos (by simpa using hn), decide_eq_true hn, Bool.true_and]
    simp only [spec_InsOk.j0, spec_InsOk.j1, spec_reg_eq, spec_word_eq, ht, in_some a 3 9, Option.bind_some]
    by_cases h : 0 ≤ a ∧ a ≤ 16
    · rcases (by omega : a = 0 ∨ a = 1 ∨ a = 2 ∨ a = 3 ∨ a = 4 ∨ a = 5 ∨ a = 6 ∨ a = 7 ∨ a = 8 ∨ a = 9 ∨ a = 10 ∨ a = 11 ∨ a = 12 ∨ a = 13 ∨ a = 14 ∨ a = 15 ∨ a = 16) with e | e | e | e | e | e | e | e | e | e | e | e | e | e | e | e | e <;> subst e <;> simp <;> by_cases hb : b = 0 <;> by_cases hc : c = 0 <;> (try simp [hb, hc]) <;> (try cases fldR b) <;> (try cases fldR 0) <;> (try cases fldR c) <;> (try cases fldW c) <;> (try cases fldW 0) <;> (try cases fldT n c) <;> (try cases fldT n 0) <;> (try simp)
    · have q0 : a ≠ 0 := by omega
      have q1 : a ≠ 1 := by omega
      have q2 : a ≠ 2 := by omega
      have q8 : a ≠ 8 := by omega
      have q10 : a ≠ 10 := by omega
      have q11 : a ≠ 11 := by omega
      have q12 : a ≠ 12 := by omega
      have q13 : a ≠ 13 := by omega
      have q14 : a ≠ 14 := by omega
      have q15 : a ≠ 15 := by omega
      have q16 : a ≠ 16 := by omega
      have q3 : ¬ (3 ≤ a ∧ a ≤ 9) := by omega
      simp [q0, q1, q2, q8, q10, q11, q12, q13, q14, q15, q16, q3]
  · rw [if_neg (by simpa using hn), decide_eq_false hn]; rfl
def regsOk (l : List Int) : Bool := decide (l.length = 4) && l.all isWordB
theorem impl_areRegs_eq (l : List Int) : impl_areRegs.f l = some (regsOk l) := by
  unfold impl_areRegs.f impl_AreWords.f regsOk
  by_cases h : l.length = 4
  · rw [if_pos (by omega), decide_eq_true h]; rfl
  · rw [if_neg (by omega), decide_eq_false h]; rfl
theorem and65535 (n : Int) : Go.bits .and .i64 n 65535 = n % 65536 := by
  unfold Go.bits
  have h : (BitVec.ofInt 64 n &&& BitVec.ofInt 64 65535).toNat = ((n % 65536).toNat) := by
    rw [BitVec.toNat_and, show (BitVec.ofInt 64 65535).toNat = 2 ^ 16 - 1 by decide, Nat.and_two_pow_sub_one_eq_mod, BitVec.toNat_ofInt]
    omega
  show IntKind.i64.wrap (((BitVec.ofInt 64 n &&& BitVec.ofInt 64 65535).toNat : Nat) : Int) = _
  rw [h]
  unfold IntKind.wrap
  have e : ((2 : Int) ^ IntKind.i64.bits) = 18446744073709551616 := by decide
  have e2 : ((2 : Int) ^ (IntKind.i64.bits - 1)) = 9223372036854775808 := by decide
  rw [e, e2]
  have h2 : (((n % 65536).toNat : Nat) : Int) % 18446744073709551616 = n % 65536 := by omega
  simp only [h2]
  rw [if_neg (by simp; omega)]
theorem wrapWord_eq (a : Int) : spec_WrapWord.f a = impl_WrapWord.f a := by
  unfold spec_WrapWord.f impl_WrapWord.f
  have : Int.tmod a 65536 = if 0 ≤ a then a % 65536 else - ((-a) % 65536) := by
    split
    · rw [Int.tmod_eq_emod_of_nonneg (by omega)]
    · rw [show a = -(-a) by omega, Int.neg_tmod, Int.tmod_eq_emod_of_nonneg (by omega)]; simp
  rw [and65535, this, w64 (by split <;> omega) (by split <;> omega)]
  rw [Int.tmod_eq_emod_of_nonneg (by split <;> omega)]
  congr 1
  split <;> omega
theorem impl_wordF_eq (x : Int) : impl_IsWord.f x = some (fldW x) := by unfold impl_IsWord.f; rw [within_some]; rfl
theorem addWords_eq (x y : Int) : spec_AddWords.f x y = impl_AddWords.f x y := by
  unfold spec_AddWords.f impl_AddWords.f impl_wrapped.f
  simp only [spec_word_eq, impl_wordF_eq, wrapWord_eq, Option.bind_some]
  cases fldW x <;> cases fldW y <;> rfl
theorem subWords_eq (x y : Int) : spec_SubWords.f x y = impl_SubWords.f x y := by
  unfold spec_SubWords.f impl_SubWords.f impl_wrapped.f
  simp only [spec_word_eq, impl_wordF_eq, wrapWord_eq, Option.bind_some]
  cases fldW x <;> cases fldW y <;> rfl
theorem mulWords_eq (x y : Int) : spec_MulWords.f x y = impl_MulWords.f x y := by
  unfold spec_MulWords.f impl_MulWords.f impl_wrapped.f
  simp only [spec_word_eq, impl_wordF_eq, wrapWord_eq, Option.bind_some]
  cases fldW x <;> cases fldW y <;> rfl
theorem lessWords_eq (x y : Int) : spec_LessWords.f x y = impl_LessWords.f x y := by
  unfold spec_LessWords.f impl_LessWords.f
  simp only [spec_word_eq, impl_wordF_eq]
theorem addWords_some (x y : Int) : ∃ v, impl_AddWords.f x y = some v := by
  unfold impl_AddWords.f impl_wrapped.f impl_WrapWord.f
  simp only [impl_wordF_eq, Option.bind_some]
  cases fldW x <;> cases fldW y <;> exact ⟨_, rfl⟩
theorem subWords_some (x y : Int) : ∃ v, impl_SubWords.f x y = some v := by
  unfold impl_SubWords.f impl_wrapped.f impl_WrapWord.f
  simp only [impl_wordF_eq, Option.bind_some]
  cases fldW x <;> cases fldW y <;> exact ⟨_, rfl⟩
theorem mulWords_some (x y : Int) : ∃ v, impl_MulWords.f x y = some v := by
  unfold impl_MulWords.f impl_wrapped.f impl_WrapWord.f
  simp only [impl_wordF_eq, Option.bind_some]
  cases fldW x <;> cases fldW y <;> exact ⟨_, rfl⟩
theorem lessWords_some (x y : Int) : ∃ v, impl_LessWords.f x y = some v := by
  unfold impl_LessWords.f
  simp only [impl_wordF_eq, Option.bind_some]
  cases fldW x <;> cases fldW y <;> (first | exact ⟨_, rfl⟩ | (by_cases h : x < y <;> simp [h]))
theorem l10_eq (a b c d t : Int) {r : List Int} (hr : r.length = 4) : spec_l10Apply.f a b c d t r = impl_apply.f a b c d t r := by
  unfold spec_l10Apply.f impl_apply.f
  simp only [Option.bind_some, List.nil_append, addWords_eq, subWords_eq, mulWords_eq, lessWords_eq]
  rw [if_pos (by simp [hr])]
theorem apply_some (a b c d t : Int) {r : List Int} (hr : r.length = 4) (h : insB 32 a b c d = true) : ∃ v, impl_apply.f a b c d t r = some v ∧ v.length = 4 := by
  unfold impl_apply.f
  unfold insB at h
  by_cases e1 : a = 1
  · subst e1
    simp [fldR] at h
    exact ⟨_, by rw [if_pos rfl, if_pos (by omega), if_pos (by omega)], by simp [hr]⟩
  rw [if_neg e1]
  by_cases e2 : a = 2
  · subst e2
    simp [fldR] at h
    exact ⟨_, by rw [if_pos rfl, if_pos (by omega), if_pos (by omega), if_pos (by omega), if_pos (by omega)], by simp [hr]⟩
  rw [if_neg e2]
  by_cases e3 : a = 3
  · subst e3
    simp [fldR] at h
    obtain ⟨v, hv⟩ := addWords_some (rd r c) (rd r d)
    exact ⟨_, by rw [if_pos rfl, if_pos (by omega), if_pos (by omega), if_pos (by omega), if_pos (by omega), hv, Option.bind_some, if_pos (by omega), if_pos (by omega)], by simp [hr]⟩
  rw [if_neg e3]
  by_cases e4 : a = 4
  · subst e4
    simp [fldR] at h
    obtain ⟨v, hv⟩ := subWords_some (rd r c) (rd r d)
    exact ⟨_, by rw [if_pos rfl, if_pos (by omega), if_pos (by omega), if_pos (by omega), if_pos (by omega), hv, Option.bind_some, if_pos (by omega), if_pos (by omega)], by simp [hr]⟩
  rw [if_neg e4]
  by_cases e5 : a = 5
  · subst e5
    simp [fldR] at h
    obtain ⟨v, hv⟩ := mulWords_some (rd r c) (rd r d)
    exact ⟨_, by rw [if_pos rfl, if_pos (by omega), if_pos (by omega), if_pos (by omega), if_pos (by omega), hv, Option.bind_some, if_pos (by omega), if_pos (by omega)], by simp [hr]⟩
  rw [if_neg e5]
  by_cases e6 : a = 6
  · subst e6
    simp [fldR] at h
    exact ⟨_, by rw [if_pos rfl, if_pos (by omega), if_pos (by omega), if_pos (by omega), if_pos (by omega), if_pos (by omega), if_pos (by omega)], by simp [hr]⟩
  rw [if_neg e6]
  by_cases e7 : a = 7
  · subst e7
    simp [fldR] at h
    obtain ⟨v, hv⟩ := lessWords_some (rd r c) (rd r d)
    exact ⟨_, by rw [if_pos rfl, if_pos (by omega), if_pos (by omega), if_pos (by omega), if_pos (by omega), hv, Option.bind_some, if_pos (by omega), if_pos (by omega)], by simp [hr]⟩
  rw [if_neg e7]
  by_cases e8 : a = 8
  · subst e8
    simp [fldR] at h
    exact ⟨_, by rw [if_pos rfl, if_pos (by omega), if_pos (by omega)], by simp [hr]⟩
  rw [if_neg e8]
  by_cases e9 : a = 9
  · subst e9
    simp [fldR] at h
    rw [if_pos rfl, if_pos (by omega), if_pos (by omega)]
    by_cases hz : rd r d = 0
    · exact ⟨r, by rw [if_pos hz], hr⟩
    · exact ⟨_, by rw [if_neg hz, if_pos (by omega), if_pos (by omega), if_pos (by omega), if_pos (by omega)], by simp [hr]⟩
  rw [if_neg e9]
  exact ⟨r, rfl, hr⟩
def applyOf (a b c d t : Int) (r : List Int) : List Int := if (regsOk r && (insB 32 a b c d && decide (0 ≤ t ∧ t ≤ 23))) = true then (impl_apply.f a b c d t r).getD [] else []
theorem applyOf_len (a b c d t : Int) (r : List Int) : (applyOf a b c d t r).length ≤ 4 := by
  unfold applyOf
  split
  · rename_i h
    simp [regsOk] at h
    obtain ⟨v, hv, h4⟩ := apply_some a b c d t h.1.1 h.2.1
    rw [hv]; simp [h4]
  · simp
theorem impl_applyIns_eq {k : Nat} (a b c d t : Int) (r : List Int) (hk : 0 < k) : impl_ApplyIns.f k a b c d t r = some (applyOf a b c d t r) := by
  obtain ⟨k, rfl⟩ : ∃ q, k = q + 1 := ⟨k - 1, by omega⟩
  unfold impl_ApplyIns.f impl_isThread.f applyOf
  simp only [impl_areRegs_eq, impl_insOk_eq, within_some, Option.bind_some, impl_ApplyIns.j0, if_true]
  rw [decide_eq_true (by omega : (0 : Int) ≤ 32 ∧ (32 : Int) ≤ 32), Bool.true_and]
  cases hr : regsOk r
  · rfl
  cases hi : insB 32 a b c d
  · rfl
  cases decide (0 ≤ t ∧ t ≤ 23)
  · rfl
  simp [regsOk] at hr
  obtain ⟨v, hv, h4⟩ := apply_some a b c d t hr.1 hi
  unfold slices_Clone_int_int.f cloneIntF
  rw [if_pos rfl, if_pos rfl, if_neg (by decide), if_pos (by omega)]; simp only [Option.bind_some]
  rw [hv]; rfl
theorem spec_applyIns_eq {k : Nat} (a b c d t : Int) {r : List Int} (hr : r.length ≤ 1048576) (hk : r.length + 3 < k) : spec_ApplyIns.f k a b c d t r = some (applyOf a b c d t r) := by
  unfold spec_ApplyIns.f applyOf regsOk
  simp only [spec_areWords_eq hr (by omega : r.length < k), spec_insOk_eq a b c d 32 (by omega : 2 < k), in_some, Option.bind_some]
  rw [decide_eq_true (by omega : (0 : Int) ≤ 32 ∧ (32 : Int) ≤ 32), Bool.true_and]
  by_cases h : r.length = 4
  · rw [if_pos (by omega), decide_eq_true h]
    cases r.all isWordB
    · rfl
    cases hi : insB 32 a b c d
    · rfl
    cases decide (0 ≤ t ∧ t ≤ 23)
    · rfl
    obtain ⟨v, hv, h4⟩ := apply_some a b c d t h hi
    rw [if_pos rfl, if_pos rfl, if_pos rfl, l10_eq a b c d t h, hv]; rfl
  · rw [if_neg (by omega), decide_eq_false h]; rfl

theorem FnExactApplyIns : laws_FnExactApplyIns.Pure := by
  intro a b c d t r _ _ _ _ _ hr
  unfold maxLen at hr
  by_cases h : r.length ≤ 1048576
  · have hv := applyOf_len a b c d t r
    refine ⟨r.length + 50 + 1, ?_⟩
    unfold laws_FnExactApplyIns.f
    rw [if_neg (by omega)]
    obtain ⟨y, hy, _⟩ := markIntS_eq (k := r.length + 50 + 1) (l := r) (s := 1) (by omega) (by omega) (by omega)
    obtain ⟨z, hz, hz2⟩ := markIntS_eq (k := r.length + 50) (l := applyOf a b c d t r) (s := 1) (by omega) (by omega) (by omega)
    simp only [laws_toIns.f, toIntS_eq (k := r.length + 50 + 1) h (by omega), spec_applyIns_eq (k := r.length + 50 + 1) a b c d t h (by omega), impl_applyIns_eq (k := r.length + 50 + 1) a b c d t r (by omega), eqIntS_self (a := applyOf a b c d t r) (k := r.length + 50 + 1) (by omega) (by omega), eqIntS_self (a := r) (k := r.length + 50 + 1) (by omega) (by omega), hy, Option.bind_some, if_true, laws_FnExactApplyIns.j0]
    rw [if_neg (by omega)]
    simp only [toIntS_eq (k := r.length + 50) h (by omega), impl_applyIns_eq (k := r.length + 50) a b c d t r (by omega), eqIntS_self (a := applyOf a b c d t r) (k := r.length + 50) (by omega) (by omega), hz, hz2 (r.length + 50) (by omega), Option.bind_some, if_true]
    simp only [Bool.not_true, Bool.false_eq_true, if_false]
    rw [if_neg (by omega), if_neg (by omega)]
  · exact ⟨0, by unfold laws_FnExactApplyIns.f; rw [if_pos (by omega)]⟩

end Go.Proofs.Ytdhifoacbpjpoaa.Pure
