/-
  The program's Predicate returns what the reference's returns, for all arguments, in new memory, and leaves its argument as it was.
  No condition.
-/
import Derived.Test.YtcmimgoghmeliaaPFnExactPredicatex9
namespace Go.Proofs.Ytcmimgoghmeliaa.Pure
open Go.RowKit Go.Proofs.Ytcmimgoghmeliaa.PFnExactPredicate Go.Proofs.YtcmimgoghmeliaaW.PrintWords Go.Proofs.YtcmimgoghmeliaaW.PrintLast Go.Proofs.YtcmimgoghmeliaaW.PrintMore
set_option linter.unusedVariables false
set_option linter.unusedSimpArgs false

theorem w64 {x : Int} (h0 : -9223372036854775808 ≤ x) (h1 : x < 9223372036854775808) : wrap64 x = x := by unfold wrap64; omega
theorem drop_rd {l : List Int} {i : Int} (h0 : 0 ≤ i) (h1 : i < (l.length : Int)) : l.drop i.toNat = rd l i :: l.drop (i + 1).toNat := by
  have hi : i.toNat < l.length := by omega
  rw [show (i + 1).toNat = i.toNat + 1 by omega, List.drop_eq_getElem_cons hi]
  congr 1
  unfold rd
  rw [List.getD_eq_getElem?_getD, List.getElem?_eq_getElem hi]; rfl
theorem rd_mem {l : List Int} {i : Int} (h0 : 0 ≤ i) (h1 : i < (l.length : Int)) : rd l i ∈ l := by
  have hi : i.toNat < l.length := by omega
  unfold rd
  rw [List.getD_eq_getElem?_getD, List.getElem?_eq_getElem hi]
  exact List.getElem_mem hi
theorem take_set_succ {α : Type} {l x : List α} {i : Nat} (v : α) (hl : i < l.length) (hx : i < x.length) (h : x.take i = l.take i) (hv : l[i]'hl = v) : (x.set i v).take (i + 1) = l.take (i + 1) := by
  rw [List.take_succ_eq_append_getElem (by simpa using hx), List.take_succ_eq_append_getElem hl, List.take_set_of_le (Nat.le_refl i), h]
  simp [hv]
theorem rd_get {l : List Int} {i : Int} (h0 : 0 ≤ i) (h1 : i.toNat < l.length) : l[i.toNat]'h1 = rd l i := by
  unfold rd
  rw [List.getD_eq_getElem?_getD, List.getElem?_eq_getElem h1]; rfl
theorem need {p : Prop} (h : p) : p := h
theorem within_some (x a b : Int) : impl_within.f x a b = some (decide (a ≤ x ∧ x ≤ b)) := by
  unfold impl_within.f
  by_cases h : a ≤ x
  · rw [if_pos h]; simp [h]
  · rw [if_neg h]; simp [h]
theorem in_some (x a b : Int) : spec_l01In.f x a b = some (decide (a ≤ x ∧ x ≤ b)) := by
  unfold spec_l01In.f
  by_cases h : a ≤ x
  · rw [if_pos h]; simp [h]
  · rw [if_neg h]; simp [h]
theorem drop_getD {α : Type} {l : List α} {i : Int} (z : α) (h0 : 0 ≤ i) (h1 : i < (l.length : Int)) : l.drop i.toNat = l.getD i.toNat z :: l.drop (i + 1).toNat := by
  have hi : i.toNat < l.length := by omega
  rw [show (i + 1).toNat = i.toNat + 1 by omega, List.drop_eq_getElem_cons hi, List.getD_eq_getElem?_getD, List.getElem?_eq_getElem hi]; rfl
theorem getD_get {α : Type} {l : List α} {n : Nat} (z : α) (h : n < l.length) : l.getD n z = l[n]'h := by
  rw [List.getD_eq_getElem?_getD, List.getElem?_eq_getElem h]; rfl
theorem getD_map {α β : Type} {l : List α} {n : Nat} (g : α → β) (z : α) (z2 : β) (h : n < l.length) : (l.map g).getD n z2 = g (l.getD n z) := by
  rw [getD_get z h, getD_get z2 (by simpa using h), List.getElem_map]
def left (a : Int) (n : Nat) : Int := if a - n < 0 then -1 else a - n
def cvI (x : S96) : S94 := ⟨x.f0, x.f1, x.f2, x.f3⟩
theorem toInsS_l0 (l : List S96) (hl : l.length ≤ 1048576) : ∀ (d k : Nat) (x : List S94) (i : Int), 0 ≤ i → (l.length : Int) - i = d → d < k → x.length = l.length → x.take i.toNat = (l.map cvI).take i.toNat →
    laws_toInsS.l0 k l x i = some (l.map cvI) := by
  intro d
  induction d with
  | zero =>
    intro k x i h0 hd hk hx ht
    obtain ⟨k, rfl⟩ : ∃ q, k = q + 1 := ⟨k - 1, by omega⟩
    simp only [laws_toInsS.l0]
    rw [if_neg (by omega)]
    rw [List.take_of_length_le (by omega), List.take_of_length_le (by simp; omega)] at ht
    rw [ht]
  | succ d ih =>
    intro k x i h0 hd hk hx ht
    obtain ⟨k, rfl⟩ : ∃ q, k = q + 1 := ⟨k - 1, by omega⟩
    simp only [laws_toInsS.l0, laws_toIns.f, Option.bind_some]
    rw [if_pos (by omega), if_pos h0, if_pos (by omega), w64 (by omega) (by omega)]
    refine ih k _ (i + 1) (by omega) (by omega) (by omega) (by simpa using hx) ?_
    rw [show (i + 1).toNat = i.toNat + 1 by omega]
    refine take_set_succ _ (by simp; omega) (by omega) ht ?_
    rw [List.getElem_map]
    unfold rd_T96
    rw [getD_get _ (by omega : i.toNat < l.length)]; rfl
theorem toInsS_eq {k : Nat} {l : List S96} (hl : l.length ≤ 1048576) (hk : l.length < k) : laws_toInsS.f k l = some (l.map cvI) := by
  unfold laws_toInsS.f
  rw [if_pos (by omega), if_pos (by omega)]
  exact toInsS_l0 l hl l.length k _ 0 (by omega) (by omega) hk (by simp) (by simp)
theorem eqInsS_l0 (a : List S94) (ha : a.length ≤ 9223372036854775807) : ∀ (d k : Nat) (i : Int), 0 ≤ i → (a.length : Int) - i = d → d < k →
    laws_eqInsS.l0 k a a i = some true := by
  intro d
  induction d with
  | zero =>
    intro k i h0 hd hk
    obtain ⟨k, rfl⟩ : ∃ q, k = q + 1 := ⟨k - 1, by omega⟩
    simp only [laws_eqInsS.l0]
    rw [if_neg (by omega)]
  | succ d ih =>
    intro k i h0 hd hk
    obtain ⟨k, rfl⟩ : ∃ q, k = q + 1 := ⟨k - 1, by omega⟩
    simp only [laws_eqInsS.l0, laws_eqIns.f, if_true, Option.bind_some]
    rw [if_pos (by omega), if_pos h0, if_pos (by omega), w64 (by omega) (by omega), ih k (i + 1) (by omega) (by omega) (by omega)]
theorem eqInsS_self {k : Nat} {a : List S94} (ha : a.length ≤ 9223372036854775807) (hk : a.length < k) : laws_eqInsS.f k a a = some true := by
  unfold laws_eqInsS.f
  rw [if_pos rfl, eqInsS_l0 a ha a.length k 0 (by omega) (by omega) hk]
theorem szInsS_eq (l : List S96) {a : Int} (h0 : 0 ≤ a) (h1 : a ≤ 1048576) (hl : l.length ≤ 9223372036854775807) : laws_szInsS.f l a = some (left a l.length) := by
  unfold laws_szInsS.f left
  rw [w64 (by omega) (by omega)]
  by_cases h : a - (l.length : Int) < 0
  · rw [if_pos h, if_pos h]
  · rw [if_neg h, if_neg h]
def fldR (x : Int) : Bool := decide (0 ≤ x ∧ x ≤ 3)
def fldW (x : Int) : Bool := decide (0 ≤ x ∧ x ≤ 65535)
def fldT (n x : Int) : Bool := decide (0 ≤ x ∧ x ≤ n)
def fldB (n ch x : Int) : Bool := if ch = 82 then fldR x else if ch = 87 then fldW x else if ch = 84 then fldT n x else x == 0
def insB (n a b c d : Int) : Bool := if a = 0 ∨ a = 12 ∨ a = 16 then b == 0 && (c == 0 && d == 0) else if a = 1 then fldR b && (fldW c && d == 0) else if a = 2 ∨ a = 13 ∨ a = 14 ∨ a = 15 then fldR b && (fldR c && d == 0) else if a = 8 then fldR b && (c == 0 && d == 0) else if a = 10 then fldR b && (fldT n c && d == 0) else if a = 11 then b == 0 && (fldT n c && d == 0) else if 3 ≤ a ∧ a ≤ 9 then fldR b && (fldR c && fldR d) else false
theorem isField_eq (ch x n : Int) : impl_isField.f ch x n = some (fldB n ch x) := by
  unfold impl_isField.f impl_isReg.f impl_IsWord.f fldB
  simp only [within_some, Option.bind_some]
  split
  · rfl
  · split
    · rfl
    · split <;> rfl
theorem str3_ne (p q r : UInt8) : (⟨#[p, q, r]⟩ : ByteArray).toList ≠ [] := by
  unfold ByteArray.toList
  unfold ByteArray.toList.loop
  rw [if_pos (by show 0 < 3; decide)]
  unfold ByteArray.toList.loop
  rw [if_pos (by show 1 < 3; decide)]
  unfold ByteArray.toList.loop
  rw [if_pos (by show 2 < 3; decide)]
  unfold ByteArray.toList.loop
  rw [if_neg (by show ¬ 3 < 3; decide)]
  simp
theorem str0_eq : (⟨#[]⟩ : ByteArray).toList = [] := by
  unfold ByteArray.toList
  unfold ByteArray.toList.loop
  rw [if_neg (by show ¬ 0 < 0; decide)]; rfl
theorem insOk_str (p q r : UInt8) (a b c d n : Int) (h : impl_formOf.f a = some (⟨#[p, q, r]⟩ : ByteArray)) : impl_InsOk.f a b c d n = some (decide (0 ≤ n ∧ n ≤ 32) && (fldB n p.toNat b && (fldB n q.toNat c && fldB n r.toNat d))) := by
  unfold impl_InsOk.f
  rw [h]; simp only [Option.bind_some, within_some, isField_eq]
  rw [if_neg (str3_ne p q r)]
  have e0 : bt (⟨#[p, q, r]⟩ : ByteArray) 0 = p.toNat := rfl
  have e1 : bt (⟨#[p, q, r]⟩ : ByteArray) 1 = q.toNat := rfl
  have e2 : bt (⟨#[p, q, r]⟩ : ByteArray) 2 = r.toNat := rfl
  have es : ((⟨#[p, q, r]⟩ : ByteArray).size : Int) = 3 := rfl
  rw [e0, e1, e2, es]
  cases decide (0 ≤ n ∧ n ≤ 32) <;> cases fldB n p.toNat b <;> cases fldB n q.toNat c <;> cases fldB n r.toNat d <;> rfl
theorem insOk_none (a b c d n : Int) (h : ¬ (0 ≤ a ∧ a ≤ 16)) : impl_InsOk.f a b c d n = some false := by
  unfold impl_InsOk.f impl_formOf.f
  rw [within_some]; simp only [Option.bind_some]
  rw [if_neg (by simpa using h)]; simp only [Option.bind_some]
  rw [if_pos str0_eq]
theorem impl_insOk_eq (a b c d n : Int) : impl_InsOk.f a b c d n = some (decide (0 ≤ n ∧ n ≤ 32) && insB n a b c d) := by
  by_cases h : 0 ≤ a ∧ a ≤ 16
  · rcases (by omega : a = 0 ∨ a = 1 ∨ a = 2 ∨ a = 3 ∨ a = 4 ∨ a = 5 ∨ a = 6 ∨ a = 7 ∨ a = 8 ∨ a = 9 ∨ a = 10 ∨ a = 11 ∨ a = 12 ∨ a = 13 ∨ a = 14 ∨ a = 15 ∨ a = 16) with e | e | e | e | e | e | e | e | e | e | e | e | e | e | e | e | e <;> subst e <;> (first | (rw [insOk_str 45 45 45 _ b c d n rfl]; rfl) | (rw [insOk_str 82 87 45 _ b c d n rfl]; rfl) | (rw [insOk_str 82 82 45 _ b c d n rfl]; rfl) | (rw [insOk_str 82 82 82 _ b c d n rfl]; rfl) | (rw [insOk_str 82 45 45 _ b c d n rfl]; rfl) | (rw [insOk_str 82 84 45 _ b c d n rfl]; rfl) | (rw [insOk_str 45 84 45 _ b c d n rfl]; rfl))
  · rw [insOk_none a b c d n h]
    have : insB n a b c d = false := by
      unfold insB
      rw [if_neg (by omega), if_neg (by omega), if_neg (by omega), if_neg (by omega), if_neg (by omega), if_neg (by omega), if_neg (by omega)]
    rw [this, Bool.and_false]
theorem spec_reg_eq (x : Int) : spec_l04Reg.f x = some (fldR x) := by unfold spec_l04Reg.f; rw [in_some]; rfl
theorem spec_word_eq (x : Int) : spec_IsWord.f x = some (fldW x) := by unfold spec_IsWord.f; rw [in_some]; rfl
theorem spec_insOk_eq {k : Nat} (a b c d n : Int) (hk : 2 < k) : spec_InsOk.f k a b c d n = some (decide (0 ≤ n ∧ n ≤ 32) && insB n a b c d) := by
  obtain ⟨k, rfl⟩ : ∃ q, k = q + 1 + 1 := ⟨k - 2, by omega⟩
  have ht : spec_l01In.f c 0 n = some (fldT n c) := in_some _ _ _
  unfold spec_InsOk.f insB
  rw [in_some]; simp only [Option.bind_some]
  by_cases hn : 0 ≤ n ∧ n ≤ 32
  · rw [if_pos (by simpa using hn), decide_eq_true hn, Bool.true_and]
    simp only [spec_InsOk.j0, spec_InsOk.j1, spec_reg_eq, spec_word_eq, ht, in_some a 3 9, Option.bind_some]
    by_cases h : 0 ≤ a ∧ a ≤ 16
    · rcases (by omega : a = 0 ∨ a = 1 ∨ a = 2 ∨ a = 3 ∨ a = 4 ∨ a = 5 ∨ a = 6 ∨ a = 7 ∨ a = 8 ∨ a = 9 ∨ a = 10 ∨ a = 11 ∨ a = 12 ∨ a = 13 ∨ a = 14 ∨ a = 15 ∨ a = 16) with e | e | e | e | e | e | e | e | e | e | e | e | e | e | e | e | e <;> subst e <;> simp <;> by_cases hb : b = 0 <;> by_cases hc : c = 0 <;> (try simp [hb, hc]) <;> (try cases fldR b) <;> (try cases fldR 0) <;> (try cases fldR c) <;> (try cases fldW c) <;> (try cases fldW 0) <;> (try cases fldT n c) <;> (try cases fldT n 0) <;> (try simp)
    · have q0 : a ≠ 0 := by omega
      have q1 : a ≠ 1 := by omega
      have q2 : a ≠ 2 := by omega
      have q8 : a ≠ 8 := by omega
      have q10 : a ≠ 10 := by omega
      have q11 : a ≠ 11 := by omega
      have q12 : a ≠ 12 := by omega
      have q13 : a ≠ 13 := by omega
      have q14 : a ≠ 14 := by omega
      have q15 : a ≠ 15 := by omega
      have q16 : a ≠ 16 := by omega
      have q3 : ¬ (3 ≤ a ∧ a ≤ 9) := by omega
      simp [q0, q1, q2, q8, q10, q11, q12, q13, q14, q15, q16, q3]
  · rw [if_neg (by simpa using hn), decide_eq_false hn]; rfl
def insOk (n : Int) (x : S94) : Bool := decide (0 ≤ n ∧ n ≤ 32) && insB n x.f0 x.f1 x.f2 x.f3
def programOk (l : List S94) : Bool := decide (l.length ≤ 32) && l.all (insOk l.length)
theorem impl_programOk_eq (l : List S94) : impl_ProgramOk.f l = some (programOk l) := by
  unfold impl_ProgramOk.f programOk
  have hi : ∀ x : S94, insOkAt (l.length : Int) x = some (insOk l.length x) := fun x => impl_insOk_eq _ _ _ _ _
  have e : (fun x => insOkAt (l.length : Int) x == some true) = insOk (l.length : Int) := by
    funext x; rw [hi]; cases insOk (l.length : Int) x <;> rfl
  rw [if_pos, e]
  rw [List.all_eq_true]
  intro x _
  rw [hi]; rfl
theorem spec_programOk_l0 (l : List S94) (hl : l.length ≤ 1048576) : ∀ (d k : Nat) (i : Int), 0 ≤ i → (l.length : Int) - i = d → d + 2 < k →
    spec_ProgramOk.l0 k l i = some (if (l.drop i.toNat).all (insOk l.length) = true then decide (l.length ≤ 32) else false) := by
  intro d
  induction d with
  | zero =>
    intro k i h0 hd hk
    obtain ⟨k, rfl⟩ : ∃ q, k = q + 1 := ⟨k - 1, by omega⟩
    simp only [spec_ProgramOk.l0]
    rw [if_neg (by omega), List.drop_of_length_le (by omega)]
    by_cases h : l.length ≤ 32
    · rw [decide_eq_true (by omega : (l.length : Int) ≤ 32), decide_eq_true h]; rfl
    · rw [decide_eq_false (by omega : ¬ (l.length : Int) ≤ 32), decide_eq_false h]; rfl
  | succ d ih =>
    intro k i h0 hd hk
    obtain ⟨k, rfl⟩ : ∃ q, k = q + 1 := ⟨k - 1, by omega⟩
    simp only [spec_ProgramOk.l0]
    rw [if_pos (by omega), if_pos h0, w64 (by omega) (by omega), spec_insOk_eq _ _ _ _ _ (by omega), drop_getD z94 h0 (by omega), ih k (i + 1) (by omega) (by omega) (by omega)]
    simp only [Option.bind_some, List.all_cons]
    change (if (insOk (l.length : Int) (rd_T94 l i)) = true then _ else _) = _
    change _ = some (if (insOk (l.length : Int) (rd_T94 l i) && _) = true then _ else _)
    cases insOk (l.length : Int) (rd_T94 l i) <;> rfl
theorem spec_programOk_eq {k : Nat} {l : List S94} (hl : l.length ≤ 1048576) (hk : l.length + 2 < k) : spec_ProgramOk.f k l = some (programOk l) := by
  unfold spec_ProgramOk.f programOk
  rw [spec_programOk_l0 l hl l.length k 0 (by omega) (by omega) hk, Int.toNat_zero, List.drop_zero]
  cases l.all (insOk (l.length : Int)) <;> simp
theorem left_ok {a : Int} {n : Nat} (ha : 0 ≤ a) (ha1 : a ≤ 1048576) (h : ¬ left a n < 0) : left a n = a - n ∧ 0 ≤ a - n ∧ n ≤ 1048576 := by
  unfold left at h ⊢
  split at h
  · omega
  · rename_i q; rw [if_neg q]; omega
theorem getD_setI {α : Type} {x : List α} {n : Nat} (u z : α) (h : n < x.length) : (x.set n u).getD n z = u := by
  rw [List.getD_eq_getElem?_getD, List.getElem?_set_self h]; rfl
theorem markInsS_l0 (s : Int) (n : Nat) (hs : 0 ≤ s) (hb : s + 4 * n < 9223372036854775800) : ∀ (d k : Nat) (x : List S94) (i : Int), 0 ≤ i → (n : Int) - i = d → d < k → x.length = n →
    ∃ y, laws_markInsS.l0 k x (s + 4 * i) i = some (s + 4 * n, y) := by
  intro d
  induction d with
  | zero =>
    intro k x i h0 hd hk hx
    obtain ⟨k, rfl⟩ : ∃ q, k = q + 1 := ⟨k - 1, by omega⟩
    simp only [laws_markInsS.l0]
    rw [if_neg (by omega)]
    exact ⟨x, by rw [show s + 4 * i = s + 4 * n by omega]⟩
  | succ d ih =>
    intro k x i h0 hd hk hx
    obtain ⟨k, rfl⟩ : ∃ q, k = q + 1 := ⟨k - 1, by omega⟩
    simp only [laws_markInsS.l0, Option.bind_some]
    have hi : i.toNat < x.length := by omega
    rw [if_pos (by omega), if_pos h0, w64 (x := s + 4 * i + 1) (by omega) (by omega), w64 (x := s + 4 * i + 1 + 1) (by omega) (by omega), w64 (x := s + 4 * i + 1 + 1 + 1) (by omega) (by omega), w64 (x := s + 4 * i + 1 + 1 + 1 + 1) (by omega) (by omega), w64 (x := i + 1) (by omega) (by omega), show s + 4 * i + 1 + 1 + 1 + 1 = s + 4 * (i + 1) by omega]
    exact ih k _ (i + 1) (by omega) (by omega) (by omega) (by simpa using hx)
theorem markInsS_eq {k : Nat} {l : List S94} {s : Int} (hs : 0 ≤ s) (hb : s + 4 * l.length < 9223372036854775800) (hk : l.length < k) :
    ∃ y, laws_markInsS.f k l s = some (s + 4 * l.length, y) := by
  have := markInsS_l0 s l.length hs hb l.length k l 0 (by omega) (by omega) hk rfl
  simpa [laws_markInsS.f] using this
def localB (x : S94) : Bool := decide (0 ≤ x.f0 ∧ x.f0 ≤ 12)
def quietOk (l : List S94) : Bool := programOk l && l.all localB
theorem impl_quiet_eq (l : List S94) : impl_IsQuiet.f l = some (quietOk l) := by
  have hi : ∀ x : S94, isLocalAt x = some (localB x) := fun x => by unfold isLocalAt impl_IsLocal.f; rw [within_some]; rfl
  have e : (fun x => isLocalAt x == some true) = localB := by funext x; rw [hi]; cases localB x <;> rfl
  unfold impl_IsQuiet.f quietOk
  rw [impl_programOk_eq, e]; simp only [Option.bind_some]
  cases programOk l
  · rfl
  · rw [if_pos rfl, if_pos (List.all_eq_true.2 fun x _ => by rw [hi]; rfl)]; rfl
theorem spec_quiet_l0 (l : List S94) (hl : l.length ≤ 1048576) : ∀ (d k : Nat) (i : Int), 0 ≤ i → (l.length : Int) - i = d → d + l.length + 3 < k →
    spec_IsQuiet.l0 k l i = some ((l.drop i.toNat).all localB && programOk l) := by
  intro d
  induction d with
  | zero =>
    intro k i h0 hd hk
    obtain ⟨k, rfl⟩ : ∃ q, k = q + 1 := ⟨k - 1, by omega⟩
    simp only [spec_IsQuiet.l0]
    rw [if_neg (by omega), List.drop_of_length_le (by omega), spec_programOk_eq hl (by omega)]; rfl
  | succ d ih =>
    intro k i h0 hd hk
    obtain ⟨k, rfl⟩ : ∃ q, k = q + 1 := ⟨k - 1, by omega⟩
    simp only [spec_IsQuiet.l0, spec_IsLocal.f, in_some, Option.bind_some]
    rw [if_pos (by omega), if_pos h0, w64 (by omega) (by omega), drop_getD z94 h0 (by omega), ih k (i + 1) (by omega) (by omega) (by omega), List.all_cons]
    change (if localB (rd_T94 l i) = true then _ else _) = some ((localB (rd_T94 l i) && _) && _)
    cases localB (rd_T94 l i) <;> rfl
theorem spec_quiet_eq {k : Nat} {l : List S94} (hl : l.length ≤ 1048576) (hk : 2 * l.length + 3 < k) : spec_IsQuiet.f k l = some (quietOk l) := by
  unfold spec_IsQuiet.f quietOk
  rw [spec_quiet_l0 l hl l.length k 0 (by omega) (by omega) (by omega), Int.toNat_zero, List.drop_zero, Bool.and_comm]
theorem quietOk_len {l : List S94} (h : quietOk l = true) : l.length ≤ 32 := by
  simp [quietOk, programOk] at h; exact h.1.1
def canOk (l : List S94) (a : Int) : Bool := quietOk l && (decide (0 ≤ a ∧ a ≤ (l.length : Int) - 2) && canB l a)
theorem impl_canPred_eq (l : List S94) (a : Int) (ha : -9223372036854775808 ≤ a ∧ a ≤ 9223372036854775807) : impl_CanPredicate.f l a = some (canOk l a) := by
  unfold impl_CanPredicate.f canOk
  rw [impl_quiet_eq]; simp only [Option.bind_some]
  cases hq : quietOk l
  · rfl
  · have h32 := quietOk_len hq
    rw [if_pos rfl, w64 (x := (l.length : Int) - 2) (by omega) (by omega), within_some]; simp only [Option.bind_some]
    by_cases h : 0 ≤ a ∧ a ≤ (l.length : Int) - 2
    · rw [decide_eq_true h, if_pos rfl, if_pos ⟨h.1, by omega, h32⟩]; rfl
    · rw [decide_eq_false h]; rfl
theorem spec_can_l0 (l : List S94) (a : Int) (hl : l.length ≤ 1048576) : ∀ (d k : Nat) (i : Int), 0 ≤ i → (l.length : Int) - i = d → d < k →
    spec_CanPredicate.l0 k l a i = some (!((l.drop i.toNat).any (tgtAt a))) := by
  intro d
  induction d with
  | zero =>
    intro k i h0 hd hk
    obtain ⟨k, rfl⟩ : ∃ q, k = q + 1 := ⟨k - 1, by omega⟩
    simp only [spec_CanPredicate.l0]
    rw [if_neg (by omega), List.drop_of_length_le (by omega)]; rfl
  | succ d ih =>
    intro k i h0 hd hk
    obtain ⟨k, rfl⟩ : ∃ q, k = q + 1 := ⟨k - 1, by omega⟩
    simp only [spec_CanPredicate.l0]
    rw [if_pos (by omega), if_pos h0, w64 (x := i + 1) (by omega) (by omega), drop_getD z94 h0 (by omega), ih k (i + 1) (by omega) (by omega) (by omega), List.any_cons]
    change _ = some (!(tgtAt a (rd_T94 l i) || _))
    unfold tgtAt
    by_cases e1 : (rd_T94 l i).f0 = 10
    · rw [if_pos e1]
      by_cases e3 : (rd_T94 l i).f2 = wrap64 (a + 1)
      · rw [if_pos e3]; simp [e1, e3]
      · have q : ((rd_T94 l i).f2 == wrap64 (a + 1)) = false := by simpa using e3
        rw [if_neg e3, q, Bool.and_false, Bool.false_or]
    · rw [if_neg e1]
      have q1 : ((rd_T94 l i).f0 == 10) = false := by simpa using e1
      by_cases e2 : (rd_T94 l i).f0 = 11
      · rw [if_pos e2]
        by_cases e3 : (rd_T94 l i).f2 = wrap64 (a + 1)
        · rw [if_pos e3]; simp [e2, e3]
        · have q : ((rd_T94 l i).f2 == wrap64 (a + 1)) = false := by simpa using e3
          rw [if_neg e3, q, Bool.and_false, Bool.false_or]
      · have q2 : ((rd_T94 l i).f0 == 11) = false := by simpa using e2
        rw [if_neg e2, q1, q2, Bool.false_or, Bool.false_and, Bool.false_or]
theorem spec_canPred_eq {k : Nat} {l : List S94} (a : Int) (ha : -9223372036854775808 ≤ a ∧ a ≤ 9223372036854775807) (hl : l.length ≤ 1048576) (hk : 2 * l.length + 10 < k) : spec_CanPredicate.f k l a = some (canOk l a) := by
  obtain ⟨k, rfl⟩ : ∃ q, k = q + 1 + 1 := ⟨k - 2, by omega⟩
  unfold spec_CanPredicate.f canOk
  rw [spec_quiet_eq hl (by omega)]; simp only [Option.bind_some, in_some, spec_CanPredicate.j0, spec_CanPredicate.j1, if_true, spec_can_l0 l a hl l.length k 0 (by omega) (by omega) (by omega), Int.toNat_zero, List.drop_zero]
  rw [w64 (x := (l.length : Int) - 2) (by omega) (by omega)]
  cases hq : quietOk l
  · rfl
  · rw [if_pos rfl]
    by_cases h : 0 ≤ a ∧ a ≤ (l.length : Int) - 2
    · rw [decide_eq_true h, if_neg (by decide)]
      unfold canB
      have hw : wrap64 (a + 1) = a + 1 := w64 (by omega) (by omega)
      rw [hw, if_pos h.1, if_pos (by omega), if_pos (by omega), if_pos (by omega)]
      simp only [Bool.true_and]
      by_cases e1 : (rd_T94 l a).f0 = 10
      · rw [if_pos e1]
        by_cases e2 : (rd_T94 l a).f2 = wrap64 (a + 2)
        · rw [if_pos e2]
          by_cases e3 : (rd_T94 l (a + 1)).f0 = 2
          · rw [if_pos e3]
            by_cases e4 : (rd_T94 l (a + 1)).f1 = (rd_T94 l a).f1
            · simp [e4]
            · simp [e1, e2, e3, e4]
          · rw [if_neg e3]; simp [e3]
        · rw [if_neg e2]; simp [e2]
      · rw [if_neg e1]; simp [e1]
    · rw [decide_eq_false h]; rfl
theorem getD_setneI {α : Type} {x : List α} {n m : Nat} (u z : α) (h : n ≠ m) : (x.set n u).getD m z = x.getD m z := by
  rw [List.getD_eq_getElem?_getD, List.getD_eq_getElem?_getD, List.getElem?_set_ne h]
theorem markInsS_l0' (s : Int) (n : Nat) (hs : 0 ≤ s) (hb : s + 4 * n < 9223372036854775800) : ∀ (d k : Nat) (x : List S94) (i : Int), 0 ≤ i → (n : Int) - i = d → d < k → x.length = n → (∀ j : Nat, (j : Int) < i → rd_T94 x j = ⟨s + 4 * j, s + 4 * j + 1, s + 4 * j + 2, s + 4 * j + 3⟩) →
    ∃ y, laws_markInsS.l0 k x (s + 4 * i) i = some (s + 4 * n, y) ∧ y.length = n ∧ ∀ j : Nat, j < n → rd_T94 y j = ⟨s + 4 * j, s + 4 * j + 1, s + 4 * j + 2, s + 4 * j + 3⟩ := by
  intro d
  induction d with
  | zero =>
    intro k x i h0 hd hk hx hr
    obtain ⟨k, rfl⟩ : ∃ q, k = q + 1 := ⟨k - 1, by omega⟩
    simp only [laws_markInsS.l0]
    rw [if_neg (by omega)]
    exact ⟨x, by rw [show s + 4 * i = s + 4 * n by omega], hx, fun j hj => hr j (by omega)⟩
  | succ d ih =>
    intro k x i h0 hd hk hx hr
    obtain ⟨k, rfl⟩ : ∃ q, k = q + 1 := ⟨k - 1, by omega⟩
    simp only [laws_markInsS.l0, Option.bind_some]
    have hi : i.toNat < x.length := by omega
    rw [if_pos (by omega), if_pos h0, w64 (x := s + 4 * i + 1) (by omega) (by omega), w64 (x := s + 4 * i + 1 + 1) (by omega) (by omega), w64 (x := s + 4 * i + 1 + 1 + 1) (by omega) (by omega), w64 (x := s + 4 * i + 1 + 1 + 1 + 1) (by omega) (by omega), w64 (x := i + 1) (by omega) (by omega), show s + 4 * i + 1 + 1 + 1 + 1 = s + 4 * (i + 1) by omega]
    unfold rd_T94
    simp only [getD_setI _ _ hi, List.set_set]
    refine ih k _ (i + 1) (by omega) (by omega) (by omega) (by simpa using hx) fun j hj => ?_
    by_cases e : (j : Int) = i
    · unfold rd_T94
      rw [show ((j : Int)).toNat = i.toNat by omega, getD_setI _ _ hi, e]
      congr 1 <;> omega
    · have := hr j (by omega)
      unfold rd_T94 at this ⊢
      rw [getD_setneI _ _ (by omega), this]
theorem heldInsS_l0 (s : Int) (n : Nat) (y : List S94) (hs : 0 ≤ s) (hb : s + 4 * n < 9223372036854775800) (hy : y.length = n) (hr : ∀ j : Nat, j < n → rd_T94 y j = ⟨s + 4 * j, s + 4 * j + 1, s + 4 * j + 2, s + 4 * j + 3⟩) : ∀ (d k : Nat) (i : Int), 0 ≤ i → (n : Int) - i = d → d < k →
    laws_heldInsS.l0 k y (s + 4 * i) i = some (s + 4 * n) := by
  intro d
  induction d with
  | zero =>
    intro k i h0 hd hk
    obtain ⟨k, rfl⟩ : ∃ q, k = q + 1 := ⟨k - 1, by omega⟩
    simp only [laws_heldInsS.l0]
    rw [if_neg (by omega), show s + 4 * i = s + 4 * n by omega]
  | succ d ih =>
    intro k i h0 hd hk
    obtain ⟨k, rfl⟩ : ∃ q, k = q + 1 := ⟨k - 1, by omega⟩
    have := hr i.toNat (by omega)
    rw [show ((i.toNat : Nat) : Int) = i by omega] at this
    simp only [laws_heldInsS.l0, this]
    rw [if_pos (by omega), if_pos h0, if_pos trivial, w64 (x := s + 4 * i + 1) (by omega) (by omega), w64 (x := s + 4 * i + 1 + 1) (by omega) (by omega), w64 (x := s + 4 * i + 1 + 1 + 1) (by omega) (by omega), w64 (x := s + 4 * i + 1 + 1 + 1 + 1) (by omega) (by omega), w64 (x := i + 1) (by omega) (by omega), show s + 4 * i + 1 + 1 + 1 + 1 = s + 4 * (i + 1) by omega, if_pos rfl, if_pos (by omega), if_pos (by omega)]
    exact ih k (i + 1) (by omega) (by omega) (by omega)
theorem markHeldInsS {k : Nat} {l : List S94} (hb : l.length ≤ 3000000) (hk : l.length < k) : ∃ y, laws_markInsS.f k l 1 = some ((1 : Int) + 4 * l.length, y) ∧ ∀ q, l.length < q → laws_heldInsS.f q y 1 = some ((1 : Int) + 4 * l.length) := by
  obtain ⟨y, h1, h2, h3⟩ := markInsS_l0' 1 l.length (by omega) (by omega) l.length k l 0 (by omega) (by omega) hk rfl (fun j hj => by omega)
  rw [show (1 : Int) + 4 * 0 = 1 by omega] at h1
  refine ⟨y, h1, fun q hq => ?_⟩
  have := heldInsS_l0 1 l.length y (by omega) (by omega) h2 h3 l.length q 0 (by omega) (by omega) hq
  rwa [show (1 : Int) + 4 * 0 = 1 by omega] at this
def predOf (l : List S94) (a : Int) : List S94 × Bool := if canOk l a = true then (((l.set a.toNat (⟨0, 0, 0, 0⟩ : S94)).set (a + 1).toNat (⟨9, (rd_T94 l (a + 1)).f1, (rd_T94 l (a + 1)).f2, (rd_T94 l a).f1⟩ : S94)), true) else (l, false)
theorem predOf_len (l : List S94) (a : Int) : (predOf l a).1.length = l.length := by
  unfold predOf; split <;> simp
theorem canOk_in {l : List S94} {a : Int} (h : canOk l a = true) : 0 ≤ a ∧ a + 1 < (l.length : Int) ∧ l.length ≤ 32 := by
  unfold canOk at h
  rw [Bool.and_eq_true, Bool.and_eq_true, decide_eq_true_eq] at h
  have := quietOk_len h.1
  omega
theorem impl_pred_eq (l : List S94) (a : Int) (ha : -9223372036854775808 ≤ a ∧ a ≤ 9223372036854775807) (hl : l.length ≤ 1048576) : impl_Predicate.f l a = some (predOf l a) := by
  have hc : cloneInsF l = some l := by unfold cloneInsF; rw [if_pos (by omega)]
  unfold impl_Predicate.f predOf
  change (cloneInsF l).bind _ = _
  rw [hc, Option.bind_some, impl_canPred_eq l a ha]; simp only [Option.bind_some]
  cases h : canOk l a
  · rfl
  · have hi := canOk_in h
    rw [w64 (by omega) (by omega), if_pos rfl, if_pos hi.1, if_pos (by omega), if_pos (by omega), if_pos (by omega), if_pos (by omega), if_pos (by omega)]; rfl
theorem spec_pred_eq {k : Nat} {l : List S94} (a : Int) (ha : -9223372036854775808 ≤ a ∧ a ≤ 9223372036854775807) (hl : l.length ≤ 1048576) (hk : 2 * l.length + 10 < k) : spec_Predicate.f k l a = some (predOf l a) := by
  unfold spec_Predicate.f predOf
  simp only [Option.bind_some, List.nil_append, List.length_nil, Nat.zero_add]
  rw [if_pos (by omega), spec_canPred_eq a ha hl hk]; simp only [Option.bind_some]
  cases h : canOk l a
  · rfl
  · have hi := canOk_in h
    rw [w64 (by omega) (by omega), if_pos rfl, if_pos (by omega), if_pos (by omega), if_pos hi.1, if_pos (by omega), if_pos (by omega), if_pos (by omega)]; rfl

theorem FnExactPredicate : laws_FnExactPredicate.Pure := by
  intro l a hl ha
  unfold maxLen at hl
  have ha2 : -9223372036854775808 ≤ a ∧ a ≤ 9223372036854775807 := by
    simp [Lit.wf, IntKind.min, IntKind.max, IntKind.signed, IntKind.bits] at ha
    omega
  by_cases h : left 1048576 l.length < 0
  · exact ⟨0, by unfold laws_FnExactPredicate.f; rw [szInsS_eq l (by omega) (by omega) (by omega)]; simp only [Option.bind_some]; rw [if_pos h]⟩
  have h' := left_ok (by omega) (by omega) h
  have hm : (l.map cvI).length = l.length := List.length_map ..
  have hp := predOf_len (l.map cvI) a
  obtain ⟨y, hy⟩ := markInsS_eq (k := 2 * l.length + 100 + 1 + 1) (l := l.map cvI) (s := 1) (by omega) (by omega) (by omega)
  obtain ⟨z, hz, hz2⟩ := markHeldInsS (k := 2 * l.length + 100 + 1) (l := (predOf (l.map cvI) a).1) (by omega) (by omega)
  refine ⟨2 * l.length + 100 + 1 + 1 + 1, ?_⟩
  unfold laws_FnExactPredicate.f
  rw [szInsS_eq l (by omega) (by omega) (by omega)]; simp only [Option.bind_some]
  rw [if_neg h]
  simp only [toInsS_eq (k := 2 * l.length + 100 + 1 + 1 + 1) h'.2.2 (by omega), toInsS_eq (k := 2 * l.length + 100 + 1 + 1) h'.2.2 (by omega), toInsS_eq (k := 2 * l.length + 100 + 1) h'.2.2 (by omega), spec_pred_eq (k := 2 * l.length + 100 + 1 + 1 + 1) (l := l.map cvI) a ha2 (by omega) (by omega), impl_pred_eq (l.map cvI) a ha2 (by omega), eqInsS_self (k := 2 * l.length + 100 + 1 + 1 + 1) (a := (predOf (l.map cvI) a).1) (by omega) (by omega), Option.bind_some, if_true, laws_FnExactPredicate.j0, laws_FnExactPredicate.j1, laws_FnExactPredicate.j2, bne_self_eq_false, Bool.false_eq_true, if_false]
  simp only [eqInsS_self (k := 2 * l.length + 100 + 1 + 1) (a := l.map cvI) (by omega) (by omega), hy, eqInsS_self (k := 2 * l.length + 100 + 1 + 1) (a := (predOf (l.map cvI) a).1) (by omega) (by omega), eqInsS_self (k := 2 * l.length + 100 + 1) (a := (predOf (l.map cvI) a).1) (by omega) (by omega), hz, hz2 (2 * l.length + 100 + 1) (by omega), hz2 (2 * l.length + 100) (by omega), Option.bind_some, if_true]
  rw [if_neg (by omega), if_neg (by omega), if_neg (by omega)]

end Go.Proofs.Ytcmimgoghmeliaa.Pure
