/-
 The program's NeverSplits returns what the reference's returns, for all arguments, and leaves its argument as it was.
 No condition.
-/
import Derived.Test.YtdppehpcpofeoaaGreatPFnExactNeverSplitsx16
namespace Go.Proofs.YtdppehpcpofeoaaGreat.Pure
open Go.RowKit Go.Proofs.YtdppehpcpofeoaaGreat.PFnExactNeverSplits Go.Proofs.YtdppehpcpofeoaaGreatW.PrintWords Go.Proofs.YtdppehpcpofeoaaGreatW.PrintLast Go.Proofs.YtdppehpcpofeoaaGreatW.PrintMore
set_option linter.unusedVariables false
set_option linter.unusedSimpArgs false

theorem w64 {x : Int} (h0 : -9223372036854775808 ≤ x) (h1 : x < 9223372036854775808) : wrap64 x = x := by unfold wrap64; omega
theorem drop_rd {l : List Int} {i : Int} (h0 : 0 ≤ i) (h1 : i < (l.length : Int)) : l.drop i.toNat = rd l i :: l.drop (i + 1).toNat := by
 have hi : i.toNat < l.length := by omega
 rw [show (i + 1).toNat = i.toNat + 1 by omega, List.drop_eq_getElem_cons hi]
 congr 1
 unfold rd
 rw [List.getD_eq_getElem?_getD, List.getElem?_eq_getElem hi]; rfl
theorem rd_mem {l : List Int} {i : Int} (h0 : 0 ≤ i) (h1 : i < (l.length : Int)) : rd l i ∈ l := by
 have hi : i.toNat < l.length := by omega
 unfold rd
 rw [List.getD_eq_getElem?_getD, List.getElem?_eq_getElem hi]
 exact List.getElem_mem hi
theorem take_set_succ {α : Type} {l x : List α} {i : Nat} (v : α) (hl : i < l.length) (hx : i < x.length) (h : x.take i = l.take i) (hv : l[i]'hl = v) : (x.set i v).take (i + 1) = l.take (i + 1) := by
 rw [List.take_succ_eq_append_getElem (by simpa using hx), List.take_succ_eq_append_getElem hl, List.take_set_of_le (Nat.le_refl i), h]
 simp [hv]
theorem rd_get {l : List Int} {i : Int} (h0 : 0 ≤ i) (h1 : i.toNat < l.length) : l[i.toNat]'h1 = rd l i := by
 unfold rd
 rw [List.getD_eq_getElem?_getD, List.getElem?_eq_getElem h1]; rfl
theorem need {p : Prop} (h : p) : p := h
theorem bindS {α β : Type} (x : α) (f : α → Option β) : (some x).bind f = f x := by
 have h : ∀ o : Option α, o = some x → o.bind f = f x := fun o e => by rw [e]; rfl
 exact h _ rfl
theorem within_some (x a b : Int) : impl_within.f x a b = some (decide (a ≤ x ∧ x ≤ b)) := by
 unfold impl_within.f
 by_cases h : a ≤ x
 ·rw [if_pos h]; simp [h]
 ·rw [if_neg h]; simp [h]
theorem in_some (x a b : Int) : spec_l01In.f x a b = some (decide (a ≤ x ∧ x ≤ b)) := by
 unfold spec_l01In.f
 by_cases h : a ≤ x
 ·rw [if_pos h]; simp [h]
 ·rw [if_neg h]; simp [h]
def ups : Nat → Int → List Int
 | 0, _ => []
 | n + 1, i => i :: ups n (i + 1)
theorem ups_mem : ∀ (n : Nat) (i x : Int), x ∈ ups n i → i ≤ x ∧ x < i + n
 | 0, _, _, h => by simp [ups] at h
 | n + 1, i, x, h => by
  rw [ups, List.mem_cons] at h
  rcases h with rfl | h
  ·omega
  ·have := ups_mem n (i + 1) x h; omega
theorem ups_mem_of : ∀ (n : Nat) (i x : Int), i ≤ x → x < i + n → x ∈ ups n i
 | 0, _, _, _, _ => by omega
 | n + 1, i, x, h0, h1 => by
  rw [ups, List.mem_cons]
  by_cases e : x = i
  ·exact .inl e
  ·exact .inr (ups_mem_of n (i + 1) x (by omega) (by omega))
theorem ups_len : ∀ (n : Nat) (i : Int), (ups n i).length = n
 | 0, _ => rfl
 | n + 1, i => by rw [ups, List.length_cons, ups_len]
theorem drop_getD {α : Type} {l : List α} {i : Int} (z : α) (h0 : 0 ≤ i) (h1 : i < (l.length : Int)) : l.drop i.toNat = l.getD i.toNat z :: l.drop (i + 1).toNat := by
 have hi : i.toNat < l.length := by omega
 rw [show (i + 1).toNat = i.toNat + 1 by omega, List.drop_eq_getElem_cons hi, List.getD_eq_getElem?_getD, List.getElem?_eq_getElem hi]; rfl
theorem getD_get {α : Type} {l : List α} {n : Nat} (z : α) (h : n < l.length) : l.getD n z = l[n]'h := by
 rw [List.getD_eq_getElem?_getD, List.getElem?_eq_getElem h]; rfl
theorem getD_map {α β : Type} {l : List α} {n : Nat} (g : α → β) (z : α) (z2 : β) (h : n < l.length) : (l.map g).getD n z2 = g (l.getD n z) := by
 rw [getD_get z h, getD_get z2 (by simpa using h), List.getElem_map]
def left (a : Int) (n : Nat) : Int := if a - n < 0 then -1 else a - n
def cvI (x : S40) : S38 := ⟨x.f0, x.f1, x.f2, x.f3⟩
theorem toInsS_l0 (l : List S40) (hl : l.length ≤ 1048576) : ∀ (d k : Nat) (x : List S38) (i : Int), 0 ≤ i → (l.length : Int) - i = d → d < k → x.length = l.length → x.take i.toNat = (l.map cvI).take i.toNat →
  laws_toInsS.l0 k l x i = some (l.map cvI) := by
 intro d
 induction d with
 | zero =>
  intro k x i h0 hd hk hx ht
  obtain ⟨k, rfl⟩ : ∃ q, k = q + 1 := ⟨k - 1, by omega⟩
  simp only [laws_toInsS.l0]
  rw [if_neg (by omega)]
  rw [List.take_of_length_le (by omega), List.take_of_length_le (by simp; omega)] at ht
  rw [ht]
 | succ d ih =>
  intro k x i h0 hd hk hx ht
  obtain ⟨k, rfl⟩ : ∃ q, k = q + 1 := ⟨k - 1, by omega⟩
  simp only [laws_toInsS.l0, laws_toIns.f, Option.bind_some]
  rw [if_pos (by omega), if_pos h0, if_pos (by omega), w64 (by omega) (by omega)]
  refine ih k _ (i + 1) (by omega) (by omega) (by omega) (by simpa using hx) ?_
  rw [show (i + 1).toNat = i.toNat + 1 by omega]
  refine take_set_succ _ (by simp; omega) (by omega) ht ?_
  rw [List.getElem_map]
  unfold rd_T40
  rw [getD_get _ (by omega : i.toNat < l.length)]; rfl
theorem toInsS_eq {k : Nat} {l : List S40} (hl : l.length ≤ 1048576) (hk : l.length < k) : laws_toInsS.f k l = some (l.map cvI) := by
 unfold laws_toInsS.f
 rw [if_pos (by omega), if_pos (by omega)]
 exact toInsS_l0 l hl l.length k _ 0 (by omega) (by omega) hk (by simp) (by simp)
theorem eqInsS_l0 (a : List S38) (ha : a.length ≤ 9223372036854775807) : ∀ (d k : Nat) (i : Int), 0 ≤ i → (a.length : Int) - i = d → d < k →
  laws_eqInsS.l0 k a a i = some true := by
 intro d
 induction d with
 | zero =>
  intro k i h0 hd hk
  obtain ⟨k, rfl⟩ : ∃ q, k = q + 1 := ⟨k - 1, by omega⟩
  simp only [laws_eqInsS.l0]
  rw [if_neg (by omega)]
 | succ d ih =>
  intro k i h0 hd hk
  obtain ⟨k, rfl⟩ : ∃ q, k = q + 1 := ⟨k - 1, by omega⟩
  simp only [laws_eqInsS.l0, laws_eqIns.f, if_true, Option.bind_some]
  rw [if_pos (by omega), if_pos h0, if_pos (by omega), w64 (by omega) (by omega), ih k (i + 1) (by omega) (by omega) (by omega)]
theorem eqInsS_self {k : Nat} {a : List S38} (ha : a.length ≤ 9223372036854775807) (hk : a.length < k) : laws_eqInsS.f k a a = some true := by
 unfold laws_eqInsS.f
 rw [if_pos rfl, eqInsS_l0 a ha a.length k 0 (by omega) (by omega) hk]
theorem szInsS_eq (l : List S40) {a : Int} (h0 : 0 ≤ a) (h1 : a ≤ 1048576) (hl : l.length ≤ 9223372036854775807) : laws_szInsS.f l a = some (left a l.length) := by
 unfold laws_szInsS.f left
 rw [w64 (by omega) (by omega)]
 by_cases h : a - (l.length : Int) < 0
 ·rw [if_pos h, if_pos h]
 ·rw [if_neg h, if_neg h]
def fldR (x : Int) : Bool := decide (0 ≤ x ∧ x ≤ 3)
def fldW (x : Int) : Bool := decide (0 ≤ x ∧ x ≤ 65535)
def fldT (n x : Int) : Bool := decide (0 ≤ x ∧ x ≤ n)
def fldB (n ch x : Int) : Bool := if ch = 82 then fldR x else if ch = 87 then fldW x else if ch = 84 then fldT n x else x == 0
def insB (n a b c d : Int) : Bool := if a = 0 ∨ a = 12 ∨ a = 16 then b == 0 && (c == 0 && d == 0) else if a = 1 then fldR b && (fldW c && d == 0) else if a = 2 ∨ a = 13 ∨ a = 14 ∨ a = 15 then fldR b && (fldR c && d == 0) else if a = 8 then fldR b && (c == 0 && d == 0) else if a = 10 then fldR b && (fldT n c && d == 0) else if a = 11 then b == 0 && (fldT n c && d == 0) else if 3 ≤ a ∧ a ≤ 9 then fldR b && (fldR c && fldR d) else false
theorem isField_eq (ch x n : Int) : impl_isField.f ch x n = some (fldB n ch x) := by
 unfold impl_isField.f impl_isReg.f impl_IsWord.f fldB
 simp only [within_some, Option.bind_some]
 split
 ·rfl
 ·split
  ·rfl
  ·split <;> rfl
theorem str3_ne (p q r : UInt8) : (⟨#[p, q, r]⟩ : ByteArray).toList ≠ [] := by
 unfold ByteArray.toList
 unfold ByteArray.toList.loop
 rw [if_pos (by show 0 < 3; decide)]
 unfold ByteArray.toList.loop
 rw [if_pos (by show 1 < 3; decide)]
 unfold ByteArray.toList.loop
 rw [if_pos (by show 2 < 3; decide)]
 unfold ByteArray.toList.loop
 rw [if_neg (by show ¬ 3 < 3; decide)]
 simp
theorem str0_eq : (⟨#[]⟩ : ByteArray).toList = [] := by
 unfold ByteArray.toList
 unfold ByteArray.toList.loop
 rw [if_neg (by show ¬ 0 < 0; decide)]; rfl
theorem insOk_str (p q r : UInt8) (a b c d n : Int) (h : impl_formOf.f a = some (⟨#[p, q, r]⟩ : ByteArray)) : impl_InsOk.f a b c d n = some (decide (0 ≤ n ∧ n ≤ 32) && (fldB n p.toNat b && (fldB n q.toNat c && fldB n r.toNat d))) := by
 unfold impl_InsOk.f
 rw [h]; simp only [Option.bind_some, within_some, isField_eq]
 rw [if_neg (str3_ne p q r)]
 have e0 : bt (⟨#[p, q, r]⟩ : ByteArray) 0 = p.toNat := rfl
 have e1 : bt (⟨#[p, q, r]⟩ : ByteArray) 1 = q.toNat := rfl
 have e2 : bt (⟨#[p, q, r]⟩ : ByteArray) 2 = r.toNat := rfl
 have es : ((⟨#[p, q, r]⟩ : ByteArray).size : Int) = 3 := rfl
 rw [e0, e1, e2, es]
 cases decide (0 ≤ n ∧ n ≤ 32) <;> cases fldB n p.toNat b <;> cases fldB n q.toNat c <;> cases fldB n r.toNat d <;> rfl
theorem insOk_none (a b c d n : Int) (h : ¬ (0 ≤ a ∧ a ≤ 16)) : impl_InsOk.f a b c d n = some false := by
 unfold impl_InsOk.f impl_formOf.f
 rw [within_some]; simp only [Option.bind_some]
 rw [if_neg (by simpa using h)]; simp only [Option.bind_some]
 rw [if_pos str0_eq]
theorem impl_insOk_eq (a b c d n : Int) : impl_InsOk.f a b c d n = some (decide (0 ≤ n ∧ n ≤ 32) && insB n a b c d) := by
 by_cases h : 0 ≤ a ∧ a ≤ 16
 ·rcases (by omega : a = 0 ∨ a = 1 ∨ a = 2 ∨ a = 3 ∨ a = 4 ∨ a = 5 ∨ a = 6 ∨ a = 7 ∨ a = 8 ∨ a = 9 ∨ a = 10 ∨ a = 11 ∨ a = 12 ∨ a = 13 ∨ a = 14 ∨ a = 15 ∨ a = 16) with e | e | e | e | e | e | e | e | e | e | e | e | e | e | e | e | e <;> subst e <;> (first | (rw [insOk_str 45 45 45 _ b c d n rfl]; rfl) | (rw [insOk_str 82 87 45 _ b c d n rfl]; rfl) | (rw [insOk_str 82 82 45 _ b c d n rfl]; rfl) | (rw [insOk_str 82 82 82 _ b c d n rfl]; rfl) | (rw [insOk_str 82 45 45 _ b c d n rfl]; rfl) | (rw [insOk_str 82 84 45 _ b c d n rfl]; rfl) | (rw [insOk_str 45 84 45 _ b c d n rfl]; rfl))
 ·rw [insOk_none a b c d n h]
  have : insB n a b c d = false := by
   unfold insB
   rw [if_neg (by omega), if_neg (by omega), if_neg (by omega), if_neg (by omega), if_neg (by omega), if_neg (by omega), if_neg (by omega)]
  rw [this, Bool.and_false]
theorem spec_reg_eq (x : Int) : spec_l04Reg.f x = some (fldR x) := by unfold spec_l04Reg.f; rw [in_some]; rfl
theorem spec_word_eq (x : Int) : spec_IsWord.f x = some (fldW x) := by unfold spec_IsWord.f; rw [in_some]; rfl
theorem spec_insOk_eq {k : Nat} (a b c d n : Int) (hk : 2 < k) : spec_InsOk.f k a b c d n = some (decide (0 ≤ n ∧ n ≤ 32) && insB n a b c d) := by
 obtain ⟨k, rfl⟩ : ∃ q, k = q + 1 + 1 := ⟨k - 2, by omega⟩
 have ht : spec_l01In.f c 0 n = some (fldT n c) := in_some _ _ _
 unfold spec_InsOk.f insB
 rw [in_some]; simp only [Option.bind_some]
 by_cases hn : 0 ≤ n ∧ n ≤ 32
 ·rw [if_pos (by simpa using hn), decide_eq_true hn, Bool.true_and]
  simp only [spec_InsOk.j0, spec_InsOk.j1, spec_reg_eq, spec_word_eq, ht, in_some a 3 9, Option.bind_some]
  by_cases h : 0 ≤ a ∧ a ≤ 16
  ·rcases (by omega : a = 0 ∨ a = 1 ∨ a = 2 ∨ a = 3 ∨ a = 4 ∨ a = 5 ∨ a = 6 ∨ a = 7 ∨ a = 8 ∨ a = 9 ∨ a = 10 ∨ a = 11 ∨ a = 12 ∨ a = 13 ∨ a = 14 ∨ a = 15 ∨ a = 16) with e | e | e | e | e | e | e | e | e | e | e | e | e | e | e | e | e <;> subst e <;> simp <;> by_cases hb : b = 0 <;> by_cases hc : c = 0 <;> (try simp [hb, hc]) <;> (try cases fldR b) <;> (try cases fldR 0) <;> (try cases fldR c) <;> (try cases fldW c) <;> (try cases fldW 0) <;> (try cases fldT n c) <;> (try cases fldT n 0) <;> (try simp)
  ·have q0 : a ≠ 0 := by omega
   have q1 : a ≠ 1 := by omega
   have q2 : a ≠ 2 := by omega
   have q8 : a ≠ 8 := by omega
   have q10 : a ≠ 10 := by omega
   have q11 : a ≠ 11 := by omega
   have q12 : a ≠ 12 := by omega
   have q13 : a ≠ 13 := by omega
   have q14 : a ≠ 14 := by omega
   have q15 : a ≠ 15 := by omega
   have q16 : a ≠ 16 := by omega
   have q3 : ¬ (3 ≤ a ∧ a ≤ 9) := by omega
   simp [q0, q1, q2, q8, q10, q11, q12, q13, q14, q15, q16, q3]
 ·rw [if_neg (by simpa using hn), decide_eq_false hn]; rfl
def insOk (n : Int) (x : S38) : Bool := decide (0 ≤ n ∧ n ≤ 32) && insB n x.f0 x.f1 x.f2 x.f3
def programOk (l : List S38) : Bool := decide (l.length ≤ 32) && l.all (insOk l.length)
theorem impl_programOk_eq (l : List S38) : impl_ProgramOk.f l = some (programOk l) := by
 unfold impl_ProgramOk.f programOk
 have hi : ∀ x : S38, insOkAt (l.length : Int) x = some (insOk l.length x) := fun x => impl_insOk_eq _ _ _ _ _
 have e : (fun x => insOkAt (l.length : Int) x == some true) = insOk (l.length : Int) := by
  funext x; rw [hi]; cases insOk (l.length : Int) x <;> rfl
 rw [if_pos, e]
 rw [List.all_eq_true]
 intro x _
 rw [hi]; rfl
theorem spec_programOk_l0 (l : List S38) (hl : l.length ≤ 1048576) : ∀ (d k : Nat) (i : Int), 0 ≤ i → (l.length : Int) - i = d → d + 2 < k →
  spec_ProgramOk.l0 k l i = some (if (l.drop i.toNat).all (insOk l.length) = true then decide (l.length ≤ 32) else false) := by
 intro d
 induction d with
 | zero =>
  intro k i h0 hd hk
  obtain ⟨k, rfl⟩ : ∃ q, k = q + 1 := ⟨k - 1, by omega⟩
  simp only [spec_ProgramOk.l0]
  rw [if_neg (by omega), List.drop_of_length_le (by omega)]
  by_cases h : l.length ≤ 32
  ·rw [decide_eq_true (by omega : (l.length : Int) ≤ 32), decide_eq_true h]; rfl
  ·rw [decide_eq_false (by omega : ¬ (l.length : Int) ≤ 32), decide_eq_false h]; rfl
 | succ d ih =>
  intro k i h0 hd hk
  obtain ⟨k, rfl⟩ : ∃ q, k = q + 1 := ⟨k - 1, by omega⟩
  simp only [spec_ProgramOk.l0]
  rw [if_pos (by omega), if_pos h0, w64 (by omega) (by omega), spec_insOk_eq _ _ _ _ _ (by omega), drop_getD z38 h0 (by omega), ih k (i + 1) (by omega) (by omega) (by omega)]
  simp only [Option.bind_some, List.all_cons]
  change (if (insOk (l.length : Int) (rd_T38 l i)) = true then _ else _) = _
  change _ = some (if (insOk (l.length : Int) (rd_T38 l i) && _) = true then _ else _)
  cases insOk (l.length : Int) (rd_T38 l i) <;> rfl
theorem spec_programOk_eq {k : Nat} {l : List S38} (hl : l.length ≤ 1048576) (hk : l.length + 2 < k) : spec_ProgramOk.f k l = some (programOk l) := by
 unfold spec_ProgramOk.f programOk
 rw [spec_programOk_l0 l hl l.length k 0 (by omega) (by omega) hk, Int.toNat_zero, List.drop_zero]
 cases l.all (insOk (l.length : Int)) <;> simp
theorem left_ok {a : Int} {n : Nat} (ha : 0 ≤ a) (ha1 : a ≤ 1048576) (h : ¬ left a n < 0) : left a n = a - n ∧ 0 ≤ a - n ∧ n ≤ 1048576 := by
 unfold left at h ⊢
 split at h
 ·omega
 ·rename_i q; rw [if_neg q]; omega
def localB (x : S38) : Bool := decide (0 ≤ x.f0 ∧ x.f0 ≤ 12)
def quietOk (l : List S38) : Bool := programOk l && l.all localB
theorem impl_quiet_eq (l : List S38) : impl_IsQuiet.f l = some (quietOk l) := by
 have hi : ∀ x : S38, isLocalAt x = some (localB x) := fun x => by unfold isLocalAt impl_IsLocal.f; rw [within_some]; rfl
 have e : (fun x => isLocalAt x == some true) = localB := by funext x; rw [hi]; cases localB x <;> rfl
 unfold impl_IsQuiet.f quietOk
 rw [impl_programOk_eq, e]; simp only [Option.bind_some]
 cases programOk l
 ·rfl
 ·rw [if_pos rfl, if_pos (List.all_eq_true.2 fun x _ => by rw [hi]; rfl)]; rfl
theorem quietOk_len {l : List S38} (h : quietOk l = true) : l.length ≤ 32 := by
 simp [quietOk, programOk] at h; exact h.1.1
theorem spec_quiet_l0 (l : List S38) (hl : l.length ≤ 1048576) : ∀ (d k : Nat) (i : Int), 0 ≤ i → (l.length : Int) - i = d → d + l.length + 3 < k →
  spec_IsQuiet.l0 k l i = some ((l.drop i.toNat).all localB && programOk l) := by
 intro d
 induction d with
 | zero =>
  intro k i h0 hd hk
  obtain ⟨k, rfl⟩ : ∃ q, k = q + 1 := ⟨k - 1, by omega⟩
  simp only [spec_IsQuiet.l0]
  rw [if_neg (by omega), List.drop_of_length_le (by omega), spec_programOk_eq hl (by omega)]; rfl
 | succ d ih =>
  intro k i h0 hd hk
  obtain ⟨k, rfl⟩ : ∃ q, k = q + 1 := ⟨k - 1, by omega⟩
  simp only [spec_IsQuiet.l0, spec_IsLocal.f, in_some, Option.bind_some]
  rw [if_pos (by omega), if_pos h0, w64 (by omega) (by omega), drop_getD z38 h0 (by omega), ih k (i + 1) (by omega) (by omega) (by omega), List.all_cons]
  change (if localB (rd_T38 l i) = true then _ else _) = some ((localB (rd_T38 l i) && _) && _)
  cases localB (rd_T38 l i) <;> rfl
theorem spec_quiet_eq {k : Nat} {l : List S38} (hl : l.length ≤ 1048576) (hk : 2 * l.length + 3 < k) : spec_IsQuiet.f k l = some (quietOk l) := by
 unfold spec_IsQuiet.f quietOk
 rw [spec_quiet_l0 l hl l.length k 0 (by omega) (by omega) (by omega), Int.toNat_zero, List.drop_zero, Bool.and_comm]
def rawReads (a b c d : Int) : List Int := if a = 2 ∨ a = 13 then [c] else if 3 ≤ a ∧ a ≤ 7 then [c, d] else if a = 9 then [b, c, d] else if a = 10 then [b] else if a = 14 ∨ a = 15 then [b, c] else []
def readsB (a b c d : Int) : List Int := [0, 1, 2, 3].filter fun r => (rawReads a b c d).contains r
theorem readsB_in {a b c d r : Int} (h : r ∈ readsB a b c d) : 0 ≤ r ∧ r ≤ 3 := by
 unfold readsB at h
 rw [List.mem_filter] at h
 obtain ⟨h, _⟩ := h
 simp only [List.mem_cons, List.not_mem_nil, or_false] at h
 omega
theorem fldR4 {x : Int} (h : fldR x = true) : x = 0 ∨ x = 1 ∨ x = 2 ∨ x = 3 := by
 unfold fldR at h
 have := of_decide_eq_true h
 omega
theorem insB_cases {n a b c d : Int} (h : insB n a b c d = true) : (a = 0 ∨ a = 1 ∨ a = 8 ∨ a = 11 ∨ a = 12 ∨ a = 16) ∨ ((a = 2 ∨ a = 13) ∧ fldR c = true) ∨ ((a = 3 ∨ a = 4 ∨ a = 5 ∨ a = 6 ∨ a = 7) ∧ fldR c = true ∧ fldR d = true) ∨ (a = 9 ∧ fldR b = true ∧ fldR c = true ∧ fldR d = true) ∨ (a = 10 ∧ fldR b = true) ∨ ((a = 14 ∨ a = 15) ∧ fldR b = true ∧ fldR c = true) := by
 unfold insB at h
 split at h
 ·exact .inl (by omega)
 split at h
 ·exact .inl (by omega)
 split at h
 ·rename_i q
  simp only [Bool.and_eq_true] at h
  rcases q with q | q | q | q
  ·exact .inr (.inl ⟨.inl q, h.2.1⟩)
  ·exact .inr (.inl ⟨.inr q, h.2.1⟩)
  ·exact .inr (.inr (.inr (.inr (.inr ⟨.inl q, h.1, h.2.1⟩))))
  ·exact .inr (.inr (.inr (.inr (.inr ⟨.inr q, h.1, h.2.1⟩))))
 split at h
 ·exact .inl (by omega)
 split at h
 ·rename_i q
  simp only [Bool.and_eq_true] at h
  exact .inr (.inr (.inr (.inr (.inl ⟨q, h.1⟩))))
 split at h
 ·exact .inl (by omega)
 split at h
 ·simp only [Bool.and_eq_true] at h
  by_cases e : a = 9
  ·exact .inr (.inr (.inr (.inl ⟨e, h.1, h.2.1, h.2.2⟩)))
  ·by_cases e8 : a = 8
   ·exact .inl (by omega)
   ·exact .inr (.inr (.inl ⟨by omega, h.2.1, h.2.2⟩))
 ·exact absurd h (by simp)
theorem impl_reads40 {a b c d n : Int} (h : insB n a b c d = true) : impl_ReadsRegs.f 40 a b c d = some (readsB a b c d) := by
 rcases insB_cases h with q | ⟨q, hc⟩ | ⟨q, hc, hd⟩ | ⟨q, hb, hc, hd⟩ | ⟨q, hb⟩ | ⟨q, hb, hc⟩
 ·rcases q with q | q | q | q | q | q <;> subst q <;> kernel_rfl
 ·rcases q with q | q <;> subst q <;> rcases fldR4 hc with e | e | e | e <;> subst e <;> kernel_rfl
 ·rcases q with q | q | q | q | q <;> subst q <;> rcases fldR4 hc with e | e | e | e <;> subst e <;> rcases fldR4 hd with e | e | e | e <;> subst e <;> kernel_rfl
 ·subst q; rcases fldR4 hb with e | e | e | e <;> subst e <;> rcases fldR4 hc with e | e | e | e <;> subst e <;> rcases fldR4 hd with e | e | e | e <;> subst e <;> kernel_rfl
 ·subst q; rcases fldR4 hb with e | e | e | e <;> subst e <;> kernel_rfl
 ·rcases q with q | q <;> subst q <;> rcases fldR4 hb with e | e | e | e <;> subst e <;> rcases fldR4 hc with e | e | e | e <;> subst e <;> kernel_rfl
theorem impl_reads_eq {k : Nat} {a b c d n : Int} (h : insB n a b c d = true) (hk : 40 ≤ k) : impl_ReadsRegs.f k a b c d = some (readsB a b c d) :=
 at_rounds (g := fun k => impl_ReadsRegs.f k a b c d) (fun k => impl_ReadsRegs.mono a b c d k) hk (impl_reads40 h)
theorem spec_reads40 {a b c d n : Int} (h : insB n a b c d = true) : spec_ReadsRegs.f 40 a b c d = some (readsB a b c d) := by
 rcases insB_cases h with q | ⟨q, hc⟩ | ⟨q, hc, hd⟩ | ⟨q, hb, hc, hd⟩ | ⟨q, hb⟩ | ⟨q, hb, hc⟩
 ·rcases q with q | q | q | q | q | q <;> subst q <;> kernel_rfl
 ·rcases q with q | q <;> subst q <;> rcases fldR4 hc with e | e | e | e <;> subst e <;> kernel_rfl
 ·rcases q with q | q | q | q | q <;> subst q <;> rcases fldR4 hc with e | e | e | e <;> subst e <;> rcases fldR4 hd with e | e | e | e <;> subst e <;> kernel_rfl
 ·subst q; rcases fldR4 hb with e | e | e | e <;> subst e <;> rcases fldR4 hc with e | e | e | e <;> subst e <;> rcases fldR4 hd with e | e | e | e <;> subst e <;> kernel_rfl
 ·subst q; rcases fldR4 hb with e | e | e | e <;> subst e <;> kernel_rfl
 ·rcases q with q | q <;> subst q <;> rcases fldR4 hb with e | e | e | e <;> subst e <;> rcases fldR4 hc with e | e | e | e <;> subst e <;> kernel_rfl
theorem spec_reads_eq {k : Nat} {a b c d n : Int} (h : insB n a b c d = true) (hk : 40 ≤ k) : spec_ReadsRegs.f k a b c d = some (readsB a b c d) :=
 at_rounds (g := fun k => spec_ReadsRegs.f k a b c d) (fun k => spec_ReadsRegs.mono a b c d k) hk (spec_reads40 h)
def onB (s r : Int) : Bool := (Go.bits .and .i64 (shr .i64 s r) 1) == 1
theorem onB_fin : ∀ (s : Fin 16) (r : Fin 4), ((Go.bits .and .i64 (shr .i64 (s.val : Int) (r.val : Int)) 1) == 0) = !(onB (s.val : Int) (r.val : Int)) := by decide +kernel
theorem fin16 {s : Int} (h : 0 ≤ s ∧ s ≤ 15) : ∃ f : Fin 16, (f.val : Int) = s := ⟨⟨s.toNat, by omega⟩, by show ((s.toNat : Nat) : Int) = s; omega⟩
theorem fin4 {s : Int} (h : 0 ≤ s ∧ s ≤ 3) : ∃ f : Fin 4, (f.val : Int) = s := ⟨⟨s.toNat, by omega⟩, by show ((s.toNat : Nat) : Int) = s; omega⟩
theorem onB_not {s r : Int} (hs : 0 ≤ s ∧ s ≤ 15) (hr : 0 ≤ r ∧ r ≤ 3) : ((Go.bits .and .i64 (shr .i64 s r) 1) == 0) = !(onB s r) := by
 obtain ⟨f, rfl⟩ := fin16 hs
 obtain ⟨g, rfl⟩ := fin4 hr
 exact onB_fin f g
def writesB (a b : Int) : Int := if 1 ≤ a ∧ a ≤ 9 ∨ a = 13 then b else -1
theorem writesB_in {n a b c d : Int} (h : insB n a b c d = true) (hw : ¬ writesB a b < 0) : 0 ≤ b ∧ b ≤ 3 := by
 unfold writesB at hw
 split at hw
 ·rename_i q
  have hf : fldR b = true := by
   unfold insB at h
   split at h
   ·omega
   split at h
   ·simp only [Bool.and_eq_true] at h; exact h.1
   split at h
   ·simp only [Bool.and_eq_true] at h; exact h.1
   split at h
   ·simp only [Bool.and_eq_true] at h; exact h.1
   split at h
   ·omega
   split at h
   ·omega
   split at h
   ·simp only [Bool.and_eq_true] at h; exact h.1
   ·exact absurd h (by simp)
  unfold fldR at hf
  exact of_decide_eq_true hf
 ·omega
theorem impl_writes_eq (a b c d : Int) : impl_WritesReg.f a b c d = some (writesB a b) := by
 unfold impl_WritesReg.f writesB
 rw [within_some]; simp only [Option.bind_some]
 by_cases h : 1 ≤ a ∧ a ≤ 9
 ·rw [if_pos (by simpa using h), if_pos (.inl h)]
 ·rw [if_neg (by simpa using h)]
  by_cases h2 : a = 13
  ·rw [if_pos h2, if_pos (.inr h2)]
  ·rw [if_neg h2, if_neg (by omega)]
theorem spec_writes_eq (a b c d : Int) : spec_WritesReg.f a b c d = some (writesB a b) := by
 unfold spec_WritesReg.f writesB
 rw [in_some]; simp only [Option.bind_some]
 by_cases h : 1 ≤ a ∧ a ≤ 9
 ·rw [if_pos (by simpa using h), if_pos (.inl h)]
 ·rw [if_neg (by simpa using h)]
  by_cases h2 : a = 13
  ·rw [if_pos h2, if_pos (.inr h2)]
  ·rw [if_neg h2, if_neg (by omega)]
def keepB (a b c d s : Int) : Bool := !(a == 8) && (!(a == 13) && (readsB a b c d).all (onB s))
def uniB (a b c d s : Int) : Int := if writesB a b < 0 then s else if keepB a b c d s = true then Go.bits .or .i64 s (shl .i64 1 b) else Go.bits .andNot .i64 s (shl .i64 1 b)
theorem hasAll_eq {s a b c d : Int} (hs : 0 ≤ s ∧ s ≤ 15) : impl_hasAll.f s (readsB a b c d) = some ((readsB a b c d).all (onB s)) := by
 unfold impl_hasAll.f
 rw [if_pos]
 ·congr 1
  have : ∀ l : List Int, (∀ r ∈ l, 0 ≤ r ∧ r ≤ 3) → (!(l.any (bitOut s))) = l.all (onB s) := by
   intro l
   induction l with
   | nil => intro _; rfl
   | cons x r ih =>
    intro h
    rw [List.any_cons, List.all_cons, ← ih (fun y hy => h y (List.mem_cons_of_mem _ hy)), Bool.not_or]
    congr 1
    unfold bitOut
    rw [onB_not hs (h x (List.mem_cons_self ..)), Bool.not_not]
  exact this _ fun r h => readsB_in h
 ·unfold regsIn
  rw [List.all_eq_true]
  intro r h
  exact decide_eq_true (readsB_in h)
theorem impl_uniformAfter_eq {k : Nat} {a b c d s n : Int} (h : insB n a b c d = true) (hs : 0 ≤ s ∧ s ≤ 15) (hk : 41 ≤ k) : impl_uniformAfter.f k a b c d s = some (uniB a b c d s) := by
 obtain ⟨k, rfl⟩ : ∃ q, k = q + 1 := ⟨k - 1, by omega⟩
 unfold impl_uniformAfter.f uniB
 rw [impl_writes_eq]; simp only [Option.bind_some]
 by_cases hw : writesB a b < 0
 ·rw [if_pos hw, if_pos hw]
 ·have hb := writesB_in h hw
  rw [if_neg hw, if_neg hw]
  simp only [impl_uniformAfter.j0, impl_reads_eq (k := k) h (by omega), hasAll_eq hs, Option.bind_some]
  unfold keepB
  by_cases h1 : a = 1
  ·subst h1
   rw [if_pos rfl, if_pos hb.1, if_pos]
   rfl
  ·rw [if_neg h1]
   by_cases h8 : a = 8
   ·subst h8
    rw [if_pos rfl, if_neg (by decide), if_neg (by decide), if_pos hb.1, if_neg (by simp)]
   ·rw [if_neg h8]
    have e8 : (a == 8) = false := beq_eq_false_iff_ne.mpr h8
    by_cases h13 : a = 13
    ·subst h13
     rw [if_neg (by decide), if_neg (by decide), if_pos hb.1, if_neg (by simp)]
    ·have e13 : (a == 13) = false := beq_eq_false_iff_ne.mpr h13
     rw [if_pos (by rw [bne, e13]; rfl), if_pos hb.1, if_pos hb.1, e8, e13]
     cases (readsB a b c d).all (onB s) <;> rfl
theorem spec_uniformAfter_l0 {s b : Int} (hb : 0 ≤ b) (l : List Int) (hl : l.length ≤ 4) (hr : ∀ r ∈ l, 0 ≤ r) : ∀ (q k : Nat) (x : Bool) (i : Int), 0 ≤ i → (l.length : Int) - i = q → q < k →
  spec_UniformAfter.l0 k s b x l i = some (if (x && (l.drop i.toNat).all (onB s)) = true then Go.bits .or .i64 s (shl .i64 1 b) else Go.bits .andNot .i64 s (shl .i64 1 b)) := by
 intro q
 induction q with
 | zero =>
  intro k x i h0 hd hk
  obtain ⟨k, rfl⟩ : ∃ q, k = q + 1 := ⟨k - 1, by omega⟩
  simp only [spec_UniformAfter.l0]
  rw [if_neg (by omega), List.drop_of_length_le (by omega), List.all_nil, Bool.and_true, if_pos hb, if_pos hb]
  cases x <;> rfl
 | succ q ih =>
  intro k x i h0 hd hk
  obtain ⟨k, rfl⟩ : ∃ q, k = q + 1 := ⟨k - 1, by omega⟩
  simp only [spec_UniformAfter.l0]
  have hi : i < (l.length : Int) := by omega
  rw [if_pos hi, w64 (by omega) (by omega), drop_rd h0 hi, List.all_cons]
  cases x with
  | false => rw [if_neg (by decide), ih k false (i + 1) (by omega) (by omega) (by omega), Bool.false_and, Bool.false_and]
  | true =>
   rw [if_pos rfl, if_pos h0, if_pos (hr _ (rd_mem h0 hi)), ih k _ (i + 1) (by omega) (by omega) (by omega)]
   rfl
theorem readsB_len (a b c d : Int) : (readsB a b c d).length ≤ 4 := by
 unfold readsB
 exact Nat.le_trans (List.length_filter_le _ _) (Nat.le_refl 4)
theorem spec_UniformAfter_eq {k : Nat} (a b c d s : Int) (hk : 50 ≤ k) : spec_UniformAfter.f k a b c d s = some (if 0 ≤ s ∧ s ≤ 15 ∧ insB 32 a b c d = true then uniB a b c d s else -1) := by
 obtain ⟨k, rfl⟩ : ∃ q, k = q + 1 + 1 := ⟨k - 2, by omega⟩
 unfold spec_UniformAfter.f
 rw [in_some]; simp only [Option.bind_some]
 by_cases hs : 0 ≤ s ∧ s ≤ 15
 ·rw [if_pos (by simpa using hs), spec_insOk_eq _ _ _ _ _ (by omega)]; simp only [Option.bind_some, spec_UniformAfter.j0]
  by_cases h : insB 32 a b c d = true
  ·rw [h, if_neg (by simp), if_pos ⟨hs.1, hs.2, rfl⟩, spec_writes_eq]; simp only [Option.bind_some, spec_UniformAfter.j1, spec_reads_eq (k := k) h (by omega)]
   unfold uniB
   by_cases hw : writesB a b < 0
   ·rw [if_pos hw, if_pos hw]
   ·have hb := writesB_in h hw
    have e : writesB a b = b := by unfold writesB at hw ⊢; split <;> simp_all
    rw [if_neg hw, if_neg hw, e]
    have hl := readsB_len a b c d
    rw [spec_uniformAfter_l0 hb.1 _ hl (fun r q => (readsB_in q).1) (readsB a b c d).length k _ 0 (by omega) (by omega) (by omega), spec_uniformAfter_l0 hb.1 _ hl (fun r q => (readsB_in q).1) (readsB a b c d).length k _ 0 (by omega) (by omega) (by omega)]
    rw [Int.toNat_zero, List.drop_zero]
    unfold keepB
    by_cases h8 : a = 8
    ·subst h8
     rw [if_pos rfl]; simp
    ·have e8 : (a == 8) = false := beq_eq_false_iff_ne.mpr h8
     rw [if_neg h8, e8, bne]; simp
  ·have e : insB 32 a b c d = false := by simpa using h
   rw [e, Bool.and_false, if_pos (by rfl), if_neg (fun q => absurd q.2.2 (by simp))]
 ·rw [if_neg (by simpa using hs), if_neg (fun q => hs ⟨q.1, q.2.1⟩)]; simp [spec_UniformAfter.j0]
namespace Gr
inductive Reach (nx : Int → List Int) (w : Int) (S : List Int) : Int → Prop
 | base {v : Int} : v ∈ S → v ≠ w → Reach nx w S v
 | step {u v : Int} : Reach nx w S u → v ∈ nx u → v ≠ w → Reach nx w S v
def mk (out : List Bool) (x : Int) : Bool := out.getD x.toNat false
def bfs (nx : Int → List Int) (w : Int) : Nat → List Bool → List Int → Option (List Bool)
 | 0, _, _ => none
 | _ + 1, out, [] => some out
 | k + 1, out, x :: t => if x = w then bfs nx w k out t else if mk out x = true then bfs nx w k out t else bfs nx w k (out.set x.toNat true) (t ++ nx x)
theorem mk_set {out : List Bool} {x v : Int} (hx : 0 ≤ x ∧ x.toNat < out.length) (hv : 0 ≤ v) : mk (out.set x.toNat true) v = (decide (v = x) || mk out v) := by
 unfold mk
 by_cases h : v = x
 ·subst h
  rw [List.getD_eq_getElem?_getD, List.getElem?_set_self hx.2]; simp
 ·rw [List.getD_eq_getElem?_getD, List.getD_eq_getElem?_getD, List.getElem?_set_ne (by omega)]; simp [h]
theorem count_set : ∀ (out : List Bool) (i : Nat), i < out.length → out.getD i false = false → (out.set i true).count false + 1 = out.count false
 | [], i, h, _ => absurd h (Nat.not_lt_zero _)
 | b :: r, 0, _, hb => by
  have e : b = false := by simpa using hb
  subst e
  simp
 | b :: r, i + 1, h, hb => by
  have := count_set r i (by simpa using h) (by simpa using hb)
  rw [List.set_cons_succ, List.count_cons, List.count_cons]
  omega
structure Inv (nx : Int → List Int) (w : Int) (S : List Int) (n : Nat) (out : List Bool) (todo : List Int) : Prop where
 len : out.length = n + 1
 rng : ∀ x ∈ todo, 0 ≤ x ∧ x ≤ n
 sound : ∀ v : Int, 0 ≤ v → mk out v = true → Reach nx w S v
 tsound : ∀ x ∈ todo, x ≠ w → Reach nx w S x
 start : ∀ s ∈ S, s = w ∨ mk out s = true ∨ s ∈ todo
 closed : ∀ u : Int, 0 ≤ u → mk out u = true → ∀ v ∈ nx u, v = w ∨ mk out v = true ∨ v ∈ todo
theorem bfs_ok {nx : Int → List Int} {w : Int} {S : List Int} {n : Nat} (hr : ∀ u : Int, 0 ≤ u → u ≤ n → ∀ v ∈ nx u, 0 ≤ v ∧ v ≤ n) (hs : ∀ s ∈ S, 0 ≤ s ∧ s ≤ n) (h2 : ∀ u : Int, 0 ≤ u → u ≤ n → (nx u).length ≤ 2) :
  ∀ (k : Nat) (out : List Bool) (todo : List Int), Inv nx w S n out todo → todo.length + 3 * out.count false < k →
  ∃ r, bfs nx w k out todo = some r ∧ r.length = n + 1 ∧ ∀ v : Int, 0 ≤ v → v ≤ n → (mk r v = true ↔ Reach nx w S v) := by
 intro k
 induction k with
 | zero => intro out todo _ h; omega
 | succ k ih =>
  intro out todo I hk
  cases todo with
  | nil =>
   refine ⟨out, rfl, I.len, fun v h0 h1 => ⟨I.sound v h0, fun h => ?_⟩⟩
   have key : ∀ v, Reach nx w S v → 0 ≤ v ∧ v ≤ n ∧ mk out v = true := by
    intro v h
    induction h with
    | base hv hw =>
     have := hs _ hv
     rcases I.start _ hv with q | q | q
     ·exact absurd q hw
     ·exact ⟨this.1, this.2, q⟩
     ·exact absurd q (by simp)
    | step hu hv hw ih =>
     have := hr _ ih.1 ih.2.1 _ hv
     rcases I.closed _ ih.1 ih.2.2 _ hv with q | q | q
     ·exact absurd q hw
     ·exact ⟨this.1, this.2, q⟩
     ·exact absurd q (by simp)
   exact (key v h).2.2
  | cons x t =>
   have hx := I.rng x (List.mem_cons_self ..)
   have hxl : 0 ≤ x ∧ x.toNat < out.length := ⟨hx.1, by rw [I.len]; omega⟩
   simp only [bfs]
   simp only [List.length_cons] at hk
   by_cases hw : x = w
   ·rw [if_pos hw]
    refine ih out t ⟨I.len, fun y hy => I.rng y (List.mem_cons_of_mem _ hy), I.sound, fun y hy => I.tsound y (List.mem_cons_of_mem _ hy), fun s h => ?_, fun u h0 hu v hv => ?_⟩ (by omega)
    ·rcases I.start s h with q | q | q
     ·exact .inl q
     ·exact .inr (.inl q)
     ·rcases List.mem_cons.1 q with q | q
      ·exact .inl (q.trans hw)
      ·exact .inr (.inr q)
    ·rcases I.closed u h0 hu v hv with q | q | q
     ·exact .inl q
     ·exact .inr (.inl q)
     ·rcases List.mem_cons.1 q with q | q
      ·exact .inl (q.trans hw)
      ·exact .inr (.inr q)
   ·rw [if_neg hw]
    by_cases hm : mk out x = true
    ·rw [if_pos hm]
     refine ih out t ⟨I.len, fun y hy => I.rng y (List.mem_cons_of_mem _ hy), I.sound, fun y hy => I.tsound y (List.mem_cons_of_mem _ hy), fun s h => ?_, fun u h0 hu v hv => ?_⟩ (by omega)
     ·rcases I.start s h with q | q | q
      ·exact .inl q
      ·exact .inr (.inl q)
      ·rcases List.mem_cons.1 q with q | q
       ·exact .inr (.inl (q ▸ hm))
       ·exact .inr (.inr q)
     ·rcases I.closed u h0 hu v hv with q | q | q
      ·exact .inl q
      ·exact .inr (.inl q)
      ·rcases List.mem_cons.1 q with q | q
       ·exact .inr (.inl (q ▸ hm))
       ·exact .inr (.inr q)
    ·rw [if_neg hm]
     have hR := I.tsound x (List.mem_cons_self ..) hw
     have hc := count_set out x.toNat hxl.2 (by unfold mk at hm; simpa using hm)
     have hn2 := h2 x hx.1 hx.2
     refine ih _ _ ⟨by rw [List.length_set]; exact I.len, fun y hy => ?_, fun v h0 hv => ?_, fun y hy hyw => ?_, fun s h => ?_, fun u h0 hu v hv => ?_⟩ (by rw [List.length_append]; omega)
     ·rcases List.mem_append.1 hy with q | q
      ·exact I.rng y (List.mem_cons_of_mem _ q)
      ·exact hr x hx.1 hx.2 y q
     ·rw [mk_set hxl h0] at hv
      by_cases e : v = x
      ·rw [e]; exact hR
      ·exact I.sound v h0 (by simpa [e] using hv)
     ·rcases List.mem_append.1 hy with q | q
      ·exact I.tsound y (List.mem_cons_of_mem _ q) hyw
      ·exact .step hR q hyw
     ·have h0 := (hs s h).1
      rcases I.start s h with q | q | q
      ·exact .inl q
      ·exact .inr (.inl (by rw [mk_set hxl h0, q]; simp))
      ·rcases List.mem_cons.1 q with q | q
       ·exact .inr (.inl (by rw [mk_set hxl h0]; simp [q]))
       ·exact .inr (.inr (List.mem_append_left _ q))
     ·rw [mk_set hxl h0] at hu
      by_cases e : u = x
      ·subst e
       exact .inr (.inr (List.mem_append_right _ hv))
      ·have hu' : mk out u = true := by simpa [e] using hu
       have hun : 0 ≤ u ∧ u ≤ n := by
        refine ⟨h0, ?_⟩
        by_cases q : u.toNat < out.length
        ·rw [I.len] at q; omega
        ·unfold mk at hu'
         rw [List.getD_eq_getElem?_getD, List.getElem?_eq_none (by omega)] at hu'
         exact absurd hu' (by simp)
       have hv0 := (hr u hun.1 hun.2 v hv).1
       rcases I.closed u h0 hu' v hv with q | q | q
       ·exact .inl q
       ·exact .inr (.inl (by rw [mk_set hxl hv0, q]; simp))
       ·rcases List.mem_cons.1 q with q | q
        ·exact .inr (.inl (by rw [mk_set hxl hv0]; simp [q]))
        ·exact .inr (.inr (List.mem_append_left _ q))
theorem count_rep (m : Nat) : (List.replicate m false).count false = m := by simp
theorem mk_rep (m : Nat) (v : Int) : mk (List.replicate m false) v = false := by
 unfold mk
 rw [List.getD_eq_getElem?_getD, List.getElem?_replicate]
 split <;> rfl
theorem bfs_from {nx : Int → List Int} {w : Int} {S : List Int} {n : Nat} (hr : ∀ u : Int, 0 ≤ u → u ≤ n → ∀ v ∈ nx u, 0 ≤ v ∧ v ≤ n) (hs : ∀ s ∈ S, 0 ≤ s ∧ s ≤ n) (h2 : ∀ u : Int, 0 ≤ u → u ≤ n → (nx u).length ≤ 2) {k : Nat} (hk : S.length + 3 * (n + 1) < k) :
  ∃ r, bfs nx w k (List.replicate (n + 1) false) S = some r ∧ r.length = n + 1 ∧ ∀ v : Int, 0 ≤ v → v ≤ n → (mk r v = true ↔ Reach nx w S v) :=
 bfs_ok hr hs h2 k _ _ ⟨by simp, hs, fun v _ h => by rw [mk_rep] at h; exact absurd h (by simp), fun x hx hw => .base hx hw, fun s h => .inr (.inr h), fun u _ hu => by rw [mk_rep] at hu; exact absurd hu (by simp)⟩ (by rw [count_rep]; omega)
theorem bfs_keeps {nx : Int → List Int} {w : Int} : ∀ (k : Nat) (out : List Bool) (todo : List Int) (r : List Bool), bfs nx w k out todo = some r → r.length = out.length ∧ ∀ v : Int, mk out v = true → mk r v = true := by
 intro k
 induction k with
 | zero => intro out todo r h; exact absurd h (by simp [bfs])
 | succ k ih =>
  intro out todo r h
  cases todo with
  | nil => simp only [bfs, Option.some.injEq] at h; subst h; exact ⟨rfl, fun _ h => h⟩
  | cons x t =>
   simp only [bfs] at h
   by_cases hw : x = w
   ·rw [if_pos hw] at h; exact ih _ _ _ h
   ·rw [if_neg hw] at h
    by_cases hm : mk out x = true
    ·rw [if_pos hm] at h; exact ih _ _ _ h
    ·rw [if_neg hm] at h
     have := ih _ _ _ h
     refine ⟨by rw [this.1, List.length_set], fun v hv => this.2 v ?_⟩
     unfold mk at hv ⊢
     by_cases e : x.toNat = v.toNat
     ·rw [List.getD_eq_getElem?_getD] at hv ⊢
      rw [e]
      by_cases q : v.toNat < out.length
      ·rw [List.getElem?_set_self q]; rfl
      ·rw [List.getElem?_eq_none (by omega)] at hv; exact absurd hv (by simp)
     ·rw [List.getD_eq_getElem?_getD, List.getElem?_set_ne e, ← List.getD_eq_getElem?_getD]; exact hv
section
variable {nx : Int → List Int} {x : Int}
theorem reach_ne {w : Int} {S : List Int} {v : Int} (h : Reach nx w S v) : v ≠ w := by cases h <;> assumption
theorem reach_trans {w u v : Int} {S : List Int} (h : Reach nx w S u) (k : Reach nx w [u] v) : Reach nx w S v := by
 induction k with
 | base hv hw => rw [List.mem_singleton.1 hv]; exact h
 | step _ hv hw ih => exact .step ih hv hw
theorem reach_split {w : Int} {S : List Int} {v : Int} {z : Int} (h : Reach nx z S v) : Reach nx w S v ∨ Reach nx z [w] v := by
 induction h with
 | @base v hv hz =>
  by_cases e : v = w
  ·exact .inr (.base (by simp [e]) hz)
  ·exact .inl (.base hv e)
 | @step u v _ hv hz ih =>
  rcases ih with q | q
  ·by_cases e : v = w
   ·exact .inr (.base (by simp [e]) hz)
   ·exact .inl (.step q hv e)
  ·exact .inr (.step q hv hz)
end
section
variable {nx : Int → List Int} {x : Int}
theorem reach_self {w v : Int} (h : Reach nx w [w] v) : False := by
 induction h with
 | base hv hw => exact hw (List.mem_singleton.1 hv)
 | step _ _ _ ih => exact ih
theorem reach_start {w u v : Int} (h : Reach nx w [u] v) : u ≠ w := fun e => reach_self (e ▸ h)
theorem reach_pre {w b u v : Int} (hb : b ≠ w) (hu : u ∈ nx b) (h : Reach nx w [u] v) : Reach nx w [b] v := by
 induction h with
 | base hv hw => rw [List.mem_singleton.1 hv] at hw ⊢; exact .step (.base (by simp) hb) hu hw
 | step _ hv hw ih => exact .step ih hv hw
def Aft (nx : Int → List Int) (x u v : Int) : Prop := Reach nx (-1) [u] x ∧ ¬ Reach nx v [u] x
theorem aft_reach {u v : Int} (h : Aft nx x u v) : Reach nx (-1) [v] x := by
 rcases reach_split (w := v) h.1 with q | q
 ·exact absurd q h.2
 ·exact q
theorem aft_refl {u : Int} (h : Reach nx (-1) [u] x) : Aft nx x u u := ⟨h, fun q => reach_self q⟩
theorem aft_trans {u v t : Int} (h : Aft nx x u v) (k : Aft nx x v t) : Aft nx x u t :=
 ⟨h.1, fun q => (reach_split (w := v) q).elim h.2 k.2⟩
theorem aft_total {b d e : Int} (h : Aft nx x b d) (k : Aft nx x b e) : Aft nx x d e ∨ Aft nx x e d := by
 by_cases hde : d = e
 ·subst hde; exact .inl (aft_refl (aft_reach h))
 by_cases h1 : Reach nx e [d] x
 ·refine .inr ⟨aft_reach k, fun h2 => ?_⟩
  have key : ∀ v, Reach nx (-1) [b] v → (Reach nx d [b] v ∧ Reach nx e [b] v) ∨ Reach nx e [b] d ∨ Reach nx d [b] e := by
   intro v hv
   induction hv with
   | @base v hv _ =>
    by_cases e1 : v = d
    ·exact .inr (.inl (by subst e1; exact .base hv hde))
    ·by_cases e2 : v = e
     ·exact .inr (.inr (by subst e2; exact .base hv (fun q => hde q.symm)))
     ·exact .inl ⟨.base hv e1, .base hv e2⟩
   | @step u v _ hv _ ih =>
    rcases ih with q | q
    ·by_cases e1 : v = d
     ·exact .inr (.inl (by subst e1; exact .step q.2 hv hde))
     ·by_cases e2 : v = e
      ·exact .inr (.inr (by subst e2; exact .step q.1 hv (fun q => hde q.symm)))
      ·exact .inl ⟨.step q.1 hv e1, .step q.2 hv e2⟩
    ·exact .inr q
  rcases key x h.1 with q | q | q
  ·exact h.2 q.1
  ·exact k.2 (reach_trans q h1)
  ·exact h.2 (reach_trans q h2)
 ·exact .inl ⟨aft_reach h, h1⟩
theorem aft_first {b : Int} : ∀ (L : List Int), L ≠ [] → (∀ d ∈ L, Aft nx x b d) → ∃ d ∈ L, ∀ e ∈ L, Aft nx x d e
 | [], h, _ => absurd rfl h
 | [d], _, h => ⟨d, by simp, fun e he => by rw [List.mem_singleton.1 he]; exact aft_refl (aft_reach (h d (by simp)))⟩
 | a :: c :: r, _, h => by
  obtain ⟨d, hd, hd2⟩ := aft_first (c :: r) (by simp) (fun e he => h e (List.mem_cons_of_mem _ he))
  rcases aft_total (h a (by simp)) (h d (List.mem_cons_of_mem _ hd)) with q | q
  ·refine ⟨a, by simp, fun e he => ?_⟩
   rcases List.mem_cons.1 he with e1 | e1
   ·rw [e1]; exact aft_refl (aft_reach (h a (by simp)))
   ·exact aft_trans q (hd2 e e1)
  ·refine ⟨d, List.mem_cons_of_mem _ hd, fun e he => ?_⟩
   rcases List.mem_cons.1 he with e1 | e1
   ·rw [e1]; exact q
   ·exact hd2 e e1
end
end Gr
def nxB (P : List S38) (v : Int) : List Int :=
 if v = (P.length : Int) then [] else if (rd_T38 P v).f0 = 12 then [(P.length : Int)] else if (rd_T38 P v).f0 = 11 then [(rd_T38 P v).f2] else if (rd_T38 P v).f0 = 10 then (if (rd_T38 P v).f2 < v + 1 then [(rd_T38 P v).f2, v + 1] else if (rd_T38 P v).f2 = v + 1 then [(rd_T38 P v).f2] else [v + 1, (rd_T38 P v).f2]) else [v + 1]
theorem programOk_at {P : List S38} (h : programOk P = true) {v : Int} (h0 : 0 ≤ v) (h1 : v < (P.length : Int)) : insB (P.length : Int) (rd_T38 P v).f0 (rd_T38 P v).f1 (rd_T38 P v).f2 (rd_T38 P v).f3 = true := by
 unfold programOk at h
 rw [Bool.and_eq_true] at h
 have := List.all_eq_true.1 h.2 (rd_T38 P v) (by
  unfold rd_T38
  rw [List.getD_eq_getElem?_getD, List.getElem?_eq_getElem (by omega : v.toNat < P.length)]
  exact List.getElem_mem _)
 unfold insOk at this
 rw [Bool.and_eq_true] at this
 exact this.2
theorem programOk_len {P : List S38} (h : programOk P = true) : P.length ≤ 32 := by
 unfold programOk at h
 rw [Bool.and_eq_true] at h
 exact of_decide_eq_true h.1
theorem insB_target {n a b c d : Int} (h : insB n a b c d = true) (ha : a = 10 ∨ a = 11) : 0 ≤ c ∧ c ≤ n := by
 have hf : fldT n c = true := by
  unfold insB at h
  rcases ha with e | e <;> subst e <;> simp at h <;> first | exact h.2.1 | exact h.1.2 | exact h.2 | (simp_all)
 unfold fldT at hf
 exact of_decide_eq_true hf
theorem nxB_in {P : List S38} (h : programOk P = true) {v : Int} (h0 : 0 ≤ v) (h1 : v ≤ (P.length : Int)) : ∀ w ∈ nxB P v, 0 ≤ w ∧ w ≤ (P.length : Int) := by
 intro w hw
 unfold nxB at hw
 by_cases e : v = (P.length : Int)
 ·rw [if_pos e] at hw; exact absurd hw (by simp)
 rw [if_neg e] at hw
 have hi := programOk_at h h0 (by omega)
 by_cases e1 : (rd_T38 P v).f0 = 12
 ·rw [if_pos e1] at hw; rw [List.mem_singleton.1 hw]; omega
 rw [if_neg e1] at hw
 by_cases e2 : (rd_T38 P v).f0 = 11
 ·rw [if_pos e2] at hw; rw [List.mem_singleton.1 hw]; exact insB_target hi (.inr e2)
 rw [if_neg e2] at hw
 by_cases e3 : (rd_T38 P v).f0 = 10
 ·rw [if_pos e3] at hw
  have ht := insB_target hi (.inl e3)
  split at hw
  ·simp only [List.mem_cons, List.not_mem_nil, or_false] at hw; omega
  ·split at hw <;> simp only [List.mem_cons, List.not_mem_nil, or_false] at hw <;> omega
 ·rw [if_neg e3] at hw; rw [List.mem_singleton.1 hw]; omega
theorem nxB_len (P : List S38) (v : Int) : (nxB P v).length ≤ 2 := by
 unfold nxB
 repeat' split
 all_goals simp
theorem sort2 (x y : Int) : ∀ k, 10 ≤ k → slices_insertionSortOrdered_int.f k [x, y] 0 2 = some (if y < x then [y, x] else [x, y]) := by
 intro k hk
 obtain ⟨k, rfl⟩ : ∃ q, k = q + 1 + 1 + 1 + 1 + 1 := ⟨k - 5, by omega⟩
 have hl : ∀ a b : Int, cmp_Less_int.f a b = some (decide (a < b)) := by
  intro a b
  unfold cmp_Less_int.f cmp_isNaN_int.f
  simp
 unfold slices_insertionSortOrdered_int.f
 have e0 : wrap64 (0 + 1) = 1 := by unfold wrap64; omega
 have e1 : wrap64 (1 - 1) = 0 := by unfold wrap64; omega
 have e2 : wrap64 (1 + 1) = 2 := by unfold wrap64; omega
 rw [e0]
 simp only [slices_insertionSortOrdered_int.l0, slices_insertionSortOrdered_int.l1, hl, Option.bind_some, e1, e2]
 have r1 : rd [x, y] 1 = y := rfl
 have r0 : rd [x, y] 0 = x := rfl
 by_cases h : y < x
 ·simp [h, r0, r1, slices_insertionSortOrdered_int.l0, slices_insertionSortOrdered_int.l1, e1, e2]
 ·simp [h, r0, r1, slices_insertionSortOrdered_int.l0, slices_insertionSortOrdered_int.l1, e1, e2]
theorem impl_next_eq {P : List S38} (h : programOk P = true) {v : Int} (h0 : 0 ≤ v) (h1 : v ≤ (P.length : Int)) {k : Nat} (hk : 10 ≤ k) : impl_next.f k P v = some (nxB P v) := by
 have hn := programOk_len h
 unfold impl_next.f nxB
 by_cases e : v = (P.length : Int)
 ·rw [if_pos e, if_pos e]
 rw [if_neg e, if_neg e, if_pos h0, if_pos (by omega)]
 have hi := programOk_at h h0 (by omega)
 by_cases e1 : (rd_T38 P v).f0 = 12
 ·rw [if_pos e1, if_pos e1]
 rw [if_neg e1, if_neg e1]
 by_cases e2 : (rd_T38 P v).f0 = 11
 ·rw [if_pos e2, if_pos e2]
 rw [if_neg e2, if_neg e2, w64 (by omega) (by omega)]
 by_cases e3 : (rd_T38 P v).f0 = 10
 ·rw [if_pos e3, if_pos e3]
  unfold slices_Sort_int_int.f
  rw [if_pos (by simp), show ((([(rd_T38 P v).f2, v + 1] : List Int).length : Nat) : Int) = 2 from rfl, sort2 _ _ k hk]
  simp only [Option.bind_some]
  unfold slices_Compact_int_int.f
  generalize (rd_T38 P v).f2 = t
  by_cases q : v + 1 < t
  ·rw [if_pos q, if_pos (by simp), if_neg (by omega), if_neg (by omega), compL, if_neg (by omega)]; rfl
  ·rw [if_neg q, if_pos (by simp), compL]
   by_cases q2 : t = v + 1
   ·rw [if_pos q2, if_neg (by omega), if_pos q2]; subst q2; rfl
   ·rw [if_neg q2, if_pos (by omega)]; rfl
 ·rw [if_neg e3, if_neg e3]
theorem put1 (x y : Int) : ∀ k, 5 ≤ k → spec_l04Put.f k [x] y = some (if y < x then [y, x] else if y = x then [x] else [x, y]) := by
 intro k hk
 obtain ⟨k, rfl⟩ : ∃ q, k = q + 1 + 1 + 1 := ⟨k - 3, by omega⟩
 have e1 : wrap64 (1 - 1) = 0 := by unfold wrap64; omega
 have r0 : rd [x] 0 = x := rfl
 unfold spec_l04Put.f
 simp only [spec_l04Put.l0, List.length_singleton, Option.bind_some]
 rw [show (((1 : Nat) : Int)) = 1 from rfl, e1, r0]
 by_cases h : y < x
 ·simp [h, spec_l04Put.l0]
 ·by_cases h2 : x = y
  ·subst h2; simp
  ·have h3 : ¬ y = x := fun q => h2 q.symm
   have h4 : ¬ x > y := by omega
   simp [h, h2, h3, h4]
theorem spec_next_eq {P : List S38} (h : programOk P = true) {v : Int} (h0 : 0 ≤ v) (h1 : v ≤ (P.length : Int)) {k : Nat} (hk : 10 ≤ k) : spec_l07Next.f k P v = some (nxB P v) := by
 have hn := programOk_len h
 unfold spec_l07Next.f nxB
 by_cases e : v = (P.length : Int)
 ·rw [if_pos e, if_pos e]
 rw [if_neg e, if_neg e, if_pos h0, if_pos (by omega)]
 have hi := programOk_at h h0 (by omega)
 by_cases e1 : (rd_T38 P v).f0 = 12
 ·rw [if_pos e1, if_pos e1]
 rw [if_neg e1, if_neg e1]
 by_cases e2 : (rd_T38 P v).f0 = 11
 ·rw [if_pos e2, if_pos e2]
 rw [if_neg e2, if_neg e2, w64 (by omega) (by omega)]
 by_cases e3 : (rd_T38 P v).f0 = 10
 ·rw [if_pos e3, if_pos e3, put1 _ _ k (by omega)]
  simp only [Option.bind_some]
  generalize (rd_T38 P v).f2 = t
  by_cases q : t < v + 1
  ·rw [if_pos q, if_pos q]
  ·rw [if_neg q, if_neg q]
   by_cases q2 : t = v + 1
   ·rw [if_pos q2, if_pos q2, q2]
   ·rw [if_neg q2, if_neg q2]
 ·rw [if_neg e3, if_neg e3]
def reachL (P : List S38) (wo : Int) (S : List Int) : List Bool := (Gr.bfs (nxB P) wo 300 (List.replicate (P.length + 1) false) S).getD []
def reachB (P : List S38) (wo : Int) (S : List Int) (v : Int) : Bool := Gr.mk (reachL P wo S) v
theorem reachL_ok {P : List S38} (h : programOk P = true) (wo : Int) {S : List Int} (hs : ∀ s ∈ S, 0 ≤ s ∧ s ≤ (P.length : Int)) (hl : S.length ≤ 40) :
  Gr.bfs (nxB P) wo 300 (List.replicate (P.length + 1) false) S = some (reachL P wo S) ∧ (reachL P wo S).length = P.length + 1 ∧ ∀ v : Int, 0 ≤ v → v ≤ (P.length : Int) → (reachB P wo S v = true ↔ Gr.Reach (nxB P) wo S v) := by
 have hn := programOk_len h
 obtain ⟨r, h1, h2, h3⟩ := Gr.bfs_from (nx := nxB P) (w := wo) (S := S) (n := P.length) (fun u h0 h1 => nxB_in h h0 h1) hs (fun u _ _ => nxB_len P u) (k := 300) (by omega)
 have e : reachL P wo S = r := by unfold reachL; rw [h1]; rfl
 refine ⟨by rw [e]; exact h1, by rw [e]; exact h2, fun v h0 hv => ?_⟩
 unfold reachB
 rw [e]; exact h3 v h0 hv
theorem reachB_iff {P : List S38} (h : programOk P = true) (wo : Int) {S : List Int} (hs : ∀ s ∈ S, 0 ≤ s ∧ s ≤ (P.length : Int)) (hl : S.length ≤ 40) {v : Int} (h0 : 0 ≤ v) (h1 : v ≤ (P.length : Int)) : reachB P wo S v = true ↔ Gr.Reach (nxB P) wo S v := (reachL_ok h wo hs hl).2.2 v h0 h1
theorem mk_rdOf (out : List Bool) (x : Int) : rdOf false out x = Gr.mk out x := rfl
theorem count_rep' (n : Nat) : (List.replicate n false).count false = n := by simp
theorem reachI_bfs {P : List S38} (h : programOk P = true) (wo : Int) : ∀ (k : Nat) (out : List Bool) (todo : List Int) (r : List Bool), out.length = P.length + 1 → (∀ x ∈ todo, 0 ≤ x ∧ x ≤ (P.length : Int)) → todo.length + 3 * out.count false ≤ 1000 → Gr.bfs (nxB P) wo k out todo = some r → reachI P wo (k + 10) out todo = some r := by
 intro k
 induction k with
 | zero => intro out todo r _ _ _ h; exact absurd h (by simp [Gr.bfs])
 | succ k ih =>
  intro out todo r ho ht hm hb
  rw [show k + 1 + 10 = (k + 10) + 1 by omega]
  cases todo with
  | nil => exact hb
  | cons x t =>
   have hx := ht x (List.mem_cons_self ..)
   have ht' : ∀ y ∈ t, 0 ≤ y ∧ y ≤ (P.length : Int) := fun y hy => ht y (List.mem_cons_of_mem _ hy)
   rw [List.length_cons] at hm
   rw [Gr.bfs] at hb
   rw [reachI]
   by_cases e : x = wo
   ·rw [if_pos e] at hb ⊢; exact ih out t r ho ht' (by omega) hb
   rw [if_neg e] at hb ⊢
   rw [if_pos ⟨hx.1, by rw [ho]; omega⟩, mk_rdOf]
   by_cases em : Gr.mk out x = true
   ·rw [if_pos em] at hb ⊢; exact ih out t r ho ht' (by omega) hb
   rw [if_neg em] at hb ⊢
   have hl := nxB_len P x
   rw [impl_next_eq h hx.1 hx.2 (by omega)]; simp only [Option.bind_some]
   have hc := Gr.count_set out x.toNat (by omega) (by unfold Gr.mk at em; simpa using em)
   rw [if_pos (by omega)]
   refine ih _ _ r (by rw [List.length_set]; exact ho) (fun y hy => ?_) (by rw [List.length_append]; omega) hb
   rcases List.mem_append.1 hy with q | q
   ·exact ht' y q
   ·exact nxB_in h hx.1 hx.2 y q
theorem impl_reached_eq {P : List S38} (h : programOk P = true) (wo : Int) {S : List Int} (hs : ∀ s ∈ S, 0 ≤ s ∧ s ≤ (P.length : Int)) (hl : S.length ≤ 40) {k : Nat} (hk : 310 ≤ k) : impl_reached.f k P S wo = some (reachL P wo S) := by
 have hn := programOk_len h
 have hb := (reachL_ok h wo hs hl).1
 have h2 := reachI_bfs h wo 300 _ S _ (by simp) hs (by rw [count_rep']; omega) hb
 refine at_rounds (g := fun k => impl_reached.f k P S wo) (fun k => impl_reached.mono P S wo k) hk ?_
 show impl_reached.f 310 P S wo = _
 unfold impl_reached.f slices_Clone_int_int.f cloneIntF
 rw [if_pos (by omega), if_pos (by omega)]
 exact h2
theorem reachS_bfs {P : List S38} (h : programOk P = true) : ∀ (k : Nat) (out : List Bool) (todo : List Int) (r : List Bool), out.length = P.length + 1 → (∀ x ∈ todo, 0 ≤ x ∧ x ≤ (P.length : Int)) → todo.length + 3 * out.count false ≤ 1000 → Gr.bfs (nxB P) (-1) k out todo = some r → reachS P (k + 10) out todo = some r := by
 intro k
 induction k with
 | zero => intro out todo r _ _ _ h; exact absurd h (by simp [Gr.bfs])
 | succ k ih =>
  intro out todo r ho ht hm hb
  rw [show k + 1 + 10 = (k + 10) + 1 by omega]
  cases todo with
  | nil => exact hb
  | cons x t =>
   have hx := ht x (List.mem_cons_self ..)
   have ht' : ∀ y ∈ t, 0 ≤ y ∧ y ≤ (P.length : Int) := fun y hy => ht y (List.mem_cons_of_mem _ hy)
   rw [List.length_cons] at hm
   rw [Gr.bfs, if_neg (by omega)] at hb
   rw [reachS, if_pos ⟨hx.1, by rw [ho]; omega⟩, mk_rdOf]
   by_cases em : Gr.mk out x = true
   ·rw [if_pos em] at hb ⊢; exact ih out t r ho ht' (by omega) hb
   rw [if_neg em] at hb ⊢
   have hl := nxB_len P x
   rw [spec_next_eq h hx.1 hx.2 (by omega)]; simp only [Option.bind_some]
   have hc := Gr.count_set out x.toNat (by omega) (by unfold Gr.mk at em; simpa using em)
   rw [if_pos (by omega)]
   refine ih _ _ r (by rw [List.length_set]; exact ho) (fun y hy => ?_) (by rw [List.length_append]; omega) hb
   rcases List.mem_append.1 hy with q | q
   ·exact ht' y q
   ·exact nxB_in h hx.1 hx.2 y q
theorem spec_reach_eq {P : List S38} (h : programOk P = true) {S : List Int} (hs : ∀ s ∈ S, 0 ≤ s ∧ s ≤ (P.length : Int)) (hl : S.length ≤ 40) {k : Nat} (hk : 310 ≤ k) : spec_l07Reach.f k P S = some (reachL P (-1) S) := by
 have hn := programOk_len h
 have hb := (reachL_ok h (-1) hs hl).1
 have h2 := reachS_bfs h 300 _ S _ (by simp) hs (by rw [count_rep']; omega) hb
 refine at_rounds (g := fun k => spec_l07Reach.f k P S) (fun k => spec_l07Reach.mono P S k) hk ?_
 show spec_l07Reach.f 310 P S = _
 unfold spec_l07Reach.f
 rw [if_pos (by omega), if_pos (by omega)]
 exact h2
theorem mk_ne {out : List Bool} {x v : Int} (hx : 0 ≤ x) (hv : 0 ≤ v) (e : x ≠ v) : Gr.mk (out.set x.toNat true) v = Gr.mk out v := by
 unfold Gr.mk
 rw [List.getD_eq_getElem?_getD, List.getD_eq_getElem?_getD, List.getElem?_set_ne (by omega)]
theorem afterS_bfs {P : List S38} (h : programOk P = true) (wo : Int) : ∀ (k : Nat) (out : List Bool) (todo : List Int) (r : List Bool), out.length = P.length + 1 → (∀ x ∈ todo, 0 ≤ x ∧ x ≤ (P.length : Int)) → todo.length + 3 * out.count false ≤ 1000 → Gr.mk out (P.length : Int) = false → Gr.bfs (nxB P) wo k out todo = some r → afterS P wo (k + 10) out todo = some (!(Gr.mk r (P.length : Int))) := by
 intro k
 induction k with
 | zero => intro out todo r _ _ _ _ h; exact absurd h (by simp [Gr.bfs])
 | succ k ih =>
  intro out todo r ho ht hm hz hb
  rw [show k + 1 + 10 = (k + 10) + 1 by omega]
  cases todo with
  | nil =>
   rw [Gr.bfs] at hb
   obtain rfl := Option.some.inj hb
   rw [afterS, hz]; rfl
  | cons x t =>
   have hx := ht x (List.mem_cons_self ..)
   have ht' : ∀ y ∈ t, 0 ≤ y ∧ y ≤ (P.length : Int) := fun y hy => ht y (List.mem_cons_of_mem _ hy)
   rw [List.length_cons] at hm
   rw [Gr.bfs] at hb
   rw [afterS, if_pos ⟨hx.1, by rw [ho]; omega⟩, mk_rdOf]
   by_cases em : Gr.mk out x = true
   ·rw [if_pos em] at hb ⊢
    refine ih out t r ho ht' (by omega) hz ?_
    split at hb <;> exact hb
   rw [if_neg em] at hb ⊢
   by_cases e : x = wo
   ·rw [if_pos e] at hb ⊢; exact ih out t r ho ht' (by omega) hz hb
   rw [if_neg e] at hb ⊢
   by_cases en : x = (P.length : Int)
   ·rw [if_pos en]
    have := (Gr.bfs_keeps _ _ _ _ hb).2 x (by rw [Gr.mk_set ⟨hx.1, by omega⟩ hx.1]; simp)
    rw [en] at this
    rw [this]; rfl
   rw [if_neg en]
   have hl := nxB_len P x
   rw [spec_next_eq h hx.1 hx.2 (by omega)]; simp only [Option.bind_some]
   have hc := Gr.count_set out x.toNat (by omega) (by unfold Gr.mk at em; simpa using em)
   rw [if_pos (by omega)]
   refine ih _ _ r (by rw [List.length_set]; exact ho) (fun y hy => ?_) (by rw [List.length_append]; omega) (by rw [mk_ne hx.1 (by omega) en]; exact hz) hb
   rcases List.mem_append.1 hy with q | q
   ·exact ht' y q
   ·exact nxB_in h hx.1 hx.2 y q
theorem reachB_self {P : List S38} (h : programOk P = true) {a : Int} (h0 : 0 ≤ a) (h1 : a ≤ (P.length : Int)) : reachB P a [a] (P.length : Int) = false := by
 rw [Bool.eq_false_iff]
 intro q
 exact Gr.reach_self ((reachB_iff h a (fun s hs => by rw [List.mem_singleton.1 hs]; exact ⟨h0, h1⟩) (by simp) (by omega) (Int.le_refl _)).1 q)
theorem spec_after_eq {P : List S38} (h : programOk P = true) {a : Int} (h0 : 0 ≤ a) (h1 : a ≤ (P.length : Int)) (b : Int) {k : Nat} (hk : 310 ≤ k) : spec_l08After.f k P a b = some (!(reachB P b [a] (P.length : Int))) := by
 have hn := programOk_len h
 have hs : ∀ s ∈ [a], 0 ≤ s ∧ s ≤ (P.length : Int) := fun s hs => by rw [List.mem_singleton.1 hs]; exact ⟨h0, h1⟩
 unfold spec_l08After.f
 by_cases e : a = b
 ·subst e
  rw [if_pos rfl, reachB_self h h0 h1]; rfl
 rw [if_neg e, if_pos (by omega)]
 have hb := (reachL_ok h b hs (by simp)).1
 have h2 := afterS_bfs h b 300 _ [a] _ (by simp) hs (by rw [count_rep', List.length_singleton]; omega) (Gr.mk_rep _ _) hb
 exact at_rounds (g := fun k => afterS P b k (List.replicate (P.length + 1) false) [a]) (fun k => afterS_mono P b k _ _) hk h2
def aftB (P : List S38) (a b : Int) : Bool := reachB P (-1) [a] (P.length : Int) && !(reachB P b [a] (P.length : Int))
theorem in1 {P : List S38} {a : Int} (h0 : 0 ≤ a) (h1 : a ≤ (P.length : Int)) : ∀ s ∈ [a], 0 ≤ s ∧ s ≤ (P.length : Int) := fun s hs => by rw [List.mem_singleton.1 hs]; exact ⟨h0, h1⟩
theorem aftB_iff {P : List S38} (h : programOk P = true) {a : Int} (h0 : 0 ≤ a) (h1 : a ≤ (P.length : Int)) (b : Int) : aftB P a b = true ↔ Gr.Aft (nxB P) (P.length : Int) a b := by
 unfold aftB Gr.Aft
 rw [Bool.and_eq_true, Bool.not_eq_true', Bool.eq_false_iff, reachB_iff h (-1) (in1 h0 h1) (by simp) (by omega) (Int.le_refl _), Ne, reachB_iff h b (in1 h0 h1) (by simp) (by omega) (Int.le_refl _)]
def nodeB (P : List S38) (a : Int) : Bool := programOk P && decide (0 ≤ a ∧ a ≤ (P.length : Int))
theorem nodeB_ok {P : List S38} {a : Int} (h : nodeB P a = true) : programOk P = true ∧ 0 ≤ a ∧ a ≤ (P.length : Int) := by
 unfold nodeB at h
 rw [Bool.and_eq_true] at h
 have := of_decide_eq_true h.2
 exact ⟨h.1, this.1, this.2⟩
theorem impl_reachesExit_eq {P : List S38} (h : programOk P = true) {a : Int} (h0 : 0 ≤ a) (h1 : a ≤ (P.length : Int)) {k : Nat} (hk : 310 ≤ k) : impl_reachesExit.f k P a = some (reachB P (-1) [a] (P.length : Int)) := by
 have hl := (reachL_ok h (-1) (in1 h0 h1) (by simp)).2.1
 unfold impl_reachesExit.f
 rw [impl_reached_eq h (-1) (in1 h0 h1) (by simp) hk]; simp only [Option.bind_some]
 rw [if_pos (by omega), if_pos (by omega)]; rfl
theorem impl_isAfter_eq {P : List S38} (h : programOk P = true) {a : Int} (h0 : 0 ≤ a) (h1 : a ≤ (P.length : Int)) (b : Int) {k : Nat} (hk : 310 ≤ k) : impl_isAfter.f k P a b = some (aftB P a b) := by
 have hl := (reachL_ok h b (in1 h0 h1) (by simp)).2.1
 unfold impl_isAfter.f aftB
 rw [impl_reachesExit_eq h h0 h1 hk]; simp only [Option.bind_some]
 cases reachB P (-1) [a] (P.length : Int)
 ·rfl
 rw [if_pos rfl, impl_reached_eq h b (in1 h0 h1) (by simp) hk]; simp only [Option.bind_some]
 rw [if_pos (by omega), if_pos (by omega)]; rfl
theorem impl_isNode_eq (P : List S38) (a : Int) : impl_isNode.f P a = some (nodeB P a) := by
 unfold impl_isNode.f nodeB
 rw [impl_programOk_eq]; simp only [Option.bind_some, within_some]
 cases programOk P <;> rfl
theorem impl_IsAfter_eq (P : List S38) (a b : Int) {k : Nat} (hk : 310 ≤ k) : impl_IsAfter.f k P a b = some (nodeB P a && (nodeB P b && aftB P a b)) := by
 unfold impl_IsAfter.f
 rw [impl_isNode_eq, impl_isNode_eq]; simp only [Option.bind_some]
 cases ha : nodeB P a
 ·rfl
 cases hb : nodeB P b
 ·rfl
 obtain ⟨h, h0, h1⟩ := nodeB_ok ha
 rw [if_pos rfl, if_pos rfl, impl_isAfter_eq h h0 h1 b hk]; rfl
def aftersL (P : List S38) (a : Int) : List Int := (ups (P.length + 1) 0).filter fun x => nodeB P a && aftB P a x
theorem mem_ups : ∀ (d : Nat) (i x : Int), x ∈ ups d i ↔ i ≤ x ∧ x < i + d
 | 0, i, x => by simp only [ups, List.not_mem_nil, false_iff]; omega
 | d + 1, i, x => by rw [ups, List.mem_cons, mem_ups d (i + 1) x]; omega
theorem len_ups : ∀ (d : Nat) (i : Int), (ups d i).length = d
 | 0, _ => rfl
 | d + 1, i => by rw [ups, List.length_cons, len_ups d (i + 1)]
theorem mem_aftersL {P : List S38} {a x : Int} : x ∈ aftersL P a ↔ nodeB P a = true ∧ 0 ≤ x ∧ x ≤ (P.length : Int) ∧ aftB P a x = true := by
 unfold aftersL
 rw [List.mem_filter, mem_ups, Bool.and_eq_true]
 constructor
 ·rintro ⟨h1, h2, h3⟩; exact ⟨h2, h1.1, by omega, h3⟩
 ·rintro ⟨h1, h2, h3, h4⟩; exact ⟨⟨h2, by omega⟩, h1, h4⟩
theorem aftersL_len (P : List S38) (a : Int) : (aftersL P a).length ≤ P.length + 1 := by
 unfold aftersL
 exact Nat.le_trans (List.length_filter_le _ _) (by rw [len_ups]; exact Nat.le_refl _)
theorem impl_AftersOf_l0 (P : List S38) (hP : P.length ≤ 1048576) (a : Int) : ∀ (d k : Nat) (out : List Int) (i : Int), 0 ≤ i → (P.length : Int) + 1 - i = d → d + 310 < k → out.length ≤ i →
  impl_AftersOf.l0 k P a out ((P.length : Int) + 1) i = some (out ++ (ups d i).filter fun x => nodeB P a && aftB P a x) := by
 intro d
 induction d with
 | zero =>
  intro k out i h0 hd hk ho
  obtain ⟨k, rfl⟩ : ∃ q, k = q + 1 := ⟨k - 1, by omega⟩
  simp only [impl_AftersOf.l0]
  rw [if_neg (by omega), ups]; simp
 | succ d ih =>
  intro k out i h0 hd hk ho
  obtain ⟨k, rfl⟩ : ∃ q, k = q + 1 := ⟨k - 1, by omega⟩
  simp only [impl_AftersOf.l0]
  rw [if_pos (by omega), impl_IsAfter_eq P a i (by omega)]; simp only [Option.bind_some]
  rw [w64 (by omega) (by omega), ups, List.filter_cons]
  have e : (nodeB P a && (nodeB P i && aftB P a i)) = (nodeB P a && aftB P a i) := by
   cases ha : nodeB P a
   ·rfl
   have hi : nodeB P i = true := by unfold nodeB; rw [(nodeB_ok ha).1, decide_eq_true (by omega)]; rfl
   rw [hi]; rfl
  rw [e]
  by_cases q : (nodeB P a && aftB P a i) = true
  ·rw [if_pos q, if_pos q, if_pos (by omega), ih k (out ++ [i]) (i + 1) (by omega) (by omega) (by omega) (by rw [List.length_append, List.length_singleton]; omega), List.append_assoc]; rfl
  ·rw [if_neg q, if_neg q, ih k out (i + 1) (by omega) (by omega) (by omega) (by omega)]
theorem impl_AftersOf_eq {P : List S38} (hP : P.length ≤ 1048576) (a : Int) {k : Nat} (hk : P.length + 320 < k) : impl_AftersOf.f k P a = some (aftersL P a) := by
 unfold impl_AftersOf.f
 rw [w64 (by omega) (by omega), impl_AftersOf_l0 P hP a (P.length + 1) k [] 0 (by omega) (by omega) (by omega) (by simp)]; rfl
theorem spec_l07Ok_eq {P : List S38} (hP : P.length ≤ 1048576) (a : Int) {k : Nat} (hk : P.length + 2 < k) : spec_l07Ok.f k P a = some (nodeB P a) := by
 unfold spec_l07Ok.f nodeB
 rw [spec_programOk_eq hP hk]; simp only [Option.bind_some, in_some]
 cases programOk P <;> rfl
theorem spec_ReachesExit_eq {P : List S38} (hP : P.length ≤ 1048576) (a : Int) {k : Nat} (hk : P.length + 320 < k) : spec_ReachesExit.f k P a = some (nodeB P a && reachB P (-1) [a] (P.length : Int)) := by
 unfold spec_ReachesExit.f
 rw [spec_l07Ok_eq hP a (by omega)]; simp only [Option.bind_some]
 cases ha : nodeB P a
 ·rfl
 obtain ⟨h, h0, h1⟩ := nodeB_ok ha
 have hl := (reachL_ok h (-1) (in1 h0 h1) (by simp)).2.1
 rw [if_pos rfl, spec_reach_eq h (in1 h0 h1) (by simp) (by omega)]; simp only [Option.bind_some]
 rw [if_pos (by omega), if_pos (by omega)]; rfl
theorem spec_AftersOf_l0 {P : List S38} {a : Int} (h : programOk P = true) (h0 : 0 ≤ a) (h1 : a ≤ (P.length : Int)) : ∀ (d k : Nat) (out : List Int) (i : Int), 0 ≤ i → (P.length : Int) + 1 - i = d → d + 310 < k → out.length ≤ i →
  spec_AftersOf.l0 k P a out i = some (out ++ (ups d i).filter fun x => !(reachB P x [a] (P.length : Int))) := by
 have hn := programOk_len h
 intro d
 induction d with
 | zero =>
  intro k out i h0 hd hk ho
  obtain ⟨k, rfl⟩ : ∃ q, k = q + 1 := ⟨k - 1, by omega⟩
  simp only [spec_AftersOf.l0]
  rw [if_neg (by omega), ups]; simp
 | succ d ih =>
  intro k out i h0' hd hk ho
  obtain ⟨k, rfl⟩ : ∃ q, k = q + 1 := ⟨k - 1, by omega⟩
  simp only [spec_AftersOf.l0]
  rw [if_pos (by omega), spec_after_eq h h0 h1 i (by omega)]; simp only [Option.bind_some]
  rw [w64 (by omega) (by omega), ups, List.filter_cons]
  by_cases q : (!(reachB P i [a] (P.length : Int))) = true
  ·rw [if_pos q, if_pos q, if_pos (by omega), ih k (out ++ [i]) (i + 1) (by omega) (by omega) (by omega) (by rw [List.length_append, List.length_singleton]; omega), List.append_assoc]; rfl
  ·rw [if_neg q, if_neg q, ih k out (i + 1) (by omega) (by omega) (by omega) (by omega)]
theorem filter_false {α : Type} (l : List α) : (l.filter fun _ => false) = [] := by
 induction l with
 | nil => rfl
 | cons x r ih => rw [List.filter_cons, if_neg (by decide), ih]
theorem spec_AftersOf_eq {P : List S38} (hP : P.length ≤ 1048576) (a : Int) {k : Nat} (hk : P.length + 320 < k) : spec_AftersOf.f k P a = some (aftersL P a) := by
 unfold spec_AftersOf.f aftersL
 simp only [Option.bind_some, spec_ReachesExit_eq hP a hk]
 cases ha : nodeB P a
 ·simp only [Bool.false_and]
  rw [if_neg (by decide), filter_false]
 obtain ⟨h, h0, h1⟩ := nodeB_ok ha
 unfold aftB
 cases hr : reachB P (-1) [a] (P.length : Int)
 ·simp only [Bool.true_and, Bool.false_and]
  rw [if_neg (by decide), filter_false]
 ·simp only [Bool.true_and, if_true]
  rw [spec_AftersOf_l0 h h0 h1 (P.length + 1) k [] 0 (by omega) (by omega) (by omega) (by simp)]; rfl

def firstL (P : List S38) (L : List Int) : Int := (L.find? fun x => L.all (aftB P x)).getD (-1)
theorem firstF_eq {P : List S38} (h : programOk P = true) (L : List Int) {k : Nat} (hk : 310 ≤ k) : ∀ l : List Int, (∀ x ∈ l, 0 ≤ x ∧ x ≤ (P.length : Int)) → firstF k P L l = some ((l.find? fun x => L.all (aftB P x)).getD (-1))
 | [], _ => rfl
 | x :: r, hl => by
  have hx := hl x (List.mem_cons_self ..)
  have he : ∀ y, impl_isAfter.f k P x y = some (aftB P x y) := fun y => impl_isAfter_eq h hx.1 hx.2 y hk
  rw [firstF, if_pos (List.all_eq_true.2 fun y _ => by rw [he]; rfl), List.find?_cons]
  have e2 : (L.any fun y => !(aftAt k P x y)) = !(L.all (aftB P x)) := by
   have : ∀ m : List Int, (m.any fun y => !(aftAt k P x y)) = !(m.all (aftB P x)) := by
    intro m
    induction m with
    | nil => rfl
    | cons z m ih =>
     rw [List.any_cons, List.all_cons, ih, Bool.not_and]
     congr 1
     unfold aftAt
     rw [he]
     cases aftB P x z <;> rfl
   exact this L
  rw [e2]
  cases L.all (aftB P x)
  ·simp only [Bool.not_false, if_true]; exact firstF_eq h L hk r fun y hy => hl y (List.mem_cons_of_mem _ hy)
  ·simp only [Bool.not_true, if_false, Option.getD_some, Bool.false_eq_true]
theorem impl_firstOf_eq {P : List S38} (h : programOk P = true) {L : List Int} (hl : ∀ x ∈ L, 0 ≤ x ∧ x ≤ (P.length : Int)) {k : Nat} (hk : 310 ≤ k) : impl_firstOf.f k P L = some (firstL P L) := firstF_eq h L hk L hl
theorem spec_first_l1 {P : List S38} (h : programOk P = true) {L : List Int} (hL : L.length ≤ 40) (hl : ∀ x ∈ L, 0 ≤ x ∧ x ≤ (P.length : Int)) {i : Int} (hi0 : 0 ≤ i) (hi1 : i < (L.length : Int)) : ∀ (d k : Nat) (b : Bool) (j : Int), 0 ≤ j → (L.length : Int) - j = d → d + 320 < k →
  spec_l08First.l1 k P L i b j = if (b && (L.drop j.toNat).all fun y => !(reachB P y [rd L i] (P.length : Int))) = true then some (rd L i) else spec_l08First.l0 (k - d - 1) P L (i + 1) := by
 intro d
 induction d with
 | zero =>
  intro k b j h0 hd hk
  obtain ⟨k, rfl⟩ : ∃ q, k = q + 1 := ⟨k - 1, by omega⟩
  simp only [spec_l08First.l1]
  rw [if_neg (by omega), List.drop_of_length_le (by omega), List.all_nil, Bool.and_true, if_pos hi0, if_pos hi1, w64 (by omega) (by omega)]; rfl
 | succ d ih =>
  intro k b j h0 hd hk
  obtain ⟨k, rfl⟩ : ∃ q, k = q + 1 := ⟨k - 1, by omega⟩
  simp only [spec_l08First.l1]
  have hj : j < (L.length : Int) := by omega
  have hx := hl _ (rd_mem hi0 hi1)
  rw [if_pos hj, w64 (by omega) (by omega), drop_rd h0 hj, List.all_cons, show k + 1 - (d + 1) - 1 = k - d - 1 by omega]
  cases b with
  | false => rw [if_neg (by decide), ih k false (j + 1) (by omega) (by omega) (by omega), Bool.false_and, Bool.false_and]
  | true =>
   rw [if_pos rfl, if_pos hi0, if_pos hi1, if_pos h0, spec_after_eq h hx.1 hx.2 _ (by omega), bindS, ih k _ (j + 1) (by omega) (by omega) (by omega), Bool.true_and]
theorem spec_first_l0 {P : List S38} (h : programOk P = true) {L : List Int} (hL : L.length ≤ 40) (hl : ∀ x ∈ L, 0 ≤ x ∧ x ≤ (P.length : Int)) : ∀ (d k : Nat) (i : Int), 0 ≤ i → (L.length : Int) - i = d → d * 42 + 400 < k →
  spec_l08First.l0 k P L i = some (((L.drop i.toNat).find? fun x => L.all fun y => !(reachB P y [x] (P.length : Int))).getD (-1)) := by
 intro d
 induction d with
 | zero =>
  intro k i h0 hd hk
  obtain ⟨k, rfl⟩ : ∃ q, k = q + 1 := ⟨k - 1, by omega⟩
  simp only [spec_l08First.l0]
  rw [if_neg (by omega), List.drop_of_length_le (by omega)]; rfl
 | succ d ih =>
  intro k i h0 hd hk
  obtain ⟨k, rfl⟩ : ∃ q, k = q + 1 := ⟨k - 1, by omega⟩
  simp only [spec_l08First.l0]
  have hi : i < (L.length : Int) := by omega
  rw [if_pos hi, spec_first_l1 h hL hl h0 hi L.length k true 0 (by omega) (by omega) (by omega), Int.toNat_zero, List.drop_zero, Bool.true_and, drop_rd h0 hi, List.find?_cons]
  cases (L.all fun y => !(reachB P y [rd L i] (P.length : Int)))
  ·rw [if_neg (by decide), ih _ (i + 1) (by omega) (by omega) (by omega)]
  ·rw [if_pos rfl]; rfl
theorem find_congr {α : Type} {p q : α → Bool} : ∀ {l : List α}, (∀ x ∈ l, p x = q x) → l.find? p = l.find? q
 | [], _ => rfl
 | x :: r, h => by rw [List.find?_cons, List.find?_cons, h x (List.mem_cons_self ..), find_congr fun y hy => h y (List.mem_cons_of_mem _ hy)]
theorem spec_first_eq {P : List S38} (h : programOk P = true) {L : List Int} (hL : L.length ≤ 40) (hl : ∀ x ∈ L, (0 ≤ x ∧ x ≤ (P.length : Int)) ∧ reachB P (-1) [x] (P.length : Int) = true) {k : Nat} (hk : 2200 ≤ k) : spec_l08First.f k P L = some (firstL P L) := by
 unfold spec_l08First.f firstL
 rw [spec_first_l0 h hL (fun x hx => (hl x hx).1) L.length k 0 (by omega) (by omega) (by omega), Int.toNat_zero, List.drop_zero]
 congr 2
 refine find_congr fun x hx => ?_
 congr 1
 funext y
 unfold aftB
 rw [(hl x hx).2, Bool.true_and]
theorem spec_first_nil (P : List S38) {k : Nat} (hk : 1 ≤ k) : spec_l08First.f k P [] = some (-1) := by
 obtain ⟨k, rfl⟩ : ∃ q, k = q + 1 := ⟨k - 1, by omega⟩
 unfold spec_l08First.f
 simp only [spec_l08First.l0]
 rw [if_neg (by simp)]
theorem spec_others_l0 (L : List Int) (hL : L.length ≤ 1048577) (a : Int) : ∀ (d k : Nat) (out : List Int) (i : Int), 0 ≤ i → (L.length : Int) - i = d → d < k → out.length ≤ i →
  spec_l08Others.l0 k L a out i = some (out ++ (L.drop i.toNat).filter fun x => !(x == a)) := by
 intro d
 induction d with
 | zero =>
  intro k out i h0 hd hk ho
  obtain ⟨k, rfl⟩ : ∃ q, k = q + 1 := ⟨k - 1, by omega⟩
  simp only [spec_l08Others.l0]
  rw [if_neg (by omega), List.drop_of_length_le (by omega)]; simp
 | succ d ih =>
  intro k out i h0 hd hk ho
  obtain ⟨k, rfl⟩ : ∃ q, k = q + 1 := ⟨k - 1, by omega⟩
  simp only [spec_l08Others.l0]
  have hi : i < (L.length : Int) := by omega
  rw [if_pos hi, if_pos h0, w64 (by omega) (by omega), drop_rd h0 hi, List.filter_cons]
  by_cases e : rd L i = a
  ·rw [if_pos e, ih k out (i + 1) (by omega) (by omega) (by omega) (by omega), if_neg (by rw [e]; simp)]
  ·rw [if_neg e, if_pos (by omega), ih k _ (i + 1) (by omega) (by omega) (by omega) (by rw [List.length_append, List.length_singleton]; omega), if_pos (by simpa using e), List.append_assoc]; rfl
theorem spec_others_eq {L : List Int} (hL : L.length ≤ 1048577) (a : Int) {k : Nat} (hk : L.length < k) : spec_l08Others.f k L a = some (L.filter fun x => !(x == a)) := by
 unfold spec_l08Others.f
 rw [spec_others_l0 L hL a L.length k [] 0 (by omega) (by omega) hk (by simp)]; rfl
theorem filter_lt (a : Int) : ∀ L : List Int, (L.filter fun x => !(x == a)).length ≤ L.length ∧ ((L.filter fun x => !(x == a)).length < L.length ↔ a ∈ L)
 | [] => by simp
 | x :: r => by
  have ih := filter_lt a r
  rw [List.filter_cons]
  by_cases e : x = a
  ·rw [if_neg (by simp [e]), List.length_cons]
   exact ⟨by omega, fun _ => by simp [e], fun _ => by omega⟩
  ·rw [if_pos (by simpa using e), List.length_cons, List.length_cons]
   refine ⟨by omega, fun h => List.mem_cons_of_mem _ (ih.2.1 (by omega)), fun h => ?_⟩
   rcases List.mem_cons.1 h with q | q
   ·exact absurd q.symm e
   ·have := ih.2.2 q; omega
theorem spec_has_eq {L : List Int} (hL : L.length ≤ 1048577) (a : Int) {k : Nat} (hk : L.length < k) : spec_l08Has.f k L a = some (L.contains a) := by
 unfold spec_l08Has.f
 rw [spec_others_eq hL a hk, bindS]
 congr 1
 rw [Bool.eq_iff_iff, decide_eq_true_eq, List.contains_iff_mem, ← (filter_lt a L).2]
 omega
theorem aftersL_re {P : List S38} {a x : Int} (hx : x ∈ aftersL P a) : programOk P = true ∧ (0 ≤ x ∧ x ≤ (P.length : Int)) ∧ reachB P (-1) [x] (P.length : Int) = true := by
 obtain ⟨hn, h0, h1, ha⟩ := mem_aftersL.1 hx
 obtain ⟨h, h2, h3⟩ := nodeB_ok hn
 exact ⟨h, ⟨h0, h1⟩, (reachB_iff h (-1) (in1 h0 h1) (by simp) (by omega) (Int.le_refl _)).2 (Gr.aft_reach ((aftB_iff h h2 h3 x).1 ha))⟩
theorem aftersL_nil {P : List S38} {a : Int} (h : ¬ nodeB P a = true) : aftersL P a = [] := by
 unfold aftersL
 rw [List.filter_eq_nil_iff]
 intro x _ q
 rw [Bool.and_eq_true] at q
 exact h q.1
def firstAfter (P : List S38) (a : Int) : Int := firstL P ((aftersL P a).filter fun x => !(x == a))
theorem impl_FirstAfter_eq {P : List S38} (hP : P.length ≤ 1048576) (a : Int) {k : Nat} (hk : P.length + 320 < k) : impl_FirstAfter.f k P a = some (firstAfter P a) := by
 unfold impl_FirstAfter.f firstAfter
 rw [impl_AftersOf_eq hP a hk, bindS]
 by_cases hn : nodeB P a = true
 ·exact impl_firstOf_eq (nodeB_ok hn).1 (fun x hx => (aftersL_re (List.mem_filter.1 hx).1).2.1) (by omega)
 ·rw [aftersL_nil hn]; rfl
theorem spec_FirstAfter_eq {P : List S38} (hP : P.length ≤ 1048576) (a : Int) {k : Nat} (hk : P.length + 2200 < k) : spec_FirstAfter.f k P a = some (firstAfter P a) := by
 have hl := aftersL_len P a
 unfold spec_FirstAfter.f firstAfter
 rw [spec_AftersOf_eq hP a (by omega), bindS, spec_others_eq (by omega) a (by omega), bindS]
 by_cases hn : nodeB P a = true
 ·have hp := programOk_len (nodeB_ok hn).1
  rw [spec_first_eq (nodeB_ok hn).1 (Nat.le_trans (List.length_filter_le _ _) (by omega)) (fun x hx => (aftersL_re (List.mem_filter.1 hx).1).2) (by omega), bindS]
 ·rw [aftersL_nil hn, List.filter_nil, spec_first_nil P (by omega), bindS]; rfl
def isBrB (P : List S38) (x : Int) : Bool := decide ((rd_T38 P x).f0 = 10) && !(decide ((rd_T38 P x).f2 = x + 1))
def branchesL (P : List S38) : List Int := if programOk P = true then (ups P.length 0).filter (isBrB P) else []
theorem nxB_two {P : List S38} {v : Int} (h1 : v < (P.length : Int)) : ((nxB P v).length : Int) = 2 ↔ isBrB P v = true := by
 unfold nxB isBrB
 rw [if_neg (by omega), Bool.and_eq_true, Bool.not_eq_true', decide_eq_true_eq, decide_eq_false_iff_not]
 by_cases e1 : (rd_T38 P v).f0 = 12
 ·rw [if_pos e1]; simp; omega
 rw [if_neg e1]
 by_cases e2 : (rd_T38 P v).f0 = 11
 ·rw [if_pos e2]; simp; omega
 rw [if_neg e2]
 by_cases e3 : (rd_T38 P v).f0 = 10
 ·rw [if_pos e3]
  by_cases q : (rd_T38 P v).f2 < v + 1
  ·rw [if_pos q]; simp; omega
  rw [if_neg q]
  by_cases q2 : (rd_T38 P v).f2 = v + 1
  ·rw [if_pos q2]; simp; omega
  ·rw [if_neg q2]; simp; omega
 ·rw [if_neg e3]; simp; omega
theorem brL_mem {P : List S38} {b : Int} : b ∈ branchesL P ↔ programOk P = true ∧ 0 ≤ b ∧ b < (P.length : Int) ∧ isBrB P b = true := by
 unfold branchesL
 by_cases h : programOk P = true
 ·rw [if_pos h, List.mem_filter]
  constructor
  ·rintro ⟨h1, h2⟩; have := ups_mem _ _ _ h1; exact ⟨h, by omega, by omega, h2⟩
  ·rintro ⟨_, h1, h2, h3⟩; exact ⟨ups_mem_of _ _ _ h1 (by omega), h3⟩
 ·rw [if_neg h]; exact ⟨fun q => absurd q (by simp), fun q => absurd q.1 h⟩
theorem brL_nx {P : List S38} {b : Int} (h : b ∈ branchesL P) : ((rd_T38 P b).f2 ≠ b + 1 ∧ (rd_T38 P b).f0 = 10) ∧ (nxB P b = [(rd_T38 P b).f2, b + 1] ∨ nxB P b = [b + 1, (rd_T38 P b).f2]) := by
 obtain ⟨_, h0, h1, h2⟩ := brL_mem.1 h
 unfold isBrB at h2
 rw [Bool.and_eq_true, Bool.not_eq_true', decide_eq_true_eq, decide_eq_false_iff_not] at h2
 refine ⟨⟨h2.2, h2.1⟩, ?_⟩
 unfold nxB
 rw [if_neg (by omega), if_neg (by omega), if_neg (by omega), if_pos h2.1]
 by_cases q : (rd_T38 P b).f2 < b + 1
 ·rw [if_pos q]; exact .inl rfl
 ·rw [if_neg q, if_neg h2.2]; exact .inr rfl
theorem brL_len (P : List S38) : (branchesL P).length ≤ P.length ∧ (programOk P = true → (branchesL P).length ≤ 32) ∧ (¬ programOk P = true → branchesL P = []) := by
 unfold branchesL
 have hu : ∀ (d : Nat) (i : Int), (ups d i).length = d := by
  intro d
  induction d with
  | zero => intro i; rfl
  | succ d ih => intro i; rw [ups, List.length_cons, ih]
 have hl := List.length_filter_le (isBrB P) (ups P.length 0)
 rw [hu] at hl
 by_cases h : programOk P = true
 ·rw [if_pos h]; exact ⟨hl, fun _ => Nat.le_trans hl (programOk_len h), fun q => absurd h q⟩
 ·rw [if_neg h]; exact ⟨Nat.zero_le _, fun q => absurd q h, fun _ => rfl⟩
theorem impl_BranchesOf_l0 {P : List S38} (h : programOk P = true) : ∀ (d k : Nat) (out : List Int) (i : Int), 0 ≤ i → (P.length : Int) - i = d → d + 10 < k → out.length ≤ i →
  impl_BranchesOf.l0 k P out (P.length : Int) i = some (out ++ (ups d i).filter (isBrB P)) := by
 have hn := programOk_len h
 intro d
 induction d with
 | zero =>
  intro k out i h0 hd hk ho
  obtain ⟨k, rfl⟩ : ∃ q, k = q + 1 := ⟨k - 1, by omega⟩
  simp only [impl_BranchesOf.l0]
  rw [if_neg (by omega), ups]; simp
 | succ d ih =>
  intro k out i h0 hd hk ho
  obtain ⟨k, rfl⟩ : ∃ q, k = q + 1 := ⟨k - 1, by omega⟩
  simp only [impl_BranchesOf.l0]
  rw [if_pos (by omega), impl_next_eq h h0 (by omega) (by omega), bindS, w64 (by omega) (by omega), ups, List.filter_cons]
  by_cases q : isBrB P i = true
  ·rw [if_pos ((nxB_two (by omega)).2 q), if_pos q, if_pos (by omega), ih k (out ++ [i]) (i + 1) (by omega) (by omega) (by omega) (by rw [List.length_append, List.length_singleton]; omega), List.append_assoc]; rfl
  ·rw [if_neg (fun e => q ((nxB_two (by omega)).1 e)), if_neg q, ih k out (i + 1) (by omega) (by omega) (by omega) (by omega)]
theorem impl_BranchesOf_eq (P : List S38) {k : Nat} (hk : 50 ≤ k) : impl_BranchesOf.f k P = some (branchesL P) := by
 unfold impl_BranchesOf.f branchesL
 rw [impl_programOk_eq, bindS]
 by_cases h : programOk P = true
 ·have hn := programOk_len h
  rw [if_pos h, if_pos h, impl_BranchesOf_l0 h P.length k [] 0 (by omega) (by omega) (by omega) (by simp)]; rfl
 ·rw [if_neg h, if_neg h]
theorem spec_BranchesOf_l0 {P : List S38} (h : programOk P = true) : ∀ (d k : Nat) (out : List Int) (i : Int), 0 ≤ i → (P.length : Int) - i = d → 2 * d + 10 < k → out.length ≤ i →
  spec_BranchesOf.l0 k P out true i = some (out ++ (ups d i).filter (isBrB P)) := by
 have hn := programOk_len h
 intro d
 induction d with
 | zero =>
  intro k out i h0 hd hk ho
  obtain ⟨k, rfl⟩ : ∃ q, k = q + 2 := ⟨k - 2, by omega⟩
  rw [spec_BranchesOf.l0, if_neg (by omega), spec_BranchesOf.j1, if_neg (by decide), ups]; simp
 | succ d ih =>
  intro k out i h0 hd hk ho
  obtain ⟨k, rfl⟩ : ∃ q, k = q + 2 := ⟨k - 2, by omega⟩
  have hi : i < (P.length : Int) := by omega
  rw [spec_BranchesOf.l0, if_pos hi, spec_BranchesOf.j1, if_pos rfl, if_pos h0, if_pos hi, w64 (by omega) (by omega), ups, List.filter_cons]
  unfold isBrB
  by_cases e1 : (rd_T38 P i).f0 = 10
  ·rw [if_pos e1, decide_eq_true e1, Bool.true_and]
   by_cases e2 : (rd_T38 P i).f2 = i + 1
   ·rw [if_pos e2, decide_eq_true e2, if_neg (show ¬ (!true) = true by decide), ih k out (i + 1) (by omega) (by omega) (by omega) (by omega)]; rfl
   ·rw [if_neg e2, decide_eq_false e2, if_pos (show (!false) = true from rfl), if_pos (by omega), ih k (out ++ [i]) (i + 1) (by omega) (by omega) (by omega) (by rw [List.length_append, List.length_singleton]; omega), List.append_assoc]; rfl
  ·rw [if_neg e1, decide_eq_false e1, Bool.false_and, if_neg (by decide), ih k out (i + 1) (by omega) (by omega) (by omega) (by omega)]; rfl
theorem spec_BranchesOf_eq {P : List S38} (hP : P.length ≤ 1048576) {k : Nat} (hk : P.length + 100 ≤ k) : spec_BranchesOf.f k P = some (branchesL P) := by
 unfold spec_BranchesOf.f branchesL
 rw [spec_programOk_eq hP (by omega), bindS]
 by_cases h : programOk P = true
 ·have hn := programOk_len h
  rw [if_pos h, h, spec_BranchesOf_l0 h P.length k [] 0 (by omega) (by omega) (by omega) (by simp)]; rfl
 ·rw [if_neg h, Bool.eq_false_iff.2 h]
  obtain ⟨k, rfl⟩ : ∃ q, k = q + 2 := ⟨k - 2, by omega⟩
  rw [spec_BranchesOf.l0]
  split <;> rw [spec_BranchesOf.j1, if_neg (by decide)]
theorem impl_index_l0 (L : List Int) (hL : L.length ≤ 1048577) (a : Int) : ∀ (d k : Nat) (i : Int), 0 ≤ i → (L.length : Int) - i = d → d < k →
  ∃ r, slices_Index_int_int.l0 k L a (L.length : Int) i = some r ∧ (r ≥ 0 ↔ a ∈ L.drop i.toNat) := by
 intro d
 induction d with
 | zero =>
  intro k i h0 hd hk
  obtain ⟨k, rfl⟩ : ∃ q, k = q + 1 := ⟨k - 1, by omega⟩
  refine ⟨-1, ?_, ?_⟩
  ·simp only [slices_Index_int_int.l0]; rw [if_neg (by omega)]
  ·rw [List.drop_of_length_le (by omega)]; simp
 | succ d ih =>
  intro k i h0 hd hk
  obtain ⟨k, rfl⟩ : ∃ q, k = q + 1 := ⟨k - 1, by omega⟩
  have hi : i < (L.length : Int) := by omega
  simp only [slices_Index_int_int.l0]
  rw [if_pos hi, if_pos h0, if_pos hi, drop_rd h0 hi]
  by_cases e : a = rd L i
  ·rw [if_pos e]; exact ⟨i, rfl, fun _ => by rw [e]; exact List.mem_cons_self .., fun _ => h0⟩
  ·rw [if_neg e, w64 (by omega) (by omega)]
   obtain ⟨r, h1, h2⟩ := ih k (i + 1) (by omega) (by omega) (by omega)
   refine ⟨r, h1, h2.trans ⟨fun q => List.mem_cons_of_mem _ q, fun q => ?_⟩⟩
   rcases List.mem_cons.1 q with q | q
   ·exact absurd q e
   ·exact q
theorem impl_contains_eq {L : List Int} (hL : L.length ≤ 1048577) (a : Int) {k : Nat} (hk : L.length < k) : slices_Contains_int_int.f k L a = some (L.contains a) := by
 unfold slices_Contains_int_int.f slices_Index_int_int.f
 obtain ⟨r, h1, h2⟩ := impl_index_l0 L hL a L.length k 0 (by omega) (by omega) hk
 rw [h1, bindS]
 congr 1
 rw [Bool.eq_iff_iff, decide_eq_true_eq, List.contains_iff_mem, h2]; rfl
theorem impl_isBranch_eq {P : List S38} (hP : P.length ≤ 1048576) (b : Int) {k : Nat} (hk : P.length + 50 ≤ k) : impl_isBranch.f k P b = some ((branchesL P).contains b) := by
 have hl := (brL_len P).1
 unfold impl_isBranch.f
 rw [impl_BranchesOf_eq P (by omega), bindS, impl_contains_eq (by omega) b (by omega), bindS]
def joinB (P : List S38) (b : Int) : Int := if ((nxB P b).all fun x => reachB P (-1) [x] (P.length : Int)) = true then firstAfter P b else (P.length : Int)
def joinOr (P : List S38) (b : Int) : Int := if (branchesL P).contains b = true then joinB P b else -1
theorem impl_JoinOf_l0 {P : List S38} (h : programOk P = true) (b : Int) (L : List Int) (hl : ∀ x ∈ L, 0 ≤ x ∧ x ≤ (P.length : Int)) (h2 : L.length ≤ 2) : ∀ (d k : Nat) (i : Int), 0 ≤ i → (L.length : Int) - i = d → d + P.length + 330 < k →
  impl_JoinOf.l0 k P b L (L.length : Int) i = some (if ((L.drop i.toNat).all fun x => reachB P (-1) [x] (P.length : Int)) = true then firstAfter P b else (P.length : Int)) := by
 have hn := programOk_len h
 intro d
 induction d with
 | zero =>
  intro k i h0 hd hk
  obtain ⟨k, rfl⟩ : ∃ q, k = q + 1 := ⟨k - 1, by omega⟩
  simp only [impl_JoinOf.l0]
  rw [if_neg (by omega), List.drop_of_length_le (by omega), List.all_nil, if_pos rfl, impl_FirstAfter_eq (by omega) b (by omega), bindS]
 | succ d ih =>
  intro k i h0 hd hk
  obtain ⟨k, rfl⟩ : ∃ q, k = q + 1 := ⟨k - 1, by omega⟩
  have hi : i < (L.length : Int) := by omega
  have hx := hl _ (rd_mem h0 hi)
  simp only [impl_JoinOf.l0]
  rw [if_pos hi, if_pos h0, if_pos hi, impl_reachesExit_eq h hx.1 hx.2 (by omega), bindS, drop_rd h0 hi, List.all_cons]
  cases reachB P (-1) [rd L i] (P.length : Int)
  ·rw [if_neg (by decide), Bool.false_and, if_neg (by decide)]
  ·rw [if_pos rfl, w64 (by omega) (by omega), ih k (i + 1) (by omega) (by omega) (by omega), Bool.true_and]
theorem impl_JoinOf_eq {P : List S38} (hP : P.length ≤ 1048576) (b : Int) {k : Nat} (hk : P.length + 340 < k) : impl_JoinOf.f k P b = some (joinOr P b) := by
 unfold impl_JoinOf.f joinOr
 rw [impl_isBranch_eq hP b (by omega), bindS]
 by_cases hb : (branchesL P).contains b = true
 ·rw [if_pos hb, if_pos hb]
  obtain ⟨h, h0, h1, _⟩ := brL_mem.1 (List.contains_iff_mem.1 hb)
  have h2 := nxB_len P b
  rw [impl_next_eq h h0 (by omega) (by omega), bindS, impl_JoinOf_l0 h b (nxB P b) (nxB_in h h0 (by omega)) h2 (nxB P b).length k 0 (by omega) (by omega) (by omega)]; rfl
 ·rw [if_neg hb, if_neg hb]
theorem spec_Join_eq {P : List S38} (hP : P.length ≤ 1048576) {b : Int} (hb : b ∈ branchesL P) {k : Nat} (hk : P.length + 2200 < k) : spec_l09Join.f k P b = some (joinB P b) := by
 obtain ⟨h, h0, h1, _⟩ := brL_mem.1 hb
 have hn := programOk_len h
 obtain ⟨⟨hne, hop⟩, hnx⟩ := brL_nx hb
 have hin := nxB_in h h0 (by omega)
 have hs : ∀ x : Int, x ∈ nxB P b → nodeB P x = true := fun x hx => by unfold nodeB; rw [h, decide_eq_true (hin x hx)]; rfl
 have m1 : b + 1 ∈ nxB P b := by rcases hnx with e | e <;> rw [e] <;> simp
 have m2 : (rd_T38 P b).f2 ∈ nxB P b := by rcases hnx with e | e <;> rw [e] <;> simp
 have hj : joinB P b = if reachB P (-1) [b + 1] (P.length : Int) = true then (if reachB P (-1) [(rd_T38 P b).f2] (P.length : Int) = true then firstAfter P b else (P.length : Int)) else (P.length : Int) := by
  unfold joinB
  rcases hnx with e | e <;> simp only [e, List.all_cons, List.all_nil, Bool.and_true] <;> cases reachB P (-1) [b + 1] (P.length : Int) <;> cases reachB P (-1) [(rd_T38 P b).f2] (P.length : Int) <;> simp
 unfold spec_l09Join.f
 rw [hj, w64 (by omega) (by omega), spec_ReachesExit_eq hP _ (by omega), bindS, hs _ m1, Bool.true_and]
 cases reachB P (-1) [b + 1] (P.length : Int)
 ·rw [if_neg (by decide), if_neg (by decide)]
 rw [if_pos rfl, if_pos rfl, if_pos h0, if_pos h1, spec_ReachesExit_eq hP _ (by omega), bindS, hs _ m2, Bool.true_and]
 cases reachB P (-1) [(rd_T38 P b).f2] (P.length : Int)
 ·rw [if_neg (by decide), if_neg (by decide)]
 ·rw [if_pos rfl, if_pos rfl, spec_FirstAfter_eq hP b hk, bindS]
def trueL (O : List Bool) : List Int := (ups O.length 0).filter (Gr.mk O)
def insideL (P : List S38) (b : Int) : List Int := if (branchesL P).contains b = true then trueL (reachL P (joinB P b) (nxB P b)) else []
theorem trueL_len (O : List Bool) : (trueL O).length ≤ O.length := by
 have hu : ∀ (d : Nat) (i : Int), (ups d i).length = d := by
  intro d
  induction d with
  | zero => intro i; rfl
  | succ d ih => intro i; rw [ups, List.length_cons, ih]
 have hl := List.length_filter_le (Gr.mk O) (ups O.length 0)
 rw [hu] at hl; exact hl
theorem insideL_len (P : List S38) (b : Int) : (insideL P b).length ≤ 33 := by
 unfold insideL
 by_cases hb : (branchesL P).contains b = true
 ·rw [if_pos hb]
  obtain ⟨h, h0, h1, _⟩ := brL_mem.1 (List.contains_iff_mem.1 hb)
  have hn := programOk_len h
  have hl := (reachL_ok h (joinB P b) (nxB_in h h0 (by omega)) (by have := nxB_len P b; omega)).2.1
  exact Nat.le_trans (trueL_len _) (by omega)
 ·rw [if_neg hb]; exact Nat.zero_le _
theorem impl_trues_l0 (O : List Bool) (hO : O.length ≤ 1048577) : ∀ (d k : Nat) (out : List Int) (i : Int), 0 ≤ i → (O.length : Int) - i = d → d < k → out.length ≤ i →
  impl_trues.l0 k out O (O.length : Int) i = some (out ++ (ups d i).filter (Gr.mk O)) := by
 intro d
 induction d with
 | zero =>
  intro k out i h0 hd hk ho
  obtain ⟨k, rfl⟩ : ∃ q, k = q + 1 := ⟨k - 1, by omega⟩
  simp only [impl_trues.l0]
  rw [if_neg (by omega), ups]; simp
 | succ d ih =>
  intro k out i h0 hd hk ho
  obtain ⟨k, rfl⟩ : ∃ q, k = q + 1 := ⟨k - 1, by omega⟩
  simp only [impl_trues.l0]
  rw [if_pos (by omega), if_pos h0, if_pos (by omega), mk_rdOf, w64 (by omega) (by omega), ups, List.filter_cons]
  by_cases q : Gr.mk O i = true
  ·rw [if_pos q, if_pos q, if_pos (by omega), ih k (out ++ [i]) (i + 1) (by omega) (by omega) (by omega) (by rw [List.length_append, List.length_singleton]; omega), List.append_assoc]; rfl
  ·rw [if_neg q, if_neg q, ih k out (i + 1) (by omega) (by omega) (by omega) (by omega)]
theorem impl_trues_eq {O : List Bool} (hO : O.length ≤ 1048577) {k : Nat} (hk : O.length < k) : impl_trues.f k O = some (trueL O) := by
 unfold impl_trues.f
 rw [impl_trues_l0 O hO O.length k [] 0 (by omega) (by omega) hk (by simp)]; rfl
theorem spec_marked_l0 (O : List Bool) (hO : O.length ≤ 1048577) : ∀ (d k : Nat) (out : List Int) (i : Int), 0 ≤ i → (O.length : Int) - i = d → d < k → out.length ≤ i →
  spec_l07Marked.l0 k O out i = some (out ++ (ups d i).filter (Gr.mk O)) := by
 intro d
 induction d with
 | zero =>
  intro k out i h0 hd hk ho
  obtain ⟨k, rfl⟩ : ∃ q, k = q + 1 := ⟨k - 1, by omega⟩
  simp only [spec_l07Marked.l0]
  rw [if_neg (by omega), ups]; simp
 | succ d ih =>
  intro k out i h0 hd hk ho
  obtain ⟨k, rfl⟩ : ∃ q, k = q + 1 := ⟨k - 1, by omega⟩
  simp only [spec_l07Marked.l0]
  rw [if_pos (by omega), if_pos h0, mk_rdOf, w64 (by omega) (by omega), ups, List.filter_cons]
  by_cases q : Gr.mk O i = true
  ·rw [if_pos q, if_pos q, if_pos (by omega), ih k (out ++ [i]) (i + 1) (by omega) (by omega) (by omega) (by rw [List.length_append, List.length_singleton]; omega), List.append_assoc]; rfl
  ·rw [if_neg q, if_neg q, ih k out (i + 1) (by omega) (by omega) (by omega) (by omega)]
theorem spec_marked_eq {O : List Bool} (hO : O.length ≤ 1048577) {k : Nat} (hk : O.length < k) : spec_l07Marked.f k O = some (trueL O) := by
 unfold spec_l07Marked.f
 rw [spec_marked_l0 O hO O.length k [] 0 (by omega) (by omega) hk (by simp)]; rfl
theorem impl_InsideOf_eq {P : List S38} (hP : P.length ≤ 1048576) (b : Int) {k : Nat} (hk : P.length + 340 < k) : impl_InsideOf.f k P b = some (insideL P b) := by
 unfold impl_InsideOf.f insideL
 rw [impl_isBranch_eq hP b (by omega), bindS]
 by_cases hb : (branchesL P).contains b = true
 ·rw [if_pos hb, if_pos hb]
  obtain ⟨h, h0, h1, _⟩ := brL_mem.1 (List.contains_iff_mem.1 hb)
  have hn := programOk_len h
  have h2 := nxB_len P b
  have hin := nxB_in h h0 (by omega)
  have hj : joinOr P b = joinB P b := by unfold joinOr; rw [if_pos hb]
  have hl := (reachL_ok h (joinB P b) hin (by omega)).2.1
  rw [impl_next_eq h h0 (by omega) (by omega), bindS, impl_JoinOf_eq hP b (by omega), bindS, hj, impl_reached_eq h (joinB P b) hin (by omega) (by omega), bindS, impl_trues_eq (by omega) (by omega), bindS]
 ·rw [if_neg hb, if_neg hb]
theorem searchS_bfs {P : List S38} (h : programOk P = true) (wo : Int) : ∀ (k : Nat) (out : List Bool) (todo : List Int) (r : List Bool), out.length = P.length + 1 → (∀ x ∈ todo, 0 ≤ x ∧ x ≤ (P.length : Int)) → todo.length + 3 * out.count false ≤ 1000 → Gr.bfs (nxB P) wo k out todo = some r → searchS P wo (k + 10) out todo = some r := by
 intro k
 induction k with
 | zero => intro out todo r _ _ _ h; exact absurd h (by simp [Gr.bfs])
 | succ k ih =>
  intro out todo r ho ht hm hb
  rw [show k + 1 + 10 = (k + 10) + 1 by omega]
  cases todo with
  | nil => exact hb
  | cons x t =>
   have hx := ht x (List.mem_cons_self ..)
   have ht' : ∀ y ∈ t, 0 ≤ y ∧ y ≤ (P.length : Int) := fun y hy => ht y (List.mem_cons_of_mem _ hy)
   rw [List.length_cons] at hm
   rw [Gr.bfs] at hb
   rw [searchS, if_pos ⟨hx.1, by rw [ho]; omega⟩, mk_rdOf]
   by_cases e : x = wo
   ·rw [if_pos e] at hb
    rw [if_pos e]
    split <;> exact ih out t r ho ht' (by omega) hb
   rw [if_neg e] at hb
   rw [if_neg e]
   by_cases em : Gr.mk out x = true
   ·rw [if_pos em] at hb ⊢; exact ih out t r ho ht' (by omega) hb
   rw [if_neg em] at hb ⊢
   have hl := nxB_len P x
   rw [spec_next_eq h hx.1 hx.2 (by omega), bindS]
   have hc := Gr.count_set out x.toNat (by omega) (by unfold Gr.mk at em; simpa using em)
   rw [if_pos (by omega)]
   refine ih _ _ r (by rw [List.length_set]; exact ho) (fun y hy => ?_) (by rw [List.length_append]; omega) hb
   rcases List.mem_append.1 hy with q | q
   ·exact ht' y q
   ·exact nxB_in h hx.1 hx.2 y q
theorem search_eq {P : List S38} (h : programOk P = true) (wo : Int) {S : List Int} (hs : ∀ s ∈ S, 0 ≤ s ∧ s ≤ (P.length : Int)) (hl : S.length ≤ 40) {k : Nat} (hk : 310 ≤ k) : searchS P wo k (List.replicate (P.length + 1) false) S = some (reachL P wo S) := by
 have hn := programOk_len h
 have hb := (reachL_ok h wo hs hl).1
 exact at_rounds (g := fun k => searchS P wo k (List.replicate (P.length + 1) false) S) (fun k => searchS_mono P wo k _ S) hk (searchS_bfs h wo 300 _ S _ (by simp) hs (by rw [count_rep']; omega) hb)
theorem spec_InsideOf_eq {P : List S38} (hP : P.length ≤ 1048576) (b : Int) {k : Nat} (hk : P.length + 2200 < k) : spec_InsideOf.f k P b = some (insideL P b) := by
 have hl0 := (brL_len P).1
 unfold spec_InsideOf.f insideL
 rw [spec_BranchesOf_eq hP (by omega), bindS, spec_has_eq (by omega) b (by omega), bindS]
 by_cases hb : (branchesL P).contains b = true
 ·rw [if_pos hb, if_pos hb, if_pos hP]
  have hm := List.contains_iff_mem.1 hb
  obtain ⟨h, h0, h1, _⟩ := brL_mem.1 hm
  have hn := programOk_len h
  have h2 := nxB_len P b
  have hin := nxB_in h h0 (by omega)
  have hl := (reachL_ok h (joinB P b) hin (by omega)).2.1
  rw [spec_Join_eq hP hm hk, bindS, spec_next_eq h h0 (by omega) (by omega), bindS, search_eq h (joinB P b) hin (by omega) (by omega), bindS, spec_marked_eq (by omega) (by omega)]
 ·rw [if_neg hb, if_neg hb]
theorem firstL_mem {P : List S38} (h : programOk P = true) {b : Int} {L : List Int} (hne : L ≠ []) (hl : ∀ x ∈ L, 0 ≤ x ∧ x ≤ (P.length : Int)) (ha : ∀ d ∈ L, Gr.Aft (nxB P) (P.length : Int) b d) : firstL P L ∈ L := by
 obtain ⟨d, hd, hall⟩ := Gr.aft_first (nx := nxB P) (x := (P.length : Int)) (b := b) L hne ha
 unfold firstL
 have hx := hl d hd
 cases hf : L.find? fun x => L.all (aftB P x) with
 | none =>
  have := List.find?_eq_none.1 hf d hd
  exact absurd (List.all_eq_true.2 fun e he => (aftB_iff h hx.1 hx.2 e).2 (hall e he)) this
 | some m => exact List.mem_of_find?_eq_some hf
theorem firstL_nil (P : List S38) : firstL P [] = -1 := rfl
theorem exit_aft {P : List S38} {a : Int} (hr : Gr.Reach (nxB P) (-1) [a] (P.length : Int)) : Gr.Aft (nxB P) (P.length : Int) a (P.length : Int) := ⟨hr, fun q => Gr.reach_ne q rfl⟩
theorem aftersL_aft {P : List S38} {a x : Int} (hx : x ∈ aftersL P a) : Gr.Aft (nxB P) (P.length : Int) a x := by
 obtain ⟨hn, _, _, ha⟩ := mem_aftersL.1 hx
 obtain ⟨h, h0, h1⟩ := nodeB_ok hn
 exact (aftB_iff h h0 h1 x).1 ha
theorem exit_in {P : List S38} {a : Int} (hn : nodeB P a = true) (hr : reachB P (-1) [a] (P.length : Int) = true) : (P.length : Int) ∈ aftersL P a := by
 obtain ⟨h, h0, h1⟩ := nodeB_ok hn
 exact mem_aftersL.2 ⟨hn, by omega, Int.le_refl _, (aftB_iff h h0 h1 _).2 (exit_aft ((reachB_iff h (-1) (in1 h0 h1) (by simp) (by omega) (Int.le_refl _)).1 hr))⟩
theorem isAfter_in {P : List S38} {a x : Int} (hx : x ∈ aftersL P a) : (nodeB P a && (nodeB P x && aftB P a x)) = true := by
 obtain ⟨hn, _, _, ha⟩ := mem_aftersL.1 hx
 obtain ⟨h, h2, _⟩ := aftersL_re hx
 have hx1 : nodeB P x = true := by unfold nodeB; rw [h, decide_eq_true h2]; rfl
 rw [hn, hx1, ha]; rfl
theorem aftersL_no {P : List S38} {a : Int} (hr : ¬ reachB P (-1) [a] (P.length : Int) = true) : aftersL P a = [] := by
 rcases h : aftersL P a with _ | ⟨x, r⟩
 ·rfl
 ·have hx : x ∈ aftersL P a := by rw [h]; exact List.mem_cons_self ..
  have := (mem_aftersL.1 hx).2.2.2
  unfold aftB at this
  rw [Bool.and_eq_true] at this
  exact absurd this.1 hr
theorem branch_reach {P : List S38} {b x : Int} (hb : b ∈ branchesL P) (hx : x ∈ nxB P b) (hr : reachB P (-1) [x] (P.length : Int) = true) : reachB P (-1) [b] (P.length : Int) = true := by
 obtain ⟨h, h0, h1, _⟩ := brL_mem.1 hb
 have hi := nxB_in h h0 (by omega) x hx
 exact (reachB_iff h (-1) (in1 h0 (by omega)) (by simp) (by omega) (Int.le_refl _)).2 (Gr.reach_pre (by omega) hx ((reachB_iff h (-1) (in1 hi.1 hi.2) (by simp) (by omega) (Int.le_refl _)).1 hr))
theorem firstAfter_in {P : List S38} {b : Int} (hb : b ∈ branchesL P) (hr : reachB P (-1) [b] (P.length : Int) = true) : firstAfter P b ∈ aftersL P b ∧ firstAfter P b ≠ b := by
 obtain ⟨h, h0, h1, _⟩ := brL_mem.1 hb
 have hn : nodeB P b = true := by unfold nodeB; rw [h, decide_eq_true (by omega)]; rfl
 have hm : (P.length : Int) ∈ (aftersL P b).filter fun x => !(x == b) := List.mem_filter.2 ⟨exit_in hn hr, by simp; omega⟩
 have := firstL_mem h (b := b) (List.ne_nil_of_mem hm) (fun x hx => (aftersL_re (List.mem_filter.1 hx).1).2.1) (fun d hd => aftersL_aft (List.mem_filter.1 hd).1)
 have := List.mem_filter.1 this
 refine ⟨this.1, ?_⟩
 unfold firstAfter
 simpa using this.2
def leB (x y : Int) : Bool := Go.bits .and .i64 x y == x
def S4 (x : Int) : Prop := 0 ≤ x ∧ x ≤ 15
theorem and_fin : ∀ x y : Fin 16, 0 ≤ Go.bits .and .i64 (x.val : Int) (y.val : Int) ∧ Go.bits .and .i64 (x.val : Int) (y.val : Int) ≤ (x.val : Int) ∧ leB (Go.bits .and .i64 (x.val : Int) (y.val : Int)) (x.val : Int) = true ∧ leB (Go.bits .and .i64 (x.val : Int) (y.val : Int)) (y.val : Int) = true := by decide +kernel
theorem nand_fin : ∀ x y : Fin 16, 0 ≤ Go.bits .andNot .i64 (x.val : Int) (y.val : Int) ∧ Go.bits .andNot .i64 (x.val : Int) (y.val : Int) ≤ (x.val : Int) ∧ leB (Go.bits .andNot .i64 (x.val : Int) (y.val : Int)) (x.val : Int) = true ∧ Go.bits .and .i64 (Go.bits .andNot .i64 (x.val : Int) (y.val : Int)) (y.val : Int) = 0 := by decide +kernel
theorem or_fin : ∀ (x : Fin 16) (b : Fin 4), 0 ≤ Go.bits .or .i64 (x.val : Int) (shl .i64 1 (b.val : Int)) ∧ Go.bits .or .i64 (x.val : Int) (shl .i64 1 (b.val : Int)) ≤ 15 ∧ 0 ≤ Go.bits .andNot .i64 (x.val : Int) (shl .i64 1 (b.val : Int)) ∧ Go.bits .andNot .i64 (x.val : Int) (shl .i64 1 (b.val : Int)) ≤ 15 := by decide +kernel
theorem le_fin : ∀ x y : Fin 16, (leB (x.val : Int) (y.val : Int) = true → leB (y.val : Int) (x.val : Int) = true → x = y) ∧ leB (x.val : Int) (x.val : Int) = true ∧ (leB (x.val : Int) (y.val : Int) = true → x.val ≤ y.val) := by decide +kernel
theorem and_ok {x y : Int} (hx : S4 x) (hy : S4 y) : S4 (Go.bits .and .i64 x y) ∧ Go.bits .and .i64 x y ≤ x ∧ leB (Go.bits .and .i64 x y) x = true ∧ leB (Go.bits .and .i64 x y) y = true := by
 obtain ⟨f, rfl⟩ := fin16 hx
 obtain ⟨g, rfl⟩ := fin16 hy
 have := and_fin f g
 exact ⟨⟨this.1, Int.le_trans this.2.1 hx.2⟩, this.2⟩
theorem nand_ok {x y : Int} (hx : S4 x) (hy : S4 y) : S4 (Go.bits .andNot .i64 x y) ∧ Go.bits .andNot .i64 x y ≤ x ∧ leB (Go.bits .andNot .i64 x y) x = true ∧ Go.bits .and .i64 (Go.bits .andNot .i64 x y) y = 0 := by
 obtain ⟨f, rfl⟩ := fin16 hx
 obtain ⟨g, rfl⟩ := fin16 hy
 have := nand_fin f g
 exact ⟨⟨this.1, Int.le_trans this.2.1 hx.2⟩, this.2⟩
theorem or_ok {x b : Int} (hx : S4 x) (hb : 0 ≤ b ∧ b ≤ 3) : S4 (Go.bits .or .i64 x (shl .i64 1 b)) ∧ S4 (Go.bits .andNot .i64 x (shl .i64 1 b)) := by
 obtain ⟨f, rfl⟩ := fin16 hx
 obtain ⟨g, rfl⟩ := fin4 hb
 have := or_fin f g
 exact ⟨⟨this.1, this.2.1⟩, this.2.2⟩
theorem le_anti {x y : Int} (hx : S4 x) (hy : S4 y) (h : leB x y = true) (h2 : leB y x = true) : x = y := by
 obtain ⟨f, rfl⟩ := fin16 hx
 obtain ⟨g, rfl⟩ := fin16 hy
 rw [(le_fin f g).1 h h2]
theorem le_self {x : Int} (hx : S4 x) : leB x x = true := by
 obtain ⟨f, rfl⟩ := fin16 hx
 exact (le_fin f f).2.1
theorem le_int {x y : Int} (hx : S4 x) (hy : S4 y) (h : leB x y = true) : x ≤ y := by
 obtain ⟨f, rfl⟩ := fin16 hx
 obtain ⟨g, rfl⟩ := fin16 hy
 have := (le_fin f g).2.2 h
 omega
def GoodS (m : Nat) (S : List Int) : Prop := S.length = m ∧ ∀ v : Int, 0 ≤ v → v < (m : Int) → S4 (rd S v)
def meetAt (a : Int) (S : List Int) (v : Int) : List Int := S.set v.toNat (Go.bits .and .i64 (rd S v) a)
def dropAt (a : Int) (S : List Int) (v : Int) : List Int := S.set v.toNat (Go.bits .andNot .i64 (rd S v) a)
theorem rd_set {S : List Int} {v x u : Int} (hv : 0 ≤ v ∧ v < (S.length : Int)) (hu : 0 ≤ u) : rd (S.set v.toNat x) u = if u = v then x else rd S u := by
 unfold rd
 rw [List.getD_eq_getElem?_getD, List.getD_eq_getElem?_getD, List.getElem?_set]
 by_cases e : u = v
 ·subst e; rw [if_pos rfl, if_pos (by omega), if_pos rfl]; rfl
 ·rw [if_neg (by omega), if_neg e]
theorem eq_rd {S T : List Int} {m : Nat} (hS : S.length = m) (hT : T.length = m) (h : ∀ v : Int, 0 ≤ v → v < (m : Int) → rd S v = rd T v) : S = T := by
 refine List.ext_getElem (by omega) fun i h1 h2 => ?_
 have := h i (by omega) (by omega)
 unfold rd at this
 rw [Int.toNat_natCast, List.getD_eq_getElem?_getD, List.getD_eq_getElem?_getD, List.getElem?_eq_getElem h1, List.getElem?_eq_getElem h2] at this
 exact this
def LeS (m : Nat) (S T : List Int) : Prop := ∀ v : Int, 0 ≤ v → v < (m : Int) → rd S v ≤ rd T v
theorem LeS.refl (m : Nat) (S : List Int) : LeS m S S := fun _ _ _ => Int.le_refl _
theorem LeS.trans {m : Nat} {S T U : List Int} (h : LeS m S T) (k : LeS m T U) : LeS m S U := fun v h0 h1 => Int.le_trans (h v h0 h1) (k v h0 h1)
theorem LeS.anti {m : Nat} {S T : List Int} (hS : S.length = m) (hT : T.length = m) (h : LeS m S T) (k : LeS m T S) : S = T := eq_rd hS hT fun v h0 h1 => Int.le_antisymm (h v h0 h1) (k v h0 h1)
theorem meetAt_ok {m : Nat} {S : List Int} {a v : Int} (hS : GoodS m S) (ha : S4 a) (hv : 0 ≤ v ∧ v < (m : Int)) : GoodS m (meetAt a S v) ∧ LeS m (meetAt a S v) S := by
 have hx := and_ok (hS.2 v hv.1 hv.2) ha
 have hl := hS.1
 refine ⟨⟨by unfold meetAt; rw [List.length_set]; exact hl, fun u h0 h1 => ?_⟩, fun u h0 h1 => ?_⟩ <;> unfold meetAt <;> rw [rd_set ⟨hv.1, by omega⟩ h0] <;> by_cases e : u = v
 ·rw [if_pos e]; exact hx.1
 ·rw [if_neg e]; exact hS.2 u h0 h1
 ·rw [if_pos e, e]; exact hx.2.1
 ·rw [if_neg e]; exact Int.le_refl _
theorem dropAt_ok {m : Nat} {S : List Int} {a v : Int} (hS : GoodS m S) (ha : S4 a) (hv : 0 ≤ v ∧ v < (m : Int)) : GoodS m (dropAt a S v) ∧ LeS m (dropAt a S v) S := by
 have hx := nand_ok (hS.2 v hv.1 hv.2) ha
 have hl := hS.1
 refine ⟨⟨by unfold dropAt; rw [List.length_set]; exact hl, fun u h0 h1 => ?_⟩, fun u h0 h1 => ?_⟩ <;> unfold dropAt <;> rw [rd_set ⟨hv.1, by omega⟩ h0] <;> by_cases e : u = v
 ·rw [if_pos e]; exact hx.1
 ·rw [if_neg e]; exact hS.2 u h0 h1
 ·rw [if_pos e, e]; exact hx.2.1
 ·rw [if_neg e]; exact Int.le_refl _
theorem fold_ok {m : Nat} {f : List Int → Int → List Int} : ∀ (L : List Int), (∀ v ∈ L, ∀ S, GoodS m S → GoodS m (f S v) ∧ LeS m (f S v) S) → ∀ S, GoodS m S → GoodS m (L.foldl f S) ∧ LeS m (L.foldl f S) S
 | [], _, S, hS => ⟨hS, LeS.refl m S⟩
 | v :: L, hf, S, hS => by
  have h1 := hf v (List.mem_cons_self ..) S hS
  have h2 := fold_ok L (fun u hu => hf u (List.mem_cons_of_mem _ hu)) (f S v) h1.1
  exact ⟨h2.1, h2.2.trans h1.2⟩
theorem fold_fix {m : Nat} {f : List Int → Int → List Int} {S : List Int} : ∀ (L : List Int), (∀ v ∈ L, ∀ S, GoodS m S → GoodS m (f S v) ∧ LeS m (f S v) S) → GoodS m S → L.foldl f S = S → ∀ v ∈ L, f S v = S
 | [], _, _, _, v, hv => by simp at hv
 | u :: L, hf, hS, he, v, hv => by
  have h1 := hf u (List.mem_cons_self ..) S hS
  have hf' := fun w hw => hf w (List.mem_cons_of_mem _ hw)
  have h2 := fold_ok L hf' (f S u) h1.1
  rw [List.foldl_cons] at he
  have e1 : f S u = S := LeS.anti h1.1.1 hS.1 h1.2 (by rw [he] at h2; exact h2.2)
  rcases List.mem_cons.1 hv with rfl | hv
  ·exact e1
  ·exact fold_fix L hf' hS (by rw [e1] at he; exact he) v hv
def sumS (S : List Int) : Int := S.foldr (fun x r => x + r) 0
theorem sum_le : ∀ (S T : List Int), S.length = T.length → (∀ i : Nat, i < S.length → S.getD i 0 ≤ T.getD i 0) → sumS S ≤ sumS T ∧ (sumS S = sumS T → S = T)
 | [], [], _, _ => ⟨Int.le_refl _, fun _ => rfl⟩
 | [], _ :: _, h, _ => by simp at h
 | _ :: _, [], h, _ => by simp at h
 | x :: S, y :: T, h, hl => by
  have ih := sum_le S T (by simpa using h) (fun i hi => by have := hl (i + 1) (by simpa using hi); simpa using this)
  have h0 : x ≤ y := by have := hl 0 (by simp); simpa using this
  show x + sumS S ≤ y + sumS T ∧ _
  refine ⟨by omega, fun e => ?_⟩
  have e : x + sumS S = y + sumS T := e
  rw [ih.2 (by omega), show x = y by omega]
theorem LeS.sum {m : Nat} {S T : List Int} (hS : S.length = m) (hT : T.length = m) (h : LeS m S T) : sumS S ≤ sumS T ∧ (sumS S = sumS T → S = T) := by
 refine sum_le S T (by omega) fun i hi => ?_
 have := h i (by omega) (by omega)
 unfold rd at this
 rwa [Int.toNat_natCast] at this
theorem sum_in : ∀ (S : List Int), (∀ x ∈ S, S4 x) → 0 ≤ sumS S ∧ sumS S ≤ 15 * (S.length : Int)
 | [], _ => by simp [sumS]
 | x :: S, h => by
  have ih := sum_in S fun y hy => h y (List.mem_cons_of_mem _ hy)
  have hx := h x (List.mem_cons_self ..)
  unfold S4 at hx
  show 0 ≤ x + sumS S ∧ x + sumS S ≤ _
  rw [List.length_cons]
  omega
theorem GoodS.sum {m : Nat} {S : List Int} (hS : GoodS m S) : 0 ≤ sumS S ∧ sumS S ≤ 15 * (m : Int) := by
 have := sum_in S fun x hx => by
  obtain ⟨i, hi, rfl⟩ := List.getElem_of_mem hx
  have := hS.2 i (by omega) (by have := hS.1; omega)
  unfold rd at this
  rwa [Int.toNat_natCast, List.getD_eq_getElem?_getD, List.getElem?_eq_getElem hi] at this
 rwa [hS.1] at this
def writtenB (P : List S38) (L : List Int) : Int := L.foldl (fun s v => if v < (P.length : Int) ∧ ¬ writesB (rd_T38 P v).f0 (rd_T38 P v).f1 < 0 then Go.bits .or .i64 s (shl .i64 1 (rd_T38 P v).f1) else s) 0
def uaB (P : List S38) (S : List Int) (i : Int) : Int := uniB (rd_T38 P i).f0 (rd_T38 P i).f1 (rd_T38 P i).f2 (rd_T38 P i).f3 (rd S i)
def step1 (P : List S38) (S : List Int) (i : Int) : List Int := (nxB P i).foldl (meetAt (uaB P S i)) S
def step2 (P : List S38) (S : List Int) (i : Int) : List Int := if (branchesL P).contains i = true ∧ onB (rd S i) (rd_T38 P i).f1 = false then (insideL P i ++ [joinB P i]).foldl (dropAt (writtenB P (insideL P i))) S else S
def stepB (P : List S38) (S : List Int) (i : Int) : List Int := step2 P (step1 P S i) i
def roundB (P : List S38) (S : List Int) : List Int := (ups P.length 0).foldl (stepB P) S
theorem uniB_in {n a b c d s : Int} (h : insB n a b c d = true) (hs : S4 s) : S4 (uniB a b c d s) := by
 unfold uniB
 by_cases hw : writesB a b < 0
 ·rw [if_pos hw]; exact hs
 ·rw [if_neg hw]
  have hb := or_ok hs (writesB_in h hw)
  split
  ·exact hb.1
  ·exact hb.2
theorem writtenB_in {P : List S38} (h : programOk P = true) (L : List Int) (hl : ∀ v ∈ L, 0 ≤ v) : S4 (writtenB P L) := by
 have key : ∀ (L : List Int) (s : Int), (∀ v ∈ L, 0 ≤ v) → S4 s → S4 (L.foldl (fun s v => if v < (P.length : Int) ∧ ¬ writesB (rd_T38 P v).f0 (rd_T38 P v).f1 < 0 then Go.bits .or .i64 s (shl .i64 1 (rd_T38 P v).f1) else s) s) := by
  intro L
  induction L with
  | nil => intro s _ hs; exact hs
  | cons v L ih =>
   intro s hl hs
   rw [List.foldl_cons]
   refine ih _ (fun u hu => hl u (List.mem_cons_of_mem _ hu)) ?_
   split
   ·rename_i q
    exact (or_ok hs (writesB_in (programOk_at h (hl v (List.mem_cons_self ..)) q.1) q.2)).1
   ·exact hs
 exact key L 0 hl ⟨by omega, by omega⟩
theorem insideL_in {P : List S38} {b : Int} (hb : b ∈ branchesL P) : ∀ v ∈ insideL P b, 0 ≤ v ∧ v ≤ (P.length : Int) := by
 obtain ⟨h, h0, h1, _⟩ := brL_mem.1 hb
 intro v hv
 unfold insideL at hv
 rw [if_pos (List.contains_iff_mem.2 hb)] at hv
 have hl := (reachL_ok h (joinB P b) (nxB_in h h0 (by omega)) (by have := nxB_len P b; omega)).2.1
 have := ups_mem _ _ _ (List.mem_filter.1 hv).1
 omega
theorem joinB_in {P : List S38} {b : Int} (hb : b ∈ branchesL P) : 0 ≤ joinB P b ∧ joinB P b ≤ (P.length : Int) := by
 unfold joinB
 split
 ·rename_i q
  obtain ⟨x, hx⟩ : ∃ x, x ∈ nxB P b := by rcases (brL_nx hb).2 with e | e <;> rw [e] <;> exact ⟨_, List.mem_cons_self ..⟩
  exact (aftersL_re (firstAfter_in hb (branch_reach hb hx (List.all_eq_true.1 q x hx))).1).2.1
 ·omega
theorem step1_ok {P : List S38} (h : programOk P = true) {i : Int} (hi : 0 ≤ i ∧ i < (P.length : Int)) {S : List Int} (hS : GoodS (P.length + 1) S) : GoodS (P.length + 1) (step1 P S i) ∧ LeS (P.length + 1) (step1 P S i) S := by
 have ha : S4 (uaB P S i) := uniB_in (programOk_at h hi.1 hi.2) (hS.2 i hi.1 (by omega))
 refine fold_ok (nxB P i) (fun v hv S hS => meetAt_ok hS ha ?_) S hS
 have := nxB_in h hi.1 (by omega) v hv
 omega
theorem step2_ok {P : List S38} {i : Int} {S : List Int} (hS : GoodS (P.length + 1) S) : GoodS (P.length + 1) (step2 P S i) ∧ LeS (P.length + 1) (step2 P S i) S := by
 unfold step2
 split
 ·rename_i q
  have hb := List.contains_iff_mem.1 q.1
  have h := (brL_mem.1 hb).1
  refine fold_ok _ (fun v hv S hS => dropAt_ok hS (writtenB_in h _ fun u hu => (insideL_in hb u hu).1) ?_) S hS
  rcases List.mem_append.1 hv with q | q
  ·have := insideL_in hb v q; omega
  ·rw [List.mem_singleton.1 q]; have := joinB_in hb; omega
 ·exact ⟨hS, LeS.refl _ S⟩
theorem stepB_ok {P : List S38} (h : programOk P = true) : ∀ i ∈ ups P.length 0, ∀ S, GoodS (P.length + 1) S → GoodS (P.length + 1) (stepB P S i) ∧ LeS (P.length + 1) (stepB P S i) S := by
 intro i hi S hS
 have := ups_mem _ _ _ hi
 have h1 := step1_ok h (i := i) (by omega) hS
 have h2 := step2_ok (i := i) h1.1
 exact ⟨h2.1, h2.2.trans h1.2⟩
theorem roundB_ok {P : List S38} (h : programOk P = true) {S : List Int} (hS : GoodS (P.length + 1) S) : GoodS (P.length + 1) (roundB P S) ∧ LeS (P.length + 1) (roundB P S) S := fold_ok _ (stepB_ok h) S hS
theorem round_fix {P : List S38} (h : programOk P = true) {S : List Int} (hS : GoodS (P.length + 1) S) (hr : roundB P S = S) {i : Int} (hi : 0 ≤ i ∧ i < (P.length : Int)) :
  (∀ v ∈ nxB P i, leB (rd S v) (uaB P S i) = true) ∧ ((branchesL P).contains i = true → onB (rd S i) (rd_T38 P i).f1 = false → ∀ v ∈ insideL P i ++ [joinB P i], Go.bits .and .i64 (rd S v) (writtenB P (insideL P i)) = 0) := by
 have hstep := fold_fix _ (stepB_ok h) hS hr i (ups_mem_of _ _ _ hi.1 (by omega))
 have h1 := step1_ok h hi hS
 have h2 := step2_ok (i := i) h1.1
 have e1 : step1 P S i = S := LeS.anti h1.1.1 hS.1 h1.2 (by have := h2.2; unfold stepB at hstep; rwa [hstep] at this)
 have ha : S4 (uaB P S i) := uniB_in (programOk_at h hi.1 hi.2) (hS.2 i hi.1 (by omega))
 have hin := nxB_in h hi.1 (by omega : i ≤ (P.length : Int))
 refine ⟨fun v hv => ?_, fun hb hon v hv => ?_⟩
 ·have := fold_fix _ (fun v hv S hS => meetAt_ok hS ha (by have := hin v hv; omega)) hS e1 v hv
  have hv2 := hin v hv
  have hl := hS.1
  have e : rd (meetAt (uaB P S i) S v) v = rd S v := by rw [this]
  unfold meetAt at e
  rw [rd_set (by omega) hv2.1, if_pos rfl] at e
  exact beq_iff_eq.2 e
 ·unfold stepB at hstep
  rw [e1] at hstep
  unfold step2 at hstep
  rw [if_pos ⟨hb, hon⟩] at hstep
  have hbm := List.contains_iff_mem.1 hb
  have hw := writtenB_in h _ fun u hu => (insideL_in hbm u hu).1
  have hvi : ∀ v ∈ insideL P i ++ [joinB P i], 0 ≤ v ∧ v < ((P.length + 1 : Nat) : Int) := by
   intro v hv
   rcases List.mem_append.1 hv with q | q
   ·have := insideL_in hbm v q; omega
   ·rw [List.mem_singleton.1 q]; have := joinB_in hbm; omega
  have := fold_fix _ (fun v hv S hS => dropAt_ok hS hw (hvi v hv)) hS hstep v hv
  have hv2 := hvi v hv
  have hl := hS.1
  have e : rd (dropAt (writtenB P (insideL P i)) S v) v = rd S v := by rw [this]
  unfold dropAt at e
  rw [rd_set (by omega) hv2.1, if_pos rfl] at e
  have := (nand_ok (hS.2 v hv2.1 hv2.2) hw).2.2.2
  rwa [e] at this
theorem writesB_eq {a b : Int} (h : ¬ writesB a b < 0) : writesB a b = b := by
 unfold writesB at h ⊢
 split
 ·rfl
 ·rename_i q; rw [if_neg q] at h; omega
theorem impl_writtenIn_l0 {P : List S38} (h : programOk P = true) (L : List Int) (hl : ∀ v ∈ L, 0 ≤ v) (hL : L.length ≤ 40) : ∀ (d k : Nat) (s i : Int), 0 ≤ i → (L.length : Int) - i = d → d < k →
  impl_writtenIn.l0 k P s L (L.length : Int) i = some ((L.drop i.toNat).foldl (fun s v => if v < (P.length : Int) ∧ ¬ writesB (rd_T38 P v).f0 (rd_T38 P v).f1 < 0 then Go.bits .or .i64 s (shl .i64 1 (rd_T38 P v).f1) else s) s) := by
 intro d
 induction d with
 | zero =>
  intro k s i h0 hd hk
  obtain ⟨k, rfl⟩ : ∃ q, k = q + 1 := ⟨k - 1, by omega⟩
  simp only [impl_writtenIn.l0]
  rw [if_neg (by omega), List.drop_of_length_le (by omega)]; rfl
 | succ d ih =>
  intro k s i h0 hd hk
  obtain ⟨k, rfl⟩ : ∃ q, k = q + 1 := ⟨k - 1, by omega⟩
  have hi : i < (L.length : Int) := by omega
  have hv := hl _ (rd_mem h0 hi)
  simp only [impl_writtenIn.l0]
  rw [if_pos hi, if_pos h0, if_pos hi, drop_rd h0 hi, List.foldl_cons, w64 (x := i + 1) (by omega) (by omega)]
  by_cases e : rd L i < (P.length : Int)
  ·rw [if_pos e, if_pos hv, impl_writes_eq, bindS]
   by_cases e2 : writesB (rd_T38 P (rd L i)).f0 (rd_T38 P (rd L i)).f1 < 0
   ·rw [if_neg (by omega), if_neg (fun q => q.2 e2), ih k s (i + 1) (by omega) (by omega) (by omega)]
   ·rw [if_pos (by omega), bindS, if_pos (by omega), if_pos ⟨e, e2⟩, writesB_eq e2, ih k _ (i + 1) (by omega) (by omega) (by omega)]
  ·rw [if_neg e, if_neg (fun q => e q.1), ih k s (i + 1) (by omega) (by omega) (by omega)]
theorem impl_writtenIn_eq {P : List S38} (h : programOk P = true) {L : List Int} (hl : ∀ v ∈ L, 0 ≤ v) (hL : L.length ≤ 40) {k : Nat} (hk : 41 ≤ k) : impl_writtenIn.f k P L = some (writtenB P L) := by
 unfold impl_writtenIn.f writtenB
 rw [impl_writtenIn_l0 h L hl hL L.length k 0 0 (by omega) (by omega) (by omega), Int.toNat_zero, List.drop_zero]
theorem impl_equal_l0 (S T : List Int) (he : S.length = T.length) (hL : S.length ≤ 40) : ∀ (d k : Nat) (i : Int), 0 ≤ i → (S.length : Int) - i = d → d < k →
  slices_Equal_int_int.l0 k S T (S.length : Int) i = some (decide (S.drop i.toNat = T.drop i.toNat)) := by
 intro d
 induction d with
 | zero =>
  intro k i h0 hd hk
  obtain ⟨k, rfl⟩ : ∃ q, k = q + 1 := ⟨k - 1, by omega⟩
  simp only [slices_Equal_int_int.l0]
  rw [if_neg (by omega), List.drop_of_length_le (by omega), List.drop_of_length_le (by omega), decide_eq_true rfl]
 | succ d ih =>
  intro k i h0 hd hk
  obtain ⟨k, rfl⟩ : ∃ q, k = q + 1 := ⟨k - 1, by omega⟩
  have hi : i < (S.length : Int) := by omega
  simp only [slices_Equal_int_int.l0]
  rw [if_pos hi, if_pos h0, if_pos hi, if_pos (by omega), drop_rd h0 hi, drop_rd h0 (by omega : i < (T.length : Int)), w64 (by omega) (by omega), ih k (i + 1) (by omega) (by omega) (by omega)]
  by_cases e : rd S i = rd T i
  ·rw [if_pos e, e]
   congr 1
   rw [Bool.eq_iff_iff, decide_eq_true_eq, decide_eq_true_eq, List.cons.injEq]
   exact ⟨fun q => ⟨rfl, q⟩, fun q => q.2⟩
  ·rw [if_neg e]
   congr 1
   rw [eq_comm, decide_eq_false_iff_not, List.cons.injEq]
   exact fun q => e q.1
theorem impl_equal_eq {S T : List Int} (he : S.length = T.length) (hL : S.length ≤ 40) {k : Nat} (hk : 41 ≤ k) : slices_Equal_int_int.f k S T = some (decide (S = T)) := by
 unfold slices_Equal_int_int.f
 rw [if_pos (by omega), impl_equal_l0 S T he hL S.length k 0 (by omega) (by omega) (by omega)]; rfl
theorem uniI_l3 {P : List S38} (h : programOk P = true) (B : List Int) (W : Int) {n i : Int} (hi : 0 ≤ i ∧ i ≤ 40) (L : List Int) (hl : ∀ v ∈ L, 0 ≤ v ∧ v ≤ (P.length : Int)) (hL : L.length ≤ 40) : ∀ (d k : Nat) (S : List Int) (j : Int), 0 ≤ j → (L.length : Int) - j = d → d < k → S.length = P.length + 1 →
  impl_UniformAt.l3 k P S B W P n i L (L.length : Int) j = impl_UniformAt.l1 (k - d - 1) P ((L.drop j.toNat).foldl (dropAt W) S) B P n (i + 1) := by
 intro d
 induction d with
 | zero =>
  intro k S j h0 hd hk hS
  obtain ⟨k, rfl⟩ : ∃ q, k = q + 1 := ⟨k - 1, by omega⟩
  simp only [impl_UniformAt.l3]
  rw [if_neg (by omega), List.drop_of_length_le (by omega), w64 (by omega) (by omega), show k + 1 - 0 - 1 = k by omega]; rfl
 | succ d ih =>
  intro k S j h0 hd hk hS
  obtain ⟨k, rfl⟩ : ∃ q, k = q + 1 := ⟨k - 1, by omega⟩
  have hj : j < (L.length : Int) := by omega
  have hv := hl _ (rd_mem h0 hj)
  simp only [impl_UniformAt.l3]
  rw [if_pos hj, if_pos h0, if_pos hj, if_pos hv.1, if_pos (by omega), w64 (x := j + 1) (by omega) (by omega), ih k _ (j + 1) (by omega) (by omega) (by omega) (by rw [List.length_set]; exact hS), drop_rd h0 hj, List.foldl_cons, show k + 1 - (d + 1) - 1 = k - d - 1 by omega]; rfl
theorem uniI_l2 {P : List S38} (h : programOk P = true) (B : List Int) (a : Int) {n i f0 f1 f2 f3 : Int} (L : List Int) (hl : ∀ v ∈ L, 0 ≤ v ∧ v ≤ (P.length : Int)) (hL : L.length ≤ 40) : ∀ (d k : Nat) (S : List Int) (j : Int), 0 ≤ j → (L.length : Int) - j = d → d < k → S.length = P.length + 1 →
  impl_UniformAt.l2 k P S B i a P n i L (L.length : Int) j f0 f1 f2 f3 = impl_UniformAt.l2 (k - d) P ((L.drop j.toNat).foldl (meetAt a) S) B i a P n i L (L.length : Int) (L.length : Int) f0 f1 f2 f3 := by
 intro d
 induction d with
 | zero =>
  intro k S j h0 hd hk hS
  rw [List.drop_of_length_le (by omega), show j = (L.length : Int) by omega, show k - 0 = k by omega]; rfl
 | succ d ih =>
  intro k S j h0 hd hk hS
  obtain ⟨k, rfl⟩ : ∃ q, k = q + 1 := ⟨k - 1, by omega⟩
  have hj : j < (L.length : Int) := by omega
  have hv := hl _ (rd_mem h0 hj)
  conv => lhs; rw [impl_UniformAt.l2]
  rw [if_pos hj, if_pos h0, if_pos hj, if_pos hv.1, if_pos (by omega), w64 (x := j + 1) (by omega) (by omega), ih k _ (j + 1) (by omega) (by omega) (by omega) (by rw [List.length_set]; exact hS), drop_rd h0 hj, List.foldl_cons, show k + 1 - (d + 1) = k - d by omega]; rfl
theorem branch_reg {P : List S38} {b : Int} (hb : b ∈ branchesL P) : 0 ≤ (rd_T38 P b).f1 ∧ (rd_T38 P b).f1 ≤ 3 := by
 obtain ⟨h, h0, h1, _⟩ := brL_mem.1 hb
 have h10 := (brL_nx hb).1.2
 rcases insB_cases (programOk_at h h0 h1) with q | q | q | q | q | q
 ·omega
 ·omega
 ·omega
 ·omega
 ·have := fldR4 q.2; omega
 ·omega
theorem uniI_node {P : List S38} (h : programOk P = true) (B : List Int) {i : Int} (hi : 0 ≤ i ∧ i < (P.length : Int)) {S : List Int} (hS : GoodS (P.length + 1) S) {k : Nat} (hk : 500 ≤ k) :
  ∃ k', k ≤ k' + 60 ∧ impl_UniformAt.l1 k P S B P (P.length : Int) i = impl_UniformAt.l1 k' P (stepB P S i) B P (P.length : Int) (i + 1) := by
 have hn := programOk_len h
 have hl := hS.1
 have hin := nxB_in h hi.1 (by omega : i ≤ (P.length : Int))
 have hn2 := nxB_len P i
 have h1 := step1_ok h hi hS
 have hl1 := h1.1.1
 obtain ⟨k, rfl⟩ : ∃ q, k = q + 1 := ⟨k - 1, by omega⟩
 rw [impl_UniformAt.l1, if_pos hi.2, if_pos hi.1, if_pos hi.2, if_pos (by omega), impl_uniformAfter_eq (programOk_at h hi.1 hi.2) (hS.2 i hi.1 (by omega)) (by omega), bindS, impl_next_eq h hi.1 (by omega) (by omega), bindS, uniI_l2 h B _ (nxB P i) hin (by omega) (nxB P i).length k S 0 (by omega) (by omega) (by omega) hl, Int.toNat_zero, List.drop_zero]
 change ∃ k', _ ∧ impl_UniformAt.l2 (k - (nxB P i).length) P (step1 P S i) B i _ P _ i _ _ _ _ _ _ _ = _
 obtain ⟨q, hq⟩ : ∃ q, k - (nxB P i).length = q + 2 := ⟨k - (nxB P i).length - 2, by omega⟩
 rw [hq, show q + 2 = (q + 1) + 1 from rfl, impl_UniformAt.l2, if_neg (by omega), impl_isBranch_eq (by omega) i (by omega), bindS]
 by_cases hb : (branchesL P).contains i = true
 ·have hbm := List.contains_iff_mem.1 hb
  have hr := branch_reg hbm
  rw [if_pos hb, if_pos hi.1, if_pos (by omega), if_pos hr.1]
  change ∃ k', _ ∧ impl_UniformAt.j3 (q + 1) P (step1 P S i) B i P _ i (onB (rd (step1 P S i) i) (rd_T38 P i).f1) = _
  cases ho : onB (rd (step1 P S i) i) (rd_T38 P i).f1
  ·have hil := insideL_len P i
   have hii := insideL_in hbm
   have hji := joinB_in hbm
   have hjo : joinOr P i = joinB P i := by unfold joinOr; rw [if_pos hb]
   have hL : ∀ v ∈ insideL P i ++ [joinB P i], 0 ≤ v ∧ v ≤ (P.length : Int) := by
    intro v hv
    rcases List.mem_append.1 hv with q | q
    ·exact hii v q
    ·rw [List.mem_singleton.1 q]; exact hji
   have hlen : (insideL P i ++ [joinB P i]).length = (insideL P i).length + 1 := by simp
   have e2 : stepB P S i = (insideL P i ++ [joinB P i]).foldl (dropAt (writtenB P (insideL P i))) (step1 P S i) := by
    unfold stepB step2
    rw [if_pos ⟨hb, ho⟩]
   rw [impl_UniformAt.j3, if_neg (by decide), impl_InsideOf_eq (by omega) i (by omega), bindS, impl_writtenIn_eq h (fun v hv => (hii v hv).1) (by omega) (by omega), bindS, impl_JoinOf_eq (by omega) i (by omega), bindS, if_pos (by omega), bindS, hjo, uniI_l3 h B _ ⟨hi.1, by omega⟩ _ hL (by omega) (insideL P i ++ [joinB P i]).length q _ 0 (by omega) (by omega) (by omega) hl1, Int.toNat_zero, List.drop_zero, ← e2]
   exact ⟨_, by omega, rfl⟩
  ·have e2 : stepB P S i = step1 P S i := by
    unfold stepB step2
    rw [if_neg (by rw [ho]; exact fun q => absurd q.2 (by decide))]
   rw [impl_UniformAt.j3, if_pos rfl, w64 (by omega) (by omega), ← e2]
   exact ⟨_, by omega, rfl⟩
 ·have e2 : stepB P S i = step1 P S i := by
   unfold stepB step2
   rw [if_neg (fun q => hb q.1)]
  rw [if_neg hb, impl_UniformAt.j3, if_pos rfl, w64 (by omega) (by omega), ← e2]
  exact ⟨_, by omega, rfl⟩
theorem uniI_nodes {P : List S38} (h : programOk P = true) (B : List Int) : ∀ (d k : Nat) (i : Int) (S : List Int), 0 ≤ i → (P.length : Int) - i = d → 60 * d + 500 ≤ k → GoodS (P.length + 1) S →
  ∃ k', k ≤ k' + 60 * d ∧ impl_UniformAt.l1 k P S B P (P.length : Int) i = impl_UniformAt.l1 k' P ((ups d i).foldl (stepB P) S) B P (P.length : Int) (P.length : Int) := by
 intro d
 induction d with
 | zero =>
  intro k i S h0 hd hk hS
  obtain rfl : i = (P.length : Int) := by omega
  exact ⟨k, by omega, rfl⟩
 | succ d ih =>
  intro k i S h0 hd hk hS
  obtain ⟨k1, e1, h1⟩ := uniI_node h B (i := i) ⟨h0, by omega⟩ hS (k := k) (by omega)
  have hg := stepB_ok h i (ups_mem_of _ _ _ h0 (by omega)) S hS
  obtain ⟨k2, e2, h2⟩ := ih k1 (i + 1) (stepB P S i) (by omega) (by omega) (by omega) hg.1
  exact ⟨k2, by omega, by rw [h1, h2, ups, List.foldl_cons]⟩
def fuelU : Nat → Nat
 | 0 => 2700
 | q + 1 => fuelU q + 2100
theorem fuelU_eq : ∀ q, fuelU q = 2100 * q + 2700
 | 0 => rfl
 | q + 1 => by rw [fuelU, fuelU_eq q, Nat.mul_succ, Nat.add_right_comm]
theorem uniI_loop {P : List S38} (h : programOk P = true) : ∀ (q : Nat) (S : List Int), GoodS (P.length + 1) S → sumS S ≤ (q : Int) → ∀ k : Nat, fuelU q ≤ k →
  ∃ F, impl_UniformAt.l0 k P S = some (F.take P.length) ∧ GoodS (P.length + 1) F ∧ roundB P F = F ∧ ∀ I : List Int → Prop, (∀ S, GoodS (P.length + 1) S → I S → I (roundB P S)) → I S → I F := by
 have hn := programOk_len h
 intro q
 induction q with
 | zero =>
  intro S hS hq k hk
  have hk : 2700 ≤ k := hk
  have hr := roundB_ok h hS
  have e : roundB P S = S := by
   have a := hr.1.sum
   have b := hS.sum
   have c := LeS.sum hr.1.1 hS.1 hr.2
   exact c.2 (by omega)
  obtain ⟨k, rfl⟩ : ∃ q, k = q + 1 := ⟨k - 1, by omega⟩
  have hl := hS.1
  obtain ⟨k1, e1, h1⟩ := uniI_nodes h S P.length k 0 S (by omega) (by omega) (by omega) hS
  obtain ⟨k1, rfl⟩ : ∃ q, k1 = q + 1 := ⟨k1 - 1, by omega⟩
  refine ⟨S, ?_, hS, e, fun I _ hI => hI⟩
  unfold roundB at e
  rw [impl_UniformAt.l0]
  unfold slices_Clone_int_int.f cloneIntF
  rw [if_pos (by omega), bindS, h1, e, impl_UniformAt.l1, if_neg (by omega), impl_equal_eq rfl (by omega) (by omega), bindS, decide_eq_true rfl, if_pos rfl, if_pos (by omega), if_pos (by omega)]
  unfold slices_Clone_int_int.f cloneIntF
  rw [Int.toNat_natCast, if_pos (by rw [List.length_take]; omega), bindS]
 | succ q ih =>
  intro S hS hq k hk
  have hk : fuelU q + 2100 ≤ k := hk
  have hf : 2700 ≤ fuelU q := by rw [fuelU_eq]; exact Nat.le_add_left _ _
  generalize fuelU q = fu at hk hf ih
  have hr := roundB_ok h hS
  obtain ⟨k, rfl⟩ : ∃ q, k = q + 1 := ⟨k - 1, by omega⟩
  have hl := hS.1
  have hl2 := hr.1.1
  obtain ⟨k1, e1, h1⟩ := uniI_nodes h S P.length k 0 S (by omega) (by omega) (by omega) hS
  obtain ⟨k1, rfl⟩ : ∃ q, k1 = q + 1 := ⟨k1 - 1, by omega⟩
  have hk1 : fu ≤ k1 := by clear h1 hr ih; omega
  have hq1 : sumS (roundB P S) ≤ sumS S → sumS (roundB P S) ≠ sumS S → sumS (roundB P S) ≤ (q : Int) := by
   generalize sumS (roundB P S) = x
   generalize sumS S = y at hq ⊢
   clear h1 hr ih hk1
   intro p r
   omega
  have start : impl_UniformAt.l0 (k + 1) P S = impl_UniformAt.l1 (k1 + 1) P (roundB P S) S P (P.length : Int) (P.length : Int) := by
   rw [impl_UniformAt.l0]
   unfold slices_Clone_int_int.f cloneIntF
   rw [if_pos (by omega), bindS, h1]; rfl
  by_cases e : roundB P S = S
  ·refine ⟨S, ?_, hS, e, fun I _ hI => hI⟩
   rw [start, e, impl_UniformAt.l1, if_neg (by omega), impl_equal_eq rfl (by omega) (by omega), bindS, decide_eq_true rfl, if_pos rfl, if_pos (by omega), if_pos (by omega)]
   unfold slices_Clone_int_int.f cloneIntF
   rw [Int.toNat_natCast, if_pos (by rw [List.length_take]; omega), bindS]
  ·have c := LeS.sum hr.1.1 hS.1 hr.2
   have c2 : sumS (roundB P S) ≠ sumS S := fun x => e (c.2 x)
   obtain ⟨F, f1, f2, f3, f4⟩ := ih (roundB P S) hr.1 (hq1 c.1 c2) k1 hk1
   refine ⟨F, ?_, f2, f3, fun I hI hs => f4 I hI (hI S hS hs)⟩
   rw [start, impl_UniformAt.l1, if_neg (by omega), impl_equal_eq (by omega) (by omega) (by omega), bindS, decide_eq_false e, if_neg (by decide), f1]
theorem allOn {P : List S38} : GoodS (P.length + 1) (List.replicate (P.length + 1) (15 : Int)) := by
 refine ⟨by simp, fun v h0 h1 => ?_⟩
 have : rd (List.replicate (P.length + 1) (15 : Int)) v = 15 := by
  unfold rd
  rw [List.getD_eq_getElem?_getD, List.getElem?_replicate, if_pos (by omega)]; rfl
 rw [this]; exact ⟨by omega, by omega⟩
theorem impl_UniformAt_ok {P : List S38} (hq : quietOk P = true) : ∃ F, (∀ k : Nat, 1050000 ≤ k → impl_UniformAt.f k P = some (F.take P.length)) ∧ GoodS (P.length + 1) F ∧ roundB P F = F ∧ ∀ I : List Int → Prop, (∀ S, GoodS (P.length + 1) S → I S → I (roundB P S)) → I (List.replicate (P.length + 1) 15) → I F := by
 have h : programOk P = true := by unfold quietOk at hq; rw [Bool.and_eq_true] at hq; exact hq.1
 have hn := programOk_len h
 have hs := (allOn (P := P)).sum
 obtain ⟨F, f1, f2⟩ := uniI_loop h 495 _ (allOn (P := P)) (by omega) 1050000 (by rw [fuelU_eq]; decide)
 refine ⟨F, fun k hk => ?_, f2⟩
 unfold impl_UniformAt.f slices_Repeat_int_int.f
 rw [impl_quiet_eq, hq, bindS, if_pos rfl, w64 (by omega) (by omega), if_pos ⟨rfl, by omega, by omega⟩, bindS, show ((P.length : Int) + 1).toNat = P.length + 1 by omega, show rd [15] 0 = 15 from rfl]
 exact at_rounds (g := fun k => impl_UniformAt.l0 k P (List.replicate (P.length + 1) 15)) (fun k => (impl_UniformAt.mono_l k).1 P _) hk f1

theorem le_tr_fin : ∀ x y z : Fin 16, leB (x.val : Int) (y.val : Int) = true → leB (y.val : Int) (z.val : Int) = true → leB (x.val : Int) (z.val : Int) = true := by decide +kernel
theorem le_and_fin : ∀ x y a : Fin 16, leB (x.val : Int) (y.val : Int) = true → leB (x.val : Int) (a.val : Int) = true → leB (x.val : Int) (Go.bits .and .i64 (y.val : Int) (a.val : Int)) = true := by decide +kernel
theorem le_nand_fin : ∀ x y w : Fin 16, leB (x.val : Int) (y.val : Int) = true → Go.bits .and .i64 (x.val : Int) (w.val : Int) = 0 → leB (x.val : Int) (Go.bits .andNot .i64 (y.val : Int) (w.val : Int)) = true := by decide +kernel
theorem co_fin : ∀ a : Fin 16, 0 ≤ Go.bits .andNot .i64 15 (a.val : Int) ∧ Go.bits .andNot .i64 15 (a.val : Int) ≤ 15 := by decide +kernel
theorem nand_co_fin : ∀ y a : Fin 16, Go.bits .andNot .i64 (y.val : Int) (Go.bits .andNot .i64 15 (a.val : Int)) = Go.bits .and .i64 (y.val : Int) (a.val : Int) := by decide +kernel
theorem nand_id_fin : ∀ x y : Fin 16, (Go.bits .and .i64 (x.val : Int) (y.val : Int) = 0 ↔ Go.bits .andNot .i64 (x.val : Int) (y.val : Int) = (x.val : Int)) := by decide +kernel
theorem on_mono_fin : ∀ (x y : Fin 16) (r : Fin 4), leB (x.val : Int) (y.val : Int) = true → ((Go.bits .and .i64 (shr .i64 (y.val : Int) (r.val : Int)) 1) == 1) = false → ((Go.bits .and .i64 (shr .i64 (x.val : Int) (r.val : Int)) 1) == 1) = false := by decide +kernel
theorem or_mono_fin : ∀ (x y : Fin 16) (r : Fin 4), leB (x.val : Int) (y.val : Int) = true → leB (Go.bits .or .i64 (x.val : Int) (shl .i64 1 (r.val : Int))) (Go.bits .or .i64 (y.val : Int) (shl .i64 1 (r.val : Int))) = true ∧ leB (Go.bits .andNot .i64 (x.val : Int) (shl .i64 1 (r.val : Int))) (Go.bits .or .i64 (y.val : Int) (shl .i64 1 (r.val : Int))) = true ∧ leB (Go.bits .andNot .i64 (x.val : Int) (shl .i64 1 (r.val : Int))) (Go.bits .andNot .i64 (y.val : Int) (shl .i64 1 (r.val : Int))) = true := by decide +kernel
theorem le_tr {x y z : Int} (hx : S4 x) (hy : S4 y) (hz : S4 z) (h : leB x y = true) (k : leB y z = true) : leB x z = true := by
 obtain ⟨f, rfl⟩ := fin16 hx
 obtain ⟨g, rfl⟩ := fin16 hy
 obtain ⟨e, rfl⟩ := fin16 hz
 exact le_tr_fin f g e h k
theorem le_and {x y a : Int} (hx : S4 x) (hy : S4 y) (ha : S4 a) (h : leB x y = true) (k : leB x a = true) : leB x (Go.bits .and .i64 y a) = true := by
 obtain ⟨f, rfl⟩ := fin16 hx
 obtain ⟨g, rfl⟩ := fin16 hy
 obtain ⟨e, rfl⟩ := fin16 ha
 exact le_and_fin f g e h k
theorem le_nand {x y w : Int} (hx : S4 x) (hy : S4 y) (hw : S4 w) (h : leB x y = true) (k : Go.bits .and .i64 x w = 0) : leB x (Go.bits .andNot .i64 y w) = true := by
 obtain ⟨f, rfl⟩ := fin16 hx
 obtain ⟨g, rfl⟩ := fin16 hy
 obtain ⟨e, rfl⟩ := fin16 hw
 exact le_nand_fin f g e h k
theorem co_ok {a : Int} (ha : S4 a) : S4 (Go.bits .andNot .i64 15 a) := by
 obtain ⟨f, rfl⟩ := fin16 ha
 exact co_fin f
theorem nand_co {y a : Int} (hy : S4 y) (ha : S4 a) : Go.bits .andNot .i64 y (Go.bits .andNot .i64 15 a) = Go.bits .and .i64 y a := by
 obtain ⟨f, rfl⟩ := fin16 hy
 obtain ⟨g, rfl⟩ := fin16 ha
 exact nand_co_fin f g
theorem nand_id {x y : Int} (hx : S4 x) (hy : S4 y) : Go.bits .and .i64 x y = 0 ↔ Go.bits .andNot .i64 x y = x := by
 obtain ⟨f, rfl⟩ := fin16 hx
 obtain ⟨g, rfl⟩ := fin16 hy
 exact nand_id_fin f g
theorem on_mono {x y r : Int} (hx : S4 x) (hy : S4 y) (hr : 0 ≤ r ∧ r ≤ 3) (h : leB x y = true) (k : onB y r = false) : onB x r = false := by
 obtain ⟨f, rfl⟩ := fin16 hx
 obtain ⟨g, rfl⟩ := fin16 hy
 obtain ⟨e, rfl⟩ := fin4 hr
 exact on_mono_fin f g e h k
theorem or_mono {x y r : Int} (hx : S4 x) (hy : S4 y) (hr : 0 ≤ r ∧ r ≤ 3) (h : leB x y = true) : leB (Go.bits .or .i64 x (shl .i64 1 r)) (Go.bits .or .i64 y (shl .i64 1 r)) = true ∧ leB (Go.bits .andNot .i64 x (shl .i64 1 r)) (Go.bits .or .i64 y (shl .i64 1 r)) = true ∧ leB (Go.bits .andNot .i64 x (shl .i64 1 r)) (Go.bits .andNot .i64 y (shl .i64 1 r)) = true := by
 obtain ⟨f, rfl⟩ := fin16 hx
 obtain ⟨g, rfl⟩ := fin16 hy
 obtain ⟨e, rfl⟩ := fin4 hr
 exact or_mono_fin f g e h
theorem reads_in {n a b c d : Int} (h : insB n a b c d = true) : ∀ r ∈ readsB a b c d, 0 ≤ r ∧ r ≤ 3 := fun r hr => readsB_in hr
theorem uniB_mono {n a b c d x y : Int} (h : insB n a b c d = true) (hx : S4 x) (hy : S4 y) (hl : leB x y = true) : leB (uniB a b c d x) (uniB a b c d y) = true := by
 unfold uniB
 by_cases hw : writesB a b < 0
 ·rw [if_pos hw, if_pos hw]; exact hl
 ·rw [if_neg hw, if_neg hw]
  have hb := or_mono hx hy (writesB_in h hw) hl
  by_cases ky : keepB a b c d y = true
  ·rw [if_pos ky]
   split
   ·exact hb.1
   ·exact hb.2.1
  ·rw [if_neg ky, if_neg (fun kx => ky ?_)]
   ·exact hb.2.2
   ·unfold keepB at kx ⊢
    simp only [Bool.and_eq_true, List.all_eq_true] at kx ⊢
    refine ⟨kx.1, kx.2.1, fun r hr => ?_⟩
    have := kx.2.2 r hr
    cases e : onB y r
    ·rw [on_mono hx hy (reads_in h r hr) hl e] at this; exact this
    ·rfl
def Sol (P : List S38) (m : Nat) (T : List Int) : Prop := ∀ i : Int, 0 ≤ i → i < (P.length : Int) → (∀ v ∈ nxB P i, v < (m : Int) → leB (rd T v) (uaB P T i) = true) ∧ ((branchesL P).contains i = true → onB (rd T i) (rd_T38 P i).f1 = false → ∀ v ∈ insideL P i ++ [joinB P i], v < (m : Int) → Go.bits .and .i64 (rd T v) (writtenB P (insideL P i)) = 0)
def PartS (n : Nat) (T S : List Int) : Prop := ∀ v : Int, 0 ≤ v → v < (n : Int) → leB (rd T v) (rd S v) = true
theorem fold_inv {m : Nat} {f : List Int → Int → List Int} {I : List Int → Prop} : ∀ (L : List Int), (∀ v ∈ L, ∀ S, GoodS m S → GoodS m (f S v) ∧ LeS m (f S v) S) → (∀ v ∈ L, ∀ S, GoodS m S → I S → I (f S v)) → ∀ S, GoodS m S → I S → I (L.foldl f S)
 | [], _, _, S, _, hI => hI
 | v :: L, hf, hk, S, hS, hI => fold_inv L (fun u hu => hf u (List.mem_cons_of_mem _ hu)) (fun u hu => hk u (List.mem_cons_of_mem _ hu)) (f S v) (hf v (List.mem_cons_self ..) S hS).1 (hk v (List.mem_cons_self ..) S hS hI)
theorem inAt {P : List S38} {i : Int} (hb : (branchesL P).contains i = true) {v : Int} (hv : v ∈ insideL P i ++ [joinB P i]) : 0 ≤ v ∧ v ≤ (P.length : Int) := by
 have hbm := List.contains_iff_mem.1 hb
 rcases List.mem_append.1 hv with q | q
 ·exact insideL_in hbm v q
 ·rw [List.mem_singleton.1 q]; exact joinB_in hbm
theorem part_meet {m n : Nat} {T S : List Int} {a v : Int} (hT : ∀ u : Int, 0 ≤ u → u < (n : Int) → S4 (rd T u)) (hS : GoodS m S) (hmn : n ≤ m) (ha : S4 a) (hv : 0 ≤ v ∧ v < (m : Int)) (hp : PartS n T S) (hle : v < (n : Int) → leB (rd T v) a = true) : PartS n T (meetAt a S v) := by
 intro u h0 h1
 have hl := hS.1
 unfold meetAt
 rw [rd_set ⟨hv.1, by omega⟩ h0]
 by_cases e : u = v
 ·rw [if_pos e]; subst e; exact le_and (hT u h0 h1) (hS.2 u h0 (by omega)) ha (hp u h0 h1) (hle h1)
 ·rw [if_neg e]; exact hp u h0 h1
theorem part_drop {m n : Nat} {T S : List Int} {a v : Int} (hT : ∀ u : Int, 0 ≤ u → u < (n : Int) → S4 (rd T u)) (hS : GoodS m S) (hmn : n ≤ m) (ha : S4 a) (hv : 0 ≤ v ∧ v < (m : Int)) (hp : PartS n T S) (hle : v < (n : Int) → Go.bits .and .i64 (rd T v) a = 0) : PartS n T (dropAt a S v) := by
 intro u h0 h1
 have hl := hS.1
 unfold dropAt
 rw [rd_set ⟨hv.1, by omega⟩ h0]
 by_cases e : u = v
 ·rw [if_pos e]; subst e; exact le_nand (hT u h0 h1) (hS.2 u h0 (by omega)) ha (hp u h0 h1) (hle h1)
 ·rw [if_neg e]; exact hp u h0 h1
theorem part_stepB {P : List S38} (h : programOk P = true) {T : List Int} (hT : GoodS P.length T) (hs : Sol P P.length T) {i : Int} (hi : 0 ≤ i ∧ i < (P.length : Int)) {S : List Int} (hS : GoodS (P.length + 1) S) (hp : PartS P.length T S) : PartS P.length T (stepB P S i) := by
 have hok := programOk_at h hi.1 hi.2
 have hSi := hS.2 i hi.1 (by omega)
 have ha : S4 (uaB P S i) := uniB_in hok hSi
 have hin := nxB_in h hi.1 (by omega : i ≤ (P.length : Int))
 have h1 := step1_ok h hi hS
 have p1 : PartS P.length T (step1 P S i) := by
  refine fold_inv (I := PartS P.length T) (nxB P i) (fun v hv S hS => meetAt_ok hS ha (by have := hin v hv; omega)) (fun v hv S2 hS2 hp2 => part_meet hT.2 hS2 (by omega) ha (by have := hin v hv; omega) hp2 fun hvn => ?_) S hS hp
  have hTi := hT.2 i hi.1 hi.2
  exact le_tr (hT.2 v (hin v hv).1 hvn) (uniB_in hok hTi) ha ((hs i hi.1 hi.2).1 v hv hvn) (uniB_mono hok hTi hSi (hp i hi.1 hi.2))
 unfold stepB step2
 split
 ·rename_i q
  have hbm := List.contains_iff_mem.1 q.1
  have hr := branch_reg hbm
  have hw := writtenB_in h _ fun u hu => (insideL_in hbm u hu).1
  have hon : onB (rd T i) (rd_T38 P i).f1 = false := on_mono (hT.2 i hi.1 hi.2) (h1.1.2 i hi.1 (by omega)) hr (p1 i hi.1 hi.2) q.2
  refine fold_inv (I := PartS P.length T) _ (fun v hv S hS => dropAt_ok hS hw (by have := inAt q.1 hv; omega)) (fun v hv S2 hS2 hp2 => part_drop hT.2 hS2 (by omega) hw (by have := inAt q.1 hv; omega) hp2 fun hvn => ?_) _ h1.1 p1
  exact (hs i hi.1 hi.2).2 q.1 hon v hv hvn
 ·exact p1
theorem part_roundB {P : List S38} (h : programOk P = true) {T : List Int} (hT : GoodS P.length T) (hs : Sol P P.length T) {S : List Int} (hS : GoodS (P.length + 1) S) (hp : PartS P.length T S) : PartS P.length T (roundB P S) := by
 refine fold_inv (I := PartS P.length T) _ (stepB_ok h) (fun i hi S2 hS2 hp2 => ?_) S hS hp
 have := ups_mem _ _ _ hi
 exact part_stepB h hT hs (by omega) hS2 hp2
def loseB (a : Int) (S : List Int) (v : Int) : List Int := if v < (S.length : Int) then dropAt a S v else S
def lose1 (P : List S38) (i : Int) (S : List Int) (v : Int) : List Int := loseB (Go.bits .andNot .i64 15 (uaB P S i)) S v
def ref1 (P : List S38) (S : List Int) (i : Int) : List Int := (nxB P i).foldl (lose1 P i) S
def ref2 (P : List S38) (S : List Int) (i : Int) : List Int := if (branchesL P).contains i = true ∧ onB (rd S i) (rd_T38 P i).f1 = false then (insideL P i ++ [joinB P i]).foldl (loseB (writtenB P (insideL P i))) S else S
def refB (P : List S38) (S : List Int) (i : Int) : List Int := ref2 P (ref1 P S i) i
def refR (P : List S38) (S : List Int) : List Int := (ups P.length 0).foldl (refB P) S
theorem loseB_ok {m : Nat} {S : List Int} {a v : Int} (hS : GoodS m S) (ha : S4 a) (hv : 0 ≤ v) : GoodS m (loseB a S v) ∧ LeS m (loseB a S v) S := by
 unfold loseB
 split
 ·rename_i q; exact dropAt_ok hS ha ⟨hv, by have := hS.1; omega⟩
 ·exact ⟨hS, LeS.refl _ _⟩
theorem lose1_ok {P : List S38} (h : programOk P = true) {i : Int} (hi : 0 ≤ i ∧ i < (P.length : Int)) : ∀ v ∈ nxB P i, ∀ S, GoodS P.length S → GoodS P.length (lose1 P i S v) ∧ LeS P.length (lose1 P i S v) S := by
 intro v hv S hS
 exact loseB_ok hS (co_ok (uniB_in (programOk_at h hi.1 hi.2) (hS.2 i hi.1 hi.2))) (nxB_in h hi.1 (by omega) v hv).1
theorem lose2_ok {P : List S38} (h : programOk P = true) {i : Int} (hb : (branchesL P).contains i = true) : ∀ v ∈ insideL P i ++ [joinB P i], ∀ S, GoodS P.length S → GoodS P.length (loseB (writtenB P (insideL P i)) S v) ∧ LeS P.length (loseB (writtenB P (insideL P i)) S v) S := by
 intro v hv S hS
 exact loseB_ok hS (writtenB_in h _ fun u hu => (insideL_in (List.contains_iff_mem.1 hb) u hu).1) (inAt hb hv).1
theorem ref1_ok {P : List S38} (h : programOk P = true) {i : Int} (hi : 0 ≤ i ∧ i < (P.length : Int)) {S : List Int} (hS : GoodS P.length S) : GoodS P.length (ref1 P S i) ∧ LeS P.length (ref1 P S i) S := fold_ok (nxB P i) (lose1_ok h hi) S hS
theorem ref2_ok {P : List S38} (h : programOk P = true) {i : Int} {S : List Int} (hS : GoodS P.length S) : GoodS P.length (ref2 P S i) ∧ LeS P.length (ref2 P S i) S := by
 unfold ref2
 split
 ·rename_i q; exact fold_ok _ (lose2_ok h q.1) S hS
 ·exact ⟨hS, LeS.refl _ S⟩
theorem refB_ok {P : List S38} (h : programOk P = true) : ∀ i ∈ ups P.length 0, ∀ S, GoodS P.length S → GoodS P.length (refB P S i) ∧ LeS P.length (refB P S i) S := by
 intro i hi S hS
 have := ups_mem _ _ _ hi
 have h1 := ref1_ok h (i := i) (by omega) hS
 have h2 := ref2_ok h (i := i) h1.1
 exact ⟨h2.1, h2.2.trans h1.2⟩
theorem refR_ok {P : List S38} (h : programOk P = true) {S : List Int} (hS : GoodS P.length S) : GoodS P.length (refR P S) ∧ LeS P.length (refR P S) S := fold_ok _ (refB_ok h) S hS
theorem lose_fix {m : Nat} {S : List Int} {a v : Int} (hS : GoodS m S) (ha : S4 a) (hv : 0 ≤ v ∧ v < (m : Int)) (he : loseB a S v = S) : Go.bits .and .i64 (rd S v) a = 0 := by
 have hl := hS.1
 unfold loseB at he
 rw [if_pos (by omega)] at he
 have e : rd (dropAt a S v) v = rd S v := by rw [he]
 unfold dropAt at e
 rw [rd_set (by omega) hv.1, if_pos rfl] at e
 exact (nand_id (hS.2 v hv.1 hv.2) ha).2 e
theorem ref_fix {P : List S38} (h : programOk P = true) {S : List Int} (hS : GoodS P.length S) (hr : refR P S = S) : Sol P P.length S := by
 intro i h0 h1
 have hi : 0 ≤ i ∧ i < (P.length : Int) := ⟨h0, h1⟩
 have hstep := fold_fix _ (refB_ok h) hS hr i (ups_mem_of _ _ _ h0 (by omega))
 have g1 := ref1_ok h hi hS
 have g2 := ref2_ok h (i := i) g1.1
 have e1 : ref1 P S i = S := LeS.anti g1.1.1 hS.1 g1.2 (by have := g2.2; unfold refB at hstep; rwa [hstep] at this)
 have ha : S4 (uaB P S i) := uniB_in (programOk_at h h0 h1) (hS.2 i h0 h1)
 have hin := nxB_in h h0 (by omega : i ≤ (P.length : Int))
 refine ⟨fun v hv hvn => ?_, fun hb hon v hv hvn => ?_⟩
 ·have := fold_fix _ (lose1_ok h hi) hS e1 v hv
  have hv0 := (hin v hv).1
  have z := lose_fix hS (co_ok ha) ⟨hv0, hvn⟩ this
  have z2 := (nand_id (hS.2 v hv0 hvn) (co_ok ha)).1 z
  rw [nand_co (hS.2 v hv0 hvn) ha] at z2
  exact beq_iff_eq.2 z2
 ·unfold refB at hstep
  rw [e1] at hstep
  unfold ref2 at hstep
  rw [if_pos ⟨hb, hon⟩] at hstep
  have hw := writtenB_in h _ fun u hu => (insideL_in (List.contains_iff_mem.1 hb) u hu).1
  exact lose_fix hS hw ⟨(inAt hb hv).1, hvn⟩ (fold_fix _ (lose2_ok h hb) hS hstep v hv)
theorem part_lose {n : Nat} {T S : List Int} {a v : Int} (hT : ∀ u : Int, 0 ≤ u → u < (n : Int) → S4 (rd T u)) (hS : GoodS n S) (ha : S4 a) (hv : 0 ≤ v) (hp : PartS n T S) (hle : v < (n : Int) → Go.bits .and .i64 (rd T v) a = 0) : PartS n T (loseB a S v) := by
 unfold loseB
 split
 ·rename_i q; exact part_drop hT hS (Nat.le_refl _) ha ⟨hv, by have := hS.1; omega⟩ hp hle
 ·exact hp
theorem le_co_fin : ∀ x a : Fin 16, leB (x.val : Int) (a.val : Int) = true → Go.bits .and .i64 (x.val : Int) (Go.bits .andNot .i64 15 (a.val : Int)) = 0 := by decide +kernel
theorem le_co {x a : Int} (hx : S4 x) (ha : S4 a) (h : leB x a = true) : Go.bits .and .i64 x (Go.bits .andNot .i64 15 a) = 0 := by
 obtain ⟨f, rfl⟩ := fin16 hx
 obtain ⟨g, rfl⟩ := fin16 ha
 exact le_co_fin f g h
theorem part_refB {P : List S38} (h : programOk P = true) {T : List Int} (hT : ∀ u : Int, 0 ≤ u → u < (P.length : Int) → S4 (rd T u)) (hs : Sol P P.length T) {i : Int} (hi : 0 ≤ i ∧ i < (P.length : Int)) {S : List Int} (hS : GoodS P.length S) (hp : PartS P.length T S) : PartS P.length T (refB P S i) := by
 have hok := programOk_at h hi.1 hi.2
 have hin := nxB_in h hi.1 (by omega : i ≤ (P.length : Int))
 have h1 := ref1_ok h hi hS
 have hTi := hT i hi.1 hi.2
 have p1 : PartS P.length T (ref1 P S i) := by
  refine fold_inv (I := PartS P.length T) (nxB P i) (lose1_ok h hi) (fun v hv S2 hS2 hp2 => ?_) S hS hp
  have hSi := hS2.2 i hi.1 hi.2
  have ha : S4 (uaB P S2 i) := uniB_in hok hSi
  refine part_lose hT hS2 (co_ok ha) (hin v hv).1 hp2 fun hvn => le_co (hT v (hin v hv).1 hvn) ha ?_
  exact le_tr (hT v (hin v hv).1 hvn) (uniB_in hok hTi) ha ((hs i hi.1 hi.2).1 v hv hvn) (uniB_mono hok hTi hSi (hp2 i hi.1 hi.2))
 unfold refB ref2
 split
 ·rename_i q
  have hbm := List.contains_iff_mem.1 q.1
  have hw := writtenB_in h _ fun u hu => (insideL_in hbm u hu).1
  have hon : onB (rd T i) (rd_T38 P i).f1 = false := on_mono hTi (h1.1.2 i hi.1 hi.2) (branch_reg hbm) (p1 i hi.1 hi.2) q.2
  refine fold_inv (I := PartS P.length T) _ (lose2_ok h q.1) (fun v hv S2 hS2 hp2 => part_lose hT hS2 hw (inAt q.1 hv).1 hp2 fun hvn => ?_) _ h1.1 p1
  exact (hs i hi.1 hi.2).2 q.1 hon v hv hvn
 ·exact p1
theorem part_refR {P : List S38} (h : programOk P = true) {T : List Int} (hT : ∀ u : Int, 0 ≤ u → u < (P.length : Int) → S4 (rd T u)) (hs : Sol P P.length T) {S : List Int} (hS : GoodS P.length S) (hp : PartS P.length T S) : PartS P.length T (refR P S) := by
 refine fold_inv (I := PartS P.length T) _ (refB_ok h) (fun i hi S2 hS2 hp2 => ?_) S hS hp
 have := ups_mem _ _ _ hi
 exact part_refB h hT hs (by omega) hS2 hp2
theorem spec_writtenIn_l0 {P : List S38} (L : List Int) (hl : ∀ v ∈ L, 0 ≤ v) (hL : L.length ≤ 40) (h : programOk P = true) : ∀ (d k : Nat) (s i : Int), 0 ≤ i → (L.length : Int) - i = d → d < k →
  spec_l17Writes.l0 k P L s i = some ((L.drop i.toNat).foldl (fun s v => if v < (P.length : Int) ∧ ¬ writesB (rd_T38 P v).f0 (rd_T38 P v).f1 < 0 then Go.bits .or .i64 s (shl .i64 1 (rd_T38 P v).f1) else s) s) := by
 intro d
 induction d with
 | zero =>
  intro k s i h0 hd hk
  obtain ⟨k, rfl⟩ : ∃ q, k = q + 1 := ⟨k - 1, by omega⟩
  simp only [spec_l17Writes.l0]
  rw [if_neg (by omega), List.drop_of_length_le (by omega)]; rfl
 | succ d ih =>
  intro k s i h0 hd hk
  obtain ⟨k, rfl⟩ : ∃ q, k = q + 1 := ⟨k - 1, by omega⟩
  have hi : i < (L.length : Int) := by omega
  have hv := hl _ (rd_mem h0 hi)
  simp only [spec_l17Writes.l0]
  rw [if_pos hi, if_pos h0, drop_rd h0 hi, List.foldl_cons, w64 (x := i + 1) (by omega) (by omega)]
  by_cases e : rd L i < (P.length : Int)
  ·rw [if_pos e, if_pos hv, spec_writes_eq, bindS]
   by_cases e2 : writesB (rd_T38 P (rd L i)).f0 (rd_T38 P (rd L i)).f1 < 0
   ·rw [if_neg (by omega), if_neg (fun q => q.2 e2), ih k s (i + 1) (by omega) (by omega) (by omega)]
   ·rw [if_pos (by omega), bindS, if_pos (by omega), if_pos ⟨e, e2⟩, writesB_eq e2, ih k _ (i + 1) (by omega) (by omega) (by omega)]
  ·rw [if_neg e, if_neg (fun q => e q.1), ih k s (i + 1) (by omega) (by omega) (by omega)]
theorem spec_writtenIn_eq {P : List S38} (h : programOk P = true) {L : List Int} (hl : ∀ v ∈ L, 0 ≤ v) (hL : L.length ≤ 40) {k : Nat} (hk : 41 ≤ k) : spec_l17Writes.f k P L = some (writtenB P L) := by
 unfold spec_l17Writes.f writtenB
 rw [spec_writtenIn_l0 L hl hL h L.length k 0 0 (by omega) (by omega) (by omega), Int.toNat_zero, List.drop_zero]
theorem spec_lose_eq {m : Nat} {S : List Int} {a v : Int} (hS : GoodS m S) (ha : S4 a) (hv : 0 ≤ v) : spec_l17Lose.f S v a = some (decide (loseB a S v ≠ S), loseB a S v) := by
 have hl := hS.1
 unfold spec_l17Lose.f loseB
 by_cases e : v < (S.length : Int)
 ·have hx := hS.2 v hv (by omega)
  rw [if_neg (by omega), if_pos hv, if_pos e, if_pos e]
  by_cases z : Go.bits .and .i64 (rd S v) a = 0
  ·have e2 : dropAt a S v = S := by
    refine eq_rd (m := m) (by unfold dropAt; rw [List.length_set]; exact hl) hl fun u h0 h1 => ?_
    unfold dropAt
    rw [rd_set ⟨hv, e⟩ h0]
    by_cases q : u = v
    ·rw [if_pos q, (nand_id hx ha).1 z, q]
    ·rw [if_neg q]
   rw [if_pos z, e2, decide_eq_false (fun q => q rfl)]
  ·have e2 : dropAt a S v ≠ S := fun q => z (by
    have e3 : rd (dropAt a S v) v = rd S v := by rw [q]
    unfold dropAt at e3
    rw [rd_set ⟨hv, e⟩ hv, if_pos rfl] at e3
    exact (nand_id hx ha).2 e3)
   rw [if_neg z, decide_eq_true e2]; rfl
 ·rw [if_pos (by omega), if_neg e, decide_eq_false (fun q => q rfl)]
theorem ne_two {m : Nat} {S S1 S2 : List Int} (hS : S.length = m) (h1 : S1.length = m) (h2 : S2.length = m) (l1 : LeS m S1 S) (l2 : LeS m S2 S1) (b : Bool) : ((b || decide (S1 ≠ S)) || decide (S2 ≠ S1)) = (b || decide (S2 ≠ S)) := by
 by_cases e : S2 = S
 ·have e1 : S1 = S := LeS.anti h1 hS l1 (by rw [← e]; exact l2)
  rw [e, e1]; cases b <;> simp
 ·by_cases e1 : S1 = S
  ·rw [e1]; cases b <;> simp
  ·rw [decide_eq_true e, decide_eq_true e1]; cases b <;> simp
theorem insB_up {n m a b c d : Int} (h : n ≤ m) (hi : insB n a b c d = true) : insB m a b c d = true := by
 have ht : fldT n c = true → fldT m c = true := fun q => by unfold fldT at q ⊢; rw [decide_eq_true_eq] at q ⊢; omega
 unfold insB at hi ⊢
 split at hi
 ·rename_i q; rw [if_pos q]; exact hi
 ·rename_i q; rw [if_neg q]
  split at hi
  ·rename_i q; rw [if_pos q]; exact hi
  ·rename_i q; rw [if_neg q]
   split at hi
   ·rename_i q; rw [if_pos q]; exact hi
   ·rename_i q; rw [if_neg q]
    split at hi
    ·rename_i q; rw [if_pos q]; exact hi
    ·rename_i q; rw [if_neg q]
     split at hi
     ·rename_i q; rw [if_pos q]; rw [Bool.and_eq_true, Bool.and_eq_true] at hi ⊢; exact ⟨hi.1, ht hi.2.1, hi.2.2⟩
     ·rename_i q; rw [if_neg q]
      split at hi
      ·rename_i q; rw [if_pos q]; rw [Bool.and_eq_true, Bool.and_eq_true] at hi ⊢; exact ⟨hi.1, ht hi.2.1, hi.2.2⟩
      ·rename_i q; rw [if_neg q]; exact hi
theorem ite_flag {α : Type} (p : Prop) [Decidable p] (b : Bool) (f : Bool → α) : (if decide p = true then f true else f b) = f (b || decide p) := by
 by_cases h : p
 ·rw [decide_eq_true h, if_pos rfl, Bool.or_true]
 ·rw [decide_eq_false h, if_neg (by decide), Bool.or_false]
theorem uniS_l3 {P : List S38} (h : programOk P = true) (B : List Int) {i : Int} (hi : 0 ≤ i ∧ i < (P.length : Int)) (L : List Int) (hsub : ∀ v ∈ L, v ∈ nxB P i) (hL : L.length ≤ 40) : ∀ (d k : Nat) (S : List Int) (b : Bool) (j : Int), 0 ≤ j → (L.length : Int) - j = d → d + 50 < k → GoodS P.length S →
  spec_UniformAt.l3 k P S B b i L j = spec_UniformAt.l3 (k - d) P ((L.drop j.toNat).foldl (lose1 P i) S) B (b || decide ((L.drop j.toNat).foldl (lose1 P i) S ≠ S)) i L (L.length : Int) := by
 have hn := programOk_len h
 intro d
 induction d with
 | zero =>
  intro k S b j h0 hd hk hS
  rw [List.drop_of_length_le (by omega), show j = (L.length : Int) by omega, show k - 0 = k by omega]
  show _ = spec_UniformAt.l3 k P S B (b || decide (S ≠ S)) i L _
  rw [decide_eq_false (fun q => q rfl), Bool.or_false]
 | succ d ih =>
  intro k S b j h0 hd hk hS
  obtain ⟨k, rfl⟩ : ∃ q, k = q + 1 := ⟨k - 1, by omega⟩
  have hj : j < (L.length : Int) := by omega
  have hv := hsub _ (rd_mem h0 hj)
  have hl := hS.1
  have hok := programOk_at h hi.1 hi.2
  have hs := hS.2 i hi.1 hi.2
  have h1 := lose1_ok h hi _ hv S hS
  have h2 := fold_ok (L.drop (j + 1).toNat) (fun v hv => lose1_ok h hi v (hsub v (List.mem_of_mem_drop hv))) _ h1.1
  rw [spec_UniformAt.l3, if_pos hj, if_pos h0, if_pos hi.1, if_pos hi.2, if_pos (by omega), spec_UniformAfter_eq _ _ _ _ _ (by omega), bindS, if_pos ⟨hs.1, hs.2, insB_up (by omega) hok⟩]
  change (spec_l17Lose.f S (rd L j) (Go.bits .andNot .i64 15 (uaB P S i))).bind _ = _
  have hua : S4 (uaB P S i) := uniB_in hok hs
  rw [spec_lose_eq hS (co_ok hua) (nxB_in h hi.1 (by omega : i ≤ (P.length : Int)) _ hv).1, bindS]
  change (if decide (lose1 P i S (rd L j) ≠ S) = true then spec_UniformAt.l3 k P (lose1 P i S (rd L j)) B true i L (wrap64 (j + 1)) else spec_UniformAt.l3 k P (lose1 P i S (rd L j)) B b i L (wrap64 (j + 1))) = _
  rw [ite_flag (lose1 P i S (rd L j) ≠ S) b (fun c => spec_UniformAt.l3 k P (lose1 P i S (rd L j)) B c i L (wrap64 (j + 1))), w64 (by omega) (by omega), ih k _ _ (j + 1) (by omega) (by omega) (by omega) h1.1, drop_rd h0 hj, List.foldl_cons, ne_two hl h1.1.1 h2.1.1 h1.2 h2.2, show k + 1 - (d + 1) = k - d by omega]
theorem uniS_l4 {P : List S38} (B : List Int) {W : Int} (hW : S4 W) {i : Int} (L : List Int) (hl : ∀ v ∈ L, 0 ≤ v) (hL : L.length ≤ 40) : ∀ (d k : Nat) (S : List Int) (b : Bool) (j : Int), 0 ≤ j → (L.length : Int) - j = d → d < k → GoodS P.length S →
  spec_UniformAt.l4 k P S B b i L W j = spec_UniformAt.l4 (k - d) P ((L.drop j.toNat).foldl (loseB W) S) B (b || decide ((L.drop j.toNat).foldl (loseB W) S ≠ S)) i L W (L.length : Int) := by
 intro d
 induction d with
 | zero =>
  intro k S b j h0 hd hk hS
  rw [List.drop_of_length_le (by omega), show j = (L.length : Int) by omega, show k - 0 = k by omega]
  show _ = spec_UniformAt.l4 k P S B (b || decide (S ≠ S)) i L W _
  rw [decide_eq_false (fun q => q rfl), Bool.or_false]
 | succ d ih =>
  intro k S b j h0 hd hk hS
  obtain ⟨k, rfl⟩ : ∃ q, k = q + 1 := ⟨k - 1, by omega⟩
  have hj : j < (L.length : Int) := by omega
  have hv := hl _ (rd_mem h0 hj)
  have h1 := loseB_ok hS hW hv
  have h2 := fold_ok (L.drop (j + 1).toNat) (fun v hv S hS => loseB_ok hS hW (hl v (List.mem_of_mem_drop hv))) _ h1.1
  rw [spec_UniformAt.l4, if_pos hj, if_pos h0, spec_lose_eq hS hW hv, bindS]
  change (if decide (loseB W S (rd L j) ≠ S) = true then spec_UniformAt.l4 k P (loseB W S (rd L j)) B true i L W (wrap64 (j + 1)) else spec_UniformAt.l4 k P (loseB W S (rd L j)) B b i L W (wrap64 (j + 1))) = _
  rw [ite_flag (loseB W S (rd L j) ≠ S) b (fun c => spec_UniformAt.l4 k P (loseB W S (rd L j)) B c i L W (wrap64 (j + 1))), w64 (by omega) (by omega), ih k _ _ (j + 1) (by omega) (by omega) (by omega) h1.1, drop_rd h0 hj, List.foldl_cons, ne_two hS.1 h1.1.1 h2.1.1 h1.2 h2.2, show k + 1 - (d + 1) = k - d by omega]
theorem uniS_node {P : List S38} (h : programOk P = true) {i : Int} (hi : 0 ≤ i ∧ i < (P.length : Int)) {S : List Int} (hS : GoodS P.length S) (b : Bool) {k : Nat} (hk : 3000 ≤ k) :
  ∃ k', k ≤ k' + 60 ∧ spec_UniformAt.l2 k P S (branchesL P) b i = spec_UniformAt.l2 k' P (refB P S i) (branchesL P) (b || decide (refB P S i ≠ S)) (i + 1) := by
 have hn := programOk_len h
 have hl := hS.1
 have hn2 := nxB_len P i
 have h1 := ref1_ok h hi hS
 have h2 := ref2_ok h (i := i) h1.1
 have hl1 := h1.1.1
 have hbl := (brL_len P).1
 obtain ⟨k, rfl⟩ : ∃ q, k = q + 1 := ⟨k - 1, by omega⟩
 rw [spec_UniformAt.l2, if_pos hi.2, spec_next_eq h hi.1 (by omega) (by omega), bindS, uniS_l3 h _ hi (nxB P i) (fun _ q => q) (by omega) (nxB P i).length k S b 0 (by omega) (by omega) (by omega) hS, Int.toNat_zero, List.drop_zero]
 change ∃ k', _ ∧ spec_UniformAt.l3 (k - (nxB P i).length) P (ref1 P S i) (branchesL P) (b || decide (ref1 P S i ≠ S)) i _ _ = _
 obtain ⟨q, hq⟩ : ∃ q, k - (nxB P i).length = q + 2 := ⟨k - (nxB P i).length - 2, by omega⟩
 rw [hq, show q + 2 = (q + 1) + 1 from rfl, spec_UniformAt.l3, if_neg (by omega), spec_has_eq (by omega) i (by omega), bindS]
 by_cases hb : (branchesL P).contains i = true
 ·have hbm := List.contains_iff_mem.1 hb
  have hr := branch_reg hbm
  rw [if_pos hb, if_pos hi.1, if_pos (by omega), if_pos hi.2, if_pos hr.1]
  change ∃ k', _ ∧ spec_UniformAt.j4 (q + 1) P (ref1 P S i) (branchesL P) _ i (onB (rd (ref1 P S i) i) (rd_T38 P i).f1) = _
  cases ho : onB (rd (ref1 P S i) i) (rd_T38 P i).f1
  ·have hil := insideL_len P i
   have hii := fun v hv => (insideL_in hbm v hv).1
   have hji := joinB_in hbm
   have hW := writtenB_in h _ hii
   have h3 := fold_ok (insideL P i) (fun v hv S hS => loseB_ok hS hW (hii v hv)) _ h1.1
   have h4 := loseB_ok h3.1 hW hji.1
   have e2 : refB P S i = loseB (writtenB P (insideL P i)) ((insideL P i).foldl (loseB (writtenB P (insideL P i))) (ref1 P S i)) (joinB P i) := by
    unfold refB ref2
    rw [if_pos ⟨hb, ho⟩, List.foldl_append]; rfl
   rw [spec_UniformAt.j4, if_neg (by decide), spec_InsideOf_eq (by omega) i (by omega), bindS, spec_writtenIn_eq h hii (by omega) (by omega), bindS, uniS_l4 _ hW (insideL P i) hii (by omega) (insideL P i).length q _ _ 0 (by omega) (by omega) (by omega) h1.1, Int.toNat_zero, List.drop_zero]
   obtain ⟨p, hp⟩ : ∃ p, q - (insideL P i).length = p + 1 := ⟨q - (insideL P i).length - 1, by omega⟩
   rw [hp, spec_UniformAt.l4, if_neg (by omega), spec_Join_eq (by omega) hbm (by omega), bindS, spec_lose_eq h3.1 hW hji.1, bindS]
   rw [← e2] at h4 ⊢
   refine ⟨p, by omega, ?_⟩
   change (if decide (refB P S i ≠ (insideL P i).foldl (loseB (writtenB P (insideL P i))) (ref1 P S i)) = true then spec_UniformAt.l2 p P (refB P S i) (branchesL P) true (wrap64 (i + 1)) else spec_UniformAt.l2 p P (refB P S i) (branchesL P) _ (wrap64 (i + 1))) = _
   rw [ite_flag _ _ (fun c => spec_UniformAt.l2 p P (refB P S i) (branchesL P) c (wrap64 (i + 1))), w64 (by omega) (by omega), ne_two h1.1.1 h3.1.1 h4.1.1 h3.2 h4.2, ne_two hl h1.1.1 h4.1.1 h1.2 (h4.2.trans h3.2)]
  ·have e2 : refB P S i = ref1 P S i := by
    unfold refB ref2
    rw [if_neg (by rw [ho]; exact fun q => absurd q.2 (by decide))]
   rw [spec_UniformAt.j4, if_pos rfl, w64 (by omega) (by omega), ← e2]
   exact ⟨_, by omega, rfl⟩
 ·have e2 : refB P S i = ref1 P S i := by
   unfold refB ref2
   rw [if_neg (fun q => hb q.1)]
  rw [if_neg hb, spec_UniformAt.j4, if_pos rfl, w64 (by omega) (by omega), ← e2]
  exact ⟨_, by omega, rfl⟩
theorem uniS_nodes {P : List S38} (h : programOk P = true) : ∀ (d k : Nat) (i : Int) (S : List Int) (b : Bool), 0 ≤ i → (P.length : Int) - i = d → 60 * d + 3000 ≤ k → GoodS P.length S →
  ∃ k', k ≤ k' + 60 * d ∧ spec_UniformAt.l2 k P S (branchesL P) b i = spec_UniformAt.l2 k' P ((ups d i).foldl (refB P) S) (branchesL P) (b || decide ((ups d i).foldl (refB P) S ≠ S)) (P.length : Int) := by
 intro d
 induction d with
 | zero =>
  intro k i S b h0 hd hk hS
  obtain rfl : i = (P.length : Int) := by omega
  refine ⟨k, by omega, ?_⟩
  show _ = spec_UniformAt.l2 k P S (branchesL P) (b || decide (S ≠ S)) _
  rw [decide_eq_false (fun q => q rfl), Bool.or_false]
 | succ d ih =>
  intro k i S b h0 hd hk hS
  obtain ⟨k1, e1, h1⟩ := uniS_node h (i := i) ⟨h0, by omega⟩ hS b (k := k) (by omega)
  have hg := refB_ok h i (ups_mem_of _ _ _ h0 (by omega)) S hS
  obtain ⟨k2, e2, h2⟩ := ih k1 (i + 1) (refB P S i) (b || decide (refB P S i ≠ S)) (by omega) (by omega) (by omega) hg.1
  have hf := fold_ok (ups d (i + 1)) (fun v hv => refB_ok h v (by have := ups_mem _ _ _ hv; exact ups_mem_of _ _ _ (by omega) (by omega))) _ hg.1
  exact ⟨k2, by omega, by rw [h1, h2, ups, List.foldl_cons, ne_two hS.1 hg.1.1 hf.1.1 hg.2 hf.2]⟩
theorem uniS_loop {P : List S38} (h : programOk P = true) : ∀ (q : Nat) (S : List Int), GoodS P.length S → sumS S ≤ (q : Int) → ∀ k : Nat, fuelU q + 5000 ≤ k →
  ∃ F, spec_UniformAt.l1 k P S (branchesL P) true = some F ∧ GoodS P.length F ∧ refR P F = F ∧ ∀ I : List Int → Prop, (∀ S, GoodS P.length S → I S → I (refR P S)) → I S → I F := by
 have hn := programOk_len h
 intro q
 induction q with
 | zero =>
  intro S hS hq k hk
  replace hk : 7700 ≤ k := by rw [fuelU] at hk; omega
  have hr := refR_ok h hS
  have e : refR P S = S := by
   have a := hr.1.sum
   have b := hS.sum
   have c := LeS.sum hr.1.1 hS.1 hr.2
   exact c.2 (by omega)
  obtain ⟨k, rfl⟩ : ∃ q, k = q + 1 := ⟨k - 1, by omega⟩
  obtain ⟨k1, e1, h1⟩ := uniS_nodes h P.length k 0 S false (by omega) (by omega) (by omega) hS
  obtain ⟨k1, rfl⟩ : ∃ q, k1 = q + 2 := ⟨k1 - 2, by omega⟩
  refine ⟨S, ?_, hS, e, fun I _ hI => hI⟩
  unfold refR at e
  rw [spec_UniformAt.l1, if_pos rfl, h1, e, decide_eq_false (fun q => q rfl), spec_UniformAt.l2, if_neg (by omega), spec_UniformAt.l1, if_neg (by decide)]
 | succ q ih =>
  intro S hS hq k hk
  replace hk : fuelU q + 2100 + 5000 ≤ k := by rw [fuelU] at hk; exact hk
  generalize fuelU q = fu at hk ih
  have hr := refR_ok h hS
  obtain ⟨k, rfl⟩ : ∃ q, k = q + 1 := ⟨k - 1, by omega⟩
  obtain ⟨k1, e1, h1⟩ := uniS_nodes h P.length k 0 S false (by omega) (by omega) (by omega) hS
  obtain ⟨k1, rfl⟩ : ∃ q, k1 = q + 2 := ⟨k1 - 2, by omega⟩
  have hk1 : fu + 5000 ≤ k1 + 1 := by clear h1 hr ih; omega
  have hq1 : sumS (refR P S) ≤ sumS S → sumS (refR P S) ≠ sumS S → sumS (refR P S) ≤ (q : Int) := by
   generalize sumS (refR P S) = x
   generalize sumS S = y at hq ⊢
   clear h1 hr ih hk1
   intro p r
   omega
  have start : spec_UniformAt.l1 (k + 1) P S (branchesL P) true = spec_UniformAt.l1 (k1 + 1) P (refR P S) (branchesL P) (false || decide (refR P S ≠ S)) := by
   rw [spec_UniformAt.l1, if_pos rfl, h1, spec_UniformAt.l2, if_neg (by omega)]; rfl
  by_cases e : refR P S = S
  ·refine ⟨S, ?_, hS, e, fun I _ hI => hI⟩
   rw [start, e, decide_eq_false (fun q => q rfl), spec_UniformAt.l1, if_neg (by decide)]
  ·have c := LeS.sum hr.1.1 hS.1 hr.2
   have c2 : sumS (refR P S) ≠ sumS S := fun x => e (c.2 x)
   obtain ⟨F, f1, f2, f3, f4⟩ := ih (refR P S) hr.1 (hq1 c.1 c2) (k1 + 1) hk1
   refine ⟨F, ?_, f2, f3, fun I hI hs => f4 I hI (hI S hS hs)⟩
   rw [start, decide_eq_true e]
   exact f1
theorem uniS_fill {P : List S38} (hn : P.length ≤ 32) : ∀ (d k : Nat) (i : Nat), i + d = P.length → d + 200 ≤ k →
  spec_UniformAt.l0 k P (List.replicate i 15) (i : Int) = spec_UniformAt.l1 (k - d - 1) P (List.replicate P.length 15) (branchesL P) true := by
 intro d
 induction d with
 | zero =>
  intro k i hd hk
  obtain ⟨k, rfl⟩ : ∃ q, k = q + 1 := ⟨k - 1, by omega⟩
  obtain rfl : i = P.length := by omega
  rw [spec_UniformAt.l0, if_neg (by omega), spec_BranchesOf_eq (by omega) (by omega), bindS, show k + 1 - 0 - 1 = k by omega]
 | succ d ih =>
  intro k i hd hk
  obtain ⟨k, rfl⟩ : ∃ q, k = q + 1 := ⟨k - 1, by omega⟩
  rw [spec_UniformAt.l0, if_pos (by omega), if_pos (by rw [List.length_replicate]; omega), w64 (by omega) (by omega)]
  have e : List.replicate i (15 : Int) ++ [15] = List.replicate (i + 1) 15 := by rw [List.replicate_succ']
  rw [e]
  have := ih k (i + 1) (by omega) (by omega)
  rw [show ((i : Int) + 1) = ((i + 1 : Nat) : Int) by omega, this, show k + 1 - (d + 1) - 1 = k - d - 1 by omega]
theorem allOnS (n : Nat) : GoodS n (List.replicate n (15 : Int)) := by
 refine ⟨by simp, fun v h0 h1 => ?_⟩
 have : rd (List.replicate n (15 : Int)) v = 15 := by
  unfold rd
  rw [List.getD_eq_getElem?_getD, List.getElem?_replicate, if_pos (by omega)]; rfl
 rw [this]; exact ⟨by omega, by omega⟩
theorem spec_UniformAt_ok {P : List S38} (hq : quietOk P = true) : ∃ F, (∀ k : Nat, 1060000 ≤ k → spec_UniformAt.f k P = some F) ∧ GoodS P.length F ∧ refR P F = F ∧ ∀ I : List Int → Prop, (∀ S, GoodS P.length S → I S → I (refR P S)) → I (List.replicate P.length 15) → I F := by
 have h : programOk P = true := by unfold quietOk at hq; rw [Bool.and_eq_true] at hq; exact hq.1
 have hn := programOk_len h
 have hs := (allOnS P.length).sum
 obtain ⟨F, f1, f2⟩ := uniS_loop h 480 _ (allOnS P.length) (by omega) (1060000 - P.length - 1) (by rw [fuelU_eq]; omega)
 refine ⟨F, fun k hk => ?_, f2⟩
 have key : spec_UniformAt.l0 1060000 P [] 0 = some F := by
  have := uniS_fill hn P.length 1060000 0 (by omega) (by omega)
  rw [f1] at this
  exact this
 unfold spec_UniformAt.f
 rw [spec_quiet_eq (by omega) (by omega), hq, bindS, if_pos rfl]
 exact at_rounds (g := fun k => spec_UniformAt.l0 k P [] 0) (fun k => (spec_UniformAt.mono_l k).1 P _ _) hk key
theorem uniform_both {P : List S38} (hP : P.length ≤ 1048576) : ∃ G, G.length ≤ 32 ∧ (quietOk P = true → GoodS P.length G) ∧ ∀ k : Nat, 1060000 + 2 * P.length ≤ k → impl_UniformAt.f k P = some G ∧ spec_UniformAt.f k P = some G := by
 by_cases hq : quietOk P = true
 ·have h : programOk P = true := by unfold quietOk at hq; rw [Bool.and_eq_true] at hq; exact hq.1
  have hn := programOk_len h
  obtain ⟨F, f1, f2, f3, f4⟩ := impl_UniformAt_ok hq
  obtain ⟨G, g1, g2, g3, g4⟩ := spec_UniformAt_ok hq
  have fl := f2.1
  have hrd : ∀ v : Int, 0 ≤ v → v < (P.length : Int) → rd (F.take P.length) v = rd F v := fun v h0 h1 => by
   unfold rd
   rw [List.getD_eq_getElem?_getD, List.getD_eq_getElem?_getD, List.getElem?_take, if_pos (by omega)]
  have sG := ref_fix h g2 g3
  have sF : Sol P P.length F := fun i h0 h1 => ⟨fun v hv _ => (round_fix h f2 f3 ⟨h0, h1⟩).1 v hv, fun hb ho v hv _ => (round_fix h f2 f3 ⟨h0, h1⟩).2 hb ho v hv⟩
  have F4 : ∀ u : Int, 0 ≤ u → u < (P.length : Int) → S4 (rd F u) := fun u h0 h1 => f2.2 u h0 (by omega)
  have le15 : ∀ f : Fin 16, leB (f.val : Int) 15 = true := by decide +kernel
  have top : ∀ (n : Nat) (u : Int), 0 ≤ u → u < (n : Int) → rd (List.replicate n (15 : Int)) u = 15 := fun n u h0 h1 => by
   unfold rd
   rw [List.getD_eq_getElem?_getD, List.getElem?_replicate, if_pos (by omega)]; rfl
  have pGF : PartS P.length G F := f4 (PartS P.length G) (fun S hS hp => part_roundB h g2 sG hS hp) (fun u h0 h1 => by
   rw [top _ u h0 (by omega)]
   obtain ⟨f, e⟩ := fin16 (g2.2 u h0 h1)
   rw [← e]; exact le15 f)
  have pFG : PartS P.length F G := g4 (PartS P.length F) (fun S hS hp => part_refR h F4 sF hS hp) (fun u h0 h1 => by
   rw [top _ u h0 h1]
   obtain ⟨f, e⟩ := fin16 (F4 u h0 h1)
   rw [← e]; exact le15 f)
  have e : F.take P.length = G := eq_rd (m := P.length) (by rw [List.length_take]; omega) g2.1 fun v h0 h1 => by
   rw [hrd v h0 h1]
   exact le_anti (F4 v h0 h1) (g2.2 v h0 h1) (pFG v h0 h1) (pGF v h0 h1)
  refine ⟨G, by rw [g2.1]; exact hn, fun _ => g2, fun k hk => ⟨?_, g1 k (by omega)⟩⟩
  rw [f1 k (by omega), e]
 ·have hq : quietOk P = false := by simpa using hq
  refine ⟨[], by simp, fun e => absurd e (by rw [hq]; decide), fun k hk => ⟨?_, ?_⟩⟩
  ·unfold impl_UniformAt.f
   rw [impl_quiet_eq, hq, bindS, if_neg (by decide)]
  ·unfold spec_UniformAt.f
   rw [spec_quiet_eq (by omega) (by omega), hq, bindS, if_neg (by decide)]
theorem may_fun {P : List S38} (hP : P.length ≤ 1048576) : ∃ f : Int → Bool, (quietOk P = false → ∀ b, f b = false) ∧ ∀ (b : Int) (k : Nat), 1060000 + 2 * P.length + 200 ≤ k → impl_MaySplit.f k P b = some (f b) ∧ spec_MaySplit.f k P b = some (f b) := by
 obtain ⟨G, hG, hgood, hboth⟩ := uniform_both hP
 refine ⟨fun b => quietOk P && ((branchesL P).contains b && ((Go.bits .and .i64 (shr .i64 (rd G b) ((rd_T38 P b).f1)) 1) == 0)), fun h b => by dsimp only; rw [h, Bool.false_and], fun b k hk => ?_⟩
 dsimp only
 constructor
 ·unfold impl_MaySplit.f
  rw [impl_quiet_eq, bindS]
  cases hq : quietOk P
  ·rw [if_neg (by decide), Bool.false_and]
  ·rw [if_pos rfl, impl_isBranch_eq hP b (by omega), bindS, Bool.true_and]
   cases hb : (branchesL P).contains b
   ·rw [if_neg (by decide), Bool.false_and]
   ·have hbm := List.contains_iff_mem.1 hb
    obtain ⟨_, b0, b1, _⟩ := brL_mem.1 hbm
    have hl := (hgood hq).1
    have hr := branch_reg hbm
    rw [if_pos rfl, (hboth k (by omega)).1, bindS, if_pos b0, if_pos (by omega), if_pos b1, if_pos hr.1, Bool.true_and]
 ·have hbl := (brL_len P).1
  unfold spec_MaySplit.f
  rw [spec_quiet_eq hP (by omega), bindS]
  cases hq : quietOk P
  ·rw [if_neg (by decide), Bool.false_and]
  ·rw [if_pos rfl, spec_BranchesOf_eq hP (by omega), bindS, spec_has_eq (by omega) b (by omega), bindS, Bool.true_and]
   cases hb : (branchesL P).contains b
   ·rw [if_neg (by decide), Bool.false_and]
   ·have hbm := List.contains_iff_mem.1 hb
    obtain ⟨_, b0, b1, _⟩ := brL_mem.1 hbm
    have hl := (hgood hq).1
    have hr := branch_reg hbm
    rw [if_pos rfl, (hboth k (by omega)).2, bindS, if_pos b0, if_pos (by omega), if_pos b1, if_pos hr.1, Bool.true_and]
theorem never_l0 {P : List S38} (hP : P.length ≤ 1048576) (f : Int → Bool) (hf : ∀ (b : Int) (k : Nat), 1060000 + 2 * P.length + 200 ≤ k → impl_MaySplit.f k P b = some (f b) ∧ spec_MaySplit.f k P b = some (f b)) (L : List Int) (hL : L.length ≤ 1048576) : ∀ (d k : Nat) (j : Int), 0 ≤ j → (L.length : Int) - j = d → d + 1060000 + 2 * P.length + 210 ≤ k →
  spec_NeverSplits.l0 k P L j = some (if (L.drop j.toNat).any f = true then false else quietOk P) := by
 intro d
 induction d with
 | zero =>
  intro k j h0 hd hk
  obtain ⟨k, rfl⟩ : ∃ q, k = q + 1 := ⟨k - 1, by omega⟩
  rw [spec_NeverSplits.l0, if_neg (by omega), spec_quiet_eq hP (by omega), bindS, List.drop_of_length_le (by omega)]; rfl
 | succ d ih =>
  intro k j h0 hd hk
  obtain ⟨k, rfl⟩ : ∃ q, k = q + 1 := ⟨k - 1, by omega⟩
  have hj : j < (L.length : Int) := by omega
  rw [spec_NeverSplits.l0, if_pos hj, if_pos h0, (hf (rd L j) k (by omega)).2, bindS, w64 (by omega) (by omega), ih k (j + 1) (by omega) (by omega) (by omega), drop_rd h0 hj, List.any_cons]
  cases f (rd L j)
  ·rw [if_neg (by decide), Bool.false_or]
  ·rw [if_pos rfl, Bool.true_or, if_pos rfl]
theorem never_both {P : List S38} (hP : P.length ≤ 1048576) {k : Nat} (hk : 1060000 + 4 * P.length + 500 ≤ k) : ∃ v, impl_NeverSplits.f k P = some v ∧ spec_NeverSplits.f k P = some v := by
 obtain ⟨f, hno, hf⟩ := may_fun hP
 have hbl := (brL_len P).1
 refine ⟨if (branchesL P).any f = true then false else quietOk P, ?_, ?_⟩
 ·unfold impl_NeverSplits.f
  rw [impl_quiet_eq, bindS]
  cases hq : quietOk P
  ·rw [if_neg (by decide)]
   have : (branchesL P).any f = false := by
    rw [List.any_eq_false]
    intro b _
    rw [hno hq b]; decide
   rw [this]; rfl
  ·have hm : ∀ b, mayAt k P b = f b := fun b => by
    unfold mayAt
    rw [(hf b k (by omega)).1]
    cases f b <;> rfl
   rw [if_pos rfl, impl_BranchesOf_eq P (by omega), bindS]
   unfold neverF
   rw [if_pos (by rw [List.all_eq_true]; intro b _; rw [(hf b k (by omega)).1]; rfl), show mayAt k P = f from funext hm]
   cases (branchesL P).any f <;> rfl
 ·unfold spec_NeverSplits.f
  rw [spec_BranchesOf_eq hP (by omega), bindS, never_l0 hP f hf (branchesL P) (by omega) (branchesL P).length k 0 (by omega) (by omega) (by omega), Int.toNat_zero, List.drop_zero]

theorem FnExactNeverSplits : laws_FnExactNeverSplits.Pure := by
 intro l hl
 unfold maxLen at hl
 by_cases h : left 1048576 l.length < 0
 ·exact ⟨0, by unfold laws_FnExactNeverSplits.f; rw [szInsS_eq l (by omega) (by omega) (by omega), bindS, if_pos h]⟩
 have h' := left_ok (by omega) (by omega) h
 have hm : (l.map cvI).length = l.length := List.length_map ..
 have key : ∀ K, 1060000 + 4 * l.length + 500 ≤ K → laws_FnExactNeverSplits.f K l = some true := by
  intro K hK
  have t1 : laws_toInsS.f K l = some (l.map cvI) := toInsS_eq h'.2.2 (by omega)
  obtain ⟨v, b1, b2⟩ := never_both (P := l.map cvI) (k := K) (by omega) (by omega)
  have e1 : laws_eqInsS.f K (l.map cvI) (l.map cvI) = some true := eqInsS_self (by omega) (by omega)
  unfold laws_FnExactNeverSplits.f
  rw [szInsS_eq l (by omega) (by omega) (by omega), bindS, if_neg h, t1, bindS, b2, bindS, bindS, b1, bindS, bne_self_eq_false, if_neg (by decide), bindS, e1, bindS, if_pos rfl]
 exact ⟨_, key _ (Nat.le_refl _)⟩

end Go.Proofs.YtdppehpcpofeoaaGreat.Pure
