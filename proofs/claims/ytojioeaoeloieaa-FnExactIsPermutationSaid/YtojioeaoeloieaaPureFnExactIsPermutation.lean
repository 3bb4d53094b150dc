/-
  The program's IsPermutation returns what the reference's returns, for all arguments.
  No condition.
-/
import Derived.Test.YtojioeaoeloieaaPFnExactIsPermutationx1
namespace Go.Proofs.Ytojioeaoeloieaa.Pure
open Go.RowKit Go.Proofs.Ytojioeaoeloieaa.PFnExactIsPermutation Go.Proofs.YtojioeaoeloieaaW.PrintWords Go.Proofs.YtojioeaoeloieaaW.PrintLast Go.Proofs.YtojioeaoeloieaaW.PrintMore
set_option linter.unusedVariables false
set_option linter.unusedSimpArgs false

theorem w64 {x : Int} (h0 : -9223372036854775808 ≤ x) (h1 : x < 9223372036854775808) : wrap64 x = x := by unfold wrap64; omega
theorem drop_rd {l : List Int} {i : Int} (h0 : 0 ≤ i) (h1 : i < (l.length : Int)) : l.drop i.toNat = rd l i :: l.drop (i + 1).toNat := by
  have hi : i.toNat < l.length := by omega
  rw [show (i + 1).toNat = i.toNat + 1 by omega, List.drop_eq_getElem_cons hi]
  congr 1
  unfold rd
  rw [List.getD_eq_getElem?_getD, List.getElem?_eq_getElem hi]; rfl
theorem rd_mem {l : List Int} {i : Int} (h0 : 0 ≤ i) (h1 : i < (l.length : Int)) : rd l i ∈ l := by
  have hi : i.toNat < l.length := by omega
  unfold rd
  rw [List.getD_eq_getElem?_getD, List.getElem?_eq_getElem hi]
  exact List.getElem_mem hi
theorem take_set_succ {α : Type} {l x : List α} {i : Nat} (v : α) (hl : i < l.length) (hx : i < x.length) (h : x.take i = l.take i) (hv : l[i]'hl = v) : (x.set i v).take (i + 1) = l.take (i + 1) := by
  rw [List.take_succ_eq_append_getElem (by simpa using hx), List.take_succ_eq_append_getElem hl, List.take_set_of_le (Nat.le_refl i), h]
  simp [hv]
theorem rd_get {l : List Int} {i : Int} (h0 : 0 ≤ i) (h1 : i.toNat < l.length) : l[i.toNat]'h1 = rd l i := by
  unfold rd
  rw [List.getD_eq_getElem?_getD, List.getElem?_eq_getElem h1]; rfl
theorem need {p : Prop} (h : p) : p := h
theorem within_some (x a b : Int) : impl_within.f x a b = some (decide (a ≤ x ∧ x ≤ b)) := by
  unfold impl_within.f
  by_cases h : a ≤ x
  · rw [if_pos h]; simp [h]
  · rw [if_neg h]; simp [h]
theorem in_some (x a b : Int) : spec_l01In.f x a b = some (decide (a ≤ x ∧ x ≤ b)) := by
  unfold spec_l01In.f
  by_cases h : a ≤ x
  · rw [if_pos h]; simp [h]
  · rw [if_neg h]; simp [h]
theorem toIntS_l0 (l : List Int) (hl : l.length ≤ 1048576) : ∀ (d k : Nat) (x : List Int) (i : Int), 0 ≤ i → (l.length : Int) - i = d → d < k → x.length = l.length → x.take i.toNat = l.take i.toNat →
    laws_toIntS.l0 k l x i = some l := by
  intro d
  induction d with
  | zero =>
    intro k x i h0 hd hk hx ht
    obtain ⟨k, rfl⟩ : ∃ q, k = q + 1 := ⟨k - 1, by omega⟩
    simp only [laws_toIntS.l0]
    rw [if_neg (by omega)]
    rw [List.take_of_length_le (by omega), List.take_of_length_le (by omega)] at ht
    rw [ht]
  | succ d ih =>
    intro k x i h0 hd hk hx ht
    obtain ⟨k, rfl⟩ : ∃ q, k = q + 1 := ⟨k - 1, by omega⟩
    simp only [laws_toIntS.l0]
    rw [if_pos (by omega), if_pos h0, if_pos (by omega), w64 (by omega) (by omega)]
    refine ih k _ (i + 1) (by omega) (by omega) (by omega) (by simpa using hx) ?_
    rw [show (i + 1).toNat = i.toNat + 1 by omega]
    exact take_set_succ _ (by omega) (by omega) ht (rd_get h0 _)
theorem toIntS_eq {k : Nat} {l : List Int} (hl : l.length ≤ 1048576) (hk : l.length < k) : laws_toIntS.f k l = some l := by
  unfold laws_toIntS.f
  rw [if_pos (by omega), if_pos (by omega)]
  exact toIntS_l0 l hl l.length k _ 0 (by omega) (by omega) hk (by simp) (by simp)
theorem eqIntS_l0 (a b : List Int) (hab : a.length = b.length) (ha : a.length ≤ 9223372036854775807) : ∀ (d k : Nat) (i : Int), 0 ≤ i → (a.length : Int) - i = d → d < k →
    laws_eqIntS.l0 k a b i = some (decide (a.drop i.toNat = b.drop i.toNat)) := by
  intro d
  induction d with
  | zero =>
    intro k i h0 hd hk
    obtain ⟨k, rfl⟩ : ∃ q, k = q + 1 := ⟨k - 1, by omega⟩
    simp only [laws_eqIntS.l0]
    rw [if_neg (by omega), List.drop_of_length_le (by omega), List.drop_of_length_le (by omega)]
    simp
  | succ d ih =>
    intro k i h0 hd hk
    obtain ⟨k, rfl⟩ : ∃ q, k = q + 1 := ⟨k - 1, by omega⟩
    simp only [laws_eqIntS.l0]
    rw [if_pos (by omega), if_pos h0, if_pos (by omega), w64 (by omega) (by omega), drop_rd h0 (by omega), drop_rd (l := b) h0 (by omega)]
    by_cases h : rd a i = rd b i
    · rw [if_pos h, ih k (i + 1) (by omega) (by omega) (by omega)]
      simp [h]
    · rw [if_neg h]; simp [h]
theorem eqIntS_eq {k : Nat} {a b : List Int} (ha : a.length ≤ 9223372036854775807) (hk : a.length < k) : laws_eqIntS.f k a b = some (decide (a = b)) := by
  unfold laws_eqIntS.f
  by_cases h : a.length = b.length
  · rw [if_pos (by omega), eqIntS_l0 a b h ha a.length k 0 (by omega) (by omega) hk]; simp
  · rw [if_neg (by omega)]
    have : a ≠ b := fun e => h (by rw [e])
    simp [this]
theorem eqIntS_self {k : Nat} {a : List Int} (ha : a.length ≤ 9223372036854775807) (hk : a.length < k) : laws_eqIntS.f k a a = some true := by
  rw [eqIntS_eq ha hk]; simp
def inLane (x : Int) : Bool := decide (0 ≤ x ∧ x ≤ 7)
def orAll (m : Int) (l : List Int) : Int := l.foldl (fun m x => Go.bits .or .i64 m (shl .i64 1 x)) m
theorem spec_maskOf_l0 (l : List Int) (hl : l.length ≤ 1048576) : ∀ (d k : Nat) (m i : Int), 0 ≤ i → (l.length : Int) - i = d → d < k →
    spec_MaskOf.l0 k l m i = some (if (l.drop i.toNat).all inLane = true then (orAll m (l.drop i.toNat), true) else (0, false)) := by
  intro d
  induction d with
  | zero =>
    intro k m i h0 hd hk
    obtain ⟨k, rfl⟩ : ∃ q, k = q + 1 := ⟨k - 1, by omega⟩
    simp only [spec_MaskOf.l0]
    rw [if_neg (by omega), List.drop_of_length_le (by omega)]
    simp [orAll]
  | succ d ih =>
    intro k m i h0 hd hk
    obtain ⟨k, rfl⟩ : ∃ q, k = q + 1 := ⟨k - 1, by omega⟩
    simp only [spec_MaskOf.l0, in_some, Option.bind_some]
    rw [if_pos (by omega), if_pos h0, w64 (by omega) (by omega), drop_rd h0 (by omega)]
    by_cases h : 0 ≤ rd l i ∧ rd l i ≤ 7
    · rw [if_pos (by simpa using h), if_pos h.1, ih k _ (i + 1) (by omega) (by omega) (by omega)]
      have : inLane (rd l i) = true := by simpa [inLane] using h
      simp [this, orAll]
    · rw [if_neg (by simpa using h)]
      have : inLane (rd l i) = false := by simpa [inLane] using h
      simp [this]
theorem spec_maskOf_eq {k : Nat} {l : List Int} (hl : l.length ≤ 1048576) (hk : l.length < k) : spec_MaskOf.f k l = some (if l.all inLane = true then (orAll 0 l, true) else (0, false)) := by
  unfold spec_MaskOf.f
  rw [spec_maskOf_l0 l hl l.length k 0 0 (by omega) (by omega) hk, Int.toNat_zero, List.drop_zero]
theorem impl_maskOf_l0 (l : List Int) (hl : l.length ≤ 1048576) : ∀ (d k : Nat) (m i : Int), 0 ≤ i → (l.length : Int) - i = d → d < k →
    impl_MaskOf.l0 k m l (l.length : Int) i = some (if (l.drop i.toNat).all inLane = true then (orAll m (l.drop i.toNat), true) else (0, false)) := by
  intro d
  induction d with
  | zero =>
    intro k m i h0 hd hk
    obtain ⟨k, rfl⟩ : ∃ q, k = q + 1 := ⟨k - 1, by omega⟩
    simp only [impl_MaskOf.l0]
    rw [if_neg (by omega), List.drop_of_length_le (by omega)]
    simp [orAll]
  | succ d ih =>
    intro k m i h0 hd hk
    obtain ⟨k, rfl⟩ : ∃ q, k = q + 1 := ⟨k - 1, by omega⟩
    simp only [impl_MaskOf.l0, impl_isLane.f, within_some, Option.bind_some]
    rw [if_pos (by omega), if_pos h0, if_pos (by omega), w64 (by omega) (by omega), drop_rd h0 (by omega)]
    by_cases h : 0 ≤ rd l i ∧ rd l i ≤ 7
    · rw [if_pos (by simpa using h), if_pos h.1, ih k _ (i + 1) (by omega) (by omega) (by omega)]
      have : inLane (rd l i) = true := by simpa [inLane] using h
      simp [this, orAll]
    · rw [if_neg (by simpa using h)]
      have : inLane (rd l i) = false := by simpa [inLane] using h
      simp [this]
theorem impl_maskOf_eq {k : Nat} {l : List Int} (hl : l.length ≤ 1048576) (hk : l.length < k) : impl_MaskOf.f k l = some (if l.all inLane = true then (orAll 0 l, true) else (0, false)) := by
  unfold impl_MaskOf.f
  rw [impl_maskOf_l0 l hl l.length k 0 0 (by omega) (by omega) hk, Int.toNat_zero, List.drop_zero]
def isPerm (l : List Int) : Bool := l.all inLane && decide (l.length = 8) && (orAll 0 l == 255)
theorem spec_isPerm_eq {k : Nat} {l : List Int} (hl : l.length ≤ 1048576) (hk : l.length < k) : spec_IsPermutation.f k l = some (isPerm l) := by
  unfold spec_IsPermutation.f isPerm
  rw [spec_maskOf_eq hl hk]; simp only [Option.bind_some]
  by_cases h : l.all inLane = true
  · rw [if_pos h, if_pos rfl]
    by_cases h8 : l.length = 8
    · rw [if_pos (by omega)]; simp [h, h8]
    · rw [if_neg (by omega)]; simp [h8]
  · rw [if_neg h, if_neg (by simp)]; simp [h]
theorem impl_isPerm_eq {k : Nat} {l : List Int} (hl : l.length ≤ 1048576) (hk : l.length < k) : impl_IsPermutation.f k l = some (isPerm l) := by
  unfold impl_IsPermutation.f isPerm
  rw [impl_maskOf_eq hl hk]; simp only [Option.bind_some]
  by_cases h : l.all inLane = true
  · rw [if_pos h, if_pos rfl]
    by_cases h8 : l.length = 8
    · rw [if_pos (by omega)]; simp [h, h8]
    · rw [if_neg (by omega)]; simp [h8]
  · rw [if_neg h, if_neg (by simp)]; simp [h]

theorem FnExactIsPermutation : laws_FnExactIsPermutation.Pure := by
  intro l hm
  unfold maxLen at hm
  by_cases h : l.length ≤ 1048576
  · refine ⟨l.length + 1, ?_⟩
    unfold laws_FnExactIsPermutation.f
    rw [if_neg (by omega)]
    simp only [toIntS_eq h (Nat.lt_succ_self _), spec_isPerm_eq h (Nat.lt_succ_self _), impl_isPerm_eq h (Nat.lt_succ_self _), eqIntS_self (by omega : l.length ≤ 9223372036854775807) (Nat.lt_succ_self _), Option.bind_some]
    simp
  · exact ⟨0, by unfold laws_FnExactIsPermutation.f; rw [if_pos (by omega)]⟩

end Go.Proofs.Ytojioeaoeloieaa.Pure
