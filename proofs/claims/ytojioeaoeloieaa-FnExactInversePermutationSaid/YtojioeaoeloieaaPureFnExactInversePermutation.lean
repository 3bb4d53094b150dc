/-
  The program's InversePermutation returns what the reference's returns, for all arguments, in new memory, and leaves its argument as it was.
  No condition.
-/
import Derived.Test.YtojioeaoeloieaaPFnExactInversePermutationx2
namespace Go.Proofs.Ytojioeaoeloieaa.Pure
open Go.RowKit Go.Proofs.Ytojioeaoeloieaa.PFnExactInversePermutation Go.Proofs.YtojioeaoeloieaaW.PrintWords Go.Proofs.YtojioeaoeloieaaW.PrintLast Go.Proofs.YtojioeaoeloieaaW.PrintMore
set_option linter.unusedVariables false
set_option linter.unusedSimpArgs false

theorem w64 {x : Int} (h0 : -9223372036854775808 ≤ x) (h1 : x < 9223372036854775808) : wrap64 x = x := by unfold wrap64; omega
theorem drop_rd {l : List Int} {i : Int} (h0 : 0 ≤ i) (h1 : i < (l.length : Int)) : l.drop i.toNat = rd l i :: l.drop (i + 1).toNat := by
  have hi : i.toNat < l.length := by omega
  rw [show (i + 1).toNat = i.toNat + 1 by omega, List.drop_eq_getElem_cons hi]
  congr 1
  unfold rd
  rw [List.getD_eq_getElem?_getD, List.getElem?_eq_getElem hi]; rfl
theorem rd_mem {l : List Int} {i : Int} (h0 : 0 ≤ i) (h1 : i < (l.length : Int)) : rd l i ∈ l := by
  have hi : i.toNat < l.length := by omega
  unfold rd
  rw [List.getD_eq_getElem?_getD, List.getElem?_eq_getElem hi]
  exact List.getElem_mem hi
theorem take_set_succ {α : Type} {l x : List α} {i : Nat} (v : α) (hl : i < l.length) (hx : i < x.length) (h : x.take i = l.take i) (hv : l[i]'hl = v) : (x.set i v).take (i + 1) = l.take (i + 1) := by
  rw [List.take_succ_eq_append_getElem (by simpa using hx), List.take_succ_eq_append_getElem hl, List.take_set_of_le (Nat.le_refl i), h]
  simp [hv]
theorem rd_get {l : List Int} {i : Int} (h0 : 0 ≤ i) (h1 : i.toNat < l.length) : l[i.toNat]'h1 = rd l i := by
  unfold rd
  rw [List.getD_eq_getElem?_getD, List.getElem?_eq_getElem h1]; rfl
theorem need {p : Prop} (h : p) : p := h
theorem within_some (x a b : Int) : impl_within.f x a b = some (decide (a ≤ x ∧ x ≤ b)) := by
  unfold impl_within.f
  by_cases h : a ≤ x
  · rw [if_pos h]; simp [h]
  · rw [if_neg h]; simp [h]
theorem in_some (x a b : Int) : spec_l01In.f x a b = some (decide (a ≤ x ∧ x ≤ b)) := by
  unfold spec_l01In.f
  by_cases h : a ≤ x
  · rw [if_pos h]; simp [h]
  · rw [if_neg h]; simp [h]
theorem toIntS_l0 (l : List Int) (hl : l.length ≤ 1048576) : ∀ (d k : Nat) (x : List Int) (i : Int), 0 ≤ i → (l.length : Int) - i = d → d < k → x.length = l.length → x.take i.toNat = l.take i.toNat →
    laws_toIntS.l0 k l x i = some l := by
  intro d
  induction d with
  | zero =>
    intro k x i h0 hd hk hx ht
    obtain ⟨k, rfl⟩ : ∃ q, k = q + 1 := ⟨k - 1, by omega⟩
    simp only [laws_toIntS.l0]
    rw [if_neg (by omega)]
    rw [List.take_of_length_le (by omega), List.take_of_length_le (by omega)] at ht
    rw [ht]
  | succ d ih =>
    intro k x i h0 hd hk hx ht
    obtain ⟨k, rfl⟩ : ∃ q, k = q + 1 := ⟨k - 1, by omega⟩
    simp only [laws_toIntS.l0]
    rw [if_pos (by omega), if_pos h0, if_pos (by omega), w64 (by omega) (by omega)]
    refine ih k _ (i + 1) (by omega) (by omega) (by omega) (by simpa using hx) ?_
    rw [show (i + 1).toNat = i.toNat + 1 by omega]
    exact take_set_succ _ (by omega) (by omega) ht (rd_get h0 _)
theorem toIntS_eq {k : Nat} {l : List Int} (hl : l.length ≤ 1048576) (hk : l.length < k) : laws_toIntS.f k l = some l := by
  unfold laws_toIntS.f
  rw [if_pos (by omega), if_pos (by omega)]
  exact toIntS_l0 l hl l.length k _ 0 (by omega) (by omega) hk (by simp) (by simp)
theorem eqIntS_l0 (a b : List Int) (hab : a.length = b.length) (ha : a.length ≤ 9223372036854775807) : ∀ (d k : Nat) (i : Int), 0 ≤ i → (a.length : Int) - i = d → d < k →
    laws_eqIntS.l0 k a b i = some (decide (a.drop i.toNat = b.drop i.toNat)) := by
  intro d
  induction d with
  | zero =>
    intro k i h0 hd hk
    obtain ⟨k, rfl⟩ : ∃ q, k = q + 1 := ⟨k - 1, by omega⟩
    simp only [laws_eqIntS.l0]
    rw [if_neg (by omega), List.drop_of_length_le (by omega), List.drop_of_length_le (by omega)]
    simp
  | succ d ih =>
    intro k i h0 hd hk
    obtain ⟨k, rfl⟩ : ∃ q, k = q + 1 := ⟨k - 1, by omega⟩
    simp only [laws_eqIntS.l0]
    rw [if_pos (by omega), if_pos h0, if_pos (by omega), w64 (by omega) (by omega), drop_rd h0 (by omega), drop_rd (l := b) h0 (by omega)]
    by_cases h : rd a i = rd b i
    · rw [if_pos h, ih k (i + 1) (by omega) (by omega) (by omega)]
      simp [h]
    · rw [if_neg h]; simp [h]
theorem eqIntS_eq {k : Nat} {a b : List Int} (ha : a.length ≤ 9223372036854775807) (hk : a.length < k) : laws_eqIntS.f k a b = some (decide (a = b)) := by
  unfold laws_eqIntS.f
  by_cases h : a.length = b.length
  · rw [if_pos (by omega), eqIntS_l0 a b h ha a.length k 0 (by omega) (by omega) hk]; simp
  · rw [if_neg (by omega)]
    have : a ≠ b := fun e => h (by rw [e])
    simp [this]
theorem eqIntS_self {k : Nat} {a : List Int} (ha : a.length ≤ 9223372036854775807) (hk : a.length < k) : laws_eqIntS.f k a a = some true := by
  rw [eqIntS_eq ha hk]; simp
theorem markIntS_l0 (s : Int) (n : Nat) (hs : 0 ≤ s) (hb : s + n < 9223372036854775807) : ∀ (d k : Nat) (x : List Int) (i : Int), 0 ≤ i → (n : Int) - i = d → d < k → x.length = n → (∀ j : Nat, (j : Int) < i → rd x j = s + j) →
    ∃ y, laws_markIntS.l0 k x (s + i) i = some (s + n, y) ∧ y.length = n ∧ ∀ j : Nat, j < n → rd y j = s + j := by
  intro d
  induction d with
  | zero =>
    intro k x i h0 hd hk hx hr
    obtain ⟨k, rfl⟩ : ∃ q, k = q + 1 := ⟨k - 1, by omega⟩
    simp only [laws_markIntS.l0]
    rw [if_neg (by omega)]
    exact ⟨x, by rw [show s + i = s + n by omega], hx, fun j hj => hr j (by omega)⟩
  | succ d ih =>
    intro k x i h0 hd hk hx hr
    obtain ⟨k, rfl⟩ : ∃ q, k = q + 1 := ⟨k - 1, by omega⟩
    simp only [laws_markIntS.l0]
    rw [if_pos (by omega), if_pos h0, w64 (by omega) (by omega), w64 (by omega) (by omega), show s + i + 1 = s + (i + 1) by omega]
    refine ih k _ (i + 1) (by omega) (by omega) (by omega) (by simpa using hx) fun j hj => ?_
    by_cases e : (j : Int) = i
    · unfold rd
      rw [show i.toNat = j by omega, Int.toNat_natCast, List.getD_eq_getElem?_getD, List.getElem?_set_self (by omega)]
      simp; omega
    · have := hr j (by omega)
      unfold rd at this ⊢
      rw [Int.toNat_natCast] at this ⊢
      rw [← this, List.getD_eq_getElem?_getD, List.getD_eq_getElem?_getD, List.getElem?_set_ne (by omega)]
theorem heldIntS_l0 (s : Int) (n : Nat) (y : List Int) (hs : 0 ≤ s) (hb : s + n < 9223372036854775807) (hy : y.length = n) (hr : ∀ j : Nat, j < n → rd y j = s + j) : ∀ (d k : Nat) (i : Int), 0 ≤ i → (n : Int) - i = d → d < k →
    laws_heldIntS.l0 k y (s + i) i = some (s + n) := by
  intro d
  induction d with
  | zero =>
    intro k i h0 hd hk
    obtain ⟨k, rfl⟩ : ∃ q, k = q + 1 := ⟨k - 1, by omega⟩
    simp only [laws_heldIntS.l0]
    rw [if_neg (by omega), show s + i = s + n by omega]
  | succ d ih =>
    intro k i h0 hd hk
    obtain ⟨k, rfl⟩ : ∃ q, k = q + 1 := ⟨k - 1, by omega⟩
    have := hr i.toNat (by omega)
    rw [show ((i.toNat : Nat) : Int) = i by omega] at this
    simp only [laws_heldIntS.l0]
    rw [if_pos (by omega), if_pos h0, if_pos this, w64 (by omega) (by omega), w64 (by omega) (by omega), show s + i + 1 = s + (i + 1) by omega]
    exact ih k (i + 1) (by omega) (by omega) (by omega)
theorem markIntS_eq {k : Nat} {l : List Int} {s : Int} (hs : 0 ≤ s) (hb : s + l.length < 9223372036854775807) (hk : l.length < k) :
    ∃ y, laws_markIntS.f k l s = some (s + l.length, y) ∧ ∀ q, l.length < q → laws_heldIntS.f q y s = some (s + l.length) := by
  obtain ⟨y, h1, h2, h3⟩ := markIntS_l0 s l.length hs hb l.length k l 0 (by omega) (by omega) hk rfl (fun j hj => by omega)
  rw [Int.add_zero] at h1
  refine ⟨y, h1, fun q hq => ?_⟩
  have := heldIntS_l0 s l.length y hs hb h2 h3 l.length q 0 (by omega) (by omega) hq
  rwa [Int.add_zero] at this
def inLane (x : Int) : Bool := decide (0 ≤ x ∧ x ≤ 7)
def orAll (m : Int) (l : List Int) : Int := l.foldl (fun m x => Go.bits .or .i64 m (shl .i64 1 x)) m
theorem spec_maskOf_l0 (l : List Int) (hl : l.length ≤ 1048576) : ∀ (d k : Nat) (m i : Int), 0 ≤ i → (l.length : Int) - i = d → d < k →
    spec_MaskOf.l0 k l m i = some (if (l.drop i.toNat).all inLane = true then (orAll m (l.drop i.toNat), true) else (0, false)) := by
  intro d
  induction d with
  | zero =>
    intro k m i h0 hd hk
    obtain ⟨k, rfl⟩ : ∃ q, k = q + 1 := ⟨k - 1, by omega⟩
    simp only [spec_MaskOf.l0]
    rw [if_neg (by omega), List.drop_of_length_le (by omega)]
    simp [orAll]
  | succ d ih =>
    intro k m i h0 hd hk
    obtain ⟨k, rfl⟩ : ∃ q, k = q + 1 := ⟨k - 1, by omega⟩
    simp only [spec_MaskOf.l0, in_some, Option.bind_some]
    rw [if_pos (by omega), if_pos h0, w64 (by omega) (by omega), drop_rd h0 (by omega)]
    by_cases h : 0 ≤ rd l i ∧ rd l i ≤ 7
    · rw [if_pos (by simpa using h), if_pos h.1, ih k _ (i + 1) (by omega) (by omega) (by omega)]
      have : inLane (rd l i) = true := by simpa [inLane] using h
      simp [this, orAll]
    · rw [if_neg (by simpa using h)]
      have : inLane (rd l i) = false := by simpa [inLane] using h
      simp [this]
theorem spec_maskOf_eq {k : Nat} {l : List Int} (hl : l.length ≤ 1048576) (hk : l.length < k) : spec_MaskOf.f k l = some (if l.all inLane = true then (orAll 0 l, true) else (0, false)) := by
  unfold spec_MaskOf.f
  rw [spec_maskOf_l0 l hl l.length k 0 0 (by omega) (by omega) hk, Int.toNat_zero, List.drop_zero]
theorem impl_maskOf_l0 (l : List Int) (hl : l.length ≤ 1048576) : ∀ (d k : Nat) (m i : Int), 0 ≤ i → (l.length : Int) - i = d → d < k →
    impl_MaskOf.l0 k m l (l.length : Int) i = some (if (l.drop i.toNat).all inLane = true then (orAll m (l.drop i.toNat), true) else (0, false)) := by
  intro d
  induction d with
  | zero =>
    intro k m i h0 hd hk
    obtain ⟨k, rfl⟩ : ∃ q, k = q + 1 := ⟨k - 1, by omega⟩
    simp only [impl_MaskOf.l0]
    rw [if_neg (by omega), List.drop_of_length_le (by omega)]
    simp [orAll]
  | succ d ih =>
    intro k m i h0 hd hk
    obtain ⟨k, rfl⟩ : ∃ q, k = q + 1 := ⟨k - 1, by omega⟩
    simp only [impl_MaskOf.l0, impl_isLane.f, within_some, Option.bind_some]
    rw [if_pos (by omega), if_pos h0, if_pos (by omega), w64 (by omega) (by omega), drop_rd h0 (by omega)]
    by_cases h : 0 ≤ rd l i ∧ rd l i ≤ 7
    · rw [if_pos (by simpa using h), if_pos h.1, ih k _ (i + 1) (by omega) (by omega) (by omega)]
      have : inLane (rd l i) = true := by simpa [inLane] using h
      simp [this, orAll]
    · rw [if_neg (by simpa using h)]
      have : inLane (rd l i) = false := by simpa [inLane] using h
      simp [this]
theorem impl_maskOf_eq {k : Nat} {l : List Int} (hl : l.length ≤ 1048576) (hk : l.length < k) : impl_MaskOf.f k l = some (if l.all inLane = true then (orAll 0 l, true) else (0, false)) := by
  unfold impl_MaskOf.f
  rw [impl_maskOf_l0 l hl l.length k 0 0 (by omega) (by omega) hk, Int.toNat_zero, List.drop_zero]
def isPerm (l : List Int) : Bool := l.all inLane && decide (l.length = 8) && (orAll 0 l == 255)
theorem spec_isPerm_eq {k : Nat} {l : List Int} (hl : l.length ≤ 1048576) (hk : l.length < k) : spec_IsPermutation.f k l = some (isPerm l) := by
  unfold spec_IsPermutation.f isPerm
  rw [spec_maskOf_eq hl hk]; simp only [Option.bind_some]
  by_cases h : l.all inLane = true
  · rw [if_pos h, if_pos rfl]
    by_cases h8 : l.length = 8
    · rw [if_pos (by omega)]; simp [h, h8]
    · rw [if_neg (by omega)]; simp [h8]
  · rw [if_neg h, if_neg (by simp)]; simp [h]
theorem impl_isPerm_eq {k : Nat} {l : List Int} (hl : l.length ≤ 1048576) (hk : l.length < k) : impl_IsPermutation.f k l = some (isPerm l) := by
  unfold impl_IsPermutation.f isPerm
  rw [impl_maskOf_eq hl hk]; simp only [Option.bind_some]
  by_cases h : l.all inLane = true
  · rw [if_pos h, if_pos rfl]
    by_cases h8 : l.length = 8
    · rw [if_pos (by omega)]; simp [h, h8]
    · rw [if_neg (by omega)]; simp [h8]
  · rw [if_neg h, if_neg (by simp)]; simp [h]
def invAt : List Int → List Int → Int → List Int
  | [], y, _ => y
  | x :: r, y, i => invAt r (y.set x.toNat i) (i + 1)
theorem invAt_len : ∀ (l y : List Int) (i : Int), (invAt l y i).length = y.length
  | [], _, _ => rfl
  | x :: r, y, i => by rw [invAt, invAt_len]; simp
theorem isPerm_len {l : List Int} (h : isPerm l = true) : l.length = 8 := by simp [isPerm] at h; exact h.1.2
theorem isPerm_in {l : List Int} (h : isPerm l = true) : ∀ x ∈ l, 0 ≤ x ∧ x ≤ 7 := by
  simp [isPerm] at h
  intro x hx
  have := h.1.1 x hx
  simpa [inLane] using this
theorem spec_inv_l0 (l : List Int) (h8 : l.length = 8) (hin : ∀ x ∈ l, 0 ≤ x ∧ x ≤ 7) : ∀ (d k : Nat) (y : List Int) (i : Int), 0 ≤ i → 8 - i = d → d < k → y.length = 8 →
    spec_InversePermutation.l0 k l y i = some (invAt (l.drop i.toNat) y i) := by
  intro d
  induction d with
  | zero =>
    intro k y i h0 hd hk hy
    obtain ⟨k, rfl⟩ : ∃ q, k = q + 1 := ⟨k - 1, by omega⟩
    simp only [spec_InversePermutation.l0]
    rw [if_neg (by omega), List.drop_of_length_le (by omega)]; rfl
  | succ d ih =>
    intro k y i h0 hd hk hy
    obtain ⟨k, rfl⟩ : ∃ q, k = q + 1 := ⟨k - 1, by omega⟩
    have hx := hin _ (rd_mem (l := l) h0 (by omega))
    simp only [spec_InversePermutation.l0]
    rw [if_pos (by omega), if_pos h0, if_pos (by omega), if_pos hx.1, if_pos (by omega), w64 (by omega) (by omega), drop_rd h0 (by omega)]
    exact ih k _ (i + 1) (by omega) (by omega) (by omega) (by simpa using hy)
def invOf (l : List Int) : List Int := if isPerm l = true then invAt l (List.replicate 8 0) 0 else []
theorem spec_inv_eq {k : Nat} {l : List Int} (hl : l.length ≤ 1048576) (hk : l.length + 8 < k) : spec_InversePermutation.f k l = some (invOf l) := by
  unfold spec_InversePermutation.f invOf
  rw [spec_isPerm_eq hl (by omega)]; simp only [Option.bind_some]
  by_cases h : isPerm l = true
  · rw [if_pos h, if_pos h, if_pos (by decide), spec_inv_l0 l (isPerm_len h) (isPerm_in h) 8 k _ 0 (by omega) (by omega) (by omega) (by simp)]; rfl
  · rw [if_neg h, if_neg h]
theorem invOf_len (l : List Int) : (invOf l).length ≤ 8 := by
  unfold invOf; split
  · rw [invAt_len]; simp
  · simp
theorem impl_inv_l0 (l : List Int) (h8 : l.length = 8) (hin : ∀ x ∈ l, 0 ≤ x ∧ x ≤ 7) : ∀ (d k : Nat) (y : List Int) (i : Int), 0 ≤ i → 8 - i = d → d < k → y.length = 8 →
    impl_InversePermutation.l0 k y l (l.length : Int) i = some (invAt (l.drop i.toNat) y i) := by
  intro d
  induction d with
  | zero =>
    intro k y i h0 hd hk hy
    obtain ⟨k, rfl⟩ : ∃ q, k = q + 1 := ⟨k - 1, by omega⟩
    simp only [impl_InversePermutation.l0]
    rw [if_neg (by omega), List.drop_of_length_le (by omega)]; rfl
  | succ d ih =>
    intro k y i h0 hd hk hy
    obtain ⟨k, rfl⟩ : ∃ q, k = q + 1 := ⟨k - 1, by omega⟩
    have hx := hin _ (rd_mem (l := l) h0 (by omega))
    simp only [impl_InversePermutation.l0]
    rw [if_pos (by omega), if_pos h0, if_pos (by omega), if_pos hx.1, if_pos (by omega), w64 (by omega) (by omega), drop_rd h0 (by omega)]
    exact ih k _ (i + 1) (by omega) (by omega) (by omega) (by simpa using hy)
theorem impl_inv_eq {k : Nat} {l : List Int} (hl : l.length ≤ 1048576) (hk : l.length + 8 < k) : impl_InversePermutation.f k l = some (invOf l) := by
  unfold impl_InversePermutation.f invOf
  rw [impl_isPerm_eq hl (by omega)]; simp only [Option.bind_some]
  by_cases h : isPerm l = true
  · rw [if_pos h, if_pos h, if_pos (by decide), impl_inv_l0 l (isPerm_len h) (isPerm_in h) 8 k _ 0 (by omega) (by omega) (by omega) (by simp)]; rfl
  · rw [if_neg h, if_neg h]

theorem FnExactInversePermutation : laws_FnExactInversePermutation.Pure := by
  intro l hm
  unfold maxLen at hm
  by_cases h : l.length ≤ 1048576
  · have hk1 : l.length < l.length + 19 + 1 := by omega
    have hk2 : l.length + 8 < l.length + 19 + 1 := by omega
    have hk3 : l.length < l.length + 19 := by omega
    have hk4 : l.length + 8 < l.length + 19 := by omega
    have hv := invOf_len l
    refine ⟨l.length + 19 + 1, ?_⟩
    unfold laws_FnExactInversePermutation.f
    rw [if_neg (by omega)]
    obtain ⟨y, hy, _⟩ := markIntS_eq (k := l.length + 19 + 1) (l := l) (s := 1) (by omega) (by omega) hk1
    obtain ⟨z, hz, hz2⟩ := markIntS_eq (k := l.length + 19) (l := invOf l) (s := 1) (by omega) (by omega) (by omega)
    simp only [toIntS_eq h hk1, spec_inv_eq h hk2, impl_inv_eq h hk2, eqIntS_self (by omega : (invOf l).length ≤ 9223372036854775807) (by omega : (invOf l).length < l.length + 19 + 1), eqIntS_self (by omega : l.length ≤ 9223372036854775807) hk1, hy, Option.bind_some, if_true, laws_FnExactInversePermutation.j0]
    rw [if_neg (by omega)]
    simp only [toIntS_eq h hk3, impl_inv_eq h hk4, eqIntS_self (by omega : (invOf l).length ≤ 9223372036854775807) (by omega : (invOf l).length < l.length + 19), hz, hz2 (l.length + 19) (by omega), Option.bind_some, if_true]
    simp only [Bool.not_true, Bool.false_eq_true, if_false]
    rw [if_neg (by omega), if_neg (by omega)]
  · exact ⟨0, by unfold laws_FnExactInversePermutation.f; rw [if_pos (by omega)]⟩

end Go.Proofs.Ytojioeaoeloieaa.Pure
