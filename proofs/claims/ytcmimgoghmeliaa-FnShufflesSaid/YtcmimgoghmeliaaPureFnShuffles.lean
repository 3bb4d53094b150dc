/-
  A drawn permutation shuffled back by its inverse, two equal xor shuffles, and two rotations in place of one, give the same values.
  No condition.
-/
import Derived.Test.YtcmimgoghmeliaaPFnShufflesx3
namespace Go.Proofs.Ytcmimgoghmeliaa.Pure
open Go.RowKit Go.Proofs.Ytcmimgoghmeliaa.PFnShuffles Go.Proofs.YtcmimgoghmeliaaW.PrintWords Go.Proofs.YtcmimgoghmeliaaW.PrintLast Go.Proofs.YtcmimgoghmeliaaW.PrintMore
set_option linter.unusedVariables false
set_option linter.unusedSimpArgs false

theorem w64 {x : Int} (h0 : -9223372036854775808 ≤ x) (h1 : x < 9223372036854775808) : wrap64 x = x := by unfold wrap64; omega
theorem drop_rd {l : List Int} {i : Int} (h0 : 0 ≤ i) (h1 : i < (l.length : Int)) : l.drop i.toNat = rd l i :: l.drop (i + 1).toNat := by
  have hi : i.toNat < l.length := by omega
  rw [show (i + 1).toNat = i.toNat + 1 by omega, List.drop_eq_getElem_cons hi]
  congr 1
  unfold rd
  rw [List.getD_eq_getElem?_getD, List.getElem?_eq_getElem hi]; rfl
theorem rd_mem {l : List Int} {i : Int} (h0 : 0 ≤ i) (h1 : i < (l.length : Int)) : rd l i ∈ l := by
  have hi : i.toNat < l.length := by omega
  unfold rd
  rw [List.getD_eq_getElem?_getD, List.getElem?_eq_getElem hi]
  exact List.getElem_mem hi
theorem take_set_succ {α : Type} {l x : List α} {i : Nat} (v : α) (hl : i < l.length) (hx : i < x.length) (h : x.take i = l.take i) (hv : l[i]'hl = v) : (x.set i v).take (i + 1) = l.take (i + 1) := by
  rw [List.take_succ_eq_append_getElem (by simpa using hx), List.take_succ_eq_append_getElem hl, List.take_set_of_le (Nat.le_refl i), h]
  simp [hv]
theorem rd_get {l : List Int} {i : Int} (h0 : 0 ≤ i) (h1 : i.toNat < l.length) : l[i.toNat]'h1 = rd l i := by
  unfold rd
  rw [List.getD_eq_getElem?_getD, List.getElem?_eq_getElem h1]; rfl
theorem need {p : Prop} (h : p) : p := h
theorem within_some (x a b : Int) : impl_within.f x a b = some (decide (a ≤ x ∧ x ≤ b)) := by
  unfold impl_within.f
  by_cases h : a ≤ x
  · rw [if_pos h]; simp [h]
  · rw [if_neg h]; simp [h]
def inLane (x : Int) : Bool := decide (0 ≤ x ∧ x ≤ 7)
def orAll (m : Int) (l : List Int) : Int := l.foldl (fun m x => Go.bits .or .i64 m (shl .i64 1 x)) m
def isPerm (l : List Int) : Bool := l.all inLane && decide (l.length = 8) && (orAll 0 l == 255)
theorem isPerm_len {l : List Int} (h : isPerm l = true) : l.length = 8 := by simp [isPerm] at h; exact h.1.2
theorem isPerm_in {l : List Int} (h : isPerm l = true) : ∀ x ∈ l, 0 ≤ x ∧ x ≤ 7 := by
  simp [isPerm] at h
  intro x hx
  have := h.1.1 x hx
  simpa [inLane] using this
def invAt : List Int → List Int → Int → List Int
  | [], y, _ => y
  | x :: r, y, i => invAt r (y.set x.toNat i) (i + 1)
theorem invAt_len : ∀ (l y : List Int) (i : Int), (invAt l y i).length = y.length
  | [], _, _ => rfl
  | x :: r, y, i => by rw [invAt, invAt_len]; simp
def invOf (l : List Int) : List Int := if isPerm l = true then invAt l (List.replicate 8 0) 0 else []
theorem invOf_len (l : List Int) : (invOf l).length ≤ 8 := by
  unfold invOf; split
  · rw [invAt_len]; simp
  · simp
theorem impl_maskOf_l0 (l : List Int) (hl : l.length ≤ 1048576) : ∀ (d k : Nat) (m i : Int), 0 ≤ i → (l.length : Int) - i = d → d < k →
    impl_MaskOf.l0 k m l (l.length : Int) i = some (if (l.drop i.toNat).all inLane = true then (orAll m (l.drop i.toNat), true) else (0, false)) := by
  intro d
  induction d with
  | zero =>
    intro k m i h0 hd hk
    obtain ⟨k, rfl⟩ : ∃ q, k = q + 1 := ⟨k - 1, by omega⟩
    simp only [impl_MaskOf.l0]
    rw [if_neg (by omega), List.drop_of_length_le (by omega)]
    simp [orAll]
  | succ d ih =>
    intro k m i h0 hd hk
    obtain ⟨k, rfl⟩ : ∃ q, k = q + 1 := ⟨k - 1, by omega⟩
    simp only [impl_MaskOf.l0, impl_isLane.f, within_some, Option.bind_some]
    rw [if_pos (by omega), if_pos h0, if_pos (by omega), w64 (by omega) (by omega), drop_rd h0 (by omega)]
    by_cases h : 0 ≤ rd l i ∧ rd l i ≤ 7
    · rw [if_pos (by simpa using h), if_pos h.1, ih k _ (i + 1) (by omega) (by omega) (by omega)]
      have : inLane (rd l i) = true := by simpa [inLane] using h
      simp [this, orAll]
    · rw [if_neg (by simpa using h)]
      have : inLane (rd l i) = false := by simpa [inLane] using h
      simp [this]
theorem impl_maskOf_eq {k : Nat} {l : List Int} (hl : l.length ≤ 1048576) (hk : l.length < k) : impl_MaskOf.f k l = some (if l.all inLane = true then (orAll 0 l, true) else (0, false)) := by
  unfold impl_MaskOf.f
  rw [impl_maskOf_l0 l hl l.length k 0 0 (by omega) (by omega) hk, Int.toNat_zero, List.drop_zero]
theorem impl_isPerm_eq {k : Nat} {l : List Int} (hl : l.length ≤ 1048576) (hk : l.length < k) : impl_IsPermutation.f k l = some (isPerm l) := by
  unfold impl_IsPermutation.f isPerm
  rw [impl_maskOf_eq hl hk]; simp only [Option.bind_some]
  by_cases h : l.all inLane = true
  · rw [if_pos h, if_pos rfl]
    by_cases h8 : l.length = 8
    · rw [if_pos (by omega)]; simp [h, h8]
    · rw [if_neg (by omega)]; simp [h8]
  · rw [if_neg h, if_neg (by simp)]; simp [h]
theorem impl_inv_l0 (l : List Int) (h8 : l.length = 8) (hin : ∀ x ∈ l, 0 ≤ x ∧ x ≤ 7) : ∀ (d k : Nat) (y : List Int) (i : Int), 0 ≤ i → 8 - i = d → d < k → y.length = 8 →
    impl_InversePermutation.l0 k y l (l.length : Int) i = some (invAt (l.drop i.toNat) y i) := by
  intro d
  induction d with
  | zero =>
    intro k y i h0 hd hk hy
    obtain ⟨k, rfl⟩ : ∃ q, k = q + 1 := ⟨k - 1, by omega⟩
    simp only [impl_InversePermutation.l0]
    rw [if_neg (by omega), List.drop_of_length_le (by omega)]; rfl
  | succ d ih =>
    intro k y i h0 hd hk hy
    obtain ⟨k, rfl⟩ : ∃ q, k = q + 1 := ⟨k - 1, by omega⟩
    have hx := hin _ (rd_mem (l := l) h0 (by omega))
    simp only [impl_InversePermutation.l0]
    rw [if_pos (by omega), if_pos h0, if_pos (by omega), if_pos hx.1, if_pos (by omega), w64 (by omega) (by omega), drop_rd h0 (by omega)]
    exact ih k _ (i + 1) (by omega) (by omega) (by omega) (by simpa using hy)
theorem impl_inv_eq {k : Nat} {l : List Int} (hl : l.length ≤ 1048576) (hk : l.length + 8 < k) : impl_InversePermutation.f k l = some (invOf l) := by
  unfold impl_InversePermutation.f invOf
  rw [impl_isPerm_eq hl (by omega)]; simp only [Option.bind_some]
  by_cases h : isPerm l = true
  · rw [if_pos h, if_pos h, if_pos (by decide), impl_inv_l0 l (isPerm_len h) (isPerm_in h) 8 k _ 0 (by omega) (by omega) (by omega) (by simp)]; rfl
  · rw [if_neg h, if_neg h]

def valuesOk (l : List Int) : Bool := decide (l.length = 8) && l.all isWordB
theorem valuesOk_len {l : List Int} (h : valuesOk l = true) : l.length = 8 := by simp [valuesOk] at h; exact h.1
theorem impl_valuesOk_eq {l : List Int} : impl_ValuesOk.f l = some (valuesOk l) := by
  unfold impl_ValuesOk.f impl_AreWords.f valuesOk
  by_cases h : l.length = 8
  · rw [if_pos (by omega)]; simp [h]
  · rw [if_neg (by omega)]; simp [h]
def ups : Nat → Int → List Int
  | 0, _ => []
  | n + 1, i => i :: ups n (i + 1)
theorem ups_mem : ∀ (n : Nat) (i x : Int), x ∈ ups n i → i ≤ x ∧ x < i + n
  | 0, _, _, h => by simp [ups] at h
  | n + 1, i, x, h => by
    rw [ups, List.mem_cons] at h
    rcases h with rfl | h
    · omega
    · have := ups_mem n (i + 1) x h; omega
theorem ups_mem_of : ∀ (n : Nat) (i x : Int), i ≤ x → x < i + n → x ∈ ups n i
  | 0, _, _, _, _ => by omega
  | n + 1, i, x, h0, h1 => by
    rw [ups, List.mem_cons]
    by_cases e : x = i
    · exact .inl e
    · exact .inr (ups_mem_of n (i + 1) x (by omega) (by omega))
theorem ups_len : ∀ (n : Nat) (i : Int), (ups n i).length = n
  | 0, _ => rfl
  | n + 1, i => by rw [ups, List.length_cons, ups_len]
def isMaskB (m : Int) : Bool := decide (0 ≤ m ∧ m ≤ 255)
def bitB (m i : Int) : Bool := Go.bits .and .i64 (shr .i64 m i) 1 == 1
def hasB (m i : Int) : Bool := isMaskB m && decide (0 ≤ i ∧ i ≤ 7) && bitB m i
def lanes (m : Int) : List Int := (ups 8 0).filter (hasB m)
theorem hasB_in {m i : Int} (h : hasB m i = true) : 0 ≤ i ∧ i ≤ 7 := by simp [hasB] at h; exact h.1.2
theorem hasB_mask {m i : Int} (h : hasB m i = true) : isMaskB m = true := by simp [hasB] at h; exact h.1.1
theorem lanes_in {m x : Int} (h : x ∈ lanes m) : 0 ≤ x ∧ x ≤ 7 := hasB_in (List.mem_filter.1 h).2
theorem lanes_mem {m x : Int} : x ∈ lanes m ↔ hasB m x = true := by
  unfold lanes
  rw [List.mem_filter]
  exact ⟨fun h => h.2, fun h => ⟨ups_mem_of 8 0 x (hasB_in h).1 (by have := (hasB_in h).2; omega), h⟩⟩
theorem lanes_not {m : Int} (h : isMaskB m = false) : lanes m = [] := by
  unfold lanes
  rw [List.filter_eq_nil_iff]
  intro x _ hx
  rw [hasB_mask hx] at h
  exact absurd h (by decide)
theorem lanes_len (m : Int) : (lanes m).length ≤ 8 := by
  unfold lanes
  have := List.length_filter_le (hasB m) (ups 8 0)
  rwa [ups_len] at this
def pickAt (l f : List Int) (i : Int) : Int := rd l (if 0 ≤ rd f i ∧ rd f i ≤ 7 then rd f i else i)
def shuf (l f : List Int) : List Int := if valuesOk l = true ∧ f.length = 8 then (ups 8 0).map (pickAt l f) else []
theorem shuf_len (l f : List Int) : (shuf l f).length ≤ 8 := by
  unfold shuf; split
  · rw [List.length_map, ups_len]; omega
  · simp
theorem set_done {xs : List Int} {i : Int} {v : Int} (h0 : 0 ≤ i) (h1 : i < (xs.length : Int)) : (xs.set i.toNat v).take (i + 1).toNat = xs.take i.toNat ++ [v] := by
  rw [show (i + 1).toNat = i.toNat + 1 by omega, List.take_succ_eq_append_getElem (by simp; omega), List.take_set_of_le (Nat.le_refl _)]
  simp
theorem impl_shuf_l0 (l f : List Int) (h8 : l.length = 8) (hf : f.length = 8) : ∀ (d k : Nat) (y : List Int) (i : Int), 0 ≤ i → 8 - i = d → d < k → y.length = 8 →
    impl_Shuffle.l0 k l y f (f.length : Int) i = some (y.take i.toNat ++ (ups d i).map (pickAt l f)) := by
  intro d
  induction d with
  | zero =>
    intro k y i h0 hd hk hy
    obtain ⟨k, rfl⟩ : ∃ q, k = q + 1 := ⟨k - 1, by omega⟩
    simp only [impl_Shuffle.l0]
    rw [if_neg (by omega), List.take_of_length_le (by omega)]; simp [ups]
  | succ d ih =>
    intro k y i h0 hd hk hy
    obtain ⟨k, rfl⟩ : ∃ q, k = q + 1 := ⟨k - 1, by omega⟩
    simp only [impl_Shuffle.l0, impl_isLane.f, within_some, Option.bind_some]
    rw [if_pos (by omega), if_pos h0, if_pos (by omega), w64 (by omega) (by omega), ups, List.map_cons]
    by_cases h : 0 ≤ rd f i ∧ rd f i ≤ 7
    · rw [if_pos (by simpa using h), if_pos h.1, if_pos (by omega), if_pos (by omega), ih k _ (i + 1) (by omega) (by omega) (by omega) (by simpa using hy), set_done h0 (by omega)]
      simp [pickAt, h]
    · rw [if_neg (by simpa using h), if_pos (by omega), if_pos (by omega), ih k _ (i + 1) (by omega) (by omega) (by omega) (by simpa using hy), set_done h0 (by omega)]
      simp [pickAt, h]
theorem impl_shuf_eq {k : Nat} {l f : List Int} (hk : 9 < k) : impl_Shuffle.f k l f = some (shuf l f) := by
  obtain ⟨k, rfl⟩ : ∃ q, k = q + 1 := ⟨k - 1, by omega⟩
  unfold impl_Shuffle.f shuf
  rw [impl_valuesOk_eq]; simp only [Option.bind_some, impl_Shuffle.j0]
  by_cases hv : valuesOk l = true
  · rw [if_pos hv]
    by_cases hf : f.length = 8
    · rw [if_neg (by simp; omega), if_pos (by decide), impl_shuf_l0 l f (valuesOk_len hv) hf 8 k _ 0 (by omega) (by omega) (by omega) (by simp), if_pos ⟨hv, hf⟩]; simp
    · rw [if_pos (by simp; omega), if_neg (fun h => hf h.2)]
  · rw [if_neg hv, if_pos trivial, if_neg (fun h => hv h.1)]
def shufBy (F : Int → Int) (l : List Int) (d : Int) : List Int := if 0 ≤ d ∧ d ≤ 7 then shuf l ((ups 8 0).map F) else []
theorem shufBy_len (F : Int → Int) (l : List Int) (d : Int) : (shufBy F l d).length ≤ 8 := by
  unfold shufBy; split
  · exact shuf_len _ _
  · simp
theorem listOf_ups (F : Int → Int) : listOf F 8 = (ups 8 0).map F := by
  simp [listOf, ups, List.range, List.range.loop]
theorem impl_shufBy_eq (F : Int → Int) (l : List Int) (d : Int) : shuffleByF F l d = some (shufBy F l d) := by
  unfold shuffleByF impl_isLane.f shufBy
  rw [within_some, listOf_ups]; simp only [Option.bind_some]
  by_cases h : 0 ≤ d ∧ d ≤ 7
  · rw [if_pos (by simpa using h), if_pos h, impl_shuf_eq (by omega)]
  · rw [if_neg (by simpa using h), if_neg h]
theorem and255 (n : Int) : Go.bits .and .i64 n 255 = n % 256 := by
  unfold Go.bits
  have h : (BitVec.ofInt 64 n &&& BitVec.ofInt 64 255).toNat = ((n % 256).toNat) := by
    rw [BitVec.toNat_and, show (BitVec.ofInt 64 255).toNat = 2 ^ 8 - 1 by decide, Nat.and_two_pow_sub_one_eq_mod, BitVec.toNat_ofInt]
    omega
  show IntKind.i64.wrap (((BitVec.ofInt 64 n &&& BitVec.ofInt 64 255).toNat : Nat) : Int) = _
  rw [h]
  unfold IntKind.wrap
  have e : ((2 : Int) ^ IntKind.i64.bits) = 18446744073709551616 := by decide
  have e2 : ((2 : Int) ^ (IntKind.i64.bits - 1)) = 9223372036854775808 := by decide
  rw [e, e2]
  have h2 : (((n % 256).toNat : Nat) : Int) % 18446744073709551616 = n % 256 := by omega
  simp only [h2]
  rw [if_neg (by simp; omega)]
theorem byte_ok {xs : List Int} {p : Int} (s : Int) (hl : xs.length ≤ 1048576) (hp : 0 ≤ p) : ∃ v p' s', spec_l01Byte.f xs p s = some (v, p', s') ∧ 0 ≤ v ∧ v ≤ 255 ∧ 0 ≤ p' := by
  unfold spec_l01Byte.f
  by_cases h : p < (xs.length : Int)
  · rw [if_pos h, if_pos hp, w64 (x := p + 1) (by omega) (by omega)]
    exact ⟨_, _, _, rfl, by rw [and255]; omega, by rw [and255]; omega, by omega⟩
  · rw [if_neg h]
    exact ⟨_, _, _, rfl, by rw [and255]; omega, by rw [and255]; omega, hp⟩
theorem below_ok {xs : List Int} {p : Int} (s n : Int) (hl : xs.length ≤ 1048576) (hp : 0 ≤ p) (hn : 0 < n) : ∃ v p' s', spec_l01Below.f xs p s n = some (v, p', s') ∧ 0 ≤ v ∧ v < n ∧ 0 ≤ p' := by
  unfold spec_l01Below.f
  obtain ⟨v1, p1, s1, e1, a1, b1, c1⟩ := byte_ok s hl hp
  rw [if_neg (by omega), e1]; simp only [Option.bind_some]
  by_cases h : n ≤ 256
  · rw [if_pos h, if_neg (by omega)]
    refine ⟨_, _, _, rfl, ?_, ?_, c1⟩
    · rw [Int.tmod_eq_emod_of_nonneg a1]; exact Int.emod_nonneg _ (by omega)
    · rw [Int.tmod_eq_emod_of_nonneg a1]; exact Int.emod_lt_of_pos _ hn
  · obtain ⟨v2, p2, s2, e2, a2, b2, c2⟩ := byte_ok s1 hl c1
    obtain ⟨v3, p3, s3, e3, a3, b3, c3⟩ := byte_ok s2 hl c2
    obtain ⟨v4, p4, s4, e4, a4, b4, c4⟩ := byte_ok s3 hl c3
    rw [if_neg h, e2]; simp only [Option.bind_some]
    rw [e3]; simp only [Option.bind_some]
    rw [e4]; simp only [Option.bind_some]
    rw [if_neg (by omega), w64 (x := v1 * 16777216) (by omega) (by omega), w64 (x := v2 * 65536) (by omega) (by omega), w64 (x := v3 * 256) (by omega) (by omega), w64 (x := v1 * 16777216 + v2 * 65536) (by omega) (by omega), w64 (x := v1 * 16777216 + v2 * 65536 + v3 * 256) (by omega) (by omega), w64 (x := v1 * 16777216 + v2 * 65536 + v3 * 256 + v4) (by omega) (by omega)]
    refine ⟨_, _, _, rfl, ?_, ?_, c4⟩
    · rw [Int.tmod_eq_emod_of_nonneg (by omega)]; exact Int.emod_nonneg _ (by omega)
    · rw [Int.tmod_eq_emod_of_nonneg (by omega)]; exact Int.emod_lt_of_pos _ hn
theorem pick_ok {xs : List Int} {p : Int} (s : Int) {l : List Int} (hl : xs.length ≤ 1048576) (hp : 0 ≤ p) (h1 : 0 < l.length) : ∃ v p' s', spec_l01PickInt.f xs p s l = some (v, p', s') ∧ v ∈ l ∧ 0 ≤ p' := by
  unfold spec_l01PickInt.f
  obtain ⟨v1, p1, s1, e1, a1, b1, c1⟩ := below_ok s (l.length : Int) hl hp (by omega)
  rw [e1]; simp only [Option.bind_some]
  rw [if_pos a1, if_pos b1]
  exact ⟨_, _, _, rfl, rd_mem a1 b1, c1⟩
theorem new_l0 (l : List Int) (hl : l.length ≤ 1048576) : ∀ (d k : Nat) (s i : Int), 0 ≤ i → (l.length : Int) - i = d → d < k → ∃ s', spec_l01New.l0 k l s i = some (l, 0, s') := by
  intro d
  induction d with
  | zero =>
    intro k s i h0 hd hk
    obtain ⟨k, rfl⟩ : ∃ q, k = q + 1 := ⟨k - 1, by omega⟩
    simp only [spec_l01New.l0]
    rw [if_neg (by omega)]
    exact ⟨_, rfl⟩
  | succ d ih =>
    intro k s i h0 hd hk
    obtain ⟨k, rfl⟩ : ∃ q, k = q + 1 := ⟨k - 1, by omega⟩
    simp only [spec_l01New.l0]
    rw [if_pos (by omega)]
    by_cases h : i < 4000
    · rw [if_pos h, if_pos h0, w64 (x := i + 1) (by omega) (by omega)]
      exact ih k _ (i + 1) (by omega) (by omega) (by omega)
    · rw [if_neg h]; exact ⟨_, rfl⟩
theorem new_ok {k : Nat} {l : List Int} (hl : l.length ≤ 1048576) (hk : l.length < k) : ∃ s', spec_l01New.f k l = some (l, 0, s') := by
  unfold spec_l01New.f
  exact new_l0 l hl l.length k _ 0 (by omega) (by omega) hk
theorem word_ok {xs : List Int} {p : Int} (s : Int) (hl : xs.length ≤ 1048576) (hp : 0 ≤ p) : ∃ v p' s', spec_l02Word.f xs p s = some (v, p', s') ∧ (0 ≤ v ∧ v ≤ 65535) ∧ 0 ≤ p' := by
  unfold spec_l02Word.f
  obtain ⟨v1, p1, s1, e1, a1, b1, c1⟩ := below_ok s 9 hl hp (by omega)
  rw [e1]; simp only [Option.bind_some]
  obtain ⟨v2, p2, s2, e2, a2, b2, c2⟩ := below_ok s1 9000 hl c1 (by omega)
  rw [e2]; simp only [Option.bind_some]
  obtain ⟨v3, p3, s3, e3, a3, c3⟩ := pick_ok s2 (l := [0, 1, 2, 7, 100, 65535, 32768, v1, v2]) hl c2 (by simp)
  rw [e3]; simp only [Option.bind_some]
  refine ⟨_, _, _, rfl, ?_, c3⟩
  simp only [List.mem_cons, List.not_mem_nil, or_false] at a3
  omega
theorem values_l0 {xs : List Int} (hl : xs.length ≤ 1048576) : ∀ (d k : Nat) (y : List Int) (i p s : Int), 0 ≤ i → 8 - i = d → d < k → y.length = i.toNat → (∀ x ∈ y, 0 ≤ x ∧ x ≤ 65535) → 0 ≤ p →
    ∃ z p' s', spec_l19Values.l0 k y i xs p s = some (z, p', s') ∧ z.length = 8 ∧ (∀ x ∈ z, 0 ≤ x ∧ x ≤ 65535) ∧ 0 ≤ p' := by
  intro d
  induction d with
  | zero =>
    intro k y i p s h0 hd hk hy hm hp
    obtain ⟨k, rfl⟩ : ∃ q, k = q + 1 := ⟨k - 1, by omega⟩
    simp only [spec_l19Values.l0]
    rw [if_neg (by omega)]
    exact ⟨_, _, _, rfl, by omega, hm, hp⟩
  | succ d ih =>
    intro k y i p s h0 hd hk hy hm hp
    obtain ⟨k, rfl⟩ : ∃ q, k = q + 1 := ⟨k - 1, by omega⟩
    simp only [spec_l19Values.l0]
    obtain ⟨v1, p1, s1, e1, a1, c1⟩ := word_ok s hl hp
    rw [if_pos (by omega), e1]; simp only [Option.bind_some]
    obtain ⟨v2, p2, s2, e2, a2, c2⟩ := pick_ok s1 (l := [0, 0, 1, 2, 5, v1]) hl c1 (by simp)
    rw [e2]; simp only [Option.bind_some]
    rw [if_pos (by omega), w64 (x := i + 1) (by omega) (by omega)]
    refine ih k _ (i + 1) _ _ (by omega) (by omega) (by omega) (by simp; omega) ?_ c2
    intro x hx
    rw [List.mem_append, List.mem_singleton] at hx
    rcases hx with hx | rfl
    · exact hm x hx
    · simp only [List.mem_cons, List.not_mem_nil, or_false] at a2
      omega
theorem drawValues_ok {k : Nat} {xs : List Int} (hl : xs.length ≤ 1048576) (hk : xs.length + 9 < k) : ∃ z, spec_DrawValues.f k xs = some z ∧ valuesOk z = true := by
  unfold spec_DrawValues.f spec_l19Values.f
  obtain ⟨s, e⟩ := new_ok (k := k) hl (by omega)
  rw [e]; simp only [Option.bind_some]
  obtain ⟨z, p, s2, e2, h8, hm, _⟩ := values_l0 hl 8 k [] 0 0 s (by omega) (by omega) (by omega) rfl (by simp) (by omega)
  rw [e2]; simp only [Option.bind_some]
  refine ⟨z, rfl, ?_⟩
  simp only [valuesOk, h8, Bool.and_eq_true, decide_eq_true_eq, List.all_eq_true, isWordB, true_and]
  exact hm
theorem places_l0 {xs : List Int} (hl : xs.length ≤ 1048576) : ∀ (d k : Nat) (y : List Int) (i p s : Int), 0 ≤ i → 12 - i = d → d < k → y.length = i.toNat → (∀ x ∈ y, 0 ≤ x ∧ x < 10000) → 0 ≤ p →
    ∃ z, spec_DrawPlaces.l0 k y i xs p s = some z ∧ z.length = 12 ∧ (∀ x ∈ z, 0 ≤ x ∧ x < 10000) := by
  intro d
  induction d with
  | zero =>
    intro k y i p s h0 hd hk hy hm hp
    obtain ⟨k, rfl⟩ : ∃ q, k = q + 1 := ⟨k - 1, by omega⟩
    simp only [spec_DrawPlaces.l0]
    rw [if_neg (by omega)]
    exact ⟨_, rfl, by omega, hm⟩
  | succ d ih =>
    intro k y i p s h0 hd hk hy hm hp
    obtain ⟨k, rfl⟩ : ∃ q, k = q + 1 := ⟨k - 1, by omega⟩
    simp only [spec_DrawPlaces.l0]
    obtain ⟨v1, p1, s1, e1, a1, b1, c1⟩ := below_ok s 10000 hl hp (by omega)
    rw [if_pos (by omega), e1]; simp only [Option.bind_some]
    rw [if_pos (by omega), w64 (x := i + 1) (by omega) (by omega)]
    refine ih k _ (i + 1) _ _ (by omega) (by omega) (by omega) (by simp; omega) ?_ c1
    intro x hx
    rw [List.mem_append, List.mem_singleton] at hx
    rcases hx with hx | rfl
    · exact hm x hx
    · omega
theorem drawPlaces_ok {k : Nat} {xs : List Int} (hl : xs.length ≤ 1048576) (hk : xs.length + 13 < k) : ∃ z, spec_DrawPlaces.f k xs = some z ∧ z.length = 12 ∧ (∀ x ∈ z, 0 ≤ x ∧ x < 10000) := by
  unfold spec_DrawPlaces.f
  obtain ⟨s, e⟩ := new_ok (k := k) hl (by omega)
  rw [e]; simp only [Option.bind_some]
  exact places_l0 hl 12 k [] 0 0 s (by omega) (by omega) (by omega) rfl (by simp) (by omega)
theorem and1 (n : Int) : Go.bits .and .i64 n 1 = n % 2 := by
  unfold Go.bits
  have h : (BitVec.ofInt 64 n &&& BitVec.ofInt 64 1).toNat = ((n % 2).toNat) := by
    rw [BitVec.toNat_and, show (BitVec.ofInt 64 1).toNat = 2 ^ 1 - 1 by decide, Nat.and_two_pow_sub_one_eq_mod, BitVec.toNat_ofInt]
    omega
  show IntKind.i64.wrap (((BitVec.ofInt 64 n &&& BitVec.ofInt 64 1).toNat : Nat) : Int) = _
  rw [h]
  unfold IntKind.wrap
  have e : ((2 : Int) ^ IntKind.i64.bits) = 18446744073709551616 := by decide
  have e2 : ((2 : Int) ^ (IntKind.i64.bits - 1)) = 9223372036854775808 := by decide
  rw [e, e2]
  have h2 : (((n % 2).toNat : Nat) : Int) % 18446744073709551616 = n % 2 := by omega
  simp only [h2]
  rw [if_neg (by simp; omega)]
theorem orB {a b : Int} (ha : 0 ≤ a ∧ a ≤ 255) (hb : 0 ≤ b ∧ b ≤ 255) : Go.bits .or .i64 a b = ((a.toNat ||| b.toNat : Nat) : Int) ∧ (a.toNat ||| b.toNat) < 256 := by
  have hlt : (a.toNat ||| b.toNat) < 2 ^ 8 := Nat.or_lt_two_pow (by omega) (by omega)
  refine ⟨?_, by omega⟩
  unfold Go.bits
  have h : (BitVec.ofInt 64 a ||| BitVec.ofInt 64 b).toNat = (a.toNat ||| b.toNat) := by
    rw [BitVec.toNat_or, BitVec.toNat_ofInt, BitVec.toNat_ofInt]
    have e1 : (a % ((2 ^ 64 : Nat) : Int)).toNat = a.toNat := by omega
    have e2 : (b % ((2 ^ 64 : Nat) : Int)).toNat = b.toNat := by omega
    rw [e1, e2]
  show IntKind.i64.wrap (((BitVec.ofInt 64 a ||| BitVec.ofInt 64 b).toNat : Nat) : Int) = _
  rw [h]
  generalize (a.toNat ||| b.toNat) = n at hlt
  unfold IntKind.wrap
  have e : ((2 : Int) ^ IntKind.i64.bits) = 18446744073709551616 := by decide
  have e2 : ((2 : Int) ^ (IntKind.i64.bits - 1)) = 9223372036854775808 := by decide
  rw [e, e2]
  have h2 : ((n : Nat) : Int) % 18446744073709551616 = n := by omega
  simp only [h2]
  rw [if_neg (by simp; omega)]
theorem hasB_bit {m i : Int} (hm : 0 ≤ m ∧ m ≤ 255) (hi : 0 ≤ i ∧ i ≤ 7) : hasB m i = m.toNat.testBit i.toNat := by
  unfold hasB isMaskB bitB
  rw [decide_eq_true hm, decide_eq_true hi, Bool.true_and, Bool.true_and]
  have e : shr .i64 m i = m / 2 ^ i.toNat := by
    unfold shr
    rw [Nat.min_eq_left (by show i.toNat ≤ 64; omega)]
  rw [and1, e, Nat.testBit_eq_decide_div_mod_eq]
  obtain ⟨n, rfl⟩ := Int.eq_ofNat_of_zero_le hm.1
  have e2 : ((n : Int) / 2 ^ i.toNat) % 2 = ((n / 2 ^ i.toNat % 2 : Nat) : Int) := by push_cast; rfl
  rw [e2, Int.toNat_natCast]
  by_cases h : n / 2 ^ i.toNat % 2 = 1
  · rw [h]; rfl
  · rw [decide_eq_false h]; simp; omega
theorem shl1 {x : Int} (hx : 0 ≤ x ∧ x ≤ 7) : shl .i64 1 x = ((2 ^ x.toNat : Nat) : Int) ∧ (2 ^ x.toNat : Nat) < 256 := by
  rcases (by omega : x = 0 ∨ x = 1 ∨ x = 2 ∨ x = 3 ∨ x = 4 ∨ x = 5 ∨ x = 6 ∨ x = 7) with e | e | e | e | e | e | e | e <;> subst e <;> decide
theorem isMask_iff {m : Int} : isMaskB m = true ↔ 0 ≤ m ∧ m ≤ 255 := by simp [isMaskB]
theorem hasB_orM {a b : Int} (ha : isMaskB a = true) (hb : isMaskB b = true) : isMaskB (Go.bits .or .i64 a b) = true ∧ ∀ j, hasB (Go.bits .or .i64 a b) j = (hasB a j || hasB b j) := by
  rw [isMask_iff] at ha hb
  have h := orB ha hb
  have hm : 0 ≤ Go.bits .or .i64 a b ∧ Go.bits .or .i64 a b ≤ 255 := by rw [h.1]; omega
  refine ⟨isMask_iff.2 hm, fun j => ?_⟩
  by_cases hj : 0 ≤ j ∧ j ≤ 7
  · rw [hasB_bit hm hj, hasB_bit ha hj, hasB_bit hb hj, h.1, Int.toNat_natCast, Nat.testBit_or]
  · have q : ∀ m, hasB m j = false := fun m => by
      cases e : hasB m j
      · rfl
      · exact absurd (hasB_in e) hj
    rw [q, q, q]; rfl
theorem mask_shl {x : Int} (hx : 0 ≤ x ∧ x ≤ 7) : isMaskB (shl .i64 1 x) = true ∧ ∀ j, hasB (shl .i64 1 x) j = (j == x) := by
  have h := shl1 hx
  have hm : 0 ≤ shl .i64 1 x ∧ shl .i64 1 x ≤ 255 := by
    have h2 := h.2
    rw [h.1]
    generalize (2 ^ x.toNat : Nat) = n at h2 ⊢
    omega
  refine ⟨isMask_iff.2 hm, fun j => ?_⟩
  by_cases hj : 0 ≤ j ∧ j ≤ 7
  · rw [hasB_bit hm hj, h.1, Int.toNat_natCast, Nat.testBit_two_pow]
    by_cases e : j = x
    · subst e; simp
    · rw [decide_eq_false (by omega)]; simp [e]
  · cases e : hasB (shl .i64 1 x) j
    · by_cases e2 : j = x
      · omega
      · simp [e2]
    · exact absurd (hasB_in e) hj
theorem hasB_zero (j : Int) : hasB 0 j = false := by
  cases e : hasB 0 j
  · rfl
  · rw [hasB_bit (by omega) (hasB_in e)] at e
    simp at e
theorem mask_ext {a b : Int} (ha : isMaskB a = true) (hb : isMaskB b = true) (h : ∀ j, hasB a j = hasB b j) : a = b := by
  rw [isMask_iff] at ha hb
  have : a.toNat = b.toNat := by
    apply Nat.eq_of_testBit_eq
    intro i
    by_cases hi : i ≤ 7
    · have := h (i : Int)
      rwa [hasB_bit ha (by omega), hasB_bit hb (by omega), Int.toNat_natCast] at this
    · rw [Nat.testBit_lt_two_pow, Nat.testBit_lt_two_pow]
      · exact Nat.lt_of_lt_of_le (by omega : b.toNat < 2 ^ 8) (Nat.pow_le_pow_right (by omega) (by omega))
      · exact Nat.lt_of_lt_of_le (by omega : a.toNat < 2 ^ 8) (Nat.pow_le_pow_right (by omega) (by omega))
  omega

theorem or_has : ∀ (L : List Int) (m : Int), (∀ x ∈ L, 0 ≤ x ∧ x ≤ 7) → isMaskB m = true → isMaskB (orAll m L) = true ∧ ∀ j, hasB (orAll m L) j = true ↔ hasB m j = true ∨ j ∈ L
  | [], m, _, hm => ⟨hm, fun j => by simp [orAll]⟩
  | x :: L, m, hL, hm => by
    have hx := hL x (List.mem_cons_self ..)
    have h2 := hasB_orM hm (mask_shl hx).1
    obtain ⟨h3, h4⟩ := or_has L _ (fun y hy => hL y (List.mem_cons_of_mem _ hy)) h2.1
    refine ⟨h3, fun j => ?_⟩
    change hasB (orAll (Go.bits .or .i64 m (shl .i64 1 x)) L) j = true ↔ _
    rw [h4 j, h2.2 j, (mask_shl hx).2 j, List.mem_cons, Bool.or_eq_true, beq_iff_eq, or_assoc]
theorem hasB_255 {j : Int} (hj : 0 ≤ j ∧ j ≤ 7) : hasB 255 j = true := by
  rcases (by omega : j = 0 ∨ j = 1 ∨ j = 2 ∨ j = 3 ∨ j = 4 ∨ j = 5 ∨ j = 6 ∨ j = 7) with e | e | e | e | e | e | e | e <;> subst e <;> decide +kernel
structure PermOk (p : List Int) : Prop where
  len : p.length = 8
  rng : ∀ i, 0 ≤ i ∧ i ≤ 7 → 0 ≤ rd p i ∧ rd p i ≤ 7
  sur : ∀ v, 0 ≤ v ∧ v ≤ 7 → ∃ i, (0 ≤ i ∧ i ≤ 7) ∧ rd p i = v
  inj : ∀ i j, 0 ≤ i ∧ i ≤ 7 → 0 ≤ j ∧ j ≤ 7 → rd p i = rd p j → i = j
theorem mem_rd {p : List Int} (h8 : p.length = 8) {x : Int} (hx : x ∈ p) : ∃ i, (0 ≤ i ∧ i ≤ 7) ∧ rd p i = x := by
  obtain ⟨n, hn, e⟩ := List.mem_iff_getElem.1 hx
  exact ⟨(n : Int), by omega, by rw [← e, ← rd_get (i := (n : Int)) (by omega) (by omega)]; simp⟩
theorem PermOk.isPerm {p : List Int} (h : PermOk p) : isPerm p = true := by
  have hin : ∀ x ∈ p, 0 ≤ x ∧ x ≤ 7 := fun x hx => by
    obtain ⟨i, hi, e⟩ := mem_rd h.len hx
    rw [← e]; exact h.rng i hi
  have ho := or_has p 0 hin (by decide)
  have e : orAll 0 p = 255 := mask_ext ho.1 (by decide) fun j => by
    rw [Bool.eq_iff_iff, ho.2 j, hasB_zero]
    constructor
    · rintro (h2 | h2)
      · exact absurd h2 (by decide)
      · exact hasB_255 (hin j h2)
    · intro h2
      obtain ⟨i, hi, e⟩ := h.sur j (hasB_in h2)
      exact .inr (by rw [← e]; exact rd_mem hi.1 (by have := h.len; omega))
  unfold Pure.isPerm
  rw [e, decide_eq_true h.len, Bool.and_true]
  simp only [beq_self_eq_true, Bool.and_true, List.all_eq_true, inLane, decide_eq_true_eq]
  exact hin
theorem rd_set {x : List Int} {i j v : Int} (hi : 0 ≤ i) (hj : 0 ≤ j) (hl : i < (x.length : Int)) : rd (x.set i.toNat v) j = if j = i then v else rd x j := by
  unfold rd
  by_cases e : j = i
  · subst e
    rw [if_pos rfl, List.getD_eq_getElem?_getD, List.getElem?_set_self (by omega)]; rfl
  · rw [if_neg e, List.getD_eq_getElem?_getD, List.getD_eq_getElem?_getD, List.getElem?_set_ne (by omega)]
def sw (a b j : Int) : Int := if j = b then a else if j = a then b else j
theorem PermOk.swap {x : List Int} (h : PermOk x) {a b : Int} (ha : 0 ≤ a ∧ a ≤ 7) (hb : 0 ≤ b ∧ b ≤ 7) : PermOk ((x.set a.toNat (rd x b)).set b.toNat (rd x a)) := by
  have h8 := h.len
  have hr : ∀ j, 0 ≤ j → rd ((x.set a.toNat (rd x b)).set b.toNat (rd x a)) j = rd x (sw a b j) := fun j hj => by
    rw [rd_set hb.1 hj (by simp; omega), rd_set ha.1 hj (by omega)]
    unfold sw
    split
    · rfl
    · split <;> rfl
  have hs : ∀ j, 0 ≤ j ∧ j ≤ 7 → 0 ≤ sw a b j ∧ sw a b j ≤ 7 := fun j hj => by unfold sw; split <;> (try split) <;> omega
  have hss : ∀ j, sw a b (sw a b j) = j := fun j => by unfold sw; split <;> split <;> (try split) <;> omega
  refine ⟨by simpa using h8, fun i hi => ?_, fun v hv => ?_, fun i j hi hj e => ?_⟩
  · rw [hr i hi.1]; exact h.rng _ (hs i hi)
  · obtain ⟨i, hi, e⟩ := h.sur v hv
    exact ⟨sw a b i, hs i hi, by rw [hr _ (hs i hi).1, hss, e]⟩
  · rw [hr i hi.1, hr j hj.1] at e
    have := h.inj _ _ (hs i hi) (hs j hj) e
    rw [← hss i, this, hss]
theorem perm0 : PermOk [0, 1, 2, 3, 4, 5, 6, 7] := by
  have hr : ∀ i, 0 ≤ i ∧ i ≤ 7 → rd [0, 1, 2, 3, 4, 5, 6, 7] i = i := fun i hi => by
    rcases (by omega : i = 0 ∨ i = 1 ∨ i = 2 ∨ i = 3 ∨ i = 4 ∨ i = 5 ∨ i = 6 ∨ i = 7) with e | e | e | e | e | e | e | e <;> subst e <;> rfl
  exact ⟨rfl, fun i hi => by rw [hr i hi]; exact hi, fun v hv => ⟨v, hv, hr v hv⟩, fun i j hi hj e => by rwa [hr i hi, hr j hj] at e⟩
theorem perm_l0 {xs : List Int} (hl : xs.length ≤ 1048576) : ∀ (d k : Nat) (x : List Int) (i p s : Int), i = d → i ≤ 7 → d < k → PermOk x → 0 ≤ p → ∃ y p' s', spec_l20Perm.l0 k x i xs p s = some (y, p', s') ∧ PermOk y := by
  intro d
  induction d with
  | zero =>
    intro k x i p s hd h7 hk hx hp
    obtain ⟨k, rfl⟩ : ∃ q, k = q + 1 := ⟨k - 1, by omega⟩
    simp only [spec_l20Perm.l0]
    rw [if_neg (by omega)]
    exact ⟨_, _, _, rfl, hx⟩
  | succ d ih =>
    intro k x i p s hd h7 hk hx hp
    obtain ⟨k, rfl⟩ : ∃ q, k = q + 1 := ⟨k - 1, by omega⟩
    have h8 := hx.len
    simp only [spec_l20Perm.l0]
    rw [if_pos (by omega), w64 (x := i + 1) (by omega) (by omega), w64 (x := i - 1) (by omega) (by omega)]
    obtain ⟨v1, p1, s1, e1, a1, b1, c1⟩ := below_ok s (i + 1) hl hp (by omega)
    rw [e1]; simp only [Option.bind_some]
    rw [if_pos (by omega), if_pos (by omega), if_pos a1, if_pos (by omega)]
    exact ih k _ (i - 1) _ _ (by omega) (by omega) (by omega) (hx.swap ⟨by omega, h7⟩ ⟨a1, by omega⟩) c1
theorem drawPerm_ok {k : Nat} {xs : List Int} (hl : xs.length ≤ 1048576) (hk : xs.length + 8 < k) : ∃ z, spec_DrawPermutation.f k xs = some z ∧ PermOk z := by
  unfold spec_DrawPermutation.f spec_l20Perm.f
  obtain ⟨s, e⟩ := new_ok (k := k) hl (by omega)
  rw [e]; simp only [Option.bind_some]
  obtain ⟨y, p, s2, e2, h2⟩ := perm_l0 hl 7 k _ 7 0 s (by omega) (by omega) (by omega) perm0 (by omega)
  rw [e2]
  exact ⟨y, rfl, h2⟩
theorem inv_spec {p : List Int} (hp : PermOk p) : ∀ (d : Nat) (y : List Int) (i : Int), 0 ≤ i → 8 - i = d → y.length = 8 → (∀ j, 0 ≤ j → j < i → rd y (rd p j) = j) → ∀ j, 0 ≤ j ∧ j ≤ 7 → rd (invAt (p.drop i.toNat) y i) (rd p j) = j := by
  have h8 := hp.len
  intro d
  induction d with
  | zero =>
    intro y i h0 hd hy h j hj
    rw [List.drop_of_length_le (by omega)]
    exact h j hj.1 (by omega)
  | succ d ih =>
    intro y i h0 hd hy h j hj
    rw [drop_rd h0 (by omega)]
    have hr := hp.rng i ⟨h0, by omega⟩
    refine ih _ (i + 1) (by omega) (by omega) (by simpa using hy) (fun m hm0 hm => ?_) j hj
    have hrm := hp.rng m ⟨hm0, by omega⟩
    rw [rd_set hr.1 hrm.1 (by omega)]
    by_cases e : m = i
    · subst e; rw [if_pos rfl]
    · rw [if_neg (fun q => e (hp.inj m i ⟨hm0, by omega⟩ ⟨h0, by omega⟩ q))]
      exact h m hm0 (by omega)
theorem inv_ok {p : List Int} (hp : PermOk p) : PermOk (invOf p) ∧ ∀ v, 0 ≤ v ∧ v ≤ 7 → rd p (rd (invOf p) v) = v := by
  have e : invOf p = invAt (p.drop (0 : Int).toNat) (List.replicate 8 0) 0 := by unfold invOf; rw [if_pos hp.isPerm]; rfl
  have h := inv_spec hp 8 (List.replicate 8 0) 0 (by omega) (by omega) (by simp) (fun j h0 h1 => by omega)
  rw [← e] at h
  have hv : ∀ v, 0 ≤ v ∧ v ≤ 7 → ∃ j, (0 ≤ j ∧ j ≤ 7) ∧ rd p j = v ∧ rd (invOf p) v = j := fun v hv => by
    obtain ⟨j, hj, e2⟩ := hp.sur v hv
    exact ⟨j, hj, e2, by rw [← e2]; exact h j hj⟩
  refine ⟨⟨by rw [e, invAt_len]; simp, fun i hi => ?_, fun v hv2 => ⟨rd p v, hp.rng v hv2, h v hv2⟩, fun i j hi hj e2 => ?_⟩, fun v hv2 => ?_⟩
  · obtain ⟨j, hj, _, e2⟩ := hv i hi
    rw [e2]; exact hj
  · obtain ⟨a, _, e3, e4⟩ := hv i hi
    obtain ⟨b, _, e5, e6⟩ := hv j hj
    rw [← e3, ← e5]; rw [e4, e6] at e2; rw [e2]
  · obtain ⟨a, _, e3, e4⟩ := hv v hv2
    rw [e4, e3]
theorem rd_ups (g : Int → Int) {i : Int} (h : 0 ≤ i ∧ i ≤ 7) : rd ((ups 8 0).map g) i = g i := by
  rcases (by omega : i = 0 ∨ i = 1 ∨ i = 2 ∨ i = 3 ∨ i = 4 ∨ i = 5 ∨ i = 6 ∨ i = 7) with e | e | e | e | e | e | e | e <;> subst e <;> rfl
theorem ext8 {a b : List Int} (ha : a.length = 8) (hb : b.length = 8) (h : ∀ i, 0 ≤ i ∧ i ≤ 7 → rd a i = rd b i) : a = b := by
  refine List.ext_getElem (by omega) fun n h1 h2 => ?_
  have := h (n : Int) (by omega)
  rw [← rd_get (i := (n : Int)) (by omega) (by simpa using h1), ← rd_get (i := (n : Int)) (by omega) (by simpa using h2)] at this
  simpa using this
theorem shuf_spec {V f : List Int} (hV : valuesOk V = true) (hf : f.length = 8) (hr : ∀ i, 0 ≤ i ∧ i ≤ 7 → 0 ≤ rd f i ∧ rd f i ≤ 7) : valuesOk (shuf V f) = true ∧ ∀ i, 0 ≤ i ∧ i ≤ 7 → rd (shuf V f) i = rd V (rd f i) := by
  have h8 := valuesOk_len hV
  have e : shuf V f = (ups 8 0).map (pickAt V f) := by unfold shuf; rw [if_pos ⟨hV, hf⟩]
  have hg : ∀ i, 0 ≤ i ∧ i ≤ 7 → pickAt V f i = rd V (rd f i) := fun i hi => by unfold pickAt; rw [if_pos (hr i hi)]
  refine ⟨?_, fun i hi => by rw [e, rd_ups _ hi, hg i hi]⟩
  have hw : V.all isWordB = true := by
    unfold valuesOk at hV
    rw [Bool.and_eq_true] at hV
    exact hV.2
  unfold valuesOk
  rw [e, decide_eq_true (by simp [ups]), Bool.true_and, List.all_eq_true]
  intro x hx
  obtain ⟨i, hi, e2⟩ := List.mem_map.1 hx
  have hi2 := ups_mem 8 0 i hi
  rw [← e2, hg i (by omega)]
  have := hr i (by omega)
  exact List.all_eq_true.1 hw _ (rd_mem this.1 (by omega))
theorem shufBy_spec {V : List Int} (hV : valuesOk V = true) (F : Int → Int) {d : Int} (hd : 0 ≤ d ∧ d ≤ 7) (hr : ∀ i, 0 ≤ i ∧ i ≤ 7 → 0 ≤ F i ∧ F i ≤ 7) : valuesOk (shufBy F V d) = true ∧ ∀ i, 0 ≤ i ∧ i ≤ 7 → rd (shufBy F V d) i = rd V (F i) := by
  have h := shuf_spec hV (f := (ups 8 0).map F) (by simp [ups]) (fun i hi => by rw [rd_ups _ hi]; exact hr i hi)
  unfold shufBy
  rw [if_pos hd]
  exact ⟨h.1, fun i hi => by rw [h.2 i hi, rd_ups _ hi]⟩
theorem xor_all : ((List.range 8).all fun i => (List.range 8).all fun d => decide (0 ≤ Go.bits .xor .i64 (i : Int) (d : Int) ∧ Go.bits .xor .i64 (i : Int) (d : Int) ≤ 7 ∧ Go.bits .xor .i64 (Go.bits .xor .i64 (i : Int) (d : Int)) (d : Int) = i)) = true := by decide +kernel
theorem xor_ok {i d : Int} (hi : 0 ≤ i ∧ i ≤ 7) (hd : 0 ≤ d ∧ d ≤ 7) : 0 ≤ Go.bits .xor .i64 i d ∧ Go.bits .xor .i64 i d ≤ 7 ∧ Go.bits .xor .i64 (Go.bits .xor .i64 i d) d = i := by
  have := List.all_eq_true.1 (List.all_eq_true.1 xor_all i.toNat (List.mem_range.2 (by omega))) d.toNat (List.mem_range.2 (by omega))
  rw [decide_eq_true_eq, show ((i.toNat : Nat) : Int) = i by omega, show ((d.toNat : Nat) : Int) = d by omega] at this
  exact this
theorem same_l0 (a : List Int) (ha : a.length = 8) : ∀ (d k : Nat) (i : Int), 0 ≤ i → 8 - i = d → d < k → laws_sameInts.l0 k a a i = some true := by
  intro d
  induction d with
  | zero =>
    intro k i h0 hd hk
    obtain ⟨k, rfl⟩ : ∃ q, k = q + 1 := ⟨k - 1, by omega⟩
    simp only [laws_sameInts.l0]
    rw [if_neg (by omega)]
  | succ d ih =>
    intro k i h0 hd hk
    obtain ⟨k, rfl⟩ : ∃ q, k = q + 1 := ⟨k - 1, by omega⟩
    simp only [laws_sameInts.l0, if_true]
    rw [if_pos (by omega), if_pos h0, if_pos (by omega), w64 (by omega) (by omega), ih k (i + 1) (by omega) (by omega) (by omega)]
theorem same_eq {k : Nat} {a : List Int} (ha : a.length = 8) (hk : 8 < k) : laws_sameInts.f k a a = some true := by
  unfold laws_sameInts.f
  rw [if_pos rfl, same_l0 a ha 8 k 0 (by omega) (by omega) hk]
theorem xorShuf_eq (l : List Int) (d : Int) : impl_ShuffleXor.f l d = some (shufBy (fun i => Go.bits .xor .i64 i d) l d) := impl_shufBy_eq _ l d
theorem rotShuf_eq (l : List Int) (d : Int) : impl_Rotate.f l d = some (shufBy (fun i => Int.tmod (wrap64 (i + d)) 8) l d) := impl_shufBy_eq _ l d
theorem rot_ok {i d : Int} (hi : 0 ≤ i ∧ i ≤ 7) (hd : 0 ≤ d ∧ d ≤ 7) : Int.tmod (wrap64 (i + d)) 8 = (i + d) % 8 := by
  rw [w64 (by omega) (by omega), Int.tmod_eq_emod_of_nonneg (by omega)]
theorem FnShuffles : laws_FnShuffles.Pure := by
  intro l hm
  unfold maxLen at hm
  by_cases h : l.length ≤ 1048576
  · obtain ⟨V, e1, hV⟩ := drawValues_ok (k := l.length + 150) h (by omega)
    obtain ⟨p, e2, hp⟩ := drawPerm_ok (k := l.length + 150) h (by omega)
    obtain ⟨P, e3, hP, hP2⟩ := drawPlaces_ok (k := l.length + 150) h (by omega)
    have h8 := valuesOk_len hV
    have hd0 := hP2 _ (rd_mem (l := P) (by omega : (0 : Int) ≤ 0) (by omega))
    have hd1 := hP2 _ (rd_mem (l := P) (by omega : (0 : Int) ≤ 1) (by omega))
    have ha : 0 ≤ Int.tmod (rd P 0) 8 ∧ Int.tmod (rd P 0) 8 ≤ 7 := by rw [Int.tmod_eq_emod_of_nonneg hd0.1]; omega
    have hb : 0 ≤ Int.tmod (rd P 1) 8 ∧ Int.tmod (rd P 1) 8 ≤ 7 := by rw [Int.tmod_eq_emod_of_nonneg hd1.1]; omega
    have hq := inv_ok hp
    have s1 := shuf_spec hV hp.len hp.rng
    have s2 := shuf_spec s1.1 hq.1.len hq.1.rng
    have t1 : shuf (shuf V p) (invOf p) = V := ext8 (valuesOk_len s2.1) h8 fun i hi => by
      rw [s2.2 i hi, s1.2 _ (hq.1.rng i hi), hq.2 i hi]
    refine ⟨l.length + 150, ?_⟩
    unfold laws_FnShuffles.f laws_big.f
    have hlp := hp.len
    have hlq := hq.1.len
    simp only [Option.bind_some, e1, e2, e3, xorShuf_eq, rotShuf_eq, impl_inv_eq (k := l.length + 150) (l := p) (by omega) (by omega), impl_isPerm_eq (k := l.length + 150) (l := p) (by omega) (by omega), impl_isPerm_eq (k := l.length + 150) (l := invOf p) (by omega) (by omega), impl_shuf_eq (k := l.length + 150) (by omega : 9 < l.length + 150), t1, same_eq (k := l.length + 150) h8 (by omega)]
    generalize Int.tmod (rd P 0) 8 = a at ha
    generalize Int.tmod (rd P 1) 8 = b at hb
    have hc : Int.tmod (wrap64 (a + b)) 8 = (a + b) % 8 := rot_ok ha hb
    have x1 := shufBy_spec hV (fun i => Go.bits .xor .i64 i a) ha (fun i hi => ⟨(xor_ok hi ha).1, (xor_ok hi ha).2.1⟩)
    have x2 := shufBy_spec x1.1 (fun i => Go.bits .xor .i64 i a) ha (fun i hi => ⟨(xor_ok hi ha).1, (xor_ok hi ha).2.1⟩)
    have t2 : shufBy (fun i => Go.bits .xor .i64 i a) (shufBy (fun i => Go.bits .xor .i64 i a) V a) a = V := ext8 (valuesOk_len x2.1) h8 fun i hi => by
      have hx := xor_ok hi ha
      rw [x2.2 i hi, x1.2 _ ⟨hx.1, hx.2.1⟩, hx.2.2]
    have hab : 0 ≤ (a + b) % 8 ∧ (a + b) % 8 ≤ 7 := by omega
    have rr : ∀ d, 0 ≤ d ∧ d ≤ 7 → ∀ i, 0 ≤ i ∧ i ≤ 7 → 0 ≤ Int.tmod (wrap64 (i + d)) 8 ∧ Int.tmod (wrap64 (i + d)) 8 ≤ 7 := fun d hd i hi => by rw [rot_ok hi hd]; omega
    have r1 := shufBy_spec hV (fun i => Int.tmod (wrap64 (i + a)) 8) ha (rr a ha)
    have r2 := shufBy_spec r1.1 (fun i => Int.tmod (wrap64 (i + b)) 8) hb (rr b hb)
    have r3 := shufBy_spec hV (fun i => Int.tmod (wrap64 (i + (a + b) % 8)) 8) hab (rr _ hab)
    have t3 : shufBy (fun i => Int.tmod (wrap64 (i + b)) 8) (shufBy (fun i => Int.tmod (wrap64 (i + a)) 8) V a) b = shufBy (fun i => Int.tmod (wrap64 (i + (a + b) % 8)) 8) V ((a + b) % 8) := ext8 (valuesOk_len r2.1) (valuesOk_len r3.1) fun i hi => by
      have hi2 := rr b hb i hi
      rw [r2.2 i hi, r1.2 _ hi2, r3.2 i hi]
      simp only [rot_ok hi2 ha, rot_ok hi hab]
      rw [rot_ok hi hb]
      congr 1
      omega
    rw [if_neg (by simp; omega), if_pos (by omega), if_pos (by omega), hp.isPerm, if_pos rfl, hq.1.isPerm, if_pos rfl, if_pos trivial, t2, hc, t3, same_eq h8 (by omega), same_eq (valuesOk_len r3.1) (by omega)]
    rfl
  · exact ⟨0, by unfold laws_FnShuffles.f laws_big.f; simp only [Option.bind_some]; rw [if_pos (by simp; omega)]⟩

end Go.Proofs.Ytcmimgoghmeliaa.Pure
