/-
  The votes over drawn values and a drawn mask agree with each other, lane by lane.
  No condition.
-/
import Derived.Test.YtcmimgoghmeliaaPFnVotesx3
namespace Go.Proofs.Ytcmimgoghmeliaa.Pure
open Go.RowKit Go.Proofs.Ytcmimgoghmeliaa.PFnVotes Go.Proofs.YtcmimgoghmeliaaW.PrintWords Go.Proofs.YtcmimgoghmeliaaW.PrintLast Go.Proofs.YtcmimgoghmeliaaW.PrintMore
set_option linter.unusedVariables false
set_option linter.unusedSimpArgs false

theorem w64 {x : Int} (h0 : -9223372036854775808 ≤ x) (h1 : x < 9223372036854775808) : wrap64 x = x := by unfold wrap64; omega
theorem drop_rd {l : List Int} {i : Int} (h0 : 0 ≤ i) (h1 : i < (l.length : Int)) : l.drop i.toNat = rd l i :: l.drop (i + 1).toNat := by
  have hi : i.toNat < l.length := by omega
  rw [show (i + 1).toNat = i.toNat + 1 by omega, List.drop_eq_getElem_cons hi]
  congr 1
  unfold rd
  rw [List.getD_eq_getElem?_getD, List.getElem?_eq_getElem hi]; rfl
theorem rd_mem {l : List Int} {i : Int} (h0 : 0 ≤ i) (h1 : i < (l.length : Int)) : rd l i ∈ l := by
  have hi : i.toNat < l.length := by omega
  unfold rd
  rw [List.getD_eq_getElem?_getD, List.getElem?_eq_getElem hi]
  exact List.getElem_mem hi
theorem take_set_succ {α : Type} {l x : List α} {i : Nat} (v : α) (hl : i < l.length) (hx : i < x.length) (h : x.take i = l.take i) (hv : l[i]'hl = v) : (x.set i v).take (i + 1) = l.take (i + 1) := by
  rw [List.take_succ_eq_append_getElem (by simpa using hx), List.take_succ_eq_append_getElem hl, List.take_set_of_le (Nat.le_refl i), h]
  simp [hv]
theorem rd_get {l : List Int} {i : Int} (h0 : 0 ≤ i) (h1 : i.toNat < l.length) : l[i.toNat]'h1 = rd l i := by
  unfold rd
  rw [List.getD_eq_getElem?_getD, List.getElem?_eq_getElem h1]; rfl
theorem need {p : Prop} (h : p) : p := h
theorem within_some (x a b : Int) : impl_within.f x a b = some (decide (a ≤ x ∧ x ≤ b)) := by
  unfold impl_within.f
  by_cases h : a ≤ x
  · rw [if_pos h]; simp [h]
  · rw [if_neg h]; simp [h]
def valuesOk (l : List Int) : Bool := decide (l.length = 8) && l.all isWordB
theorem valuesOk_len {l : List Int} (h : valuesOk l = true) : l.length = 8 := by simp [valuesOk] at h; exact h.1
theorem impl_valuesOk_eq {l : List Int} : impl_ValuesOk.f l = some (valuesOk l) := by
  unfold impl_ValuesOk.f impl_AreWords.f valuesOk
  by_cases h : l.length = 8
  · rw [if_pos (by omega)]; simp [h]
  · rw [if_neg (by omega)]; simp [h]
def ups : Nat → Int → List Int
  | 0, _ => []
  | n + 1, i => i :: ups n (i + 1)
theorem ups_mem : ∀ (n : Nat) (i x : Int), x ∈ ups n i → i ≤ x ∧ x < i + n
  | 0, _, _, h => by simp [ups] at h
  | n + 1, i, x, h => by
    rw [ups, List.mem_cons] at h
    rcases h with rfl | h
    · omega
    · have := ups_mem n (i + 1) x h; omega
theorem ups_mem_of : ∀ (n : Nat) (i x : Int), i ≤ x → x < i + n → x ∈ ups n i
  | 0, _, _, _, _ => by omega
  | n + 1, i, x, h0, h1 => by
    rw [ups, List.mem_cons]
    by_cases e : x = i
    · exact .inl e
    · exact .inr (ups_mem_of n (i + 1) x (by omega) (by omega))
theorem ups_len : ∀ (n : Nat) (i : Int), (ups n i).length = n
  | 0, _ => rfl
  | n + 1, i => by rw [ups, List.length_cons, ups_len]
def isMaskB (m : Int) : Bool := decide (0 ≤ m ∧ m ≤ 255)
def bitB (m i : Int) : Bool := Go.bits .and .i64 (shr .i64 m i) 1 == 1
def hasB (m i : Int) : Bool := isMaskB m && decide (0 ≤ i ∧ i ≤ 7) && bitB m i
def lanes (m : Int) : List Int := (ups 8 0).filter (hasB m)
theorem hasB_in {m i : Int} (h : hasB m i = true) : 0 ≤ i ∧ i ≤ 7 := by simp [hasB] at h; exact h.1.2
theorem hasB_mask {m i : Int} (h : hasB m i = true) : isMaskB m = true := by simp [hasB] at h; exact h.1.1
theorem lanes_in {m x : Int} (h : x ∈ lanes m) : 0 ≤ x ∧ x ≤ 7 := hasB_in (List.mem_filter.1 h).2
theorem lanes_mem {m x : Int} : x ∈ lanes m ↔ hasB m x = true := by
  unfold lanes
  rw [List.mem_filter]
  exact ⟨fun h => h.2, fun h => ⟨ups_mem_of 8 0 x (hasB_in h).1 (by have := (hasB_in h).2; omega), h⟩⟩
theorem lanes_not {m : Int} (h : isMaskB m = false) : lanes m = [] := by
  unfold lanes
  rw [List.filter_eq_nil_iff]
  intro x _ hx
  rw [hasB_mask hx] at h
  exact absurd h (by decide)
theorem lanes_len (m : Int) : (lanes m).length ≤ 8 := by
  unfold lanes
  have := List.length_filter_le (hasB m) (ups 8 0)
  rwa [ups_len] at this
theorem impl_isMask_eq (m : Int) : impl_IsMask.f m = some (isMaskB m) := by
  unfold impl_IsMask.f isMaskB
  rw [within_some]; rfl
theorem impl_hasLane_eq (m i : Int) : impl_HasLane.f m i = some (hasB m i) := by
  unfold impl_HasLane.f impl_isLane.f hasB
  rw [impl_isMask_eq]; simp only [Option.bind_some, within_some]
  cases hm : isMaskB m with
  | false => rw [if_neg (by decide)]; simp
  | true =>
    rw [if_pos rfl]
    by_cases h : 0 ≤ i ∧ i ≤ 7
    · rw [if_pos (by simpa using h), if_pos h.1]; simp [h, bitB]
    · rw [if_neg (by simpa using h)]; simp [h]
theorem impl_lanesOf_l0 (m : Int) : ∀ (d k : Nat) (acc : List Int) (i : Int), 0 ≤ i → 8 - i = d → d < k → acc.length ≤ i → impl_LanesOf.l0 k m acc i = some (acc ++ (ups d i).filter (hasB m)) := by
  intro d
  induction d with
  | zero =>
    intro k acc i h0 hd hk hl
    obtain ⟨k, rfl⟩ : ∃ q, k = q + 1 := ⟨k - 1, by omega⟩
    simp only [impl_LanesOf.l0]
    rw [if_neg (by omega)]; simp [ups]
  | succ d ih =>
    intro k acc i h0 hd hk hl
    obtain ⟨k, rfl⟩ : ∃ q, k = q + 1 := ⟨k - 1, by omega⟩
    simp only [impl_LanesOf.l0, impl_hasLane_eq, Option.bind_some]
    rw [if_pos (by omega), w64 (by omega) (by omega), ups, List.filter_cons]
    by_cases h : hasB m i = true
    · rw [if_pos h, if_pos (by omega), if_pos h, ih k _ (i + 1) (by omega) (by omega) (by omega) (by rw [List.length_append, List.length_singleton]; omega)]
      simp
    · rw [if_neg h, if_neg h, ih k _ (i + 1) (by omega) (by omega) (by omega) (by omega)]
theorem impl_lanesOf_eq {k : Nat} (m : Int) (hk : 8 < k) : impl_LanesOf.f k m = some (lanes m) := by
  unfold impl_LanesOf.f lanes
  rw [impl_lanesOf_l0 m 8 k [] 0 (by omega) (by omega) hk (by simp)]; rfl
theorem impl_areVotes_eq (l : List Int) (m : Int) : impl_areVotes.f l m = some (valuesOk l && isMaskB m) := by
  unfold impl_areVotes.f
  rw [impl_valuesOk_eq]; simp only [Option.bind_some, impl_isMask_eq]
  cases valuesOk l <;> simp
theorem whereAll_nil (p : Int → Bool) (m : Int) : whereAll p [] m = m := rfl
theorem whereAll_cons (p : Int → Bool) (x m : Int) (r : List Int) : whereAll p (x :: r) m = whereAll p r (if p x = true then Go.bits .or .i64 m (shl .i64 1 x) else m) := rfl
def ballot (l : List Int) (m : Int) : Int := if (valuesOk l && isMaskB m) = true then whereAll (fun x => rd l x != 0) (lanes m) 0 else 0
theorem impl_ballot_eq (l : List Int) (m : Int) : impl_Ballot.f l m = some (ballot l m) := by
  unfold impl_Ballot.f ballot
  rw [impl_areVotes_eq]; simp only [Option.bind_some, impl_lanesOf_eq m (by omega : 8 < 9)]
  by_cases h : (valuesOk l && isMaskB m) = true
  · rw [if_pos h, if_pos h, if_pos]
    rw [Bool.and_eq_true] at h
    unfold okLanes
    rw [List.all_eq_true]
    intro x hx
    have := lanes_in hx
    have := valuesOk_len h.1
    simp; omega
  · rw [if_neg h, if_neg h]
theorem and255 (n : Int) : Go.bits .and .i64 n 255 = n % 256 := by
  unfold Go.bits
  have h : (BitVec.ofInt 64 n &&& BitVec.ofInt 64 255).toNat = ((n % 256).toNat) := by
    rw [BitVec.toNat_and, show (BitVec.ofInt 64 255).toNat = 2 ^ 8 - 1 by decide, Nat.and_two_pow_sub_one_eq_mod, BitVec.toNat_ofInt]
    omega
  show IntKind.i64.wrap (((BitVec.ofInt 64 n &&& BitVec.ofInt 64 255).toNat : Nat) : Int) = _
  rw [h]
  unfold IntKind.wrap
  have e : ((2 : Int) ^ IntKind.i64.bits) = 18446744073709551616 := by decide
  have e2 : ((2 : Int) ^ (IntKind.i64.bits - 1)) = 9223372036854775808 := by decide
  rw [e, e2]
  have h2 : (((n % 256).toNat : Nat) : Int) % 18446744073709551616 = n % 256 := by omega
  simp only [h2]
  rw [if_neg (by simp; omega)]
theorem byte_ok {xs : List Int} {p : Int} (s : Int) (hl : xs.length ≤ 1048576) (hp : 0 ≤ p) : ∃ v p' s', spec_l01Byte.f xs p s = some (v, p', s') ∧ 0 ≤ v ∧ v ≤ 255 ∧ 0 ≤ p' := by
  unfold spec_l01Byte.f
  by_cases h : p < (xs.length : Int)
  · rw [if_pos h, if_pos hp, w64 (x := p + 1) (by omega) (by omega)]
    exact ⟨_, _, _, rfl, by rw [and255]; omega, by rw [and255]; omega, by omega⟩
  · rw [if_neg h]
    exact ⟨_, _, _, rfl, by rw [and255]; omega, by rw [and255]; omega, hp⟩
theorem below_ok {xs : List Int} {p : Int} (s n : Int) (hl : xs.length ≤ 1048576) (hp : 0 ≤ p) (hn : 0 < n) : ∃ v p' s', spec_l01Below.f xs p s n = some (v, p', s') ∧ 0 ≤ v ∧ v < n ∧ 0 ≤ p' := by
  unfold spec_l01Below.f
  obtain ⟨v1, p1, s1, e1, a1, b1, c1⟩ := byte_ok s hl hp
  rw [if_neg (by omega), e1]; simp only [Option.bind_some]
  by_cases h : n ≤ 256
  · rw [if_pos h, if_neg (by omega)]
    refine ⟨_, _, _, rfl, ?_, ?_, c1⟩
    · rw [Int.tmod_eq_emod_of_nonneg a1]; exact Int.emod_nonneg _ (by omega)
    · rw [Int.tmod_eq_emod_of_nonneg a1]; exact Int.emod_lt_of_pos _ hn
  · obtain ⟨v2, p2, s2, e2, a2, b2, c2⟩ := byte_ok s1 hl c1
    obtain ⟨v3, p3, s3, e3, a3, b3, c3⟩ := byte_ok s2 hl c2
    obtain ⟨v4, p4, s4, e4, a4, b4, c4⟩ := byte_ok s3 hl c3
    rw [if_neg h, e2]; simp only [Option.bind_some]
    rw [e3]; simp only [Option.bind_some]
    rw [e4]; simp only [Option.bind_some]
    rw [if_neg (by omega), w64 (x := v1 * 16777216) (by omega) (by omega), w64 (x := v2 * 65536) (by omega) (by omega), w64 (x := v3 * 256) (by omega) (by omega), w64 (x := v1 * 16777216 + v2 * 65536) (by omega) (by omega), w64 (x := v1 * 16777216 + v2 * 65536 + v3 * 256) (by omega) (by omega), w64 (x := v1 * 16777216 + v2 * 65536 + v3 * 256 + v4) (by omega) (by omega)]
    refine ⟨_, _, _, rfl, ?_, ?_, c4⟩
    · rw [Int.tmod_eq_emod_of_nonneg (by omega)]; exact Int.emod_nonneg _ (by omega)
    · rw [Int.tmod_eq_emod_of_nonneg (by omega)]; exact Int.emod_lt_of_pos _ hn
theorem pick_ok {xs : List Int} {p : Int} (s : Int) {l : List Int} (hl : xs.length ≤ 1048576) (hp : 0 ≤ p) (h1 : 0 < l.length) : ∃ v p' s', spec_l01PickInt.f xs p s l = some (v, p', s') ∧ v ∈ l ∧ 0 ≤ p' := by
  unfold spec_l01PickInt.f
  obtain ⟨v1, p1, s1, e1, a1, b1, c1⟩ := below_ok s (l.length : Int) hl hp (by omega)
  rw [e1]; simp only [Option.bind_some]
  rw [if_pos a1, if_pos b1]
  exact ⟨_, _, _, rfl, rd_mem a1 b1, c1⟩
theorem new_l0 (l : List Int) (hl : l.length ≤ 1048576) : ∀ (d k : Nat) (s i : Int), 0 ≤ i → (l.length : Int) - i = d → d < k → ∃ s', spec_l01New.l0 k l s i = some (l, 0, s') := by
  intro d
  induction d with
  | zero =>
    intro k s i h0 hd hk
    obtain ⟨k, rfl⟩ : ∃ q, k = q + 1 := ⟨k - 1, by omega⟩
    simp only [spec_l01New.l0]
    rw [if_neg (by omega)]
    exact ⟨_, rfl⟩
  | succ d ih =>
    intro k s i h0 hd hk
    obtain ⟨k, rfl⟩ : ∃ q, k = q + 1 := ⟨k - 1, by omega⟩
    simp only [spec_l01New.l0]
    rw [if_pos (by omega)]
    by_cases h : i < 4000
    · rw [if_pos h, if_pos h0, w64 (x := i + 1) (by omega) (by omega)]
      exact ih k _ (i + 1) (by omega) (by omega) (by omega)
    · rw [if_neg h]; exact ⟨_, rfl⟩
theorem new_ok {k : Nat} {l : List Int} (hl : l.length ≤ 1048576) (hk : l.length < k) : ∃ s', spec_l01New.f k l = some (l, 0, s') := by
  unfold spec_l01New.f
  exact new_l0 l hl l.length k _ 0 (by omega) (by omega) hk
theorem word_ok {xs : List Int} {p : Int} (s : Int) (hl : xs.length ≤ 1048576) (hp : 0 ≤ p) : ∃ v p' s', spec_l02Word.f xs p s = some (v, p', s') ∧ (0 ≤ v ∧ v ≤ 65535) ∧ 0 ≤ p' := by
  unfold spec_l02Word.f
  obtain ⟨v1, p1, s1, e1, a1, b1, c1⟩ := below_ok s 9 hl hp (by omega)
  rw [e1]; simp only [Option.bind_some]
  obtain ⟨v2, p2, s2, e2, a2, b2, c2⟩ := below_ok s1 9000 hl c1 (by omega)
  rw [e2]; simp only [Option.bind_some]
  obtain ⟨v3, p3, s3, e3, a3, c3⟩ := pick_ok s2 (l := [0, 1, 2, 7, 100, 65535, 32768, v1, v2]) hl c2 (by simp)
  rw [e3]; simp only [Option.bind_some]
  refine ⟨_, _, _, rfl, ?_, c3⟩
  simp only [List.mem_cons, List.not_mem_nil, or_false] at a3
  omega
theorem values_l0 {xs : List Int} (hl : xs.length ≤ 1048576) : ∀ (d k : Nat) (y : List Int) (i p s : Int), 0 ≤ i → 8 - i = d → d < k → y.length = i.toNat → (∀ x ∈ y, 0 ≤ x ∧ x ≤ 65535) → 0 ≤ p →
    ∃ z p' s', spec_l19Values.l0 k y i xs p s = some (z, p', s') ∧ z.length = 8 ∧ (∀ x ∈ z, 0 ≤ x ∧ x ≤ 65535) ∧ 0 ≤ p' := by
  intro d
  induction d with
  | zero =>
    intro k y i p s h0 hd hk hy hm hp
    obtain ⟨k, rfl⟩ : ∃ q, k = q + 1 := ⟨k - 1, by omega⟩
    simp only [spec_l19Values.l0]
    rw [if_neg (by omega)]
    exact ⟨_, _, _, rfl, by omega, hm, hp⟩
  | succ d ih =>
    intro k y i p s h0 hd hk hy hm hp
    obtain ⟨k, rfl⟩ : ∃ q, k = q + 1 := ⟨k - 1, by omega⟩
    simp only [spec_l19Values.l0]
    obtain ⟨v1, p1, s1, e1, a1, c1⟩ := word_ok s hl hp
    rw [if_pos (by omega), e1]; simp only [Option.bind_some]
    obtain ⟨v2, p2, s2, e2, a2, c2⟩ := pick_ok s1 (l := [0, 0, 1, 2, 5, v1]) hl c1 (by simp)
    rw [e2]; simp only [Option.bind_some]
    rw [if_pos (by omega), w64 (x := i + 1) (by omega) (by omega)]
    refine ih k _ (i + 1) _ _ (by omega) (by omega) (by omega) (by simp; omega) ?_ c2
    intro x hx
    rw [List.mem_append, List.mem_singleton] at hx
    rcases hx with hx | rfl
    · exact hm x hx
    · simp only [List.mem_cons, List.not_mem_nil, or_false] at a2
      omega
theorem drawValues_ok {k : Nat} {xs : List Int} (hl : xs.length ≤ 1048576) (hk : xs.length + 9 < k) : ∃ z, spec_DrawValues.f k xs = some z ∧ valuesOk z = true := by
  unfold spec_DrawValues.f spec_l19Values.f
  obtain ⟨s, e⟩ := new_ok (k := k) hl (by omega)
  rw [e]; simp only [Option.bind_some]
  obtain ⟨z, p, s2, e2, h8, hm, _⟩ := values_l0 hl 8 k [] 0 0 s (by omega) (by omega) (by omega) rfl (by simp) (by omega)
  rw [e2]; simp only [Option.bind_some]
  refine ⟨z, rfl, ?_⟩
  simp only [valuesOk, h8, Bool.and_eq_true, decide_eq_true_eq, List.all_eq_true, isWordB, true_and]
  exact hm
theorem drawMask_ok {k : Nat} {xs : List Int} (hl : xs.length ≤ 1048576) (hk : xs.length < k) : ∃ m, spec_DrawMask.f k xs = some m ∧ isMaskB m = true := by
  unfold spec_DrawMask.f spec_l03Mask.f
  obtain ⟨s, e⟩ := new_ok (k := k) hl (by omega)
  rw [e]; simp only [Option.bind_some]
  obtain ⟨v1, p1, s1, e1, a1, b1, c1⟩ := below_ok s 256 hl (by omega : (0 : Int) ≤ 0) (by omega)
  rw [e1]; simp only [Option.bind_some]
  obtain ⟨v2, p2, s2, e2, a2, b2, c2⟩ := below_ok s1 256 hl c1 (by omega)
  rw [e2]; simp only [Option.bind_some]
  obtain ⟨v3, p3, s3, e3, a3, c3⟩ := pick_ok s2 (l := [255, 0, 1, 15, 170, v1, v2]) hl c2 (by simp)
  rw [e3]; simp only [Option.bind_some]
  refine ⟨_, rfl, ?_⟩
  simp only [List.mem_cons, List.not_mem_nil, or_false] at a3
  simp only [isMaskB, decide_eq_true_eq]
  omega
theorem and1 (n : Int) : Go.bits .and .i64 n 1 = n % 2 := by
  unfold Go.bits
  have h : (BitVec.ofInt 64 n &&& BitVec.ofInt 64 1).toNat = ((n % 2).toNat) := by
    rw [BitVec.toNat_and, show (BitVec.ofInt 64 1).toNat = 2 ^ 1 - 1 by decide, Nat.and_two_pow_sub_one_eq_mod, BitVec.toNat_ofInt]
    omega
  show IntKind.i64.wrap (((BitVec.ofInt 64 n &&& BitVec.ofInt 64 1).toNat : Nat) : Int) = _
  rw [h]
  unfold IntKind.wrap
  have e : ((2 : Int) ^ IntKind.i64.bits) = 18446744073709551616 := by decide
  have e2 : ((2 : Int) ^ (IntKind.i64.bits - 1)) = 9223372036854775808 := by decide
  rw [e, e2]
  have h2 : (((n % 2).toNat : Nat) : Int) % 18446744073709551616 = n % 2 := by omega
  simp only [h2]
  rw [if_neg (by simp; omega)]
theorem orB {a b : Int} (ha : 0 ≤ a ∧ a ≤ 255) (hb : 0 ≤ b ∧ b ≤ 255) : Go.bits .or .i64 a b = ((a.toNat ||| b.toNat : Nat) : Int) ∧ (a.toNat ||| b.toNat) < 256 := by
  have hlt : (a.toNat ||| b.toNat) < 2 ^ 8 := Nat.or_lt_two_pow (by omega) (by omega)
  refine ⟨?_, by omega⟩
  unfold Go.bits
  have h : (BitVec.ofInt 64 a ||| BitVec.ofInt 64 b).toNat = (a.toNat ||| b.toNat) := by
    rw [BitVec.toNat_or, BitVec.toNat_ofInt, BitVec.toNat_ofInt]
    have e1 : (a % ((2 ^ 64 : Nat) : Int)).toNat = a.toNat := by omega
    have e2 : (b % ((2 ^ 64 : Nat) : Int)).toNat = b.toNat := by omega
    rw [e1, e2]
  show IntKind.i64.wrap (((BitVec.ofInt 64 a ||| BitVec.ofInt 64 b).toNat : Nat) : Int) = _
  rw [h]
  generalize (a.toNat ||| b.toNat) = n at hlt
  unfold IntKind.wrap
  have e : ((2 : Int) ^ IntKind.i64.bits) = 18446744073709551616 := by decide
  have e2 : ((2 : Int) ^ (IntKind.i64.bits - 1)) = 9223372036854775808 := by decide
  rw [e, e2]
  have h2 : ((n : Nat) : Int) % 18446744073709551616 = n := by omega
  simp only [h2]
  rw [if_neg (by simp; omega)]
theorem hasB_bit {m i : Int} (hm : 0 ≤ m ∧ m ≤ 255) (hi : 0 ≤ i ∧ i ≤ 7) : hasB m i = m.toNat.testBit i.toNat := by
  unfold hasB isMaskB bitB
  rw [decide_eq_true hm, decide_eq_true hi, Bool.true_and, Bool.true_and]
  have e : shr .i64 m i = m / 2 ^ i.toNat := by
    unfold shr
    rw [Nat.min_eq_left (by show i.toNat ≤ 64; omega)]
  rw [and1, e, Nat.testBit_eq_decide_div_mod_eq]
  obtain ⟨n, rfl⟩ := Int.eq_ofNat_of_zero_le hm.1
  have e2 : ((n : Int) / 2 ^ i.toNat) % 2 = ((n / 2 ^ i.toNat % 2 : Nat) : Int) := by push_cast; rfl
  rw [e2, Int.toNat_natCast]
  by_cases h : n / 2 ^ i.toNat % 2 = 1
  · rw [h]; rfl
  · rw [decide_eq_false h]; simp; omega
theorem shl1 {x : Int} (hx : 0 ≤ x ∧ x ≤ 7) : shl .i64 1 x = ((2 ^ x.toNat : Nat) : Int) ∧ (2 ^ x.toNat : Nat) < 256 := by
  rcases (by omega : x = 0 ∨ x = 1 ∨ x = 2 ∨ x = 3 ∨ x = 4 ∨ x = 5 ∨ x = 6 ∨ x = 7) with e | e | e | e | e | e | e | e <;> subst e <;> decide
theorem isMask_iff {m : Int} : isMaskB m = true ↔ 0 ≤ m ∧ m ≤ 255 := by simp [isMaskB]
theorem hasB_orM {a b : Int} (ha : isMaskB a = true) (hb : isMaskB b = true) : isMaskB (Go.bits .or .i64 a b) = true ∧ ∀ j, hasB (Go.bits .or .i64 a b) j = (hasB a j || hasB b j) := by
  rw [isMask_iff] at ha hb
  have h := orB ha hb
  have hm : 0 ≤ Go.bits .or .i64 a b ∧ Go.bits .or .i64 a b ≤ 255 := by rw [h.1]; omega
  refine ⟨isMask_iff.2 hm, fun j => ?_⟩
  by_cases hj : 0 ≤ j ∧ j ≤ 7
  · rw [hasB_bit hm hj, hasB_bit ha hj, hasB_bit hb hj, h.1, Int.toNat_natCast, Nat.testBit_or]
  · have q : ∀ m, hasB m j = false := fun m => by
      cases e : hasB m j
      · rfl
      · exact absurd (hasB_in e) hj
    rw [q, q, q]; rfl
theorem mask_shl {x : Int} (hx : 0 ≤ x ∧ x ≤ 7) : isMaskB (shl .i64 1 x) = true ∧ ∀ j, hasB (shl .i64 1 x) j = (j == x) := by
  have h := shl1 hx
  have hm : 0 ≤ shl .i64 1 x ∧ shl .i64 1 x ≤ 255 := by
    have h2 := h.2
    rw [h.1]
    generalize (2 ^ x.toNat : Nat) = n at h2 ⊢
    omega
  refine ⟨isMask_iff.2 hm, fun j => ?_⟩
  by_cases hj : 0 ≤ j ∧ j ≤ 7
  · rw [hasB_bit hm hj, h.1, Int.toNat_natCast, Nat.testBit_two_pow]
    by_cases e : j = x
    · subst e; simp
    · rw [decide_eq_false (by omega)]; simp [e]
  · cases e : hasB (shl .i64 1 x) j
    · by_cases e2 : j = x
      · omega
      · simp [e2]
    · exact absurd (hasB_in e) hj
theorem hasB_zero (j : Int) : hasB 0 j = false := by
  cases e : hasB 0 j
  · rfl
  · rw [hasB_bit (by omega) (hasB_in e)] at e
    simp at e
theorem mask_ext {a b : Int} (ha : isMaskB a = true) (hb : isMaskB b = true) (h : ∀ j, hasB a j = hasB b j) : a = b := by
  rw [isMask_iff] at ha hb
  have : a.toNat = b.toNat := by
    apply Nat.eq_of_testBit_eq
    intro i
    by_cases hi : i ≤ 7
    · have := h (i : Int)
      rwa [hasB_bit ha (by omega), hasB_bit hb (by omega), Int.toNat_natCast] at this
    · rw [Nat.testBit_lt_two_pow, Nat.testBit_lt_two_pow]
      · exact Nat.lt_of_lt_of_le (by omega : b.toNat < 2 ^ 8) (Nat.pow_le_pow_right (by omega) (by omega))
      · exact Nat.lt_of_lt_of_le (by omega : a.toNat < 2 ^ 8) (Nat.pow_le_pow_right (by omega) (by omega))
  omega
theorem where_has (p : Int → Bool) : ∀ (L : List Int) (m : Int), (∀ x ∈ L, 0 ≤ x ∧ x ≤ 7) → isMaskB m = true → isMaskB (whereAll p L m) = true ∧ ∀ j, hasB (whereAll p L m) j = true ↔ hasB m j = true ∨ (j ∈ L ∧ p j = true)
  | [], m, _, hm => ⟨hm, fun j => by simp [whereAll]⟩
  | x :: L, m, hL, hm => by
    have hx := hL x (List.mem_cons_self ..)
    rw [whereAll_cons]
    by_cases h : p x = true
    · rw [if_pos h]
      have h2 := hasB_orM hm (mask_shl hx).1
      obtain ⟨h3, h4⟩ := where_has p L _ (fun y hy => hL y (List.mem_cons_of_mem _ hy)) h2.1
      refine ⟨h3, fun j => ?_⟩
      rw [h4 j, h2.2 j, (mask_shl hx).2 j, List.mem_cons, Bool.or_eq_true, beq_iff_eq]
      constructor
      · rintro ((h5 | h5) | ⟨h5, h6⟩)
        · exact .inl h5
        · exact .inr ⟨.inl h5, by rw [h5]; exact h⟩
        · exact .inr ⟨.inr h5, h6⟩
      · rintro (h5 | ⟨h5 | h5, h6⟩)
        · exact .inl (.inl h5)
        · exact .inl (.inr h5)
        · exact .inr ⟨h5, h6⟩
    · rw [if_neg h]
      obtain ⟨h3, h4⟩ := where_has p L m (fun y hy => hL y (List.mem_cons_of_mem _ hy)) hm
      refine ⟨h3, fun j => ?_⟩
      rw [h4 j, List.mem_cons]
      constructor
      · rintro (h5 | ⟨h5, h6⟩)
        · exact .inl h5
        · exact .inr ⟨.inr h5, h6⟩
      · rintro (h5 | ⟨h5 | h5, h6⟩)
        · exact .inl h5
        · exact absurd (h5 ▸ h6) h
        · exact .inr ⟨h5, h6⟩

theorem ones_all : ((List.range 256).all fun n => bits_OnesCount.f (IntKind.u64.wrap (n : Int)) == some ((lanes n).length : Int)) = true := by decide +kernel
theorem count_eq {m : Int} (hm : isMaskB m = true) : impl_CountLanes.f m = some ((lanes m).length : Int) := by
  unfold impl_CountLanes.f
  rw [impl_isMask_eq, hm]; simp only [Option.bind_some, if_true]
  rw [isMask_iff] at hm
  have := List.all_eq_true.1 ones_all m.toNat (List.mem_range.2 (by omega))
  rw [show ((m.toNat : Nat) : Int) = m by omega] at this
  rw [eq_of_beq this]; rfl
theorem ballot_has {V : List Int} (hV : valuesOk V = true) {M : Int} (hM : isMaskB M = true) : isMaskB (ballot V M) = true ∧ ∀ j, hasB (ballot V M) j = true ↔ hasB M j = true ∧ rd V j ≠ 0 := by
  unfold ballot
  rw [hV, hM, if_pos (by decide)]
  have := where_has (fun x => rd V x != 0) (lanes M) 0 (fun x hx => lanes_in hx) (by decide)
  refine ⟨this.1, fun j => ?_⟩
  rw [this.2 j, hasB_zero, lanes_mem]
  simp
def zeroB (V : List Int) (M : Int) (j : Int) : Bool := hasB M j && rd V j == 0
theorem split_len {V : List Int} {M B : Int} (hB : ∀ j, hasB B j = true ↔ hasB M j = true ∧ rd V j ≠ 0) : ∀ L : List Int, (L.filter (hasB M)).length = (L.filter (hasB B)).length + (L.filter (zeroB V M)).length
  | [] => rfl
  | x :: L => by
    have ih := split_len hB L
    have h := hB x
    rw [List.filter_cons, List.filter_cons, List.filter_cons]
    unfold zeroB at ih ⊢
    by_cases h1 : hasB M x = true
    · by_cases h2 : rd V x = 0
      · have h3 : hasB B x = false := by
          cases e : hasB B x
          · rfl
          · exact absurd h2 (h.1 e).2
        simp [h1, h2, h3]; omega
      · have h3 := h.2 ⟨h1, h2⟩
        simp [h1, h2, h3]; omega
    · have h3 : hasB B x = false := by
        cases e : hasB B x
        · rfl
        · exact absurd (h.1 e).1 h1
      simp [h1, h3]; omega
theorem votes_l0 {V : List Int} (hV : valuesOk V = true) {M : Int} (hM : isMaskB M = true) : ∀ (d k : Nat) (z i : Int), 0 ≤ i → 8 - i = d → 2 * d + 10 < k → 0 ≤ z → z + ((ups d i).filter (zeroB V M)).length = ((ups 8 0).filter (zeroB V M)).length → laws_FnVotes.l0 k V M (ballot V M) z i = some true := by
  have hb := ballot_has hV hM
  have h8 := valuesOk_len hV
  intro d
  induction d with
  | zero =>
    intro k z i h0 hd hk hz hc
    obtain ⟨k, rfl⟩ : ∃ q, k = q + 1 := ⟨k - 1, by omega⟩
    have hs := split_len hb.2 (ups 8 0)
    change (lanes M).length = (lanes (ballot V M)).length + _ at hs
    have hl1 := lanes_len M
    have hl2 := lanes_len (ballot V M)
    rw [show ups 0 i = [] from rfl, List.filter_nil, List.length_nil] at hc
    simp only [laws_FnVotes.l0, impl_Leader.f, impl_lanesOf_eq M (by omega : 8 < k), count_eq hM, count_eq hb.1, impl_VoteAll.f, impl_VoteAny.f, impl_areVotes_eq, impl_ballot_eq, impl_hasLane_eq, Option.bind_some]
    rw [if_neg (by omega), hV, hM, w64 (by omega) (by omega)]
    have hall : (ballot V M == M) = (z == 0) := by
      rw [Bool.eq_iff_iff, beq_iff_eq, beq_iff_eq]
      constructor
      · intro e
        rw [e] at hs; omega
      · intro e
        refine mask_ext hb.1 hM fun j => ?_
        rw [Bool.eq_iff_iff, hb.2 j]
        refine ⟨fun h => h.1, fun h => ⟨h, fun h2 => ?_⟩⟩
        have hj := hasB_in h
        have hmem : j ∈ (ups 8 0).filter (zeroB V M) := List.mem_filter.2 ⟨ups_mem_of 8 0 j hj.1 (by omega), by simp [zeroB, h, h2]⟩
        have := List.length_pos_of_mem hmem
        omega
    have hlead : ∀ r : Int → Option Bool, ((if ((lanes M).length : Int) = 0 then some (-1 : Int) else if (0 : Int) < ((lanes M).length : Int) then some (rd (lanes M) 0) else none).bind r) = if M = 0 then r (-1) else r (rd (lanes M) 0) := by
      intro r
      by_cases e : M = 0
      · have : lanes M = [] := by rw [e]; unfold lanes; rw [List.filter_eq_nil_iff]; intro x _; rw [hasB_zero]; decide
        rw [if_pos e, this]; rfl
      · have : (lanes M).length ≠ 0 := fun h => e (mask_ext hM (by decide) fun j => by
          rw [hasB_zero]
          cases q : hasB M j
          · rfl
          · have := lanes_mem.2 q
            rw [List.length_eq_zero_iff.1 h] at this
            exact absurd this (by simp))
        rw [if_neg e, if_neg (by omega), if_pos (by omega)]; rfl
    rw [hlead]
    rw [if_pos (by decide : (true && true) = true)]
    simp only [Option.bind_some, hall, beq_self_eq_true, if_true]
    by_cases e : M = 0
    · rw [if_pos e, if_pos (by omega), if_pos (by rw [e]; decide), if_pos (by decide)]
    · have : (lanes M).length ≠ 0 := fun h => e (mask_ext hM (by decide) fun j => by
          rw [hasB_zero]
          cases q : hasB M j
          · rfl
          · have := lanes_mem.2 q
            rw [List.length_eq_zero_iff.1 h] at this
            exact absurd this (by simp))
      have hm := rd_mem (l := lanes M) (by omega : (0 : Int) ≤ 0) (by omega)
      have hi := lanes_in hm
      have e2 : (M == 0) = false := by simpa using e
      rw [if_neg e, if_pos (by omega), decide_eq_false (by omega : ¬ rd (lanes M) 0 < 0), e2, if_pos (by decide), if_neg (by omega), lanes_mem.1 hm]
  | succ d ih =>
    intro k z i h0 hd hk hz hc
    obtain ⟨k, rfl⟩ : ∃ q, k = q + 1 + 1 := ⟨k - 2, by omega⟩
    rw [ups, List.filter_cons] at hc
    have hz0 := zeroB.eq_def V M i
    simp only [laws_FnVotes.l0, laws_FnVotes.j1, impl_hasLane_eq, Option.bind_some, if_true]
    have hbi := hb.2 i
    have hi7 : i ≤ 7 := by omega
    rw [if_pos (by omega), w64 (x := i + 1) (by omega) (by omega)]
    by_cases h1 : hasB M i = true
    · by_cases h2 : rd V i = 0
      · have h3 : hasB (ballot V M) i = false := by
          cases e : hasB (ballot V M) i
          · rfl
          · exact absurd h2 (hbi.1 e).2
        have h4 : zeroB V M i = true := by simp [zeroB, h1, h2]
        have hz8 : ((ups 8 0).filter (zeroB V M)).length ≤ 8 := by have := List.length_filter_le (zeroB V M) (ups 8 0); rwa [ups_len] at this
        rw [h3, if_neg (by decide), if_neg (by decide), h1, if_pos rfl, if_pos h0, if_pos (by omega), if_pos h2, w64 (x := z + 1) (by omega) (by omega)]
        rw [if_pos h4, List.length_cons] at hc
        exact ih k (z + 1) (i + 1) (by omega) (by omega) (by omega) (by omega) (by omega)
      · have h3 := hbi.2 ⟨h1, h2⟩
        have h4 : zeroB V M i = false := by simp [zeroB, h2]
        rw [h3, if_pos rfl, if_pos h0, if_pos (by omega), if_neg h2, h1, if_neg (by decide), if_pos rfl, if_pos h0, if_pos (by omega), if_neg h2]
        rw [h4, if_neg (by decide)] at hc
        exact ih k z (i + 1) (by omega) (by omega) (by omega) (by omega) (by omega)
    · have h3 : hasB (ballot V M) i = false := by
        cases e : hasB (ballot V M) i
        · rfl
        · exact absurd (hbi.1 e).1 h1
      have h5 : hasB M i = false := by simpa using h1
      have h4 : zeroB V M i = false := by simp [zeroB, h5]
      rw [h3, if_neg (by decide), if_neg (by decide), h5, if_neg (by decide)]
      rw [h4, if_neg (by decide)] at hc
      exact ih k z (i + 1) (by omega) (by omega) (by omega) (by omega) (by omega)
theorem FnVotes : laws_FnVotes.Pure := by
  intro l hm
  unfold maxLen at hm
  by_cases h : l.length ≤ 1048576
  · obtain ⟨V, e1, hV⟩ := drawValues_ok (k := l.length + 150) h (by omega)
    obtain ⟨M, e2, hM⟩ := drawMask_ok (k := l.length + 150) h (by omega)
    refine ⟨l.length + 150, ?_⟩
    unfold laws_FnVotes.f laws_big.f
    simp only [Option.bind_some, e1, e2, impl_ballot_eq]
    rw [if_neg (by simp; omega)]
    exact votes_l0 hV hM 8 _ 0 0 (by omega) (by omega) (by omega) (by omega) (by omega)
  · exact ⟨0, by unfold laws_FnVotes.f laws_big.f; simp only [Option.bind_some]; rw [if_pos (by simp; omega)]⟩

end Go.Proofs.Ytcmimgoghmeliaa.Pure
