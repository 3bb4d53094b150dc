/-
  The match masks cut a drawn mask into the classes of equal values.
  No condition.
-/
import Derived.Test.YtojioeaoeloieaaPFnMatchesx3
namespace Go.Proofs.Ytojioeaoeloieaa.Pure
open Go.RowKit Go.Proofs.Ytojioeaoeloieaa.PFnMatches Go.Proofs.YtojioeaoeloieaaW.PrintWords Go.Proofs.YtojioeaoeloieaaW.PrintLast Go.Proofs.YtojioeaoeloieaaW.PrintMore
set_option linter.unusedVariables false
set_option linter.unusedSimpArgs false

theorem w64 {x : Int} (h0 : -9223372036854775808 ≤ x) (h1 : x < 9223372036854775808) : wrap64 x = x := by unfold wrap64; omega
theorem drop_rd {l : List Int} {i : Int} (h0 : 0 ≤ i) (h1 : i < (l.length : Int)) : l.drop i.toNat = rd l i :: l.drop (i + 1).toNat := by
  have hi : i.toNat < l.length := by omega
  rw [show (i + 1).toNat = i.toNat + 1 by omega, List.drop_eq_getElem_cons hi]
  congr 1
  unfold rd
  rw [List.getD_eq_getElem?_getD, List.getElem?_eq_getElem hi]; rfl
theorem rd_mem {l : List Int} {i : Int} (h0 : 0 ≤ i) (h1 : i < (l.length : Int)) : rd l i ∈ l := by
  have hi : i.toNat < l.length := by omega
  unfold rd
  rw [List.getD_eq_getElem?_getD, List.getElem?_eq_getElem hi]
  exact List.getElem_mem hi
theorem take_set_succ {α : Type} {l x : List α} {i : Nat} (v : α) (hl : i < l.length) (hx : i < x.length) (h : x.take i = l.take i) (hv : l[i]'hl = v) : (x.set i v).take (i + 1) = l.take (i + 1) := by
  rw [List.take_succ_eq_append_getElem (by simpa using hx), List.take_succ_eq_append_getElem hl, List.take_set_of_le (Nat.le_refl i), h]
  simp [hv]
theorem rd_get {l : List Int} {i : Int} (h0 : 0 ≤ i) (h1 : i.toNat < l.length) : l[i.toNat]'h1 = rd l i := by
  unfold rd
  rw [List.getD_eq_getElem?_getD, List.getElem?_eq_getElem h1]; rfl
theorem need {p : Prop} (h : p) : p := h
theorem within_some (x a b : Int) : impl_within.f x a b = some (decide (a ≤ x ∧ x ≤ b)) := by
  unfold impl_within.f
  by_cases h : a ≤ x
  · rw [if_pos h]; simp [h]
  · rw [if_neg h]; simp [h]
def valuesOk (l : List Int) : Bool := decide (l.length = 8) && l.all isWordB
theorem valuesOk_len {l : List Int} (h : valuesOk l = true) : l.length = 8 := by simp [valuesOk] at h; exact h.1
theorem impl_valuesOk_eq {l : List Int} : impl_ValuesOk.f l = some (valuesOk l) := by
  unfold impl_ValuesOk.f impl_AreWords.f valuesOk
  by_cases h : l.length = 8
  · rw [if_pos (by omega)]; simp [h]
  · rw [if_neg (by omega)]; simp [h]
def ups : Nat → Int → List Int
  | 0, _ => []
  | n + 1, i => i :: ups n (i + 1)
theorem ups_mem : ∀ (n : Nat) (i x : Int), x ∈ ups n i → i ≤ x ∧ x < i + n
  | 0, _, _, h => by simp [ups] at h
  | n + 1, i, x, h => by
    rw [ups, List.mem_cons] at h
    rcases h with rfl | h
    · omega
    · have := ups_mem n (i + 1) x h; omega
theorem ups_mem_of : ∀ (n : Nat) (i x : Int), i ≤ x → x < i + n → x ∈ ups n i
  | 0, _, _, _, _ => by omega
  | n + 1, i, x, h0, h1 => by
    rw [ups, List.mem_cons]
    by_cases e : x = i
    · exact .inl e
    · exact .inr (ups_mem_of n (i + 1) x (by omega) (by omega))
theorem ups_len : ∀ (n : Nat) (i : Int), (ups n i).length = n
  | 0, _ => rfl
  | n + 1, i => by rw [ups, List.length_cons, ups_len]
def isMaskB (m : Int) : Bool := decide (0 ≤ m ∧ m ≤ 255)
def bitB (m i : Int) : Bool := Go.bits .and .i64 (shr .i64 m i) 1 == 1
def hasB (m i : Int) : Bool := isMaskB m && decide (0 ≤ i ∧ i ≤ 7) && bitB m i
def lanes (m : Int) : List Int := (ups 8 0).filter (hasB m)
theorem hasB_in {m i : Int} (h : hasB m i = true) : 0 ≤ i ∧ i ≤ 7 := by simp [hasB] at h; exact h.1.2
theorem hasB_mask {m i : Int} (h : hasB m i = true) : isMaskB m = true := by simp [hasB] at h; exact h.1.1
theorem lanes_in {m x : Int} (h : x ∈ lanes m) : 0 ≤ x ∧ x ≤ 7 := hasB_in (List.mem_filter.1 h).2
theorem lanes_mem {m x : Int} : x ∈ lanes m ↔ hasB m x = true := by
  unfold lanes
  rw [List.mem_filter]
  exact ⟨fun h => h.2, fun h => ⟨ups_mem_of 8 0 x (hasB_in h).1 (by have := (hasB_in h).2; omega), h⟩⟩
theorem lanes_not {m : Int} (h : isMaskB m = false) : lanes m = [] := by
  unfold lanes
  rw [List.filter_eq_nil_iff]
  intro x _ hx
  rw [hasB_mask hx] at h
  exact absurd h (by decide)
theorem lanes_len (m : Int) : (lanes m).length ≤ 8 := by
  unfold lanes
  have := List.length_filter_le (hasB m) (ups 8 0)
  rwa [ups_len] at this
theorem impl_isMask_eq (m : Int) : impl_IsMask.f m = some (isMaskB m) := by
  unfold impl_IsMask.f isMaskB
  rw [within_some]; rfl
theorem impl_hasLane_eq (m i : Int) : impl_HasLane.f m i = some (hasB m i) := by
  unfold impl_HasLane.f impl_isLane.f hasB
  rw [impl_isMask_eq]; simp only [Option.bind_some, within_some]
  cases hm : isMaskB m with
  | false => rw [if_neg (by decide)]; simp
  | true =>
    rw [if_pos rfl]
    by_cases h : 0 ≤ i ∧ i ≤ 7
    · rw [if_pos (by simpa using h), if_pos h.1]; simp [h, bitB]
    · rw [if_neg (by simpa using h)]; simp [h]
theorem impl_lanesOf_l0 (m : Int) : ∀ (d k : Nat) (acc : List Int) (i : Int), 0 ≤ i → 8 - i = d → d < k → acc.length ≤ i → impl_LanesOf.l0 k m acc i = some (acc ++ (ups d i).filter (hasB m)) := by
  intro d
  induction d with
  | zero =>
    intro k acc i h0 hd hk hl
    obtain ⟨k, rfl⟩ : ∃ q, k = q + 1 := ⟨k - 1, by omega⟩
    simp only [impl_LanesOf.l0]
    rw [if_neg (by omega)]; simp [ups]
  | succ d ih =>
    intro k acc i h0 hd hk hl
    obtain ⟨k, rfl⟩ : ∃ q, k = q + 1 := ⟨k - 1, by omega⟩
    simp only [impl_LanesOf.l0, impl_hasLane_eq, Option.bind_some]
    rw [if_pos (by omega), w64 (by omega) (by omega), ups, List.filter_cons]
    by_cases h : hasB m i = true
    · rw [if_pos h, if_pos (by omega), if_pos h, ih k _ (i + 1) (by omega) (by omega) (by omega) (by rw [List.length_append, List.length_singleton]; omega)]
      simp
    · rw [if_neg h, if_neg h, ih k _ (i + 1) (by omega) (by omega) (by omega) (by omega)]
theorem impl_lanesOf_eq {k : Nat} (m : Int) (hk : 8 < k) : impl_LanesOf.f k m = some (lanes m) := by
  unfold impl_LanesOf.f lanes
  rw [impl_lanesOf_l0 m 8 k [] 0 (by omega) (by omega) hk (by simp)]; rfl
theorem impl_areVotes_eq (l : List Int) (m : Int) : impl_areVotes.f l m = some (valuesOk l && isMaskB m) := by
  unfold impl_areVotes.f
  rw [impl_valuesOk_eq]; simp only [Option.bind_some, impl_isMask_eq]
  cases valuesOk l <;> simp
theorem whereAll_nil (p : Int → Bool) (m : Int) : whereAll p [] m = m := rfl
theorem whereAll_cons (p : Int → Bool) (x m : Int) (r : List Int) : whereAll p (x :: r) m = whereAll p r (if p x = true then Go.bits .or .i64 m (shl .i64 1 x) else m) := rfl
def matchOf (l : List Int) (m i : Int) : Int := if (valuesOk l && hasB m i) = true then whereAll (fun x => rd l x == rd l i) (lanes m) 0 else 0
theorem impl_matchMask_eq (l : List Int) (m i : Int) : impl_MatchMask.f l m i = some (matchOf l m i) := by
  unfold impl_MatchMask.f matchOf
  rw [impl_areVotes_eq]; simp only [Option.bind_some, impl_lanesOf_eq m (by omega : 8 < 9), impl_hasLane_eq]
  cases hv : valuesOk l with
  | false => simp
  | true =>
    cases hh : hasB m i with
    | false => cases isMaskB m <;> simp
    | true =>
      rw [hasB_mask hh]
      have h8 := valuesOk_len hv
      have hi := hasB_in hh
      simp only [Bool.and_true, if_true]
      rw [if_pos]
      refine ⟨?_, hi.1, by omega⟩
      unfold okLanesM
      rw [List.all_eq_true]
      intro x hx
      have := lanes_in hx
      simp; omega
theorem and255 (n : Int) : Go.bits .and .i64 n 255 = n % 256 := by
  unfold Go.bits
  have h : (BitVec.ofInt 64 n &&& BitVec.ofInt 64 255).toNat = ((n % 256).toNat) := by
    rw [BitVec.toNat_and, show (BitVec.ofInt 64 255).toNat = 2 ^ 8 - 1 by decide, Nat.and_two_pow_sub_one_eq_mod, BitVec.toNat_ofInt]
    omega
  show IntKind.i64.wrap (((BitVec.ofInt 64 n &&& BitVec.ofInt 64 255).toNat : Nat) : Int) = _
  rw [h]
  unfold IntKind.wrap
  have e : ((2 : Int) ^ IntKind.i64.bits) = 18446744073709551616 := by decide
  have e2 : ((2 : Int) ^ (IntKind.i64.bits - 1)) = 9223372036854775808 := by decide
  rw [e, e2]
  have h2 : (((n % 256).toNat : Nat) : Int) % 18446744073709551616 = n % 256 := by omega
  simp only [h2]
  rw [if_neg (by simp; omega)]
theorem byte_ok {xs : List Int} {p : Int} (s : Int) (hl : xs.length ≤ 1048576) (hp : 0 ≤ p) : ∃ v p' s', spec_l01Byte.f xs p s = some (v, p', s') ∧ 0 ≤ v ∧ v ≤ 255 ∧ 0 ≤ p' := by
  unfold spec_l01Byte.f
  by_cases h : p < (xs.length : Int)
  · rw [if_pos h, if_pos hp, w64 (x := p + 1) (by omega) (by omega)]
    exact ⟨_, _, _, rfl, by rw [and255]; omega, by rw [and255]; omega, by omega⟩
  · rw [if_neg h]
    exact ⟨_, _, _, rfl, by rw [and255]; omega, by rw [and255]; omega, hp⟩
theorem below_ok {xs : List Int} {p : Int} (s n : Int) (hl : xs.length ≤ 1048576) (hp : 0 ≤ p) (hn : 0 < n) : ∃ v p' s', spec_l01Below.f xs p s n = some (v, p', s') ∧ 0 ≤ v ∧ v < n ∧ 0 ≤ p' := by
  unfold spec_l01Below.f
  obtain ⟨v1, p1, s1, e1, a1, b1, c1⟩ := byte_ok s hl hp
  rw [if_neg (by omega), e1]; simp only [Option.bind_some]
  by_cases h : n ≤ 256
  · rw [if_pos h, if_neg (by omega)]
    refine ⟨_, _, _, rfl, ?_, ?_, c1⟩
    · rw [Int.tmod_eq_emod_of_nonneg a1]; exact Int.emod_nonneg _ (by omega)
    · rw [Int.tmod_eq_emod_of_nonneg a1]; exact Int.emod_lt_of_pos _ hn
  · obtain ⟨v2, p2, s2, e2, a2, b2, c2⟩ := byte_ok s1 hl c1
    obtain ⟨v3, p3, s3, e3, a3, b3, c3⟩ := byte_ok s2 hl c2
    obtain ⟨v4, p4, s4, e4, a4, b4, c4⟩ := byte_ok s3 hl c3
    rw [if_neg h, e2]; simp only [Option.bind_some]
    rw [e3]; simp only [Option.bind_some]
    rw [e4]; simp only [Option.bind_some]
    rw [if_neg (by omega), w64 (x := v1 * 16777216) (by omega) (by omega), w64 (x := v2 * 65536) (by omega) (by omega), w64 (x := v3 * 256) (by omega) (by omega), w64 (x := v1 * 16777216 + v2 * 65536) (by omega) (by omega), w64 (x := v1 * 16777216 + v2 * 65536 + v3 * 256) (by omega) (by omega), w64 (x := v1 * 16777216 + v2 * 65536 + v3 * 256 + v4) (by omega) (by omega)]
    refine ⟨_, _, _, rfl, ?_, ?_, c4⟩
    · rw [Int.tmod_eq_emod_of_nonneg (by omega)]; exact Int.emod_nonneg _ (by omega)
    · rw [Int.tmod_eq_emod_of_nonneg (by omega)]; exact Int.emod_lt_of_pos _ hn
theorem pick_ok {xs : List Int} {p : Int} (s : Int) {l : List Int} (hl : xs.length ≤ 1048576) (hp : 0 ≤ p) (h1 : 0 < l.length) : ∃ v p' s', spec_l01PickInt.f xs p s l = some (v, p', s') ∧ v ∈ l ∧ 0 ≤ p' := by
  unfold spec_l01PickInt.f
  obtain ⟨v1, p1, s1, e1, a1, b1, c1⟩ := below_ok s (l.length : Int) hl hp (by omega)
  rw [e1]; simp only [Option.bind_some]
  rw [if_pos a1, if_pos b1]
  exact ⟨_, _, _, rfl, rd_mem a1 b1, c1⟩
theorem new_l0 (l : List Int) (hl : l.length ≤ 1048576) : ∀ (d k : Nat) (s i : Int), 0 ≤ i → (l.length : Int) - i = d → d < k → ∃ s', spec_l01New.l0 k l s i = some (l, 0, s') := by
  intro d
  induction d with
  | zero =>
    intro k s i h0 hd hk
    obtain ⟨k, rfl⟩ : ∃ q, k = q + 1 := ⟨k - 1, by omega⟩
    simp only [spec_l01New.l0]
    rw [if_neg (by omega)]
    exact ⟨_, rfl⟩
  | succ d ih =>
    intro k s i h0 hd hk
    obtain ⟨k, rfl⟩ : ∃ q, k = q + 1 := ⟨k - 1, by omega⟩
    simp only [spec_l01New.l0]
    rw [if_pos (by omega)]
    by_cases h : i < 4000
    · rw [if_pos h, if_pos h0, w64 (x := i + 1) (by omega) (by omega)]
      exact ih k _ (i + 1) (by omega) (by omega) (by omega)
    · rw [if_neg h]; exact ⟨_, rfl⟩
theorem new_ok {k : Nat} {l : List Int} (hl : l.length ≤ 1048576) (hk : l.length < k) : ∃ s', spec_l01New.f k l = some (l, 0, s') := by
  unfold spec_l01New.f
  exact new_l0 l hl l.length k _ 0 (by omega) (by omega) hk
theorem word_ok {xs : List Int} {p : Int} (s : Int) (hl : xs.length ≤ 1048576) (hp : 0 ≤ p) : ∃ v p' s', spec_l02Word.f xs p s = some (v, p', s') ∧ (0 ≤ v ∧ v ≤ 65535) ∧ 0 ≤ p' := by
  unfold spec_l02Word.f
  obtain ⟨v1, p1, s1, e1, a1, b1, c1⟩ := below_ok s 9 hl hp (by omega)
  rw [e1]; simp only [Option.bind_some]
  obtain ⟨v2, p2, s2, e2, a2, b2, c2⟩ := below_ok s1 9000 hl c1 (by omega)
  rw [e2]; simp only [Option.bind_some]
  obtain ⟨v3, p3, s3, e3, a3, c3⟩ := pick_ok s2 (l := [0, 1, 2, 7, 100, 65535, 32768, v1, v2]) hl c2 (by simp)
  rw [e3]; simp only [Option.bind_some]
  refine ⟨_, _, _, rfl, ?_, c3⟩
  simp only [List.mem_cons, List.not_mem_nil, or_false] at a3
  omega
theorem values_l0 {xs : List Int} (hl : xs.length ≤ 1048576) : ∀ (d k : Nat) (y : List Int) (i p s : Int), 0 ≤ i → 8 - i = d → d < k → y.length = i.toNat → (∀ x ∈ y, 0 ≤ x ∧ x ≤ 65535) → 0 ≤ p →
    ∃ z p' s', spec_l19Values.l0 k y i xs p s = some (z, p', s') ∧ z.length = 8 ∧ (∀ x ∈ z, 0 ≤ x ∧ x ≤ 65535) ∧ 0 ≤ p' := by
  intro d
  induction d with
  | zero =>
    intro k y i p s h0 hd hk hy hm hp
    obtain ⟨k, rfl⟩ : ∃ q, k = q + 1 := ⟨k - 1, by omega⟩
    simp only [spec_l19Values.l0]
    rw [if_neg (by omega)]
    exact ⟨_, _, _, rfl, by omega, hm, hp⟩
  | succ d ih =>
    intro k y i p s h0 hd hk hy hm hp
    obtain ⟨k, rfl⟩ : ∃ q, k = q + 1 := ⟨k - 1, by omega⟩
    simp only [spec_l19Values.l0]
    obtain ⟨v1, p1, s1, e1, a1, c1⟩ := word_ok s hl hp
    rw [if_pos (by omega), e1]; simp only [Option.bind_some]
    obtain ⟨v2, p2, s2, e2, a2, c2⟩ := pick_ok s1 (l := [0, 0, 1, 2, 5, v1]) hl c1 (by simp)
    rw [e2]; simp only [Option.bind_some]
    rw [if_pos (by omega), w64 (x := i + 1) (by omega) (by omega)]
    refine ih k _ (i + 1) _ _ (by omega) (by omega) (by omega) (by simp; omega) ?_ c2
    intro x hx
    rw [List.mem_append, List.mem_singleton] at hx
    rcases hx with hx | rfl
    · exact hm x hx
    · simp only [List.mem_cons, List.not_mem_nil, or_false] at a2
      omega
theorem drawValues_ok {k : Nat} {xs : List Int} (hl : xs.length ≤ 1048576) (hk : xs.length + 9 < k) : ∃ z, spec_DrawValues.f k xs = some z ∧ valuesOk z = true := by
  unfold spec_DrawValues.f spec_l19Values.f
  obtain ⟨s, e⟩ := new_ok (k := k) hl (by omega)
  rw [e]; simp only [Option.bind_some]
  obtain ⟨z, p, s2, e2, h8, hm, _⟩ := values_l0 hl 8 k [] 0 0 s (by omega) (by omega) (by omega) rfl (by simp) (by omega)
  rw [e2]; simp only [Option.bind_some]
  refine ⟨z, rfl, ?_⟩
  simp only [valuesOk, h8, Bool.and_eq_true, decide_eq_true_eq, List.all_eq_true, isWordB, true_and]
  exact hm
theorem drawMask_ok {k : Nat} {xs : List Int} (hl : xs.length ≤ 1048576) (hk : xs.length < k) : ∃ m, spec_DrawMask.f k xs = some m ∧ isMaskB m = true := by
  unfold spec_DrawMask.f spec_l03Mask.f
  obtain ⟨s, e⟩ := new_ok (k := k) hl (by omega)
  rw [e]; simp only [Option.bind_some]
  obtain ⟨v1, p1, s1, e1, a1, b1, c1⟩ := below_ok s 256 hl (by omega : (0 : Int) ≤ 0) (by omega)
  rw [e1]; simp only [Option.bind_some]
  obtain ⟨v2, p2, s2, e2, a2, b2, c2⟩ := below_ok s1 256 hl c1 (by omega)
  rw [e2]; simp only [Option.bind_some]
  obtain ⟨v3, p3, s3, e3, a3, c3⟩ := pick_ok s2 (l := [255, 0, 1, 15, 170, v1, v2]) hl c2 (by simp)
  rw [e3]; simp only [Option.bind_some]
  refine ⟨_, rfl, ?_⟩
  simp only [List.mem_cons, List.not_mem_nil, or_false] at a3
  simp only [isMaskB, decide_eq_true_eq]
  omega
theorem and1 (n : Int) : Go.bits .and .i64 n 1 = n % 2 := by
  unfold Go.bits
  have h : (BitVec.ofInt 64 n &&& BitVec.ofInt 64 1).toNat = ((n % 2).toNat) := by
    rw [BitVec.toNat_and, show (BitVec.ofInt 64 1).toNat = 2 ^ 1 - 1 by decide, Nat.and_two_pow_sub_one_eq_mod, BitVec.toNat_ofInt]
    omega
  show IntKind.i64.wrap (((BitVec.ofInt 64 n &&& BitVec.ofInt 64 1).toNat : Nat) : Int) = _
  rw [h]
  unfold IntKind.wrap
  have e : ((2 : Int) ^ IntKind.i64.bits) = 18446744073709551616 := by decide
  have e2 : ((2 : Int) ^ (IntKind.i64.bits - 1)) = 9223372036854775808 := by decide
  rw [e, e2]
  have h2 : (((n % 2).toNat : Nat) : Int) % 18446744073709551616 = n % 2 := by omega
  simp only [h2]
  rw [if_neg (by simp; omega)]
theorem orB {a b : Int} (ha : 0 ≤ a ∧ a ≤ 255) (hb : 0 ≤ b ∧ b ≤ 255) : Go.bits .or .i64 a b = ((a.toNat ||| b.toNat : Nat) : Int) ∧ (a.toNat ||| b.toNat) < 256 := by
  have hlt : (a.toNat ||| b.toNat) < 2 ^ 8 := Nat.or_lt_two_pow (by omega) (by omega)
  refine ⟨?_, by omega⟩
  unfold Go.bits
  have h : (BitVec.ofInt 64 a ||| BitVec.ofInt 64 b).toNat = (a.toNat ||| b.toNat) := by
    rw [BitVec.toNat_or, BitVec.toNat_ofInt, BitVec.toNat_ofInt]
    have e1 : (a % ((2 ^ 64 : Nat) : Int)).toNat = a.toNat := by omega
    have e2 : (b % ((2 ^ 64 : Nat) : Int)).toNat = b.toNat := by omega
    rw [e1, e2]
  show IntKind.i64.wrap (((BitVec.ofInt 64 a ||| BitVec.ofInt 64 b).toNat : Nat) : Int) = _
  rw [h]
  generalize (a.toNat ||| b.toNat) = n at hlt
  unfold IntKind.wrap
  have e : ((2 : Int) ^ IntKind.i64.bits) = 18446744073709551616 := by decide
  have e2 : ((2 : Int) ^ (IntKind.i64.bits - 1)) = 9223372036854775808 := by decide
  rw [e, e2]
  have h2 : ((n : Nat) : Int) % 18446744073709551616 = n := by omega
  simp only [h2]
  rw [if_neg (by simp; omega)]
theorem hasB_bit {m i : Int} (hm : 0 ≤ m ∧ m ≤ 255) (hi : 0 ≤ i ∧ i ≤ 7) : hasB m i = m.toNat.testBit i.toNat := by
  unfold hasB isMaskB bitB
  rw [decide_eq_true hm, decide_eq_true hi, Bool.true_and, Bool.true_and]
  have e : shr .i64 m i = m / 2 ^ i.toNat := by
    unfold shr
    rw [Nat.min_eq_left (by show i.toNat ≤ 64; omega)]
  rw [and1, e, Nat.testBit_eq_decide_div_mod_eq]
  obtain ⟨n, rfl⟩ := Int.eq_ofNat_of_zero_le hm.1
  have e2 : ((n : Int) / 2 ^ i.toNat) % 2 = ((n / 2 ^ i.toNat % 2 : Nat) : Int) := by push_cast; rfl
  rw [e2, Int.toNat_natCast]
  by_cases h : n / 2 ^ i.toNat % 2 = 1
  · rw [h]; rfl
  · rw [decide_eq_false h]; simp; omega
theorem shl1 {x : Int} (hx : 0 ≤ x ∧ x ≤ 7) : shl .i64 1 x = ((2 ^ x.toNat : Nat) : Int) ∧ (2 ^ x.toNat : Nat) < 256 := by
  rcases (by omega : x = 0 ∨ x = 1 ∨ x = 2 ∨ x = 3 ∨ x = 4 ∨ x = 5 ∨ x = 6 ∨ x = 7) with e | e | e | e | e | e | e | e <;> subst e <;> decide
theorem isMask_iff {m : Int} : isMaskB m = true ↔ 0 ≤ m ∧ m ≤ 255 := by simp [isMaskB]
theorem hasB_orM {a b : Int} (ha : isMaskB a = true) (hb : isMaskB b = true) : isMaskB (Go.bits .or .i64 a b) = true ∧ ∀ j, hasB (Go.bits .or .i64 a b) j = (hasB a j || hasB b j) := by
  rw [isMask_iff] at ha hb
  have h := orB ha hb
  have hm : 0 ≤ Go.bits .or .i64 a b ∧ Go.bits .or .i64 a b ≤ 255 := by rw [h.1]; omega
  refine ⟨isMask_iff.2 hm, fun j => ?_⟩
  by_cases hj : 0 ≤ j ∧ j ≤ 7
  · rw [hasB_bit hm hj, hasB_bit ha hj, hasB_bit hb hj, h.1, Int.toNat_natCast, Nat.testBit_or]
  · have q : ∀ m, hasB m j = false := fun m => by
      cases e : hasB m j
      · rfl
      · exact absurd (hasB_in e) hj
    rw [q, q, q]; rfl
theorem mask_shl {x : Int} (hx : 0 ≤ x ∧ x ≤ 7) : isMaskB (shl .i64 1 x) = true ∧ ∀ j, hasB (shl .i64 1 x) j = (j == x) := by
  have h := shl1 hx
  have hm : 0 ≤ shl .i64 1 x ∧ shl .i64 1 x ≤ 255 := by
    have h2 := h.2
    rw [h.1]
    generalize (2 ^ x.toNat : Nat) = n at h2 ⊢
    omega
  refine ⟨isMask_iff.2 hm, fun j => ?_⟩
  by_cases hj : 0 ≤ j ∧ j ≤ 7
  · rw [hasB_bit hm hj, h.1, Int.toNat_natCast, Nat.testBit_two_pow]
    by_cases e : j = x
    · subst e; simp
    · rw [decide_eq_false (by omega)]; simp [e]
  · cases e : hasB (shl .i64 1 x) j
    · by_cases e2 : j = x
      · omega
      · simp [e2]
    · exact absurd (hasB_in e) hj
theorem hasB_zero (j : Int) : hasB 0 j = false := by
  cases e : hasB 0 j
  · rfl
  · rw [hasB_bit (by omega) (hasB_in e)] at e
    simp at e
theorem mask_ext {a b : Int} (ha : isMaskB a = true) (hb : isMaskB b = true) (h : ∀ j, hasB a j = hasB b j) : a = b := by
  rw [isMask_iff] at ha hb
  have : a.toNat = b.toNat := by
    apply Nat.eq_of_testBit_eq
    intro i
    by_cases hi : i ≤ 7
    · have := h (i : Int)
      rwa [hasB_bit ha (by omega), hasB_bit hb (by omega), Int.toNat_natCast] at this
    · rw [Nat.testBit_lt_two_pow, Nat.testBit_lt_two_pow]
      · exact Nat.lt_of_lt_of_le (by omega : b.toNat < 2 ^ 8) (Nat.pow_le_pow_right (by omega) (by omega))
      · exact Nat.lt_of_lt_of_le (by omega : a.toNat < 2 ^ 8) (Nat.pow_le_pow_right (by omega) (by omega))
  omega
theorem where_has (p : Int → Bool) : ∀ (L : List Int) (m : Int), (∀ x ∈ L, 0 ≤ x ∧ x ≤ 7) → isMaskB m = true → isMaskB (whereAll p L m) = true ∧ ∀ j, hasB (whereAll p L m) j = true ↔ hasB m j = true ∨ (j ∈ L ∧ p j = true)
  | [], m, _, hm => ⟨hm, fun j => by simp [whereAll]⟩
  | x :: L, m, hL, hm => by
    have hx := hL x (List.mem_cons_self ..)
    rw [whereAll_cons]
    by_cases h : p x = true
    · rw [if_pos h]
      have h2 := hasB_orM hm (mask_shl hx).1
      obtain ⟨h3, h4⟩ := where_has p L _ (fun y hy => hL y (List.mem_cons_of_mem _ hy)) h2.1
      refine ⟨h3, fun j => ?_⟩
      rw [h4 j, h2.2 j, (mask_shl hx).2 j, List.mem_cons, Bool.or_eq_true, beq_iff_eq]
      constructor
      · rintro ((h5 | h5) | ⟨h5, h6⟩)
        · exact .inl h5
        · exact .inr ⟨.inl h5, by rw [h5]; exact h⟩
        · exact .inr ⟨.inr h5, h6⟩
      · rintro (h5 | ⟨h5 | h5, h6⟩)
        · exact .inl (.inl h5)
        · exact .inl (.inr h5)
        · exact .inr ⟨h5, h6⟩
    · rw [if_neg h]
      obtain ⟨h3, h4⟩ := where_has p L m (fun y hy => hL y (List.mem_cons_of_mem _ hy)) hm
      refine ⟨h3, fun j => ?_⟩
      rw [h4 j, List.mem_cons]
      constructor
      · rintro (h5 | ⟨h5, h6⟩)
        · exact .inl h5
        · exact .inr ⟨.inr h5, h6⟩
      · rintro (h5 | ⟨h5 | h5, h6⟩)
        · exact .inl h5
        · exact absurd (h5 ▸ h6) h
        · exact .inr ⟨h5, h6⟩

theorem match_has {V : List Int} (hV : valuesOk V = true) {M : Int} (hM : isMaskB M = true) (i : Int) : isMaskB (matchOf V M i) = true ∧ ∀ j, hasB (matchOf V M i) j = true ↔ hasB M i = true ∧ hasB M j = true ∧ rd V j = rd V i := by
  unfold matchOf
  rw [hV, Bool.true_and]
  cases h : hasB M i
  · rw [if_neg (by decide)]
    exact ⟨by decide, fun j => by rw [hasB_zero]; simp⟩
  · rw [if_pos rfl]
    have := where_has (fun x => rd V x == rd V i) (lanes M) 0 (fun x hx => lanes_in hx) (by decide)
    refine ⟨this.1, fun j => ?_⟩
    rw [this.2 j, hasB_zero, lanes_mem]
    simp
theorem matches_l1 {V : List Int} (hV : valuesOk V = true) {M : Int} (hM : isMaskB M = true) (U i : Int) (hi : 0 ≤ i ∧ i ≤ 7) : ∀ (d q : Nat) (j : Int), 0 ≤ j → 8 - j = d → laws_FnMatches.l1 (d + 1 + q) V M U i (matchOf V M i) j = laws_FnMatches.l0 q V M U (i + 1) := by
  have h8 := valuesOk_len hV
  have hm := match_has hV hM i
  intro d
  induction d with
  | zero =>
    intro q j h0 hd
    rw [show 0 + 1 + q = q + 1 by omega]
    simp only [laws_FnMatches.l1, impl_hasLane_eq, Option.bind_some]
    have e : hasB (matchOf V M i) i = hasB M i := by
      cases h : hasB M i
      · cases h2 : hasB (matchOf V M i) i
        · rfl
        · have := ((hm.2 i).1 h2).1; rw [h] at this; exact absurd this (by decide)
      · exact (hm.2 i).2 ⟨h, h, rfl⟩
    rw [if_neg (by omega), e, if_neg (by simp), w64 (by omega) (by omega)]
  | succ d ih =>
    intro q j h0 hd
    rw [show d + 1 + 1 + q = (d + 1 + q) + 1 by omega]
    simp only [laws_FnMatches.l1, impl_hasLane_eq, impl_matchMask_eq, Option.bind_some]
    rw [if_pos (by omega), w64 (x := j + 1) (by omega) (by omega), ih q (j + 1) (by omega) (by omega)]
    by_cases h : hasB (matchOf V M i) j = true
    · have h2 := (hm.2 j).1 h
      have hm2 := match_has hV hM j
      have e : matchOf V M j = matchOf V M i := by
        refine mask_ext hm2.1 hm.1 fun x => ?_
        rw [Bool.eq_iff_iff, hm2.2 x, hm.2 x]
        constructor
        · rintro ⟨_, a, b⟩; exact ⟨h2.1, a, by rw [b, h2.2.2]⟩
        · rintro ⟨_, a, b⟩; exact ⟨h2.2.1, a, by rw [b, h2.2.2]⟩
      rw [if_pos h, if_pos h0, if_pos (by omega), if_pos hi.1, if_pos (by omega), if_pos h2.2.2, if_pos e]
    · rw [if_neg h]
theorem matches_l0 {V : List Int} (hV : valuesOk V = true) {M : Int} (hM : isMaskB M = true) : ∀ (d k : Nat) (U i : Int), 0 ≤ i → 8 - i = d → 10 * d < k → isMaskB U = true → (∀ j, hasB U j = true → hasB M j = true) → (∀ j, j < i → hasB M j = true → hasB U j = true) → laws_FnMatches.l0 k V M U i = some true := by
  intro d
  induction d with
  | zero =>
    intro k U i h0 hd hk hU h1 h2
    obtain ⟨k, rfl⟩ : ∃ q, k = q + 1 := ⟨k - 1, by omega⟩
    simp only [laws_FnMatches.l0]
    have e : U = M := mask_ext hU hM fun j => by
      rw [Bool.eq_iff_iff]
      exact ⟨h1 j, fun h => h2 j (by have := hasB_in h; omega) h⟩
    rw [if_neg (by omega), e]; simp
  | succ d ih =>
    intro k U i h0 hd hk hU h1 h2
    obtain ⟨k, rfl⟩ : ∃ q, k = (8 + 1 + q) + 1 := ⟨k - 10, by omega⟩
    have hm := match_has hV hM i
    have ho := hasB_orM hU hm.1
    rw [laws_FnMatches.l0, if_pos (by omega), impl_matchMask_eq, Option.bind_some, matches_l1 hV hM _ i (by omega) 8 k 0 (by omega) (by omega)]
    refine ih k _ (i + 1) (by omega) (by omega) (by omega) ho.1 (fun j hj => ?_) (fun j hj hj2 => ?_)
    · rw [ho.2 j, Bool.or_eq_true] at hj
      rcases hj with hj | hj
      · exact h1 j hj
      · exact ((hm.2 j).1 hj).2.1
    · rw [ho.2 j, Bool.or_eq_true]
      by_cases e : j = i
      · subst e; exact .inr ((hm.2 j).2 ⟨hj2, hj2, rfl⟩)
      · exact .inl (h2 j (by omega) hj2)
theorem FnMatches : laws_FnMatches.Pure := by
  intro l hm
  unfold maxLen at hm
  by_cases h : l.length ≤ 1048576
  · obtain ⟨V, e1, hV⟩ := drawValues_ok (k := l.length + 150) h (by omega)
    obtain ⟨M, e2, hM⟩ := drawMask_ok (k := l.length + 150) h (by omega)
    refine ⟨l.length + 150, ?_⟩
    unfold laws_FnMatches.f laws_big.f
    simp only [Option.bind_some, e1, e2]
    rw [if_neg (by simp; omega)]
    exact matches_l0 hV hM 8 _ 0 0 (by omega) (by omega) (by omega) (by decide) (fun j hj => by rw [hasB_zero] at hj; exact absurd hj (by decide)) (fun j hj hj2 => by have := hasB_in hj2; omega)
  · exact ⟨0, by unfold laws_FnMatches.f laws_big.f; simp only [Option.bind_some]; rw [if_pos (by simp; omega)]⟩

end Go.Proofs.Ytojioeaoeloieaa.Pure
