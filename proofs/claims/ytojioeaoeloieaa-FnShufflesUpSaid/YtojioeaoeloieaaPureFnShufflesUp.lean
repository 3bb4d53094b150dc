/-
  ShuffleUp takes each lane's value from the lane d places below, where there is one, and else keeps it.
  No condition.
-/
import Derived.Test.YtojioeaoeloieaaPFnShufflesUpx2
namespace Go.Proofs.Ytojioeaoeloieaa.Pure
open Go.RowKit Go.Proofs.Ytojioeaoeloieaa.PFnShufflesUp Go.Proofs.YtojioeaoeloieaaW.PrintWords Go.Proofs.YtojioeaoeloieaaW.PrintLast Go.Proofs.YtojioeaoeloieaaW.PrintMore
set_option linter.unusedVariables false
set_option linter.unusedSimpArgs false

theorem w64 {x : Int} (h0 : -9223372036854775808 ≤ x) (h1 : x < 9223372036854775808) : wrap64 x = x := by unfold wrap64; omega
theorem drop_rd {l : List Int} {i : Int} (h0 : 0 ≤ i) (h1 : i < (l.length : Int)) : l.drop i.toNat = rd l i :: l.drop (i + 1).toNat := by
  have hi : i.toNat < l.length := by omega
  rw [show (i + 1).toNat = i.toNat + 1 by omega, List.drop_eq_getElem_cons hi]
  congr 1
  unfold rd
  rw [List.getD_eq_getElem?_getD, List.getElem?_eq_getElem hi]; rfl
theorem rd_mem {l : List Int} {i : Int} (h0 : 0 ≤ i) (h1 : i < (l.length : Int)) : rd l i ∈ l := by
  have hi : i.toNat < l.length := by omega
  unfold rd
  rw [List.getD_eq_getElem?_getD, List.getElem?_eq_getElem hi]
  exact List.getElem_mem hi
theorem take_set_succ {α : Type} {l x : List α} {i : Nat} (v : α) (hl : i < l.length) (hx : i < x.length) (h : x.take i = l.take i) (hv : l[i]'hl = v) : (x.set i v).take (i + 1) = l.take (i + 1) := by
  rw [List.take_succ_eq_append_getElem (by simpa using hx), List.take_succ_eq_append_getElem hl, List.take_set_of_le (Nat.le_refl i), h]
  simp [hv]
theorem rd_get {l : List Int} {i : Int} (h0 : 0 ≤ i) (h1 : i.toNat < l.length) : l[i.toNat]'h1 = rd l i := by
  unfold rd
  rw [List.getD_eq_getElem?_getD, List.getElem?_eq_getElem h1]; rfl
theorem need {p : Prop} (h : p) : p := h
theorem within_some (x a b : Int) : impl_within.f x a b = some (decide (a ≤ x ∧ x ≤ b)) := by
  unfold impl_within.f
  by_cases h : a ≤ x
  · rw [if_pos h]; simp [h]
  · rw [if_neg h]; simp [h]
def valuesOk (l : List Int) : Bool := decide (l.length = 8) && l.all isWordB
theorem valuesOk_len {l : List Int} (h : valuesOk l = true) : l.length = 8 := by simp [valuesOk] at h; exact h.1
theorem impl_valuesOk_eq {l : List Int} : impl_ValuesOk.f l = some (valuesOk l) := by
  unfold impl_ValuesOk.f impl_AreWords.f valuesOk
  by_cases h : l.length = 8
  · rw [if_pos (by omega)]; simp [h]
  · rw [if_neg (by omega)]; simp [h]
def ups : Nat → Int → List Int
  | 0, _ => []
  | n + 1, i => i :: ups n (i + 1)
theorem ups_mem : ∀ (n : Nat) (i x : Int), x ∈ ups n i → i ≤ x ∧ x < i + n
  | 0, _, _, h => by simp [ups] at h
  | n + 1, i, x, h => by
    rw [ups, List.mem_cons] at h
    rcases h with rfl | h
    · omega
    · have := ups_mem n (i + 1) x h; omega
theorem ups_mem_of : ∀ (n : Nat) (i x : Int), i ≤ x → x < i + n → x ∈ ups n i
  | 0, _, _, _, _ => by omega
  | n + 1, i, x, h0, h1 => by
    rw [ups, List.mem_cons]
    by_cases e : x = i
    · exact .inl e
    · exact .inr (ups_mem_of n (i + 1) x (by omega) (by omega))
theorem ups_len : ∀ (n : Nat) (i : Int), (ups n i).length = n
  | 0, _ => rfl
  | n + 1, i => by rw [ups, List.length_cons, ups_len]
def pickAt (l f : List Int) (i : Int) : Int := rd l (if 0 ≤ rd f i ∧ rd f i ≤ 7 then rd f i else i)
def shuf (l f : List Int) : List Int := if valuesOk l = true ∧ f.length = 8 then (ups 8 0).map (pickAt l f) else []
theorem shuf_len (l f : List Int) : (shuf l f).length ≤ 8 := by
  unfold shuf; split
  · rw [List.length_map, ups_len]; omega
  · simp
theorem set_done {xs : List Int} {i : Int} {v : Int} (h0 : 0 ≤ i) (h1 : i < (xs.length : Int)) : (xs.set i.toNat v).take (i + 1).toNat = xs.take i.toNat ++ [v] := by
  rw [show (i + 1).toNat = i.toNat + 1 by omega, List.take_succ_eq_append_getElem (by simp; omega), List.take_set_of_le (Nat.le_refl _)]
  simp
theorem impl_shuf_l0 (l f : List Int) (h8 : l.length = 8) (hf : f.length = 8) : ∀ (d k : Nat) (y : List Int) (i : Int), 0 ≤ i → 8 - i = d → d < k → y.length = 8 →
    impl_Shuffle.l0 k l y f (f.length : Int) i = some (y.take i.toNat ++ (ups d i).map (pickAt l f)) := by
  intro d
  induction d with
  | zero =>
    intro k y i h0 hd hk hy
    obtain ⟨k, rfl⟩ : ∃ q, k = q + 1 := ⟨k - 1, by omega⟩
    simp only [impl_Shuffle.l0]
    rw [if_neg (by omega), List.take_of_length_le (by omega)]; simp [ups]
  | succ d ih =>
    intro k y i h0 hd hk hy
    obtain ⟨k, rfl⟩ : ∃ q, k = q + 1 := ⟨k - 1, by omega⟩
    simp only [impl_Shuffle.l0, impl_isLane.f, within_some, Option.bind_some]
    rw [if_pos (by omega), if_pos h0, if_pos (by omega), w64 (by omega) (by omega), ups, List.map_cons]
    by_cases h : 0 ≤ rd f i ∧ rd f i ≤ 7
    · rw [if_pos (by simpa using h), if_pos h.1, if_pos (by omega), if_pos (by omega), ih k _ (i + 1) (by omega) (by omega) (by omega) (by simpa using hy), set_done h0 (by omega)]
      simp [pickAt, h]
    · rw [if_neg (by simpa using h), if_pos (by omega), if_pos (by omega), ih k _ (i + 1) (by omega) (by omega) (by omega) (by simpa using hy), set_done h0 (by omega)]
      simp [pickAt, h]
theorem impl_shuf_eq {k : Nat} {l f : List Int} (hk : 9 < k) : impl_Shuffle.f k l f = some (shuf l f) := by
  obtain ⟨k, rfl⟩ : ∃ q, k = q + 1 := ⟨k - 1, by omega⟩
  unfold impl_Shuffle.f shuf
  rw [impl_valuesOk_eq]; simp only [Option.bind_some, impl_Shuffle.j0]
  by_cases hv : valuesOk l = true
  · rw [if_pos hv]
    by_cases hf : f.length = 8
    · rw [if_neg (by simp; omega), if_pos (by decide), impl_shuf_l0 l f (valuesOk_len hv) hf 8 k _ 0 (by omega) (by omega) (by omega) (by simp), if_pos ⟨hv, hf⟩]; simp
    · rw [if_pos (by simp; omega), if_neg (fun h => hf h.2)]
  · rw [if_neg hv, if_pos trivial, if_neg (fun h => hv h.1)]
def shufBy (F : Int → Int) (l : List Int) (d : Int) : List Int := if 0 ≤ d ∧ d ≤ 7 then shuf l ((ups 8 0).map F) else []
theorem shufBy_len (F : Int → Int) (l : List Int) (d : Int) : (shufBy F l d).length ≤ 8 := by
  unfold shufBy; split
  · exact shuf_len _ _
  · simp
theorem listOf_ups (F : Int → Int) : listOf F 8 = (ups 8 0).map F := by
  simp [listOf, ups, List.range, List.range.loop]
theorem impl_shufBy_eq (F : Int → Int) (l : List Int) (d : Int) : shuffleByF F l d = some (shufBy F l d) := by
  unfold shuffleByF impl_isLane.f shufBy
  rw [within_some, listOf_ups]; simp only [Option.bind_some]
  by_cases h : 0 ≤ d ∧ d ≤ 7
  · rw [if_pos (by simpa using h), if_pos h, impl_shuf_eq (by omega)]
  · rw [if_neg (by simpa using h), if_neg h]
theorem and255 (n : Int) : Go.bits .and .i64 n 255 = n % 256 := by
  unfold Go.bits
  have h : (BitVec.ofInt 64 n &&& BitVec.ofInt 64 255).toNat = ((n % 256).toNat) := by
    rw [BitVec.toNat_and, show (BitVec.ofInt 64 255).toNat = 2 ^ 8 - 1 by decide, Nat.and_two_pow_sub_one_eq_mod, BitVec.toNat_ofInt]
    omega
  show IntKind.i64.wrap (((BitVec.ofInt 64 n &&& BitVec.ofInt 64 255).toNat : Nat) : Int) = _
  rw [h]
  unfold IntKind.wrap
  have e : ((2 : Int) ^ IntKind.i64.bits) = 18446744073709551616 := by decide
  have e2 : ((2 : Int) ^ (IntKind.i64.bits - 1)) = 9223372036854775808 := by decide
  rw [e, e2]
  have h2 : (((n % 256).toNat : Nat) : Int) % 18446744073709551616 = n % 256 := by omega
  simp only [h2]
  rw [if_neg (by simp; omega)]
theorem byte_ok {xs : List Int} {p : Int} (s : Int) (hl : xs.length ≤ 1048576) (hp : 0 ≤ p) : ∃ v p' s', spec_l01Byte.f xs p s = some (v, p', s') ∧ 0 ≤ v ∧ v ≤ 255 ∧ 0 ≤ p' := by
  unfold spec_l01Byte.f
  by_cases h : p < (xs.length : Int)
  · rw [if_pos h, if_pos hp, w64 (x := p + 1) (by omega) (by omega)]
    exact ⟨_, _, _, rfl, by rw [and255]; omega, by rw [and255]; omega, by omega⟩
  · rw [if_neg h]
    exact ⟨_, _, _, rfl, by rw [and255]; omega, by rw [and255]; omega, hp⟩
theorem below_ok {xs : List Int} {p : Int} (s n : Int) (hl : xs.length ≤ 1048576) (hp : 0 ≤ p) (hn : 0 < n) : ∃ v p' s', spec_l01Below.f xs p s n = some (v, p', s') ∧ 0 ≤ v ∧ v < n ∧ 0 ≤ p' := by
  unfold spec_l01Below.f
  obtain ⟨v1, p1, s1, e1, a1, b1, c1⟩ := byte_ok s hl hp
  rw [if_neg (by omega), e1]; simp only [Option.bind_some]
  by_cases h : n ≤ 256
  · rw [if_pos h, if_neg (by omega)]
    refine ⟨_, _, _, rfl, ?_, ?_, c1⟩
    · rw [Int.tmod_eq_emod_of_nonneg a1]; exact Int.emod_nonneg _ (by omega)
    · rw [Int.tmod_eq_emod_of_nonneg a1]; exact Int.emod_lt_of_pos _ hn
  · obtain ⟨v2, p2, s2, e2, a2, b2, c2⟩ := byte_ok s1 hl c1
    obtain ⟨v3, p3, s3, e3, a3, b3, c3⟩ := byte_ok s2 hl c2
    obtain ⟨v4, p4, s4, e4, a4, b4, c4⟩ := byte_ok s3 hl c3
    rw [if_neg h, e2]; simp only [Option.bind_some]
    rw [e3]; simp only [Option.bind_some]
    rw [e4]; simp only [Option.bind_some]
    rw [if_neg (by omega), w64 (x := v1 * 16777216) (by omega) (by omega), w64 (x := v2 * 65536) (by omega) (by omega), w64 (x := v3 * 256) (by omega) (by omega), w64 (x := v1 * 16777216 + v2 * 65536) (by omega) (by omega), w64 (x := v1 * 16777216 + v2 * 65536 + v3 * 256) (by omega) (by omega), w64 (x := v1 * 16777216 + v2 * 65536 + v3 * 256 + v4) (by omega) (by omega)]
    refine ⟨_, _, _, rfl, ?_, ?_, c4⟩
    · rw [Int.tmod_eq_emod_of_nonneg (by omega)]; exact Int.emod_nonneg _ (by omega)
    · rw [Int.tmod_eq_emod_of_nonneg (by omega)]; exact Int.emod_lt_of_pos _ hn
theorem pick_ok {xs : List Int} {p : Int} (s : Int) {l : List Int} (hl : xs.length ≤ 1048576) (hp : 0 ≤ p) (h1 : 0 < l.length) : ∃ v p' s', spec_l01PickInt.f xs p s l = some (v, p', s') ∧ v ∈ l ∧ 0 ≤ p' := by
  unfold spec_l01PickInt.f
  obtain ⟨v1, p1, s1, e1, a1, b1, c1⟩ := below_ok s (l.length : Int) hl hp (by omega)
  rw [e1]; simp only [Option.bind_some]
  rw [if_pos a1, if_pos b1]
  exact ⟨_, _, _, rfl, rd_mem a1 b1, c1⟩
theorem new_l0 (l : List Int) (hl : l.length ≤ 1048576) : ∀ (d k : Nat) (s i : Int), 0 ≤ i → (l.length : Int) - i = d → d < k → ∃ s', spec_l01New.l0 k l s i = some (l, 0, s') := by
  intro d
  induction d with
  | zero =>
    intro k s i h0 hd hk
    obtain ⟨k, rfl⟩ : ∃ q, k = q + 1 := ⟨k - 1, by omega⟩
    simp only [spec_l01New.l0]
    rw [if_neg (by omega)]
    exact ⟨_, rfl⟩
  | succ d ih =>
    intro k s i h0 hd hk
    obtain ⟨k, rfl⟩ : ∃ q, k = q + 1 := ⟨k - 1, by omega⟩
    simp only [spec_l01New.l0]
    rw [if_pos (by omega)]
    by_cases h : i < 4000
    · rw [if_pos h, if_pos h0, w64 (x := i + 1) (by omega) (by omega)]
      exact ih k _ (i + 1) (by omega) (by omega) (by omega)
    · rw [if_neg h]; exact ⟨_, rfl⟩
theorem new_ok {k : Nat} {l : List Int} (hl : l.length ≤ 1048576) (hk : l.length < k) : ∃ s', spec_l01New.f k l = some (l, 0, s') := by
  unfold spec_l01New.f
  exact new_l0 l hl l.length k _ 0 (by omega) (by omega) hk
theorem word_ok {xs : List Int} {p : Int} (s : Int) (hl : xs.length ≤ 1048576) (hp : 0 ≤ p) : ∃ v p' s', spec_l02Word.f xs p s = some (v, p', s') ∧ (0 ≤ v ∧ v ≤ 65535) ∧ 0 ≤ p' := by
  unfold spec_l02Word.f
  obtain ⟨v1, p1, s1, e1, a1, b1, c1⟩ := below_ok s 9 hl hp (by omega)
  rw [e1]; simp only [Option.bind_some]
  obtain ⟨v2, p2, s2, e2, a2, b2, c2⟩ := below_ok s1 9000 hl c1 (by omega)
  rw [e2]; simp only [Option.bind_some]
  obtain ⟨v3, p3, s3, e3, a3, c3⟩ := pick_ok s2 (l := [0, 1, 2, 7, 100, 65535, 32768, v1, v2]) hl c2 (by simp)
  rw [e3]; simp only [Option.bind_some]
  refine ⟨_, _, _, rfl, ?_, c3⟩
  simp only [List.mem_cons, List.not_mem_nil, or_false] at a3
  omega
theorem values_l0 {xs : List Int} (hl : xs.length ≤ 1048576) : ∀ (d k : Nat) (y : List Int) (i p s : Int), 0 ≤ i → 8 - i = d → d < k → y.length = i.toNat → (∀ x ∈ y, 0 ≤ x ∧ x ≤ 65535) → 0 ≤ p →
    ∃ z p' s', spec_l19Values.l0 k y i xs p s = some (z, p', s') ∧ z.length = 8 ∧ (∀ x ∈ z, 0 ≤ x ∧ x ≤ 65535) ∧ 0 ≤ p' := by
  intro d
  induction d with
  | zero =>
    intro k y i p s h0 hd hk hy hm hp
    obtain ⟨k, rfl⟩ : ∃ q, k = q + 1 := ⟨k - 1, by omega⟩
    simp only [spec_l19Values.l0]
    rw [if_neg (by omega)]
    exact ⟨_, _, _, rfl, by omega, hm, hp⟩
  | succ d ih =>
    intro k y i p s h0 hd hk hy hm hp
    obtain ⟨k, rfl⟩ : ∃ q, k = q + 1 := ⟨k - 1, by omega⟩
    simp only [spec_l19Values.l0]
    obtain ⟨v1, p1, s1, e1, a1, c1⟩ := word_ok s hl hp
    rw [if_pos (by omega), e1]; simp only [Option.bind_some]
    obtain ⟨v2, p2, s2, e2, a2, c2⟩ := pick_ok s1 (l := [0, 0, 1, 2, 5, v1]) hl c1 (by simp)
    rw [e2]; simp only [Option.bind_some]
    rw [if_pos (by omega), w64 (x := i + 1) (by omega) (by omega)]
    refine ih k _ (i + 1) _ _ (by omega) (by omega) (by omega) (by simp; omega) ?_ c2
    intro x hx
    rw [List.mem_append, List.mem_singleton] at hx
    rcases hx with hx | rfl
    · exact hm x hx
    · simp only [List.mem_cons, List.not_mem_nil, or_false] at a2
      omega
theorem drawValues_ok {k : Nat} {xs : List Int} (hl : xs.length ≤ 1048576) (hk : xs.length + 9 < k) : ∃ z, spec_DrawValues.f k xs = some z ∧ valuesOk z = true := by
  unfold spec_DrawValues.f spec_l19Values.f
  obtain ⟨s, e⟩ := new_ok (k := k) hl (by omega)
  rw [e]; simp only [Option.bind_some]
  obtain ⟨z, p, s2, e2, h8, hm, _⟩ := values_l0 hl 8 k [] 0 0 s (by omega) (by omega) (by omega) rfl (by simp) (by omega)
  rw [e2]; simp only [Option.bind_some]
  refine ⟨z, rfl, ?_⟩
  simp only [valuesOk, h8, Bool.and_eq_true, decide_eq_true_eq, List.all_eq_true, isWordB, true_and]
  exact hm
theorem places_l0 {xs : List Int} (hl : xs.length ≤ 1048576) : ∀ (d k : Nat) (y : List Int) (i p s : Int), 0 ≤ i → 12 - i = d → d < k → y.length = i.toNat → (∀ x ∈ y, 0 ≤ x ∧ x < 10000) → 0 ≤ p →
    ∃ z, spec_DrawPlaces.l0 k y i xs p s = some z ∧ z.length = 12 ∧ (∀ x ∈ z, 0 ≤ x ∧ x < 10000) := by
  intro d
  induction d with
  | zero =>
    intro k y i p s h0 hd hk hy hm hp
    obtain ⟨k, rfl⟩ : ∃ q, k = q + 1 := ⟨k - 1, by omega⟩
    simp only [spec_DrawPlaces.l0]
    rw [if_neg (by omega)]
    exact ⟨_, rfl, by omega, hm⟩
  | succ d ih =>
    intro k y i p s h0 hd hk hy hm hp
    obtain ⟨k, rfl⟩ : ∃ q, k = q + 1 := ⟨k - 1, by omega⟩
    simp only [spec_DrawPlaces.l0]
    obtain ⟨v1, p1, s1, e1, a1, b1, c1⟩ := below_ok s 10000 hl hp (by omega)
    rw [if_pos (by omega), e1]; simp only [Option.bind_some]
    rw [if_pos (by omega), w64 (x := i + 1) (by omega) (by omega)]
    refine ih k _ (i + 1) _ _ (by omega) (by omega) (by omega) (by simp; omega) ?_ c1
    intro x hx
    rw [List.mem_append, List.mem_singleton] at hx
    rcases hx with hx | rfl
    · exact hm x hx
    · omega
theorem drawPlaces_ok {k : Nat} {xs : List Int} (hl : xs.length ≤ 1048576) (hk : xs.length + 13 < k) : ∃ z, spec_DrawPlaces.f k xs = some z ∧ z.length = 12 ∧ (∀ x ∈ z, 0 ≤ x ∧ x < 10000) := by
  unfold spec_DrawPlaces.f
  obtain ⟨s, e⟩ := new_ok (k := k) hl (by omega)
  rw [e]; simp only [Option.bind_some]
  exact places_l0 hl 12 k [] 0 0 s (by omega) (by omega) (by omega) rfl (by simp) (by omega)

theorem upShuf_eq (l : List Int) (d : Int) : impl_ShuffleUp.f l d = some (shufBy (fun i => wrap64 (i - d)) l d) := impl_shufBy_eq _ l d
theorem rd_ups (g : Int → Int) {i : Int} (h : 0 ≤ i ∧ i ≤ 7) : rd ((ups 8 0).map g) i = g i := by
  rcases (by omega : i = 0 ∨ i = 1 ∨ i = 2 ∨ i = 3 ∨ i = 4 ∨ i = 5 ∨ i = 6 ∨ i = 7) with e | e | e | e | e | e | e | e <;> subst e <;> rfl
theorem up_l0 (V W : List Int) (D : Int) (hD : 0 ≤ D ∧ D ≤ 7) (hV : V.length = 8) (hW : W.length = 8) (hr : ∀ i, 0 ≤ i ∧ i ≤ 7 → rd W i = rd V (if 0 ≤ i - D ∧ i - D ≤ 7 then i - D else i)) : ∀ (d k : Nat) (i : Int), 0 ≤ i → 8 - i = d → d < k → laws_FnShufflesUp.l0 k V D W i = some true := by
  intro d
  induction d with
  | zero =>
    intro k i h0 hd hk
    obtain ⟨k, rfl⟩ : ∃ q, k = q + 1 := ⟨k - 1, by omega⟩
    simp only [laws_FnShufflesUp.l0]
    rw [if_neg (by omega)]
  | succ d ih =>
    intro k i h0 hd hk
    obtain ⟨k, rfl⟩ : ∃ q, k = q + 1 := ⟨k - 1, by omega⟩
    simp only [laws_FnShufflesUp.l0]
    have h := hr i (by omega)
    rw [if_pos (by omega), w64 (x := i - D) (by omega) (by omega), w64 (x := i + 1) (by omega) (by omega), ih k (i + 1) (by omega) (by omega) (by omega)]
    by_cases c : i < D
    · rw [if_neg (by omega)] at h
      rw [if_pos c, if_pos h0, if_pos (by omega), if_pos (by omega), if_pos h, if_neg (by omega)]
    · rw [if_pos (by omega)] at h
      rw [if_neg c, if_pos (by omega), if_pos h0, if_pos (by omega), if_pos (by omega), if_pos (by omega), if_pos h]
theorem FnShufflesUp : laws_FnShufflesUp.Pure := by
  intro l hm
  unfold maxLen at hm
  by_cases h : l.length ≤ 1048576
  · obtain ⟨V, e1, hV⟩ := drawValues_ok (k := l.length + 50) h (by omega)
    obtain ⟨P, e2, hP, hP2⟩ := drawPlaces_ok (k := l.length + 50) h (by omega)
    have h8 := valuesOk_len hV
    have hd0 := hP2 _ (rd_mem (l := P) (by omega : (0 : Int) ≤ 0) (by omega))
    have hD : 0 ≤ Int.tmod (rd P 0) 8 ∧ Int.tmod (rd P 0) 8 ≤ 7 := by rw [Int.tmod_eq_emod_of_nonneg hd0.1]; omega
    refine ⟨l.length + 50, ?_⟩
    unfold laws_FnShufflesUp.f laws_big.f
    simp only [Option.bind_some, e1, e2, upShuf_eq]
    rw [if_neg (by simp; omega), if_pos (by omega)]
    generalize Int.tmod (rd P 0) 8 = D at hD
    have hs : shufBy (fun i => wrap64 (i - D)) V D = (ups 8 0).map (pickAt V ((ups 8 0).map fun i => wrap64 (i - D))) := by
      unfold shufBy shuf
      rw [if_pos hD, if_pos ⟨hV, by simp [ups]⟩]
    have hl8 : (shufBy (fun i => wrap64 (i - D)) V D).length = 8 := by rw [hs]; simp [ups]
    rw [if_pos (by omega)]
    refine up_l0 V _ D hD h8 hl8 (fun i hi => ?_) 8 _ 0 (by omega) (by omega) (by omega)
    rw [hs, rd_ups _ hi]
    unfold pickAt
    rw [rd_ups _ hi, w64 (by omega) (by omega)]
  · exact ⟨0, by unfold laws_FnShufflesUp.f laws_big.f; simp only [Option.bind_some]; rw [if_pos (by simp; omega)]⟩

end Go.Proofs.Ytojioeaoeloieaa.Pure
