/-
  The program's ShuffleXor returns what the reference's returns, for all arguments, in new memory, and leaves its argument as it was.
  No condition.
-/
import Derived.Test.YtojioeaoeloieaaPFnExactShuffleXorx3
namespace Go.Proofs.Ytojioeaoeloieaa.Pure
open Go.RowKit Go.Proofs.Ytojioeaoeloieaa.PFnExactShuffleXor Go.Proofs.YtojioeaoeloieaaW.PrintWords Go.Proofs.YtojioeaoeloieaaW.PrintLast Go.Proofs.YtojioeaoeloieaaW.PrintMore
set_option linter.unusedVariables false
set_option linter.unusedSimpArgs false

theorem w64 {x : Int} (h0 : -9223372036854775808 ≤ x) (h1 : x < 9223372036854775808) : wrap64 x = x := by unfold wrap64; omega
theorem drop_rd {l : List Int} {i : Int} (h0 : 0 ≤ i) (h1 : i < (l.length : Int)) : l.drop i.toNat = rd l i :: l.drop (i + 1).toNat := by
  have hi : i.toNat < l.length := by omega
  rw [show (i + 1).toNat = i.toNat + 1 by omega, List.drop_eq_getElem_cons hi]
  congr 1
  unfold rd
  rw [List.getD_eq_getElem?_getD, List.getElem?_eq_getElem hi]; rfl
theorem rd_mem {l : List Int} {i : Int} (h0 : 0 ≤ i) (h1 : i < (l.length : Int)) : rd l i ∈ l := by
  have hi : i.toNat < l.length := by omega
  unfold rd
  rw [List.getD_eq_getElem?_getD, List.getElem?_eq_getElem hi]
  exact List.getElem_mem hi
theorem take_set_succ {α : Type} {l x : List α} {i : Nat} (v : α) (hl : i < l.length) (hx : i < x.length) (h : x.take i = l.take i) (hv : l[i]'hl = v) : (x.set i v).take (i + 1) = l.take (i + 1) := by
  rw [List.take_succ_eq_append_getElem (by simpa using hx), List.take_succ_eq_append_getElem hl, List.take_set_of_le (Nat.le_refl i), h]
  simp [hv]
theorem rd_get {l : List Int} {i : Int} (h0 : 0 ≤ i) (h1 : i.toNat < l.length) : l[i.toNat]'h1 = rd l i := by
  unfold rd
  rw [List.getD_eq_getElem?_getD, List.getElem?_eq_getElem h1]; rfl
theorem need {p : Prop} (h : p) : p := h
theorem within_some (x a b : Int) : impl_within.f x a b = some (decide (a ≤ x ∧ x ≤ b)) := by
  unfold impl_within.f
  by_cases h : a ≤ x
  · rw [if_pos h]; simp [h]
  · rw [if_neg h]; simp [h]
theorem in_some (x a b : Int) : spec_l01In.f x a b = some (decide (a ≤ x ∧ x ≤ b)) := by
  unfold spec_l01In.f
  by_cases h : a ≤ x
  · rw [if_pos h]; simp [h]
  · rw [if_neg h]; simp [h]
theorem toIntS_l0 (l : List Int) (hl : l.length ≤ 1048576) : ∀ (d k : Nat) (x : List Int) (i : Int), 0 ≤ i → (l.length : Int) - i = d → d < k → x.length = l.length → x.take i.toNat = l.take i.toNat →
    laws_toIntS.l0 k l x i = some l := by
  intro d
  induction d with
  | zero =>
    intro k x i h0 hd hk hx ht
    obtain ⟨k, rfl⟩ : ∃ q, k = q + 1 := ⟨k - 1, by omega⟩
    simp only [laws_toIntS.l0]
    rw [if_neg (by omega)]
    rw [List.take_of_length_le (by omega), List.take_of_length_le (by omega)] at ht
    rw [ht]
  | succ d ih =>
    intro k x i h0 hd hk hx ht
    obtain ⟨k, rfl⟩ : ∃ q, k = q + 1 := ⟨k - 1, by omega⟩
    simp only [laws_toIntS.l0]
    rw [if_pos (by omega), if_pos h0, if_pos (by omega), w64 (by omega) (by omega)]
    refine ih k _ (i + 1) (by omega) (by omega) (by omega) (by simpa using hx) ?_
    rw [show (i + 1).toNat = i.toNat + 1 by omega]
    exact take_set_succ _ (by omega) (by omega) ht (rd_get h0 _)
theorem toIntS_eq {k : Nat} {l : List Int} (hl : l.length ≤ 1048576) (hk : l.length < k) : laws_toIntS.f k l = some l := by
  unfold laws_toIntS.f
  rw [if_pos (by omega), if_pos (by omega)]
  exact toIntS_l0 l hl l.length k _ 0 (by omega) (by omega) hk (by simp) (by simp)
theorem eqIntS_l0 (a b : List Int) (hab : a.length = b.length) (ha : a.length ≤ 9223372036854775807) : ∀ (d k : Nat) (i : Int), 0 ≤ i → (a.length : Int) - i = d → d < k →
    laws_eqIntS.l0 k a b i = some (decide (a.drop i.toNat = b.drop i.toNat)) := by
  intro d
  induction d with
  | zero =>
    intro k i h0 hd hk
    obtain ⟨k, rfl⟩ : ∃ q, k = q + 1 := ⟨k - 1, by omega⟩
    simp only [laws_eqIntS.l0]
    rw [if_neg (by omega), List.drop_of_length_le (by omega), List.drop_of_length_le (by omega)]
    simp
  | succ d ih =>
    intro k i h0 hd hk
    obtain ⟨k, rfl⟩ : ∃ q, k = q + 1 := ⟨k - 1, by omega⟩
    simp only [laws_eqIntS.l0]
    rw [if_pos (by omega), if_pos h0, if_pos (by omega), w64 (by omega) (by omega), drop_rd h0 (by omega), drop_rd (l := b) h0 (by omega)]
    by_cases h : rd a i = rd b i
    · rw [if_pos h, ih k (i + 1) (by omega) (by omega) (by omega)]
      simp [h]
    · rw [if_neg h]; simp [h]
theorem eqIntS_eq {k : Nat} {a b : List Int} (ha : a.length ≤ 9223372036854775807) (hk : a.length < k) : laws_eqIntS.f k a b = some (decide (a = b)) := by
  unfold laws_eqIntS.f
  by_cases h : a.length = b.length
  · rw [if_pos (by omega), eqIntS_l0 a b h ha a.length k 0 (by omega) (by omega) hk]; simp
  · rw [if_neg (by omega)]
    have : a ≠ b := fun e => h (by rw [e])
    simp [this]
theorem eqIntS_self {k : Nat} {a : List Int} (ha : a.length ≤ 9223372036854775807) (hk : a.length < k) : laws_eqIntS.f k a a = some true := by
  rw [eqIntS_eq ha hk]; simp
theorem markIntS_l0 (s : Int) (n : Nat) (hs : 0 ≤ s) (hb : s + n < 9223372036854775807) : ∀ (d k : Nat) (x : List Int) (i : Int), 0 ≤ i → (n : Int) - i = d → d < k → x.length = n → (∀ j : Nat, (j : Int) < i → rd x j = s + j) →
    ∃ y, laws_markIntS.l0 k x (s + i) i = some (s + n, y) ∧ y.length = n ∧ ∀ j : Nat, j < n → rd y j = s + j := by
  intro d
  induction d with
  | zero =>
    intro k x i h0 hd hk hx hr
    obtain ⟨k, rfl⟩ : ∃ q, k = q + 1 := ⟨k - 1, by omega⟩
    simp only [laws_markIntS.l0]
    rw [if_neg (by omega)]
    exact ⟨x, by rw [show s + i = s + n by omega], hx, fun j hj => hr j (by omega)⟩
  | succ d ih =>
    intro k x i h0 hd hk hx hr
    obtain ⟨k, rfl⟩ : ∃ q, k = q + 1 := ⟨k - 1, by omega⟩
    simp only [laws_markIntS.l0]
    rw [if_pos (by omega), if_pos h0, w64 (by omega) (by omega), w64 (by omega) (by omega), show s + i + 1 = s + (i + 1) by omega]
    refine ih k _ (i + 1) (by omega) (by omega) (by omega) (by simpa using hx) fun j hj => ?_
    by_cases e : (j : Int) = i
    · unfold rd
      rw [show i.toNat = j by omega, Int.toNat_natCast, List.getD_eq_getElem?_getD, List.getElem?_set_self (by omega)]
      simp; omega
    · have := hr j (by omega)
      unfold rd at this ⊢
      rw [Int.toNat_natCast] at this ⊢
      rw [← this, List.getD_eq_getElem?_getD, List.getD_eq_getElem?_getD, List.getElem?_set_ne (by omega)]
theorem heldIntS_l0 (s : Int) (n : Nat) (y : List Int) (hs : 0 ≤ s) (hb : s + n < 9223372036854775807) (hy : y.length = n) (hr : ∀ j : Nat, j < n → rd y j = s + j) : ∀ (d k : Nat) (i : Int), 0 ≤ i → (n : Int) - i = d → d < k →
    laws_heldIntS.l0 k y (s + i) i = some (s + n) := by
  intro d
  induction d with
  | zero =>
    intro k i h0 hd hk
    obtain ⟨k, rfl⟩ : ∃ q, k = q + 1 := ⟨k - 1, by omega⟩
    simp only [laws_heldIntS.l0]
    rw [if_neg (by omega), show s + i = s + n by omega]
  | succ d ih =>
    intro k i h0 hd hk
    obtain ⟨k, rfl⟩ : ∃ q, k = q + 1 := ⟨k - 1, by omega⟩
    have := hr i.toNat (by omega)
    rw [show ((i.toNat : Nat) : Int) = i by omega] at this
    simp only [laws_heldIntS.l0]
    rw [if_pos (by omega), if_pos h0, if_pos this, w64 (by omega) (by omega), w64 (by omega) (by omega), show s + i + 1 = s + (i + 1) by omega]
    exact ih k (i + 1) (by omega) (by omega) (by omega)
theorem markIntS_eq {k : Nat} {l : List Int} {s : Int} (hs : 0 ≤ s) (hb : s + l.length < 9223372036854775807) (hk : l.length < k) :
    ∃ y, laws_markIntS.f k l s = some (s + l.length, y) ∧ ∀ q, l.length < q → laws_heldIntS.f q y s = some (s + l.length) := by
  obtain ⟨y, h1, h2, h3⟩ := markIntS_l0 s l.length hs hb l.length k l 0 (by omega) (by omega) hk rfl (fun j hj => by omega)
  rw [Int.add_zero] at h1
  refine ⟨y, h1, fun q hq => ?_⟩
  have := heldIntS_l0 s l.length y hs hb h2 h3 l.length q 0 (by omega) (by omega) hq
  rwa [Int.add_zero] at this
theorem spec_areWords_l0 (l : List Int) (hl : l.length ≤ 1048576) : ∀ (d k : Nat) (i : Int), 0 ≤ i → (l.length : Int) - i = d → d < k → spec_AreWords.l0 k l i = some ((l.drop i.toNat).all isWordB) := by
  intro d
  induction d with
  | zero =>
    intro k i h0 hd hk
    obtain ⟨k, rfl⟩ : ∃ q, k = q + 1 := ⟨k - 1, by omega⟩
    simp only [spec_AreWords.l0]
    rw [if_neg (by omega), List.drop_of_length_le (by omega)]; rfl
  | succ d ih =>
    intro k i h0 hd hk
    obtain ⟨k, rfl⟩ : ∃ q, k = q + 1 := ⟨k - 1, by omega⟩
    simp only [spec_AreWords.l0, spec_IsWord.f, in_some, Option.bind_some]
    rw [if_pos (by omega), if_pos h0, w64 (by omega) (by omega), drop_rd h0 (by omega), List.all_cons]
    by_cases h : 0 ≤ rd l i ∧ rd l i ≤ 65535
    · rw [if_pos (by simpa using h), ih k (i + 1) (by omega) (by omega) (by omega)]
      simp [isWordB, h]
    · rw [if_neg (by simpa using h)]
      simp [isWordB, h]
theorem spec_areWords_eq {k : Nat} {l : List Int} (hl : l.length ≤ 1048576) (hk : l.length < k) : spec_AreWords.f k l = some (l.all isWordB) := by
  unfold spec_AreWords.f
  rw [spec_areWords_l0 l hl l.length k 0 (by omega) (by omega) hk, Int.toNat_zero, List.drop_zero]
def valuesOk (l : List Int) : Bool := decide (l.length = 8) && l.all isWordB
theorem valuesOk_len {l : List Int} (h : valuesOk l = true) : l.length = 8 := by simp [valuesOk] at h; exact h.1
theorem spec_valuesOk_eq {k : Nat} {l : List Int} (hl : l.length ≤ 1048576) (hk : 8 < k) : spec_ValuesOk.f k l = some (valuesOk l) := by
  unfold spec_ValuesOk.f valuesOk
  by_cases h : l.length = 8
  · rw [if_pos (by omega), spec_areWords_eq hl (by omega)]; simp [h]
  · rw [if_neg (by omega)]; simp [h]
theorem impl_valuesOk_eq {l : List Int} : impl_ValuesOk.f l = some (valuesOk l) := by
  unfold impl_ValuesOk.f impl_AreWords.f valuesOk
  by_cases h : l.length = 8
  · rw [if_pos (by omega)]; simp [h]
  · rw [if_neg (by omega)]; simp [h]
def ups : Nat → Int → List Int
  | 0, _ => []
  | n + 1, i => i :: ups n (i + 1)
theorem ups_mem : ∀ (n : Nat) (i x : Int), x ∈ ups n i → i ≤ x ∧ x < i + n
  | 0, _, _, h => by simp [ups] at h
  | n + 1, i, x, h => by
    rw [ups, List.mem_cons] at h
    rcases h with rfl | h
    · omega
    · have := ups_mem n (i + 1) x h; omega
theorem ups_mem_of : ∀ (n : Nat) (i x : Int), i ≤ x → x < i + n → x ∈ ups n i
  | 0, _, _, _, _ => by omega
  | n + 1, i, x, h0, h1 => by
    rw [ups, List.mem_cons]
    by_cases e : x = i
    · exact .inl e
    · exact .inr (ups_mem_of n (i + 1) x (by omega) (by omega))
theorem ups_len : ∀ (n : Nat) (i : Int), (ups n i).length = n
  | 0, _ => rfl
  | n + 1, i => by rw [ups, List.length_cons, ups_len]
def isMaskB (m : Int) : Bool := decide (0 ≤ m ∧ m ≤ 255)
def bitB (m i : Int) : Bool := Go.bits .and .i64 (shr .i64 m i) 1 == 1
def hasB (m i : Int) : Bool := isMaskB m && decide (0 ≤ i ∧ i ≤ 7) && bitB m i
def lanes (m : Int) : List Int := (ups 8 0).filter (hasB m)
theorem hasB_in {m i : Int} (h : hasB m i = true) : 0 ≤ i ∧ i ≤ 7 := by simp [hasB] at h; exact h.1.2
theorem hasB_mask {m i : Int} (h : hasB m i = true) : isMaskB m = true := by simp [hasB] at h; exact h.1.1
theorem lanes_in {m x : Int} (h : x ∈ lanes m) : 0 ≤ x ∧ x ≤ 7 := hasB_in (List.mem_filter.1 h).2
theorem lanes_mem {m x : Int} : x ∈ lanes m ↔ hasB m x = true := by
  unfold lanes
  rw [List.mem_filter]
  exact ⟨fun h => h.2, fun h => ⟨ups_mem_of 8 0 x (hasB_in h).1 (by have := (hasB_in h).2; omega), h⟩⟩
theorem lanes_not {m : Int} (h : isMaskB m = false) : lanes m = [] := by
  unfold lanes
  rw [List.filter_eq_nil_iff]
  intro x _ hx
  rw [hasB_mask hx] at h
  exact absurd h (by decide)
theorem lanes_len (m : Int) : (lanes m).length ≤ 8 := by
  unfold lanes
  have := List.length_filter_le (hasB m) (ups 8 0)
  rwa [ups_len] at this
def pickAt (l f : List Int) (i : Int) : Int := rd l (if 0 ≤ rd f i ∧ rd f i ≤ 7 then rd f i else i)
def shuf (l f : List Int) : List Int := if valuesOk l = true ∧ f.length = 8 then (ups 8 0).map (pickAt l f) else []
theorem shuf_len (l f : List Int) : (shuf l f).length ≤ 8 := by
  unfold shuf; split
  · rw [List.length_map, ups_len]; omega
  · simp
theorem set_done {xs : List Int} {i : Int} {v : Int} (h0 : 0 ≤ i) (h1 : i < (xs.length : Int)) : (xs.set i.toNat v).take (i + 1).toNat = xs.take i.toNat ++ [v] := by
  rw [show (i + 1).toNat = i.toNat + 1 by omega, List.take_succ_eq_append_getElem (by simp; omega), List.take_set_of_le (Nat.le_refl _)]
  simp
theorem impl_shuf_l0 (l f : List Int) (h8 : l.length = 8) (hf : f.length = 8) : ∀ (d k : Nat) (y : List Int) (i : Int), 0 ≤ i → 8 - i = d → d < k → y.length = 8 →
    impl_Shuffle.l0 k l y f (f.length : Int) i = some (y.take i.toNat ++ (ups d i).map (pickAt l f)) := by
  intro d
  induction d with
  | zero =>
    intro k y i h0 hd hk hy
    obtain ⟨k, rfl⟩ : ∃ q, k = q + 1 := ⟨k - 1, by omega⟩
    simp only [impl_Shuffle.l0]
    rw [if_neg (by omega), List.take_of_length_le (by omega)]; simp [ups]
  | succ d ih =>
    intro k y i h0 hd hk hy
    obtain ⟨k, rfl⟩ : ∃ q, k = q + 1 := ⟨k - 1, by omega⟩
    simp only [impl_Shuffle.l0, impl_isLane.f, within_some, Option.bind_some]
    rw [if_pos (by omega), if_pos h0, if_pos (by omega), w64 (by omega) (by omega), ups, List.map_cons]
    by_cases h : 0 ≤ rd f i ∧ rd f i ≤ 7
    · rw [if_pos (by simpa using h), if_pos h.1, if_pos (by omega), if_pos (by omega), ih k _ (i + 1) (by omega) (by omega) (by omega) (by simpa using hy), set_done h0 (by omega)]
      simp [pickAt, h]
    · rw [if_neg (by simpa using h), if_pos (by omega), if_pos (by omega), ih k _ (i + 1) (by omega) (by omega) (by omega) (by simpa using hy), set_done h0 (by omega)]
      simp [pickAt, h]
theorem impl_shuf_eq {k : Nat} {l f : List Int} (hk : 9 < k) : impl_Shuffle.f k l f = some (shuf l f) := by
  obtain ⟨k, rfl⟩ : ∃ q, k = q + 1 := ⟨k - 1, by omega⟩
  unfold impl_Shuffle.f shuf
  rw [impl_valuesOk_eq]; simp only [Option.bind_some, impl_Shuffle.j0]
  by_cases hv : valuesOk l = true
  · rw [if_pos hv]
    by_cases hf : f.length = 8
    · rw [if_neg (by simp; omega), if_pos (by decide), impl_shuf_l0 l f (valuesOk_len hv) hf 8 k _ 0 (by omega) (by omega) (by omega) (by simp), if_pos ⟨hv, hf⟩]; simp
    · rw [if_pos (by simp; omega), if_neg (fun h => hf h.2)]
  · rw [if_neg hv, if_pos trivial, if_neg (fun h => hv h.1)]
theorem spec_shuf_l0 (l f : List Int) (hl : l.length ≤ 1048576) (hv : valuesOk l = true) (hf : f.length = 8) : ∀ (d k : Nat) (y : List Int) (i : Int), 0 ≤ i → 8 - i = d → 2 * d + 12 < k → y.length ≤ i →
    spec_Shuffle.l0 k l f y i = some (y ++ (ups d i).map (pickAt l f)) := by
  have h8 := valuesOk_len hv
  intro d
  induction d with
  | zero =>
    intro k y i h0 hd hk hy
    obtain ⟨k, rfl⟩ : ∃ q, k = q + 1 + 1 := ⟨k - 2, by omega⟩
    simp only [spec_Shuffle.l0, spec_Shuffle.j1]
    rw [if_neg (by omega), if_neg (by decide)]; simp [ups]
  | succ d ih =>
    intro k y i h0 hd hk hy
    obtain ⟨k, rfl⟩ : ∃ q, k = q + 1 + 1 := ⟨k - 2, by omega⟩
    simp only [spec_Shuffle.l0, spec_Shuffle.j1, in_some, Option.bind_some]
    rw [if_pos (by omega), spec_valuesOk_eq hl (by omega)]; simp only [Option.bind_some]
    rw [if_pos hv, if_pos (by simp; omega), if_pos h0, if_pos (by omega), w64 (by omega) (by omega), ups, List.map_cons]
    by_cases h : 0 ≤ rd f i ∧ rd f i ≤ 7
    · rw [if_pos (by simpa using h), if_pos h.1, if_pos (by omega), if_pos (by omega), ih k _ (i + 1) (by omega) (by omega) (by omega) (by simp; omega)]
      simp [pickAt, h]
    · rw [if_neg (by simpa using h), if_pos (by omega), if_pos (by omega), ih k _ (i + 1) (by omega) (by omega) (by omega) (by simp; omega)]
      simp [pickAt, h]
theorem spec_shuf_eq {k : Nat} {l f : List Int} (hl : l.length ≤ 1048576) (hk : 28 < k) : spec_Shuffle.f k l f = some (shuf l f) := by
  unfold spec_Shuffle.f shuf
  by_cases hv : valuesOk l = true
  · by_cases hf : f.length = 8
    · rw [if_pos ⟨hv, hf⟩, spec_shuf_l0 l f hl hv hf 8 k [] 0 (by omega) (by omega) (by omega) (by simp)]; rfl
    · rw [if_neg (fun h => hf h.2)]
      obtain ⟨k, rfl⟩ : ∃ q, k = q + 1 + 1 := ⟨k - 2, by omega⟩
      simp only [spec_Shuffle.l0, spec_Shuffle.j1]
      rw [if_pos (by omega), spec_valuesOk_eq hl (by omega)]; simp only [Option.bind_some]
      rw [if_pos hv, if_neg (by simp; omega)]
  · rw [if_neg (fun h => hv h.1)]
    obtain ⟨k, rfl⟩ : ∃ q, k = q + 1 + 1 := ⟨k - 2, by omega⟩
    simp only [spec_Shuffle.l0, spec_Shuffle.j1]
    rw [if_pos (by omega), spec_valuesOk_eq hl (by omega)]; simp only [Option.bind_some]
    rw [if_neg hv, if_neg (by decide)]
def shufBy (F : Int → Int) (l : List Int) (d : Int) : List Int := if 0 ≤ d ∧ d ≤ 7 then shuf l ((ups 8 0).map F) else []
theorem shufBy_len (F : Int → Int) (l : List Int) (d : Int) : (shufBy F l d).length ≤ 8 := by
  unfold shufBy; split
  · exact shuf_len _ _
  · simp
theorem listOf_ups (F : Int → Int) : listOf F 8 = (ups 8 0).map F := by
  simp [listOf, ups, List.range, List.range.loop]
theorem impl_shufBy_eq (F : Int → Int) (l : List Int) (d : Int) : shuffleByF F l d = some (shufBy F l d) := by
  unfold shuffleByF impl_isLane.f shufBy
  rw [within_some, listOf_ups]; simp only [Option.bind_some]
  by_cases h : 0 ≤ d ∧ d ≤ 7
  · rw [if_pos (by simpa using h), if_pos h, impl_shuf_eq (by omega)]
  · rw [if_neg (by simpa using h), if_neg h]
def rule20 (d r : Int) (i : Int) : Int := if r = 0 then Go.bits .xor .i64 i d else if r = 1 then wrap64 (i - d) else Int.tmod (wrap64 (i + d)) 8
theorem from20_l0 (l : List Int) (hl : l.length ≤ 1048576) (dd r : Int) : ∀ (d k : Nat) (y : List Int) (i : Int), 0 ≤ i → 8 - i = d → d + 30 < k → y.length ≤ i →
    spec_l20From.l0 k l dd r y i = some (shuf l (y ++ (ups d i).map (rule20 dd r))) := by
  intro d
  induction d with
  | zero =>
    intro k y i h0 hd hk hy
    obtain ⟨k, rfl⟩ : ∃ q, k = q + 1 := ⟨k - 1, by omega⟩
    simp only [spec_l20From.l0]
    rw [if_neg (by omega), spec_shuf_eq hl (by omega)]; simp [ups]
  | succ d ih =>
    intro k y i h0 hd hk hy
    obtain ⟨k, rfl⟩ : ∃ q, k = q + 1 := ⟨k - 1, by omega⟩
    simp only [spec_l20From.l0]
    rw [if_pos (by omega), w64 (x := i + 1) (by omega) (by omega), ups, List.map_cons]
    have hlt : y.length < 17592186044416 := by omega
    by_cases h0' : r = 0
    · rw [if_pos h0', if_pos hlt, ih k _ (i + 1) (by omega) (by omega) (by omega) (by simp; omega)]; simp [rule20, h0']
    · rw [if_neg h0']
      by_cases h1 : r = 1
      · rw [if_pos h1, if_pos hlt, ih k _ (i + 1) (by omega) (by omega) (by omega) (by simp; omega)]; simp [rule20, h1]
      · rw [if_neg h1, if_pos hlt, ih k _ (i + 1) (by omega) (by omega) (by omega) (by simp; omega)]; simp [rule20, h0', h1]
theorem from20_eq {k : Nat} {l : List Int} {dd r : Int} (hl : l.length ≤ 1048576) (hk : 38 < k) : spec_l20From.f k l dd r = some (shufBy (rule20 dd r) l dd) := by
  unfold spec_l20From.f shufBy
  rw [in_some]; simp only [Option.bind_some]
  by_cases h : 0 ≤ dd ∧ dd ≤ 7
  · rw [if_pos (by simpa using h), if_pos h, from20_l0 l hl dd r 8 k [] 0 (by omega) (by omega) (by omega) (by simp)]; rfl
  · rw [if_neg (by simpa using h), if_neg h]

theorem spec_ShuffleXor_eq {k : Nat} {l : List Int} {d : Int} (hl : l.length ≤ 1048576) (hk : 38 < k) : spec_ShuffleXor.f k l d = some (shufBy (rule20 d 0) l d) := by
  unfold spec_ShuffleXor.f
  rw [from20_eq hl hk]; rfl
theorem impl_ShuffleXor_eq (l : List Int) (d : Int) : impl_ShuffleXor.f l d = some (shufBy (rule20 d 0) l d) := impl_shufBy_eq _ l d
theorem FnExactShuffleXor : laws_FnExactShuffleXor.Pure := by
  intro l d hm _
  unfold maxLen at hm
  by_cases h : l.length ≤ 1048576
  · have hk1 : l.length < l.length + 99 + 1 := by omega
    have hk3 : l.length < l.length + 99 := by omega
    have hv := shufBy_len (rule20 d 0) l d
    refine ⟨l.length + 99 + 1, ?_⟩
    unfold laws_FnExactShuffleXor.f
    rw [if_neg (by omega)]
    obtain ⟨y, hy, _⟩ := markIntS_eq (k := l.length + 99 + 1) (l := l) (s := 1) (by omega) (by omega) hk1
    obtain ⟨z, hz, hz2⟩ := markIntS_eq (k := l.length + 99) (l := shufBy (rule20 d 0) l d) (s := 1) (by omega) (by omega) (by omega)
    simp only [toIntS_eq h hk1, spec_ShuffleXor_eq (d := d) h (by omega : 38 < l.length + 99 + 1), impl_ShuffleXor_eq l d, eqIntS_self (by omega : (shufBy (rule20 d 0) l d).length ≤ 9223372036854775807) (by omega : (shufBy (rule20 d 0) l d).length < l.length + 99 + 1), eqIntS_self (by omega : l.length ≤ 9223372036854775807) hk1, hy, Option.bind_some, if_true, laws_FnExactShuffleXor.j0]
    rw [if_neg (by omega)]
    simp only [toIntS_eq h hk3, impl_ShuffleXor_eq l d, eqIntS_self (by omega : (shufBy (rule20 d 0) l d).length ≤ 9223372036854775807) (by omega : (shufBy (rule20 d 0) l d).length < l.length + 99), hz, hz2 (l.length + 99) (by omega), Option.bind_some, if_true]
    simp only [Bool.not_true, Bool.false_eq_true, if_false]
    rw [if_neg (by omega), if_neg (by omega)]
  · exact ⟨0, by unfold laws_FnExactShuffleXor.f; rw [if_pos (by omega)]⟩

end Go.Proofs.Ytojioeaoeloieaa.Pure
