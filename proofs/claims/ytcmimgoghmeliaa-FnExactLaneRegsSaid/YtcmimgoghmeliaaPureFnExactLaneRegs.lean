/-
  The program's LaneRegs returns what the reference's returns, for all arguments, in new memory, and leaves its argument as it was.
  No condition.
-/
import Derived.Test.YtcmimgoghmeliaaPFnExactLaneRegsx4
namespace Go.Proofs.Ytcmimgoghmeliaa.Pure
open Go.RowKit Go.Proofs.Ytcmimgoghmeliaa.PFnExactLaneRegs Go.Proofs.YtcmimgoghmeliaaW.PrintWords Go.Proofs.YtcmimgoghmeliaaW.PrintLast Go.Proofs.YtcmimgoghmeliaaW.PrintMore
set_option linter.unusedVariables false
set_option linter.unusedSimpArgs false

theorem w64 {x : Int} (h0 : -9223372036854775808 ≤ x) (h1 : x < 9223372036854775808) : wrap64 x = x := by unfold wrap64; omega
theorem drop_rd {l : List Int} {i : Int} (h0 : 0 ≤ i) (h1 : i < (l.length : Int)) : l.drop i.toNat = rd l i :: l.drop (i + 1).toNat := by
  have hi : i.toNat < l.length := by omega
  rw [show (i + 1).toNat = i.toNat + 1 by omega, List.drop_eq_getElem_cons hi]
  congr 1
  unfold rd
  rw [List.getD_eq_getElem?_getD, List.getElem?_eq_getElem hi]; rfl
theorem rd_mem {l : List Int} {i : Int} (h0 : 0 ≤ i) (h1 : i < (l.length : Int)) : rd l i ∈ l := by
  have hi : i.toNat < l.length := by omega
  unfold rd
  rw [List.getD_eq_getElem?_getD, List.getElem?_eq_getElem hi]
  exact List.getElem_mem hi
theorem take_set_succ {α : Type} {l x : List α} {i : Nat} (v : α) (hl : i < l.length) (hx : i < x.length) (h : x.take i = l.take i) (hv : l[i]'hl = v) : (x.set i v).take (i + 1) = l.take (i + 1) := by
  rw [List.take_succ_eq_append_getElem (by simpa using hx), List.take_succ_eq_append_getElem hl, List.take_set_of_le (Nat.le_refl i), h]
  simp [hv]
theorem rd_get {l : List Int} {i : Int} (h0 : 0 ≤ i) (h1 : i.toNat < l.length) : l[i.toNat]'h1 = rd l i := by
  unfold rd
  rw [List.getD_eq_getElem?_getD, List.getElem?_eq_getElem h1]; rfl
theorem need {p : Prop} (h : p) : p := h
theorem within_some (x a b : Int) : impl_within.f x a b = some (decide (a ≤ x ∧ x ≤ b)) := by
  unfold impl_within.f
  by_cases h : a ≤ x
  · rw [if_pos h]; simp [h]
  · rw [if_neg h]; simp [h]
theorem in_some (x a b : Int) : spec_l01In.f x a b = some (decide (a ≤ x ∧ x ≤ b)) := by
  unfold spec_l01In.f
  by_cases h : a ≤ x
  · rw [if_pos h]; simp [h]
  · rw [if_neg h]; simp [h]
theorem toIntS_l0 (l : List Int) (hl : l.length ≤ 1048576) : ∀ (d k : Nat) (x : List Int) (i : Int), 0 ≤ i → (l.length : Int) - i = d → d < k → x.length = l.length → x.take i.toNat = l.take i.toNat →
    laws_toIntS.l0 k l x i = some l := by
  intro d
  induction d with
  | zero =>
    intro k x i h0 hd hk hx ht
    obtain ⟨k, rfl⟩ : ∃ q, k = q + 1 := ⟨k - 1, by omega⟩
    simp only [laws_toIntS.l0]
    rw [if_neg (by omega)]
    rw [List.take_of_length_le (by omega), List.take_of_length_le (by omega)] at ht
    rw [ht]
  | succ d ih =>
    intro k x i h0 hd hk hx ht
    obtain ⟨k, rfl⟩ : ∃ q, k = q + 1 := ⟨k - 1, by omega⟩
    simp only [laws_toIntS.l0]
    rw [if_pos (by omega), if_pos h0, if_pos (by omega), w64 (by omega) (by omega)]
    refine ih k _ (i + 1) (by omega) (by omega) (by omega) (by simpa using hx) ?_
    rw [show (i + 1).toNat = i.toNat + 1 by omega]
    exact take_set_succ _ (by omega) (by omega) ht (rd_get h0 _)
theorem toIntS_eq {k : Nat} {l : List Int} (hl : l.length ≤ 1048576) (hk : l.length < k) : laws_toIntS.f k l = some l := by
  unfold laws_toIntS.f
  rw [if_pos (by omega), if_pos (by omega)]
  exact toIntS_l0 l hl l.length k _ 0 (by omega) (by omega) hk (by simp) (by simp)
theorem eqIntS_l0 (a b : List Int) (hab : a.length = b.length) (ha : a.length ≤ 9223372036854775807) : ∀ (d k : Nat) (i : Int), 0 ≤ i → (a.length : Int) - i = d → d < k →
    laws_eqIntS.l0 k a b i = some (decide (a.drop i.toNat = b.drop i.toNat)) := by
  intro d
  induction d with
  | zero =>
    intro k i h0 hd hk
    obtain ⟨k, rfl⟩ : ∃ q, k = q + 1 := ⟨k - 1, by omega⟩
    simp only [laws_eqIntS.l0]
    rw [if_neg (by omega), List.drop_of_length_le (by omega), List.drop_of_length_le (by omega)]
    simp
  | succ d ih =>
    intro k i h0 hd hk
    obtain ⟨k, rfl⟩ : ∃ q, k = q + 1 := ⟨k - 1, by omega⟩
    simp only [laws_eqIntS.l0]
    rw [if_pos (by omega), if_pos h0, if_pos (by omega), w64 (by omega) (by omega), drop_rd h0 (by omega), drop_rd (l := b) h0 (by omega)]
    by_cases h : rd a i = rd b i
    · rw [if_pos h, ih k (i + 1) (by omega) (by omega) (by omega)]
      simp [h]
    · rw [if_neg h]; simp [h]
theorem eqIntS_eq {k : Nat} {a b : List Int} (ha : a.length ≤ 9223372036854775807) (hk : a.length < k) : laws_eqIntS.f k a b = some (decide (a = b)) := by
  unfold laws_eqIntS.f
  by_cases h : a.length = b.length
  · rw [if_pos (by omega), eqIntS_l0 a b h ha a.length k 0 (by omega) (by omega) hk]; simp
  · rw [if_neg (by omega)]
    have : a ≠ b := fun e => h (by rw [e])
    simp [this]
theorem eqIntS_self {k : Nat} {a : List Int} (ha : a.length ≤ 9223372036854775807) (hk : a.length < k) : laws_eqIntS.f k a a = some true := by
  rw [eqIntS_eq ha hk]; simp
theorem markIntS_l0 (s : Int) (n : Nat) (hs : 0 ≤ s) (hb : s + n < 9223372036854775807) : ∀ (d k : Nat) (x : List Int) (i : Int), 0 ≤ i → (n : Int) - i = d → d < k → x.length = n → (∀ j : Nat, (j : Int) < i → rd x j = s + j) →
    ∃ y, laws_markIntS.l0 k x (s + i) i = some (s + n, y) ∧ y.length = n ∧ ∀ j : Nat, j < n → rd y j = s + j := by
  intro d
  induction d with
  | zero =>
    intro k x i h0 hd hk hx hr
    obtain ⟨k, rfl⟩ : ∃ q, k = q + 1 := ⟨k - 1, by omega⟩
    simp only [laws_markIntS.l0]
    rw [if_neg (by omega)]
    exact ⟨x, by rw [show s + i = s + n by omega], hx, fun j hj => hr j (by omega)⟩
  | succ d ih =>
    intro k x i h0 hd hk hx hr
    obtain ⟨k, rfl⟩ : ∃ q, k = q + 1 := ⟨k - 1, by omega⟩
    simp only [laws_markIntS.l0]
    rw [if_pos (by omega), if_pos h0, w64 (by omega) (by omega), w64 (by omega) (by omega), show s + i + 1 = s + (i + 1) by omega]
    refine ih k _ (i + 1) (by omega) (by omega) (by omega) (by simpa using hx) fun j hj => ?_
    by_cases e : (j : Int) = i
    · unfold rd
      rw [show i.toNat = j by omega, Int.toNat_natCast, List.getD_eq_getElem?_getD, List.getElem?_set_self (by omega)]
      simp; omega
    · have := hr j (by omega)
      unfold rd at this ⊢
      rw [Int.toNat_natCast] at this ⊢
      rw [← this, List.getD_eq_getElem?_getD, List.getD_eq_getElem?_getD, List.getElem?_set_ne (by omega)]
theorem heldIntS_l0 (s : Int) (n : Nat) (y : List Int) (hs : 0 ≤ s) (hb : s + n < 9223372036854775807) (hy : y.length = n) (hr : ∀ j : Nat, j < n → rd y j = s + j) : ∀ (d k : Nat) (i : Int), 0 ≤ i → (n : Int) - i = d → d < k →
    laws_heldIntS.l0 k y (s + i) i = some (s + n) := by
  intro d
  induction d with
  | zero =>
    intro k i h0 hd hk
    obtain ⟨k, rfl⟩ : ∃ q, k = q + 1 := ⟨k - 1, by omega⟩
    simp only [laws_heldIntS.l0]
    rw [if_neg (by omega), show s + i = s + n by omega]
  | succ d ih =>
    intro k i h0 hd hk
    obtain ⟨k, rfl⟩ : ∃ q, k = q + 1 := ⟨k - 1, by omega⟩
    have := hr i.toNat (by omega)
    rw [show ((i.toNat : Nat) : Int) = i by omega] at this
    simp only [laws_heldIntS.l0]
    rw [if_pos (by omega), if_pos h0, if_pos this, w64 (by omega) (by omega), w64 (by omega) (by omega), show s + i + 1 = s + (i + 1) by omega]
    exact ih k (i + 1) (by omega) (by omega) (by omega)
theorem markIntS_eq {k : Nat} {l : List Int} {s : Int} (hs : 0 ≤ s) (hb : s + l.length < 9223372036854775807) (hk : l.length < k) :
    ∃ y, laws_markIntS.f k l s = some (s + l.length, y) ∧ ∀ q, l.length < q → laws_heldIntS.f q y s = some (s + l.length) := by
  obtain ⟨y, h1, h2, h3⟩ := markIntS_l0 s l.length hs hb l.length k l 0 (by omega) (by omega) hk rfl (fun j hj => by omega)
  rw [Int.add_zero] at h1
  refine ⟨y, h1, fun q hq => ?_⟩
  have := heldIntS_l0 s l.length y hs hb h2 h3 l.length q 0 (by omega) (by omega) hq
  rwa [Int.add_zero] at this
def ups : Nat → Int → List Int
  | 0, _ => []
  | n + 1, i => i :: ups n (i + 1)
theorem ups_mem : ∀ (n : Nat) (i x : Int), x ∈ ups n i → i ≤ x ∧ x < i + n
  | 0, _, _, h => by simp [ups] at h
  | n + 1, i, x, h => by
    rw [ups, List.mem_cons] at h
    rcases h with rfl | h
    · omega
    · have := ups_mem n (i + 1) x h; omega
theorem ups_mem_of : ∀ (n : Nat) (i x : Int), i ≤ x → x < i + n → x ∈ ups n i
  | 0, _, _, _, _ => by omega
  | n + 1, i, x, h0, h1 => by
    rw [ups, List.mem_cons]
    by_cases e : x = i
    · exact .inl e
    · exact .inr (ups_mem_of n (i + 1) x (by omega) (by omega))
theorem ups_len : ∀ (n : Nat) (i : Int), (ups n i).length = n
  | 0, _ => rfl
  | n + 1, i => by rw [ups, List.length_cons, ups_len]
def isMaskB (m : Int) : Bool := decide (0 ≤ m ∧ m ≤ 255)
def bitB (m i : Int) : Bool := Go.bits .and .i64 (shr .i64 m i) 1 == 1
def hasB (m i : Int) : Bool := isMaskB m && decide (0 ≤ i ∧ i ≤ 7) && bitB m i
def lanes (m : Int) : List Int := (ups 8 0).filter (hasB m)
theorem hasB_in {m i : Int} (h : hasB m i = true) : 0 ≤ i ∧ i ≤ 7 := by simp [hasB] at h; exact h.1.2
theorem hasB_mask {m i : Int} (h : hasB m i = true) : isMaskB m = true := by simp [hasB] at h; exact h.1.1
theorem lanes_in {m x : Int} (h : x ∈ lanes m) : 0 ≤ x ∧ x ≤ 7 := hasB_in (List.mem_filter.1 h).2
theorem lanes_mem {m x : Int} : x ∈ lanes m ↔ hasB m x = true := by
  unfold lanes
  rw [List.mem_filter]
  exact ⟨fun h => h.2, fun h => ⟨ups_mem_of 8 0 x (hasB_in h).1 (by have := (hasB_in h).2; omega), h⟩⟩
theorem lanes_not {m : Int} (h : isMaskB m = false) : lanes m = [] := by
  unfold lanes
  rw [List.filter_eq_nil_iff]
  intro x _ hx
  rw [hasB_mask hx] at h
  exact absurd h (by decide)
theorem lanes_len (m : Int) : (lanes m).length ≤ 8 := by
  unfold lanes
  have := List.length_filter_le (hasB m) (ups 8 0)
  rwa [ups_len] at this
theorem drop_getD {α : Type} {l : List α} {i : Int} (z : α) (h0 : 0 ≤ i) (h1 : i < (l.length : Int)) : l.drop i.toNat = l.getD i.toNat z :: l.drop (i + 1).toNat := by
  have hi : i.toNat < l.length := by omega
  rw [show (i + 1).toNat = i.toNat + 1 by omega, List.drop_eq_getElem_cons hi, List.getD_eq_getElem?_getD, List.getElem?_eq_getElem hi]; rfl
theorem getD_get {α : Type} {l : List α} {n : Nat} (z : α) (h : n < l.length) : l.getD n z = l[n]'h := by
  rw [List.getD_eq_getElem?_getD, List.getElem?_eq_getElem h]; rfl
theorem getD_map {α β : Type} {l : List α} {n : Nat} (g : α → β) (z : α) (z2 : β) (h : n < l.length) : (l.map g).getD n z2 = g (l.getD n z) := by
  rw [getD_get z h, getD_get z2 (by simpa using h), List.getElem_map]
def left (a : Int) (n : Nat) : Int := if a - n < 0 then -1 else a - n
theorem szFrameS_eq (l : List S105) {a : Int} (h0 : 0 ≤ a) (h1 : a ≤ 1048576) (hl : l.length ≤ 9223372036854775807) : laws_szFrameS.f l a = some (left a l.length) := by
  unfold laws_szFrameS.f left
  rw [w64 (by omega) (by omega)]
  by_cases h : a - (l.length : Int) < 0
  · rw [if_pos h, if_pos h]
  · rw [if_neg h, if_neg h]
theorem szIntS_eq (l : List Int) {a : Int} (h0 : 0 ≤ a) (h1 : a ≤ 1048576) (hl : l.length ≤ 9223372036854775807) : laws_szIntS.f l a = some (left a l.length) := by
  unfold laws_szIntS.f left
  rw [w64 (by omega) (by omega)]
  by_cases h : a - (l.length : Int) < 0
  · rw [if_pos h, if_pos h]
  · rw [if_neg h, if_neg h]
def cvF (x : S105) : S77 := ⟨x.f0, x.f1, x.f2⟩
theorem toFrameS_l0 (l : List S105) (hl : l.length ≤ 1048576) : ∀ (d k : Nat) (x : List S77) (i : Int), 0 ≤ i → (l.length : Int) - i = d → d < k → x.length = l.length → x.take i.toNat = (l.map cvF).take i.toNat →
    laws_toFrameS.l0 k l x i = some (l.map cvF) := by
  intro d
  induction d with
  | zero =>
    intro k x i h0 hd hk hx ht
    obtain ⟨k, rfl⟩ : ∃ q, k = q + 1 := ⟨k - 1, by omega⟩
    simp only [laws_toFrameS.l0]
    rw [if_neg (by omega)]
    rw [List.take_of_length_le (by omega), List.take_of_length_le (by simp; omega)] at ht
    rw [ht]
  | succ d ih =>
    intro k x i h0 hd hk hx ht
    obtain ⟨k, rfl⟩ : ∃ q, k = q + 1 := ⟨k - 1, by omega⟩
    simp only [laws_toFrameS.l0, laws_toFrame.f, Option.bind_some]
    rw [if_pos (by omega), if_pos h0, if_pos (by omega), w64 (by omega) (by omega)]
    refine ih k _ (i + 1) (by omega) (by omega) (by omega) (by simpa using hx) ?_
    rw [show (i + 1).toNat = i.toNat + 1 by omega]
    refine take_set_succ _ (by simp; omega) (by omega) ht ?_
    rw [List.getElem_map]
    unfold rd_T105
    rw [getD_get _ (by omega : i.toNat < l.length)]; rfl
theorem toFrameS_eq {k : Nat} {l : List S105} (hl : l.length ≤ 1048576) (hk : l.length < k) : laws_toFrameS.f k l = some (l.map cvF) := by
  unfold laws_toFrameS.f
  rw [if_pos (by omega), if_pos (by omega)]
  exact toFrameS_l0 l hl l.length k _ 0 (by omega) (by omega) hk (by simp) (by simp)
theorem eqFrameS_l0 (a : List S77) (ha : a.length ≤ 9223372036854775807) : ∀ (d k : Nat) (i : Int), 0 ≤ i → (a.length : Int) - i = d → d < k →
    laws_eqFrameS.l0 k a a i = some true := by
  intro d
  induction d with
  | zero =>
    intro k i h0 hd hk
    obtain ⟨k, rfl⟩ : ∃ q, k = q + 1 := ⟨k - 1, by omega⟩
    simp only [laws_eqFrameS.l0]
    rw [if_neg (by omega)]
  | succ d ih =>
    intro k i h0 hd hk
    obtain ⟨k, rfl⟩ : ∃ q, k = q + 1 := ⟨k - 1, by omega⟩
    simp only [laws_eqFrameS.l0, laws_eqFrame.f, if_true, Option.bind_some]
    rw [if_pos (by omega), if_pos h0, if_pos (by omega), w64 (by omega) (by omega), ih k (i + 1) (by omega) (by omega) (by omega)]
theorem eqFrameS_self {k : Nat} {a : List S77} (ha : a.length ≤ 9223372036854775807) (hk : a.length < k) : laws_eqFrameS.f k a a = some true := by
  unfold laws_eqFrameS.f
  rw [if_pos rfl, eqFrameS_l0 a ha a.length k 0 (by omega) (by omega) hk]
theorem left_ok {a : Int} {n : Nat} (ha : 0 ≤ a) (ha1 : a ≤ 1048576) (h : ¬ left a n < 0) : left a n = a - n ∧ 0 ≤ a - n ∧ n ≤ 1048576 := by
  unfold left at h ⊢
  split at h
  · omega
  · rename_i q; rw [if_neg q]; omega
theorem szWarp_neg (n : Int) (f : List S105) (r : List Int) {a : Int} (h0 : 0 ≤ a) (h1 : a ≤ 1048576) (hl : f.length ≤ 9223372036854775807) (h : left a f.length < 0) : laws_szWarp.f n f r a = some (-1) := by
  unfold laws_szWarp.f
  rw [szFrameS_eq f h0 h1 hl]; simp only [Option.bind_some]
  rw [if_pos h]
theorem szWarp_pos (n : Int) (f : List S105) (r : List Int) {a : Int} (h0 : 0 ≤ a) (h1 : a ≤ 1048576) (hl : f.length ≤ 9223372036854775807) (hr : r.length ≤ 9223372036854775807) (h : ¬ left a f.length < 0) : laws_szWarp.f n f r a = some (left (a - f.length) r.length) := by
  have hq := left_ok h0 h1 h
  unfold laws_szWarp.f
  rw [szFrameS_eq f h0 h1 hl]; simp only [Option.bind_some]
  rw [if_neg h, hq.1, szIntS_eq r (by omega) (by omega) hr]; simp only [Option.bind_some]
  by_cases h2 : left (a - f.length) r.length < 0
  · rw [if_pos h2]; unfold left at h2 ⊢; split at h2 <;> simp_all
  · rw [if_neg h2]
theorem toWarp_eq {k : Nat} {n : Int} {f : List S105} {r : List Int} (hf : f.length ≤ 1048576) (hr : r.length ≤ 1048576) (hk : f.length < k) (hk2 : r.length < k) : laws_toWarp.f k n f r = some (n, f.map cvF, r) := by
  unfold laws_toWarp.f
  rw [toFrameS_eq hf hk, toIntS_eq hr hk2]; rfl
theorem eqWarp_self {k : Nat} {n : Int} {f : List S77} {r : List Int} (hf : f.length ≤ 9223372036854775807) (hr : r.length ≤ 9223372036854775807) (hk : f.length < k) (hk2 : r.length < k) : laws_eqWarp.f k n f r n f r = some true := by
  unfold laws_eqWarp.f
  rw [if_pos rfl, eqFrameS_self hf hk, Option.bind_some, if_pos rfl, eqIntS_self hr hk2]; rfl
theorem rd_laneOf {l : List Int} {x a : Int} (hl : l.length = 32) (hx : 0 ≤ x ∧ x ≤ 7) (ha : 0 ≤ a ∧ a ≤ 3) : rd (laneOf l x) a = rd l (x * 4 + a) := by
  unfold rd laneOf
  rw [List.getD_eq_getElem?_getD, List.getD_eq_getElem?_getD, List.getElem?_drop, List.getElem?_take_of_lt (by omega), show (x * 4).toNat + a.toNat = (x * 4 + a).toNat by omega]
theorem getD_set {α : Type} {x : List α} {n : Nat} (u z : α) (h : n < x.length) : (x.set n u).getD n z = u := by
  rw [List.getD_eq_getElem?_getD, List.getElem?_set_self h]; rfl
theorem getD_setne {α : Type} {x : List α} {n m : Nat} (u z : α) (h : n ≠ m) : (x.set n u).getD m z = x.getD m z := by
  rw [List.getD_eq_getElem?_getD, List.getD_eq_getElem?_getD, List.getElem?_set_ne h]
theorem markFrameS_l0 (s : Int) (n : Nat) (hs : 0 ≤ s) (hb : s + 3 * n < 9223372036854775800) : ∀ (d k : Nat) (x : List S77) (i : Int), 0 ≤ i → (n : Int) - i = d → d < k → x.length = n → (∀ j : Nat, (j : Int) < i → rd_T77 x j = ⟨s + 3 * j, s + 3 * j + 1, s + 3 * j + 2⟩) →
    ∃ y, laws_markFrameS.l0 k x (s + 3 * i) i = some (s + 3 * n, y) ∧ y.length = n ∧ ∀ j : Nat, j < n → rd_T77 y j = ⟨s + 3 * j, s + 3 * j + 1, s + 3 * j + 2⟩ := by
  intro d
  induction d with
  | zero =>
    intro k x i h0 hd hk hx hr
    obtain ⟨k, rfl⟩ : ∃ q, k = q + 1 := ⟨k - 1, by omega⟩
    simp only [laws_markFrameS.l0]
    rw [if_neg (by omega)]
    exact ⟨x, by rw [show s + 3 * i = s + 3 * n by omega], hx, fun j hj => hr j (by omega)⟩
  | succ d ih =>
    intro k x i h0 hd hk hx hr
    obtain ⟨k, rfl⟩ : ∃ q, k = q + 1 := ⟨k - 1, by omega⟩
    simp only [laws_markFrameS.l0, Option.bind_some]
    have hi : i.toNat < x.length := by omega
    rw [if_pos (by omega), if_pos h0, w64 (x := s + 3 * i + 1) (by omega) (by omega), w64 (x := s + 3 * i + 1 + 1) (by omega) (by omega), w64 (x := s + 3 * i + 1 + 1 + 1) (by omega) (by omega), w64 (x := i + 1) (by omega) (by omega), show s + 3 * i + 1 + 1 + 1 = s + 3 * (i + 1) by omega]
    unfold rd_T77
    simp only [getD_set _ _ hi, List.set_set]
    refine ih k _ (i + 1) (by omega) (by omega) (by omega) (by simpa using hx) fun j hj => ?_
    by_cases e : (j : Int) = i
    · unfold rd_T77
      rw [show ((j : Int)).toNat = i.toNat by omega, getD_set _ _ hi, e]
      congr 1; omega
    · have := hr j (by omega)
      unfold rd_T77 at this ⊢
      rw [getD_setne _ _ (by omega), this]
theorem markFrameS_eq {k : Nat} {l : List S77} {s : Int} (hs : 0 ≤ s) (hb : s + 3 * l.length < 9223372036854775800) (hk : l.length < k) :
    ∃ y, laws_markFrameS.f k l s = some (s + 3 * l.length, y) ∧ y.length = l.length ∧ ∀ j : Nat, j < l.length → rd_T77 y j = ⟨s + 3 * j, s + 3 * j + 1, s + 3 * j + 2⟩ := by
  have := markFrameS_l0 s l.length hs hb l.length k l 0 (by omega) (by omega) hk rfl (fun j hj => by omega)
  simpa [laws_markFrameS.f] using this
theorem markWarp_eq {k : Nat} (n : Int) {f : List S77} {r : List Int} {s : Int} (hs : 0 ≤ s) (hb : s + 3 * f.length + r.length < 9223372036854775800) (hk : f.length < k) (hk2 : r.length < k) :
    ∃ f' r', laws_markWarp.f k n f r s = some (s + 3 * f.length + r.length, f', r') ∧ f'.length = f.length ∧ (∀ j : Nat, j < f.length → rd_T77 f' j = ⟨s + 3 * j, s + 3 * j + 1, s + 3 * j + 2⟩) ∧ (laws_markIntS.f k r (s + 3 * f.length) = some (s + 3 * f.length + r.length, r')) := by
  obtain ⟨y, h1, h2, h3⟩ := markFrameS_eq (k := k) (l := f) (s := s) hs (by omega) hk
  obtain ⟨z, h4, _⟩ := markIntS_eq (k := k) (l := r) (s := s + 3 * f.length) (by omega) (by omega) hk2
  refine ⟨y, z, ?_, h2, h3, h4⟩
  unfold laws_markWarp.f
  rw [h1]; simp only [Option.bind_some]; rw [h4]; rfl

def laneR (r : List Int) (a : Int) : List Int := if 0 ≤ a ∧ a ≤ 7 then (if r.length = 32 then laneOf r a else []) else []
theorem laneR_len (r : List Int) (a : Int) : (laneR r a).length ≤ 32 := by
  unfold laneR laneOf
  split
  · split
    · simp; omega
    · simp
  · simp
theorem impl_laneRegs_eq (n : Int) (f : List S77) (r : List Int) (a : Int) : impl_LaneRegs.f n f r a = some (laneR r a) := by
  have hl := laneR_len r a
  unfold impl_LaneRegs.f laneR cloneIntF
  unfold laneR at hl
  by_cases h : 0 ≤ a ∧ a ≤ 7
  · rw [if_pos h] at hl ⊢; rw [if_pos h]
    by_cases h2 : r.length = 32
    · rw [if_pos h2] at hl ⊢; rw [if_pos h2, if_pos (by omega)]
    · rw [if_neg h2, if_neg h2]
  · rw [if_neg h, if_neg h]
theorem spec_laneRegs_eq (n : Int) (f : List S77) (r : List Int) (a : Int) : spec_LaneRegs.f n f r a = some (laneR r a) := by
  have hl := laneR_len r a
  unfold spec_LaneRegs.f laneR
  unfold laneR at hl
  simp only [in_some, Option.bind_some]
  by_cases h : 0 ≤ a ∧ a ≤ 7
  · rw [if_pos h] at hl ⊢; rw [if_pos (by simpa using h), w64 (x := a * 4) (by omega) (by omega), w64 (x := a + 1) (by omega) (by omega), w64 (x := (a + 1) * 4) (by omega) (by omega)]
    by_cases h2 : r.length = 32
    · rw [if_pos h2] at hl ⊢; unfold laneOf at hl ⊢; rw [if_pos (by omega), if_pos (by omega), if_pos (by omega), if_pos (by omega), if_pos (by simp at hl ⊢; omega)]; rfl
    · rw [if_neg h2, if_neg (by omega)]
  · rw [if_neg h, if_neg (by simpa using h)]
theorem FnExactLaneRegs : laws_FnExactLaneRegs.Pure := by
  intro n f r a _ hf hr _
  unfold maxLen at hf hr
  by_cases h : left 1048576 f.length < 0
  · exact ⟨0, by unfold laws_FnExactLaneRegs.f; rw [szWarp_neg n f r (by omega) (by omega) (by omega) h]; rfl⟩
  have h' := left_ok (by omega) (by omega) h
  by_cases h2 : left (1048576 - (f.length : Int)) r.length < 0
  · exact ⟨0, by unfold laws_FnExactLaneRegs.f; rw [szWarp_pos n f r (by omega) (by omega) (by omega) (by omega) h]; simp only [Option.bind_some]; rw [if_pos h2]⟩
  have h2' := left_ok (by omega) (by omega) h2
  have hm : (f.map cvF).length = f.length := List.length_map ..
  have hv := laneR_len r a
  refine ⟨f.length + r.length + 50 + 1, ?_⟩
  unfold laws_FnExactLaneRegs.f
  rw [szWarp_pos n f r (by omega) (by omega) (by omega) (by omega) h]; simp only [Option.bind_some]
  rw [if_neg h2]
  obtain ⟨y, y2, hy, _⟩ := markWarp_eq (k := f.length + r.length + 50 + 1) n (f := f.map cvF) (r := r) (s := 1) (by omega) (by omega) (by omega) (by omega)
  obtain ⟨z, hz, hz2⟩ := markIntS_eq (k := f.length + r.length + 50) (l := laneR r a) (s := 1) (by omega) (by omega) (by omega)
  simp only [toWarp_eq (n := n) h'.2.2 h2'.2.2 (by omega : f.length < f.length + r.length + 50 + 1) (by omega : r.length < f.length + r.length + 50 + 1), impl_laneRegs_eq, spec_laneRegs_eq, eqWarp_self (n := n) (by omega : (f.map cvF).length ≤ 9223372036854775807) (by omega : r.length ≤ 9223372036854775807) (by omega : (f.map cvF).length < f.length + r.length + 50 + 1) (by omega : r.length < f.length + r.length + 50 + 1), eqIntS_self (a := laneR r a) (k := f.length + r.length + 50 + 1) (by omega) (by omega), hy, Option.bind_some, if_true, laws_FnExactLaneRegs.j0]
  rw [if_neg (by omega)]
  simp only [toWarp_eq (n := n) h'.2.2 h2'.2.2 (by omega : f.length < f.length + r.length + 50) (by omega : r.length < f.length + r.length + 50), impl_laneRegs_eq, eqIntS_self (a := laneR r a) (k := f.length + r.length + 50) (by omega) (by omega), hz, hz2 (f.length + r.length + 50) (by omega), Option.bind_some, if_true]
  simp only [Bool.not_true, Bool.false_eq_true, if_false]
  rw [if_neg (by omega), if_neg (by omega)]

end Go.Proofs.Ytcmimgoghmeliaa.Pure
