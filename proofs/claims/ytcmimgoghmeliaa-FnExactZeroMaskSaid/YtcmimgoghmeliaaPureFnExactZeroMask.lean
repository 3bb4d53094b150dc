/-
  The program's ZeroMask answers what the reference's answers, for all arguments, and leaves its argument as it was.
  No condition.
-/
import Derived.Test.YtcmimgoghmeliaaPFnExactZeroMaskx4
namespace Go.Proofs.Ytcmimgoghmeliaa.Pure
open Go.RowKit Go.Proofs.Ytcmimgoghmeliaa.PFnExactZeroMask Go.Proofs.YtcmimgoghmeliaaW.PrintWords Go.Proofs.YtcmimgoghmeliaaW.PrintLast Go.Proofs.YtcmimgoghmeliaaW.PrintMore
set_option linter.unusedVariables false
set_option linter.unusedSimpArgs false

theorem w64 {x : Int} (h0 : -9223372036854775808 ≤ x) (h1 : x < 9223372036854775808) : wrap64 x = x := by unfold wrap64; omega
theorem drop_rd {l : List Int} {i : Int} (h0 : 0 ≤ i) (h1 : i < (l.length : Int)) : l.drop i.toNat = rd l i :: l.drop (i + 1).toNat := by
  have hi : i.toNat < l.length := by omega
  rw [show (i + 1).toNat = i.toNat + 1 by omega, List.drop_eq_getElem_cons hi]
  congr 1
  unfold rd
  rw [List.getD_eq_getElem?_getD, List.getElem?_eq_getElem hi]; rfl
theorem rd_mem {l : List Int} {i : Int} (h0 : 0 ≤ i) (h1 : i < (l.length : Int)) : rd l i ∈ l := by
  have hi : i.toNat < l.length := by omega
  unfold rd
  rw [List.getD_eq_getElem?_getD, List.getElem?_eq_getElem hi]
  exact List.getElem_mem hi
theorem take_set_succ {α : Type} {l x : List α} {i : Nat} (v : α) (hl : i < l.length) (hx : i < x.length) (h : x.take i = l.take i) (hv : l[i]'hl = v) : (x.set i v).take (i + 1) = l.take (i + 1) := by
  rw [List.take_succ_eq_append_getElem (by simpa using hx), List.take_succ_eq_append_getElem hl, List.take_set_of_le (Nat.le_refl i), h]
  simp [hv]
theorem rd_get {l : List Int} {i : Int} (h0 : 0 ≤ i) (h1 : i.toNat < l.length) : l[i.toNat]'h1 = rd l i := by
  unfold rd
  rw [List.getD_eq_getElem?_getD, List.getElem?_eq_getElem h1]; rfl
theorem need {p : Prop} (h : p) : p := h
theorem within_some (x a b : Int) : impl_within.f x a b = some (decide (a ≤ x ∧ x ≤ b)) := by
  unfold impl_within.f
  by_cases h : a ≤ x
  · rw [if_pos h]; simp [h]
  · rw [if_neg h]; simp [h]
theorem in_some (x a b : Int) : spec_l01In.f x a b = some (decide (a ≤ x ∧ x ≤ b)) := by
  unfold spec_l01In.f
  by_cases h : a ≤ x
  · rw [if_pos h]; simp [h]
  · rw [if_neg h]; simp [h]
theorem toIntS_l0 (l : List Int) (hl : l.length ≤ 1048576) : ∀ (d k : Nat) (x : List Int) (i : Int), 0 ≤ i → (l.length : Int) - i = d → d < k → x.length = l.length → x.take i.toNat = l.take i.toNat →
    laws_toIntS.l0 k l x i = some l := by
  intro d
  induction d with
  | zero =>
    intro k x i h0 hd hk hx ht
    obtain ⟨k, rfl⟩ : ∃ q, k = q + 1 := ⟨k - 1, by omega⟩
    simp only [laws_toIntS.l0]
    rw [if_neg (by omega)]
    rw [List.take_of_length_le (by omega), List.take_of_length_le (by omega)] at ht
    rw [ht]
  | succ d ih =>
    intro k x i h0 hd hk hx ht
    obtain ⟨k, rfl⟩ : ∃ q, k = q + 1 := ⟨k - 1, by omega⟩
    simp only [laws_toIntS.l0]
    rw [if_pos (by omega), if_pos h0, if_pos (by omega), w64 (by omega) (by omega)]
    refine ih k _ (i + 1) (by omega) (by omega) (by omega) (by simpa using hx) ?_
    rw [show (i + 1).toNat = i.toNat + 1 by omega]
    exact take_set_succ _ (by omega) (by omega) ht (rd_get h0 _)
theorem toIntS_eq {k : Nat} {l : List Int} (hl : l.length ≤ 1048576) (hk : l.length < k) : laws_toIntS.f k l = some l := by
  unfold laws_toIntS.f
  rw [if_pos (by omega), if_pos (by omega)]
  exact toIntS_l0 l hl l.length k _ 0 (by omega) (by omega) hk (by simp) (by simp)
theorem eqIntS_l0 (a b : List Int) (hab : a.length = b.length) (ha : a.length ≤ 9223372036854775807) : ∀ (d k : Nat) (i : Int), 0 ≤ i → (a.length : Int) - i = d → d < k →
    laws_eqIntS.l0 k a b i = some (decide (a.drop i.toNat = b.drop i.toNat)) := by
  intro d
  induction d with
  | zero =>
    intro k i h0 hd hk
    obtain ⟨k, rfl⟩ : ∃ q, k = q + 1 := ⟨k - 1, by omega⟩
    simp only [laws_eqIntS.l0]
    rw [if_neg (by omega), List.drop_of_length_le (by omega), List.drop_of_length_le (by omega)]
    simp
  | succ d ih =>
    intro k i h0 hd hk
    obtain ⟨k, rfl⟩ : ∃ q, k = q + 1 := ⟨k - 1, by omega⟩
    simp only [laws_eqIntS.l0]
    rw [if_pos (by omega), if_pos h0, if_pos (by omega), w64 (by omega) (by omega), drop_rd h0 (by omega), drop_rd (l := b) h0 (by omega)]
    by_cases h : rd a i = rd b i
    · rw [if_pos h, ih k (i + 1) (by omega) (by omega) (by omega)]
      simp [h]
    · rw [if_neg h]; simp [h]
theorem eqIntS_eq {k : Nat} {a b : List Int} (ha : a.length ≤ 9223372036854775807) (hk : a.length < k) : laws_eqIntS.f k a b = some (decide (a = b)) := by
  unfold laws_eqIntS.f
  by_cases h : a.length = b.length
  · rw [if_pos (by omega), eqIntS_l0 a b h ha a.length k 0 (by omega) (by omega) hk]; simp
  · rw [if_neg (by omega)]
    have : a ≠ b := fun e => h (by rw [e])
    simp [this]
theorem eqIntS_self {k : Nat} {a : List Int} (ha : a.length ≤ 9223372036854775807) (hk : a.length < k) : laws_eqIntS.f k a a = some true := by
  rw [eqIntS_eq ha hk]; simp
def ups : Nat → Int → List Int
  | 0, _ => []
  | n + 1, i => i :: ups n (i + 1)
theorem ups_mem : ∀ (n : Nat) (i x : Int), x ∈ ups n i → i ≤ x ∧ x < i + n
  | 0, _, _, h => by simp [ups] at h
  | n + 1, i, x, h => by
    rw [ups, List.mem_cons] at h
    rcases h with rfl | h
    · omega
    · have := ups_mem n (i + 1) x h; omega
theorem ups_mem_of : ∀ (n : Nat) (i x : Int), i ≤ x → x < i + n → x ∈ ups n i
  | 0, _, _, _, _ => by omega
  | n + 1, i, x, h0, h1 => by
    rw [ups, List.mem_cons]
    by_cases e : x = i
    · exact .inl e
    · exact .inr (ups_mem_of n (i + 1) x (by omega) (by omega))
theorem ups_len : ∀ (n : Nat) (i : Int), (ups n i).length = n
  | 0, _ => rfl
  | n + 1, i => by rw [ups, List.length_cons, ups_len]
def isMaskB (m : Int) : Bool := decide (0 ≤ m ∧ m ≤ 255)
def bitB (m i : Int) : Bool := Go.bits .and .i64 (shr .i64 m i) 1 == 1
def hasB (m i : Int) : Bool := isMaskB m && decide (0 ≤ i ∧ i ≤ 7) && bitB m i
def lanes (m : Int) : List Int := (ups 8 0).filter (hasB m)
theorem hasB_in {m i : Int} (h : hasB m i = true) : 0 ≤ i ∧ i ≤ 7 := by simp [hasB] at h; exact h.1.2
theorem hasB_mask {m i : Int} (h : hasB m i = true) : isMaskB m = true := by simp [hasB] at h; exact h.1.1
theorem lanes_in {m x : Int} (h : x ∈ lanes m) : 0 ≤ x ∧ x ≤ 7 := hasB_in (List.mem_filter.1 h).2
theorem lanes_mem {m x : Int} : x ∈ lanes m ↔ hasB m x = true := by
  unfold lanes
  rw [List.mem_filter]
  exact ⟨fun h => h.2, fun h => ⟨ups_mem_of 8 0 x (hasB_in h).1 (by have := (hasB_in h).2; omega), h⟩⟩
theorem lanes_not {m : Int} (h : isMaskB m = false) : lanes m = [] := by
  unfold lanes
  rw [List.filter_eq_nil_iff]
  intro x _ hx
  rw [hasB_mask hx] at h
  exact absurd h (by decide)
theorem lanes_len (m : Int) : (lanes m).length ≤ 8 := by
  unfold lanes
  have := List.length_filter_le (hasB m) (ups 8 0)
  rwa [ups_len] at this
theorem spec_isMask_eq (m : Int) : spec_IsMask.f m = some (isMaskB m) := by
  unfold spec_IsMask.f isMaskB
  rw [in_some]; rfl
theorem spec_hasLane_eq (m i : Int) : spec_HasLane.f m i = some (hasB m i) := by
  unfold spec_HasLane.f hasB
  rw [spec_isMask_eq]; simp only [Option.bind_some, in_some]
  cases hm : isMaskB m with
  | false => rw [if_neg (by decide)]; simp
  | true =>
    rw [if_pos rfl]
    by_cases h : 0 ≤ i ∧ i ≤ 7
    · rw [if_pos (by simpa using h), if_pos h.1]; simp [h, bitB]
    · rw [if_neg (by simpa using h)]; simp [h]
theorem impl_isMask_eq (m : Int) : impl_IsMask.f m = some (isMaskB m) := by
  unfold impl_IsMask.f isMaskB
  rw [within_some]; rfl
theorem impl_hasLane_eq (m i : Int) : impl_HasLane.f m i = some (hasB m i) := by
  unfold impl_HasLane.f impl_isLane.f hasB
  rw [impl_isMask_eq]; simp only [Option.bind_some, within_some]
  cases hm : isMaskB m with
  | false => rw [if_neg (by decide)]; simp
  | true =>
    rw [if_pos rfl]
    by_cases h : 0 ≤ i ∧ i ≤ 7
    · rw [if_pos (by simpa using h), if_pos h.1]; simp [h, bitB]
    · rw [if_neg (by simpa using h)]; simp [h]
theorem impl_lanesOf_l0 (m : Int) : ∀ (d k : Nat) (acc : List Int) (i : Int), 0 ≤ i → 8 - i = d → d < k → acc.length ≤ i → impl_LanesOf.l0 k m acc i = some (acc ++ (ups d i).filter (hasB m)) := by
  intro d
  induction d with
  | zero =>
    intro k acc i h0 hd hk hl
    obtain ⟨k, rfl⟩ : ∃ q, k = q + 1 := ⟨k - 1, by omega⟩
    simp only [impl_LanesOf.l0]
    rw [if_neg (by omega)]; simp [ups]
  | succ d ih =>
    intro k acc i h0 hd hk hl
    obtain ⟨k, rfl⟩ : ∃ q, k = q + 1 := ⟨k - 1, by omega⟩
    simp only [impl_LanesOf.l0, impl_hasLane_eq, Option.bind_some]
    rw [if_pos (by omega), w64 (by omega) (by omega), ups, List.filter_cons]
    by_cases h : hasB m i = true
    · rw [if_pos h, if_pos (by omega), if_pos h, ih k _ (i + 1) (by omega) (by omega) (by omega) (by rw [List.length_append, List.length_singleton]; omega)]
      simp
    · rw [if_neg h, if_neg h, ih k _ (i + 1) (by omega) (by omega) (by omega) (by omega)]
theorem impl_lanesOf_eq {k : Nat} (m : Int) (hk : 8 < k) : impl_LanesOf.f k m = some (lanes m) := by
  unfold impl_LanesOf.f lanes
  rw [impl_lanesOf_l0 m 8 k [] 0 (by omega) (by omega) hk (by simp)]; rfl
theorem drop_getD {α : Type} {l : List α} {i : Int} (z : α) (h0 : 0 ≤ i) (h1 : i < (l.length : Int)) : l.drop i.toNat = l.getD i.toNat z :: l.drop (i + 1).toNat := by
  have hi : i.toNat < l.length := by omega
  rw [show (i + 1).toNat = i.toNat + 1 by omega, List.drop_eq_getElem_cons hi, List.getD_eq_getElem?_getD, List.getElem?_eq_getElem hi]; rfl
theorem getD_get {α : Type} {l : List α} {n : Nat} (z : α) (h : n < l.length) : l.getD n z = l[n]'h := by
  rw [List.getD_eq_getElem?_getD, List.getElem?_eq_getElem h]; rfl
theorem getD_map {α β : Type} {l : List α} {n : Nat} (g : α → β) (z : α) (z2 : β) (h : n < l.length) : (l.map g).getD n z2 = g (l.getD n z) := by
  rw [getD_get z h, getD_get z2 (by simpa using h), List.getElem_map]
def left (a : Int) (n : Nat) : Int := if a - n < 0 then -1 else a - n
theorem szFrameS_eq (l : List S105) {a : Int} (h0 : 0 ≤ a) (h1 : a ≤ 1048576) (hl : l.length ≤ 9223372036854775807) : laws_szFrameS.f l a = some (left a l.length) := by
  unfold laws_szFrameS.f left
  rw [w64 (by omega) (by omega)]
  by_cases h : a - (l.length : Int) < 0
  · rw [if_pos h, if_pos h]
  · rw [if_neg h, if_neg h]
theorem szIntS_eq (l : List Int) {a : Int} (h0 : 0 ≤ a) (h1 : a ≤ 1048576) (hl : l.length ≤ 9223372036854775807) : laws_szIntS.f l a = some (left a l.length) := by
  unfold laws_szIntS.f left
  rw [w64 (by omega) (by omega)]
  by_cases h : a - (l.length : Int) < 0
  · rw [if_pos h, if_pos h]
  · rw [if_neg h, if_neg h]
def cvF (x : S105) : S77 := ⟨x.f0, x.f1, x.f2⟩
theorem toFrameS_l0 (l : List S105) (hl : l.length ≤ 1048576) : ∀ (d k : Nat) (x : List S77) (i : Int), 0 ≤ i → (l.length : Int) - i = d → d < k → x.length = l.length → x.take i.toNat = (l.map cvF).take i.toNat →
    laws_toFrameS.l0 k l x i = some (l.map cvF) := by
  intro d
  induction d with
  | zero =>
    intro k x i h0 hd hk hx ht
    obtain ⟨k, rfl⟩ : ∃ q, k = q + 1 := ⟨k - 1, by omega⟩
    simp only [laws_toFrameS.l0]
    rw [if_neg (by omega)]
    rw [List.take_of_length_le (by omega), List.take_of_length_le (by simp; omega)] at ht
    rw [ht]
  | succ d ih =>
    intro k x i h0 hd hk hx ht
    obtain ⟨k, rfl⟩ : ∃ q, k = q + 1 := ⟨k - 1, by omega⟩
    simp only [laws_toFrameS.l0, laws_toFrame.f, Option.bind_some]
    rw [if_pos (by omega), if_pos h0, if_pos (by omega), w64 (by omega) (by omega)]
    refine ih k _ (i + 1) (by omega) (by omega) (by omega) (by simpa using hx) ?_
    rw [show (i + 1).toNat = i.toNat + 1 by omega]
    refine take_set_succ _ (by simp; omega) (by omega) ht ?_
    rw [List.getElem_map]
    unfold rd_T105
    rw [getD_get _ (by omega : i.toNat < l.length)]; rfl
theorem toFrameS_eq {k : Nat} {l : List S105} (hl : l.length ≤ 1048576) (hk : l.length < k) : laws_toFrameS.f k l = some (l.map cvF) := by
  unfold laws_toFrameS.f
  rw [if_pos (by omega), if_pos (by omega)]
  exact toFrameS_l0 l hl l.length k _ 0 (by omega) (by omega) hk (by simp) (by simp)
theorem eqFrameS_l0 (a : List S77) (ha : a.length ≤ 9223372036854775807) : ∀ (d k : Nat) (i : Int), 0 ≤ i → (a.length : Int) - i = d → d < k →
    laws_eqFrameS.l0 k a a i = some true := by
  intro d
  induction d with
  | zero =>
    intro k i h0 hd hk
    obtain ⟨k, rfl⟩ : ∃ q, k = q + 1 := ⟨k - 1, by omega⟩
    simp only [laws_eqFrameS.l0]
    rw [if_neg (by omega)]
  | succ d ih =>
    intro k i h0 hd hk
    obtain ⟨k, rfl⟩ : ∃ q, k = q + 1 := ⟨k - 1, by omega⟩
    simp only [laws_eqFrameS.l0, laws_eqFrame.f, if_true, Option.bind_some]
    rw [if_pos (by omega), if_pos h0, if_pos (by omega), w64 (by omega) (by omega), ih k (i + 1) (by omega) (by omega) (by omega)]
theorem eqFrameS_self {k : Nat} {a : List S77} (ha : a.length ≤ 9223372036854775807) (hk : a.length < k) : laws_eqFrameS.f k a a = some true := by
  unfold laws_eqFrameS.f
  rw [if_pos rfl, eqFrameS_l0 a ha a.length k 0 (by omega) (by omega) hk]
theorem left_ok {a : Int} {n : Nat} (ha : 0 ≤ a) (ha1 : a ≤ 1048576) (h : ¬ left a n < 0) : left a n = a - n ∧ 0 ≤ a - n ∧ n ≤ 1048576 := by
  unfold left at h ⊢
  split at h
  · omega
  · rename_i q; rw [if_neg q]; omega
theorem szWarp_neg (n : Int) (f : List S105) (r : List Int) {a : Int} (h0 : 0 ≤ a) (h1 : a ≤ 1048576) (hl : f.length ≤ 9223372036854775807) (h : left a f.length < 0) : laws_szWarp.f n f r a = some (-1) := by
  unfold laws_szWarp.f
  rw [szFrameS_eq f h0 h1 hl]; simp only [Option.bind_some]
  rw [if_pos h]
theorem szWarp_pos (n : Int) (f : List S105) (r : List Int) {a : Int} (h0 : 0 ≤ a) (h1 : a ≤ 1048576) (hl : f.length ≤ 9223372036854775807) (hr : r.length ≤ 9223372036854775807) (h : ¬ left a f.length < 0) : laws_szWarp.f n f r a = some (left (a - f.length) r.length) := by
  have hq := left_ok h0 h1 h
  unfold laws_szWarp.f
  rw [szFrameS_eq f h0 h1 hl]; simp only [Option.bind_some]
  rw [if_neg h, hq.1, szIntS_eq r (by omega) (by omega) hr]; simp only [Option.bind_some]
  by_cases h2 : left (a - f.length) r.length < 0
  · rw [if_pos h2]; unfold left at h2 ⊢; split at h2 <;> simp_all
  · rw [if_neg h2]
theorem toWarp_eq {k : Nat} {n : Int} {f : List S105} {r : List Int} (hf : f.length ≤ 1048576) (hr : r.length ≤ 1048576) (hk : f.length < k) (hk2 : r.length < k) : laws_toWarp.f k n f r = some (n, f.map cvF, r) := by
  unfold laws_toWarp.f
  rw [toFrameS_eq hf hk, toIntS_eq hr hk2]; rfl
theorem eqWarp_self {k : Nat} {n : Int} {f : List S77} {r : List Int} (hf : f.length ≤ 9223372036854775807) (hr : r.length ≤ 9223372036854775807) (hk : f.length < k) (hk2 : r.length < k) : laws_eqWarp.f k n f r n f r = some true := by
  unfold laws_eqWarp.f
  rw [if_pos rfl, eqFrameS_self hf hk, Option.bind_some, if_pos rfl, eqIntS_self hr hk2]; rfl
def actMask (f : List S77) : Int := if (f.length : Int) = 0 then 0 else (rd_T77 f ((f.length : Int) - 1)).f2
theorem impl_activeMask_eq (n : Int) {f : List S77} (r : List Int) (hf : f.length ≤ 1048576) : impl_ActiveMask.f n f r = some (actMask f) := by
  unfold impl_ActiveMask.f actMask
  by_cases h : (f.length : Int) = 0
  · rw [if_pos h, if_pos h]
  · rw [w64 (by omega) (by omega), if_neg h, if_neg h, if_pos (by omega), if_pos (by omega)]
theorem spec_activeMask_eq (n : Int) {f : List S77} (r : List Int) (hf : f.length ≤ 1048576) : spec_ActiveMask.f n f r = some (actMask f) := by
  unfold spec_ActiveMask.f actMask
  by_cases h : (f.length : Int) = 0
  · rw [if_pos h, if_pos h]
  · rw [w64 (by omega) (by omega), if_neg h, if_neg h, if_pos (by omega), if_pos (by omega)]
theorem rd_laneOf {l : List Int} {x a : Int} (hl : l.length = 32) (hx : 0 ≤ x ∧ x ≤ 7) (ha : 0 ≤ a ∧ a ≤ 3) : rd (laneOf l x) a = rd l (x * 4 + a) := by
  unfold rd laneOf
  rw [List.getD_eq_getElem?_getD, List.getD_eq_getElem?_getD, List.getElem?_drop, List.getElem?_take_of_lt (by omega), show (x * 4).toNat + a.toNat = (x * 4 + a).toNat by omega]
def zeroOf (f : List S77) (r : List Int) (a : Int) : Int := if 0 ≤ a ∧ a ≤ 3 ∧ r.length = 32 then zeroAll r a (lanes (actMask f)) 0 else 0
theorem impl_zeroMask_eq (n : Int) {f : List S77} (r : List Int) (a : Int) (hf : f.length ≤ 1048576) : impl_ZeroMask.f n f r a = some (zeroOf f r a) := by
  unfold impl_ZeroMask.f impl_isReg.f impl_areAllRegs.f impl_Warp_zeroMask.f zeroMaskF zeroOf
  simp only [within_some, impl_activeMask_eq n r hf, Option.bind_some, impl_lanesOf_eq _ (by omega : 8 < 9)]
  by_cases ha : 0 ≤ a ∧ a ≤ 3
  · rw [if_pos (by simpa using ha)]
    by_cases hr : r.length = 32
    · rw [if_pos (by simp; omega), if_pos, if_pos ⟨ha.1, ha.2, hr⟩]; rfl
      refine ⟨hr, ha.1, ha.2, ?_⟩
      rw [List.all_eq_true]
      intro x hx
      have := lanes_in hx
      simp; omega
    · rw [if_neg (by simp; omega), if_neg (fun h => hr h.2.2)]
  · rw [if_neg (by simpa using ha), if_neg (fun h => ha ⟨h.1, h.2.1⟩)]
theorem zeroAll_cons (l : List Int) (a x m : Int) (L : List Int) : zeroAll l a (x :: L) m = zeroAll l a L (if rd (laneOf l x) a = 0 then Go.bits .or .i64 m (shl .i64 1 x) else m) := rfl
theorem spec_zeroMask_l0 (n : Int) (f : List S77) (r : List Int) (a : Int) (hf : f.length ≤ 1048576) (hr : r.length = 32) (ha : 0 ≤ a ∧ a ≤ 3) : ∀ (d k : Nat) (m i : Int), 0 ≤ i → 8 - i = d → d < k → spec_ZeroMask.l0 k a m i n f r = some (zeroAll r a ((ups d i).filter (hasB (actMask f))) m) := by
  intro d
  induction d with
  | zero =>
    intro k m i h0 hd hk
    obtain ⟨k, rfl⟩ : ∃ q, k = q + 1 := ⟨k - 1, by omega⟩
    simp only [spec_ZeroMask.l0]
    rw [if_neg (by omega)]; rfl
  | succ d ih =>
    intro k m i h0 hd hk
    obtain ⟨k, rfl⟩ : ∃ q, k = q + 1 := ⟨k - 1, by omega⟩
    simp only [spec_ZeroMask.l0, spec_activeMask_eq n r hf, spec_hasLane_eq, Option.bind_some]
    rw [if_pos (by omega), w64 (x := i * 4) (by omega) (by omega), w64 (x := i * 4 + a) (by omega) (by omega), w64 (x := i + 1) (by omega) (by omega), ups, List.filter_cons]
    by_cases h : hasB (actMask f) i = true
    · rw [if_pos h, if_pos (by omega), if_pos (by omega), if_pos h, zeroAll_cons, rd_laneOf hr (by omega) ha]
      by_cases hz : rd r (i * 4 + a) = 0
      · rw [if_pos hz, if_pos h0, if_pos hz, ih k _ (i + 1) (by omega) (by omega) (by omega)]
      · rw [if_neg hz, if_neg hz, ih k _ (i + 1) (by omega) (by omega) (by omega)]
    · rw [if_neg h, if_neg h, ih k _ (i + 1) (by omega) (by omega) (by omega)]
theorem spec_zeroMask_eq {k : Nat} (n : Int) {f : List S77} (r : List Int) (a : Int) (hf : f.length ≤ 1048576) (hk : 10 < k) : spec_ZeroMask.f k n f r a = some (zeroOf f r a) := by
  obtain ⟨k, rfl⟩ : ∃ q, k = q + 1 := ⟨k - 1, by omega⟩
  unfold spec_ZeroMask.f spec_l04Reg.f zeroOf
  simp only [in_some, Option.bind_some, spec_ZeroMask.j0, if_true]
  by_cases ha : 0 ≤ a ∧ a ≤ 3
  · rw [if_pos (by simpa using ha)]
    by_cases hr : r.length = 32
    · rw [if_neg (by simp; omega), if_pos ⟨ha.1, ha.2, hr⟩, spec_zeroMask_l0 n f r a hf hr ha 8 k 0 0 (by omega) (by omega) (by omega)]; rfl
    · rw [if_pos (by simp; omega), if_neg (fun h => hr h.2.2)]
  · rw [if_neg (by simpa using ha), if_neg (fun h => ha ⟨h.1, h.2.1⟩)]

theorem FnExactZeroMask : laws_FnExactZeroMask.Pure := by
  intro n f r a _ hf hr _
  unfold maxLen at hf hr
  by_cases h : left 1048576 f.length < 0
  · exact ⟨0, by unfold laws_FnExactZeroMask.f; rw [szWarp_neg n f r (by omega) (by omega) (by omega) h]; rfl⟩
  have h' := left_ok (by omega) (by omega) h
  by_cases h2 : left (1048576 - (f.length : Int)) r.length < 0
  · exact ⟨0, by unfold laws_FnExactZeroMask.f; rw [szWarp_pos n f r (by omega) (by omega) (by omega) (by omega) h]; simp only [Option.bind_some]; rw [if_pos h2]⟩
  have h2' := left_ok (by omega) (by omega) h2
  have hm : (f.map cvF).length = f.length := List.length_map ..
  refine ⟨f.length + r.length + 50, ?_⟩
  unfold laws_FnExactZeroMask.f
  rw [szWarp_pos n f r (by omega) (by omega) (by omega) (by omega) h]; simp only [Option.bind_some]
  rw [if_neg h2]
  simp only [toWarp_eq (n := n) h'.2.2 h2'.2.2 (by omega : f.length < f.length + r.length + 50) (by omega : r.length < f.length + r.length + 50), impl_zeroMask_eq n (f := f.map cvF) r a (by omega), spec_zeroMask_eq (k := f.length + r.length + 50) n (f := f.map cvF) r a (by omega) (by omega), eqWarp_self (n := n) (by omega : (f.map cvF).length ≤ 9223372036854775807) (by omega : r.length ≤ 9223372036854775807) (by omega : (f.map cvF).length < f.length + r.length + 50) (by omega : r.length < f.length + r.length + 50), Option.bind_some, if_true]

end Go.Proofs.Ytcmimgoghmeliaa.Pure
