/-
  The program's DropFrames returns what the reference's returns, for all arguments, in new memory, and leaves its arguments as they were.
  No condition.
-/
import Derived.Test.YtcmimgoghmeliaaPFnExactDropFramesx6
namespace Go.Proofs.Ytcmimgoghmeliaa.Pure
open Go.RowKit Go.Proofs.Ytcmimgoghmeliaa.PFnExactDropFrames Go.Proofs.YtcmimgoghmeliaaW.PrintWords Go.Proofs.YtcmimgoghmeliaaW.PrintLast Go.Proofs.YtcmimgoghmeliaaW.PrintMore
set_option linter.unusedVariables false
set_option linter.unusedSimpArgs false

theorem w64 {x : Int} (h0 : -9223372036854775808 ≤ x) (h1 : x < 9223372036854775808) : wrap64 x = x := by unfold wrap64; omega
theorem drop_rd {l : List Int} {i : Int} (h0 : 0 ≤ i) (h1 : i < (l.length : Int)) : l.drop i.toNat = rd l i :: l.drop (i + 1).toNat := by
  have hi : i.toNat < l.length := by omega
  rw [show (i + 1).toNat = i.toNat + 1 by omega, List.drop_eq_getElem_cons hi]
  congr 1
  unfold rd
  rw [List.getD_eq_getElem?_getD, List.getElem?_eq_getElem hi]; rfl
theorem rd_mem {l : List Int} {i : Int} (h0 : 0 ≤ i) (h1 : i < (l.length : Int)) : rd l i ∈ l := by
  have hi : i.toNat < l.length := by omega
  unfold rd
  rw [List.getD_eq_getElem?_getD, List.getElem?_eq_getElem hi]
  exact List.getElem_mem hi
theorem take_set_succ {α : Type} {l x : List α} {i : Nat} (v : α) (hl : i < l.length) (hx : i < x.length) (h : x.take i = l.take i) (hv : l[i]'hl = v) : (x.set i v).take (i + 1) = l.take (i + 1) := by
  rw [List.take_succ_eq_append_getElem (by simpa using hx), List.take_succ_eq_append_getElem hl, List.take_set_of_le (Nat.le_refl i), h]
  simp [hv]
theorem rd_get {l : List Int} {i : Int} (h0 : 0 ≤ i) (h1 : i.toNat < l.length) : l[i.toNat]'h1 = rd l i := by
  unfold rd
  rw [List.getD_eq_getElem?_getD, List.getElem?_eq_getElem h1]; rfl
theorem need {p : Prop} (h : p) : p := h
/-- Option.bind_some as an equation that is rewritten, not reckoned. -/
theorem bindS {α β : Type} (x : α) (f : α → Option β) : (some x).bind f = f x := by
  have h : ∀ o : Option α, o = some x → o.bind f = f x := fun o e => by rw [e]; rfl
  exact h _ rfl
theorem toIntS_l0 (l : List Int) (hl : l.length ≤ 1048576) : ∀ (d k : Nat) (x : List Int) (i : Int), 0 ≤ i → (l.length : Int) - i = d → d < k → x.length = l.length → x.take i.toNat = l.take i.toNat →
    laws_toIntS.l0 k l x i = some l := by
  intro d
  induction d with
  | zero =>
    intro k x i h0 hd hk hx ht
    obtain ⟨k, rfl⟩ : ∃ q, k = q + 1 := ⟨k - 1, by omega⟩
    simp only [laws_toIntS.l0]
    rw [if_neg (by omega)]
    rw [List.take_of_length_le (by omega), List.take_of_length_le (by omega)] at ht
    rw [ht]
  | succ d ih =>
    intro k x i h0 hd hk hx ht
    obtain ⟨k, rfl⟩ : ∃ q, k = q + 1 := ⟨k - 1, by omega⟩
    simp only [laws_toIntS.l0]
    rw [if_pos (by omega), if_pos h0, if_pos (by omega), w64 (by omega) (by omega)]
    refine ih k _ (i + 1) (by omega) (by omega) (by omega) (by simpa using hx) ?_
    rw [show (i + 1).toNat = i.toNat + 1 by omega]
    exact take_set_succ _ (by omega) (by omega) ht (rd_get h0 _)
theorem toIntS_eq {k : Nat} {l : List Int} (hl : l.length ≤ 1048576) (hk : l.length < k) : laws_toIntS.f k l = some l := by
  unfold laws_toIntS.f
  rw [if_pos (by omega), if_pos (by omega)]
  exact toIntS_l0 l hl l.length k _ 0 (by omega) (by omega) hk (by simp) (by simp)
theorem eqIntS_l0 (a b : List Int) (hab : a.length = b.length) (ha : a.length ≤ 9223372036854775807) : ∀ (d k : Nat) (i : Int), 0 ≤ i → (a.length : Int) - i = d → d < k →
    laws_eqIntS.l0 k a b i = some (decide (a.drop i.toNat = b.drop i.toNat)) := by
  intro d
  induction d with
  | zero =>
    intro k i h0 hd hk
    obtain ⟨k, rfl⟩ : ∃ q, k = q + 1 := ⟨k - 1, by omega⟩
    simp only [laws_eqIntS.l0]
    rw [if_neg (by omega), List.drop_of_length_le (by omega), List.drop_of_length_le (by omega)]
    simp
  | succ d ih =>
    intro k i h0 hd hk
    obtain ⟨k, rfl⟩ : ∃ q, k = q + 1 := ⟨k - 1, by omega⟩
    simp only [laws_eqIntS.l0]
    rw [if_pos (by omega), if_pos h0, if_pos (by omega), w64 (by omega) (by omega), drop_rd h0 (by omega), drop_rd (l := b) h0 (by omega)]
    by_cases h : rd a i = rd b i
    · rw [if_pos h, ih k (i + 1) (by omega) (by omega) (by omega)]
      simp [h]
    · rw [if_neg h]; simp [h]
theorem eqIntS_eq {k : Nat} {a b : List Int} (ha : a.length ≤ 9223372036854775807) (hk : a.length < k) : laws_eqIntS.f k a b = some (decide (a = b)) := by
  unfold laws_eqIntS.f
  by_cases h : a.length = b.length
  · rw [if_pos (by omega), eqIntS_l0 a b h ha a.length k 0 (by omega) (by omega) hk]; simp
  · rw [if_neg (by omega)]
    have : a ≠ b := fun e => h (by rw [e])
    simp [this]
theorem eqIntS_self {k : Nat} {a : List Int} (ha : a.length ≤ 9223372036854775807) (hk : a.length < k) : laws_eqIntS.f k a a = some true := by
  rw [eqIntS_eq ha hk]; simp
theorem markIntS_l0 (s : Int) (n : Nat) (hs : 0 ≤ s) (hb : s + n < 9223372036854775807) : ∀ (d k : Nat) (x : List Int) (i : Int), 0 ≤ i → (n : Int) - i = d → d < k → x.length = n → (∀ j : Nat, (j : Int) < i → rd x j = s + j) →
    ∃ y, laws_markIntS.l0 k x (s + i) i = some (s + n, y) ∧ y.length = n ∧ ∀ j : Nat, j < n → rd y j = s + j := by
  intro d
  induction d with
  | zero =>
    intro k x i h0 hd hk hx hr
    obtain ⟨k, rfl⟩ : ∃ q, k = q + 1 := ⟨k - 1, by omega⟩
    simp only [laws_markIntS.l0]
    rw [if_neg (by omega)]
    exact ⟨x, by rw [show s + i = s + n by omega], hx, fun j hj => hr j (by omega)⟩
  | succ d ih =>
    intro k x i h0 hd hk hx hr
    obtain ⟨k, rfl⟩ : ∃ q, k = q + 1 := ⟨k - 1, by omega⟩
    simp only [laws_markIntS.l0]
    rw [if_pos (by omega), if_pos h0, w64 (by omega) (by omega), w64 (by omega) (by omega), show s + i + 1 = s + (i + 1) by omega]
    refine ih k _ (i + 1) (by omega) (by omega) (by omega) (by simpa using hx) fun j hj => ?_
    by_cases e : (j : Int) = i
    · unfold rd
      rw [show i.toNat = j by omega, Int.toNat_natCast, List.getD_eq_getElem?_getD, List.getElem?_set_self (by omega)]
      simp; omega
    · have := hr j (by omega)
      unfold rd at this ⊢
      rw [Int.toNat_natCast] at this ⊢
      rw [← this, List.getD_eq_getElem?_getD, List.getD_eq_getElem?_getD, List.getElem?_set_ne (by omega)]
theorem heldIntS_l0 (s : Int) (n : Nat) (y : List Int) (hs : 0 ≤ s) (hb : s + n < 9223372036854775807) (hy : y.length = n) (hr : ∀ j : Nat, j < n → rd y j = s + j) : ∀ (d k : Nat) (i : Int), 0 ≤ i → (n : Int) - i = d → d < k →
    laws_heldIntS.l0 k y (s + i) i = some (s + n) := by
  intro d
  induction d with
  | zero =>
    intro k i h0 hd hk
    obtain ⟨k, rfl⟩ : ∃ q, k = q + 1 := ⟨k - 1, by omega⟩
    simp only [laws_heldIntS.l0]
    rw [if_neg (by omega), show s + i = s + n by omega]
  | succ d ih =>
    intro k i h0 hd hk
    obtain ⟨k, rfl⟩ : ∃ q, k = q + 1 := ⟨k - 1, by omega⟩
    have := hr i.toNat (by omega)
    rw [show ((i.toNat : Nat) : Int) = i by omega] at this
    simp only [laws_heldIntS.l0]
    rw [if_pos (by omega), if_pos h0, if_pos this, w64 (by omega) (by omega), w64 (by omega) (by omega), show s + i + 1 = s + (i + 1) by omega]
    exact ih k (i + 1) (by omega) (by omega) (by omega)
theorem markIntS_eq {k : Nat} {l : List Int} {s : Int} (hs : 0 ≤ s) (hb : s + l.length < 9223372036854775807) (hk : l.length < k) :
    ∃ y, laws_markIntS.f k l s = some (s + l.length, y) ∧ ∀ q, l.length < q → laws_heldIntS.f q y s = some (s + l.length) := by
  obtain ⟨y, h1, h2, h3⟩ := markIntS_l0 s l.length hs hb l.length k l 0 (by omega) (by omega) hk rfl (fun j hj => by omega)
  rw [Int.add_zero] at h1
  refine ⟨y, h1, fun q hq => ?_⟩
  have := heldIntS_l0 s l.length y hs hb h2 h3 l.length q 0 (by omega) (by omega) hq
  rwa [Int.add_zero] at this
theorem drop_getD {α : Type} {l : List α} {i : Int} (z : α) (h0 : 0 ≤ i) (h1 : i < (l.length : Int)) : l.drop i.toNat = l.getD i.toNat z :: l.drop (i + 1).toNat := by
  have hi : i.toNat < l.length := by omega
  rw [show (i + 1).toNat = i.toNat + 1 by omega, List.drop_eq_getElem_cons hi, List.getD_eq_getElem?_getD, List.getElem?_eq_getElem hi]; rfl
theorem getD_get {α : Type} {l : List α} {n : Nat} (z : α) (h : n < l.length) : l.getD n z = l[n]'h := by
  rw [List.getD_eq_getElem?_getD, List.getElem?_eq_getElem h]; rfl
theorem getD_map {α β : Type} {l : List α} {n : Nat} (g : α → β) (z : α) (z2 : β) (h : n < l.length) : (l.map g).getD n z2 = g (l.getD n z) := by
  rw [getD_get z h, getD_get z2 (by simpa using h), List.getElem_map]
def left (a : Int) (n : Nat) : Int := if a - n < 0 then -1 else a - n
def cvI (x : S96) : S94 := ⟨x.f0, x.f1, x.f2, x.f3⟩
theorem toInsS_l0 (l : List S96) (hl : l.length ≤ 1048576) : ∀ (d k : Nat) (x : List S94) (i : Int), 0 ≤ i → (l.length : Int) - i = d → d < k → x.length = l.length → x.take i.toNat = (l.map cvI).take i.toNat →
    laws_toInsS.l0 k l x i = some (l.map cvI) := by
  intro d
  induction d with
  | zero =>
    intro k x i h0 hd hk hx ht
    obtain ⟨k, rfl⟩ : ∃ q, k = q + 1 := ⟨k - 1, by omega⟩
    simp only [laws_toInsS.l0]
    rw [if_neg (by omega)]
    rw [List.take_of_length_le (by omega), List.take_of_length_le (by simp; omega)] at ht
    rw [ht]
  | succ d ih =>
    intro k x i h0 hd hk hx ht
    obtain ⟨k, rfl⟩ : ∃ q, k = q + 1 := ⟨k - 1, by omega⟩
    simp only [laws_toInsS.l0, laws_toIns.f, Option.bind_some]
    rw [if_pos (by omega), if_pos h0, if_pos (by omega), w64 (by omega) (by omega)]
    refine ih k _ (i + 1) (by omega) (by omega) (by omega) (by simpa using hx) ?_
    rw [show (i + 1).toNat = i.toNat + 1 by omega]
    refine take_set_succ _ (by simp; omega) (by omega) ht ?_
    rw [List.getElem_map]
    unfold rd_T96
    rw [getD_get _ (by omega : i.toNat < l.length)]; rfl
theorem toInsS_eq {k : Nat} {l : List S96} (hl : l.length ≤ 1048576) (hk : l.length < k) : laws_toInsS.f k l = some (l.map cvI) := by
  unfold laws_toInsS.f
  rw [if_pos (by omega), if_pos (by omega)]
  exact toInsS_l0 l hl l.length k _ 0 (by omega) (by omega) hk (by simp) (by simp)
theorem eqInsS_l0 (a : List S94) (ha : a.length ≤ 9223372036854775807) : ∀ (d k : Nat) (i : Int), 0 ≤ i → (a.length : Int) - i = d → d < k →
    laws_eqInsS.l0 k a a i = some true := by
  intro d
  induction d with
  | zero =>
    intro k i h0 hd hk
    obtain ⟨k, rfl⟩ : ∃ q, k = q + 1 := ⟨k - 1, by omega⟩
    simp only [laws_eqInsS.l0]
    rw [if_neg (by omega)]
  | succ d ih =>
    intro k i h0 hd hk
    obtain ⟨k, rfl⟩ : ∃ q, k = q + 1 := ⟨k - 1, by omega⟩
    simp only [laws_eqInsS.l0, laws_eqIns.f, if_true, Option.bind_some]
    rw [if_pos (by omega), if_pos h0, if_pos (by omega), w64 (by omega) (by omega), ih k (i + 1) (by omega) (by omega) (by omega)]
theorem eqInsS_self {k : Nat} {a : List S94} (ha : a.length ≤ 9223372036854775807) (hk : a.length < k) : laws_eqInsS.f k a a = some true := by
  unfold laws_eqInsS.f
  rw [if_pos rfl, eqInsS_l0 a ha a.length k 0 (by omega) (by omega) hk]
theorem szInsS_eq (l : List S96) {a : Int} (h0 : 0 ≤ a) (h1 : a ≤ 1048576) (hl : l.length ≤ 9223372036854775807) : laws_szInsS.f l a = some (left a l.length) := by
  unfold laws_szInsS.f left
  rw [w64 (by omega) (by omega)]
  by_cases h : a - (l.length : Int) < 0
  · rw [if_pos h, if_pos h]
  · rw [if_neg h, if_neg h]
theorem szFrameS_eq (l : List S105) {a : Int} (h0 : 0 ≤ a) (h1 : a ≤ 1048576) (hl : l.length ≤ 9223372036854775807) : laws_szFrameS.f l a = some (left a l.length) := by
  unfold laws_szFrameS.f left
  rw [w64 (by omega) (by omega)]
  by_cases h : a - (l.length : Int) < 0
  · rw [if_pos h, if_pos h]
  · rw [if_neg h, if_neg h]
theorem szIntS_eq (l : List Int) {a : Int} (h0 : 0 ≤ a) (h1 : a ≤ 1048576) (hl : l.length ≤ 9223372036854775807) : laws_szIntS.f l a = some (left a l.length) := by
  unfold laws_szIntS.f left
  rw [w64 (by omega) (by omega)]
  by_cases h : a - (l.length : Int) < 0
  · rw [if_pos h, if_pos h]
  · rw [if_neg h, if_neg h]
def cvF (x : S105) : S77 := ⟨x.f0, x.f1, x.f2⟩
theorem toFrameS_l0 (l : List S105) (hl : l.length ≤ 1048576) : ∀ (d k : Nat) (x : List S77) (i : Int), 0 ≤ i → (l.length : Int) - i = d → d < k → x.length = l.length → x.take i.toNat = (l.map cvF).take i.toNat →
    laws_toFrameS.l0 k l x i = some (l.map cvF) := by
  intro d
  induction d with
  | zero =>
    intro k x i h0 hd hk hx ht
    obtain ⟨k, rfl⟩ : ∃ q, k = q + 1 := ⟨k - 1, by omega⟩
    simp only [laws_toFrameS.l0]
    rw [if_neg (by omega)]
    rw [List.take_of_length_le (by omega), List.take_of_length_le (by simp; omega)] at ht
    rw [ht]
  | succ d ih =>
    intro k x i h0 hd hk hx ht
    obtain ⟨k, rfl⟩ : ∃ q, k = q + 1 := ⟨k - 1, by omega⟩
    simp only [laws_toFrameS.l0, laws_toFrame.f, Option.bind_some]
    rw [if_pos (by omega), if_pos h0, if_pos (by omega), w64 (by omega) (by omega)]
    refine ih k _ (i + 1) (by omega) (by omega) (by omega) (by simpa using hx) ?_
    rw [show (i + 1).toNat = i.toNat + 1 by omega]
    refine take_set_succ _ (by simp; omega) (by omega) ht ?_
    rw [List.getElem_map]
    unfold rd_T105
    rw [getD_get _ (by omega : i.toNat < l.length)]; rfl
theorem toFrameS_eq {k : Nat} {l : List S105} (hl : l.length ≤ 1048576) (hk : l.length < k) : laws_toFrameS.f k l = some (l.map cvF) := by
  unfold laws_toFrameS.f
  rw [if_pos (by omega), if_pos (by omega)]
  exact toFrameS_l0 l hl l.length k _ 0 (by omega) (by omega) hk (by simp) (by simp)
theorem eqFrameS_l0 (a : List S77) (ha : a.length ≤ 9223372036854775807) : ∀ (d k : Nat) (i : Int), 0 ≤ i → (a.length : Int) - i = d → d < k →
    laws_eqFrameS.l0 k a a i = some true := by
  intro d
  induction d with
  | zero =>
    intro k i h0 hd hk
    obtain ⟨k, rfl⟩ : ∃ q, k = q + 1 := ⟨k - 1, by omega⟩
    simp only [laws_eqFrameS.l0]
    rw [if_neg (by omega)]
  | succ d ih =>
    intro k i h0 hd hk
    obtain ⟨k, rfl⟩ : ∃ q, k = q + 1 := ⟨k - 1, by omega⟩
    simp only [laws_eqFrameS.l0, laws_eqFrame.f, if_true, Option.bind_some]
    rw [if_pos (by omega), if_pos h0, if_pos (by omega), w64 (by omega) (by omega), ih k (i + 1) (by omega) (by omega) (by omega)]
theorem eqFrameS_self {k : Nat} {a : List S77} (ha : a.length ≤ 9223372036854775807) (hk : a.length < k) : laws_eqFrameS.f k a a = some true := by
  unfold laws_eqFrameS.f
  rw [if_pos rfl, eqFrameS_l0 a ha a.length k 0 (by omega) (by omega) hk]
theorem left_ok {a : Int} {n : Nat} (ha : 0 ≤ a) (ha1 : a ≤ 1048576) (h : ¬ left a n < 0) : left a n = a - n ∧ 0 ≤ a - n ∧ n ≤ 1048576 := by
  unfold left at h ⊢
  split at h
  · omega
  · rename_i q; rw [if_neg q]; omega
theorem szWarp_neg (n : Int) (f : List S105) (r : List Int) {a : Int} (h0 : 0 ≤ a) (h1 : a ≤ 1048576) (hl : f.length ≤ 9223372036854775807) (h : left a f.length < 0) : laws_szWarp.f n f r a = some (-1) := by
  unfold laws_szWarp.f
  rw [szFrameS_eq f h0 h1 hl]; simp only [Option.bind_some]
  rw [if_pos h]
theorem szWarp_pos (n : Int) (f : List S105) (r : List Int) {a : Int} (h0 : 0 ≤ a) (h1 : a ≤ 1048576) (hl : f.length ≤ 9223372036854775807) (hr : r.length ≤ 9223372036854775807) (h : ¬ left a f.length < 0) : laws_szWarp.f n f r a = some (left (a - f.length) r.length) := by
  have hq := left_ok h0 h1 h
  unfold laws_szWarp.f
  rw [szFrameS_eq f h0 h1 hl]; simp only [Option.bind_some]
  rw [if_neg h, hq.1, szIntS_eq r (by omega) (by omega) hr]; simp only [Option.bind_some]
  by_cases h2 : left (a - f.length) r.length < 0
  · rw [if_pos h2]; unfold left at h2 ⊢; split at h2 <;> simp_all
  · rw [if_neg h2]
theorem toWarp_eq {k : Nat} {n : Int} {f : List S105} {r : List Int} (hf : f.length ≤ 1048576) (hr : r.length ≤ 1048576) (hk : f.length < k) (hk2 : r.length < k) : laws_toWarp.f k n f r = some (n, f.map cvF, r) := by
  unfold laws_toWarp.f
  rw [toFrameS_eq hf hk, toIntS_eq hr hk2]; rfl
theorem eqWarp_self {k : Nat} {n : Int} {f : List S77} {r : List Int} (hf : f.length ≤ 9223372036854775807) (hr : r.length ≤ 9223372036854775807) (hk : f.length < k) (hk2 : r.length < k) : laws_eqWarp.f k n f r n f r = some true := by
  unfold laws_eqWarp.f
  rw [if_pos rfl, eqFrameS_self hf hk, Option.bind_some, if_pos rfl, eqIntS_self hr hk2]; rfl
theorem getD_set {α : Type} {x : List α} {n : Nat} (u z : α) (h : n < x.length) : (x.set n u).getD n z = u := by
  rw [List.getD_eq_getElem?_getD, List.getElem?_set_self h]; rfl
theorem getD_setne {α : Type} {x : List α} {n m : Nat} (u z : α) (h : n ≠ m) : (x.set n u).getD m z = x.getD m z := by
  rw [List.getD_eq_getElem?_getD, List.getD_eq_getElem?_getD, List.getElem?_set_ne h]
theorem markFrameS_l0 (s : Int) (n : Nat) (hs : 0 ≤ s) (hb : s + 3 * n < 9223372036854775800) : ∀ (d k : Nat) (x : List S77) (i : Int), 0 ≤ i → (n : Int) - i = d → d < k → x.length = n → (∀ j : Nat, (j : Int) < i → rd_T77 x j = ⟨s + 3 * j, s + 3 * j + 1, s + 3 * j + 2⟩) →
    ∃ y, laws_markFrameS.l0 k x (s + 3 * i) i = some (s + 3 * n, y) ∧ y.length = n ∧ ∀ j : Nat, j < n → rd_T77 y j = ⟨s + 3 * j, s + 3 * j + 1, s + 3 * j + 2⟩ := by
  intro d
  induction d with
  | zero =>
    intro k x i h0 hd hk hx hr
    obtain ⟨k, rfl⟩ : ∃ q, k = q + 1 := ⟨k - 1, by omega⟩
    simp only [laws_markFrameS.l0]
    rw [if_neg (by omega)]
    exact ⟨x, by rw [show s + 3 * i = s + 3 * n by omega], hx, fun j hj => hr j (by omega)⟩
  | succ d ih =>
    intro k x i h0 hd hk hx hr
    obtain ⟨k, rfl⟩ : ∃ q, k = q + 1 := ⟨k - 1, by omega⟩
    simp only [laws_markFrameS.l0, Option.bind_some]
    have hi : i.toNat < x.length := by omega
    rw [if_pos (by omega), if_pos h0, w64 (x := s + 3 * i + 1) (by omega) (by omega), w64 (x := s + 3 * i + 1 + 1) (by omega) (by omega), w64 (x := s + 3 * i + 1 + 1 + 1) (by omega) (by omega), w64 (x := i + 1) (by omega) (by omega), show s + 3 * i + 1 + 1 + 1 = s + 3 * (i + 1) by omega]
    unfold rd_T77
    simp only [getD_set _ _ hi, List.set_set]
    refine ih k _ (i + 1) (by omega) (by omega) (by omega) (by simpa using hx) fun j hj => ?_
    by_cases e : (j : Int) = i
    · unfold rd_T77
      rw [show ((j : Int)).toNat = i.toNat by omega, getD_set _ _ hi, e]
      congr 1; omega
    · have := hr j (by omega)
      unfold rd_T77 at this ⊢
      rw [getD_setne _ _ (by omega), this]
theorem markFrameS_eq {k : Nat} {l : List S77} {s : Int} (hs : 0 ≤ s) (hb : s + 3 * l.length < 9223372036854775800) (hk : l.length < k) :
    ∃ y, laws_markFrameS.f k l s = some (s + 3 * l.length, y) ∧ y.length = l.length ∧ ∀ j : Nat, j < l.length → rd_T77 y j = ⟨s + 3 * j, s + 3 * j + 1, s + 3 * j + 2⟩ := by
  have := markFrameS_l0 s l.length hs hb l.length k l 0 (by omega) (by omega) hk rfl (fun j hj => by omega)
  simpa [laws_markFrameS.f] using this
theorem markWarp_eq {k : Nat} (n : Int) {f : List S77} {r : List Int} {s : Int} (hs : 0 ≤ s) (hb : s + 3 * f.length + r.length < 9223372036854775800) (hk : f.length < k) (hk2 : r.length < k) :
    ∃ f' r', laws_markWarp.f k n f r s = some (s + 3 * f.length + r.length, f', r') ∧ f'.length = f.length ∧ (∀ j : Nat, j < f.length → rd_T77 f' j = ⟨s + 3 * j, s + 3 * j + 1, s + 3 * j + 2⟩) ∧ (laws_markIntS.f k r (s + 3 * f.length) = some (s + 3 * f.length + r.length, r')) := by
  obtain ⟨y, h1, h2, h3⟩ := markFrameS_eq (k := k) (l := f) (s := s) hs (by omega) hk
  obtain ⟨z, h4, _⟩ := markIntS_eq (k := k) (l := r) (s := s + 3 * f.length) (by omega) (by omega) hk2
  refine ⟨y, z, ?_, h2, h3, h4⟩
  unfold laws_markWarp.f
  rw [h1]; simp only [Option.bind_some]; rw [h4]; rfl
theorem getD_setI {α : Type} {x : List α} {n : Nat} (u z : α) (h : n < x.length) : (x.set n u).getD n z = u := by
  rw [List.getD_eq_getElem?_getD, List.getElem?_set_self h]; rfl
theorem markInsS_l0 (s : Int) (n : Nat) (hs : 0 ≤ s) (hb : s + 4 * n < 9223372036854775800) : ∀ (d k : Nat) (x : List S94) (i : Int), 0 ≤ i → (n : Int) - i = d → d < k → x.length = n →
    ∃ y, laws_markInsS.l0 k x (s + 4 * i) i = some (s + 4 * n, y) := by
  intro d
  induction d with
  | zero =>
    intro k x i h0 hd hk hx
    obtain ⟨k, rfl⟩ : ∃ q, k = q + 1 := ⟨k - 1, by omega⟩
    simp only [laws_markInsS.l0]
    rw [if_neg (by omega)]
    exact ⟨x, by rw [show s + 4 * i = s + 4 * n by omega]⟩
  | succ d ih =>
    intro k x i h0 hd hk hx
    obtain ⟨k, rfl⟩ : ∃ q, k = q + 1 := ⟨k - 1, by omega⟩
    simp only [laws_markInsS.l0, Option.bind_some]
    have hi : i.toNat < x.length := by omega
    rw [if_pos (by omega), if_pos h0, w64 (x := s + 4 * i + 1) (by omega) (by omega), w64 (x := s + 4 * i + 1 + 1) (by omega) (by omega), w64 (x := s + 4 * i + 1 + 1 + 1) (by omega) (by omega), w64 (x := s + 4 * i + 1 + 1 + 1 + 1) (by omega) (by omega), w64 (x := i + 1) (by omega) (by omega), show s + 4 * i + 1 + 1 + 1 + 1 = s + 4 * (i + 1) by omega]
    exact ih k _ (i + 1) (by omega) (by omega) (by omega) (by simpa using hx)
theorem markInsS_eq {k : Nat} {l : List S94} {s : Int} (hs : 0 ≤ s) (hb : s + 4 * l.length < 9223372036854775800) (hk : l.length < k) :
    ∃ y, laws_markInsS.f k l s = some (s + 4 * l.length, y) := by
  have := markInsS_l0 s l.length hs hb l.length k l 0 (by omega) (by omega) hk rfl
  simpa [laws_markInsS.f] using this
theorem heldFrameS_l0 (s : Int) (n : Nat) (y : List S77) (hs : 0 ≤ s) (hb : s + 3 * n < 9223372036854775800) (hy : y.length = n) (hr : ∀ j : Nat, j < n → rd_T77 y j = ⟨s + 3 * j, s + 3 * j + 1, s + 3 * j + 2⟩) : ∀ (d k : Nat) (i : Int), 0 ≤ i → (n : Int) - i = d → d < k →
    laws_heldFrameS.l0 k y (s + 3 * i) i = some (s + 3 * n) := by
  intro d
  induction d with
  | zero =>
    intro k i h0 hd hk
    obtain ⟨k, rfl⟩ : ∃ q, k = q + 1 := ⟨k - 1, by omega⟩
    simp only [laws_heldFrameS.l0]
    rw [if_neg (by omega), show s + 3 * i = s + 3 * n by omega]
  | succ d ih =>
    intro k i h0 hd hk
    obtain ⟨k, rfl⟩ : ∃ q, k = q + 1 := ⟨k - 1, by omega⟩
    have := hr i.toNat (by omega)
    rw [show ((i.toNat : Nat) : Int) = i by omega] at this
    simp only [laws_heldFrameS.l0, this]
    rw [if_pos (by omega), if_pos h0, if_pos trivial, w64 (x := s + 3 * i + 1) (by omega) (by omega), w64 (x := s + 3 * i + 1 + 1) (by omega) (by omega), w64 (x := s + 3 * i + 1 + 1 + 1) (by omega) (by omega), w64 (x := i + 1) (by omega) (by omega), show s + 3 * i + 1 + 1 + 1 = s + 3 * (i + 1) by omega, if_pos rfl, if_pos (by omega)]
    exact ih k (i + 1) (by omega) (by omega) (by omega)
theorem markHeldWarp {k : Nat} (n : Int) {f : List S77} {r : List Int} (hb : f.length + r.length ≤ 3000000) (hk : f.length < k) (hk2 : r.length < k) :
    ∃ f' r', laws_markWarp.f k n f r 1 = some ((1 : Int) + 3 * f.length + r.length, f', r') ∧ ∀ q, f.length < q → r.length < q → laws_heldWarp.f q n f' r' 1 = some ((1 : Int) + 3 * f.length + r.length) := by
  obtain ⟨y, h1, h2, h3⟩ := markFrameS_eq (k := k) (l := f) (s := 1) (by omega) (by omega) hk
  obtain ⟨z, h4, h5⟩ := markIntS_eq (k := k) (l := r) (s := 1 + 3 * f.length) (by omega) (by omega) hk2
  refine ⟨y, z, ?_, fun q hq hq2 => ?_⟩
  · unfold laws_markWarp.f
    rw [h1]; simp only [Option.bind_some]; rw [h4]; rfl
  · have := heldFrameS_l0 1 f.length y (by omega) (by omega) h2 h3 f.length q 0 (by omega) (by omega) hq
    rw [show (1 : Int) + 3 * 0 = 1 by omega] at this
    unfold laws_heldWarp.f laws_heldFrameS.f
    rw [this]; simp only [Option.bind_some]
    rw [if_neg (by omega), h5 q hq2]; simp only [Option.bind_some]
    rw [if_neg (by omega)]

def dropW (m : Int) (f : List S77) : List S77 := f.take (dropN m f f.length)
theorem dropW_len (m : Int) (f : List S77) : (dropW m f).length ≤ f.length := by
  unfold dropW
  rw [List.length_take]
  exact Nat.min_le_right _ _
theorem impl_drop_eq (l : List S94) (n : Int) {f : List S77} {r : List Int} (hf : f.length ≤ 1048576) (hr : r.length ≤ 1048576) : impl_DropFrames.f l n f r = some (n, dropW (l.length : Int) f, r) := by
  unfold impl_DropFrames.f impl_copyWarp.f impl_Frame.f slices_Clone_int_int.f cloneFrameF cloneIntF
  rw [if_pos (by omega), bindS, if_pos (by omega), bindS, bindS]; rfl
theorem take_rdF {f : List S77} {m : Nat} (h : m < f.length) : rd_T77 (f.take (m + 1)) (m : Int) = rd_T77 f (m : Int) := by
  unfold rd_T77
  rw [Int.toNat_natCast, List.getD_eq_getElem?_getD, List.getD_eq_getElem?_getD, List.getElem?_take, if_pos (by omega)]
theorem spec_drop_l0 (l : List S94) (n : Int) (f : List S77) (r : List Int) (hf : f.length ≤ 1048576) : ∀ (m k : Nat), m ≤ f.length → m < k →
    spec_DropFrames.l0 k l ((m : Int) - 1) n (f.take m) r = some (n, f.take (dropN (l.length : Int) f m), r) := by
  intro m
  induction m with
  | zero =>
    intro k hm hk
    obtain ⟨k, rfl⟩ : ∃ q, k = q + 1 := ⟨k - 1, by omega⟩
    rw [spec_DropFrames.l0, if_neg (by omega)]; rfl
  | succ m ih =>
    intro k hm hk
    obtain ⟨k, rfl⟩ : ∃ q, k = q + 1 := ⟨k - 1, by omega⟩
    have hl : (f.take (m + 1)).length = m + 1 := by rw [List.length_take]; omega
    have ht : (f.take (m + 1)).take m = f.take m := by rw [List.take_take, Nat.min_eq_left (by omega)]
    rw [spec_DropFrames.l0, show (((m + 1 : Nat) : Int) - 1) = (m : Int) by omega, if_pos (by omega), if_pos (by omega), if_pos (by omega), take_rdF (by omega), if_pos (show (m : Int) ≤ ((f.take (m + 1)).length : Int) by omega), w64 (by omega) (by omega), Int.toNat_natCast, ht, ih k (by omega) (by omega), dropN]
    by_cases e1 : (rd_T77 f (m : Int)).f0 = (rd_T77 f (m : Int)).f1
    · rw [if_pos e1, if_pos (by unfold endsAt; simp [e1])]
    · rw [if_neg e1]
      by_cases e2 : (rd_T77 f (m : Int)).f0 = (l.length : Int)
      · rw [if_pos e2, if_pos (by unfold endsAt; simp [e2])]
      · rw [if_neg e2, if_neg (by unfold endsAt; simp [e1, e2])]
theorem spec_drop_eq {k : Nat} (l : List S94) (n : Int) {f : List S77} {r : List Int} (hf : f.length ≤ 1048576) (hr : r.length ≤ 1048576) (hk : f.length < k) : spec_DropFrames.f k l n f r = some (n, dropW (l.length : Int) f, r) := by
  have h := spec_drop_l0 l n f r hf f.length k (Nat.le_refl _) hk
  rw [List.take_of_length_le (Nat.le_refl _)] at h
  unfold spec_DropFrames.f spec_l12Copy.f
  rw [bindS, if_pos (by simp; omega), bindS, if_pos (by simp; omega), bindS]
  show spec_DropFrames.l0 k l (wrap64 ((f.length : Int) - 1)) n f r = _
  rw [w64 (by omega) (by omega), h]; rfl
theorem FnExactDropFrames : laws_FnExactDropFrames.Pure := by
  intro l n f r hl _ hf hr
  unfold maxLen at hl hf hr
  by_cases h : left 1048576 l.length < 0
  · exact ⟨0, by unfold laws_FnExactDropFrames.f; rw [szInsS_eq l (by omega) (by omega) (by omega), bindS, if_pos h]⟩
  have h' := left_ok (by omega) (by omega) h
  by_cases h2 : left (1048576 - (l.length : Int)) f.length < 0
  · exact ⟨0, by unfold laws_FnExactDropFrames.f; rw [szInsS_eq l (by omega) (by omega) (by omega), bindS, if_neg h, h'.1, szWarp_neg n f r (by omega) (by omega) (by omega) h2]; rfl⟩
  have h2' := left_ok (by omega) (by omega) h2
  by_cases h3 : left (1048576 - (l.length : Int) - (f.length : Int)) r.length < 0
  · exact ⟨0, by unfold laws_FnExactDropFrames.f; rw [szInsS_eq l (by omega) (by omega) (by omega), bindS, if_neg h, h'.1, szWarp_pos n f r (by omega) (by omega) (by omega) (by omega) h2, bindS, if_pos h3]⟩
  have h3' := left_ok (by omega) (by omega) h3
  have hm : (l.map cvI).length = l.length := List.length_map ..
  have hm2 : (f.map cvF).length = f.length := List.length_map ..
  have hw := dropW_len ((l.map cvI).length : Int) (f.map cvF)
  obtain ⟨K, hK⟩ : ∃ K, K = l.length + 2 * f.length + r.length + 50 := ⟨_, rfl⟩
  have ts : ∀ q, K ≤ q → laws_toInsS.f q l = some (l.map cvI) := fun q hq => toInsS_eq h'.2.2 (by omega)
  have tw : ∀ q, K ≤ q → laws_toWarp.f q n f r = some (n, f.map cvF, r) := fun q hq => toWarp_eq (by omega) (by omega) (by omega) (by omega)
  have sp := spec_drop_eq (k := K + 1) (l.map cvI) n (f := f.map cvF) (r := r) (by omega) (by omega) (by omega)
  have im := impl_drop_eq (l.map cvI) n (f := f.map cvF) (r := r) (by omega) (by omega)
  generalize dropW ((l.map cvI).length : Int) (f.map cvF) = D at hw sp im
  have ew : ∀ q, K ≤ q → laws_eqWarp.f q n D r n D r = some true := fun q hq => eqWarp_self (by omega) (by omega) (by omega) (by omega)
  have ev : laws_eqWarp.f (K + 1) n (f.map cvF) r n (f.map cvF) r = some true := eqWarp_self (by omega) (by omega) (by omega) (by omega)
  have es : laws_eqInsS.f (K + 1) (l.map cvI) (l.map cvI) = some true := eqInsS_self (by omega) (by omega)
  obtain ⟨f1, r1, e1, e2⟩ := markHeldWarp (k := K) n (f := D) (r := r) (by omega) (by omega) (by omega)
  obtain ⟨y, hy⟩ := markInsS_eq (k := K + 1) (l := l.map cvI) (s := 1) (by omega) (by omega) (by omega)
  obtain ⟨f2, r2, hy2, _⟩ := markWarp_eq (k := K + 1) n (f := f.map cvF) (r := r) (s := 1 + 4 * ((l.map cvI).length : Int)) (by omega) (by omega) (by omega) (by omega)
  refine ⟨K + 1, ?_⟩
  unfold laws_FnExactDropFrames.f
  rw [szInsS_eq l (by omega) (by omega) (by omega), bindS, if_neg h, h'.1, szWarp_pos n f r (by omega) (by omega) (by omega) (by omega) h2, bindS, if_neg h3, ts (K + 1) (by omega), bindS, tw (K + 1) (by omega), bindS]
  show ((spec_DropFrames.f (K + 1) (l.map cvI) n (f.map cvF) r).bind _) = _
  rw [sp, bindS, bindS, bindS]
  show ((impl_DropFrames.f (l.map cvI) n (f.map cvF) r).bind _) = _
  rw [im, bindS]
  show ((laws_eqWarp.f (K + 1) n D r n D r).bind _) = _
  rw [ew (K + 1) (by omega), bindS, if_pos rfl, bindS, es, bindS, if_pos rfl, bindS]
  show ((laws_eqWarp.f (K + 1) n (f.map cvF) r n (f.map cvF) r).bind _) = _
  rw [ev, bindS, if_pos rfl, hy, bindS]
  show ((laws_markWarp.f (K + 1) n (f.map cvF) r (1 + 4 * ((l.map cvI).length : Int))).bind _) = _
  rw [hy2, bindS, if_neg (by show ¬ (1 + 4 * ((l.map cvI).length : Int) + 3 * ((f.map cvF).length : Int) + (r.length : Int) < 0); omega)]
  rw [bindS]
  show laws_FnExactDropFrames.j0 (K + 1) l false n f r n D r n D r = _
  rw [laws_FnExactDropFrames.j0, if_neg (by decide), e1, bindS]
  show ((laws_heldWarp.f K n f1 r1 1).bind _) = _
  rw [e2 K (by omega) (by omega), bindS, if_neg (by omega), if_pos rfl, ts K (by omega), bindS, tw K (by omega), bindS]
  show ((impl_DropFrames.f (l.map cvI) n (f.map cvF) r).bind _) = _
  rw [im, bindS]
  show ((laws_eqWarp.f K n D r n D r).bind _) = _
  rw [ew K (by omega), bindS, if_pos rfl, bindS, if_neg (by omega), if_pos rfl]

end Go.Proofs.Ytcmimgoghmeliaa.Pure
