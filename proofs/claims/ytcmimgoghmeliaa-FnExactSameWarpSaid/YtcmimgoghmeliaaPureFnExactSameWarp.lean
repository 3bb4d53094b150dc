/-
  The program's SameWarp answers what the reference's answers, for all arguments, and leaves its arguments as they were.
  No condition.
-/
import Derived.Test.YtcmimgoghmeliaaPFnExactSameWarpx5
namespace Go.Proofs.Ytcmimgoghmeliaa.Pure
open Go.RowKit Go.Proofs.Ytcmimgoghmeliaa.PFnExactSameWarp Go.Proofs.YtcmimgoghmeliaaW.PrintWords Go.Proofs.YtcmimgoghmeliaaW.PrintLast Go.Proofs.YtcmimgoghmeliaaW.PrintMore
set_option linter.unusedVariables false
set_option linter.unusedSimpArgs false

theorem w64 {x : Int} (h0 : -9223372036854775808 ≤ x) (h1 : x < 9223372036854775808) : wrap64 x = x := by unfold wrap64; omega
theorem drop_rd {l : List Int} {i : Int} (h0 : 0 ≤ i) (h1 : i < (l.length : Int)) : l.drop i.toNat = rd l i :: l.drop (i + 1).toNat := by
  have hi : i.toNat < l.length := by omega
  rw [show (i + 1).toNat = i.toNat + 1 by omega, List.drop_eq_getElem_cons hi]
  congr 1
  unfold rd
  rw [List.getD_eq_getElem?_getD, List.getElem?_eq_getElem hi]; rfl
theorem rd_mem {l : List Int} {i : Int} (h0 : 0 ≤ i) (h1 : i < (l.length : Int)) : rd l i ∈ l := by
  have hi : i.toNat < l.length := by omega
  unfold rd
  rw [List.getD_eq_getElem?_getD, List.getElem?_eq_getElem hi]
  exact List.getElem_mem hi
theorem take_set_succ {α : Type} {l x : List α} {i : Nat} (v : α) (hl : i < l.length) (hx : i < x.length) (h : x.take i = l.take i) (hv : l[i]'hl = v) : (x.set i v).take (i + 1) = l.take (i + 1) := by
  rw [List.take_succ_eq_append_getElem (by simpa using hx), List.take_succ_eq_append_getElem hl, List.take_set_of_le (Nat.le_refl i), h]
  simp [hv]
theorem rd_get {l : List Int} {i : Int} (h0 : 0 ≤ i) (h1 : i.toNat < l.length) : l[i.toNat]'h1 = rd l i := by
  unfold rd
  rw [List.getD_eq_getElem?_getD, List.getElem?_eq_getElem h1]; rfl
theorem need {p : Prop} (h : p) : p := h
/-- Option.bind_some as an equation that is rewritten, not reckoned. -/
theorem bindS {α β : Type} (x : α) (f : α → Option β) : (some x).bind f = f x := by
  have h : ∀ o : Option α, o = some x → o.bind f = f x := fun o e => by rw [e]; rfl
  exact h _ rfl
theorem toIntS_l0 (l : List Int) (hl : l.length ≤ 1048576) : ∀ (d k : Nat) (x : List Int) (i : Int), 0 ≤ i → (l.length : Int) - i = d → d < k → x.length = l.length → x.take i.toNat = l.take i.toNat →
    laws_toIntS.l0 k l x i = some l := by
  intro d
  induction d with
  | zero =>
    intro k x i h0 hd hk hx ht
    obtain ⟨k, rfl⟩ : ∃ q, k = q + 1 := ⟨k - 1, by omega⟩
    simp only [laws_toIntS.l0]
    rw [if_neg (by omega)]
    rw [List.take_of_length_le (by omega), List.take_of_length_le (by omega)] at ht
    rw [ht]
  | succ d ih =>
    intro k x i h0 hd hk hx ht
    obtain ⟨k, rfl⟩ : ∃ q, k = q + 1 := ⟨k - 1, by omega⟩
    simp only [laws_toIntS.l0]
    rw [if_pos (by omega), if_pos h0, if_pos (by omega), w64 (by omega) (by omega)]
    refine ih k _ (i + 1) (by omega) (by omega) (by omega) (by simpa using hx) ?_
    rw [show (i + 1).toNat = i.toNat + 1 by omega]
    exact take_set_succ _ (by omega) (by omega) ht (rd_get h0 _)
theorem toIntS_eq {k : Nat} {l : List Int} (hl : l.length ≤ 1048576) (hk : l.length < k) : laws_toIntS.f k l = some l := by
  unfold laws_toIntS.f
  rw [if_pos (by omega), if_pos (by omega)]
  exact toIntS_l0 l hl l.length k _ 0 (by omega) (by omega) hk (by simp) (by simp)
theorem eqIntS_l0 (a b : List Int) (hab : a.length = b.length) (ha : a.length ≤ 9223372036854775807) : ∀ (d k : Nat) (i : Int), 0 ≤ i → (a.length : Int) - i = d → d < k →
    laws_eqIntS.l0 k a b i = some (decide (a.drop i.toNat = b.drop i.toNat)) := by
  intro d
  induction d with
  | zero =>
    intro k i h0 hd hk
    obtain ⟨k, rfl⟩ : ∃ q, k = q + 1 := ⟨k - 1, by omega⟩
    simp only [laws_eqIntS.l0]
    rw [if_neg (by omega), List.drop_of_length_le (by omega), List.drop_of_length_le (by omega)]
    simp
  | succ d ih =>
    intro k i h0 hd hk
    obtain ⟨k, rfl⟩ : ∃ q, k = q + 1 := ⟨k - 1, by omega⟩
    simp only [laws_eqIntS.l0]
    rw [if_pos (by omega), if_pos h0, if_pos (by omega), w64 (by omega) (by omega), drop_rd h0 (by omega), drop_rd (l := b) h0 (by omega)]
    by_cases h : rd a i = rd b i
    · rw [if_pos h, ih k (i + 1) (by omega) (by omega) (by omega)]
      simp [h]
    · rw [if_neg h]; simp [h]
theorem eqIntS_eq {k : Nat} {a b : List Int} (ha : a.length ≤ 9223372036854775807) (hk : a.length < k) : laws_eqIntS.f k a b = some (decide (a = b)) := by
  unfold laws_eqIntS.f
  by_cases h : a.length = b.length
  · rw [if_pos (by omega), eqIntS_l0 a b h ha a.length k 0 (by omega) (by omega) hk]; simp
  · rw [if_neg (by omega)]
    have : a ≠ b := fun e => h (by rw [e])
    simp [this]
theorem eqIntS_self {k : Nat} {a : List Int} (ha : a.length ≤ 9223372036854775807) (hk : a.length < k) : laws_eqIntS.f k a a = some true := by
  rw [eqIntS_eq ha hk]; simp
theorem drop_getD {α : Type} {l : List α} {i : Int} (z : α) (h0 : 0 ≤ i) (h1 : i < (l.length : Int)) : l.drop i.toNat = l.getD i.toNat z :: l.drop (i + 1).toNat := by
  have hi : i.toNat < l.length := by omega
  rw [show (i + 1).toNat = i.toNat + 1 by omega, List.drop_eq_getElem_cons hi, List.getD_eq_getElem?_getD, List.getElem?_eq_getElem hi]; rfl
theorem getD_get {α : Type} {l : List α} {n : Nat} (z : α) (h : n < l.length) : l.getD n z = l[n]'h := by
  rw [List.getD_eq_getElem?_getD, List.getElem?_eq_getElem h]; rfl
theorem getD_map {α β : Type} {l : List α} {n : Nat} (g : α → β) (z : α) (z2 : β) (h : n < l.length) : (l.map g).getD n z2 = g (l.getD n z) := by
  rw [getD_get z h, getD_get z2 (by simpa using h), List.getElem_map]
def left (a : Int) (n : Nat) : Int := if a - n < 0 then -1 else a - n
theorem szFrameS_eq (l : List S105) {a : Int} (h0 : 0 ≤ a) (h1 : a ≤ 1048576) (hl : l.length ≤ 9223372036854775807) : laws_szFrameS.f l a = some (left a l.length) := by
  unfold laws_szFrameS.f left
  rw [w64 (by omega) (by omega)]
  by_cases h : a - (l.length : Int) < 0
  · rw [if_pos h, if_pos h]
  · rw [if_neg h, if_neg h]
theorem szIntS_eq (l : List Int) {a : Int} (h0 : 0 ≤ a) (h1 : a ≤ 1048576) (hl : l.length ≤ 9223372036854775807) : laws_szIntS.f l a = some (left a l.length) := by
  unfold laws_szIntS.f left
  rw [w64 (by omega) (by omega)]
  by_cases h : a - (l.length : Int) < 0
  · rw [if_pos h, if_pos h]
  · rw [if_neg h, if_neg h]
def cvF (x : S105) : S77 := ⟨x.f0, x.f1, x.f2⟩
theorem toFrameS_l0 (l : List S105) (hl : l.length ≤ 1048576) : ∀ (d k : Nat) (x : List S77) (i : Int), 0 ≤ i → (l.length : Int) - i = d → d < k → x.length = l.length → x.take i.toNat = (l.map cvF).take i.toNat →
    laws_toFrameS.l0 k l x i = some (l.map cvF) := by
  intro d
  induction d with
  | zero =>
    intro k x i h0 hd hk hx ht
    obtain ⟨k, rfl⟩ : ∃ q, k = q + 1 := ⟨k - 1, by omega⟩
    simp only [laws_toFrameS.l0]
    rw [if_neg (by omega)]
    rw [List.take_of_length_le (by omega), List.take_of_length_le (by simp; omega)] at ht
    rw [ht]
  | succ d ih =>
    intro k x i h0 hd hk hx ht
    obtain ⟨k, rfl⟩ : ∃ q, k = q + 1 := ⟨k - 1, by omega⟩
    simp only [laws_toFrameS.l0, laws_toFrame.f, Option.bind_some]
    rw [if_pos (by omega), if_pos h0, if_pos (by omega), w64 (by omega) (by omega)]
    refine ih k _ (i + 1) (by omega) (by omega) (by omega) (by simpa using hx) ?_
    rw [show (i + 1).toNat = i.toNat + 1 by omega]
    refine take_set_succ _ (by simp; omega) (by omega) ht ?_
    rw [List.getElem_map]
    unfold rd_T105
    rw [getD_get _ (by omega : i.toNat < l.length)]; rfl
theorem toFrameS_eq {k : Nat} {l : List S105} (hl : l.length ≤ 1048576) (hk : l.length < k) : laws_toFrameS.f k l = some (l.map cvF) := by
  unfold laws_toFrameS.f
  rw [if_pos (by omega), if_pos (by omega)]
  exact toFrameS_l0 l hl l.length k _ 0 (by omega) (by omega) hk (by simp) (by simp)
theorem eqFrameS_l0 (a : List S77) (ha : a.length ≤ 9223372036854775807) : ∀ (d k : Nat) (i : Int), 0 ≤ i → (a.length : Int) - i = d → d < k →
    laws_eqFrameS.l0 k a a i = some true := by
  intro d
  induction d with
  | zero =>
    intro k i h0 hd hk
    obtain ⟨k, rfl⟩ : ∃ q, k = q + 1 := ⟨k - 1, by omega⟩
    simp only [laws_eqFrameS.l0]
    rw [if_neg (by omega)]
  | succ d ih =>
    intro k i h0 hd hk
    obtain ⟨k, rfl⟩ : ∃ q, k = q + 1 := ⟨k - 1, by omega⟩
    simp only [laws_eqFrameS.l0, laws_eqFrame.f, if_true, Option.bind_some]
    rw [if_pos (by omega), if_pos h0, if_pos (by omega), w64 (by omega) (by omega), ih k (i + 1) (by omega) (by omega) (by omega)]
theorem eqFrameS_self {k : Nat} {a : List S77} (ha : a.length ≤ 9223372036854775807) (hk : a.length < k) : laws_eqFrameS.f k a a = some true := by
  unfold laws_eqFrameS.f
  rw [if_pos rfl, eqFrameS_l0 a ha a.length k 0 (by omega) (by omega) hk]
theorem left_ok {a : Int} {n : Nat} (ha : 0 ≤ a) (ha1 : a ≤ 1048576) (h : ¬ left a n < 0) : left a n = a - n ∧ 0 ≤ a - n ∧ n ≤ 1048576 := by
  unfold left at h ⊢
  split at h
  · omega
  · rename_i q; rw [if_neg q]; omega
theorem szWarp_neg (n : Int) (f : List S105) (r : List Int) {a : Int} (h0 : 0 ≤ a) (h1 : a ≤ 1048576) (hl : f.length ≤ 9223372036854775807) (h : left a f.length < 0) : laws_szWarp.f n f r a = some (-1) := by
  unfold laws_szWarp.f
  rw [szFrameS_eq f h0 h1 hl]; simp only [Option.bind_some]
  rw [if_pos h]
theorem szWarp_pos (n : Int) (f : List S105) (r : List Int) {a : Int} (h0 : 0 ≤ a) (h1 : a ≤ 1048576) (hl : f.length ≤ 9223372036854775807) (hr : r.length ≤ 9223372036854775807) (h : ¬ left a f.length < 0) : laws_szWarp.f n f r a = some (left (a - f.length) r.length) := by
  have hq := left_ok h0 h1 h
  unfold laws_szWarp.f
  rw [szFrameS_eq f h0 h1 hl]; simp only [Option.bind_some]
  rw [if_neg h, hq.1, szIntS_eq r (by omega) (by omega) hr]; simp only [Option.bind_some]
  by_cases h2 : left (a - f.length) r.length < 0
  · rw [if_pos h2]; unfold left at h2 ⊢; split at h2 <;> simp_all
  · rw [if_neg h2]
theorem toWarp_eq {k : Nat} {n : Int} {f : List S105} {r : List Int} (hf : f.length ≤ 1048576) (hr : r.length ≤ 1048576) (hk : f.length < k) (hk2 : r.length < k) : laws_toWarp.f k n f r = some (n, f.map cvF, r) := by
  unfold laws_toWarp.f
  rw [toFrameS_eq hf hk, toIntS_eq hr hk2]; rfl
theorem eqWarp_self {k : Nat} {n : Int} {f : List S77} {r : List Int} (hf : f.length ≤ 9223372036854775807) (hr : r.length ≤ 9223372036854775807) (hk : f.length < k) (hk2 : r.length < k) : laws_eqWarp.f k n f r n f r = some true := by
  unfold laws_eqWarp.f
  rw [if_pos rfl, eqFrameS_self hf hk, Option.bind_some, if_pos rfl, eqIntS_self hr hk2]; rfl
theorem impl_equal_l0 (S T : List Int) (he : S.length = T.length) (hL : S.length ≤ 40) : ∀ (d k : Nat) (i : Int), 0 ≤ i → (S.length : Int) - i = d → d < k →
    slices_Equal_int_int.l0 k S T (S.length : Int) i = some (decide (S.drop i.toNat = T.drop i.toNat)) := by
  intro d
  induction d with
  | zero =>
    intro k i h0 hd hk
    obtain ⟨k, rfl⟩ : ∃ q, k = q + 1 := ⟨k - 1, by omega⟩
    simp only [slices_Equal_int_int.l0]
    rw [if_neg (by omega), List.drop_of_length_le (by omega), List.drop_of_length_le (by omega), decide_eq_true rfl]
  | succ d ih =>
    intro k i h0 hd hk
    obtain ⟨k, rfl⟩ : ∃ q, k = q + 1 := ⟨k - 1, by omega⟩
    have hi : i < (S.length : Int) := by omega
    simp only [slices_Equal_int_int.l0]
    rw [if_pos hi, if_pos h0, if_pos hi, if_pos (by omega), drop_rd h0 hi, drop_rd h0 (by omega : i < (T.length : Int)), w64 (by omega) (by omega), ih k (i + 1) (by omega) (by omega) (by omega)]
    by_cases e : rd S i = rd T i
    · rw [if_pos e, e]
      congr 1
      rw [Bool.eq_iff_iff, decide_eq_true_eq, decide_eq_true_eq, List.cons.injEq]
      exact ⟨fun q => ⟨rfl, q⟩, fun q => q.2⟩
    · rw [if_neg e]
      congr 1
      rw [eq_comm, decide_eq_false_iff_not, List.cons.injEq]
      exact fun q => e q.1
theorem impl_equal_eq {S T : List Int} (he : S.length = T.length) (hL : S.length ≤ 40) {k : Nat} (hk : 41 ≤ k) : slices_Equal_int_int.f k S T = some (decide (S = T)) := by
  unfold slices_Equal_int_int.f
  rw [if_pos (by omega), impl_equal_l0 S T he hL S.length k 0 (by omega) (by omega) (by omega)]; rfl

theorem frame_ne (x y : S77) : (!(x.f0 == y.f0) || (!(x.f1 == y.f1) || (!(x.f2 == y.f2)))) = true ↔ x ≠ y := by
  obtain ⟨a, b, c⟩ := x
  obtain ⟨d, e, f⟩ := y
  rw [Ne, S77.mk.injEq]
  by_cases h1 : a = d <;> by_cases h2 : b = e <;> by_cases h3 : c = f <;> simp [h1, h2, h3]
instance frameDec : DecidableEq S77 := fun x y => decidable_of_iff (x.f0 = y.f0 ∧ x.f1 = y.f1 ∧ x.f2 = y.f2) (by obtain ⟨a, b, c⟩ := x; obtain ⟨d, e, f⟩ := y; rw [S77.mk.injEq])
theorem sw_ints (S T : List Int) (he : S.length = T.length) (hL : S.length ≤ 1048576) : ∀ (d k : Nat) (i : Int), 0 ≤ i → (S.length : Int) - i = d → d < k →
    slices_Equal_int_int.l0 k S T (S.length : Int) i = some (decide (S.drop i.toNat = T.drop i.toNat)) := by
  intro d
  induction d with
  | zero =>
    intro k i h0 hd hk
    obtain ⟨k, rfl⟩ : ∃ q, k = q + 1 := ⟨k - 1, by omega⟩
    simp only [slices_Equal_int_int.l0]
    rw [if_neg (by omega), List.drop_of_length_le (by omega), List.drop_of_length_le (by omega), decide_eq_true rfl]
  | succ d ih =>
    intro k i h0 hd hk
    obtain ⟨k, rfl⟩ : ∃ q, k = q + 1 := ⟨k - 1, by omega⟩
    have hi : i < (S.length : Int) := by omega
    simp only [slices_Equal_int_int.l0]
    rw [if_pos hi, if_pos h0, if_pos hi, if_pos (by omega), drop_rd h0 hi, drop_rd h0 (by omega : i < (T.length : Int)), w64 (by omega) (by omega), ih k (i + 1) (by omega) (by omega) (by omega)]
    by_cases e : rd S i = rd T i
    · rw [if_pos e, e]
      congr 1
      rw [Bool.eq_iff_iff, decide_eq_true_eq, decide_eq_true_eq, List.cons.injEq]
      exact ⟨fun q => ⟨rfl, q⟩, fun q => q.2⟩
    · rw [if_neg e]
      congr 1
      rw [eq_comm, decide_eq_false_iff_not, List.cons.injEq]
      exact fun q => e q.1
theorem sw_frames (S T : List S77) (he : S.length = T.length) (hL : S.length ≤ 1048576) : ∀ (d k : Nat) (i : Int), 0 ≤ i → (S.length : Int) - i = d → d < k →
    impl_Frame.l0 k S T (S.length : Int) i = some (decide (S.drop i.toNat = T.drop i.toNat)) := by
  intro d
  induction d with
  | zero =>
    intro k i h0 hd hk
    obtain ⟨k, rfl⟩ : ∃ q, k = q + 1 := ⟨k - 1, by omega⟩
    simp only [impl_Frame.l0]
    rw [if_neg (by omega), List.drop_of_length_le (by omega), List.drop_of_length_le (by omega), decide_eq_true rfl]
  | succ d ih =>
    intro k i h0 hd hk
    obtain ⟨k, rfl⟩ : ∃ q, k = q + 1 := ⟨k - 1, by omega⟩
    have hi : i < (S.length : Int) := by omega
    rw [impl_Frame.l0, if_pos hi, if_pos h0, if_pos hi, if_pos (by omega), drop_getD z77 h0 hi, drop_getD z77 h0 (by omega : i < (T.length : Int)), w64 (by omega) (by omega), ih k (i + 1) (by omega) (by omega) (by omega)]
    by_cases e : rd_T77 S i = rd_T77 T i
    · rw [if_neg (fun q => (frame_ne _ _).1 q e)]
      congr 1
      have e : S.getD i.toNat z77 = T.getD i.toNat z77 := e
      rw [Bool.eq_iff_iff, decide_eq_true_eq, decide_eq_true_eq, List.cons.injEq]
      exact ⟨fun q => ⟨e, q⟩, fun q => q.2⟩
    · rw [if_pos ((frame_ne _ _).2 e)]
      congr 1
      rw [eq_comm, decide_eq_false_iff_not, List.cons.injEq]
      exact fun q => e q.1
theorem ss_ints (n m : Int) (f g : List S77) (S T : List Int) (he : S.length = T.length) (hL : S.length ≤ 1048576) : ∀ (d k : Nat) (i : Int), 0 ≤ i → (S.length : Int) - i = d → d < k →
    spec_SameWarp.l1 k i n f S m g T = some (decide (S.drop i.toNat = T.drop i.toNat)) := by
  intro d
  induction d with
  | zero =>
    intro k i h0 hd hk
    obtain ⟨k, rfl⟩ : ∃ q, k = q + 1 := ⟨k - 1, by omega⟩
    simp only [spec_SameWarp.l1]
    rw [if_neg (by omega), List.drop_of_length_le (by omega), List.drop_of_length_le (by omega), decide_eq_true rfl]
  | succ d ih =>
    intro k i h0 hd hk
    obtain ⟨k, rfl⟩ : ∃ q, k = q + 1 := ⟨k - 1, by omega⟩
    have hi : i < (S.length : Int) := by omega
    simp only [spec_SameWarp.l1]
    rw [if_pos hi, if_pos h0, if_pos (by omega), drop_rd h0 hi, drop_rd h0 (by omega : i < (T.length : Int)), w64 (by omega) (by omega), ih k (i + 1) (by omega) (by omega) (by omega)]
    by_cases e : rd S i = rd T i
    · rw [if_pos e, e]
      congr 1
      rw [Bool.eq_iff_iff, decide_eq_true_eq, decide_eq_true_eq, List.cons.injEq]
      exact ⟨fun q => ⟨rfl, q⟩, fun q => q.2⟩
    · rw [if_neg e]
      congr 1
      rw [eq_comm, decide_eq_false_iff_not, List.cons.injEq]
      exact fun q => e q.1
theorem ss_frames (n m : Int) (f g : List S77) (S T : List Int) (hf : f.length = g.length) (hF : f.length ≤ 1048576) (he : S.length = T.length) (hL : S.length ≤ 1048576) : ∀ (d k : Nat) (i : Int), 0 ≤ i → (f.length : Int) - i = d → d + S.length + 2 < k →
    spec_SameWarp.l0 k i n f S m g T = some (decide (f.drop i.toNat = g.drop i.toNat) && decide (S = T)) := by
  intro d
  induction d with
  | zero =>
    intro k i h0 hd hk
    obtain ⟨k, rfl⟩ : ∃ q, k = q + 1 := ⟨k - 1, by omega⟩
    simp only [spec_SameWarp.l0]
    rw [if_neg (by omega), List.drop_of_length_le (by omega), List.drop_of_length_le (by omega), decide_eq_true rfl, ss_ints n m f g S T he hL S.length k 0 (by omega) (by omega) (by omega), Bool.true_and]; rfl
  | succ d ih =>
    intro k i h0 hd hk
    obtain ⟨k, rfl⟩ : ∃ q, k = q + 1 := ⟨k - 1, by omega⟩
    have hi : i < (f.length : Int) := by omega
    rw [spec_SameWarp.l0, if_pos hi, if_pos h0, if_pos (by omega), drop_getD z77 h0 hi, drop_getD z77 h0 (by omega : i < (g.length : Int)), w64 (by omega) (by omega), ih k (i + 1) (by omega) (by omega) (by omega)]
    by_cases e : rd_T77 f i = rd_T77 g i
    · rw [if_neg (fun q => (frame_ne _ _).1 q e)]
      congr 2
      have e : f.getD i.toNat z77 = g.getD i.toNat z77 := e
      rw [Bool.eq_iff_iff, decide_eq_true_eq, decide_eq_true_eq, List.cons.injEq]
      exact ⟨fun q => ⟨e, q⟩, fun q => q.2⟩
    · rw [if_pos ((frame_ne _ _).2 e), decide_eq_false (p := f.getD i.toNat z77 :: List.drop (i + 1).toNat f = g.getD i.toNat z77 :: List.drop (i + 1).toNat g) (fun q => e (List.cons.inj q).1), Bool.false_and]
def sameB (n : Int) (f : List S77) (r : List Int) (m : Int) (g : List S77) (s : List Int) : Bool := decide (n = m) && (decide (f = g) && decide (r = s))
theorem spec_same_eq {k : Nat} {n m : Int} {f g : List S77} {r s : List Int} (hf : f.length ≤ 1048576) (hr : r.length ≤ 1048576) (hk : f.length + r.length + 4 < k) : spec_SameWarp.f k n f r m g s = some (sameB n f r m g s) := by
  obtain ⟨k, rfl⟩ : ∃ q, k = q + 1 := ⟨k - 1, by omega⟩
  unfold spec_SameWarp.f sameB
  by_cases h1 : n = m
  · by_cases h2 : f.length = g.length
    · by_cases h3 : r.length = s.length
      · rw [if_pos h1, if_pos (by omega), show ((r.length : Int) != (s.length : Int)) = false by simp [h3], spec_SameWarp.j0, if_neg (by decide), ss_frames n m f g r s h2 hf h3 hr f.length k 0 (by omega) (by omega) (by omega), decide_eq_true h1, Bool.true_and]; rfl
      · rw [if_pos h1, if_pos (by omega), show ((r.length : Int) != (s.length : Int)) = true by simp; omega, spec_SameWarp.j0, if_pos rfl, decide_eq_false (fun q => h3 (by rw [q]) : ¬ r = s), Bool.and_false, Bool.and_false]
    · rw [if_pos h1, if_neg (by omega), spec_SameWarp.j0, if_pos rfl, decide_eq_false (fun q => h2 (by rw [q]) : ¬ f = g), Bool.false_and, Bool.and_false]
  · rw [if_neg h1, spec_SameWarp.j0, if_pos rfl, decide_eq_false h1, Bool.false_and]
theorem impl_same_eq {k : Nat} {n m : Int} {f g : List S77} {r s : List Int} (hf : f.length ≤ 1048576) (hr : r.length ≤ 1048576) (hk : f.length < k) (hk2 : r.length < k) : impl_SameWarp.f k n f r m g s = some (sameB n f r m g s) := by
  unfold impl_SameWarp.f sameB impl_Frame.f slices_Equal_int_int.f
  by_cases h1 : n = m
  · rw [if_pos h1, decide_eq_true h1, Bool.true_and]
    by_cases h2 : f.length = g.length
    · rw [if_pos (by omega), sw_frames f g h2 hf f.length k 0 (by omega) (by omega) hk, bindS, Int.toNat_zero, List.drop_zero, List.drop_zero]
      by_cases e : f = g
      · rw [decide_eq_true e, if_pos rfl, Bool.true_and]
        by_cases h3 : r.length = s.length
        · rw [if_pos (by omega), sw_ints r s h3 hr r.length k 0 (by omega) (by omega) hk2]; rfl
        · rw [if_neg (by omega), decide_eq_false (fun q => h3 (by rw [q]) : ¬ r = s)]; rfl
      · rw [decide_eq_false e, if_neg (by decide), Bool.false_and]
    · rw [if_neg (by omega), bindS, if_neg (by decide), decide_eq_false (fun q => h2 (by rw [q]) : ¬ f = g), Bool.false_and]
  · rw [if_neg h1, decide_eq_false h1, Bool.false_and]
theorem FnExactSameWarp : laws_FnExactSameWarp.Pure := by
  intro n f r m g s _ hf hr _ hg hs
  unfold maxLen at hf hr hg hs
  by_cases h : left 1048576 f.length < 0
  · exact ⟨0, by unfold laws_FnExactSameWarp.f; rw [szWarp_neg n f r (by omega) (by omega) (by omega) h]; rfl⟩
  have h' := left_ok (by omega) (by omega) h
  by_cases h2 : left (1048576 - (f.length : Int)) r.length < 0
  · exact ⟨0, by unfold laws_FnExactSameWarp.f; rw [szWarp_pos n f r (by omega) (by omega) (by omega) (by omega) h, bindS, if_pos h2]⟩
  have h2' := left_ok (by omega) (by omega) h2
  by_cases h3 : left (1048576 - (f.length : Int) - (r.length : Int)) g.length < 0
  · exact ⟨0, by unfold laws_FnExactSameWarp.f; rw [szWarp_pos n f r (by omega) (by omega) (by omega) (by omega) h, bindS, if_neg h2, h2'.1, szWarp_neg m g s (by omega) (by omega) (by omega) h3]; rfl⟩
  have h3' := left_ok (by omega) (by omega) h3
  by_cases h4 : left (1048576 - (f.length : Int) - (r.length : Int) - (g.length : Int)) s.length < 0
  · exact ⟨0, by unfold laws_FnExactSameWarp.f; rw [szWarp_pos n f r (by omega) (by omega) (by omega) (by omega) h, bindS, if_neg h2, h2'.1, szWarp_pos m g s (by omega) (by omega) (by omega) (by omega) h3, bindS, if_pos h4]⟩
  have h4' := left_ok (by omega) (by omega) h4
  have hm : (f.map cvF).length = f.length := List.length_map ..
  have hm2 : (g.map cvF).length = g.length := List.length_map ..
  obtain ⟨K, hK⟩ : ∃ K, K = f.length + r.length + g.length + s.length + 50 := ⟨_, rfl⟩
  refine ⟨K, ?_⟩
  unfold laws_FnExactSameWarp.f
  rw [szWarp_pos n f r (by omega) (by omega) (by omega) (by omega) h, bindS, if_neg h2, h2'.1, szWarp_pos m g s (by omega) (by omega) (by omega) (by omega) h3, bindS, if_neg h4]
  have t1 : laws_toWarp.f K n f r = some (n, f.map cvF, r) := toWarp_eq (by omega) (by omega) (by omega) (by omega)
  have t2 : laws_toWarp.f K m g s = some (m, g.map cvF, s) := toWarp_eq (by omega) (by omega) (by omega) (by omega)
  rw [t1, bindS, t2, bindS]
  have s1 : spec_SameWarp.f K n (f.map cvF) r m (g.map cvF) s = some (sameB n (f.map cvF) r m (g.map cvF) s) := spec_same_eq (by omega) (by omega) (by omega)
  have s2 : impl_SameWarp.f K n (f.map cvF) r m (g.map cvF) s = some (sameB n (f.map cvF) r m (g.map cvF) s) := impl_same_eq (by omega) (by omega) (by omega) (by omega)
  have e1 : laws_eqWarp.f K n (f.map cvF) r n (f.map cvF) r = some true := eqWarp_self (by omega) (by omega) (by omega) (by omega)
  have e2 : laws_eqWarp.f K m (g.map cvF) s m (g.map cvF) s = some true := eqWarp_self (by omega) (by omega) (by omega) (by omega)
  simp only [s1, s2, e1, e2, Option.bind_some, bne_self_eq_false, Bool.false_eq_true, if_false, if_true]

end Go.Proofs.Ytcmimgoghmeliaa.Pure
