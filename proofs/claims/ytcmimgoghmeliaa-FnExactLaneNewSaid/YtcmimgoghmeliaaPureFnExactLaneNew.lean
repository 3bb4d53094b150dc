/-
  The program's LaneNew returns what the reference's returns, for all arguments, in new memory.
  No condition.
-/
import Derived.Test.YtcmimgoghmeliaaPFnExactLaneNewx1
namespace Go.Proofs.Ytcmimgoghmeliaa.Pure
open Go.RowKit Go.Proofs.Ytcmimgoghmeliaa.PFnExactLaneNew Go.Proofs.YtcmimgoghmeliaaW.PrintWords Go.Proofs.YtcmimgoghmeliaaW.PrintLast Go.Proofs.YtcmimgoghmeliaaW.PrintMore
set_option linter.unusedVariables false
set_option linter.unusedSimpArgs false

theorem w64 {x : Int} (h0 : -9223372036854775808 ≤ x) (h1 : x < 9223372036854775808) : wrap64 x = x := by unfold wrap64; omega
theorem drop_rd {l : List Int} {i : Int} (h0 : 0 ≤ i) (h1 : i < (l.length : Int)) : l.drop i.toNat = rd l i :: l.drop (i + 1).toNat := by
  have hi : i.toNat < l.length := by omega
  rw [show (i + 1).toNat = i.toNat + 1 by omega, List.drop_eq_getElem_cons hi]
  congr 1
  unfold rd
  rw [List.getD_eq_getElem?_getD, List.getElem?_eq_getElem hi]; rfl
theorem rd_mem {l : List Int} {i : Int} (h0 : 0 ≤ i) (h1 : i < (l.length : Int)) : rd l i ∈ l := by
  have hi : i.toNat < l.length := by omega
  unfold rd
  rw [List.getD_eq_getElem?_getD, List.getElem?_eq_getElem hi]
  exact List.getElem_mem hi
theorem take_set_succ {α : Type} {l x : List α} {i : Nat} (v : α) (hl : i < l.length) (hx : i < x.length) (h : x.take i = l.take i) (hv : l[i]'hl = v) : (x.set i v).take (i + 1) = l.take (i + 1) := by
  rw [List.take_succ_eq_append_getElem (by simpa using hx), List.take_succ_eq_append_getElem hl, List.take_set_of_le (Nat.le_refl i), h]
  simp [hv]
theorem rd_get {l : List Int} {i : Int} (h0 : 0 ≤ i) (h1 : i.toNat < l.length) : l[i.toNat]'h1 = rd l i := by
  unfold rd
  rw [List.getD_eq_getElem?_getD, List.getElem?_eq_getElem h1]; rfl
theorem need {p : Prop} (h : p) : p := h
theorem within_some (x a b : Int) : impl_within.f x a b = some (decide (a ≤ x ∧ x ≤ b)) := by
  unfold impl_within.f
  by_cases h : a ≤ x
  · rw [if_pos h]; simp [h]
  · rw [if_neg h]; simp [h]
theorem in_some (x a b : Int) : spec_l01In.f x a b = some (decide (a ≤ x ∧ x ≤ b)) := by
  unfold spec_l01In.f
  by_cases h : a ≤ x
  · rw [if_pos h]; simp [h]
  · rw [if_neg h]; simp [h]
theorem eqIntS_l0 (a b : List Int) (hab : a.length = b.length) (ha : a.length ≤ 9223372036854775807) : ∀ (d k : Nat) (i : Int), 0 ≤ i → (a.length : Int) - i = d → d < k →
    laws_eqIntS.l0 k a b i = some (decide (a.drop i.toNat = b.drop i.toNat)) := by
  intro d
  induction d with
  | zero =>
    intro k i h0 hd hk
    obtain ⟨k, rfl⟩ : ∃ q, k = q + 1 := ⟨k - 1, by omega⟩
    simp only [laws_eqIntS.l0]
    rw [if_neg (by omega), List.drop_of_length_le (by omega), List.drop_of_length_le (by omega)]
    simp
  | succ d ih =>
    intro k i h0 hd hk
    obtain ⟨k, rfl⟩ : ∃ q, k = q + 1 := ⟨k - 1, by omega⟩
    simp only [laws_eqIntS.l0]
    rw [if_pos (by omega), if_pos h0, if_pos (by omega), w64 (by omega) (by omega), drop_rd h0 (by omega), drop_rd (l := b) h0 (by omega)]
    by_cases h : rd a i = rd b i
    · rw [if_pos h, ih k (i + 1) (by omega) (by omega) (by omega)]
      simp [h]
    · rw [if_neg h]; simp [h]
theorem eqIntS_eq {k : Nat} {a b : List Int} (ha : a.length ≤ 9223372036854775807) (hk : a.length < k) : laws_eqIntS.f k a b = some (decide (a = b)) := by
  unfold laws_eqIntS.f
  by_cases h : a.length = b.length
  · rw [if_pos (by omega), eqIntS_l0 a b h ha a.length k 0 (by omega) (by omega) hk]; simp
  · rw [if_neg (by omega)]
    have : a ≠ b := fun e => h (by rw [e])
    simp [this]
theorem eqIntS_self {k : Nat} {a : List Int} (ha : a.length ≤ 9223372036854775807) (hk : a.length < k) : laws_eqIntS.f k a a = some true := by
  rw [eqIntS_eq ha hk]; simp
theorem markIntS_l0 (s : Int) (n : Nat) (hs : 0 ≤ s) (hb : s + n < 9223372036854775807) : ∀ (d k : Nat) (x : List Int) (i : Int), 0 ≤ i → (n : Int) - i = d → d < k → x.length = n → (∀ j : Nat, (j : Int) < i → rd x j = s + j) →
    ∃ y, laws_markIntS.l0 k x (s + i) i = some (s + n, y) ∧ y.length = n ∧ ∀ j : Nat, j < n → rd y j = s + j := by
  intro d
  induction d with
  | zero =>
    intro k x i h0 hd hk hx hr
    obtain ⟨k, rfl⟩ : ∃ q, k = q + 1 := ⟨k - 1, by omega⟩
    simp only [laws_markIntS.l0]
    rw [if_neg (by omega)]
    exact ⟨x, by rw [show s + i = s + n by omega], hx, fun j hj => hr j (by omega)⟩
  | succ d ih =>
    intro k x i h0 hd hk hx hr
    obtain ⟨k, rfl⟩ : ∃ q, k = q + 1 := ⟨k - 1, by omega⟩
    simp only [laws_markIntS.l0]
    rw [if_pos (by omega), if_pos h0, w64 (by omega) (by omega), w64 (by omega) (by omega), show s + i + 1 = s + (i + 1) by omega]
    refine ih k _ (i + 1) (by omega) (by omega) (by omega) (by simpa using hx) fun j hj => ?_
    by_cases e : (j : Int) = i
    · unfold rd
      rw [show i.toNat = j by omega, Int.toNat_natCast, List.getD_eq_getElem?_getD, List.getElem?_set_self (by omega)]
      simp; omega
    · have := hr j (by omega)
      unfold rd at this ⊢
      rw [Int.toNat_natCast] at this ⊢
      rw [← this, List.getD_eq_getElem?_getD, List.getD_eq_getElem?_getD, List.getElem?_set_ne (by omega)]
theorem heldIntS_l0 (s : Int) (n : Nat) (y : List Int) (hs : 0 ≤ s) (hb : s + n < 9223372036854775807) (hy : y.length = n) (hr : ∀ j : Nat, j < n → rd y j = s + j) : ∀ (d k : Nat) (i : Int), 0 ≤ i → (n : Int) - i = d → d < k →
    laws_heldIntS.l0 k y (s + i) i = some (s + n) := by
  intro d
  induction d with
  | zero =>
    intro k i h0 hd hk
    obtain ⟨k, rfl⟩ : ∃ q, k = q + 1 := ⟨k - 1, by omega⟩
    simp only [laws_heldIntS.l0]
    rw [if_neg (by omega), show s + i = s + n by omega]
  | succ d ih =>
    intro k i h0 hd hk
    obtain ⟨k, rfl⟩ : ∃ q, k = q + 1 := ⟨k - 1, by omega⟩
    have := hr i.toNat (by omega)
    rw [show ((i.toNat : Nat) : Int) = i by omega] at this
    simp only [laws_heldIntS.l0]
    rw [if_pos (by omega), if_pos h0, if_pos this, w64 (by omega) (by omega), w64 (by omega) (by omega), show s + i + 1 = s + (i + 1) by omega]
    exact ih k (i + 1) (by omega) (by omega) (by omega)
theorem markIntS_eq {k : Nat} {l : List Int} {s : Int} (hs : 0 ≤ s) (hb : s + l.length < 9223372036854775807) (hk : l.length < k) :
    ∃ y, laws_markIntS.f k l s = some (s + l.length, y) ∧ ∀ q, l.length < q → laws_heldIntS.f q y s = some (s + l.length) := by
  obtain ⟨y, h1, h2, h3⟩ := markIntS_l0 s l.length hs hb l.length k l 0 (by omega) (by omega) hk rfl (fun j hj => by omega)
  rw [Int.add_zero] at h1
  refine ⟨y, h1, fun q hq => ?_⟩
  have := heldIntS_l0 s l.length y hs hb h2 h3 l.length q 0 (by omega) (by omega) hq
  rwa [Int.add_zero] at this

def lane0 (a : Int) : Int × Int × List Int := if 0 ≤ a ∧ a ≤ 23 then (a, 0, List.replicate 4 0) else (0, 0, [])
theorem lane0_len (a : Int) : (lane0 a).2.2.length ≤ 4 := by unfold lane0; split <;> simp
theorem spec_laneNew (a : Int) : spec_LaneNew.f a = some (lane0 a) := by
  unfold spec_LaneNew.f lane0
  rw [in_some]; simp only [Option.bind_some]
  by_cases h : 0 ≤ a ∧ a ≤ 23
  · rw [if_pos (by simpa using h), if_pos h, if_pos (by decide)]
  · rw [if_neg (by simpa using h), if_neg h]
theorem impl_laneNew (a : Int) : impl_LaneNew.f a = some (lane0 a) := by
  unfold impl_LaneNew.f impl_isThread.f lane0
  rw [within_some]; simp only [Option.bind_some]
  by_cases h : 0 ≤ a ∧ a ≤ 23
  · rw [if_pos (by simpa using h), if_pos h, if_pos (by decide)]
  · rw [if_neg (by simpa using h), if_neg h]
theorem FnExactLaneNew : laws_FnExactLaneNew.Pure := by
  intro a _
  have hl := lane0_len a
  obtain ⟨y, hy, hy2⟩ := markIntS_eq (k := 10) (l := (lane0 a).2.2) (s := 1) (by omega) (by omega) (by omega)
  refine ⟨10, ?_⟩
  unfold laws_FnExactLaneNew.f
  simp only [spec_laneNew, impl_laneNew, laws_eqLane.f, laws_markLane.f, laws_heldLane.f, eqIntS_self (by omega : (lane0 a).2.2.length ≤ 9223372036854775807) (by omega : (lane0 a).2.2.length < 10), hy, hy2 10 (by omega), Option.bind_some, if_true]
  have hn : ¬ (1 + ((lane0 a).2.2.length : Int) < 0) := by omega
  simp only [if_neg hn, Option.bind_some, if_true]

end Go.Proofs.Ytcmimgoghmeliaa.Pure
