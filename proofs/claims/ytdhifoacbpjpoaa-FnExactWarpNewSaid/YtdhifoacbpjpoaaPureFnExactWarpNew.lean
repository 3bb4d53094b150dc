/-
  The program's WarpNew returns what the reference's returns, for all arguments, in new memory, and leaves its arguments as they were.
  No condition.
-/
import Derived.Test.YtdhifoacbpjpoaaPFnExactWarpNewx8
namespace Go.Proofs.Ytdhifoacbpjpoaa.Pure
open Go.RowKit Go.Proofs.Ytdhifoacbpjpoaa.PFnExactWarpNew Go.Proofs.YtdhifoacbpjpoaaW.PrintWords Go.Proofs.YtdhifoacbpjpoaaW.PrintLast Go.Proofs.YtdhifoacbpjpoaaW.PrintMore
set_option linter.unusedVariables false
set_option linter.unusedSimpArgs false

theorem w64 {x : Int} (h0 : -9223372036854775808 ≤ x) (h1 : x < 9223372036854775808) : wrap64 x = x := by unfold wrap64; omega
theorem drop_rd {l : List Int} {i : Int} (h0 : 0 ≤ i) (h1 : i < (l.length : Int)) : l.drop i.toNat = rd l i :: l.drop (i + 1).toNat := by
  have hi : i.toNat < l.length := by omega
  rw [show (i + 1).toNat = i.toNat + 1 by omega, List.drop_eq_getElem_cons hi]
  congr 1
  unfold rd
  rw [List.getD_eq_getElem?_getD, List.getElem?_eq_getElem hi]; rfl
theorem rd_mem {l : List Int} {i : Int} (h0 : 0 ≤ i) (h1 : i < (l.length : Int)) : rd l i ∈ l := by
  have hi : i.toNat < l.length := by omega
  unfold rd
  rw [List.getD_eq_getElem?_getD, List.getElem?_eq_getElem hi]
  exact List.getElem_mem hi
theorem take_set_succ {α : Type} {l x : List α} {i : Nat} (v : α) (hl : i < l.length) (hx : i < x.length) (h : x.take i = l.take i) (hv : l[i]'hl = v) : (x.set i v).take (i + 1) = l.take (i + 1) := by
  rw [List.take_succ_eq_append_getElem (by simpa using hx), List.take_succ_eq_append_getElem hl, List.take_set_of_le (Nat.le_refl i), h]
  simp [hv]
theorem rd_get {l : List Int} {i : Int} (h0 : 0 ≤ i) (h1 : i.toNat < l.length) : l[i.toNat]'h1 = rd l i := by
  unfold rd
  rw [List.getD_eq_getElem?_getD, List.getElem?_eq_getElem h1]; rfl
theorem need {p : Prop} (h : p) : p := h
theorem within_some (x a b : Int) : impl_within.f x a b = some (decide (a ≤ x ∧ x ≤ b)) := by
  unfold impl_within.f
  by_cases h : a ≤ x
  · rw [if_pos h]; simp [h]
  · rw [if_neg h]; simp [h]
theorem in_some (x a b : Int) : spec_l01In.f x a b = some (decide (a ≤ x ∧ x ≤ b)) := by
  unfold spec_l01In.f
  by_cases h : a ≤ x
  · rw [if_pos h]; simp [h]
  · rw [if_neg h]; simp [h]
theorem eqIntS_l0 (a b : List Int) (hab : a.length = b.length) (ha : a.length ≤ 9223372036854775807) : ∀ (d k : Nat) (i : Int), 0 ≤ i → (a.length : Int) - i = d → d < k →
    laws_eqIntS.l0 k a b i = some (decide (a.drop i.toNat = b.drop i.toNat)) := by
  intro d
  induction d with
  | zero =>
    intro k i h0 hd hk
    obtain ⟨k, rfl⟩ : ∃ q, k = q + 1 := ⟨k - 1, by omega⟩
    simp only [laws_eqIntS.l0]
    rw [if_neg (by omega), List.drop_of_length_le (by omega), List.drop_of_length_le (by omega)]
    simp
  | succ d ih =>
    intro k i h0 hd hk
    obtain ⟨k, rfl⟩ : ∃ q, k = q + 1 := ⟨k - 1, by omega⟩
    simp only [laws_eqIntS.l0]
    rw [if_pos (by omega), if_pos h0, if_pos (by omega), w64 (by omega) (by omega), drop_rd h0 (by omega), drop_rd (l := b) h0 (by omega)]
    by_cases h : rd a i = rd b i
    · rw [if_pos h, ih k (i + 1) (by omega) (by omega) (by omega)]
      simp [h]
    · rw [if_neg h]; simp [h]
theorem eqIntS_eq {k : Nat} {a b : List Int} (ha : a.length ≤ 9223372036854775807) (hk : a.length < k) : laws_eqIntS.f k a b = some (decide (a = b)) := by
  unfold laws_eqIntS.f
  by_cases h : a.length = b.length
  · rw [if_pos (by omega), eqIntS_l0 a b h ha a.length k 0 (by omega) (by omega) hk]; simp
  · rw [if_neg (by omega)]
    have : a ≠ b := fun e => h (by rw [e])
    simp [this]
theorem eqIntS_self {k : Nat} {a : List Int} (ha : a.length ≤ 9223372036854775807) (hk : a.length < k) : laws_eqIntS.f k a a = some true := by
  rw [eqIntS_eq ha hk]; simp
theorem markIntS_l0 (s : Int) (n : Nat) (hs : 0 ≤ s) (hb : s + n < 9223372036854775807) : ∀ (d k : Nat) (x : List Int) (i : Int), 0 ≤ i → (n : Int) - i = d → d < k → x.length = n → (∀ j : Nat, (j : Int) < i → rd x j = s + j) →
    ∃ y, laws_markIntS.l0 k x (s + i) i = some (s + n, y) ∧ y.length = n ∧ ∀ j : Nat, j < n → rd y j = s + j := by
  intro d
  induction d with
  | zero =>
    intro k x i h0 hd hk hx hr
    obtain ⟨k, rfl⟩ : ∃ q, k = q + 1 := ⟨k - 1, by omega⟩
    simp only [laws_markIntS.l0]
    rw [if_neg (by omega)]
    exact ⟨x, by rw [show s + i = s + n by omega], hx, fun j hj => hr j (by omega)⟩
  | succ d ih =>
    intro k x i h0 hd hk hx hr
    obtain ⟨k, rfl⟩ : ∃ q, k = q + 1 := ⟨k - 1, by omega⟩
    simp only [laws_markIntS.l0]
    rw [if_pos (by omega), if_pos h0, w64 (by omega) (by omega), w64 (by omega) (by omega), show s + i + 1 = s + (i + 1) by omega]
    refine ih k _ (i + 1) (by omega) (by omega) (by omega) (by simpa using hx) fun j hj => ?_
    by_cases e : (j : Int) = i
    · unfold rd
      rw [show i.toNat = j by omega, Int.toNat_natCast, List.getD_eq_getElem?_getD, List.getElem?_set_self (by omega)]
      simp; omega
    · have := hr j (by omega)
      unfold rd at this ⊢
      rw [Int.toNat_natCast] at this ⊢
      rw [← this, List.getD_eq_getElem?_getD, List.getD_eq_getElem?_getD, List.getElem?_set_ne (by omega)]
theorem heldIntS_l0 (s : Int) (n : Nat) (y : List Int) (hs : 0 ≤ s) (hb : s + n < 9223372036854775807) (hy : y.length = n) (hr : ∀ j : Nat, j < n → rd y j = s + j) : ∀ (d k : Nat) (i : Int), 0 ≤ i → (n : Int) - i = d → d < k →
    laws_heldIntS.l0 k y (s + i) i = some (s + n) := by
  intro d
  induction d with
  | zero =>
    intro k i h0 hd hk
    obtain ⟨k, rfl⟩ : ∃ q, k = q + 1 := ⟨k - 1, by omega⟩
    simp only [laws_heldIntS.l0]
    rw [if_neg (by omega), show s + i = s + n by omega]
  | succ d ih =>
    intro k i h0 hd hk
    obtain ⟨k, rfl⟩ : ∃ q, k = q + 1 := ⟨k - 1, by omega⟩
    have := hr i.toNat (by omega)
    rw [show ((i.toNat : Nat) : Int) = i by omega] at this
    simp only [laws_heldIntS.l0]
    rw [if_pos (by omega), if_pos h0, if_pos this, w64 (by omega) (by omega), w64 (by omega) (by omega), show s + i + 1 = s + (i + 1) by omega]
    exact ih k (i + 1) (by omega) (by omega) (by omega)
theorem markIntS_eq {k : Nat} {l : List Int} {s : Int} (hs : 0 ≤ s) (hb : s + l.length < 9223372036854775807) (hk : l.length < k) :
    ∃ y, laws_markIntS.f k l s = some (s + l.length, y) ∧ ∀ q, l.length < q → laws_heldIntS.f q y s = some (s + l.length) := by
  obtain ⟨y, h1, h2, h3⟩ := markIntS_l0 s l.length hs hb l.length k l 0 (by omega) (by omega) hk rfl (fun j hj => by omega)
  rw [Int.add_zero] at h1
  refine ⟨y, h1, fun q hq => ?_⟩
  have := heldIntS_l0 s l.length y hs hb h2 h3 l.length q 0 (by omega) (by omega) hq
  rwa [Int.add_zero] at this
def ups : Nat → Int → List Int
  | 0, _ => []
  | n + 1, i => i :: ups n (i + 1)
theorem ups_mem : ∀ (n : Nat) (i x : Int), x ∈ ups n i → i ≤ x ∧ x < i + n
  | 0, _, _, h => by simp [ups] at h
  | n + 1, i, x, h => by
    rw [ups, List.mem_cons] at h
    rcases h with rfl | h
    · omega
    · have := ups_mem n (i + 1) x h; omega
theorem ups_mem_of : ∀ (n : Nat) (i x : Int), i ≤ x → x < i + n → x ∈ ups n i
  | 0, _, _, _, _ => by omega
  | n + 1, i, x, h0, h1 => by
    rw [ups, List.mem_cons]
    by_cases e : x = i
    · exact .inl e
    · exact .inr (ups_mem_of n (i + 1) x (by omega) (by omega))
theorem ups_len : ∀ (n : Nat) (i : Int), (ups n i).length = n
  | 0, _ => rfl
  | n + 1, i => by rw [ups, List.length_cons, ups_len]
theorem drop_getD {α : Type} {l : List α} {i : Int} (z : α) (h0 : 0 ≤ i) (h1 : i < (l.length : Int)) : l.drop i.toNat = l.getD i.toNat z :: l.drop (i + 1).toNat := by
  have hi : i.toNat < l.length := by omega
  rw [show (i + 1).toNat = i.toNat + 1 by omega, List.drop_eq_getElem_cons hi, List.getD_eq_getElem?_getD, List.getElem?_eq_getElem hi]; rfl
theorem getD_get {α : Type} {l : List α} {n : Nat} (z : α) (h : n < l.length) : l.getD n z = l[n]'h := by
  rw [List.getD_eq_getElem?_getD, List.getElem?_eq_getElem h]; rfl
theorem getD_map {α β : Type} {l : List α} {n : Nat} (g : α → β) (z : α) (z2 : β) (h : n < l.length) : (l.map g).getD n z2 = g (l.getD n z) := by
  rw [getD_get z h, getD_get z2 (by simpa using h), List.getElem_map]
def left (a : Int) (n : Nat) : Int := if a - n < 0 then -1 else a - n
def cvI (x : S41) : S43 := ⟨x.f0, x.f1, x.f2, x.f3⟩
theorem toInsS_l0 (l : List S41) (hl : l.length ≤ 1048576) : ∀ (d k : Nat) (x : List S43) (i : Int), 0 ≤ i → (l.length : Int) - i = d → d < k → x.length = l.length → x.take i.toNat = (l.map cvI).take i.toNat →
    laws_toInsS.l0 k l x i = some (l.map cvI) := by
  intro d
  induction d with
  | zero =>
    intro k x i h0 hd hk hx ht
    obtain ⟨k, rfl⟩ : ∃ q, k = q + 1 := ⟨k - 1, by omega⟩
    simp only [laws_toInsS.l0]
    rw [if_neg (by omega)]
    rw [List.take_of_length_le (by omega), List.take_of_length_le (by simp; omega)] at ht
    rw [ht]
  | succ d ih =>
    intro k x i h0 hd hk hx ht
    obtain ⟨k, rfl⟩ : ∃ q, k = q + 1 := ⟨k - 1, by omega⟩
    simp only [laws_toInsS.l0, laws_toIns.f, Option.bind_some]
    rw [if_pos (by omega), if_pos h0, if_pos (by omega), w64 (by omega) (by omega)]
    refine ih k _ (i + 1) (by omega) (by omega) (by omega) (by simpa using hx) ?_
    rw [show (i + 1).toNat = i.toNat + 1 by omega]
    refine take_set_succ _ (by simp; omega) (by omega) ht ?_
    rw [List.getElem_map]
    unfold rd_T41
    rw [getD_get _ (by omega : i.toNat < l.length)]; rfl
theorem toInsS_eq {k : Nat} {l : List S41} (hl : l.length ≤ 1048576) (hk : l.length < k) : laws_toInsS.f k l = some (l.map cvI) := by
  unfold laws_toInsS.f
  rw [if_pos (by omega), if_pos (by omega)]
  exact toInsS_l0 l hl l.length k _ 0 (by omega) (by omega) hk (by simp) (by simp)
theorem eqInsS_l0 (a : List S43) (ha : a.length ≤ 9223372036854775807) : ∀ (d k : Nat) (i : Int), 0 ≤ i → (a.length : Int) - i = d → d < k →
    laws_eqInsS.l0 k a a i = some true := by
  intro d
  induction d with
  | zero =>
    intro k i h0 hd hk
    obtain ⟨k, rfl⟩ : ∃ q, k = q + 1 := ⟨k - 1, by omega⟩
    simp only [laws_eqInsS.l0]
    rw [if_neg (by omega)]
  | succ d ih =>
    intro k i h0 hd hk
    obtain ⟨k, rfl⟩ : ∃ q, k = q + 1 := ⟨k - 1, by omega⟩
    simp only [laws_eqInsS.l0, laws_eqIns.f, if_true, Option.bind_some]
    rw [if_pos (by omega), if_pos h0, if_pos (by omega), w64 (by omega) (by omega), ih k (i + 1) (by omega) (by omega) (by omega)]
theorem eqInsS_self {k : Nat} {a : List S43} (ha : a.length ≤ 9223372036854775807) (hk : a.length < k) : laws_eqInsS.f k a a = some true := by
  unfold laws_eqInsS.f
  rw [if_pos rfl, eqInsS_l0 a ha a.length k 0 (by omega) (by omega) hk]
theorem szInsS_eq (l : List S41) {a : Int} (h0 : 0 ≤ a) (h1 : a ≤ 1048576) (hl : l.length ≤ 9223372036854775807) : laws_szInsS.f l a = some (left a l.length) := by
  unfold laws_szInsS.f left
  rw [w64 (by omega) (by omega)]
  by_cases h : a - (l.length : Int) < 0
  · rw [if_pos h, if_pos h]
  · rw [if_neg h, if_neg h]
def fldR (x : Int) : Bool := decide (0 ≤ x ∧ x ≤ 3)
def fldW (x : Int) : Bool := decide (0 ≤ x ∧ x ≤ 65535)
def fldT (n x : Int) : Bool := decide (0 ≤ x ∧ x ≤ n)
def fldB (n ch x : Int) : Bool := if ch = 82 then fldR x else if ch = 87 then fldW x else if ch = 84 then fldT n x else x == 0
def insB (n a b c d : Int) : Bool := if a = 0 ∨ a = 12 ∨ a = 16 then b == 0 && (c == 0 && d == 0) else if a = 1 then fldR b && (fldW c && d == 0) else if a = 2 ∨ a = 13 ∨ a = 14 ∨ a = 15 then fldR b && (fldR c && d == 0) else if a = 8 then fldR b && (c == 0 && d == 0) else if a = 10 then fldR b && (fldT n c && d == 0) else if a = 11 then b == 0 && (fldT n c && d == 0) else if 3 ≤ a ∧ a ≤ 9 then fldR b && (fldR c && fldR d) else false
theorem isField_eq (ch x n : Int) : impl_isField.f ch x n = some (fldB n ch x) := by
  unfold impl_isField.f impl_isReg.f impl_IsWord.f fldB
  simp only [within_some, Option.bind_some]
  split
  · rfl
  · split
    · rfl
    · split <;> rfl
theorem str3_ne (p q r : UInt8) : (⟨#[p, q, r]⟩ : ByteArray).toList ≠ [] := by
  unfold ByteArray.toList
  unfold ByteArray.toList.loop
  rw [if_pos (by show 0 < 3; decide)]
  unfold ByteArray.toList.loop
  rw [if_pos (by show 1 < 3; decide)]
  unfold ByteArray.toList.loop
  rw [if_pos (by show 2 < 3; decide)]
  unfold ByteArray.toList.loop
  rw [if_neg (by show ¬ 3 < 3; decide)]
  simp
theorem str0_eq : (⟨#[]⟩ : ByteArray).toList = [] := by
  unfold ByteArray.toList
  unfold ByteArray.toList.loop
  rw [if_neg (by show ¬ 0 < 0; decide)]; rfl
theorem insOk_str (p q r : UInt8) (a b c d n : Int) (h : impl_formOf.f a = some (⟨#[p, q, r]⟩ : ByteArray)) : impl_InsOk.f a b c d n = some (decide (0 ≤ n ∧ n ≤ 32) && (fldB n p.toNat b && (fldB n q.toNat c && fldB n r.toNat d))) := by
  unfold impl_InsOk.f
  rw [h]; simp only [Option.bind_some, within_some, isField_eq]
  rw [if_neg (str3_ne p q r)]
  have e0 : bt (⟨#[p, q, r]⟩ : ByteArray) 0 = p.toNat := rfl
  have e1 : bt (⟨#[p, q, r]⟩ : ByteArray) 1 = q.toNat := rfl
  have e2 : bt (⟨#[p, q, r]⟩ : ByteArray) 2 = r.toNat := rfl
  have es : ((⟨#[p, q, r]⟩ : ByteArray).size : Int) = 3 := rfl
  rw [e0, e1, e2, es]
  cases decide (0 ≤ n ∧ n ≤ 32) <;> cases fldB n p.toNat b <;> cases fldB n q.toNat c <;> cases fldB n r.toNat d <;> rfl
theorem insOk_none (a b c d n : Int) (h : ¬ (0 ≤ a ∧ a ≤ 16)) : impl_InsOk.f a b c d n = some false := by
  unfold impl_InsOk.f impl_formOf.f
  rw [within_some]; simp only [Option.bind_some]
  rw [if_neg (by simpa using h)]; simp only [Option.bind_some]
  rw [if_pos str0_eq]
theorem impl_insOk_eq (a b c d n : Int) : impl_InsOk.f a b c d n = some (decide (0 ≤ n ∧ n ≤ 32) && insB n a b c d) := by
  by_cases h : 0 ≤ a ∧ a ≤ 16
  · rcases (by omega : a = 0 ∨ a = 1 ∨ a = 2 ∨ a = 3 ∨ a = 4 ∨ a = 5 ∨ a = 6 ∨ a = 7 ∨ a = 8 ∨ a = 9 ∨ a = 10 ∨ a = 11 ∨ a = 12 ∨ a = 13 ∨ a = 14 ∨ a = 15 ∨ a = 16) with e | e | e | e | e | e | e | e | e | e | e | e | e | e | e | e | e <;> subst e <;> (first | (rw [insOk_str 45 45 45 _ b c d n rfl]; rfl) | (rw [insOk_str 82 87 45 _ b c d n rfl]; rfl) | (rw [insOk_str 82 82 45 _ b c d n rfl]; rfl) | (rw [insOk_str 82 82 82 _ b c d n rfl]; rfl) | (rw [insOk_str 82 45 45 _ b c d n rfl]; rfl) | (rw [insOk_str 82 84 45 _ b c d n rfl]; rfl) | (rw [insOk_str 45 84 45 _ b c d n rfl]; rfl))
  · rw [insOk_none a b c d n h]
    have : insB n a b c d = false := by
      unfold insB
      rw [if_neg (by omega), if_neg (by omega), if_neg (by omega), if_neg (by omega), if_neg (by omega), if_neg (by omega), if_neg (by omega)]
    rw [this, Bool.and_false]
theorem spec_reg_eq (x : Int) : spec_l04Reg.f x = some (fldR x) := by unfold spec_l04Reg.f; rw [in_some]; rfl
theorem spec_word_eq (x : Int) : spec_IsWord.f x = some (fldW x) := by unfold spec_IsWord.f; rw [in_some]; rfl
theorem spec_insOk_eq {k : Nat} (a b c d n : Int) (hk : 2 < k) : spec_InsOk.f k a b c d n = some (decide (0 ≤ n ∧ n ≤ 32) && insB n a b c d) := by
  obtain ⟨k, rfl⟩ : ∃ q, k = q + 1 + 1 := ⟨k - 2, by omega⟩
  have ht : spec_l01In.f c 0 n = some (fldT n c) := in_some _ _ _
  unfold spec_InsOk.f insB
  rw [in_some]; simp only [Option.bind_some]
  by_cases hn : 0 ≤ n ∧ n ≤ 32
  · rw [if_pos (by simpa using hn), decide_eq_true hn, Bool.true_and]
    simp only [spec_InsOk.j0, spec_InsOk.j1, spec_reg_eq, spec_word_eq, ht, in_some a 3 9, Option.bind_some]
    by_cases h : 0 ≤ a ∧ a ≤ 16
    · rcases (by omega : a = 0 ∨ a = 1 ∨ a = 2 ∨ a = 3 ∨ a = 4 ∨ a = 5 ∨ a = 6 ∨ a = 7 ∨ a = 8 ∨ a = 9 ∨ a = 10 ∨ a = 11 ∨ a = 12 ∨ a = 13 ∨ a = 14 ∨ a = 15 ∨ a = 16) with e | e | e | e | e | e | e | e | e | e | e | e | e | e | e | e | e <;> subst e <;> simp <;> by_cases hb : b = 0 <;> by_cases hc : c = 0 <;> (try simp [hb, hc]) <;> (try cases fldR b) <;> (try cases fldR 0) <;> (try cases fldR c) <;> (try cases fldW c) <;> (try cases fldW 0) <;> (try cases fldT n c) <;> (try cases fldT n 0) <;> (try simp)
    · have q0 : a ≠ 0 := by omega
      have q1 : a ≠ 1 := by omega
      have q2 : a ≠ 2 := by omega
      have q8 : a ≠ 8 := by omega
      have q10 : a ≠ 10 := by omega
      have q11 : a ≠ 11 := by omega
      have q12 : a ≠ 12 := by omega
      have q13 : a ≠ 13 := by omega
      have q14 : a ≠ 14 := by omega
      have q15 : a ≠ 15 := by omega
      have q16 : a ≠ 16 := by omega
      have q3 : ¬ (3 ≤ a ∧ a ≤ 9) := by omega
      simp [q0, q1, q2, q8, q10, q11, q12, q13, q14, q15, q16, q3]
  · rw [if_neg (by simpa using hn), decide_eq_false hn]; rfl
def insOk (n : Int) (x : S43) : Bool := decide (0 ≤ n ∧ n ≤ 32) && insB n x.f0 x.f1 x.f2 x.f3
def programOk (l : List S43) : Bool := decide (l.length ≤ 32) && l.all (insOk l.length)
theorem impl_programOk_eq (l : List S43) : impl_ProgramOk.f l = some (programOk l) := by
  unfold impl_ProgramOk.f programOk
  have hi : ∀ x : S43, insOkAt (l.length : Int) x = some (insOk l.length x) := fun x => impl_insOk_eq _ _ _ _ _
  have e : (fun x => insOkAt (l.length : Int) x == some true) = insOk (l.length : Int) := by
    funext x; rw [hi]; cases insOk (l.length : Int) x <;> rfl
  rw [if_pos, e]
  rw [List.all_eq_true]
  intro x _
  rw [hi]; rfl
theorem spec_programOk_l0 (l : List S43) (hl : l.length ≤ 1048576) : ∀ (d k : Nat) (i : Int), 0 ≤ i → (l.length : Int) - i = d → d + 2 < k →
    spec_ProgramOk.l0 k l i = some (if (l.drop i.toNat).all (insOk l.length) = true then decide (l.length ≤ 32) else false) := by
  intro d
  induction d with
  | zero =>
    intro k i h0 hd hk
    obtain ⟨k, rfl⟩ : ∃ q, k = q + 1 := ⟨k - 1, by omega⟩
    simp only [spec_ProgramOk.l0]
    rw [if_neg (by omega), List.drop_of_length_le (by omega)]
    by_cases h : l.length ≤ 32
    · rw [decide_eq_true (by omega : (l.length : Int) ≤ 32), decide_eq_true h]; rfl
    · rw [decide_eq_false (by omega : ¬ (l.length : Int) ≤ 32), decide_eq_false h]; rfl
  | succ d ih =>
    intro k i h0 hd hk
    obtain ⟨k, rfl⟩ : ∃ q, k = q + 1 := ⟨k - 1, by omega⟩
    simp only [spec_ProgramOk.l0]
    rw [if_pos (by omega), if_pos h0, w64 (by omega) (by omega), spec_insOk_eq _ _ _ _ _ (by omega), drop_getD z43 h0 (by omega), ih k (i + 1) (by omega) (by omega) (by omega)]
    simp only [Option.bind_some, List.all_cons]
    change (if (insOk (l.length : Int) (rd_T43 l i)) = true then _ else _) = _
    change _ = some (if (insOk (l.length : Int) (rd_T43 l i) && _) = true then _ else _)
    cases insOk (l.length : Int) (rd_T43 l i) <;> rfl
theorem spec_programOk_eq {k : Nat} {l : List S43} (hl : l.length ≤ 1048576) (hk : l.length + 2 < k) : spec_ProgramOk.f k l = some (programOk l) := by
  unfold spec_ProgramOk.f programOk
  rw [spec_programOk_l0 l hl l.length k 0 (by omega) (by omega) hk, Int.toNat_zero, List.drop_zero]
  cases l.all (insOk (l.length : Int)) <;> simp
theorem eqFrameS_l0 (a : List S82) (ha : a.length ≤ 9223372036854775807) : ∀ (d k : Nat) (i : Int), 0 ≤ i → (a.length : Int) - i = d → d < k →
    laws_eqFrameS.l0 k a a i = some true := by
  intro d
  induction d with
  | zero =>
    intro k i h0 hd hk
    obtain ⟨k, rfl⟩ : ∃ q, k = q + 1 := ⟨k - 1, by omega⟩
    simp only [laws_eqFrameS.l0]
    rw [if_neg (by omega)]
  | succ d ih =>
    intro k i h0 hd hk
    obtain ⟨k, rfl⟩ : ∃ q, k = q + 1 := ⟨k - 1, by omega⟩
    simp only [laws_eqFrameS.l0, laws_eqFrame.f, if_true, Option.bind_some]
    rw [if_pos (by omega), if_pos h0, if_pos (by omega), w64 (by omega) (by omega), ih k (i + 1) (by omega) (by omega) (by omega)]
theorem eqFrameS_self {k : Nat} {a : List S82} (ha : a.length ≤ 9223372036854775807) (hk : a.length < k) : laws_eqFrameS.f k a a = some true := by
  unfold laws_eqFrameS.f
  rw [if_pos rfl, eqFrameS_l0 a ha a.length k 0 (by omega) (by omega) hk]
theorem left_ok {a : Int} {n : Nat} (ha : 0 ≤ a) (ha1 : a ≤ 1048576) (h : ¬ left a n < 0) : left a n = a - n ∧ 0 ≤ a - n ∧ n ≤ 1048576 := by
  unfold left at h ⊢
  split at h
  · omega
  · rename_i q; rw [if_neg q]; omega
theorem eqWarp_self {k : Nat} {n : Int} {f : List S82} {r : List Int} (hf : f.length ≤ 9223372036854775807) (hr : r.length ≤ 9223372036854775807) (hk : f.length < k) (hk2 : r.length < k) : laws_eqWarp.f k n f r n f r = some true := by
  unfold laws_eqWarp.f
  rw [if_pos rfl, eqFrameS_self hf hk, Option.bind_some, if_pos rfl, eqIntS_self hr hk2]; rfl
theorem getD_set {α : Type} {x : List α} {n : Nat} (u z : α) (h : n < x.length) : (x.set n u).getD n z = u := by
  rw [List.getD_eq_getElem?_getD, List.getElem?_set_self h]; rfl
theorem getD_setne {α : Type} {x : List α} {n m : Nat} (u z : α) (h : n ≠ m) : (x.set n u).getD m z = x.getD m z := by
  rw [List.getD_eq_getElem?_getD, List.getD_eq_getElem?_getD, List.getElem?_set_ne h]
theorem markFrameS_l0 (s : Int) (n : Nat) (hs : 0 ≤ s) (hb : s + 3 * n < 9223372036854775800) : ∀ (d k : Nat) (x : List S82) (i : Int), 0 ≤ i → (n : Int) - i = d → d < k → x.length = n → (∀ j : Nat, (j : Int) < i → rd_T82 x j = ⟨s + 3 * j, s + 3 * j + 1, s + 3 * j + 2⟩) →
    ∃ y, laws_markFrameS.l0 k x (s + 3 * i) i = some (s + 3 * n, y) ∧ y.length = n ∧ ∀ j : Nat, j < n → rd_T82 y j = ⟨s + 3 * j, s + 3 * j + 1, s + 3 * j + 2⟩ := by
  intro d
  induction d with
  | zero =>
    intro k x i h0 hd hk hx hr
    obtain ⟨k, rfl⟩ : ∃ q, k = q + 1 := ⟨k - 1, by omega⟩
    simp only [laws_markFrameS.l0]
    rw [if_neg (by omega)]
    exact ⟨x, by rw [show s + 3 * i = s + 3 * n by omega], hx, fun j hj => hr j (by omega)⟩
  | succ d ih =>
    intro k x i h0 hd hk hx hr
    obtain ⟨k, rfl⟩ : ∃ q, k = q + 1 := ⟨k - 1, by omega⟩
    simp only [laws_markFrameS.l0, Option.bind_some]
    have hi : i.toNat < x.length := by omega
    rw [if_pos (by omega), if_pos h0, w64 (x := s + 3 * i + 1) (by omega) (by omega), w64 (x := s + 3 * i + 1 + 1) (by omega) (by omega), w64 (x := s + 3 * i + 1 + 1 + 1) (by omega) (by omega), w64 (x := i + 1) (by omega) (by omega), show s + 3 * i + 1 + 1 + 1 = s + 3 * (i + 1) by omega]
    unfold rd_T82
    simp only [getD_set _ _ hi, List.set_set]
    refine ih k _ (i + 1) (by omega) (by omega) (by omega) (by simpa using hx) fun j hj => ?_
    by_cases e : (j : Int) = i
    · unfold rd_T82
      rw [show ((j : Int)).toNat = i.toNat by omega, getD_set _ _ hi, e]
      congr 1; omega
    · have := hr j (by omega)
      unfold rd_T82 at this ⊢
      rw [getD_setne _ _ (by omega), this]
theorem markFrameS_eq {k : Nat} {l : List S82} {s : Int} (hs : 0 ≤ s) (hb : s + 3 * l.length < 9223372036854775800) (hk : l.length < k) :
    ∃ y, laws_markFrameS.f k l s = some (s + 3 * l.length, y) ∧ y.length = l.length ∧ ∀ j : Nat, j < l.length → rd_T82 y j = ⟨s + 3 * j, s + 3 * j + 1, s + 3 * j + 2⟩ := by
  have := markFrameS_l0 s l.length hs hb l.length k l 0 (by omega) (by omega) hk rfl (fun j hj => by omega)
  simpa [laws_markFrameS.f] using this
theorem markWarp_eq {k : Nat} (n : Int) {f : List S82} {r : List Int} {s : Int} (hs : 0 ≤ s) (hb : s + 3 * f.length + r.length < 9223372036854775800) (hk : f.length < k) (hk2 : r.length < k) :
    ∃ f' r', laws_markWarp.f k n f r s = some (s + 3 * f.length + r.length, f', r') ∧ f'.length = f.length ∧ (∀ j : Nat, j < f.length → rd_T82 f' j = ⟨s + 3 * j, s + 3 * j + 1, s + 3 * j + 2⟩) ∧ (laws_markIntS.f k r (s + 3 * f.length) = some (s + 3 * f.length + r.length, r')) := by
  obtain ⟨y, h1, h2, h3⟩ := markFrameS_eq (k := k) (l := f) (s := s) hs (by omega) hk
  obtain ⟨z, h4, _⟩ := markIntS_eq (k := k) (l := r) (s := s + 3 * f.length) (by omega) (by omega) hk2
  refine ⟨y, z, ?_, h2, h3, h4⟩
  unfold laws_markWarp.f
  rw [h1]; simp only [Option.bind_some]; rw [h4]; rfl
theorem getD_setI {α : Type} {x : List α} {n : Nat} (u z : α) (h : n < x.length) : (x.set n u).getD n z = u := by
  rw [List.getD_eq_getElem?_getD, List.getElem?_set_self h]; rfl
theorem markInsS_l0 (s : Int) (n : Nat) (hs : 0 ≤ s) (hb : s + 4 * n < 9223372036854775800) : ∀ (d k : Nat) (x : List S43) (i : Int), 0 ≤ i → (n : Int) - i = d → d < k → x.length = n →
    ∃ y, laws_markInsS.l0 k x (s + 4 * i) i = some (s + 4 * n, y) := by
  intro d
  induction d with
  | zero =>
    intro k x i h0 hd hk hx
    obtain ⟨k, rfl⟩ : ∃ q, k = q + 1 := ⟨k - 1, by omega⟩
    simp only [laws_markInsS.l0]
    rw [if_neg (by omega)]
    exact ⟨x, by rw [show s + 4 * i = s + 4 * n by omega]⟩
  | succ d ih =>
    intro k x i h0 hd hk hx
    obtain ⟨k, rfl⟩ : ∃ q, k = q + 1 := ⟨k - 1, by omega⟩
    simp only [laws_markInsS.l0, Option.bind_some]
    have hi : i.toNat < x.length := by omega
    rw [if_pos (by omega), if_pos h0, w64 (x := s + 4 * i + 1) (by omega) (by omega), w64 (x := s + 4 * i + 1 + 1) (by omega) (by omega), w64 (x := s + 4 * i + 1 + 1 + 1) (by omega) (by omega), w64 (x := s + 4 * i + 1 + 1 + 1 + 1) (by omega) (by omega), w64 (x := i + 1) (by omega) (by omega), show s + 4 * i + 1 + 1 + 1 + 1 = s + 4 * (i + 1) by omega]
    exact ih k _ (i + 1) (by omega) (by omega) (by omega) (by simpa using hx)
theorem markInsS_eq {k : Nat} {l : List S43} {s : Int} (hs : 0 ≤ s) (hb : s + 4 * l.length < 9223372036854775800) (hk : l.length < k) :
    ∃ y, laws_markInsS.f k l s = some (s + 4 * l.length, y) := by
  have := markInsS_l0 s l.length hs hb l.length k l 0 (by omega) (by omega) hk rfl
  simpa [laws_markInsS.f] using this
theorem heldFrameS_l0 (s : Int) (n : Nat) (y : List S82) (hs : 0 ≤ s) (hb : s + 3 * n < 9223372036854775800) (hy : y.length = n) (hr : ∀ j : Nat, j < n → rd_T82 y j = ⟨s + 3 * j, s + 3 * j + 1, s + 3 * j + 2⟩) : ∀ (d k : Nat) (i : Int), 0 ≤ i → (n : Int) - i = d → d < k →
    laws_heldFrameS.l0 k y (s + 3 * i) i = some (s + 3 * n) := by
  intro d
  induction d with
  | zero =>
    intro k i h0 hd hk
    obtain ⟨k, rfl⟩ : ∃ q, k = q + 1 := ⟨k - 1, by omega⟩
    simp only [laws_heldFrameS.l0]
    rw [if_neg (by omega), show s + 3 * i = s + 3 * n by omega]
  | succ d ih =>
    intro k i h0 hd hk
    obtain ⟨k, rfl⟩ : ∃ q, k = q + 1 := ⟨k - 1, by omega⟩
    have := hr i.toNat (by omega)
    rw [show ((i.toNat : Nat) : Int) = i by omega] at this
    simp only [laws_heldFrameS.l0, this]
    rw [if_pos (by omega), if_pos h0, if_pos trivial, w64 (x := s + 3 * i + 1) (by omega) (by omega), w64 (x := s + 3 * i + 1 + 1) (by omega) (by omega), w64 (x := s + 3 * i + 1 + 1 + 1) (by omega) (by omega), w64 (x := i + 1) (by omega) (by omega), show s + 3 * i + 1 + 1 + 1 = s + 3 * (i + 1) by omega, if_pos rfl, if_pos (by omega)]
    exact ih k (i + 1) (by omega) (by omega) (by omega)
theorem markHeldWarp {k : Nat} (n : Int) {f : List S82} {r : List Int} (hb : f.length + r.length ≤ 3000000) (hk : f.length < k) (hk2 : r.length < k) :
    ∃ f' r', laws_markWarp.f k n f r 1 = some ((1 : Int) + 3 * f.length + r.length, f', r') ∧ ∀ q, f.length < q → r.length < q → laws_heldWarp.f q n f' r' 1 = some ((1 : Int) + 3 * f.length + r.length) := by
  obtain ⟨y, h1, h2, h3⟩ := markFrameS_eq (k := k) (l := f) (s := 1) (by omega) (by omega) hk
  obtain ⟨z, h4, h5⟩ := markIntS_eq (k := k) (l := r) (s := 1 + 3 * f.length) (by omega) (by omega) hk2
  refine ⟨y, z, ?_, fun q hq hq2 => ?_⟩
  · unfold laws_markWarp.f
    rw [h1]; simp only [Option.bind_some]; rw [h4]; rfl
  · have := heldFrameS_l0 1 f.length y (by omega) (by omega) h2 h3 f.length q 0 (by omega) (by omega) hq
    rw [show (1 : Int) + 3 * 0 = 1 by omega] at this
    unfold laws_heldWarp.f laws_heldFrameS.f
    rw [this]; simp only [Option.bind_some]
    rw [if_neg (by omega), h5 q hq2]; simp only [Option.bind_some]
    rw [if_neg (by omega)]

def warp0 (l : List S43) (a : Int) : Int × List S82 × List Int × Bool := if (programOk l && decide (0 ≤ a ∧ a ≤ 2)) = true then (a, (if l.length = 0 then [] else [⟨0, (l.length : Int), 255⟩]), List.replicate 32 0, true) else (0, [], [], false)
theorem warp0_len (l : List S43) (a : Int) : (warp0 l a).2.1.length ≤ 1 ∧ (warp0 l a).2.2.1.length ≤ 32 := by
  unfold warp0
  split
  · constructor
    · show (if l.length = 0 then [] else [_]).length ≤ 1
      split <;> simp
    · simp
  · simp
theorem impl_warpNew_eq (l : List S43) (a : Int) : impl_WarpNew.f l a = some (warp0 l a) := by
  unfold impl_WarpNew.f impl_isWarpNumber.f impl_newWarp.f warp0
  simp only [impl_programOk_eq, within_some, Option.bind_some]
  cases programOk l
  · rfl
  cases decide (0 ≤ a ∧ a ≤ 2)
  · rfl
  rw [if_pos rfl, if_pos rfl, if_pos (by omega : 32 ≤ 35184372088832), if_pos (by decide : (true && true) = true)]
  by_cases h : l.length = 0
  · rw [if_neg (by omega), if_pos h]; rfl
  · rw [if_pos (by omega), if_neg h]; rfl
theorem spec_warpNew_eq {k : Nat} {l : List S43} (a : Int) (hl : l.length ≤ 1048576) (hk : l.length + 2 < k) : spec_WarpNew.f k l a = some (warp0 l a) := by
  obtain ⟨k, rfl⟩ : ∃ q, k = q + 1 := ⟨k - 1, by omega⟩
  unfold spec_WarpNew.f warp0
  simp only [spec_programOk_eq hl hk, in_some, Option.bind_some, spec_WarpNew.j0, if_true]
  cases programOk l
  · rfl
  cases decide (0 ≤ a ∧ a ≤ 2)
  · rfl
  rw [if_pos rfl, if_neg (by decide), if_pos (by omega : 32 ≤ 35184372088832), if_pos (by decide : (true && true) = true)]
  by_cases h : l.length = 0
  · rw [if_neg (by omega), if_pos h]
  · rw [if_pos (by omega), if_neg h]
theorem FnExactWarpNew : laws_FnExactWarpNew.Pure := by
  intro l a hl _
  unfold maxLen at hl
  by_cases h : left 1048576 l.length < 0
  · exact ⟨0, by unfold laws_FnExactWarpNew.f; rw [szInsS_eq l (by omega) (by omega) (by omega)]; simp only [Option.bind_some]; rw [if_pos h]⟩
  have h' : left 1048576 l.length = 1048576 - (l.length : Int) ∧ l.length ≤ 1048576 := by
    unfold left at h ⊢
    split at h
    · omega
    · rename_i q; rw [if_neg q]; omega
  have hm : (l.map cvI).length = l.length := List.length_map ..
  have hw := warp0_len (l.map cvI) a
  obtain ⟨f1, r1, e1, e2⟩ := markHeldWarp (k := l.length + 100 + 1) (warp0 (l.map cvI) a).1 (f := (warp0 (l.map cvI) a).2.1) (r := (warp0 (l.map cvI) a).2.2.1) (by omega) (by omega) (by omega)
  obtain ⟨y, hy⟩ := markInsS_eq (k := l.length + 100 + 2) (l := l.map cvI) (s := 1) (by omega) (by omega) (by omega)
  refine ⟨l.length + 100 + 1 + 1 + 1, ?_⟩
  unfold laws_FnExactWarpNew.f
  rw [szInsS_eq l (by omega) (by omega) (by omega)]; simp only [Option.bind_some]
  rw [if_neg h]
  simp only [toInsS_eq (k := l.length + 100 + 1 + 1 + 1) h'.2 (by omega), toInsS_eq (k := l.length + 100 + 1 + 1) h'.2 (by omega), toInsS_eq (k := l.length + 100 + 1) h'.2 (by omega), spec_warpNew_eq (k := l.length + 100 + 1 + 1 + 1) (l := l.map cvI) a (by omega) (by omega), impl_warpNew_eq, eqWarp_self (k := l.length + 100 + 1 + 1 + 1) (n := (warp0 (l.map cvI) a).1) (f := (warp0 (l.map cvI) a).2.1) (r := (warp0 (l.map cvI) a).2.2.1) (by omega) (by omega) (by omega) (by omega), Option.bind_some, if_true, laws_FnExactWarpNew.j0, laws_FnExactWarpNew.j1, laws_FnExactWarpNew.j2, bne_self_eq_false, Bool.false_eq_true, if_false]
  simp only [eqInsS_self (k := l.length + 100 + 1 + 1) (a := l.map cvI) (by omega) (by omega), hy, eqWarp_self (k := l.length + 100 + 1 + 1) (n := (warp0 (l.map cvI) a).1) (f := (warp0 (l.map cvI) a).2.1) (r := (warp0 (l.map cvI) a).2.2.1) (by omega) (by omega) (by omega) (by omega), eqWarp_self (k := l.length + 100 + 1) (n := (warp0 (l.map cvI) a).1) (f := (warp0 (l.map cvI) a).2.1) (r := (warp0 (l.map cvI) a).2.2.1) (by omega) (by omega) (by omega) (by omega), e1, e2 (l.length + 100 + 1) (by omega) (by omega), e2 (l.length + 100) (by omega) (by omega), Option.bind_some, if_true]
  rw [if_neg (by omega), if_neg (by omega), if_neg (by omega)]

end Go.Proofs.Ytdhifoacbpjpoaa.Pure
