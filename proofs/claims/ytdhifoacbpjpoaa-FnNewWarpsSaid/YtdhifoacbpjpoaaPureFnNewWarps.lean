/-
  A new warp over a drawn program is a good one: its lanes are new lanes, it has ended where the program is empty, and else all its lanes are active.
  No condition.
-/
import Derived.Test.YtdhifoacbpjpoaaPFnNewWarpsx6
namespace Go.Proofs.Ytdhifoacbpjpoaa.Pure
open Go.RowKit Go.Proofs.Ytdhifoacbpjpoaa.PFnNewWarps Go.Proofs.YtdhifoacbpjpoaaW.PrintWords Go.Proofs.YtdhifoacbpjpoaaW.PrintLast Go.Proofs.YtdhifoacbpjpoaaW.PrintMore
set_option linter.unusedVariables false
set_option linter.unusedSimpArgs false

theorem w64 {x : Int} (h0 : -9223372036854775808 ≤ x) (h1 : x < 9223372036854775808) : wrap64 x = x := by unfold wrap64; omega
theorem drop_rd {l : List Int} {i : Int} (h0 : 0 ≤ i) (h1 : i < (l.length : Int)) : l.drop i.toNat = rd l i :: l.drop (i + 1).toNat := by
  have hi : i.toNat < l.length := by omega
  rw [show (i + 1).toNat = i.toNat + 1 by omega, List.drop_eq_getElem_cons hi]
  congr 1
  unfold rd
  rw [List.getD_eq_getElem?_getD, List.getElem?_eq_getElem hi]; rfl
theorem rd_mem {l : List Int} {i : Int} (h0 : 0 ≤ i) (h1 : i < (l.length : Int)) : rd l i ∈ l := by
  have hi : i.toNat < l.length := by omega
  unfold rd
  rw [List.getD_eq_getElem?_getD, List.getElem?_eq_getElem hi]
  exact List.getElem_mem hi
theorem take_set_succ {α : Type} {l x : List α} {i : Nat} (v : α) (hl : i < l.length) (hx : i < x.length) (h : x.take i = l.take i) (hv : l[i]'hl = v) : (x.set i v).take (i + 1) = l.take (i + 1) := by
  rw [List.take_succ_eq_append_getElem (by simpa using hx), List.take_succ_eq_append_getElem hl, List.take_set_of_le (Nat.le_refl i), h]
  simp [hv]
theorem rd_get {l : List Int} {i : Int} (h0 : 0 ≤ i) (h1 : i.toNat < l.length) : l[i.toNat]'h1 = rd l i := by
  unfold rd
  rw [List.getD_eq_getElem?_getD, List.getElem?_eq_getElem h1]; rfl
theorem need {p : Prop} (h : p) : p := h
theorem within_some (x a b : Int) : impl_within.f x a b = some (decide (a ≤ x ∧ x ≤ b)) := by
  unfold impl_within.f
  by_cases h : a ≤ x
  · rw [if_pos h]; simp [h]
  · rw [if_neg h]; simp [h]
def isMaskB (m : Int) : Bool := decide (0 ≤ m ∧ m ≤ 255)
theorem impl_isMask_eq (m : Int) : impl_IsMask.f m = some (isMaskB m) := by
  unfold impl_IsMask.f isMaskB
  rw [within_some]; rfl
theorem drop_getD {α : Type} {l : List α} {i : Int} (z : α) (h0 : 0 ≤ i) (h1 : i < (l.length : Int)) : l.drop i.toNat = l.getD i.toNat z :: l.drop (i + 1).toNat := by
  have hi : i.toNat < l.length := by omega
  rw [show (i + 1).toNat = i.toNat + 1 by omega, List.drop_eq_getElem_cons hi, List.getD_eq_getElem?_getD, List.getElem?_eq_getElem hi]; rfl
theorem getD_get {α : Type} {l : List α} {n : Nat} (z : α) (h : n < l.length) : l.getD n z = l[n]'h := by
  rw [List.getD_eq_getElem?_getD, List.getElem?_eq_getElem h]; rfl
theorem getD_map {α β : Type} {l : List α} {n : Nat} (g : α → β) (z : α) (z2 : β) (h : n < l.length) : (l.map g).getD n z2 = g (l.getD n z) := by
  rw [getD_get z h, getD_get z2 (by simpa using h), List.getElem_map]
def left (a : Int) (n : Nat) : Int := if a - n < 0 then -1 else a - n
def fldR (x : Int) : Bool := decide (0 ≤ x ∧ x ≤ 3)
def fldW (x : Int) : Bool := decide (0 ≤ x ∧ x ≤ 65535)
def fldT (n x : Int) : Bool := decide (0 ≤ x ∧ x ≤ n)
def fldB (n ch x : Int) : Bool := if ch = 82 then fldR x else if ch = 87 then fldW x else if ch = 84 then fldT n x else x == 0
def insB (n a b c d : Int) : Bool := if a = 0 ∨ a = 12 ∨ a = 16 then b == 0 && (c == 0 && d == 0) else if a = 1 then fldR b && (fldW c && d == 0) else if a = 2 ∨ a = 13 ∨ a = 14 ∨ a = 15 then fldR b && (fldR c && d == 0) else if a = 8 then fldR b && (c == 0 && d == 0) else if a = 10 then fldR b && (fldT n c && d == 0) else if a = 11 then b == 0 && (fldT n c && d == 0) else if 3 ≤ a ∧ a ≤ 9 then fldR b && (fldR c && fldR d) else false
theorem isField_eq (ch x n : Int) : impl_isField.f ch x n = some (fldB n ch x) := by
  unfold impl_isField.f impl_isReg.f impl_IsWord.f fldB
  simp only [within_some, Option.bind_some]
  split
  · rfl
  · split
    · rfl
    · split <;> rfl
theorem str3_ne (p q r : UInt8) : (⟨#[p, q, r]⟩ : ByteArray).toList ≠ [] := by
  unfold ByteArray.toList
  unfold ByteArray.toList.loop
  rw [if_pos (by show 0 < 3; decide)]
  unfold ByteArray.toList.loop
  rw [if_pos (by show 1 < 3; decide)]
  unfold ByteArray.toList.loop
  rw [if_pos (by show 2 < 3; decide)]
  unfold ByteArray.toList.loop
  rw [if_neg (by show ¬ 3 < 3; decide)]
  simp
theorem str0_eq : (⟨#[]⟩ : ByteArray).toList = [] := by
  unfold ByteArray.toList
  unfold ByteArray.toList.loop
  rw [if_neg (by show ¬ 0 < 0; decide)]; rfl
theorem insOk_str (p q r : UInt8) (a b c d n : Int) (h : impl_formOf.f a = some (⟨#[p, q, r]⟩ : ByteArray)) : impl_InsOk.f a b c d n = some (decide (0 ≤ n ∧ n ≤ 32) && (fldB n p.toNat b && (fldB n q.toNat c && fldB n r.toNat d))) := by
  unfold impl_InsOk.f
  rw [h]; simp only [Option.bind_some, within_some, isField_eq]
  rw [if_neg (str3_ne p q r)]
  have e0 : bt (⟨#[p, q, r]⟩ : ByteArray) 0 = p.toNat := rfl
  have e1 : bt (⟨#[p, q, r]⟩ : ByteArray) 1 = q.toNat := rfl
  have e2 : bt (⟨#[p, q, r]⟩ : ByteArray) 2 = r.toNat := rfl
  have es : ((⟨#[p, q, r]⟩ : ByteArray).size : Int) = 3 := rfl
  rw [e0, e1, e2, es]
  cases decide (0 ≤ n ∧ n ≤ 32) <;> cases fldB n p.toNat b <;> cases fldB n q.toNat c <;> cases fldB n r.toNat d <;> rfl
theorem insOk_none (a b c d n : Int) (h : ¬ (0 ≤ a ∧ a ≤ 16)) : impl_InsOk.f a b c d n = some false := by
  unfold impl_InsOk.f impl_formOf.f
  rw [within_some]; simp only [Option.bind_some]
  rw [if_neg (by simpa using h)]; simp only [Option.bind_some]
  rw [if_pos str0_eq]
theorem impl_insOk_eq (a b c d n : Int) : impl_InsOk.f a b c d n = some (decide (0 ≤ n ∧ n ≤ 32) && insB n a b c d) := by
  by_cases h : 0 ≤ a ∧ a ≤ 16
  · rcases (by omega : a = 0 ∨ a = 1 ∨ a = 2 ∨ a = 3 ∨ a = 4 ∨ a = 5 ∨ a = 6 ∨ a = 7 ∨ a = 8 ∨ a = 9 ∨ a = 10 ∨ a = 11 ∨ a = 12 ∨ a = 13 ∨ a = 14 ∨ a = 15 ∨ a = 16) with e | e | e | e | e | e | e | e | e | e | e | e | e | e | e | e | e <;> subst e <;> (first | (rw [insOk_str 45 45 45 _ b c d n rfl]; rfl) | (rw [insOk_str 82 87 45 _ b c d n rfl]; rfl) | (rw [insOk_str 82 82 45 _ b c d n rfl]; rfl) | (rw [insOk_str 82 82 82 _ b c d n rfl]; rfl) | (rw [insOk_str 82 45 45 _ b c d n rfl]; rfl) | (rw [insOk_str 82 84 45 _ b c d n rfl]; rfl) | (rw [insOk_str 45 84 45 _ b c d n rfl]; rfl))
  · rw [insOk_none a b c d n h]
    have : insB n a b c d = false := by
      unfold insB
      rw [if_neg (by omega), if_neg (by omega), if_neg (by omega), if_neg (by omega), if_neg (by omega), if_neg (by omega), if_neg (by omega)]
    rw [this, Bool.and_false]
def insOk (n : Int) (x : S43) : Bool := decide (0 ≤ n ∧ n ≤ 32) && insB n x.f0 x.f1 x.f2 x.f3
def programOk (l : List S43) : Bool := decide (l.length ≤ 32) && l.all (insOk l.length)
theorem impl_programOk_eq (l : List S43) : impl_ProgramOk.f l = some (programOk l) := by
  unfold impl_ProgramOk.f programOk
  have hi : ∀ x : S43, insOkAt (l.length : Int) x = some (insOk l.length x) := fun x => impl_insOk_eq _ _ _ _ _
  have e : (fun x => insOkAt (l.length : Int) x == some true) = insOk (l.length : Int) := by
    funext x; rw [hi]; cases insOk (l.length : Int) x <;> rfl
  rw [if_pos, e]
  rw [List.all_eq_true]
  intro x _
  rw [hi]; rfl
def actMask (f : List S82) : Int := if (f.length : Int) = 0 then 0 else (rd_T82 f ((f.length : Int) - 1)).f2
theorem impl_activeMask_eq (n : Int) {f : List S82} (r : List Int) (hf : f.length ≤ 1048576) : impl_ActiveMask.f n f r = some (actMask f) := by
  unfold impl_ActiveMask.f actMask
  by_cases h : (f.length : Int) = 0
  · rw [if_pos h, if_pos h]
  · rw [w64 (by omega) (by omega), if_neg h, if_neg h, if_pos (by omega), if_pos (by omega)]
theorem rd_laneOf {l : List Int} {x a : Int} (hl : l.length = 32) (hx : 0 ≤ x ∧ x ≤ 7) (ha : 0 ≤ a ∧ a ≤ 3) : rd (laneOf l x) a = rd l (x * 4 + a) := by
  unfold rd laneOf
  rw [List.getD_eq_getElem?_getD, List.getD_eq_getElem?_getD, List.getElem?_drop, List.getElem?_take_of_lt (by omega), show (x * 4).toNat + a.toNat = (x * 4 + a).toNat by omega]
def frOk (n : Int) (x : S82) : Bool := decide (0 ≤ x.f0 ∧ x.f0 ≤ n) && (decide (0 ≤ x.f1 ∧ x.f1 ≤ n) && (isMaskB x.f2 && !(x.f2 == 0)))
def botB (n : Int) (f : List S82) : Bool := (rd_T82 f 0).f1 == n && (rd_T82 f 0).f2 == 255
def topB (n : Int) (f : List S82) : Bool := !((rd_T82 f ((f.length : Int) - 1)).f0 == (rd_T82 f ((f.length : Int) - 1)).f1) && !((rd_T82 f ((f.length : Int) - 1)).f0 == n)
def framesOk (n : Int) (f : List S82) : Bool := f.all (frOk n) && (decide (f.length = 0) || (decide (f.length ≤ 24) && (topB n f && botB n f)))
theorem impl_areFrames_l0 (f : List S82) (n : Int) (hf : f.length ≤ 1048576) : ∀ (d k : Nat) (i : Int), 0 ≤ i → (f.length : Int) - i = d → d < k →
    impl_areFrames.l0 k f n f (f.length : Int) i = some ((f.drop i.toNat).all (frOk n) && (decide (f.length = 0) || (decide (f.length ≤ 24) && (topB n f && botB n f)))) := by
  intro d
  induction d with
  | zero =>
    intro k i h0 hd hk
    obtain ⟨k, rfl⟩ : ∃ q, k = q + 1 := ⟨k - 1, by omega⟩
    simp only [impl_areFrames.l0]
    rw [if_neg (by omega), List.drop_of_length_le (by omega), List.all_nil, Bool.true_and]
    by_cases he : f.length = 0
    · rw [if_pos (by omega), decide_eq_true he]; rfl
    · rw [if_neg (by omega), w64 (by omega) (by omega), if_pos (by omega), if_pos (by omega), decide_eq_false he, Bool.false_or]
      by_cases h24 : f.length ≤ 24
      · rw [if_pos (by omega), decide_eq_true h24, Bool.true_and]
        unfold topB botB
        by_cases e1 : (rd_T82 f ((f.length : Int) - 1)).f0 = (rd_T82 f ((f.length : Int) - 1)).f1
        · rw [if_pos e1]; simp [e1]
        · rw [if_neg e1]
          by_cases e2 : (rd_T82 f ((f.length : Int) - 1)).f0 = n
          · rw [if_pos e2]; simp [e2]
          · rw [if_neg e2, if_pos (by omega)]
            by_cases e3 : (rd_T82 f 0).f1 = n
            · rw [if_pos e3]; simp [e1, e2, e3]
            · rw [if_neg e3]; simp [e3]
      · rw [if_neg (by omega), decide_eq_false h24]; rfl
  | succ d ih =>
    intro k i h0 hd hk
    obtain ⟨k, rfl⟩ : ∃ q, k = q + 1 := ⟨k - 1, by omega⟩
    simp only [impl_areFrames.l0, within_some, impl_isMask_eq, Option.bind_some]
    rw [if_pos (by omega), if_pos h0, if_pos (by omega), w64 (by omega) (by omega), drop_getD z82 h0 (by omega), ih k (i + 1) (by omega) (by omega) (by omega), List.all_cons]
    change _ = some ((frOk n (rd_T82 f i) && _) && _)
    unfold frOk
    cases decide (0 ≤ (rd_T82 f i).f0 ∧ (rd_T82 f i).f0 ≤ n)
    · rfl
    cases decide (0 ≤ (rd_T82 f i).f1 ∧ (rd_T82 f i).f1 ≤ n)
    · rfl
    cases isMaskB (rd_T82 f i).f2
    · rfl
    by_cases hz : (rd_T82 f i).f2 = 0
    · rw [if_pos rfl, if_pos rfl, if_pos rfl, if_pos hz, hz]; rfl
    · have hz2 : ((rd_T82 f i).f2 == 0) = false := by simpa using hz
      rw [if_pos rfl, if_pos rfl, if_pos rfl, if_neg hz, hz2]; rfl
def warpOk (l : List S43) (m : Int) (f : List S82) (r : List Int) : Bool := programOk l && (decide (0 ≤ m ∧ m ≤ 2) && (decide (r.length = 32) && (r.all isWordB && framesOk l.length f)))
theorem impl_warpOk_eq {k : Nat} (l : List S43) (m : Int) {f : List S82} (r : List Int) (hf : f.length ≤ 1048576) (hk : f.length < k) : impl_WarpOk.f k l m f r = some (warpOk l m f r) := by
  unfold impl_WarpOk.f impl_isWarpOf.f impl_isWarpNumber.f impl_areAllRegs.f impl_AreWords.f impl_areFrames.f warpOk framesOk
  simp only [impl_programOk_eq, within_some, Option.bind_some, impl_areFrames_l0 f _ hf f.length k 0 (by omega) (by omega) hk, Int.toNat_zero, List.drop_zero]
  have e : ((r.length : Int) == 32) = decide (r.length = 32) := by
    by_cases h : r.length = 32
    · rw [decide_eq_true h, h]; rfl
    · rw [decide_eq_false h]; simp; omega
  rw [e]
  cases programOk l <;> cases decide (0 ≤ m ∧ m ≤ 2) <;> cases decide (r.length = 32) <;> cases r.all isWordB <;> rfl
theorem and255 (n : Int) : Go.bits .and .i64 n 255 = n % 256 := by
  unfold Go.bits
  have h : (BitVec.ofInt 64 n &&& BitVec.ofInt 64 255).toNat = ((n % 256).toNat) := by
    rw [BitVec.toNat_and, show (BitVec.ofInt 64 255).toNat = 2 ^ 8 - 1 by decide, Nat.and_two_pow_sub_one_eq_mod, BitVec.toNat_ofInt]
    omega
  show IntKind.i64.wrap (((BitVec.ofInt 64 n &&& BitVec.ofInt 64 255).toNat : Nat) : Int) = _
  rw [h]
  unfold IntKind.wrap
  have e : ((2 : Int) ^ IntKind.i64.bits) = 18446744073709551616 := by decide
  have e2 : ((2 : Int) ^ (IntKind.i64.bits - 1)) = 9223372036854775808 := by decide
  rw [e, e2]
  have h2 : (((n % 256).toNat : Nat) : Int) % 18446744073709551616 = n % 256 := by omega
  simp only [h2]
  rw [if_neg (by simp; omega)]
theorem byte_ok {xs : List Int} {p : Int} (s : Int) (hl : xs.length ≤ 1048576) (hp : 0 ≤ p) : ∃ v p' s', spec_l01Byte.f xs p s = some (v, p', s') ∧ 0 ≤ v ∧ v ≤ 255 ∧ 0 ≤ p' := by
  unfold spec_l01Byte.f
  by_cases h : p < (xs.length : Int)
  · rw [if_pos h, if_pos hp, w64 (x := p + 1) (by omega) (by omega)]
    exact ⟨_, _, _, rfl, by rw [and255]; omega, by rw [and255]; omega, by omega⟩
  · rw [if_neg h]
    exact ⟨_, _, _, rfl, by rw [and255]; omega, by rw [and255]; omega, hp⟩
theorem below_ok {xs : List Int} {p : Int} (s n : Int) (hl : xs.length ≤ 1048576) (hp : 0 ≤ p) (hn : 0 < n) : ∃ v p' s', spec_l01Below.f xs p s n = some (v, p', s') ∧ 0 ≤ v ∧ v < n ∧ 0 ≤ p' := by
  unfold spec_l01Below.f
  obtain ⟨v1, p1, s1, e1, a1, b1, c1⟩ := byte_ok s hl hp
  rw [if_neg (by omega), e1]; simp only [Option.bind_some]
  by_cases h : n ≤ 256
  · rw [if_pos h, if_neg (by omega)]
    refine ⟨_, _, _, rfl, ?_, ?_, c1⟩
    · rw [Int.tmod_eq_emod_of_nonneg a1]; exact Int.emod_nonneg _ (by omega)
    · rw [Int.tmod_eq_emod_of_nonneg a1]; exact Int.emod_lt_of_pos _ hn
  · obtain ⟨v2, p2, s2, e2, a2, b2, c2⟩ := byte_ok s1 hl c1
    obtain ⟨v3, p3, s3, e3, a3, b3, c3⟩ := byte_ok s2 hl c2
    obtain ⟨v4, p4, s4, e4, a4, b4, c4⟩ := byte_ok s3 hl c3
    rw [if_neg h, e2]; simp only [Option.bind_some]
    rw [e3]; simp only [Option.bind_some]
    rw [e4]; simp only [Option.bind_some]
    rw [if_neg (by omega), w64 (x := v1 * 16777216) (by omega) (by omega), w64 (x := v2 * 65536) (by omega) (by omega), w64 (x := v3 * 256) (by omega) (by omega), w64 (x := v1 * 16777216 + v2 * 65536) (by omega) (by omega), w64 (x := v1 * 16777216 + v2 * 65536 + v3 * 256) (by omega) (by omega), w64 (x := v1 * 16777216 + v2 * 65536 + v3 * 256 + v4) (by omega) (by omega)]
    refine ⟨_, _, _, rfl, ?_, ?_, c4⟩
    · rw [Int.tmod_eq_emod_of_nonneg (by omega)]; exact Int.emod_nonneg _ (by omega)
    · rw [Int.tmod_eq_emod_of_nonneg (by omega)]; exact Int.emod_lt_of_pos _ hn
theorem new_l0 (l : List Int) (hl : l.length ≤ 1048576) : ∀ (d k : Nat) (s i : Int), 0 ≤ i → (l.length : Int) - i = d → d < k → ∃ s', spec_l01New.l0 k l s i = some (l, 0, s') := by
  intro d
  induction d with
  | zero =>
    intro k s i h0 hd hk
    obtain ⟨k, rfl⟩ : ∃ q, k = q + 1 := ⟨k - 1, by omega⟩
    simp only [spec_l01New.l0]
    rw [if_neg (by omega)]
    exact ⟨_, rfl⟩
  | succ d ih =>
    intro k s i h0 hd hk
    obtain ⟨k, rfl⟩ : ∃ q, k = q + 1 := ⟨k - 1, by omega⟩
    simp only [spec_l01New.l0]
    rw [if_pos (by omega)]
    by_cases h : i < 4000
    · rw [if_pos h, if_pos h0, w64 (x := i + 1) (by omega) (by omega)]
      exact ih k _ (i + 1) (by omega) (by omega) (by omega)
    · rw [if_neg h]; exact ⟨_, rfl⟩
theorem new_ok {k : Nat} {l : List Int} (hl : l.length ≤ 1048576) (hk : l.length < k) : ∃ s', spec_l01New.f k l = some (l, 0, s') := by
  unfold spec_l01New.f
  exact new_l0 l hl l.length k _ 0 (by omega) (by omega) hk
theorem places_l0 {xs : List Int} (hl : xs.length ≤ 1048576) : ∀ (d k : Nat) (y : List Int) (i p s : Int), 0 ≤ i → 12 - i = d → d < k → y.length = i.toNat → (∀ x ∈ y, 0 ≤ x ∧ x < 10000) → 0 ≤ p →
    ∃ z, spec_DrawPlaces.l0 k y i xs p s = some z ∧ z.length = 12 ∧ (∀ x ∈ z, 0 ≤ x ∧ x < 10000) := by
  intro d
  induction d with
  | zero =>
    intro k y i p s h0 hd hk hy hm hp
    obtain ⟨k, rfl⟩ : ∃ q, k = q + 1 := ⟨k - 1, by omega⟩
    simp only [spec_DrawPlaces.l0]
    rw [if_neg (by omega)]
    exact ⟨_, rfl, by omega, hm⟩
  | succ d ih =>
    intro k y i p s h0 hd hk hy hm hp
    obtain ⟨k, rfl⟩ : ∃ q, k = q + 1 := ⟨k - 1, by omega⟩
    simp only [spec_DrawPlaces.l0]
    obtain ⟨v1, p1, s1, e1, a1, b1, c1⟩ := below_ok s 10000 hl hp (by omega)
    rw [if_pos (by omega), e1]; simp only [Option.bind_some]
    rw [if_pos (by omega), w64 (x := i + 1) (by omega) (by omega)]
    refine ih k _ (i + 1) _ _ (by omega) (by omega) (by omega) (by simp; omega) ?_ c1
    intro x hx
    rw [List.mem_append, List.mem_singleton] at hx
    rcases hx with hx | rfl
    · exact hm x hx
    · omega
theorem drawPlaces_ok {k : Nat} {xs : List Int} (hl : xs.length ≤ 1048576) (hk : xs.length + 13 < k) : ∃ z, spec_DrawPlaces.f k xs = some z ∧ z.length = 12 ∧ (∀ x ∈ z, 0 ≤ x ∧ x < 10000) := by
  unfold spec_DrawPlaces.f
  obtain ⟨s, e⟩ := new_ok (k := k) hl (by omega)
  rw [e]; simp only [Option.bind_some]
  exact places_l0 hl 12 k [] 0 0 s (by omega) (by omega) (by omega) rfl (by simp) (by omega)
def P5 (n : Int) (x : S43) : Prop := insB n x.f0 x.f1 x.f2 x.f3 = true
theorem once_ok {xs : List Int} {p : Int} (s n : Int) (hl : xs.length ≤ 1048576) (hp : 0 ≤ p) (hn : 0 < n) : ∃ v p' s', spec_l01Once.f xs p s n = some (v, p', s') ∧ 0 ≤ p' := by
  unfold spec_l01Once.f
  obtain ⟨v1, p1, s1, e1, a1, b1, c1⟩ := below_ok s n hl hp hn
  rw [e1]
  exact ⟨_, _, _, rfl, c1⟩
theorem insB_mono {n m a b c d : Int} (h : n ≤ m) (hi : insB n a b c d = true) : insB m a b c d = true := by
  have ht : fldT n c = true → fldT m c = true := fun q => by unfold fldT at q ⊢; rw [decide_eq_true_eq] at q ⊢; omega
  unfold insB at hi ⊢
  split at hi
  · rename_i q; rw [if_pos q]; exact hi
  · rename_i q; rw [if_neg q]
    split at hi
    · rename_i q; rw [if_pos q]; exact hi
    · rename_i q; rw [if_neg q]
      split at hi
      · rename_i q; rw [if_pos q]; exact hi
      · rename_i q; rw [if_neg q]
        split at hi
        · rename_i q; rw [if_pos q]; exact hi
        · rename_i q; rw [if_neg q]
          split at hi
          · rename_i q; rw [if_pos q]; rw [Bool.and_eq_true, Bool.and_eq_true] at hi ⊢; exact ⟨hi.1, ht hi.2.1, hi.2.2⟩
          · rename_i q; rw [if_neg q]
            split at hi
            · rename_i q; rw [if_pos q]; rw [Bool.and_eq_true, Bool.and_eq_true] at hi ⊢; exact ⟨hi.1, ht hi.2.1, hi.2.2⟩
            · rename_i q; rw [if_neg q]; exact hi
theorem plain_ok {xs : List Int} {p : Int} (s n : Int) (hl : xs.length ≤ 1048576) (hp : 0 ≤ p) : ∃ a b c d p' s', spec_l04Plain.f xs p s = some (a, b, c, d, p', s') ∧ insB n a b c d = true ∧ 0 ≤ p' := by
  have hR : ∀ x : Int, 0 ≤ x → x < 4 → fldR x = true := fun x h0 h1 => decide_eq_true (by omega)
  unfold spec_l04Plain.f
  obtain ⟨v1, p1, s1, e1, a1, b1, c1⟩ := below_ok s 9 hl hp (by omega)
  rw [e1]; simp only [Option.bind_some]
  obtain ⟨v2, p2, s2, e2, a2, b2, c2⟩ := below_ok s1 4 hl c1 (by omega)
  rw [e2]; simp only [Option.bind_some]
  rw [w64 (by omega) (by omega)]
  by_cases h1 : 1 + v1 = 1
  · obtain ⟨v3, p3, s3, e3, a3, b3, c3⟩ := below_ok s2 6 hl c2 (by omega)
    rw [if_pos h1, e3]
    refine ⟨_, _, _, _, _, _, rfl, ?_, c3⟩
    have : fldW v3 = true := decide_eq_true (by omega)
    rw [h1]; simp [insB, hR v2 a2 b2, this]
  rw [if_neg h1]
  by_cases h8 : 1 + v1 = 8
  · rw [if_pos h8]
    refine ⟨_, _, _, _, _, _, rfl, ?_, c2⟩
    rw [h8]; simp [insB, hR v2 a2 b2]
  rw [if_neg h8]
  by_cases h2 : 1 + v1 = 2
  · obtain ⟨v3, p3, s3, e3, a3, b3, c3⟩ := below_ok s2 4 hl c2 (by omega)
    rw [if_pos h2, e3]
    refine ⟨_, _, _, _, _, _, rfl, ?_, c3⟩
    rw [h2]; simp [insB, hR v2 a2 b2, hR v3 a3 b3]
  rw [if_neg h2]
  obtain ⟨v3, p3, s3, e3, a3, b3, c3⟩ := below_ok s2 4 hl c2 (by omega)
  rw [e3]; simp only [Option.bind_some]
  obtain ⟨v4, p4, s4, e4, a4, b4, c4⟩ := below_ok s3 4 hl c3 (by omega)
  rw [e4]
  refine ⟨_, _, _, _, _, _, rfl, ?_, c4⟩
  unfold insB
  rw [if_neg (by omega), if_neg (by omega), if_neg (by omega), if_neg (by omega), if_neg (by omega), if_neg (by omega), if_pos (by omega), hR v2 a2 b2, hR v3 a3 b3, hR v4 a4 b4]; rfl
structure Grown (d : Nat) (l l' : List S43) : Prop where
  ge : l.length ≤ l'.length
  le : l'.length ≤ max l.length (20 + d)
  pre : ∀ i : Nat, i < l.length → l'.getD i z43 = l.getD i z43
  ok : (∀ x ∈ l, P5 l.length x) → ∀ x ∈ l', P5 l'.length x
theorem Grown.refl (d : Nat) (l : List S43) : Grown d l l := ⟨by omega, by omega, fun _ _ => rfl, fun h => h⟩
theorem Grown.trans {d : Nat} {l m n : List S43} (h : Grown d l m) (h2 : Grown d m n) : Grown d l n :=
  ⟨by have := h.ge; have := h2.ge; omega, by have := h.le; have := h2.le; omega, fun i hi => by rw [h2.pre i (by have := h.ge; omega), h.pre i hi], fun q => h2.ok (h.ok q)⟩
theorem Grown.up {d e : Nat} {l m : List S43} (h : Grown d l m) (hd : d ≤ e) : Grown e l m := ⟨h.ge, by have := h.le; omega, h.pre, h.ok⟩
theorem P5_up {n m : Int} {x : S43} (h : n ≤ m) (hx : P5 n x) : P5 m x := insB_mono h hx
theorem Grown.app {d : Nat} {l : List S43} {r : List S43} (hl : l.length + r.length ≤ 20 + d) (hr : ∀ x ∈ r, P5 (l.length + r.length : Nat) x) : Grown d l (l ++ r) := by
  refine ⟨by simp, by simp; omega, fun i hi => ?_, fun h x hx => ?_⟩
  · rw [List.getD_eq_getElem?_getD, List.getD_eq_getElem?_getD, List.getElem?_append_left hi]
  · rw [List.length_append]
    rcases List.mem_append.1 hx with q | q
    · exact P5_up (by omega) (h x q)
    · exact hr x q
theorem Grown.set {d : Nat} {l m : List S43} {i : Nat} {x : S43} (h : Grown d l m) (hi : l.length ≤ i) (hx : P5 m.length x) : Grown d l (m.set i x) := by
  refine ⟨by simpa using h.ge, by simpa using h.le, fun j hj => ?_, fun q y hy => ?_⟩
  · rw [← h.pre j hj, List.getD_eq_getElem?_getD, List.getD_eq_getElem?_getD, List.getElem?_set_ne (by omega)]
  · rw [List.length_set]
    rcases List.mem_or_eq_of_mem_set hy with q2 | rfl
    · exact h.ok q y q2
    · exact hx
theorem P5_branch {n r t : Int} (hr : 0 ≤ r ∧ r < 4) (ht : 0 ≤ t ∧ t ≤ n) : P5 n (⟨10, r, t, 0⟩ : S43) := by
  have h1 : fldR r = true := decide_eq_true (by omega)
  have h2 : fldT n t = true := decide_eq_true (by omega)
  simp [P5, insB, h1, h2]
theorem P5_jump {n t : Int} (ht : 0 ≤ t ∧ t ≤ n) : P5 n (⟨11, 0, t, 0⟩ : S43) := by
  have h2 : fldT n t = true := decide_eq_true (by omega)
  simp [P5, insB, h2]
def BodyOk (xs : List Int) (d : Nat) : Prop := ∀ (k : Nat) (l : List S43) (p s : Int), 20 * d + 10 < k → l.length ≤ 30 → 0 ≤ p → ∃ l' p' s', spec_l05Body.f k xs p s l d = some (l', p', s') ∧ 0 ≤ p' ∧ Grown d l l'
theorem body_l0 {xs : List Int} (hl : xs.length ≤ 1048576) (d : Nat) (hd2 : d ≤ 2) (hrec : ∀ e, d = e + 1 → BodyOk xs e) : ∀ (n k : Nat) (l : List S43) (p s : Int), n ≤ 3 → 20 * d + 2 * n + 1 < k → l.length ≤ 30 → 0 ≤ p →
    ∃ l' p' s', spec_l05Body.l0 k l d n xs p s = some (l', p', s') ∧ 0 ≤ p' ∧ Grown d l l' := by
  intro n
  induction n with
  | zero =>
    intro k l p s hn hk hl2 hp
    obtain ⟨k, rfl⟩ : ∃ q, k = q + 1 + 1 := ⟨k - 2, by omega⟩
    simp only [spec_l05Body.l0, spec_l05Body.j1]
    rw [if_neg (by omega), if_neg (by decide)]
    exact ⟨_, _, _, rfl, hp, Grown.refl d l⟩
  | succ n ih =>
    intro k l p s hn hk hl2 hp
    obtain ⟨k, rfl⟩ : ∃ q, k = q + 1 + 1 := ⟨k - 2, by omega⟩
    simp only [spec_l05Body.l0, spec_l05Body.j1]
    rw [if_pos (by omega), w64 (x := ((n + 1 : Nat) : Int) - 1) (by omega) (by omega), show ((n + 1 : Nat) : Int) - 1 = (n : Int) by omega]
    by_cases h20 : (l.length : Int) < 20
    · rw [if_pos (by simpa using h20)]
      obtain ⟨v, p1, s1, e1, a1, b1, c1⟩ := below_ok s 5 hl hp (by omega)
      rw [e1]; simp only [Option.bind_some]
      have next : ∀ (m : List S43) (p s : Int), 0 ≤ p → Grown d l m → ∃ l' p' s', spec_l05Body.l0 k m d n xs p s = some (l', p', s') ∧ 0 ≤ p' ∧ Grown d l l' := fun m p s hp hg => by
        have := hg.le
        obtain ⟨l', p', s', e, hp', hg'⟩ := ih k m p s (by omega) (by omega) (by omega) hp
        exact ⟨l', p', s', e, hp', hg.trans hg'⟩
      by_cases hv0 : v = 0
      · rw [if_pos hv0]
        by_cases hd0 : d = 0
        · rw [if_pos (by omega)]; exact next l p1 s1 c1 (Grown.refl d l)
        rw [if_neg (by omega)]
        obtain ⟨e, rfl⟩ : ∃ e, d = e + 1 := ⟨d - 1, by omega⟩
        have hb := hrec e rfl
        obtain ⟨r, p2, s2, e2, a2, b2, c2⟩ := below_ok s1 4 hl c1 (by omega)
        rw [e2]; simp only [Option.bind_some]
        rw [if_pos (by omega), w64 (x := ((e + 1 : Nat) : Int) - 1) (by omega) (by omega), show ((e + 1 : Nat) : Int) - 1 = (e : Int) by omega]
        have g0 : Grown (e + 1) l (l ++ [⟨10, r, 0, 0⟩]) := Grown.app (by simp; omega) (fun x hx => by
          rw [List.mem_singleton.1 hx]; exact P5_branch ⟨a2, b2⟩ (by simp; omega))
        obtain ⟨m, p3, s3, e3, c3, g1⟩ := hb k (l ++ [⟨10, r, 0, 0⟩]) p2 s2 (by omega) (by simp; omega) c2
        have g1' := g0.trans (g1.up (by omega))
        have hm : (m.getD l.length z43) = ⟨10, r, 0, 0⟩ := by
          rw [g1.pre l.length (by simp), List.getD_eq_getElem?_getD]; simp
        have hml : l.length + 1 ≤ m.length := by have := g1.ge; simpa using this
        have hmu : m.length ≤ 20 + e := by have := g1.le; simp at this; omega
        rw [e3]; simp only [Option.bind_some]
        obtain ⟨w, p4, s4, e4, c4⟩ := once_ok s3 2 hl c3 (by omega)
        rw [e4]; simp only [Option.bind_some]
        cases w
        · rw [if_neg (by decide), if_pos (by omega), if_pos (by omega), if_pos (by simp; omega)]
          have hy : ∀ x : S43, ((m ++ [(⟨11, 0, 0, 0⟩ : S43)]).getD (l.length : Int).toNat x) = (⟨10, r, 0, 0⟩ : S43) := fun x => by
            rw [Int.toNat_natCast, List.getD_eq_getElem?_getD, List.getElem?_append_left (by omega)]
            rw [List.getD_eq_getElem?_getD, List.getElem?_eq_getElem (by omega)] at hm
            rw [List.getElem?_eq_getElem (by omega)]; exact hm
          unfold rd_T43
          simp only [hy]
          have g2 : Grown (e + 1) l ((m ++ [(⟨11, 0, 0, 0⟩ : S43)]).set (l.length : Int).toNat (⟨10, r, ((m ++ [(⟨11, 0, 0, 0⟩ : S43)]).length : Int), 0⟩ : S43)) := by
            refine Grown.set (g1'.trans (Grown.app (by simp; omega) fun x hx => ?_)) (by omega) (P5_branch ⟨a2, b2⟩ (by omega))
            rw [List.mem_singleton.1 hx]; exact P5_jump (by simp; omega)
          obtain ⟨m2, p5, s5, e5, c5, g3⟩ := hb k ((m ++ [(⟨11, 0, 0, 0⟩ : S43)]).set (l.length : Int).toNat (⟨10, r, ((m ++ [(⟨11, 0, 0, 0⟩ : S43)]).length : Int), 0⟩ : S43)) p4 s4 (by omega) (by simp; omega) c4
          rw [e5]; simp only [Option.bind_some]
          have g3l := g3.ge
          simp only [List.length_set, List.length_append, List.length_singleton] at g3l
          rw [if_pos (by omega), if_pos (by omega)]
          have hj : m2.getD (m.length : Int).toNat z43 = ⟨11, 0, 0, 0⟩ := by
            rw [Int.toNat_natCast, g3.pre m.length (by simp), List.getD_eq_getElem?_getD, List.getElem?_set_ne (by omega)]; simp
          simp only [hj]
          exact next _ _ _ c5 (Grown.set (g2.trans (g3.up (by omega))) (by omega) (P5_jump (by omega)))
        · rw [if_pos rfl, if_pos (by omega), if_pos (by omega)]
          unfold rd_T43
          rw [Int.toNat_natCast]
          simp only [hm]
          exact next _ _ _ c4 (g1'.set (by omega) (P5_branch ⟨a2, b2⟩ (by omega)))
      rw [if_neg hv0]
      by_cases hv1 : v = 1
      · rw [if_pos hv1]
        by_cases hd0 : d = 0
        · rw [if_pos (by omega)]; exact next l p1 s1 c1 (Grown.refl d l)
        rw [if_neg (by omega)]
        by_cases h14 : (l.length : Int) > 14
        · rw [if_pos h14]; exact next l p1 s1 c1 (Grown.refl d l)
        rw [if_neg h14, if_pos (by omega), if_pos (by simp <;> omega), if_pos (by simp <;> omega), if_pos (by simp <;> omega), if_pos (by omega), if_pos (by simp <;> omega)]
        have hy : ∀ x : S43, ((l ++ [(⟨8, 3, 0, 0⟩ : S43)] ++ [(⟨10, 3, 0, 0⟩ : S43)] ++ [(⟨3, 0, 0, 1⟩ : S43), (⟨1, 2, 1, 0⟩ : S43), (⟨4, 3, 3, 2⟩ : S43)] ++ [(⟨11, 0, ((l ++ [(⟨8, 3, 0, 0⟩ : S43)]).length : Int), 0⟩ : S43)]).getD (((l ++ [(⟨8, 3, 0, 0⟩ : S43)]).length : Int)).toNat x) = (⟨10, 3, 0, 0⟩ : S43) := fun x => by
          rw [Int.toNat_natCast, List.getD_eq_getElem?_getD, List.append_assoc, List.append_assoc, List.getElem?_append_right (by omega), Nat.sub_self] <;> rfl
        unfold rd_T43
        simp only [hy]
        refine next _ _ _ c1 (Grown.set ?_ (by simp <;> omega) (P5_branch (by omega) (by omega)))
        rw [List.append_assoc, List.append_assoc, List.append_assoc]
        refine Grown.app (by simp; omega) fun x hx => ?_
        simp only [List.cons_append, List.nil_append, List.mem_cons, List.not_mem_nil, or_false] at hx
        rcases hx with rfl | rfl | rfl | rfl | rfl | rfl
        · show insB _ 8 3 0 0 = true; simp [insB]; decide
        · exact P5_branch (by omega) (by simp; omega)
        · show insB _ 3 0 0 1 = true; simp [insB]; decide
        · show insB _ 1 2 1 0 = true; simp [insB]; decide
        · show insB _ 4 3 3 2 = true; simp [insB]; decide
        · exact P5_jump (by simp; omega)
      rw [if_neg hv1]
      obtain ⟨a, b, c, f, p2, s2, e2, hi, c2⟩ := plain_ok s1 ((l.length + 1 : Nat) : Int) hl c1
      rw [e2]; simp only [Option.bind_some]
      rw [if_pos (by omega)]
      refine next _ _ _ c2 (Grown.app (by simp; omega) fun x hx => ?_)
      rw [List.mem_singleton.1 hx]; exact hi
    · rw [if_neg (by simpa using h20)]
      exact ⟨_, _, _, rfl, hp, Grown.refl d l⟩
theorem body_ok {xs : List Int} (hl : xs.length ≤ 1048576) : ∀ d : Nat, d ≤ 2 → BodyOk xs d := by
  intro d
  induction d with
  | zero =>
    intro hd k l p s hk hl2 hp
    obtain ⟨k, rfl⟩ : ∃ q, k = q + 1 := ⟨k - 1, by omega⟩
    simp only [spec_l05Body.f]
    obtain ⟨v, p1, s1, e1, a1, b1, c1⟩ := below_ok s 4 hl hp (by omega)
    rw [e1]; simp only [Option.bind_some]
    obtain ⟨n, rfl⟩ := Int.eq_ofNat_of_zero_le a1
    exact body_l0 hl 0 (by omega) (fun e he => by omega) n k l p1 s1 (by omega) (by omega) hl2 c1
  | succ d ih =>
    intro hd k l p s hk hl2 hp
    obtain ⟨k, rfl⟩ : ∃ q, k = q + 1 := ⟨k - 1, by omega⟩
    simp only [spec_l05Body.f]
    obtain ⟨v, p1, s1, e1, a1, b1, c1⟩ := below_ok s 4 hl hp (by omega)
    rw [e1]; simp only [Option.bind_some]
    obtain ⟨n, rfl⟩ := Int.eq_ofNat_of_zero_le a1
    exact body_l0 hl (d + 1) hd (fun e he => (show d = e by omega) ▸ ih (by omega)) n k l p1 s1 (by omega) (by omega) hl2 c1
theorem drawQuiet_ok {k : Nat} {xs : List Int} (hl : xs.length ≤ 1048576) (hk : xs.length + 60 < k) : ∃ z, spec_DrawQuiet.f k xs = some z ∧ programOk z = true ∧ z.length ≤ 22 := by
  obtain ⟨k, rfl⟩ : ∃ q, k = q + 1 := ⟨k - 1, by omega⟩
  unfold spec_DrawQuiet.f spec_l05Quiet.f
  obtain ⟨s, e⟩ := new_ok (k := k + 1) hl (by omega)
  rw [e]; simp only [Option.bind_some, spec_l05Quiet.j0]
  have fin : ∀ (l : List S43) (p s : Int), 0 ≤ p → l.length ≤ 1 → (∀ x ∈ l, P5 l.length x) → ∃ z, ((spec_l05Body.f k xs p s l 2).bind fun bt208 => ((spec_l01Once.f xs bt208.2.1 bt208.2.2 6).bind fun bt213 => (if bt213.1 = true then (if (bt208.1.length : Int) > 1 then ((spec_l01Below.f xs bt213.2.1 bt213.2.2 (bt208.1.length : Int)).bind fun bt216 => (if 0 ≤ bt216.1 then (if bt216.1 < (bt208.1.length : Int) then (some ((bt208.1.set (bt216.1 : Int).toNat (⟨12, 0, 0, 0⟩ : S43)), bt216.2.1, bt216.2.2)) else (none)) else (none))) else (some (bt208.1, bt213.2.1, bt213.2.2))) else (some (bt208.1, bt213.2.1, bt213.2.2))))) = some z ∧ programOk z.1 = true ∧ z.1.length ≤ 22 := by
    intro l p s hp h1 hP
    obtain ⟨m, p1, s1, e1, c1, g⟩ := body_ok hl 2 (by omega) k l p s (by omega) (by omega) hp
    have e1' : spec_l05Body.f k xs p s l 2 = some (m, p1, s1) := e1
    rw [e1']; simp only [Option.bind_some]
    have hm := g.le
    have hPm := g.ok hP
    have fit : ∀ z : List S43, z.length ≤ 22 → (∀ x ∈ z, P5 z.length x) → programOk z = true := fun z hz h => by
      unfold programOk
      rw [decide_eq_true (by omega), Bool.true_and, List.all_eq_true]
      intro x hx
      unfold insOk
      rw [decide_eq_true (by omega), Bool.true_and]
      exact h x hx
    obtain ⟨w, p2, s2, e2, c2⟩ := once_ok s1 6 hl c1 (by omega)
    rw [e2]; simp only [Option.bind_some]
    cases w
    · rw [if_neg (by decide)]
      exact ⟨_, rfl, fit m (by omega) hPm, by show m.length ≤ 22; omega⟩
    · rw [if_pos rfl]
      by_cases h2 : (m.length : Int) > 1
      · obtain ⟨v, p3, s3, e3, a3, b3, c3⟩ := below_ok s2 (m.length : Int) hl c2 (by omega)
        rw [if_pos h2, e3]; simp only [Option.bind_some]
        rw [if_pos a3, if_pos b3]
        refine ⟨_, rfl, fit _ (by simp; omega) fun x hx => ?_, by show (m.set _ _).length ≤ 22; simp; omega⟩
        rw [List.length_set]
        rcases List.mem_or_eq_of_mem_set hx with q | rfl
        · exact hPm x q
        · show insB _ 12 0 0 0 = true; simp [insB]
      · rw [if_neg h2]
        exact ⟨_, rfl, fit m (by omega) hPm, by show m.length ≤ 22; omega⟩
  obtain ⟨w, p1, s1, e1, c1⟩ := once_ok s 4 hl (by omega : (0 : Int) ≤ 0) (by omega)
  rw [e1]; simp only [Option.bind_some]
  cases w
  · rw [if_neg (by decide)]
    obtain ⟨v, p2, s2, e2, a2, b2, c2⟩ := below_ok s1 2 hl c1 (by omega)
    rw [e2]; simp only [Option.bind_some]
    rw [if_pos (by simp)]
    obtain ⟨z, hz, h1, h2⟩ := fin ([] ++ [⟨8, v, 0, 0⟩]) p2 s2 c2 (by simp) (fun x hx => by
      rw [List.mem_singleton.1 hx]
      have : fldR v = true := decide_eq_true (by omega)
      simp [P5, insB, this])
    rw [hz]
    exact ⟨z.1, rfl, h1, h2⟩
  · rw [if_pos rfl]
    obtain ⟨z, hz, h1, h2⟩ := fin [] p1 s1 c1 (by simp) (fun x hx => by simp at hx)
    rw [hz]
    exact ⟨z.1, rfl, h1, h2⟩

theorem laneRegs0 (n : Int) (f : List S82) {i : Int} (hi : 0 ≤ i ∧ i ≤ 7) : impl_LaneRegs.f n f (List.replicate 32 0) i = some (List.replicate 4 0) := by
  unfold impl_LaneRegs.f cloneIntF laneOf
  rw [if_pos hi, if_pos (by simp)]
  have e : ((List.replicate 32 (0 : Int)).take ((i + 1) * 4).toNat).drop (i * 4).toNat = List.replicate 4 0 := by
    rw [List.take_replicate, List.drop_replicate]
    congr 1
    omega
  rw [e, if_pos (by simp)]
theorem laneNew0 {i : Int} (hi : 0 ≤ i ∧ i ≤ 7) : impl_LaneNew.f i = some (i, 0, List.replicate 4 0) := by
  unfold impl_LaneNew.f impl_isThread.f
  rw [within_some]; simp only [Option.bind_some]
  rw [if_pos (by simp; omega), if_pos (by decide)]
theorem same4_l0 (a : List Int) (ha : a.length = 4) : ∀ (d k : Nat) (i : Int), 0 ≤ i → 4 - i = d → d < k → laws_sameInts.l0 k a a i = some true := by
  intro d
  induction d with
  | zero =>
    intro k i h0 hd hk
    obtain ⟨k, rfl⟩ : ∃ q, k = q + 1 := ⟨k - 1, by omega⟩
    simp only [laws_sameInts.l0]
    rw [if_neg (by omega)]
  | succ d ih =>
    intro k i h0 hd hk
    obtain ⟨k, rfl⟩ : ∃ q, k = q + 1 := ⟨k - 1, by omega⟩
    simp only [laws_sameInts.l0, if_true]
    rw [if_pos (by omega), if_pos h0, if_pos (by omega), w64 (by omega) (by omega), ih k (i + 1) (by omega) (by omega) (by omega)]
theorem same4 {k : Nat} (hk : 4 < k) : laws_sameInts.f k (List.replicate 4 0) (List.replicate 4 0) = some true := by
  unfold laws_sameInts.f
  rw [if_pos rfl, same4_l0 _ (by simp) 4 k 0 (by omega) (by omega) hk]
theorem newWarps_l0 (P : List S43) (n : Int) (f : List S82) (hP : programOk P = true) (hw : warpOk P n f (List.replicate 32 0) = true) (hf : f.length ≤ 1) (he : (f.length = 0 ↔ P.length = 0)) (ha : P.length ≠ 0 → actMask f = 255) : ∀ (d k : Nat) (i : Int), 0 ≤ i → 8 - i = d → d + 10 < k → laws_FnNewWarps.l0 k P true i n f (List.replicate 32 0) = some true := by
  intro d
  induction d with
  | zero =>
    intro k i h0 hd hk
    obtain ⟨k, rfl⟩ : ∃ q, k = q + 1 := ⟨k - 1, by omega⟩
    simp only [laws_FnNewWarps.l0, impl_WarpEnded.f, impl_warpOk_eq (k := k) P n (f := f) (List.replicate 32 0) (by omega) (by omega), impl_activeMask_eq n (f := f) (List.replicate 32 0) (by omega), hw, Option.bind_some, if_true]
    have e : ((f.length : Int) == 0) = ((P.length : Int) == 0) := by
      rw [Bool.eq_iff_iff, beq_iff_eq, beq_iff_eq]; omega
    rw [if_neg (by omega), e]
    simp only [beq_self_eq_true, if_true]
    by_cases h : P.length = 0
    · rw [if_pos (by omega)]
    · rw [if_neg (by omega), ha h]; rfl
  | succ d ih =>
    intro k i h0 hd hk
    obtain ⟨k, rfl⟩ : ∃ q, k = q + 1 := ⟨k - 1, by omega⟩
    simp only [laws_FnNewWarps.l0]
    rw [if_pos (by omega), laneRegs0 n f ⟨h0, by omega⟩, laneNew0 ⟨h0, by omega⟩]; simp only [Option.bind_some]
    rw [same4 (by omega), w64 (by omega) (by omega)]; simp only [Option.bind_some, if_true]
    exact ih k (i + 1) (by omega) (by omega) (by omega)
theorem FnNewWarps : laws_FnNewWarps.Pure := by
  intro l hm
  unfold maxLen at hm
  by_cases h : l.length ≤ 1048576
  · obtain ⟨P, e1, hP, hPl⟩ := drawQuiet_ok (k := l.length + 150) h (by omega)
    obtain ⟨Q, e2, hQ, hQ2⟩ := drawPlaces_ok (k := l.length + 150) h (by omega)
    have hd0 := hQ2 _ (rd_mem (l := Q) (by omega : (0 : Int) ≤ 0) (by omega))
    have hn : 0 ≤ Int.tmod (rd Q 0) 3 ∧ Int.tmod (rd Q 0) 3 ≤ 2 := by rw [Int.tmod_eq_emod_of_nonneg hd0.1]; omega
    refine ⟨l.length + 150, ?_⟩
    unfold laws_FnNewWarps.f laws_big.f
    simp only [Option.bind_some, e1, e2]
    rw [if_neg (by simp; omega), if_pos (by omega)]
    generalize Int.tmod (rd Q 0) 3 = n at hn
    have ew : impl_WarpNew.f P n = some (n, (if P.length = 0 then [] else [⟨0, (P.length : Int), 255⟩]), List.replicate 32 0, true) := by
      unfold impl_WarpNew.f impl_isWarpNumber.f impl_newWarp.f
      simp only [impl_programOk_eq, hP, within_some, Option.bind_some, if_true]
      rw [decide_eq_true hn, if_pos rfl, if_pos (by omega)]
      by_cases h : P.length = 0
      · rw [if_neg (by omega), if_pos h]; rfl
      · rw [if_pos (by omega), if_neg h]; rfl
    rw [ew]; simp only [Option.bind_some]
    have hz : ∀ x ∈ List.replicate 32 (0 : Int), x = 0 := fun x hx => (List.mem_replicate.1 hx).2
    have hr : (List.replicate 32 (0 : Int)).all isWordB = true := List.all_eq_true.2 fun x hx => by rw [hz x hx]; decide
    by_cases h0 : P.length = 0
    · rw [if_pos h0]
      refine newWarps_l0 P n [] hP ?_ (by simp) (by simp [h0]) (fun q => absurd h0 q) 8 _ 0 (by omega) (by omega) (by omega)
      unfold warpOk framesOk
      rw [hP, decide_eq_true hn, hr]; simp
    · rw [if_neg h0]
      refine newWarps_l0 P n _ hP ?_ (by simp) (by simp [h0]) (fun _ => rfl) 8 _ 0 (by omega) (by omega) (by omega)
      have ht : frOk (P.length : Int) (⟨0, (P.length : Int), 255⟩ : S82) = true := by
        unfold frOk
        rw [decide_eq_true (show (0 : Int) ≤ 0 ∧ (0 : Int) ≤ (P.length : Int) by omega), decide_eq_true (show (0 : Int) ≤ (P.length : Int) ∧ (P.length : Int) ≤ (P.length : Int) by omega)]; rfl
      have h1 : topB (P.length : Int) [(⟨0, (P.length : Int), 255⟩ : S82)] = true := by
        show (!((0 : Int) == (P.length : Int)) && !((0 : Int) == (P.length : Int))) = true
        have : ((0 : Int) == (P.length : Int)) = false := by rw [beq_eq_false_iff_ne]; omega
        rw [this]; rfl
      have h2 : botB (P.length : Int) [(⟨0, (P.length : Int), 255⟩ : S82)] = true := by
        show ((P.length : Int) == (P.length : Int) && (255 : Int) == 255) = true
        rw [beq_self_eq_true]; rfl
      unfold warpOk framesOk
      rw [hP, decide_eq_true hn, hr, h1, h2]; simp [ht]
  · exact ⟨0, by unfold laws_FnNewWarps.f laws_big.f; simp only [Option.bind_some]; rw [if_pos (by simp; omega)]⟩

end Go.Proofs.Ytdhifoacbpjpoaa.Pure
