/-
  How an argument that is a struct, a slice, or a slice of structs is read: its cells in the words of the print.
  Lemmas alone; no statement of the program.
-/
import Derived.Test.YtdppehpcpofeoaaGreatVWords
import Derived.Deep.Slices
import Derived.ChangeArms
import Derived.WideShapes
import Derived.ChangeSlices
namespace Go.Proofs.YtdppehpcpofeoaaGreat.Opens
open Go.RowKit Go.Proofs.YtdppehpcpofeoaaGreatW.PrintWords Go.ChangeShapes Go.WideShapes
variable {P : Program}

/-- A reading of type t is a value of kind d that meets W. -/
structure Opens (P : Program) {α : Type} (d : Kd α) (t : TypeId) (W : α → Prop) : Prop where
  size : P.cellsOf t = d.sz
  out : ∀ {H : Type} {enc : TypeId × Value → H} {w : World} {fuel : Nat} {cs : List Value} {x : DataW H × List MemPlace}, DataW.trod enc P w 0 (fun _ => true) true fuel t cs = some x → ∃ a, d.K w a cs ∧ W a

theorem opens_int {t : TypeId} {k : IntKind} (hu : P.underlying t = some (.int k)) (hc : P.cellsOf t = 1) : Opens P (Kd.int k) t (fun n => (Lit.int k n).wf = true) where
  size := hc
  out := fun h => by
    obtain ⟨n, rfl, _, hw⟩ := DataW.trod_int hu h
    exact ⟨n, rfl, hw⟩

theorem cell_add (a : Addr) (i j : Nat) : (a.add i).add j = a.add (i + j) := by
  by_cases hi : i = 0
  · subst hi; simp [Addr.add]
  · by_cases hj : j = 0
    · subst hj; simp [Addr.add]
    · have h1 : ¬ (i + j = 0) := by omega
      simp only [Addr.add, if_neg hi, if_neg hj, if_neg h1, Nat.add_assoc]

theorem opens_slice {α : Type} {d : Kd α} {t e : TypeId} {W : α → Prop} (hu : P.underlying t = some (.slice e)) (hc : P.cellsOf t = 1) (hd : Opens P d e W) :
    Opens P (Kd.slice e d) t (fun l => l.length ≤ maxLen ∧ ∀ x ∈ l, W x) where
  size := hc
  out := fun {H enc w fuel cs x} h => by
    rcases Go.Deep.open_slice hu h with ⟨rfl, _⟩ | ⟨a, len, cap, m, n, D, Pl, rfl, hb, hl, hm, hmm, rfl, hx⟩
    · exact ⟨[], ⟨none, 0, rfl, Nat.zero_le _, Kd.C_nil d w⟩, Nat.zero_le _, fun _ h => absurd h (by simp)⟩
    · have hlm : len ≤ m := by rw [hmm]; split <;> omega
      have hex : ∀ i : Fin len, ∃ y : α, ∃ c : List Value, c.length = d.sz ∧ d.K w y c ∧ W y ∧ ∀ (j : Nat) (u : Value), c[j]? = some u → w.cell? (a.add (i.1 * d.sz + j)) = some u := by
        intro i
        obtain ⟨c, h1, h2⟩ := hx i.1 (by have := i.2; omega)
        obtain ⟨y, hK, hW⟩ := hd.out h2
        obtain ⟨_, hlen, hcell⟩ := World.cells?_some h1
        rw [hd.size] at hlen hcell
        refine ⟨y, c, hlen, hK, hW, fun j u hj => ?_⟩
        have hjl : j < d.sz := by have := (List.getElem?_eq_some_iff.1 hj).1; omega
        rw [← cell_add, hcell j hjl, hj]
      let f : Fin len → α := fun i => Classical.choose (hex i)
      have hf : ∀ i : Fin len, ∃ c : List Value, c.length = d.sz ∧ d.K w (f i) c ∧ W (f i) ∧ ∀ (j : Nat) (u : Value), c[j]? = some u → w.cell? (a.add (i.1 * d.sz + j)) = some u := fun i => Classical.choose_spec (hex i)
      have hlen : (List.ofFn f).length = len := List.length_ofFn
      refine ⟨List.ofFn f, ⟨some a, cap, by rw [hlen], by rw [hlen]; exact hl, ?_⟩, ?_, ?_⟩
      · refine ⟨rfl, ?_, fun _ => ⟨a, rfl, fun j p hj => ?_⟩⟩
        · rw [hlen]; unfold maxLen at hm; omega
        · obtain ⟨hjl, hp⟩ := List.getElem?_eq_some_iff.1 hj
          rw [hlen] at hjl
          rw [List.getElem_ofFn] at hp
          subst hp
          obtain ⟨c, h1, h2, _, h4⟩ := hf ⟨j, hjl⟩
          exact ⟨c, h1, h2, h4⟩
      · rw [hlen]; omega
      · intro x hx
        obtain ⟨i, rfl⟩ := List.mem_ofFn.1 hx
        obtain ⟨_, _, _, h3, _⟩ := hf i
        exact h3

theorem opens_iso {α β : Type} {d : Kd α} {t : TypeId} {W : α → Prop} (h : Opens P d t W) (f : β → α) (g : α → β) (hfg : ∀ a, f (g a) = a) : Opens P (Kd.iso d f) t (fun b => W (f b)) where
  size := h.size
  out := fun hh => by
    obtain ⟨a, hK, hW⟩ := h.out hh
    exact ⟨g a, by show d.K _ (f (g a)) _; rw [hfg]; exact hK, by show W (f (g a)); rw [hfg]; exact hW⟩

section
variable {α0 α1 α2 α3 : Type} {d0 : Kd α0} {d1 : Kd α1} {d2 : Kd α2} {d3 : Kd α3} {W0 : α0 → Prop} {W1 : α1 → Prop} {W2 : α2 → Prop} {W3 : α3 → Prop}
theorem opens_struct3 {t : TypeId} {f0 f1 f2 : Field} (hu : P.underlying t = some (.struct #[f0, f1, f2])) (hc : P.cellsOf t = 3) (o0 : f0.offset = 0) (o1 : f1.offset = 1) (o2 : f2.offset = 2)
    (h0 : Opens P d0 f0.type W0) (h1 : Opens P d1 f1.type W1) (h2 : Opens P d2 f2.type W2) (s0 : d0.sz = 1) (s1 : d1.sz = 1) (s2 : d2.sz = 1) :
    Opens P (Kd.pair d0 (Kd.pair d1 d2)) t (fun a => W0 a.1 ∧ W1 a.2.1 ∧ W2 a.2.2) where
  size := by rw [hc]; show 3 = d0.sz + (d1.sz + d2.sz); rw [s0, s1, s2]
  out := fun {H enc w fuel cs x} h => by
    obtain ⟨xs, n, _, _, hl, hlen, hf⟩ := DataW.trod_struct hu h
    rw [hc] at hl
    match xs, hlen, cs, hl with
    | [y0, y1, y2], _, [c0, c1, c2], _ =>
      have e0 := hf 0 f0 rfl
      have e1 := hf 1 f1 rfl
      have e2 := hf 2 f2 rfl
      rw [o0, h0.size, s0] at e0
      rw [o1, h1.size, s1] at e1
      rw [o2, h2.size, s2] at e2
      obtain ⟨a0, k0, w0⟩ := h0.out (show _ = some y0 from e0)
      obtain ⟨a1, k1, w1⟩ := h1.out (show _ = some y1 from e1)
      obtain ⟨a2, k2, w2⟩ := h2.out (show _ = some y2 from e2)
      exact ⟨(a0, a1, a2), ⟨[c0], [c1, c2], rfl, k0, [c1], [c2], rfl, k1, k2⟩, w0, w1, w2⟩
theorem opens_struct4 {t : TypeId} {f0 f1 f2 f3 : Field} (hu : P.underlying t = some (.struct #[f0, f1, f2, f3])) (hc : P.cellsOf t = 4) (o0 : f0.offset = 0) (o1 : f1.offset = 1) (o2 : f2.offset = 2) (o3 : f3.offset = 3)
    (h0 : Opens P d0 f0.type W0) (h1 : Opens P d1 f1.type W1) (h2 : Opens P d2 f2.type W2) (h3 : Opens P d3 f3.type W3) (s0 : d0.sz = 1) (s1 : d1.sz = 1) (s2 : d2.sz = 1) (s3 : d3.sz = 1) :
    Opens P (Kd.pair d0 (Kd.pair d1 (Kd.pair d2 d3))) t (fun a => W0 a.1 ∧ W1 a.2.1 ∧ W2 a.2.2.1 ∧ W3 a.2.2.2) where
  size := by rw [hc]; show 4 = d0.sz + (d1.sz + (d2.sz + d3.sz)); rw [s0, s1, s2, s3]
  out := fun {H enc w fuel cs x} h => by
    obtain ⟨xs, n, _, _, hl, hlen, hf⟩ := DataW.trod_struct hu h
    rw [hc] at hl
    match xs, hlen, cs, hl with
    | [y0, y1, y2, y3], _, [c0, c1, c2, c3], _ =>
      have e0 := hf 0 f0 rfl
      have e1 := hf 1 f1 rfl
      have e2 := hf 2 f2 rfl
      have e3 := hf 3 f3 rfl
      rw [o0, h0.size, s0] at e0
      rw [o1, h1.size, s1] at e1
      rw [o2, h2.size, s2] at e2
      rw [o3, h3.size, s3] at e3
      obtain ⟨a0, k0, w0⟩ := h0.out (show _ = some y0 from e0)
      obtain ⟨a1, k1, w1⟩ := h1.out (show _ = some y1 from e1)
      obtain ⟨a2, k2, w2⟩ := h2.out (show _ = some y2 from e2)
      obtain ⟨a3, k3, w3⟩ := h3.out (show _ = some y3 from e3)
      exact ⟨(a0, a1, a2, a3), ⟨[c0], [c1, c2, c3], rfl, k0, [c1], [c2, c3], rfl, k1, [c2], [c3], rfl, k2, k3⟩, w0, w1, w2, w3⟩
end
/-- An argument of a struct's type: its value, and what its cells are. -/
theorem opens_agg {α : Type} {d : Kd α} {t : TypeId} {W : α → Prop} {fs : Array Field} (ho : Opens P d t W) (hu : P.underlying t = some (.struct fs)) {H : Type} {enc : TypeId × Value → H} {w : World} {r : Reach} {b0 : Nat} {v : Value} {x : DataW H} {p : List MemPlace}
    (hv : Value.okWide P w r b0 t v) (h : DataW.Trod enc P w 0 (fun _ => true) true t v x p) : ∃ a cs, v = .agg (List.toArray cs) ∧ d.K w a cs ∧ W a := by
  obtain ⟨cs, rfl, _⟩ := okWide_struct hu hv
  obtain ⟨fuel, hf⟩ := h
  obtain ⟨a, hK, hW⟩ := ho.out hf
  exact ⟨a, cs.toList, by simp, hK, hW⟩
/-- An argument of a slice's type. -/
theorem opens_sl {α : Type} {d : Kd α} {t e : TypeId} {W : α → Prop} (ho : Opens P d e W) (hc : P.cellsOf t = 1) (hu : P.underlying t = some (.slice e)) {H : Type} {enc : TypeId × Value → H} {w : World} {r : Reach} {b0 : Nat} {v : Value} {x : DataW H} {p : List MemPlace}
    (hv : Value.okWide P w r b0 t v) (h : DataW.Trod enc P w 0 (fun _ => true) true t v x p) : ∃ l A c, v = .slice A l.length c ∧ l.length ≤ c ∧ d.C w A l.length l ∧ l.length ≤ maxLen ∧ ∀ x ∈ l, W x := by
  obtain ⟨A, n, c, rfl⟩ := okWide_slice hu hv
  obtain ⟨fuel, hf⟩ := h
  obtain ⟨l, ⟨A', c', he, hl, hC⟩, hm, hW⟩ := (opens_slice hu hc ho).out hf
  simp only [Value.cells] at he
  obtain ⟨rfl, rfl, rfl⟩ : A = A' ∧ n = l.length ∧ c = c' := by simpa using he
  exact ⟨l, A, c, rfl, hl, hC, hm, hW⟩
end Go.Proofs.YtdppehpcpofeoaaGreat.Opens
