/- A slice of structs of two or three whole numbers, opened as a row of the walks. -/
import Derived.Test.YtfloeiagdegpjaaProg
import Derived.Test.YtfloeiagdegpjaaMw
import Derived.Deep.SlicePairs
import Derived.ChangeArms
import Derived.ProofKit
namespace Go.Proofs.Ytfloeiagdegpjaa.Op
open Go.ChangeShapes Go.WideShapes Go.Deep Go.Proofs.YtfloeiagdegpjaaW.PrintWords
set_option linter.unusedVariables false
set_option linter.unusedSimpArgs false

section
variable {H : Type} {enc : TypeId × Value → H} {P : Program} {w : World} {base : Nat} {spare : Nat → Bool} {held : Bool}

theorem reads_of {α : Type} {kd : Kd α} {size : Nat} (hs : kd.sz = size) {a : Addr} {len : Nat} (hm : len ≤ 9223372036854775807) (g : Nat → α) (c : Nat → List Value)
    (hc : ∀ i, i < len → (c i).length = size ∧ kd.K w (g i) (c i) ∧ ∀ j u, (c i)[j]? = some u → w.cell? (a.add (i * size + j)) = some u) :
    Kd.C kd w (some a) len ((List.range len).map g) := by
  refine ⟨by simp, hm, fun _ => ⟨a, rfl, fun j p hj => ?_⟩⟩
  have hlt : j < len := by
    have := (List.getElem?_eq_some_iff.1 hj).1
    simpa using this
  have hp : g j = p := by
    rw [List.getElem?_map, List.getElem?_range hlt] at hj
    simpa using hj
  obtain ⟨h1, h2, h3⟩ := hc j hlt
  rw [hs]
  exact ⟨c j, h1, hp ▸ h2, h3⟩

theorem reads_nil {α : Type} (kd : Kd α) : Kd.C kd w none 0 ([] : List α) := ⟨rfl, by omega, fun h => absurd h (Nat.lt_irrefl _)⟩

theorem rows2 {α : Type} {kd : Kd α} (hs : kd.sz = 2) {k0 k1 : IntKind} (mk : Int → Int → α) (hk : ∀ x y, kd.K w (mk x y) [.int k0 x, .int k1 y])
    {t e : TypeId} {f0 f1 : Field} (ht : P.underlying t = some (.slice e)) (he : P.underlying e = some (.struct #[f0, f1])) (ce : P.cellsOf e = 2) (o0 : f0.offset = 0) (o1 : f1.offset = 1)
    (c0 : P.cellsOf f0.type = 1) (c1 : P.cellsOf f1.type = 1) (t0 : P.underlying f0.type = some (.int k0)) (t1 : P.underlying f1.type = some (.int k1))
    {a : Option Addr} {len cap : Nat} {d : DataW H} {ps : List MemPlace} (h : DataW.Trod enc P w base spare held t (.slice a len cap) d ps) :
    len ≤ cap ∧ cap ≤ maxLen ∧ ∃ ys : List α, ys.length = len ∧ Kd.C kd w a len ys ∧ ∀ y ∈ ys, ∃ p q, y = mk p q ∧ (Lit.int k0 p).wf = true ∧ (Lit.int k1 q).wf = true := by
  obtain ⟨fuel, hf⟩ := h
  rcases open_slice ht hf with ⟨hcs, _⟩ | ⟨a', len', cap', m, n, D, Pl, hcs, hb, hl, hm, hmm, _, hx⟩
  · simp [Value.cells] at hcs
    obtain ⟨rfl, rfl, rfl⟩ := hcs
    exact ⟨Nat.le_refl _, by unfold maxLen; omega, [], rfl, reads_nil kd, fun y hy => by cases hy⟩
  · simp [Value.cells] at hcs
    obtain ⟨rfl, rfl, rfl⟩ := hcs
    refine ⟨hl, hm, ?_⟩
    have hlm : len ≤ m := by rw [hmm]; split <;> omega
    have each : ∀ i, i < len → ∃ q : Int × Int, w.cell? (a'.add (i * 2)) = some (.int k0 q.1) ∧ w.cell? (a'.add (i * 2 + 1)) = some (.int k1 q.2) ∧ (Lit.int k0 q.1).wf = true ∧ (Lit.int k1 q.2).wf = true := by
      intro i hi
      obtain ⟨cs', h1, h2⟩ := hx i (by omega)
      rw [ce] at h1
      obtain ⟨_, hlen, hcell⟩ := World.cells?_some h1
      obtain ⟨xs, k, hk', hxy, _, hxl, hff⟩ := DataW.trod_struct he h2
      match xs, hxl, cs', hlen with
      | [y0, y1], _, [v0, v1], _ =>
        have g0 := hff 0 f0 rfl
        have g1 := hff 1 f1 rfl
        simp [o0, o1, c0, c1] at g0 g1
        obtain ⟨n0, e0, _, w0⟩ := DataW.trod_int t0 g0
        obtain ⟨n1, e1, _, w1⟩ := DataW.trod_int t1 g1
        simp at e0 e1
        subst e0 e1
        have q0 := hcell 0 (by omega)
        have q1 := hcell 1 (by omega)
        rw [Go.Deep.add_add] at q0 q1
        exact ⟨(n0, n1), by simpa using q0, by simpa using q1, w0, w1⟩
    obtain ⟨q, hq⟩ := choose_lt each
    refine ⟨(List.range len).map fun i => mk (q i).1 (q i).2, by simp, ?_, ?_⟩
    · refine reads_of hs (by unfold maxLen at hm; omega) (fun i => mk (q i).1 (q i).2) (fun i => [.int k0 (q i).1, .int k1 (q i).2]) (fun i hi => ⟨rfl, hk _ _, fun j u hu => ?_⟩)
      obtain ⟨h1, h2, _, _⟩ := hq i hi
      match j with
      | 0 => simp at hu; subst hu; simpa using h1
      | 1 => simp at hu; subst hu; exact h2
      | j + 2 => simp at hu
    · intro y hy
      obtain ⟨i, hi, rfl⟩ := List.mem_map.1 hy
      obtain ⟨_, _, h3, h4⟩ := hq i (List.mem_range.1 hi)
      exact ⟨_, _, rfl, h3, h4⟩

theorem rows3 {α : Type} {kd : Kd α} (hs : kd.sz = 3) {k0 k1 k2 : IntKind} (mk : Int → Int → Int → α) (hk : ∀ x y z, kd.K w (mk x y z) [.int k0 x, .int k1 y, .int k2 z])
    {t e : TypeId} {f0 f1 f2 : Field} (ht : P.underlying t = some (.slice e)) (he : P.underlying e = some (.struct #[f0, f1, f2])) (ce : P.cellsOf e = 3) (o0 : f0.offset = 0) (o1 : f1.offset = 1) (o2 : f2.offset = 2)
    (c0 : P.cellsOf f0.type = 1) (c1 : P.cellsOf f1.type = 1) (c2 : P.cellsOf f2.type = 1) (t0 : P.underlying f0.type = some (.int k0)) (t1 : P.underlying f1.type = some (.int k1)) (t2 : P.underlying f2.type = some (.int k2))
    {a : Option Addr} {len cap : Nat} {d : DataW H} {ps : List MemPlace} (h : DataW.Trod enc P w base spare held t (.slice a len cap) d ps) :
    len ≤ cap ∧ cap ≤ maxLen ∧ ∃ ys : List α, ys.length = len ∧ Kd.C kd w a len ys ∧ ∀ y ∈ ys, ∃ p q r, y = mk p q r ∧ (Lit.int k0 p).wf = true ∧ (Lit.int k1 q).wf = true ∧ (Lit.int k2 r).wf = true := by
  obtain ⟨fuel, hf⟩ := h
  rcases open_slice ht hf with ⟨hcs, _⟩ | ⟨a', len', cap', m, n, D, Pl, hcs, hb, hl, hm, hmm, _, hx⟩
  · simp [Value.cells] at hcs
    obtain ⟨rfl, rfl, rfl⟩ := hcs
    exact ⟨Nat.le_refl _, by unfold maxLen; omega, [], rfl, reads_nil kd, fun y hy => by cases hy⟩
  · simp [Value.cells] at hcs
    obtain ⟨rfl, rfl, rfl⟩ := hcs
    refine ⟨hl, hm, ?_⟩
    have hlm : len ≤ m := by rw [hmm]; split <;> omega
    have each : ∀ i, i < len → ∃ q : Int × Int × Int, w.cell? (a'.add (i * 3)) = some (.int k0 q.1) ∧ w.cell? (a'.add (i * 3 + 1)) = some (.int k1 q.2.1) ∧ w.cell? (a'.add (i * 3 + 2)) = some (.int k2 q.2.2) ∧
        (Lit.int k0 q.1).wf = true ∧ (Lit.int k1 q.2.1).wf = true ∧ (Lit.int k2 q.2.2).wf = true := by
      intro i hi
      obtain ⟨cs', h1, h2⟩ := hx i (by omega)
      rw [ce] at h1
      obtain ⟨_, hlen, hcell⟩ := World.cells?_some h1
      obtain ⟨xs, k, hk', hxy, _, hxl, hff⟩ := DataW.trod_struct he h2
      match xs, hxl, cs', hlen with
      | [y0, y1, y2], _, [v0, v1, v2], _ =>
        have g0 := hff 0 f0 rfl
        have g1 := hff 1 f1 rfl
        have g2 := hff 2 f2 rfl
        simp [o0, o1, o2, c0, c1, c2] at g0 g1 g2
        obtain ⟨n0, e0, _, w0⟩ := DataW.trod_int t0 g0
        obtain ⟨n1, e1, _, w1⟩ := DataW.trod_int t1 g1
        obtain ⟨n2, e2, _, w2⟩ := DataW.trod_int t2 g2
        simp at e0 e1 e2
        subst e0 e1 e2
        have q0 := hcell 0 (by omega)
        have q1 := hcell 1 (by omega)
        have q2 := hcell 2 (by omega)
        rw [Go.Deep.add_add] at q0 q1 q2
        exact ⟨(n0, n1, n2), by simpa using q0, by simpa using q1, by simpa using q2, w0, w1, w2⟩
    obtain ⟨q, hq⟩ := choose_lt each
    refine ⟨(List.range len).map fun i => mk (q i).1 (q i).2.1 (q i).2.2, by simp, ?_, ?_⟩
    · refine reads_of hs (by unfold maxLen at hm; omega) (fun i => mk (q i).1 (q i).2.1 (q i).2.2) (fun i => [.int k0 (q i).1, .int k1 (q i).2.1, .int k2 (q i).2.2]) (fun i hi => ⟨rfl, hk _ _ _, fun j u hu => ?_⟩)
      obtain ⟨h1, h2, h3, _⟩ := hq i hi
      match j with
      | 0 => simp at hu; subst hu; simpa using h1
      | 1 => simp at hu; subst hu; exact h2
      | 2 => simp at hu; subst hu; exact h3
      | j + 3 => simp at hu
    · intro y hy
      obtain ⟨i, hi, rfl⟩ := List.mem_map.1 hy
      obtain ⟨_, _, _, h3, h4, h5⟩ := hq i (List.mem_range.1 hi)
      exact ⟨_, _, _, rfl, h3, h4, h5⟩
end
end Go.Proofs.Ytfloeiagdegpjaa.Op
