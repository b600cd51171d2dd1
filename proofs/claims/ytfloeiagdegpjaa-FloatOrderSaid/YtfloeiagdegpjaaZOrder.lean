/- FloatOrder, over lists and whole numbers alone: classes, places, next numbers are the reference's, of both widths. -/
import Derived.Test.YtfloeiagdegpjaaLOrder
import Derived.Test.YtfloeiagdegpjaaQa
namespace Go.Proofs.Ytfloeiagdegpjaa.ZOrder
set_option linter.unusedVariables false
open Go.RowKit Go.Proofs.YtfloeiagdegpjaaW.PrintWords Go.Proofs.Ytfloeiagdegpjaa.Rf Go.Proofs.Ytfloeiagdegpjaa.LOrder Go.Proofs.Ytfloeiagdegpjaa.Q

theorem rd_wf {l : List Int} {k : IntKind} (hw : ∀ x ∈ l, (Lit.int k x).wf = true) {i : Nat} (hi : i < l.length) : (Lit.int k (rd l (i : Int))).wf = true := by
  unfold rd
  rw [Int.toNat_natCast, List.getD_eq_getElem?_getD, List.getElem?_eq_getElem hi]
  exact hw _ (List.getElem_mem hi)

theorem wf_u64 {x : Int} (h : (Lit.int .u64 x).wf = true) : 0 ≤ x ∧ x < 18446744073709551616 := by
  have := Lit.int .u64 x
  simp [Lit.wf, IntKind.min, IntKind.max, IntKind.bits, IntKind.signed] at h
  omega

theorem turn {l : List Int} {i : Nat} (hi : i < l.length) (h2 : i < 2000) (hw : ∀ x ∈ l, (Lit.int .u64 x).wf = true) (hm : l.length ≤ maxLen)
    (ih : Ev (fun k => fathomlaw3_FloatOrder.l0 k l ((i + 1 : Nat) : Int)) true) : Ev (fun k => fathomlaw3_FloatOrder.l0 k l (i : Int)) true := by
  obtain ⟨h0, h1⟩ := wf_u64 (rd_wf hw hi)
  have hwr : wrap64 ((i : Int) + 1) = ((i + 1 : Nat) : Int) := by unfold maxLen at hm; unfold wrap64; omega
  have hd : decide ((i : Int) < 2000) = true := decide_eq_true (by omega)
  refine Ev.step (f := fun k => fathomlaw3_FloatOrder.j1 k l i true) (fun k => by simp only [fathomlaw3_FloatOrder.l0]; rw [if_pos (by omega), hd]) ?_
  refine Ev.step (f := fun k => fathomlaw3_FloatOrder.j2 k l i (rd l i) false) (fun k => ?_) ?_
  · simp only [fathomlaw3_FloatOrder.j1, float_Class_uint64.f, float_Key_uint64.f, float_OfKey_uint64.f, float_Up_uint64.f, float_Down_uint64.f, rClass64 h0 h1, rKey64 h0 h1, rOfKey64 h0 h1, rUp64 h0 h1, rDown64 h0 h1, Option.bind_some, if_true]
    rw [if_pos (by omega), if_pos (by omega), bne_self_eq_false]
  · refine Ev.step (f := fun k => fathomlaw3_FloatOrder.l0 k l ((i + 1 : Nat) : Int)) (fun k => ?_) ih
    have g0 : 0 ≤ rd l i / 4294967296 % 4294967296 := by omega
    have g1 : rd l i / 4294967296 % 4294967296 < 4294967296 := by omega
    simp only [fathomlaw3_FloatOrder.j2, Bool.false_eq_true, if_false, hwr]
    generalize rd l i / 4294967296 % 4294967296 = y at *
    have a1 := up32_range g0 g1
    have a2 : 0 ≤ Fl.key32 y ∧ Fl.key32 y < 4294967296 := by rw [key32_eq g0 g1]; split <;> omega
    have a3 : 0 ≤ Fl.ofKey32 y ∧ Fl.ofKey32 y < 4294967296 := by rw [ofKey32_eq g0 g1]; split <;> omega
    have a4 : 0 ≤ Fl.down32 y ∧ Fl.down32 y < 4294967296 := by
      rw [down32_eq g0 g1]
      have hr := up32_range (x := flip32 y) (by unfold flip32; split <;> omega) (by unfold flip32; split <;> omega)
      split
      · omega
      · generalize Fl.up32 (flip32 y) = z at *
        unfold flip32; split <;> omega
    have w : ∀ z, 0 ≤ z ∧ z < 4294967296 → IntKind.u64.wrap z = z := fun z hz => by rw [wrap_u64]; omega
    simp only [float_Class_uint32.f, float_Key_uint32.f, float_OfKey_uint32.f, float_Up_uint32.f, float_Down_uint32.f, rClass32 g0 g1, rKey32 g0 g1, rOfKey32 g0 g1, rUp32 g0 g1, rDown32 g0 g1, Option.bind_some, if_true, w _ a1, w _ a2, w _ a3, w _ a4]

theorem stop {l : List Int} {i : Nat} (h : ¬ (i < l.length ∧ i < 2000)) : Ev (fun k => fathomlaw3_FloatOrder.l0 k l (i : Int)) true := by
  refine Ev.step (f := fun k => fathomlaw3_FloatOrder.j1 k l i false) (fun k => ?_) ?_
  · simp only [fathomlaw3_FloatOrder.l0]
    by_cases hi : i < l.length
    · rw [if_pos (by omega)]
      have hd : decide ((i : Int) < 2000) = false := decide_eq_false (by omega)
      rw [hd]
    · rw [if_neg (by omega)]
  · refine Ev.step (f := fun _ => some true) (fun k => ?_) (Ev.now true)
    simp [fathomlaw3_FloatOrder.j1, fathomlaw3_wakes.f]

theorem FloatOrder (l : List Int) (hm : l.length ≤ maxLen) (hw : ∀ x ∈ l, (Lit.int .u64 x).wf = true) : ∃ k, fathomlaw3_FloatOrder.f k l = some true := by
  have loop : ∀ d i : Nat, 2000 - i = d → Ev (fun k => fathomlaw3_FloatOrder.l0 k l (i : Int)) true := by
    intro d
    induction d with
    | zero => intro i hd; exact stop (by omega)
    | succ d ih =>
      intro i hd
      by_cases h : i < l.length ∧ i < 2000
      · exact turn h.1 h.2 hw hm (ih (i + 1) (by omega))
      · exact stop h
  exact (loop 2000 0 rfl).rounds
end Go.Proofs.Ytfloeiagdegpjaa.ZOrder
