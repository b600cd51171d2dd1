/- FloatPairs, over lists and whole numbers alone: comparisons and distances are the reference's, of both widths. -/
import Derived.Test.YtfloeiagdegpjaaLPairs
import Derived.Test.YtfloeiagdegpjaaQb
namespace Go.Proofs.Ytfloeiagdegpjaa.ZPairs
open Go.RowKit Go.Proofs.YtfloeiagdegpjaaW.PrintWords Go.Proofs.Ytfloeiagdegpjaa.Rf Go.Proofs.Ytfloeiagdegpjaa.LPairs Go.Proofs.Ytfloeiagdegpjaa.Q
set_option linter.unusedVariables false
set_option linter.unusedSimpArgs false

theorem rng {l : List S39} (hw : ∀ y ∈ l, ∃ p q, y = S39.mk p q ∧ (Lit.int .u64 p).wf = true ∧ (Lit.int .u64 q).wf = true) {i : Nat} (hi : i < l.length) :
    (0 ≤ (rd_T39 l (i : Int)).f0 ∧ (rd_T39 l (i : Int)).f0 < 18446744073709551616) ∧ (0 ≤ (rd_T39 l (i : Int)).f1 ∧ (rd_T39 l (i : Int)).f1 < 18446744073709551616) := by
  unfold rd_T39
  rw [Int.toNat_natCast, List.getD_eq_getElem?_getD, List.getElem?_eq_getElem hi]
  obtain ⟨p, q, e, h1, h2⟩ := hw _ (List.getElem_mem hi)
  rw [Option.getD_some, e]
  exact ⟨wf_u64 h1, wf_u64 h2⟩

theorem FloatPairs (l : List S39) (hm : l.length ≤ maxLen) (hw : ∀ y ∈ l, ∃ p q, y = S39.mk p q ∧ (Lit.int .u64 p).wf = true ∧ (Lit.int .u64 q).wf = true) : ∃ k, fathomlaw3_FloatPairs.f k l = some true := by
  refine rounds_of (g := fun k i => fathomlaw3_FloatPairs.l0 k l (i : Int)) (n := l.length) (fun i h => ?_) (fun i hi h2 ih => ?_)
  · refine Ev.step (f := fun k => fathomlaw3_FloatPairs.j1 k l i false) (fun k => ?_) ?_
    · simp only [fathomlaw3_FloatPairs.l0]
      by_cases hi : i < l.length
      · rw [if_pos (by omega), decide_eq_false (by omega)]
      · rw [if_neg (by omega)]
    · exact Ev.step (f := fun _ => some true) (fun k => by simp [fathomlaw3_FloatPairs.j1, fathomlaw3_wakes.f]) (Ev.now true)
  · obtain ⟨⟨a0, a1⟩, ⟨b0, b1⟩⟩ := rng hw hi
    have hwr := wrap_next hi hm
    refine Ev.step (f := fun k => fathomlaw3_FloatPairs.j1 k l i true) (fun k => by simp only [fathomlaw3_FloatPairs.l0]; rw [if_pos (by omega), decide_eq_true (by omega)]) ?_
    obtain ⟨K, hK⟩ := ih
    refine ⟨K + 4, fun k hk => ?_⟩
    obtain ⟨k, rfl⟩ : ∃ m, k = m + 4 := ⟨k - 4, by omega⟩
    simp only [fathomlaw3_FloatPairs.j1, if_true]
    rw [if_pos (by omega), if_pos (by omega)]
    generalize (rd_T39 l (i : Int)).f0 = a at *
    generalize (rd_T39 l (i : Int)).f1 = b at *
    rw [fCmp64 a0 a1 b0 b1, rCompare64 a0 a1 b0 b1 (k + 1), rDistance64 a0 a1 b0 b1]
    simp only [Option.bind_some, if_true, bne_self_eq_false, Bool.false_eq_true, if_false, float_Distance_uint64.f, fathomlaw3_FloatPairs.j2]
    have e1 : a / 4294967296 % 4294967296 = a / 4294967296 := by omega
    have e2 : b / 4294967296 % 4294967296 = b / 4294967296 := by omega
    rw [e1, e2]
    have c0 : 0 ≤ a / 4294967296 := by omega
    have c1 : a / 4294967296 < 4294967296 := by omega
    have d0 : 0 ≤ b / 4294967296 := by omega
    have d1 : b / 4294967296 < 4294967296 := by omega
    generalize a / 4294967296 = x at *
    generalize b / 4294967296 = y at *
    rw [fCmp32 c0 c1 d0 d1, rCompare32 c0 c1 d0 d1 k, rDistance32 c0 c1 d0 d1]
    have w : IntKind.u64.wrap (Fl.dist32 x y) = Fl.dist32 x y := by
      unfold Fl.dist32; rw [wrap_u64, wrap_u32]; omega
    simp only [Option.bind_some, if_true, bne_self_eq_false, Bool.false_eq_true, if_false, float_Distance_uint32.f, w, hwr]
    exact hK _ (by omega)
end Go.Proofs.Ytfloeiagdegpjaa.ZPairs
