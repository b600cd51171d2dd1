/- FloatReckons, over lists and whole numbers alone: binary64's operations are the reference's. -/
import Derived.Test.YtfloeiagdegpjaaLReckons
import Derived.Test.YtfloeiagdegpjaaQt
namespace Go.Proofs.Ytfloeiagdegpjaa.ZReckons
open Go.RowKit Go.Proofs.YtfloeiagdegpjaaW.PrintWords Go.Proofs.Ytfloeiagdegpjaa.Rf Go.Proofs.Ytfloeiagdegpjaa.LReckons Go.Proofs.Ytfloeiagdegpjaa.Q
set_option linter.unusedVariables false
set_option linter.unusedSimpArgs false

theorem rng {l : List S73} (hw : ∀ y ∈ l, ∃ p q r, y = S73.mk p q r ∧ (Lit.int .u64 p).wf = true ∧ (Lit.int .u64 q).wf = true ∧ (Lit.int .u64 r).wf = true) {i : Nat} (hi : i < l.length) :
    (0 ≤ (rd_T73 l (i : Int)).f0 ∧ (rd_T73 l (i : Int)).f0 < 18446744073709551616) ∧ (0 ≤ (rd_T73 l (i : Int)).f1 ∧ (rd_T73 l (i : Int)).f1 < 18446744073709551616) ∧ (0 ≤ (rd_T73 l (i : Int)).f2 ∧ (rd_T73 l (i : Int)).f2 < 18446744073709551616) := by
  unfold rd_T73
  rw [Int.toNat_natCast, List.getD_eq_getElem?_getD, List.getElem?_eq_getElem hi]
  obtain ⟨p, q, r, e, h1, h2, h3⟩ := hw _ (List.getElem_mem hi)
  rw [Option.getD_some, e]
  exact ⟨wf_u64 h1, wf_u64 h2, wf_u64 h3⟩

theorem res64_eq (o : Option Nat) : Fl.res64 o = res 9221120237041090560 o := by cases o <;> rfl

theorem FloatReckons (l : List S73) (hm : l.length ≤ maxLen) (hw : ∀ y ∈ l, ∃ p q r, y = S73.mk p q r ∧ (Lit.int .u64 p).wf = true ∧ (Lit.int .u64 q).wf = true ∧ (Lit.int .u64 r).wf = true) : ∃ k, fathomlaw3_FloatReckons.f k l = some true := by
  refine rounds_of (g := fun k i => fathomlaw3_FloatReckons.l0 k l (i : Int)) (n := l.length) (fun i h => ?_) (fun i hi h2 ih => ?_)
  · refine Ev.step (f := fun k => fathomlaw3_FloatReckons.j1 k l i false) (fun k => ?_) ?_
    · simp only [fathomlaw3_FloatReckons.l0]
      by_cases hi : i < l.length
      · rw [if_pos (by omega), decide_eq_false (by omega)]
      · rw [if_neg (by omega)]
    · exact Ev.step (f := fun _ => some true) (fun k => by simp [fathomlaw3_FloatReckons.j1, fathomlaw3_wakes.f]) (Ev.now true)
  · obtain ⟨a0, b0, c0⟩ := rng hw hi
    have hwr := wrap_next hi hm
    refine Ev.step (f := fun k => fathomlaw3_FloatReckons.j1 k l i true) (fun k => by simp only [fathomlaw3_FloatReckons.l0]; rw [if_pos (by omega), decide_eq_true (by omega)]) ?_
    have ha := in64.2 a0
    have hb := in64.2 b0
    have hc := in64.2 c0
    obtain ⟨a, ea⟩ : ∃ a, a = (rd_T73 l (i : Int)).f0 := ⟨_, rfl⟩
    obtain ⟨b, eb⟩ : ∃ b, b = (rd_T73 l (i : Int)).f1 := ⟨_, rfl⟩
    obtain ⟨c, ec⟩ : ∃ c, c = (rd_T73 l (i : Int)).f2 := ⟨_, rfl⟩
    rw [← ea] at ha
    rw [← eb] at hb
    rw [← ec] at hc
    obtain ⟨K, H⟩ := ih
    obtain ⟨K1, H1⟩ := add_ev fx64 ha hb
    obtain ⟨K2, H2⟩ := sub_ev fx64 ha hb
    obtain ⟨K3, H3⟩ := mul_ev fx64 ha hb
    obtain ⟨K4, H4⟩ := div_ev fx64 ha hb
    obtain ⟨K5, H5⟩ := root_ev fx64 ha
    obtain ⟨K6, H6⟩ := fma_ev ha hb hc
    refine ⟨K + K1 + K2 + K3 + K4 + K5 + K6 + 2, fun k hk => ?_⟩
    obtain ⟨k, rfl⟩ : ∃ m, k = m + 2 := ⟨k - 2, by omega⟩
    dsimp only at H H1 H2 H3 H4 H5 H6 ⊢
    rw [fathomlaw3_FloatReckons.j1, if_pos rfl, if_pos (by omega), if_pos (by omega), ← ea, ← eb, ← ec]
    simp only [float_Add_uint64.f, float_Sub_uint64.f, float_Mul_uint64.f, float_Div_uint64.f, Option.bind_some, res64_eq]
    rw [H1 _ (by omega), Option.bind_some, if_pos rfl, H2 _ (by omega), Option.bind_some, if_pos rfl, H3 _ (by omega), Option.bind_some, if_pos rfl, H4 _ (by omega), Option.bind_some, bne_self_eq_false, fathomlaw3_FloatReckons.j2, if_neg (by decide)]
    simp only [float_Root_uint64.f, float_Fma.f, Option.bind_some, res64_eq]
    rw [H5 _ (by omega), Option.bind_some, if_pos rfl, H6 _ (by omega), Option.bind_some, if_pos rfl, hwr]
    exact H _ (by omega)
end Go.Proofs.Ytfloeiagdegpjaa.ZReckons
