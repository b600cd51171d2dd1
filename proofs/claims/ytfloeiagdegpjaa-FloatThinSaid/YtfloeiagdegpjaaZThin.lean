/- FloatThin, over lists and whole numbers alone: binary32's operations are the reference's. -/
import Derived.Test.YtfloeiagdegpjaaLThin
import Derived.Test.YtfloeiagdegpjaaQo
namespace Go.Proofs.Ytfloeiagdegpjaa.ZThin
open Go.RowKit Go.Proofs.YtfloeiagdegpjaaW.PrintWords Go.Proofs.Ytfloeiagdegpjaa.Rf Go.Proofs.Ytfloeiagdegpjaa.LThin Go.Proofs.Ytfloeiagdegpjaa.Q
set_option linter.unusedVariables false
set_option linter.unusedSimpArgs false

theorem rng {l : List S39} (hw : ∀ y ∈ l, ∃ p q, y = S39.mk p q ∧ (Lit.int .u64 p).wf = true ∧ (Lit.int .u64 q).wf = true) {i : Nat} (hi : i < l.length) :
    (0 ≤ (rd_T39 l (i : Int)).f0 ∧ (rd_T39 l (i : Int)).f0 < 18446744073709551616) ∧ (0 ≤ (rd_T39 l (i : Int)).f1 ∧ (rd_T39 l (i : Int)).f1 < 18446744073709551616) := by
  unfold rd_T39
  rw [Int.toNat_natCast, List.getD_eq_getElem?_getD, List.getElem?_eq_getElem hi]
  obtain ⟨p, q, e, h1, h2⟩ := hw _ (List.getElem_mem hi)
  rw [Option.getD_some, e]
  exact ⟨wf_u64 h1, wf_u64 h2⟩

theorem res32_eq (o : Option Nat) : Fl.res32 o = res 2143289344 o := by cases o <;> rfl

/-- A word of binary32 stays one. -/
theorem write_lt (d : Ieee.Datum) (hd : d.isNaN = false) : Ieee.single.write d < 4294967296 := by
  obtain ⟨neg, r, h, hr⟩ := _root_.Fl.write_word Ieee.single hd
  rw [h]
  rw [inf_single] at hr
  unfold Ieee.Format.word
  rw [sign_single]
  split <;> omega
theorem wrap_res {o : Option Ieee.Datum} (h : ∀ d, o = some d → d.isNaN = false) : IntKind.u64.wrap (res 2143289344 (o.map Ieee.single.write)) = res 2143289344 (o.map Ieee.single.write) := by
  cases o with
  | none => rfl
  | some d =>
    have := write_lt d (h d rfl)
    simp only [Option.map_some, res]
    exact wrapu_nat (by omega)

theorem root32_stub {a : Int} (ha : InW Ieee.single a) : float_Root_uint32.f a = some (res 2143289344 (Ieee.single.sqrt a.toNat)) := by
  obtain ⟨a0, a1⟩ := in32.1 ha
  unfold float_Root_uint32.f
  rw [_root_.Fl.read_nan _root_.Fl.good_single, sign_single, inf_single]
  by_cases hn : 2139095040 < a.toNat % 2147483648
  · rw [decide_eq_true hn]
    obtain ⟨s, t, hr⟩ := read_nan_at fx32 (b := a.toNat) (by rw [sign_single, inf_single]; exact hn)
    have e : Ieee.single.sqrt a.toNat = none := by unfold Ieee.Format.sqrt; rw [hr]; rfl
    rw [e]; rfl
  · rw [decide_eq_false hn]
    obtain ⟨h1, h2⟩ := root32_eq (a := a.toNat) (by omega) hn
    simp only [cond_false]
    cases hs : Ieee.double.sqrt (Fl.wid a.toNat) with
    | none =>
      rw [hs] at h2
      rw [← h2]; rfl
    | some y =>
      rw [hs] at h2
      simp only []
      rw [h1 y hs, beq_self_eq_true, cond_true, ← h2]; rfl

theorem FloatThin (l : List S39) (hm : l.length ≤ maxLen) (hw : ∀ y ∈ l, ∃ p q, y = S39.mk p q ∧ (Lit.int .u64 p).wf = true ∧ (Lit.int .u64 q).wf = true) : ∃ k, fathomlaw3_FloatThin.f k l = some true := by
  refine rounds_of (g := fun k i => fathomlaw3_FloatThin.l0 k l (i : Int)) (n := l.length) (fun i h => ?_) (fun i hi h2 ih => ?_)
  · refine Ev.step (f := fun k => fathomlaw3_FloatThin.j1 k l i false) (fun k => ?_) ?_
    · simp only [fathomlaw3_FloatThin.l0]
      by_cases hi : i < l.length
      · rw [if_pos (by omega), decide_eq_false (by omega)]
      · rw [if_neg (by omega)]
    · exact Ev.step (f := fun _ => some true) (fun k => by simp [fathomlaw3_FloatThin.j1, fathomlaw3_wakes.f]) (Ev.now true)
  · obtain ⟨a0, b0⟩ := rng hw hi
    have hwr := wrap_next hi hm
    refine Ev.step (f := fun k => fathomlaw3_FloatThin.j1 k l i true) (fun k => by simp only [fathomlaw3_FloatThin.l0]; rw [if_pos (by omega), decide_eq_true (by omega)]) ?_
    obtain ⟨a, ea⟩ : ∃ a, a = (rd_T39 l (i : Int)).f0 / 4294967296 % 4294967296 := ⟨_, rfl⟩
    obtain ⟨b, eb⟩ : ∃ b, b = (rd_T39 l (i : Int)).f1 / 4294967296 % 4294967296 := ⟨_, rfl⟩
    have ha : InW Ieee.single a := in32.2 (by omega)
    have hb : InW Ieee.single b := in32.2 (by omega)
    obtain ⟨K, H⟩ := ih
    obtain ⟨K1, H1⟩ := add_ev fx32 ha hb
    obtain ⟨K2, H2⟩ := sub_ev fx32 ha hb
    obtain ⟨K3, H3⟩ := mul_ev fx32 ha hb
    obtain ⟨K4, H4⟩ := div_ev fx32 ha hb
    obtain ⟨K5, H5⟩ := root_ev fx32 ha
    have w1 : IntKind.u64.wrap (res 2143289344 (Ieee.single.add a.toNat b.toNat)) = res 2143289344 (Ieee.single.add a.toNat b.toNat) := wrap_res (fun _ => _root_.Fl.sum_nan)
    have w2 : IntKind.u64.wrap (res 2143289344 (Ieee.single.sub a.toNat b.toNat)) = res 2143289344 (Ieee.single.sub a.toNat b.toNat) := wrap_res (fun _ => _root_.Fl.sum_nan)
    have w3 : IntKind.u64.wrap (res 2143289344 (Ieee.single.mul a.toNat b.toNat)) = res 2143289344 (Ieee.single.mul a.toNat b.toNat) := wrap_res (fun _ => _root_.Fl.product_nan)
    have w4 : IntKind.u64.wrap (res 2143289344 (Ieee.single.div a.toNat b.toNat)) = res 2143289344 (Ieee.single.div a.toNat b.toNat) := wrap_res (fun _ => _root_.Fl.quotient_nan)
    have w5 : IntKind.u64.wrap (res 2143289344 (Ieee.single.sqrt a.toNat)) = res 2143289344 (Ieee.single.sqrt a.toNat) := wrap_res (fun _ => _root_.Fl.root_nan)
    refine ⟨K + K1 + K2 + K3 + K4 + K5 + 2, fun k hk => ?_⟩
    obtain ⟨k, rfl⟩ : ∃ m, k = m + 2 := ⟨k - 2, by omega⟩
    dsimp only at H H1 H2 H3 H4 H5 ⊢
    rw [fathomlaw3_FloatThin.j1, if_pos rfl, if_pos (by omega), if_pos (by omega), ← ea, ← eb]
    simp only [float_Add_uint32.f, float_Sub_uint32.f, float_Mul_uint32.f, float_Div_uint32.f, Option.bind_some, res32_eq, root32_stub ha, w1, w2, w3, w4, w5]
    rw [H1 _ (by omega), Option.bind_some, if_pos rfl, H2 _ (by omega), Option.bind_some, if_pos rfl, H3 _ (by omega), Option.bind_some, if_pos rfl, H4 _ (by omega), Option.bind_some, if_pos rfl, H5 _ (by omega), Option.bind_some, if_pos rfl, hwr]
    exact H _ (by omega)
end Go.Proofs.Ytfloeiagdegpjaa.ZThin
