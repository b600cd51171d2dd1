/- FloatSteps, over lists and whole numbers alone: places there and back, Up and Down, what Cmp says by places. -/
import Derived.Test.YtfloeiagdegpjaaLSteps
import Derived.Test.YtfloeiagdegpjaaQb
namespace Go.Proofs.Ytfloeiagdegpjaa.ZSteps
open Go.RowKit Go.Proofs.YtfloeiagdegpjaaW.PrintWords Go.Proofs.Ytfloeiagdegpjaa.Rf Go.Proofs.Ytfloeiagdegpjaa.LSteps Go.Proofs.Ytfloeiagdegpjaa.Q
set_option linter.unusedVariables false
set_option linter.unusedSimpArgs false

theorem rng {l : List S39} (hw : ∀ y ∈ l, ∃ p q, y = S39.mk p q ∧ (Lit.int .u64 p).wf = true ∧ (Lit.int .u64 q).wf = true) {i : Nat} (hi : i < l.length) :
    (0 ≤ (rd_T39 l (i : Int)).f0 ∧ (rd_T39 l (i : Int)).f0 < 18446744073709551616) ∧ (0 ≤ (rd_T39 l (i : Int)).f1 ∧ (rd_T39 l (i : Int)).f1 < 18446744073709551616) := by
  unfold rd_T39
  rw [Int.toNat_natCast, List.getD_eq_getElem?_getD, List.getElem?_eq_getElem hi]
  obtain ⟨p, q, e, h1, h2⟩ := hw _ (List.getElem_mem hi)
  rw [Option.getD_some, e]
  exact ⟨wf_u64 h1, wf_u64 h2⟩

section
variable {a b : Int}
theorem back1 (a0 : 0 ≤ a) (a1 : a < 18446744073709551616) : Fl.ofKey64 (Fl.key64 a) = a := by
  rw [key64_eq a0 a1]
  split
  · rw [ofKey64_eq (by omega) (by omega), if_neg (by omega)]; omega
  · rw [ofKey64_eq (by omega) (by omega), if_pos (by omega)]; omega
theorem back2 (a0 : 0 ≤ a) (a1 : a < 18446744073709551616) : Fl.key64 (Fl.ofKey64 a) = a := by
  rw [ofKey64_eq a0 a1]
  split
  · rw [key64_eq (by omega) (by omega), if_neg (by omega)]; omega
  · rw [key64_eq (by omega) (by omega), if_pos (by omega)]; omega
theorem up_key (a0 : 0 ≤ a) (a1 : a < 18446744073709551616) (hn : ¬ 9218868437227405312 < a % 9223372036854775808) (hz : ¬ a % 9223372036854775808 = 0) (hi : ¬ a = 9218868437227405312) :
    Fl.key64 (Fl.up64 a) = IntKind.u64.wrap (Fl.key64 a + 1) := by
  have hr := up64_range a0 a1
  rw [key64_eq hr.1 hr.2, wrap_u64, key64_eq a0 a1, up64_eq a0 a1, if_neg hn, if_neg hi, if_neg hz]
  by_cases hs : a < 9223372036854775808
  · rw [if_pos hs, if_pos (by omega), if_pos hs]; omega
  · rw [if_neg hs, if_neg hs]
    by_cases hx : a - 1 < 9223372036854775808
    · exfalso; omega
    · rw [if_neg hx]; omega
theorem down_up (a0 : 0 ≤ a) (a1 : a < 18446744073709551616) (hn : ¬ 9218868437227405312 < a % 9223372036854775808) (hz : ¬ a % 9223372036854775808 = 0) (hi : ¬ a = 9218868437227405312) (hu : ¬ Fl.up64 a % 9223372036854775808 = 0) :
    Fl.down64 (Fl.up64 a) = a := by
  have hr := up64_range a0 a1
  rw [down64_eq hr.1 hr.2]
  rw [up64_eq a0 a1, if_neg hn, if_neg hi, if_neg hz] at hu ⊢
  by_cases hs : a < 9223372036854775808
  · rw [if_pos hs] at hu ⊢
    rw [if_neg (by omega)]
    have e : flip64 (a + 1) = a + 1 + 9223372036854775808 := by unfold flip64; rw [if_pos (by omega)]
    rw [e, up64_eq (by omega) (by omega), if_neg (by omega), if_neg (by omega), if_neg (by omega), if_neg (by omega)]
    unfold flip64; rw [if_neg (by omega)]; omega
  · rw [if_neg hs] at hu ⊢
    rw [if_neg (by omega)]
    have e : flip64 (a - 1) = a - 1 - 9223372036854775808 := by unfold flip64; rw [if_neg (by omega)]
    rw [e, up64_eq (by omega) (by omega), if_neg (by omega), if_neg (by omega), if_neg (by omega), if_pos (by omega)]
    unfold flip64; rw [if_pos (by omega)]; omega
theorem noughts (a0 : 0 ≤ a) (a1 : a < 18446744073709551616) (b0 : 0 ≤ b) (b1 : b < 18446744073709551616) (ha : a % 9223372036854775808 = 0) (hb : b % 9223372036854775808 = 0) :
    Go.bits .andNot .u64 (Go.bits .or .u64 a b) 9223372036854775808 = 0 := by
  have h1 : a = 0 ∨ a = 9223372036854775808 := by omega
  have h2 : b = 0 ∨ b = 9223372036854775808 := by omega
  rcases h1 with rfl | rfl <;> rcases h2 with rfl | rfl <;> decide +kernel
theorem key_inj (a0 : 0 ≤ a) (a1 : a < 18446744073709551616) (b0 : 0 ≤ b) (b1 : b < 18446744073709551616) : Fl.key64 a = Fl.key64 b ↔ a = b := by
  rw [key64_eq a0 a1, key64_eq b0 b1]
  split <;> split <;> omega
end

theorem nan_eq {a : Int} (a0 : 0 ≤ a) (a1 : a < 18446744073709551616) : fathomlaw3_nan.f a = some (decide (9218868437227405312 < a % 9223372036854775808)) := by
  unfold fathomlaw3_nan.f; rw [Fl.andNot64 a0 a1]

theorem last {l : List S39} {i : Nat} {a b : Int} (a0 : 0 ≤ a) (a1 : a < 18446744073709551616) (b0 : 0 ≤ b) (b1 : b < 18446744073709551616) (hn : ¬ 9218868437227405312 < a % 9223372036854775808)
    (hwr : wrap64 ((i : Int) + 1) = ((i + 1 : Nat) : Int)) {k : Nat} (ih : fathomlaw3_FloatSteps.l0 k l ((i + 1 : Nat) : Int) = some true) : fathomlaw3_FloatSteps.j3 (k + 1) l i a b false = some true := by
  simp only [fathomlaw3_FloatSteps.j3, Bool.false_eq_true, if_false]
  rw [fCmp64 a0 a1 b0 b1, nan_eq b0 b1]
  simp only [Option.bind_some, hwr]
  by_cases hb : 9218868437227405312 < b % 9223372036854775808
  · rw [if_pos (Or.inr hb), decide_eq_true hb]
    simp only [Bool.false_eq_true, if_false]
    rw [if_neg (by decide)]; exact ih
  · rw [if_neg (show ¬ (9218868437227405312 < a % 9223372036854775808 ∨ 9218868437227405312 < b % 9223372036854775808) by omega), decide_eq_false hb]
    simp only []
    rw [if_neg (by decide), if_pos trivial]
    by_cases hz : Go.bits .andNot .u64 (Go.bits .or .u64 a b) 9223372036854775808 = 0
    · rw [if_pos hz]; exact ih
    · rw [if_neg hz]
      have hnz : ¬ (a % 9223372036854775808 = 0 ∧ b % 9223372036854775808 = 0) := fun h => hz (noughts a0 a1 b0 b1 h.1 h.2)
      have hki := key_inj a0 a1 b0 b1
      simp only [float_Key_uint64.f, Option.bind_some]
      unfold cmpKey64 sgnOf
      rw [if_neg hnz]
      generalize Fl.key64 a = x at *
      generalize Fl.key64 b = y at *
      by_cases l1 : x < y
      · have e : (a == b) = false := beq_eq_false_iff_ne.2 (fun h => by have := hki.2 h; omega)
        rw [if_pos l1, decide_eq_true l1, e]
        rw [if_neg (by decide), if_neg (by decide)]; exact ih
      · rw [if_neg l1, decide_eq_false l1]
        by_cases l2 : y < x
        · have e : (a == b) = false := beq_eq_false_iff_ne.2 (fun h => by have := hki.2 h; omega)
          rw [if_pos l2, e, if_neg (by decide), if_neg (by decide)]; exact ih
        · have e : (a == b) = true := beq_iff_eq.2 (hki.1 (by omega))
          rw [if_neg l2, e, if_neg (by decide), if_neg (by decide)]; exact ih

theorem FloatSteps (l : List S39) (hm : l.length ≤ maxLen) (hw : ∀ y ∈ l, ∃ p q, y = S39.mk p q ∧ (Lit.int .u64 p).wf = true ∧ (Lit.int .u64 q).wf = true) : ∃ k, fathomlaw3_FloatSteps.f k l = some true := by
  refine rounds_of (g := fun k i => fathomlaw3_FloatSteps.l0 k l (i : Int)) (n := l.length) (fun i h => ?_) (fun i hi h2 ih => ?_)
  · refine Ev.step (f := fun k => fathomlaw3_FloatSteps.j1 k l i false) (fun k => ?_) ?_
    · simp only [fathomlaw3_FloatSteps.l0]
      by_cases hi : i < l.length
      · rw [if_pos (by omega), decide_eq_false (by omega)]
      · rw [if_neg (by omega)]
    · exact Ev.step (f := fun _ => some true) (fun k => by simp [fathomlaw3_FloatSteps.j1, fathomlaw3_wakes.f]) (Ev.now true)
  · obtain ⟨⟨a0, a1⟩, ⟨b0, b1⟩⟩ := rng hw hi
    have hwr := wrap_next hi hm
    refine Ev.step (f := fun k => fathomlaw3_FloatSteps.j1 k l i true) (fun k => by simp only [fathomlaw3_FloatSteps.l0]; rw [if_pos (by omega), decide_eq_true (by omega)]) ?_
    obtain ⟨K, hK⟩ := ih
    refine ⟨K + 4, fun k hk => ?_⟩
    obtain ⟨k, rfl⟩ : ∃ m, k = m + 3 := ⟨k - 3, by omega⟩
    simp only [fathomlaw3_FloatSteps.j1, if_true]
    rw [if_pos (by omega), if_pos (by omega)]
    generalize (rd_T39 l (i : Int)).f0 = a at *
    generalize (rd_T39 l (i : Int)).f1 = b at *
    simp only [float_Key_uint64.f, float_OfKey_uint64.f, Option.bind_some, back1 a0 a1, back2 a0 a1, if_true, bne_self_eq_false, fathomlaw3_FloatSteps.j2, Bool.false_eq_true, if_false]
    rw [nan_eq a0 a1]
    simp only [Option.bind_some, decide_eq_true_eq]
    by_cases hn : 9218868437227405312 < a % 9223372036854775808
    · rw [if_pos hn]
      have e1 : Fl.up64 a = 9221120237041090560 := by rw [up64_eq a0 a1, if_pos hn]
      have e2 : Fl.down64 a = 9221120237041090560 := by rw [down64_eq a0 a1, if_pos hn]
      simp only [float_Up_uint64.f, float_Down_uint64.f, Option.bind_some, e1, e2, if_true, hwr]
      exact hK _ (by omega)
    · rw [if_neg hn, Fl.andNot64 a0 a1]
      have fin : fathomlaw3_FloatSteps.j3 (k + 1) l i a b false = some true := last a0 a1 b0 b1 hn hwr (hK _ (by omega))
      simp only [float_Up_uint64.f, Option.bind_some]
      by_cases hz : a % 9223372036854775808 = 0
      · rw [if_pos hz]; exact fin
      · rw [if_neg hz]
        by_cases hi : a = 9218868437227405312
        · rw [if_pos hi]; exact fin
        · rw [if_neg hi, up_key a0 a1 hn hz hi, if_pos rfl]
          have hr := up64_range a0 a1
          rw [Fl.andNot64 hr.1 hr.2]
          by_cases hu : Fl.up64 a % 9223372036854775808 = 0
          · rw [if_pos hu]; exact fin
          · rw [if_neg hu]
            simp only [float_Down_uint64.f, Option.bind_some, down_up a0 a1 hn hz hi hu, bne_self_eq_false]
            exact fin
end Go.Proofs.Ytfloeiagdegpjaa.ZSteps
