/- FloatRoots, over lists and whole numbers alone: a root lies between the middles. -/
import Derived.Test.YtfloeiagdegpjaaLRoots
import Derived.Test.YtfloeiagdegpjaaQe
namespace Go.Proofs.Ytfloeiagdegpjaa.ZRoots
open Go.RowKit Go.Proofs.YtfloeiagdegpjaaW.PrintWords Go.Proofs.Ytfloeiagdegpjaa.Rf Go.Proofs.Ytfloeiagdegpjaa.LRoots Go.Proofs.Ytfloeiagdegpjaa.Q
set_option linter.unusedVariables false
set_option linter.unusedSimpArgs false

theorem rd_wf {l : List Int} {k : IntKind} (hw : ∀ x ∈ l, (Lit.int k x).wf = true) {i : Nat} (hi : i < l.length) : (Lit.int k (rd l (i : Int))).wf = true := by
  unfold rd
  rw [Int.toNat_natCast, List.getD_eq_getElem?_getD, List.getElem?_eq_getElem hi]
  exact hw _ (List.getElem_mem hi)

theorem fin_pos {x : Int} (h0 : 0 ≤ x) (h1 : x < 9223372036854775808) : fathomlaw3_finite.f x = some (decide (x < 9218868437227405312)) := by
  unfold fathomlaw3_finite.f
  rw [Fl.andNot64 h0 (by omega), show x % 9223372036854775808 = x by omega]

theorem dv_nat {r : Nat} (h : r < 9223372036854775808) : dv (r : Int) = _root_.Fl.val Ieee.double r := by
  unfold dv; rw [Int.toNat_natCast, Nat.mod_eq_of_lt h]

theorem sgn_gt {a b : Nat} (h : a ≤ b) : decide (sgnN a b > 0) = false := by
  refine decide_eq_false ?_
  unfold sgnN
  split
  · omega
  · split <;> omega

theorem core {l : List Int} {i : Nat} (hi : i < l.length) (hm : l.length ≤ maxLen) (ih : Ev (fun k => fathomlaw3_FloatRoots.l0 k l ((i + 1 : Nat) : Int)) true)
    {x : Int} (x0 : 0 < x) (x1 : x < 9218868437227405312) :
    Ev (fun k => fathomlaw3_FloatRoots.j2 k l (i : Int) x false) true := by
  obtain ⟨r, hr0, hr, hsq, hlo, hhi⟩ := sqrt_between (x := x.toNat) (by omega) (by omega)
  have vx : dv x = _root_.Fl.val Ieee.double x.toNat := by unfold dv; rw [Nat.mod_eq_of_lt (by omega)]
  have vr : dv (r : Int) = _root_.Fl.val Ieee.double r := dv_nat (by omega)
  have vr1 : dv ((r + 1 : Nat) : Int) = _root_.Fl.val Ieee.double (r + 1) := dv_nat (by omega)
  have vr2 : dv ((r - 1 : Nat) : Int) = _root_.Fl.val Ieee.double (r - 1) := dv_nat (by omega)
  rw [← vx, ← vr, ← vr1] at hhi
  rw [← vx, ← vr, ← vr2] at hlo
  have hwr := wrap_next hi hm
  obtain ⟨K0, H0⟩ := ih
  obtain ⟨K1, H1⟩ := units_ev (x := x) (by omega) (by omega)
  obtain ⟨K2, H2⟩ := up2_ev (n := dv x) (a := 1076) (len_dv x) (by omega)
  obtain ⟨K4, H4⟩ := units_ev (x := (r : Int)) (by omega) (by omega)
  obtain ⟨K5, H5⟩ := units_ev (x := ((r + 1 : Nat) : Int)) (by omega) (by omega)
  obtain ⟨K6, H6⟩ := units_ev (x := ((r - 1 : Nat) : Int)) (by omega) (by omega)
  obtain ⟨K7, H7⟩ := sum_ev (len_dv (r : Int)) (len_dv ((r + 1 : Nat) : Int))
  obtain ⟨K8, H8⟩ := sum_ev (len_dv (r : Int)) (len_dv ((r - 1 : Nat) : Int))
  have dsum : ∀ p q : Int, dv p + dv q < 2 ^ 2101 := fun p q => by
    have h1 := dv_lt p
    have h2 := dv_lt q
    have h3 : 2 ^ 2100 + 2 ^ 2100 ≤ 2 ^ 2101 := by decide +kernel
    exact Nat.lt_of_lt_of_le (Nat.add_lt_add h1 h2) h3
  have lsum : ∀ p q : Int, (lim (dv p + dv q)).length < 1073741824 := fun p q => len_pow (dsum p q) (by omega)
  obtain ⟨K9, H9⟩ := times_ev (lsum (r : Int) ((r + 1 : Nat) : Int)) (lsum (r : Int) ((r + 1 : Nat) : Int))
  obtain ⟨K10, H10⟩ := times_ev (lsum (r : Int) ((r - 1 : Nat) : Int)) (lsum (r : Int) ((r - 1 : Nat) : Int))
  have dtimes : ∀ p q : Int, (dv p + dv q) * (dv p + dv q) < 2 ^ 5000 := fun p q =>
    Nat.lt_of_lt_of_le (Nat.mul_lt_mul_of_lt_of_le (dsum p q) (Nat.le_of_lt (dsum p q)) (by decide +kernel)) (by decide +kernel)
  have dup : dv x * 2 ^ 1076 < 2 ^ 5000 := Nat.lt_of_lt_of_le (Nat.mul_lt_mul_of_pos_right (dv_lt x) (by decide +kernel)) (by decide +kernel)
  obtain ⟨K11, H11⟩ := cmp_ev (b := (dv (r : Int) + dv ((r + 1 : Nat) : Int)) * (dv (r : Int) + dv ((r + 1 : Nat) : Int))) (len_pow dup (by omega))
  obtain ⟨K12, H12⟩ := cmp_ev (b := dv x * 2 ^ 1076) (len_pow (dtimes (r : Int) ((r - 1 : Nat) : Int)) (by omega))
  have hdv : float_Root_uint64.f x = some (r : Int) := by unfold float_Root_uint64.f; rw [hsq]; rfl
  have hfin : fathomlaw3_finite.f (r : Int) = some true := by
    rw [fin_pos (by omega) (by omega), decide_eq_true (by omega)]
  have hneg : (Go.bits .and .u64 (r : Int) 9223372036854775808 != 0) = false := by
    rw [and_sign64 (by omega) (by omega), if_pos (by omega)]; rfl
  have hp1 : IntKind.u64.wrap ((r : Int) + 1) = ((r + 1 : Nat) : Int) := by rw [wrap_u64]; omega
  have hm1 : IntKind.u64.wrap ((r : Int) - 1) = ((r - 1 : Nat) : Int) := by rw [wrap_u64]; omega
  have H2 : ∀ k, K2 ≤ k → fathomref3_Up2.f k (lim (dv x)) 1076 = some (lim (dv x * 2 ^ 1076)) := H2
  refine ⟨K0 + K1 + K2 + K4 + K5 + K6 + K7 + K8 + K9 + K10 + K11 + K12 + 4, fun k hk => ?_⟩
  obtain ⟨k, rfl⟩ : ∃ m, k = m + 4 := ⟨k - 4, by omega⟩
  dsimp only [-Nat.reducePow, -Int.reducePow] at H0 H1 H2 H4 H5 H6 H7 H8 H9 H10 H11 H12 ⊢
  have h : ¬ (r : Int) = 0 := by omega
  rw [fathomlaw3_FloatRoots.j2, if_neg (by decide), hdv, Option.bind_some, hfin, Option.bind_some, if_pos rfl, if_neg h, hneg]
  rw [fathomlaw3_FloatRoots.j3, if_neg (by decide), H4 _ (by omega), Option.bind_some, hm1, H6 _ (by omega), Option.bind_some, H8 _ (by omega), Option.bind_some, Option.bind_some,
    hp1, H5 _ (by omega), Option.bind_some, H7 _ (by omega), Option.bind_some, H1 _ (by omega), Option.bind_some, H2 _ (by omega), Option.bind_some, H10 _ (by omega), Option.bind_some, H12 _ (by omega), Option.bind_some,
    if_neg (of_decide_eq_false (sgn_gt hlo)), H9 _ (by omega), Option.bind_some, H11 _ (by omega), Option.bind_some, if_neg (of_decide_eq_false (sgn_gt hhi)), hwr]
  exact H0 _ (by omega)

theorem FloatRoots (l : List Int) (hm : l.length ≤ maxLen) (hw : ∀ x ∈ l, (Lit.int .u64 x).wf = true) : ∃ k, fathomlaw3_FloatRoots.f k l = some true := by
  refine rounds_of (g := fun k i => fathomlaw3_FloatRoots.l0 k l (i : Int)) (n := l.length) (fun i h => ?_) (fun i hi h2 ih => ?_)
  · refine Ev.step (f := fun k => fathomlaw3_FloatRoots.j1 k l i false) (fun k => ?_) ?_
    · simp only [fathomlaw3_FloatRoots.l0]
      by_cases hi : i < l.length
      · rw [if_pos (by omega), decide_eq_false (by omega)]
      · rw [if_neg (by omega)]
    · exact Ev.step (f := fun _ => some true) (fun k => by simp [fathomlaw3_FloatRoots.j1, fathomlaw3_wakes.f]) (Ev.now true)
  · obtain ⟨a0, a1⟩ := wf_u64 (rd_wf hw hi)
    have hwr := wrap_next hi hm
    refine Ev.step (f := fun k => fathomlaw3_FloatRoots.j1 k l i true) (fun k => by simp only [fathomlaw3_FloatRoots.l0]; rw [if_pos (by omega), decide_eq_true (by omega)]) ?_
    have ea := Fl.andNot64 a0 a1
    obtain ⟨x, hx⟩ : ∃ x, x = rd l (i : Int) % 9223372036854775808 := ⟨_, rfl⟩
    rw [← hx] at ea
    have x0 : 0 ≤ x ∧ x < 9223372036854775808 := by omega
    have skip : Ev (fun k => fathomlaw3_FloatRoots.j2 k l (i : Int) x true) true :=
      Ev.step (f := fun k => fathomlaw3_FloatRoots.l0 k l ((i + 1 : Nat) : Int)) (fun k => by rw [fathomlaw3_FloatRoots.j2, if_pos rfl, hwr]) ih
    by_cases hfx : x < 9218868437227405312
    · by_cases hzx : x = 0
      · refine Ev.step (fun k => ?_) skip
        rw [fathomlaw3_FloatRoots.j1, if_pos rfl, if_pos (by omega), if_pos (by omega), ea, fin_pos x0.1 x0.2, Option.bind_some, if_pos (decide_eq_true hfx), beq_iff_eq.2 hzx]
      · refine Ev.step (fun k => ?_) (core hi hm ih (show 0 < x by omega) hfx)
        rw [fathomlaw3_FloatRoots.j1, if_pos rfl, if_pos (by omega), if_pos (by omega), ea, fin_pos x0.1 x0.2, Option.bind_some, if_pos (decide_eq_true hfx), beq_eq_false_iff_ne.2 hzx]
    · refine Ev.step (fun k => ?_) skip
      rw [fathomlaw3_FloatRoots.j1, if_pos rfl, if_pos (by omega), if_pos (by omega), ea, fin_pos x0.1 x0.2, Option.bind_some, if_neg (by rw [decide_eq_false hfx]; decide)]
end Go.Proofs.Ytfloeiagdegpjaa.ZRoots
