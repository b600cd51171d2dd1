/- FloatTurns, over lists and whole numbers alone: in either order; x less x; the one NaN; there and back between the widths; twice. -/
import Derived.Test.YtfloeiagdegpjaaLTurns
import Derived.Test.YtfloeiagdegpjaaQs
namespace Go.Proofs.Ytfloeiagdegpjaa.ZTurns
open Go.RowKit Go.Proofs.YtfloeiagdegpjaaW.PrintWords Go.Proofs.Ytfloeiagdegpjaa.Rf Go.Proofs.Ytfloeiagdegpjaa.LTurns Go.Proofs.Ytfloeiagdegpjaa.Q
open Ieee (Datum Format)
set_option linter.unusedVariables false
set_option linter.unusedSimpArgs false

theorem sum_comm (x y : Datum) : x.sum y = y.sum x := by
  cases x with
  | nan _ _ => cases y <;> rfl
  | infinity s =>
    cases y with
    | nan _ _ => rfl
    | number _ _ _ => rfl
    | infinity t => cases s <;> cases t <;> rfl
  | number s m i =>
    cases y with
    | nan _ _ => rfl
    | infinity _ => rfl
    | number t n j =>
      simp only [Datum.sum]
      rw [Int.min_comm j i, Int.add_comm (Ieee.signed t n (j - min i j).toNat), Bool.and_comm t s]

theorem product_comm (x y : Datum) : x.product y = y.product x := by
  cases x with
  | nan _ _ => cases y <;> rfl
  | infinity s =>
    cases y with
    | nan _ _ => rfl
    | number _ _ _ => rfl
    | infinity t => simp only [Datum.product]; rw [Bool.xor_comm]
  | number s m i =>
    cases y with
    | nan _ _ => rfl
    | infinity _ => rfl
    | number t n j => simp only [Datum.product]; rw [Bool.xor_comm, Nat.mul_comm, Int.add_comm]

theorem add_comm' (f : Format) (a b : Nat) : f.add a b = f.add b a := by unfold Format.add; rw [sum_comm]
theorem mul_comm' (f : Format) (a b : Nat) : f.mul a b = f.mul b a := by unfold Format.mul; rw [product_comm]
theorem fma_comm' (f : Format) (a b c : Nat) : f.fma a b c = f.fma b a c := by unfold Format.fma; rw [product_comm]

theorem sub_flip {a b : Int} (hb : InW Ieee.double b) : Ieee.double.sub a.toNat b.toNat = Ieee.double.add a.toNat (Go.bits .xor .u64 b 9223372036854775808).toNat := by
  have h := (flip_word fx64 hb).2
  rw [sign_double] at h
  unfold Format.sub Format.add
  rw [show ((9223372036854775808 : Nat) : Int) = 9223372036854775808 from rfl] at h
  rw [h]

theorem sub_self {a : Int} (ha : InW Ieee.double a) (hf : a.toNat % 9223372036854775808 < 9218868437227405312) : Ieee.double.sub a.toNat a.toNat = some 0 := by
  obtain ⟨m, i, ra, _⟩ := parts_ev fx64 ha (by rw [sign_double, inf_double]; exact hf)
  unfold Format.sub
  rw [ra]
  generalize (a.toNat / Ieee.double.signWeight % 2 == 1) = s
  simp only [Datum.opposite, Datum.sum]
  have e : Ieee.signed s m (i - min i i).toNat + Ieee.signed (!s) m (i - min i i).toNat = 0 := by
    unfold Ieee.signed; cases s <;> simp <;> omega
  rw [e, if_pos rfl, Option.map_some]
  have e2 : (s && !s) = false := by cases s <;> rfl
  rw [e2]
  simp only [Format.write]
  unfold Ieee.Format.nearest
  rw [if_pos (by decide)]; rfl

/-- Twice a number. -/
theorem twice {a : Int} (ha : InW Ieee.double a) (hf : a.toNat % 9223372036854775808 < 9218868437227405312) : Ieee.double.mul a.toNat 4611686018427387904 = Ieee.double.add a.toNat a.toNat := by
  obtain ⟨m, i, ra, _⟩ := parts_ev fx64 ha (by rw [sign_double, inf_double]; exact hf)
  have r2 : Ieee.double.read 4611686018427387904 = .number false 4503599627370496 (-51) := by decide +kernel
  unfold Format.mul Format.add
  rw [ra, r2]
  generalize (a.toNat / Ieee.double.signWeight % 2 == 1) = s
  simp only [Datum.product, Datum.sum, Option.map_some, Format.write]
  have hz : (i - min i i).toNat = 0 := by omega
  rw [hz, Bool.xor_false, Bool.and_self, Int.min_self]
  rcases Nat.eq_zero_or_pos m with h0 | h0
  · have e : Ieee.signed s m 0 + Ieee.signed s m 0 = 0 := by rw [h0]; unfold Ieee.signed; cases s <;> rfl
    rw [if_pos e, e, h0]
    have n0 : ∀ p, Ieee.double.nearest s 0 p = Ieee.double.word s 0 := fun p => by unfold Ieee.Format.nearest; rw [if_pos rfl]
    rw [Nat.zero_mul, n0]
    exact congrArg some (n0 _).symm
  · have e : Ieee.signed s m 0 + Ieee.signed s m 0 ≠ 0 := by
      unfold Ieee.signed; rw [Nat.shiftLeft_zero]; cases s <;> simp <;> omega
    have e2 : (Ieee.signed s m 0 + Ieee.signed s m 0).natAbs = 2 * m := by
      unfold Ieee.signed; rw [Nat.shiftLeft_zero]; cases s <;> simp <;> omega
    have e3 : decide (Ieee.signed s m 0 + Ieee.signed s m 0 < 0) = s := by
      unfold Ieee.signed; rw [Nat.shiftLeft_zero]; cases s <;> simp <;> omega
    rw [if_neg e, e2, e3]
    obtain ⟨r1, h1, g1⟩ := _root_.Fl.nearest_exact Ieee.double (by decide) s (m * 4503599627370496) (i + -51)
    obtain ⟨r2, h2, g2⟩ := _root_.Fl.nearest_exact Ieee.double (by decide) s (2 * m) i
    rw [h1, h2]
    have key : ∀ c, ((_root_.Fl.frac Ieee.double (m * 4503599627370496) 1 (i + -51) Nat.one_pos).lo c ↔ (_root_.Fl.frac Ieee.double (2 * m) 1 i Nat.one_pos).lo c) ∧ ((_root_.Fl.frac Ieee.double (m * 4503599627370496) 1 (i + -51) Nat.one_pos).hi c ↔ (_root_.Fl.frac Ieee.double (2 * m) 1 i Nat.one_pos).hi c) := by
      intro c
      obtain ⟨x, y, hxy⟩ : ∃ x y : Nat, (x : Int) - y = i + -51 - Ieee.double.leastPlace := ⟨(i + -51 - Ieee.double.leastPlace).toNat, (-(i + -51 - Ieee.double.leastPlace)).toNat, by omega⟩
      have hxy2 : ((x + 51 : Nat) : Int) - y = i - Ieee.double.leastPlace := by omega
      have e4 : 2 * (m * 4503599627370496) * 2 ^ x = 2 * (2 * m) * 2 ^ (x + 51) := by
        rw [Nat.pow_add, show (2 : Nat) ^ 51 = 2251799813685248 by decide, show (4503599627370496 : Nat) = 2 * 2251799813685248 by decide]
        simp only [Nat.mul_assoc, Nat.mul_left_comm, Nat.mul_comm]
      constructor
      · rw [_root_.Fl.frac_lo Ieee.double _ 1 _ Nat.one_pos hxy, _root_.Fl.frac_lo Ieee.double _ 1 _ Nat.one_pos hxy2, e4]
      · rw [_root_.Fl.frac_hi Ieee.double _ 1 _ Nat.one_pos hxy, _root_.Fl.frac_hi Ieee.double _ 1 _ Nat.one_pos hxy2, e4]
    rw [(g1.congr (fun c => (key c).1) (fun c => (key c).2)).unique g2]

/-- There and back: numbers and infinities. -/
theorem back_num {a : Nat} (ha : a < 4294967296) (hn : ¬ 2139095040 < a % 2147483648) : floatToFloatBits .f64 (Fl.wid a) .f32 = some a ∧ ∃ s r, Fl.wid a = Ieee.double.word s r ∧ r ≤ 9218868437227405312 := by
  have hsw := sign_single
  have hiw := inf_single
  have hword := _root_.Fl.word_of Ieee.single (b := a) (by rw [hsw]; omega)
  rcases Nat.lt_or_ge (a % Ieee.single.signWeight) Ieee.single.infRung with hf | hf
  · obtain ⟨m, p, ra, hp, hv, hm⟩ := _root_.Fl.read_fin _root_.Fl.good_single a hf
    obtain ⟨R, hR, hvR, hw⟩ := _root_.Fl.widen_fin hf
    obtain ⟨m2, p2, rR, hp2, hv2, _⟩ := _root_.Fl.read_word_fin _root_.Fl.good_double (a / Ieee.single.signWeight % 2 == 1) hR
    have hwid : Fl.wid a = Ieee.double.word (a / Ieee.single.signWeight % 2 == 1) R := hw
    refine ⟨?_, _, R, hwid, by rw [inf_double] at hR; omega⟩
    rw [hwid]
    generalize (a / Ieee.single.signWeight % 2 == 1) = s at *
    obtain ⟨r, hr1, hr2⟩ := _root_.Fl.nearest_exact Ieee.single (by decide) s m2 p2
    have hself := _root_.Fl.near_self hf m p hp hv
    rw [least_single] at hp hv
    rw [least_double] at hp2 hv2
    have hr : r = a % Ieee.single.signWeight := by
      refine hr2.unique (hself.congr (fun c => ?_) (fun c => ?_))
      all_goals
        obtain ⟨E, hE⟩ : ∃ E : Nat, E = 925 := ⟨_, rfl⟩
        have h1 : (((p + 149).toNat : Nat) : Int) - ((0 : Nat) : Int) = p - Ieee.single.leastPlace := by rw [least_single]; omega
        have h2 : (((p2 + 1074).toNat : Nat) : Int) - (E : Int) = p2 - Ieee.single.leastPlace := by rw [least_single]; omega
        have e1 : m * 2 ^ (p + 149).toNat * 2 ^ E = m2 * 2 ^ (p2 + 1074).toNat := by
          have q1 : (p - -149) = p + 149 := by omega
          have q2 : (p2 - -1074) = p2 + 1074 := by omega
          rw [q1] at hv
          rw [q2] at hv2
          rw [← hv2, hvR, hv, hE]
        first
        | (rw [_root_.Fl.frac_lo Ieee.single m 1 p Nat.one_pos h1, _root_.Fl.frac_lo Ieee.single m2 1 p2 Nat.one_pos h2, Nat.pow_zero, Nat.mul_one, Nat.mul_one, Nat.mul_assoc 2 m2, ← e1, ← Nat.mul_assoc 2, ← Nat.mul_assoc 2, Nat.mul_le_mul_right_iff (Nat.two_pow_pos E)])
        | (rw [_root_.Fl.frac_hi Ieee.single m 1 p Nat.one_pos h1, _root_.Fl.frac_hi Ieee.single m2 1 p2 Nat.one_pos h2, Nat.pow_zero, Nat.mul_one, Nat.mul_one, Nat.mul_assoc 2 m2, ← e1, ← Nat.mul_assoc 2, ← Nat.mul_assoc 2, Nat.mul_le_mul_right_iff (Nat.two_pow_pos E)])
    have hr1' : Ieee.single.nearest s m2 p2 = a := by rw [hr1, hr, hword]
    have e1 : FloatKind.f64.decode (Ieee.double.word s R) = .number s m2 p2 := rR
    have e2 : FloatKind.f32.encode (.number s m2 p2) = a := hr1'
    have e3 : FloatKind.f32.decode a = .number s m p := ra
    unfold floatToFloatBits
    rw [if_neg (by decide), e1]
    simp only [e2, e3]
    rfl
  · have hinf : a % 2147483648 = 2139095040 := by rw [hsw, hiw] at hf; omega
    have h2 : a = 2139095040 ∨ a = 4286578688 := by omega
    rcases h2 with rfl | rfl
    · exact ⟨by decide +kernel, false, 9218868437227405312, by decide +kernel, Nat.le_refl _⟩
    · exact ⟨by decide +kernel, true, 9218868437227405312, by decide +kernel, Nat.le_refl _⟩

theorem or_top64 {k a b : Nat} (hb : b < 2 ^ k) (h : 2 ^ k * a + b < 18446744073709551616) : Go.bits .or .u64 ((2 ^ k * a : Nat) : Int) (b : Int) = ((2 ^ k * a + b : Nat) : Int) := by
  rw [u64_or _ _ (by omega) (by omega) (by omega) (by omega), Int.toNat_natCast, Int.toNat_natCast, ← Nat.two_pow_add_eq_or_of_lt hb a]
theorem or_top32 {k a b : Nat} (hb : b < 2 ^ k) (h : 2 ^ k * a + b < 4294967296) : Go.bits .or .u32 ((2 ^ k * a : Nat) : Int) (b : Int) = ((2 ^ k * a + b : Nat) : Int) := by
  rw [u32_or _ _ (by omega) (by omega) (by omega) (by omega), Int.toNat_natCast, Int.toNat_natCast, ← Nat.two_pow_add_eq_or_of_lt hb a]

/-- A NaN widened, its fraction laid on top. -/
theorem widenNan_eq {y : Nat} (hy : y < 4294967296) (hn : 2139095040 < y % 2147483648) :
    Fl.widenNan (y : Int) = ((y / 2147483648 * 9223372036854775808 + 9218868437227405312 + y % 8388608 * 536870912 : Nat) : Int) := by
  unfold Fl.widenNan
  have e1 : Go.bits .and .u32 (y : Int) 8388607 = ((y % 8388608 : Nat) : Int) := by
    have := and32_mask (u := y) (s := 23) hy (by omega)
    exact this
  have e2 : IntKind.u64.wrap (IntKind.u64.wrap ((y % 8388608 : Nat) : Int) * 536870912) = ((y % 8388608 * 536870912 : Nat) : Int) := by
    rw [wrapu_nat (by omega)]
    have : ((y % 8388608 : Nat) : Int) * 536870912 = ((y % 8388608 * 536870912 : Nat) : Int) := by omega
    rw [this]; exact wrapu_nat (by omega)
  have e3 : (y : Int) / 2147483648 * 9223372036854775808 = ((2 ^ 63 * (y / 2147483648) : Nat) : Int) := by
    rw [show (2 : Nat) ^ 63 = 9223372036854775808 by decide]; omega
  rw [e1, e2, e3, show (9218868437227405312 : Int) = ((9218868437227405312 : Nat) : Int) from rfl, or_top64 (k := 63) (by decide) (by rw [show (2 : Nat) ^ 63 = 9223372036854775808 by decide]; omega)]
  have e4 : 2 ^ 63 * (y / 2147483648) + 9218868437227405312 = 2 ^ 52 * (y / 2147483648 * 2048 + 2047) := by
    rw [show (2 : Nat) ^ 63 = 9223372036854775808 by decide, show (2 : Nat) ^ 52 = 4503599627370496 by decide]; omega
  rw [e4, or_top64 (k := 52) (by rw [show (2 : Nat) ^ 52 = 4503599627370496 by decide]; omega) (by rw [show (2 : Nat) ^ 52 = 4503599627370496 by decide]; omega)]
  refine congrArg (fun n : Nat => (n : Int)) ?_
  rw [show (2 : Nat) ^ 52 = 4503599627370496 by decide]; omega

theorem back_nan {y : Nat} (hy : y < 4294967296) (hn : 2139095040 < y % 2147483648) (hq : y / 4194304 % 2 = 1) :
    Fl.narrowNan (Fl.widenNan (y : Int)) = (y : Int) := by
  rw [widenNan_eq hy hn]
  obtain ⟨a, ha⟩ : ∃ a, a = y / 2147483648 * 9223372036854775808 + 9218868437227405312 + y % 8388608 * 536870912 := ⟨_, rfl⟩
  rw [← ha]
  unfold Fl.narrowNan
  have e1 : (a : Int) / 9223372036854775808 % 4294967296 * 2147483648 % 4294967296 = ((2 ^ 31 * (y / 2147483648) : Nat) : Int) := by
    rw [show (2 : Nat) ^ 31 = 2147483648 by decide]; omega
  have e2 : (a : Int) / 536870912 % 4294967296 = ((a / 536870912 % 4294967296 : Nat) : Int) := by omega
  have e3 : Go.bits .and .u32 ((a / 536870912 % 4294967296 : Nat) : Int) 4194303 = ((y % 4194304 : Nat) : Int) := by
    have := and32_mask (u := a / 536870912 % 4294967296) (s := 22) (by omega) (by omega)
    refine Eq.trans this ?_
    rw [show (2 : Nat) ^ 22 = 4194304 by decide]; congr 1; omega
  rw [e1, e2, e3, show (2143289344 : Int) = ((2143289344 : Nat) : Int) from rfl, or_top32 (k := 31) (by decide) (by rw [show (2 : Nat) ^ 31 = 2147483648 by decide]; omega)]
  have e4 : 2 ^ 31 * (y / 2147483648) + 2143289344 = 2 ^ 22 * (y / 2147483648 * 512 + 511) := by
    rw [show (2 : Nat) ^ 31 = 2147483648 by decide, show (2 : Nat) ^ 22 = 4194304 by decide]; omega
  rw [e4, or_top32 (k := 22) (by rw [show (2 : Nat) ^ 22 = 4194304 by decide]; omega) (by rw [show (2 : Nat) ^ 22 = 4194304 by decide]; omega)]
  refine congrArg (fun n : Nat => (n : Int)) ?_
  rw [show (2 : Nat) ^ 22 = 4194304 by decide]; omega

theorem rng {l : List S39} (hw : ∀ y ∈ l, ∃ p q, y = S39.mk p q ∧ (Lit.int .u64 p).wf = true ∧ (Lit.int .u64 q).wf = true) {i : Nat} (hi : i < l.length) :
    (0 ≤ (rd_T39 l (i : Int)).f0 ∧ (rd_T39 l (i : Int)).f0 < 18446744073709551616) ∧ (0 ≤ (rd_T39 l (i : Int)).f1 ∧ (rd_T39 l (i : Int)).f1 < 18446744073709551616) := by
  unfold rd_T39
  rw [Int.toNat_natCast, List.getD_eq_getElem?_getD, List.getElem?_eq_getElem hi]
  obtain ⟨p, q, e, h1, h2⟩ := hw _ (List.getElem_mem hi)
  rw [Option.getD_some, e]
  exact ⟨wf_u64 h1, wf_u64 h2⟩

theorem fin_eq {x : Int} (h0 : 0 ≤ x) (h1 : x < 18446744073709551616) : fathomlaw3_finite.f x = some (decide (x.toNat % 9223372036854775808 < 9218868437227405312)) := by
  unfold fathomlaw3_finite.f
  rw [Fl.andNot64 h0 h1]
  congr 1; exact decide_eq_decide.2 (by omega)
theorem nan_eq {x : Int} (h0 : 0 ≤ x) (h1 : x < 18446744073709551616) : fathomlaw3_nan.f x = some (decide (9218868437227405312 < x.toNat % 9223372036854775808)) := by
  unfold fathomlaw3_nan.f
  rw [Fl.andNot64 h0 h1]
  congr 1; exact decide_eq_decide.2 (by omega)

theorem nan_in {a b : Int} (ha : InW Ieee.double a) (hb : InW Ieee.double b) (h : 9218868437227405312 < a.toNat % 9223372036854775808 ∨ 9218868437227405312 < b.toNat % 9223372036854775808) :
    Ieee.double.add a.toNat b.toNat = none ∧ Ieee.double.div a.toNat b.toNat = none := by
  unfold Format.add Format.div
  rcases h with h | h
  · obtain ⟨s, t, hr⟩ := read_nan_at fx64 (b := a.toNat) (by rw [sign_double, inf_double]; exact h)
    rw [hr]; exact ⟨rfl, rfl⟩
  · obtain ⟨s, t, hr⟩ := read_nan_at fx64 (b := b.toNat) (by rw [sign_double, inf_double]; exact h)
    rw [hr]
    constructor
    · cases Ieee.double.read a.toNat <;> rfl
    · cases Ieee.double.read a.toNat <;> rfl

/-- A quiet NaN of binary32, by its class. -/
theorem quiet_of {y : Int} (h0 : 0 ≤ y) (h1 : y < 4294967296) (hn : 2139095040 < y.toNat % 2147483648) (hc : Fl.class32 y ≠ 5) : y.toNat / 4194304 % 2 = 1 := by
  rcases Nat.mod_two_eq_zero_or_one (y.toNat / 4194304) with h | h
  · exfalso
    apply hc
    unfold Fl.class32
    rw [Fl.andNot32 h0 h1]
    obtain ⟨z, hz⟩ : ∃ z, z = y % 2147483648 := ⟨_, rfl⟩
    rw [← hz]
    have hb : Go.bits .and .u32 z 4194304 = 0 := by
      rw [u32_and z _ (by omega) (by omega) (by omega) (by omega)]
      rw [show (4194304 : Int).toNat = 2 ^ 22 by decide, and_pow, Nat.testBit_eq_decide_div_mod_eq]
      have : z.toNat / 2 ^ 22 % 2 = 0 := by rw [show (2 : Nat) ^ 22 = 4194304 by decide]; omega
      rw [this]; rfl
    rw [hb, show (z == 0) = false from beq_eq_false_iff_ne.2 (by omega), decide_eq_false (show ¬ z < 8388608 by omega), decide_eq_false (show ¬ z < 2139095040 by omega), show (z == 2139095040) = false from beq_eq_false_iff_ne.2 (by omega)]
    rfl
  · exact h

theorem some_cast {o : Option Nat} {n : Nat} (h : o = some n) : o.map (fun r : Nat => (r : Int)) = some (n : Int) := by rw [h]; rfl

theorem narrow_of_nan {W : Nat} (h : W < 18446744073709551616) (hn : 9218868437227405312 < W % 9223372036854775808) : float_Narrow.f (W : Int) = some (Fl.narrowNan (W : Int)) := by
  have h0 : 0 ≤ (W : Int) := Int.natCast_nonneg _
  have h1 : (W : Int) < 18446744073709551616 := by omega
  have h2 : 9218868437227405312 < (W : Int) % 9223372036854775808 := by omega
  unfold float_Narrow.f
  rw [if_pos ⟨h0, h1⟩, isNan64_eq h0 h1, decide_eq_true h2, cond_true]

theorem narrow_of_num {W n : Nat} (h : W < 18446744073709551616) (hn : W % 9223372036854775808 ≤ 9218868437227405312) (hc : floatToFloatBits .f64 W .f32 = some n) : float_Narrow.f (W : Int) = some (n : Int) := by
  have h0 : 0 ≤ (W : Int) := Int.natCast_nonneg _
  have h1 : (W : Int) < 18446744073709551616 := by omega
  have h2 : ¬ 9218868437227405312 < (W : Int) % 9223372036854775808 := by omega
  unfold float_Narrow.f
  rw [if_pos ⟨h0, h1⟩, isNan64_eq h0 h1, decide_eq_false h2, cond_false, Int.toNat_natCast]
  exact some_cast hc

theorem wide_range {n : Nat} (hy : n < 4294967296) (hn : 2139095040 < n % 2147483648) :
    ∃ W : Nat, Fl.widenNan (n : Int) = (W : Int) ∧ W < 18446744073709551616 ∧ 9218868437227405312 < W % 9223372036854775808 := by
  refine ⟨_, widenNan_eq hy hn, ?_, ?_⟩ <;> omega

theorem word_range {s : Bool} {r : Nat} (hr : r ≤ 9218868437227405312) : Ieee.double.word s r < 18446744073709551616 ∧ Ieee.double.word s r % 9223372036854775808 = r := by
  unfold Ieee.Format.word
  rw [sign_double]
  split <;> omega

theorem back {y : Int} (h0 : 0 ≤ y) (h1 : y < 4294967296) (hc : Fl.class32 y ≠ 5) : ∃ t, float_Widen.f y = some t ∧ float_Narrow.f t = some y := by
  have hin : In32 y := ⟨h0, h1⟩
  obtain ⟨n, hyn, hn1⟩ : ∃ n : Nat, y = (n : Int) ∧ n < 4294967296 := ⟨y.toNat, by omega, by omega⟩
  have hisn := Fl.isNan32_read h0 h1
  rw [_root_.Fl.read_nan _root_.Fl.good_single, sign_single, inf_single] at hisn
  unfold float_Widen.f
  rw [if_pos hin, hisn]
  have htn : y.toNat = n := by rw [hyn]; exact Int.toNat_natCast n
  by_cases hnan : 2139095040 < y.toNat % 2147483648
  · have hq := quiet_of h0 h1 hnan hc
    rw [htn] at hnan hq
    obtain ⟨W, w1, w2, w3⟩ := wide_range hn1 hnan
    have hb := back_nan hn1 hnan hq
    rw [htn, decide_eq_true hnan, cond_true, hyn, w1]
    rw [w1] at hb
    exact ⟨_, rfl, by rw [narrow_of_nan w2 w3, hb]⟩
  · rw [htn] at hnan ⊢
    rw [decide_eq_false hnan, cond_false, hyn]
    obtain ⟨hc1, s, r, hwid, hr⟩ := back_num hn1 hnan
    obtain ⟨r2, r3⟩ := word_range (s := s) hr
    rw [← hwid] at r2 r3
    exact ⟨_, rfl, narrow_of_num r2 (by rw [r3]; exact hr) hc1⟩

theorem res64_eq (o : Option Nat) : Fl.res64 o = res 9221120237041090560 o := by cases o <;> rfl

theorem two_nat : (4611686018427387904 : Int).toNat = 4611686018427387904 := by decide

theorem mul_two {a : Int} (ha : InW Ieee.double a) (hf : a.toNat % 9223372036854775808 < 9218868437227405312) : float_Mul_uint64.f a 4611686018427387904 = float_Add_uint64.f a a := by
  unfold float_Mul_uint64.f float_Add_uint64.f
  rw [two_nat, twice ha hf]

theorem turn4 {l : List S39} {i : Nat} {a b : Int} (a0 : 0 ≤ a) (a1 : a < 18446744073709551616) (b0 : 0 ≤ b) (b1 : b < 18446744073709551616) (ha : InW Ieee.double a) (hb : InW Ieee.double b) (hwr : wrap64 ((i : Int) + 1) = ((i + 1 : Nat) : Int)) (ih : Ev (fun k => fathomlaw3_FloatTurns.l0 k l ((i + 1 : Nat) : Int)) true) : Ev (fun k => fathomlaw3_FloatTurns.j4 k l i a false) true := by
    refine Ev.step (fun k => ?_) ih
    rw [fathomlaw3_FloatTurns.j4, if_neg (by decide), fin_eq a0 a1, Option.bind_some]
    by_cases hf : a.toNat % 9223372036854775808 < 9218868437227405312
    · have hmul := mul_two ha hf
      obtain ⟨t, ht⟩ : ∃ t, float_Add_uint64.f a a = some t := ⟨_, rfl⟩
      obtain ⟨c, hc⟩ : ∃ c, fathomlaw3_finite.f t = some c := ⟨_, rfl⟩
      rw [if_pos (decide_eq_true hf), hmul, ht, Option.bind_some, hc, Option.bind_some, Option.bind_some, Option.bind_some, if_pos rfl, hwr]
      cases c with
      | true => rw [if_pos rfl]
      | false => rw [if_neg (by decide)]
    · rw [if_neg (by rw [decide_eq_false hf]; decide), hwr]

theorem turn3 {l : List S39} {i : Nat} {a b : Int} (a0 : 0 ≤ a) (a1 : a < 18446744073709551616) (b0 : 0 ≤ b) (b1 : b < 18446744073709551616) (ha : InW Ieee.double a) (hb : InW Ieee.double b) (hwr : wrap64 ((i : Int) + 1) = ((i + 1 : Nat) : Int)) (ih : Ev (fun k => fathomlaw3_FloatTurns.l0 k l ((i + 1 : Nat) : Int)) true) : Ev (fun k => fathomlaw3_FloatTurns.j3 k l i a false) true := by
    refine Ev.step (fun k => ?_) (turn4 a0 a1 b0 b1 ha hb hwr ih)
    have e : a / 4294967296 % 4294967296 = a / 4294967296 := by omega
    rw [fathomlaw3_FloatTurns.j3, if_neg (by decide), e]
    simp only [float_Class_uint32.f, Option.bind_some]
    by_cases hc : Fl.class32 (a / 4294967296) = 5
    · rw [if_pos hc]
    · obtain ⟨t, h1, h2⟩ := back (by omega) (by omega) hc
      rw [if_neg hc, h1, Option.bind_some, h2, Option.bind_some, bne_self_eq_false]

theorem turn2 {l : List S39} {i : Nat} {a b : Int} (a0 : 0 ≤ a) (a1 : a < 18446744073709551616) (b0 : 0 ≤ b) (b1 : b < 18446744073709551616) (ha : InW Ieee.double a) (hb : InW Ieee.double b) (hwr : wrap64 ((i : Int) + 1) = ((i + 1 : Nat) : Int)) (ih : Ev (fun k => fathomlaw3_FloatTurns.l0 k l ((i + 1 : Nat) : Int)) true) : Ev (fun k => fathomlaw3_FloatTurns.j2 k l i a b false) true := by
    refine Ev.step (fun k => ?_) (turn3 a0 a1 b0 b1 ha hb hwr ih)
    rw [fathomlaw3_FloatTurns.j2, if_neg (by decide)]
    simp only [float_Sub_uint64.f, float_Add_uint64.f, float_Div_uint64.f, Option.bind_some]
    rw [sub_flip hb, if_pos rfl, fin_eq a0 a1, nan_eq a0 a1, nan_eq b0 b1]
    simp only [Option.bind_some]
    have hr0 : Fl.res64 none = 9221120237041090560 := rfl
    have hr1 : Fl.res64 (some 0) = 0 := rfl
    by_cases hna : 9218868437227405312 < a.toNat % 9223372036854775808
    · obtain ⟨n1, n2⟩ := nan_in ha hb (Or.inl hna)
      rw [n1, n2, hr0, decide_eq_true hna, decide_eq_false (show ¬ a.toNat % 9223372036854775808 < 9218868437227405312 by omega)]
      simp only [Bool.false_eq_true, if_false, if_true, bne_self_eq_false]
    · rw [decide_eq_false hna]
      by_cases hnb : 9218868437227405312 < b.toNat % 9223372036854775808
      · obtain ⟨n1, n2⟩ := nan_in ha hb (Or.inr hnb)
        rw [n1, n2, hr0, decide_eq_true hnb]
        by_cases hf : a.toNat % 9223372036854775808 < 9218868437227405312
        · rw [decide_eq_true hf, sub_self ha hf, hr1]
          simp only [Bool.false_eq_true, if_false, if_true, bne_self_eq_false]
        · rw [decide_eq_false hf]
          simp only [Bool.false_eq_true, if_false, if_true, bne_self_eq_false]
      · rw [decide_eq_false hnb]
        by_cases hf : a.toNat % 9223372036854775808 < 9218868437227405312
        · rw [decide_eq_true hf, sub_self ha hf, hr1]
          simp only [Bool.false_eq_true, if_false, if_true]
        · rw [decide_eq_false hf]
          simp only [Bool.false_eq_true, if_false]

theorem FloatTurns (l : List S39) (hm : l.length ≤ maxLen) (hw : ∀ y ∈ l, ∃ p q, y = S39.mk p q ∧ (Lit.int .u64 p).wf = true ∧ (Lit.int .u64 q).wf = true) : ∃ k, fathomlaw3_FloatTurns.f k l = some true := by
  refine rounds_of (g := fun k i => fathomlaw3_FloatTurns.l0 k l (i : Int)) (n := l.length) (fun i h => ?_) (fun i hi h2 ih => ?_)
  · refine Ev.step (f := fun k => fathomlaw3_FloatTurns.j1 k l i false) (fun k => ?_) ?_
    · simp only [fathomlaw3_FloatTurns.l0]
      by_cases hi : i < l.length
      · rw [if_pos (by omega), decide_eq_false (by omega)]
      · rw [if_neg (by omega)]
    · exact Ev.step (f := fun _ => some true) (fun k => by simp [fathomlaw3_FloatTurns.j1, fathomlaw3_wakes.f]) (Ev.now true)
  · obtain ⟨⟨a0, a1⟩, ⟨b0, b1⟩⟩ := rng hw hi
    have hwr := wrap_next hi hm
    refine Ev.step (f := fun k => fathomlaw3_FloatTurns.j1 k l i true) (fun k => by simp only [fathomlaw3_FloatTurns.l0]; rw [if_pos (by omega), decide_eq_true (by omega)]) ?_
    obtain ⟨a, ea⟩ : ∃ a, a = (rd_T39 l (i : Int)).f0 := ⟨_, rfl⟩
    obtain ⟨b, eb⟩ : ∃ b, b = (rd_T39 l (i : Int)).f1 := ⟨_, rfl⟩
    rw [← ea] at a0 a1
    rw [← eb] at b0 b1
    have ha := in64.2 ⟨a0, a1⟩
    have hb := in64.2 ⟨b0, b1⟩
    refine Ev.step (fun k => ?_) (turn2 a0 a1 b0 b1 ha hb hwr ih)
    rw [fathomlaw3_FloatTurns.j1, if_pos rfl, if_pos (by omega), if_pos (by omega), ← ea, ← eb]
    simp only [float_Add_uint64.f, float_Mul_uint64.f, float_Fma.f, Option.bind_some]
    rw [add_comm' _ b.toNat, mul_comm' _ b.toNat, fma_comm' _ b.toNat, if_pos rfl, if_pos rfl, bne_self_eq_false]
end Go.Proofs.Ytfloeiagdegpjaa.ZTurns
