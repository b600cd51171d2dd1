/- What a word stands for, as limbs: units and top. And what binary64's quotient and root lie between. No program runs here. -/
import Derived.Test.YtfloeiagdegpjaaQd
import Derived.Test.YtfloeiagdegpjaaPd
import Derived.Test.YtfloeiagdegpjaaRe
namespace Go.Proofs.Ytfloeiagdegpjaa.Q
open Go.RowKit Go.Proofs.YtfloeiagdegpjaaW.PrintWords Go.Proofs.Ytfloeiagdegpjaa.Rf
set_option linter.unusedVariables false
set_option linter.unusedSimpArgs false

theorem and_mask {k : Nat} {x : Int} (h0 : 0 ≤ x) (h1 : x < 18446744073709551616) (hk : k < 64) {m : Int} (hm : m = ((2 ^ k - 1 : Nat) : Int)) : Go.bits .and .u64 x m = ((x.toNat % 2 ^ k : Nat) : Int) := by
  have hp : 2 ^ k ≤ 2 ^ 63 := Nat.pow_le_pow_right (by omega) (by omega)
  have hq : 2 ^ 63 = 9223372036854775808 := by decide
  have hr := Nat.two_pow_pos k
  rw [hm, u64_and _ _ h0 h1 (by omega) (by omega), Int.toNat_natCast, Nat.and_two_pow_sub_one_eq_mod]

/-- A double's number in least places. -/
def dv (x : Int) : Nat := _root_.Fl.val Ieee.double (x.toNat % 9223372036854775808)

theorem dv_lt (x : Int) : dv x < 2 ^ 2100 := by
  unfold dv
  have h : x.toNat % 9223372036854775808 ≤ 9223372036854775807 := by omega
  refine Nat.lt_of_le_of_lt (_root_.Fl.val_mono Ieee.double h) ?_
  decide +kernel

theorem len_pow {n k : Nat} (h : n < 2 ^ k) (hk : k < 30000000) : (lim n).length < 1073741824 := by
  have e : B32 ^ (k / 32 + 1) = 2 ^ (32 * (k / 32 + 1)) := by rw [Nat.pow_mul]
  have : n < B32 ^ (k / 32 + 1) := by
    rw [e]
    exact Nat.lt_of_lt_of_le h (Nat.pow_le_pow_right (by omega) (by omega))
  have := len_le this
  omega

theorem p1075 : (2 : Nat) ^ 1075 = 2 * 2 ^ 1074 := by decide +kernel
theorem p1076 : (2 : Nat) ^ 1076 = 4 * 2 ^ 1074 := by decide +kernel

theorem len_dv (x : Int) : (lim (dv x)).length < 1073741824 := len_pow (dv_lt x) (by omega)

theorem dv_small {x : Int} (h : x.toNat % 9223372036854775808 < 4503599627370496) : dv x = x.toNat % 4503599627370496 := by
  unfold dv _root_.Fl.val
  have hb : Ieee.double.binade = 4503599627370496 := by decide
  rw [hb, if_pos h]
  omega

theorem dv_great {x : Int} (h : ¬ x.toNat % 9223372036854775808 < 4503599627370496) : dv x = (x.toNat % 4503599627370496 + 4503599627370496) * 2 ^ (x.toNat / 4503599627370496 % 2048 - 1) := by
  unfold dv _root_.Fl.val
  have hb : Ieee.double.binade = 4503599627370496 := by decide
  rw [hb, if_neg h]
  have e1 : x.toNat % 9223372036854775808 % 4503599627370496 = x.toNat % 4503599627370496 := by omega
  have e2 : x.toNat % 9223372036854775808 / 4503599627370496 = x.toNat / 4503599627370496 % 2048 := by omega
  rw [e1, e2, Nat.add_comm]

theorem units_ev {x : Int} (h0 : 0 ≤ x) (h1 : x < 18446744073709551616) : Ev (fun k => fathomlaw3_units.f k x) (lim (dv x)) := by
  have m1 : Go.bits .and .u64 (x / 4503599627370496) 2047 = ((x.toNat / 4503599627370496 % 2048 : Nat) : Int) := by
    rw [and_mask (k := 11) (by omega) (by omega) (by omega) (by decide)]
    congr 2; omega
  have m2 : Go.bits .and .u64 x 4503599627370495 = ((x.toNat % 4503599627370496 : Nat) : Int) :=
    and_mask (k := 52) h0 h1 (by omega) (by decide)
  have m3 : Go.bits .or .u64 ((x.toNat % 4503599627370496 : Nat) : Int) 4503599627370496 = ((x.toNat % 4503599627370496 + 4503599627370496 : Nat) : Int) :=
    or_low (k := 52) (a := x.toNat % 4503599627370496) (b := 1) (Nat.mod_lt _ (by decide)) (by omega)
  by_cases h : x.toNat % 9223372036854775808 < 4503599627370496
  · have hof := of_ev (a := ((x.toNat % 4503599627370496 : Nat) : Int)) (Int.natCast_nonneg _) (by omega)
    rw [Int.toNat_natCast] at hof
    rw [dv_small h]
    refine Ev.congr (fun k => ?_) (Ev.bind hof (Ev.now _))
    unfold fathomlaw3_units.f
    rw [m1, if_pos (by omega), m2]
  · have hof := of_ev (a := ((x.toNat % 4503599627370496 + 4503599627370496 : Nat) : Int)) (Int.natCast_nonneg _) (by omega)
    rw [Int.toNat_natCast] at hof
    have hlen : (lim (x.toNat % 4503599627370496 + 4503599627370496)).length < 1073741824 := len_pow (k := 64) (by omega) (by omega)
    have hup := up2_ev (n := x.toNat % 4503599627370496 + 4503599627370496) (a := x.toNat / 4503599627370496 % 2048 - 1) hlen (by omega)
    rw [← dv_great h] at hup
    refine Ev.congr (fun k => ?_) (Ev.bind (f := fun k t => (fathomref3_Up2.f k t ((x.toNat / 4503599627370496 % 2048 - 1 : Nat) : Int)).bind some) hof (Ev.bind hup (Ev.now _)))
    unfold fathomlaw3_units.f
    have hw : wrap64 (wrap64 ((x.toNat / 4503599627370496 % 2048 : Nat) : Int) - 1) = ((x.toNat / 4503599627370496 % 2048 - 1 : Nat) : Int) := by
      rw [wrap64_nat (n := x.toNat / 4503599627370496 % 2048) (by omega), wrap64_id (by omega) (by omega)]; omega
    rw [m1, if_neg (by omega), m2, m3, hw]

theorem top_ev {x : Int} (h0 : 0 ≤ x) (h1 : x < 18446744073709551616) : Ev (fun k => fathomlaw3_top.f k x) (lim (dv x)) := by
  by_cases h : x = 9218868437227405312
  · have hof := of_ev (a := 1) (by omega) (by omega)
    have hup := up2_ev (n := 1) (a := 2098) (len_pow (k := 1) (by omega) (by omega)) (by omega)
    have e : dv x = 1 * 2 ^ 2098 := by rw [h]; decide +kernel
    rw [e]
    refine Ev.congr (fun k => ?_) (Ev.bind (f := fun k t => (fathomref3_Up2.f k t 2098).bind some) hof (Ev.bind hup (Ev.now _)))
    unfold fathomlaw3_top.f
    rw [if_pos h]
  · refine Ev.congr (fun k => ?_) (Ev.bind (units_ev h0 h1) (Ev.now _))
    unfold fathomlaw3_top.f
    rw [if_neg h]

/-! Between the middles -/
theorem inf_double : Ieee.double.infRung = 9218868437227405312 := by decide
theorem sign_double : Ieee.double.signWeight = 9223372036854775808 := by decide
theorem least_double : Ieee.double.leastPlace = -1074 := by decide

theorem word_plus (r : Nat) : Ieee.double.word false r = r := by simp [Ieee.Format.word]

theorem read_plus {x : Nat} (hx : x < 9218868437227405312) : ∃ m p, Ieee.double.read x = .number false m p ∧ -1074 ≤ p ∧ _root_.Fl.val Ieee.double x = m * 2 ^ (p + 1074).toNat := by
  obtain ⟨m, p, h1, h2, h3, _⟩ := _root_.Fl.read_fin _root_.Fl.good_double x (by rw [sign_double, inf_double]; omega)
  rw [sign_double] at h1 h3
  have e1 : x % 9223372036854775808 = x := by omega
  have e2 : (x / 9223372036854775808 % 2 == 1) = false := by
    have : x / 9223372036854775808 = 0 := by omega
    rw [this]; rfl
  rw [e2] at h1
  rw [e1, least_double] at h3
  rw [least_double] at h2
  exact ⟨m, p, h1, h2, by rw [h3]; congr 2⟩

theorem div_between {x y : Nat} (hx : x < 9218868437227405312) (hy : y < 9218868437227405312) (hy0 : y ≠ 0) :
    ∃ r, r ≤ 9218868437227405312 ∧ Ieee.double.div x y = some r ∧
      (0 < r → (_root_.Fl.val Ieee.double r + _root_.Fl.val Ieee.double (r - 1)) * _root_.Fl.val Ieee.double y ≤ _root_.Fl.val Ieee.double x * 2 ^ 1075) ∧
      (r < 9218868437227405312 → _root_.Fl.val Ieee.double x * 2 ^ 1075 ≤ (_root_.Fl.val Ieee.double r + _root_.Fl.val Ieee.double (r + 1)) * _root_.Fl.val Ieee.double y) := by
  obtain ⟨m, i, rx, hi, vx⟩ := read_plus hx
  obtain ⟨n, j, ry, hj, vy⟩ := read_plus hy
  have hn : 0 < n := by
    rcases Nat.eq_zero_or_pos n with h | h
    · exfalso
      rw [h, Nat.zero_mul] at vy
      have := _root_.Fl.val_pos (f := Ieee.double) (r := y) (by omega)
      omega
    · exact h
  obtain ⟨r, h1, h2⟩ := _root_.Fl.div_numbers Ieee.double (by decide) false false m n i j hn
  have hle := h2.le
  rw [inf_double] at hle
  have hab : (((i + 1074).toNat + 1074 : Nat) : Int) - ((j + 1074).toNat : Nat) = i - j - Ieee.double.leastPlace := by rw [least_double]; omega
  refine ⟨r, hle, ?_, fun h => ?_, fun h => ?_⟩
  · show ((Ieee.double.read x).quotient (Ieee.double.fractionBits + 2) (Ieee.double.read y)).map Ieee.double.write = _
    rw [rx, ry, h1]
    exact congrArg some (word_plus r)
  · have := (_root_.Fl.frac_lo Ieee.double m n (i - j) hn hab _).1 (h2.low h).1
    rw [Nat.mul_assoc, ← vy] at this
    refine Nat.le_trans (Nat.le_of_eq ?_) (Nat.le_trans this (Nat.le_of_eq ?_))
    · rw [Nat.add_comm]
    · rw [vx, Nat.pow_add, p1075]
      generalize (2 : Nat) ^ 1074 = P
      simp only [Nat.mul_assoc, Nat.mul_left_comm, Nat.mul_comm]
  · have := (_root_.Fl.frac_hi Ieee.double m n (i - j) hn hab _).1 (h2.high (by rw [inf_double]; exact h)).1
    rw [Nat.mul_assoc _ n, ← vy] at this
    refine Nat.le_trans (Nat.le_of_eq ?_) this
    rw [vx, Nat.pow_add, p1075]
    generalize (2 : Nat) ^ 1074 = P
    simp only [Nat.mul_assoc, Nat.mul_left_comm, Nat.mul_comm]

theorem no_root {v P : Nat} (hv : 0 < v) (hP : 1 < P) (h : v * P ≤ 1 * 1) : False := by
  have : 1 * P ≤ v * P := Nat.mul_le_mul_right _ hv
  omega

theorem sqrt_between {x : Nat} (hx : x < 9218868437227405312) (hx0 : x ≠ 0) :
    ∃ r, 0 < r ∧ r < 9218868437227405312 ∧ Ieee.double.sqrt x = some r ∧
      (_root_.Fl.val Ieee.double r + _root_.Fl.val Ieee.double (r - 1)) * (_root_.Fl.val Ieee.double r + _root_.Fl.val Ieee.double (r - 1)) ≤ _root_.Fl.val Ieee.double x * 2 ^ 1076 ∧
      _root_.Fl.val Ieee.double x * 2 ^ 1076 ≤ (_root_.Fl.val Ieee.double r + _root_.Fl.val Ieee.double (r + 1)) * (_root_.Fl.val Ieee.double r + _root_.Fl.val Ieee.double (r + 1)) := by
  obtain ⟨m, i, rx, hi, vx⟩ := read_plus hx
  have hm : 0 < m := by
    rcases Nat.eq_zero_or_pos m with h | h
    · exfalso
      rw [h, Nat.zero_mul] at vx
      have := _root_.Fl.val_pos (f := Ieee.double) (r := x) (by omega)
      omega
    · exact h
  obtain ⟨r, h1, h2⟩ := _root_.Fl.sqrt_number Ieee.double (by decide) m i hm
  have hle := h2.le
  rw [inf_double] at hle
  have hab : (((i + 1074).toNat + 1074 : Nat) : Int) - (0 : Nat) = i - 2 * Ieee.double.leastPlace := by rw [least_double]; omega
  have e : 4 * m * 2 ^ ((i + 1074).toNat + 1074) = _root_.Fl.val Ieee.double x * 2 ^ 1076 := by
    rw [vx, Nat.pow_add, p1076]
    generalize (2 : Nat) ^ 1074 = P
    simp only [Nat.mul_assoc, Nat.mul_left_comm, Nat.mul_comm]
  have lo : ∀ c, (_root_.Fl.rootOf Ieee.double m i).lo c → c * c ≤ _root_.Fl.val Ieee.double x * 2 ^ 1076 := fun c h => by
    have := (_root_.Fl.rootOf_lo Ieee.double m i hab c).1 h
    rw [Nat.pow_zero, Nat.mul_one, e] at this; exact this
  have hi' : ∀ c, (_root_.Fl.rootOf Ieee.double m i).hi c → _root_.Fl.val Ieee.double x * 2 ^ 1076 ≤ c * c := fun c h => by
    have := (_root_.Fl.rootOf_hi Ieee.double m i hab c).1 h
    rw [Nat.pow_zero, Nat.mul_one, e] at this; exact this
  have hr0 : 0 < r := by
    rcases Nat.eq_zero_or_pos r with h | h
    · exfalso
      have := hi' _ (h2.high (by rw [h, inf_double]; decide)).1
      rw [h] at this
      have e1 : _root_.Fl.val Ieee.double 0 + _root_.Fl.val Ieee.double (0 + 1) = 1 := by decide +kernel
      rw [e1] at this
      have hp := _root_.Fl.val_pos (f := Ieee.double) (r := x) (by omega)
      exact no_root hp (by decide +kernel) this
    · exact h
  have hr1 : r < 9218868437227405312 := by
    rcases Nat.lt_or_ge r 9218868437227405312 with h | h
    · exact h
    · exfalso
      have hr : r = Ieee.double.infRung := by rw [inf_double]; omega
      have h3 := lo _ (h2.low hr0).1
      have h4 : _root_.Fl.val Ieee.double r * _root_.Fl.val Ieee.double r ≤ _root_.Fl.val Ieee.double x * 2 ^ 1076 :=
        Nat.le_trans (Nat.mul_le_mul (Nat.le_add_left _ _) (Nat.le_add_left _ _)) h3
      rw [hr, _root_.Fl.val_inf_double] at h4
      have h5 : _root_.Fl.val Ieee.double x ≤ 2 ^ 2098 := by
        rw [← _root_.Fl.val_inf_double]
        exact _root_.Fl.val_mono Ieee.double (by rw [inf_double]; omega)
      have h6 := Nat.le_trans h4 (Nat.mul_le_mul_right _ h5)
      have h7 : ¬ 2 ^ 2098 * 2 ^ 2098 ≤ 2 ^ 2098 * 2 ^ 1076 := by decide +kernel
      exact h7 h6
  refine ⟨r, hr0, hr1, ?_, ?_, ?_⟩
  · show ((Ieee.double.read x).root (Ieee.double.fractionBits + 2)).map Ieee.double.write = _
    rw [rx, h1]
    exact congrArg some (word_plus r)
  · have := lo _ (h2.low hr0).1
    rw [Nat.add_comm] at this; exact this
  · exact hi' _ (h2.high (by rw [inf_double]; exact hr1)).1
end Go.Proofs.Ytfloeiagdegpjaa.Q
