/- Bits as whole numbers, and the reference's classes, places, next numbers: they are package float's own. No program runs here. -/
import Derived.Test.YtfloeiagdegpjaaDoorSt
import Derived.Test.YtfloeiagdegpjaaDoorRd
namespace Go.Proofs.YtfloeiagdegpjaaDoor.Q
open Go.RowKit Go.Proofs.YtfloeiagdegpjaaDoorW.PrintWords Go.Proofs.YtfloeiagdegpjaaDoor.Rf
set_option linter.unusedVariables false
set_option linter.unusedSimpArgs false

theorem testBit_sum {n k : Nat} (h : n < 2 ^ k) : (n + 2 ^ k) = n ||| 2 ^ k := by
  have := Nat.two_pow_add_eq_or_of_lt h 1
  rw [Nat.mul_one] at this
  rw [Nat.add_comm, this, Nat.or_comm]

theorem and_pow (n k : Nat) : n &&& 2 ^ k = if n.testBit k = true then 2 ^ k else 0 := by
  apply Nat.eq_of_testBit_eq
  intro i
  rw [Nat.testBit_and, Nat.testBit_two_pow]
  by_cases hi : k = i
  · subst hi
    cases h : n.testBit k with
    | true => rw [if_pos rfl, Nat.testBit_two_pow]; simp
    | false => rw [if_neg (by decide)]; simp
  · have : decide (k = i) = false := decide_eq_false hi
    rw [this, Bool.and_false]
    split
    · rw [Nat.testBit_two_pow, this]
    · simp

theorem xor_pow {n k : Nat} (hn : n < 2 ^ k) : n ^^^ 2 ^ k = n + 2 ^ k := by
  rw [testBit_sum hn]
  apply Nat.eq_of_testBit_eq
  intro i
  rw [Nat.testBit_xor, Nat.testBit_or]
  by_cases hi : i = k
  · have : n.testBit i = false := Nat.testBit_lt_two_pow (by rw [hi]; exact hn)
    rw [this]; simp
  · have : (2 ^ k).testBit i = false := by rw [Nat.testBit_two_pow]; simp; omega
    rw [this]; simp

theorem not_pow {n k : Nat} (hx : n < 2 ^ k) : (2 ^ k - 1) ^^^ n = 2 ^ k - 1 - n := by
  apply Nat.eq_of_testBit_eq
  intro i
  rw [Nat.testBit_xor, Nat.testBit_two_pow_sub_one]
  have : 2 ^ k - 1 - n = 2 ^ k - (n + 1) := by omega
  rw [this, Nat.testBit_two_pow_sub_succ hx]
  by_cases hi : i < k
  · simp [hi]
  · have : n.testBit i = false := Nat.testBit_lt_two_pow (Nat.lt_of_lt_of_le hx (Nat.pow_le_pow_right (by omega) (by omega)))
    simp [hi, this]

section
variable {x : Int}
theorem or_sign64 (h0 : 0 ≤ x) (h1 : x < 9223372036854775808) : Go.bits .or .u64 x 9223372036854775808 = x + 9223372036854775808 := by
  rw [u64_or x _ h0 (by omega) (by omega) (by omega)]
  have e2 : (9223372036854775808 : Int).toNat = 2 ^ 63 := by decide
  rw [e2, ← testBit_sum (show x.toNat < 2 ^ 63 by omega)]; omega
theorem and_sign64 (h0 : 0 ≤ x) (h1 : x < 18446744073709551616) : Go.bits .and .u64 x 9223372036854775808 = if x < 9223372036854775808 then 0 else 9223372036854775808 := by
  rw [u64_and x _ h0 h1 (by omega) (by omega)]
  have e2 : (9223372036854775808 : Int).toNat = 2 ^ 63 := by decide
  rw [e2, and_pow, Nat.testBit_eq_decide_div_mod_eq]
  by_cases h : x < 9223372036854775808
  · have : x.toNat / 2 ^ 63 = 0 := by omega
    rw [this, if_pos h]; rfl
  · have : x.toNat / 2 ^ 63 = 1 := by omega
    rw [this, if_neg h]; rfl
theorem not64 (h0 : 0 ≤ x) (h1 : x < 18446744073709551616) : Go.bits .xor .u64 IntKind.u64.max x = 18446744073709551615 - x := by
  have e : IntKind.u64.max = 18446744073709551615 := by decide
  rw [e, u64_xor _ x (by omega) (by omega) h0 h1]
  have e2 : (18446744073709551615 : Int).toNat = 2 ^ 64 - 1 := by decide
  rw [e2, not_pow (by omega)]; omega
theorem xor_sign64 (h0 : 0 ≤ x) (h1 : x < 18446744073709551616) : Go.bits .xor .u64 x 9223372036854775808 = if x < 9223372036854775808 then x + 9223372036854775808 else x - 9223372036854775808 := by
  rw [u64_xor x _ h0 h1 (by omega) (by omega)]
  have e2 : (9223372036854775808 : Int).toNat = 2 ^ 63 := by decide
  rw [e2]
  split
  · rw [xor_pow (by omega)]; omega
  · have hx : x.toNat = (x.toNat - 2 ^ 63) ^^^ 2 ^ 63 := by rw [xor_pow (by omega)]; omega
    rw [hx, Nat.xor_assoc, Nat.xor_self, Nat.xor_zero]; omega

theorem isNan64_eq (h0 : 0 ≤ x) (h1 : x < 18446744073709551616) : Fl.isNan64 x = decide (9218868437227405312 < x % 9223372036854775808) := by
  unfold Fl.isNan64; rw [Fl.andNot64 h0 h1]
theorem key64_eq (h0 : 0 ≤ x) (h1 : x < 18446744073709551616) : Fl.key64 x = if x < 9223372036854775808 then x + 9223372036854775808 else 18446744073709551615 - x := by
  unfold Fl.key64
  rw [and_sign64 h0 h1]
  by_cases h : x < 9223372036854775808
  · rw [if_pos h, if_pos h]; exact or_sign64 h0 h
  · rw [if_neg h, if_neg h]; exact not64 h0 h1
theorem ofKey64_eq (h0 : 0 ≤ x) (h1 : x < 18446744073709551616) : Fl.ofKey64 x = if x < 9223372036854775808 then 18446744073709551615 - x else x - 9223372036854775808 := by
  unfold Fl.ofKey64
  rw [and_sign64 h0 h1]
  by_cases h : x < 9223372036854775808
  · rw [if_pos h, if_pos h]; exact not64 h0 h1
  · rw [if_neg h, if_neg h]
    show Go.bits .andNot .u64 x 9223372036854775808 = _
    rw [Fl.andNot64 h0 h1]; omega
theorem wrap_u64 (n : Int) : IntKind.u64.wrap n = n % 18446744073709551616 := by simp [IntKind.wrap, IntKind.bits, IntKind.signed]
theorem up64_eq (h0 : 0 ≤ x) (h1 : x < 18446744073709551616) : Fl.up64 x = if 9218868437227405312 < x % 9223372036854775808 then 9221120237041090560 else if x = 9218868437227405312 then x else if x % 9223372036854775808 = 0 then 1 else if x < 9223372036854775808 then x + 1 else x - 1 := by
  unfold Fl.up64
  rw [isNan64_eq h0 h1, Fl.andNot64 h0 h1]
  by_cases hn : 9218868437227405312 < x % 9223372036854775808
  · rw [if_pos hn, decide_eq_true hn]; rfl
  · rw [if_neg hn, decide_eq_false hn]
    simp only [cond_false]
    by_cases hi : x = 9218868437227405312
    · rw [if_pos hi, beq_iff_eq.2 hi]; rfl
    · rw [if_neg hi, beq_eq_false_iff_ne.2 hi]
      simp only [cond_false]
      by_cases hz : x % 9223372036854775808 = 0
      · rw [if_pos hz, beq_iff_eq.2 hz]; rfl
      · rw [if_neg hz, beq_eq_false_iff_ne.2 hz]
        simp only [cond_false]
        rw [key64_eq h0 h1, wrap_u64]
        by_cases hs : x < 9223372036854775808
        · rw [if_pos hs, if_pos hs, ofKey64_eq (by omega) (by omega)]
          rw [if_neg (by omega)]; omega
        · rw [if_neg hs, if_neg hs, ofKey64_eq (by omega) (by omega)]
          rw [if_pos (by omega)]; omega
theorem up64_range (h0 : 0 ≤ x) (h1 : x < 18446744073709551616) : 0 ≤ Fl.up64 x ∧ Fl.up64 x < 18446744073709551616 := by
  rw [up64_eq h0 h1]
  repeat' split
  all_goals omega
/-- The pattern with its other sign. -/
def flip64 (x : Int) : Int := if x < 9223372036854775808 then x + 9223372036854775808 else x - 9223372036854775808
theorem down64_eq (h0 : 0 ≤ x) (h1 : x < 18446744073709551616) : Fl.down64 x = if 9218868437227405312 < x % 9223372036854775808 then 9221120237041090560 else flip64 (Fl.up64 (flip64 x)) := by
  unfold Fl.down64
  rw [isNan64_eq h0 h1]
  by_cases hn : 9218868437227405312 < x % 9223372036854775808
  · rw [if_pos hn, decide_eq_true hn]; rfl
  · rw [if_neg hn, decide_eq_false hn]
    simp only [cond_false]
    rw [xor_sign64 h0 h1]
    have hr := up64_range (x := flip64 x) (by unfold flip64; split <;> omega) (by unfold flip64; split <;> omega)
    show Go.bits .xor .u64 (Fl.up64 (flip64 x)) 9223372036854775808 = _
    rw [xor_sign64 hr.1 hr.2]; rfl
end

section
variable {x : Int}
theorem or_sign32 (h0 : 0 ≤ x) (h1 : x < 2147483648) : Go.bits .or .u32 x 2147483648 = x + 2147483648 := by
  rw [u32_or x _ h0 (by omega) (by omega) (by omega)]
  have e2 : (2147483648 : Int).toNat = 2 ^ 31 := by decide
  rw [e2, ← testBit_sum (show x.toNat < 2 ^ 31 by omega)]; omega
theorem and_sign32 (h0 : 0 ≤ x) (h1 : x < 4294967296) : Go.bits .and .u32 x 2147483648 = if x < 2147483648 then 0 else 2147483648 := by
  rw [u32_and x _ h0 h1 (by omega) (by omega)]
  have e2 : (2147483648 : Int).toNat = 2 ^ 31 := by decide
  rw [e2, and_pow, Nat.testBit_eq_decide_div_mod_eq]
  by_cases h : x < 2147483648
  · have : x.toNat / 2 ^ 31 = 0 := by omega
    rw [this, if_pos h]; rfl
  · have : x.toNat / 2 ^ 31 = 1 := by omega
    rw [this, if_neg h]; rfl
theorem not32 (h0 : 0 ≤ x) (h1 : x < 4294967296) : Go.bits .xor .u32 IntKind.u32.max x = 4294967295 - x := by
  have e : IntKind.u32.max = 4294967295 := by decide
  rw [e, u32_xor _ x (by omega) (by omega) h0 h1]
  have e2 : (4294967295 : Int).toNat = 2 ^ 32 - 1 := by decide
  rw [e2, not_pow (by omega)]; omega
theorem xor_sign32 (h0 : 0 ≤ x) (h1 : x < 4294967296) : Go.bits .xor .u32 x 2147483648 = if x < 2147483648 then x + 2147483648 else x - 2147483648 := by
  rw [u32_xor x _ h0 h1 (by omega) (by omega)]
  have e2 : (2147483648 : Int).toNat = 2 ^ 31 := by decide
  rw [e2]
  split
  · rw [xor_pow (by omega)]; omega
  · have hx : x.toNat = (x.toNat - 2 ^ 31) ^^^ 2 ^ 31 := by rw [xor_pow (by omega)]; omega
    rw [hx, Nat.xor_assoc, Nat.xor_self, Nat.xor_zero]; omega

theorem isNan32_eq (h0 : 0 ≤ x) (h1 : x < 4294967296) : Fl.isNan32 x = decide (2139095040 < x % 2147483648) := by
  unfold Fl.isNan32; rw [Fl.andNot32 h0 h1]
theorem key32_eq (h0 : 0 ≤ x) (h1 : x < 4294967296) : Fl.key32 x = if x < 2147483648 then x + 2147483648 else 4294967295 - x := by
  unfold Fl.key32
  rw [and_sign32 h0 h1]
  by_cases h : x < 2147483648
  · rw [if_pos h, if_pos h]; exact or_sign32 h0 h
  · rw [if_neg h, if_neg h]; exact not32 h0 h1
theorem ofKey32_eq (h0 : 0 ≤ x) (h1 : x < 4294967296) : Fl.ofKey32 x = if x < 2147483648 then 4294967295 - x else x - 2147483648 := by
  unfold Fl.ofKey32
  rw [and_sign32 h0 h1]
  by_cases h : x < 2147483648
  · rw [if_pos h, if_pos h]; exact not32 h0 h1
  · rw [if_neg h, if_neg h]
    show Go.bits .andNot .u32 x 2147483648 = _
    rw [Fl.andNot32 h0 h1]; omega
theorem wrap_u32 (n : Int) : IntKind.u32.wrap n = n % 4294967296 := by simp [IntKind.wrap, IntKind.bits, IntKind.signed]
theorem up32_eq (h0 : 0 ≤ x) (h1 : x < 4294967296) : Fl.up32 x = if 2139095040 < x % 2147483648 then 2143289344 else if x = 2139095040 then x else if x % 2147483648 = 0 then 1 else if x < 2147483648 then x + 1 else x - 1 := by
  unfold Fl.up32
  rw [isNan32_eq h0 h1, Fl.andNot32 h0 h1]
  by_cases hn : 2139095040 < x % 2147483648
  · rw [if_pos hn, decide_eq_true hn]; rfl
  · rw [if_neg hn, decide_eq_false hn]
    simp only [cond_false]
    by_cases hi : x = 2139095040
    · rw [if_pos hi, beq_iff_eq.2 hi]; rfl
    · rw [if_neg hi, beq_eq_false_iff_ne.2 hi]
      simp only [cond_false]
      by_cases hz : x % 2147483648 = 0
      · rw [if_pos hz, beq_iff_eq.2 hz]; rfl
      · rw [if_neg hz, beq_eq_false_iff_ne.2 hz]
        simp only [cond_false]
        rw [key32_eq h0 h1, wrap_u32]
        by_cases hs : x < 2147483648
        · rw [if_pos hs, if_pos hs, ofKey32_eq (by omega) (by omega)]
          rw [if_neg (by omega)]; omega
        · rw [if_neg hs, if_neg hs, ofKey32_eq (by omega) (by omega)]
          rw [if_pos (by omega)]; omega
theorem up32_range (h0 : 0 ≤ x) (h1 : x < 4294967296) : 0 ≤ Fl.up32 x ∧ Fl.up32 x < 4294967296 := by
  rw [up32_eq h0 h1]
  repeat' split
  all_goals omega
/-- The pattern with its other sign. -/
def flip32 (x : Int) : Int := if x < 2147483648 then x + 2147483648 else x - 2147483648
theorem down32_eq (h0 : 0 ≤ x) (h1 : x < 4294967296) : Fl.down32 x = if 2139095040 < x % 2147483648 then 2143289344 else flip32 (Fl.up32 (flip32 x)) := by
  unfold Fl.down32
  rw [isNan32_eq h0 h1]
  by_cases hn : 2139095040 < x % 2147483648
  · rw [if_pos hn, decide_eq_true hn]; rfl
  · rw [if_neg hn, decide_eq_false hn]
    simp only [cond_false]
    rw [xor_sign32 h0 h1]
    have hr := up32_range (x := flip32 x) (by unfold flip32; split <;> omega) (by unfold flip32; split <;> omega)
    show Go.bits .xor .u32 (Fl.up32 (flip32 x)) 2147483648 = _
    rw [xor_sign32 hr.1 hr.2]; rfl
end

/-! The reference, at either width -/
theorem sign_64 : fathomref3_Sign.f 64 = some 9223372036854775808 := by decide +kernel
theorem sign_32 : fathomref3_Sign.f 32 = some 2147483648 := by decide +kernel
theorem inf_64 : fathomref3_Inf.f 64 = some 9218868437227405312 := by decide +kernel
theorem inf_32 : fathomref3_Inf.f 32 = some 2139095040 := by decide +kernel
theorem nan_64 : fathomref3_Nan.f 64 = some 9221120237041090560 := by decide +kernel
theorem nan_32 : fathomref3_Nan.f 32 = some 2143289344 := by decide +kernel
theorem digits_64 : fathomref3_digits.f 64 = some 53 := by decide +kernel
theorem digits_32 : fathomref3_digits.f 32 = some 24 := by decide +kernel
theorem andNot64_32 {x : Int} (h0 : 0 ≤ x) (h1 : x < 4294967296) : Go.bits .andNot .u64 x 2147483648 = x % 2147483648 := by
  rw [u64_andNot x _ h0 (by omega) (by omega) (by omega)]
  have e : (18446744073709551615 - (2147483648 : Int).toNat : Nat) = (2 ^ 64 - 1) - 2 ^ 31 := by decide
  rw [e]
  have hx : x.toNat < 2 ^ 32 := by omega
  have key : ∀ n, n < 2 ^ 32 → n &&& ((2 ^ 64 - 1) - 2 ^ 31) = n % 2 ^ 31 := by
    intro n hn
    rw [← not_pow (show 2 ^ 31 < 2 ^ 64 by decide), Nat.and_xor_distrib_left, Nat.and_two_pow_sub_one_of_lt_two_pow (by omega), and_pow, Nat.testBit_eq_decide_div_mod_eq]
    by_cases h : n < 2 ^ 31
    · have : n / 2 ^ 31 = 0 := by omega
      rw [this, if_neg (by decide), Nat.xor_zero]; omega
    · have : n / 2 ^ 31 = 1 := by omega
      rw [this, if_pos (by decide)]
      have hx : n = (n - 2 ^ 31) ^^^ 2 ^ 31 := by rw [xor_pow (by omega)]; omega
      rw [hx, Nat.xor_assoc, Nat.xor_self, Nat.xor_zero, ← hx]; omega
  rw [key _ hx]; omega
theorem and64_32 {x : Int} (h0 : 0 ≤ x) (h1 : x < 4294967296) : Go.bits .and .u64 x 2147483648 = if x < 2147483648 then 0 else 2147483648 := by
  rw [u64_and x _ h0 (by omega) (by omega) (by omega)]
  have e2 : (2147483648 : Int).toNat = 2 ^ 31 := by decide
  rw [e2, and_pow, Nat.testBit_eq_decide_div_mod_eq]
  by_cases h : x < 2147483648
  · have : x.toNat / 2 ^ 31 = 0 := by omega
    rw [this, if_pos h]; rfl
  · have : x.toNat / 2 ^ 31 = 1 := by omega
    rw [this, if_neg h]; rfl
theorem xor64_32 {x : Int} (h0 : 0 ≤ x) (h1 : x < 4294967296) : Go.bits .xor .u64 x 2147483648 = if x < 2147483648 then x + 2147483648 else x - 2147483648 := by
  rw [u64_xor x _ h0 (by omega) (by omega) (by omega)]
  have e2 : (2147483648 : Int).toNat = 2 ^ 31 := by decide
  rw [e2]
  split
  · rw [xor_pow (by omega)]; omega
  · have hx : x.toNat = (x.toNat - 2 ^ 31) ^^^ 2 ^ 31 := by rw [xor_pow (by omega)]; omega
    rw [hx, Nat.xor_assoc, Nat.xor_self, Nat.xor_zero]; omega
theorem or64_32 {x : Int} (h0 : 0 ≤ x) (h1 : x < 2147483648) : Go.bits .or .u64 x 2147483648 = x + 2147483648 := by
  rw [u64_or x _ h0 (by omega) (by omega) (by omega)]
  have e2 : (2147483648 : Int).toNat = 2 ^ 31 := by decide
  rw [e2, ← testBit_sum (show x.toNat < 2 ^ 31 by omega)]; omega

section
variable {x : Int}
theorem rAbs64 (h0 : 0 ≤ x) (h1 : x < 18446744073709551616) : fathomref3_Abs.f x 64 = some (x % 9223372036854775808) := by
  unfold fathomref3_Abs.f; rw [sign_64, Option.bind_some, Fl.andNot64 h0 h1]
theorem rNeg64 (h0 : 0 ≤ x) (h1 : x < 18446744073709551616) : fathomref3_Neg.f x 64 = some (decide (9223372036854775808 ≤ x)) := by
  unfold fathomref3_Neg.f; rw [sign_64, Option.bind_some, and_sign64 h0 h1]
  split
  · rw [decide_eq_false (by omega)]; rfl
  · rw [decide_eq_true (by omega)]; rfl
theorem rIsNan64 (h0 : 0 ≤ x) (h1 : x < 18446744073709551616) : fathomref3_IsNan.f x 64 = some (decide (9218868437227405312 < x % 9223372036854775808)) := by
  unfold fathomref3_IsNan.f; rw [rAbs64 h0 h1, Option.bind_some, inf_64, Option.bind_some]
theorem rIsInf64 (h0 : 0 ≤ x) (h1 : x < 18446744073709551616) : fathomref3_IsInf.f x 64 = some (decide (x % 9223372036854775808 = 9218868437227405312)) := by
  unfold fathomref3_IsInf.f; rw [rAbs64 h0 h1, Option.bind_some, inf_64, Option.bind_some]; rfl
theorem rIsZero64 (h0 : 0 ≤ x) (h1 : x < 18446744073709551616) : fathomref3_IsZero.f x 64 = some (decide (x % 9223372036854775808 = 0)) := by
  unfold fathomref3_IsZero.f; rw [rAbs64 h0 h1, Option.bind_some]; rfl
theorem rFinite64 (h0 : 0 ≤ x) (h1 : x < 18446744073709551616) : fathomref3_Finite.f x 64 = some (decide (x % 9223372036854775808 < 9218868437227405312)) := by
  unfold fathomref3_Finite.f; rw [rAbs64 h0 h1, Option.bind_some, inf_64, Option.bind_some]
theorem rKey64 (h0 : 0 ≤ x) (h1 : x < 18446744073709551616) : fathomref3_Key.f x 64 = some (Fl.key64 x) := by
  unfold fathomref3_Key.f
  rw [rNeg64 h0 h1, Option.bind_some, rAbs64 h0 h1, sign_64, key64_eq h0 h1]
  simp only [Option.bind_some, decide_eq_true_eq, wrap_u64]
  by_cases h : x < 9223372036854775808
  · rw [if_neg (by omega), if_pos h]; congr 1; omega
  · rw [if_pos (by omega), if_neg h]; congr 1; omega
theorem rOfKey64 (h0 : 0 ≤ x) (h1 : x < 18446744073709551616) : fathomref3_OfKey.f x 64 = some (Fl.ofKey64 x) := by
  unfold fathomref3_OfKey.f
  rw [sign_64, ofKey64_eq h0 h1]
  simp only [Option.bind_some, wrap_u64]
  by_cases h : x < 9223372036854775808
  · rw [if_neg (by omega), if_pos h]; congr 1; omega
  · rw [if_pos (by omega), if_neg h]; congr 1; omega
theorem rUp64 (h0 : 0 ≤ x) (h1 : x < 18446744073709551616) : fathomref3_Up.f x 64 = some (Fl.up64 x) := by
  unfold fathomref3_Up.f
  rw [rIsNan64 h0 h1, nan_64, inf_64, rIsZero64 h0 h1, rNeg64 h0 h1, up64_eq h0 h1]
  simp only [Option.bind_some, decide_eq_true_eq, wrap_u64]
  by_cases hn : 9218868437227405312 < x % 9223372036854775808
  · rw [if_pos hn, if_pos hn]
  · rw [if_neg hn, if_neg hn]
    by_cases hi : x = 9218868437227405312
    · rw [if_pos hi, if_pos hi]
    · rw [if_neg hi, if_neg hi]
      by_cases hz : x % 9223372036854775808 = 0
      · rw [if_pos hz, if_pos hz]
      · rw [if_neg hz, if_neg hz]
        by_cases hs : x < 9223372036854775808
        · rw [if_neg (by omega), if_pos hs]; congr 1; omega
        · rw [if_pos (by omega), if_neg hs]; congr 1; omega
theorem rDown64 (h0 : 0 ≤ x) (h1 : x < 18446744073709551616) : fathomref3_Down.f x 64 = some (Fl.down64 x) := by
  unfold fathomref3_Down.f
  rw [rIsNan64 h0 h1, nan_64, sign_64, down64_eq h0 h1]
  simp only [Option.bind_some, decide_eq_true_eq]
  by_cases hn : 9218868437227405312 < x % 9223372036854775808
  · rw [if_pos hn, if_pos hn]
  · rw [if_neg hn, if_neg hn, xor_sign64 h0 h1]
    show (fathomref3_Up.f (flip64 x) 64).bind _ = _
    have hf0 : 0 ≤ flip64 x := by unfold flip64; split <;> omega
    have hf1 : flip64 x < 18446744073709551616 := by unfold flip64; split <;> omega
    rw [rUp64 hf0 hf1]
    have hr := up64_range hf0 hf1
    rw [Option.bind_some, xor_sign64 hr.1 hr.2]; rfl
theorem rClass64 (h0 : 0 ≤ x) (h1 : x < 18446744073709551616) : fathomref3_Class.f x 64 = some (Fl.class64 x) := by
  unfold fathomref3_Class.f Fl.class64
  rw [rAbs64 h0 h1, digits_64, inf_64, Fl.andNot64 h0 h1]
  have e1 : IntKind.u64.wrap (wrap64 (53 - 1)) = 52 := by decide +kernel
  have e2 : shl .u64 1 52 = 4503599627370496 := by decide +kernel
  have e3 : (4503599627370496 : Int) / 2 = 2251799813685248 := by decide
  simp only [Option.bind_some, e1, e2, e3]
  rw [if_pos (by decide)]
  have hy0 : 0 ≤ x % 9223372036854775808 := by omega
  have hy1 : x % 9223372036854775808 < 9223372036854775808 := by omega
  generalize x % 9223372036854775808 = y at *
  by_cases c1 : y = 0
  · rw [if_pos c1, beq_iff_eq.2 c1]; rfl
  · rw [if_neg c1, beq_eq_false_iff_ne.2 c1]
    simp only [cond_false]
    by_cases c2 : y < 4503599627370496
    · rw [if_pos c2, decide_eq_true c2]; rfl
    · rw [if_neg c2, decide_eq_false c2]
      simp only [cond_false]
      by_cases c3 : y < 9218868437227405312
      · rw [if_pos c3, decide_eq_true c3]; rfl
      · rw [if_neg c3, decide_eq_false c3]
        simp only [cond_false]
        by_cases c4 : y = 9218868437227405312
        · rw [if_pos c4, beq_iff_eq.2 c4]; rfl
        · rw [if_neg c4, beq_eq_false_iff_ne.2 c4]
          simp only [cond_false]


          by_cases c5 : Go.bits .and .u64 y 2251799813685248 = 0
          · rw [if_pos c5, c5]; rfl
          · have : (Go.bits .and .u64 y 2251799813685248 != 0) = true := bne_iff_ne.2 c5
            rw [if_neg c5, this]; rfl
theorem rDistance64 {y : Int} (h0 : 0 ≤ x) (h1 : x < 18446744073709551616) (g0 : 0 ≤ y) (g1 : y < 18446744073709551616) : fathomref3_Distance.f x y 64 = some (Fl.dist64 x y) := by
  unfold fathomref3_Distance.f Fl.dist64
  rw [rKey64 h0 h1, rKey64 g0 g1]
  have a0 : 0 ≤ Fl.key64 x ∧ Fl.key64 x < 18446744073709551616 := by rw [key64_eq h0 h1]; split <;> omega
  have b0 : 0 ≤ Fl.key64 y ∧ Fl.key64 y < 18446744073709551616 := by rw [key64_eq g0 g1]; split <;> omega
  simp only [Option.bind_some, wrap_u64, wrap_u64]
  split
  · congr 1; omega
  · congr 1; omega
end

section
variable {x : Int}
theorem rAbs32 (h0 : 0 ≤ x) (h1 : x < 4294967296) : fathomref3_Abs.f x 32 = some (x % 2147483648) := by
  unfold fathomref3_Abs.f; rw [sign_32, Option.bind_some, andNot64_32 h0 h1]
theorem rNeg32 (h0 : 0 ≤ x) (h1 : x < 4294967296) : fathomref3_Neg.f x 32 = some (decide (2147483648 ≤ x)) := by
  unfold fathomref3_Neg.f; rw [sign_32, Option.bind_some, and64_32 h0 h1]
  split
  · rw [decide_eq_false (by omega)]; rfl
  · rw [decide_eq_true (by omega)]; rfl
theorem rIsNan32 (h0 : 0 ≤ x) (h1 : x < 4294967296) : fathomref3_IsNan.f x 32 = some (decide (2139095040 < x % 2147483648)) := by
  unfold fathomref3_IsNan.f; rw [rAbs32 h0 h1, Option.bind_some, inf_32, Option.bind_some]
theorem rIsInf32 (h0 : 0 ≤ x) (h1 : x < 4294967296) : fathomref3_IsInf.f x 32 = some (decide (x % 2147483648 = 2139095040)) := by
  unfold fathomref3_IsInf.f; rw [rAbs32 h0 h1, Option.bind_some, inf_32, Option.bind_some]; rfl
theorem rIsZero32 (h0 : 0 ≤ x) (h1 : x < 4294967296) : fathomref3_IsZero.f x 32 = some (decide (x % 2147483648 = 0)) := by
  unfold fathomref3_IsZero.f; rw [rAbs32 h0 h1, Option.bind_some]; rfl
theorem rFinite32 (h0 : 0 ≤ x) (h1 : x < 4294967296) : fathomref3_Finite.f x 32 = some (decide (x % 2147483648 < 2139095040)) := by
  unfold fathomref3_Finite.f; rw [rAbs32 h0 h1, Option.bind_some, inf_32, Option.bind_some]
theorem rKey32 (h0 : 0 ≤ x) (h1 : x < 4294967296) : fathomref3_Key.f x 32 = some (Fl.key32 x) := by
  unfold fathomref3_Key.f
  rw [rNeg32 h0 h1, Option.bind_some, rAbs32 h0 h1, sign_32, key32_eq h0 h1]
  simp only [Option.bind_some, decide_eq_true_eq, wrap_u64]
  by_cases h : x < 2147483648
  · rw [if_neg (by omega), if_pos h]; congr 1; omega
  · rw [if_pos (by omega), if_neg h]; congr 1; omega
theorem rOfKey32 (h0 : 0 ≤ x) (h1 : x < 4294967296) : fathomref3_OfKey.f x 32 = some (Fl.ofKey32 x) := by
  unfold fathomref3_OfKey.f
  rw [sign_32, ofKey32_eq h0 h1]
  simp only [Option.bind_some, wrap_u64]
  by_cases h : x < 2147483648
  · rw [if_neg (by omega), if_pos h]; congr 1; omega
  · rw [if_pos (by omega), if_neg h]; congr 1; omega
theorem rUp32 (h0 : 0 ≤ x) (h1 : x < 4294967296) : fathomref3_Up.f x 32 = some (Fl.up32 x) := by
  unfold fathomref3_Up.f
  rw [rIsNan32 h0 h1, nan_32, inf_32, rIsZero32 h0 h1, rNeg32 h0 h1, up32_eq h0 h1]
  simp only [Option.bind_some, decide_eq_true_eq, wrap_u64]
  by_cases hn : 2139095040 < x % 2147483648
  · rw [if_pos hn, if_pos hn]
  · rw [if_neg hn, if_neg hn]
    by_cases hi : x = 2139095040
    · rw [if_pos hi, if_pos hi]
    · rw [if_neg hi, if_neg hi]
      by_cases hz : x % 2147483648 = 0
      · rw [if_pos hz, if_pos hz]
      · rw [if_neg hz, if_neg hz]
        by_cases hs : x < 2147483648
        · rw [if_neg (by omega), if_pos hs]; congr 1; omega
        · rw [if_pos (by omega), if_neg hs]; congr 1; omega
theorem rDown32 (h0 : 0 ≤ x) (h1 : x < 4294967296) : fathomref3_Down.f x 32 = some (Fl.down32 x) := by
  unfold fathomref3_Down.f
  rw [rIsNan32 h0 h1, nan_32, sign_32, down32_eq h0 h1]
  simp only [Option.bind_some, decide_eq_true_eq]
  by_cases hn : 2139095040 < x % 2147483648
  · rw [if_pos hn, if_pos hn]
  · rw [if_neg hn, if_neg hn, xor64_32 h0 h1]
    show (fathomref3_Up.f (flip32 x) 32).bind _ = _
    have hf0 : 0 ≤ flip32 x := by unfold flip32; split <;> omega
    have hf1 : flip32 x < 4294967296 := by unfold flip32; split <;> omega
    rw [rUp32 hf0 hf1]
    have hr := up32_range hf0 hf1
    rw [Option.bind_some, xor64_32 hr.1 hr.2]; rfl
theorem rClass32 (h0 : 0 ≤ x) (h1 : x < 4294967296) : fathomref3_Class.f x 32 = some (Fl.class32 x) := by
  unfold fathomref3_Class.f Fl.class32
  rw [rAbs32 h0 h1, digits_32, inf_32, Fl.andNot32 h0 h1]
  have e1 : IntKind.u64.wrap (wrap64 (24 - 1)) = 23 := by decide +kernel
  have e2 : shl .u64 1 23 = 8388608 := by decide +kernel
  have e3 : (8388608 : Int) / 2 = 4194304 := by decide
  simp only [Option.bind_some, e1, e2, e3]
  rw [if_pos (by decide)]
  have hy0 : 0 ≤ x % 2147483648 := by omega
  have hy1 : x % 2147483648 < 2147483648 := by omega
  generalize x % 2147483648 = y at *
  by_cases c1 : y = 0
  · rw [if_pos c1, beq_iff_eq.2 c1]; rfl
  · rw [if_neg c1, beq_eq_false_iff_ne.2 c1]
    simp only [cond_false]
    by_cases c2 : y < 8388608
    · rw [if_pos c2, decide_eq_true c2]; rfl
    · rw [if_neg c2, decide_eq_false c2]
      simp only [cond_false]
      by_cases c3 : y < 2139095040
      · rw [if_pos c3, decide_eq_true c3]; rfl
      · rw [if_neg c3, decide_eq_false c3]
        simp only [cond_false]
        by_cases c4 : y = 2139095040
        · rw [if_pos c4, beq_iff_eq.2 c4]; rfl
        · rw [if_neg c4, beq_eq_false_iff_ne.2 c4]
          simp only [cond_false]
          have e5 : Go.bits .and .u64 y 4194304 = Go.bits .and .u32 y 4194304 := by rw [u64_and y _ hy0 (by omega) (by omega) (by omega), u32_and y _ hy0 (by omega) (by omega) (by omega)]
          rw [e5]
          by_cases c5 : Go.bits .and .u32 y 4194304 = 0
          · rw [if_pos c5, c5]; rfl
          · have : (Go.bits .and .u32 y 4194304 != 0) = true := bne_iff_ne.2 c5
            rw [if_neg c5, this]; rfl
theorem rDistance32 {y : Int} (h0 : 0 ≤ x) (h1 : x < 4294967296) (g0 : 0 ≤ y) (g1 : y < 4294967296) : fathomref3_Distance.f x y 32 = some (Fl.dist32 x y) := by
  unfold fathomref3_Distance.f Fl.dist32
  rw [rKey32 h0 h1, rKey32 g0 g1]
  have a0 : 0 ≤ Fl.key32 x ∧ Fl.key32 x < 4294967296 := by rw [key32_eq h0 h1]; split <;> omega
  have b0 : 0 ≤ Fl.key32 y ∧ Fl.key32 y < 4294967296 := by rw [key32_eq g0 g1]; split <;> omega
  simp only [Option.bind_some, wrap_u64, wrap_u32]
  split
  · congr 1; omega
  · congr 1; omega
end

end Go.Proofs.YtfloeiagdegpjaaDoor.Q
