/- Comparisons by places, and the loop over a law's list. No program runs here. -/
import Derived.Test.YtfloeiagdegpjaaDoorQa
import Derived.Test.YtfloeiagdegpjaaDoorPd
namespace Go.Proofs.YtfloeiagdegpjaaDoor.Q
open Go.RowKit Go.Proofs.YtfloeiagdegpjaaDoorW.PrintWords Go.Proofs.YtfloeiagdegpjaaDoor.Rf
set_option linter.unusedVariables false
set_option linter.unusedSimpArgs false

theorem wf_u64 {x : Int} (h : (Lit.int .u64 x).wf = true) : 0 ≤ x ∧ x < 18446744073709551616 := by
  simp [Lit.wf, IntKind.min, IntKind.max, IntKind.bits, IntKind.signed] at h
  omega
theorem wf_i64 {x : Int} (h : (Lit.int .i64 x).wf = true) : -9223372036854775808 ≤ x ∧ x < 9223372036854775808 := by
  simp [Lit.wf, IntKind.min, IntKind.max, IntKind.bits, IntKind.signed] at h
  omega
theorem wrap_next {i n : Nat} (hi : i < n) (hm : n ≤ maxLen) : wrap64 ((i : Int) + 1) = ((i + 1 : Nat) : Int) := by
  unfold maxLen at hm; unfold wrap64; omega

/-- The laws' loop: what stays true from one round to the next, at most 2000 rounds. -/
theorem rounds_of {g : Nat → Nat → Option Bool} {n : Nat} (stop : ∀ i, ¬ (i < n ∧ i < 2000) → Ev (fun k => g k i) true)
    (turn : ∀ i, i < n → i < 2000 → Ev (fun k => g k (i + 1)) true → Ev (fun k => g k i) true) : ∃ k, g k 0 = some true := by
  have loop : ∀ d i : Nat, 2000 - i = d → Ev (fun k => g k i) true := by
    intro d
    induction d with
    | zero => intro i hd; exact stop i (by omega)
    | succ d ih =>
      intro i hd
      by_cases h : i < n ∧ i < 2000
      · exact turn i h.1 h.2 (ih (i + 1) (by omega))
      · exact stop i h
  exact (loop 2000 0 rfl).rounds

def sgnOf (a b : Int) : Int := if a < b then -1 else if b < a then 1 else 0

theorem cmpOf_compare (x y : Int) : Fl.cmpOf (some (compare x y)) = sgnOf x y := by
  rw [_root_.Fl.compare_int]
  unfold sgnOf
  by_cases h : x < y
  · rw [if_pos h, if_pos h]; rfl
  · rw [if_neg h, if_neg h]
    by_cases h2 : x = y
    · rw [if_pos h2, if_neg (by omega)]; rfl
    · rw [if_neg h2, if_pos (by omega)]; rfl

/-- By the places of numbers that are not both noughts. -/
def cmpKey64 (a b : Int) : Int := if a % 9223372036854775808 = 0 ∧ b % 9223372036854775808 = 0 then 0 else sgnOf (Fl.key64 a) (Fl.key64 b)

theorem sgn_key64 {a b : Int} (a0 : 0 ≤ a) (a1 : a < 18446744073709551616) (b0 : 0 ≤ b) (b1 : b < 18446744073709551616) : sgnOf (_root_.Fl.sv Ieee.double a.toNat) (_root_.Fl.sv Ieee.double b.toNat) = cmpKey64 a b := by
  have e : Ieee.double.signWeight = 9223372036854775808 := by decide
  have h1 := @_root_.Fl.sv_lt Ieee.double a.toNat b.toNat
  have h2 := @_root_.Fl.sv_lt Ieee.double b.toNat a.toNat
  rw [e] at h1 h2
  unfold sgnOf cmpKey64 sgnOf
  rw [key64_eq a0 a1, key64_eq b0 b1]
  generalize _root_.Fl.sv Ieee.double a.toNat = x at *
  generalize _root_.Fl.sv Ieee.double b.toNat = y at *
  by_cases ca : a < 9223372036854775808 <;> by_cases cb : b < 9223372036854775808 <;> simp only [ca, cb, if_true, if_false]
  all_goals
    by_cases z : a % 9223372036854775808 = 0 ∧ b % 9223372036854775808 = 0
    · rw [if_pos z, if_neg (by omega), if_neg (by omega)]
    · rw [if_neg z]
      by_cases l1 : x < y
      · rw [if_pos l1, if_pos (by omega)]
      · rw [if_neg l1]
        by_cases l2 : y < x
        · rw [if_pos l2, if_neg (by omega), if_pos (by omega)]
        · rw [if_neg l2, if_neg (by omega), if_neg (by omega)]

theorem cmp64_key {a b : Int} (a0 : 0 ≤ a) (a1 : a < 18446744073709551616) (b0 : 0 ≤ b) (b1 : b < 18446744073709551616) (na : ¬ 9218868437227405312 < a % 9223372036854775808) (nb : ¬ 9218868437227405312 < b % 9223372036854775808) :
    Fl.cmpOf (FloatKind.f64.format.order a.toNat b.toNat) = cmpKey64 a b := by
  have e : Ieee.double.signWeight = 9223372036854775808 := by decide
  have e2 : Ieee.double.infRung = 9218868437227405312 := by decide
  have h : FloatKind.f64.format.order a.toNat b.toNat = some (compare (_root_.Fl.sv Ieee.double a.toNat) (_root_.Fl.sv Ieee.double b.toNat)) :=
    _root_.Fl.order_sv _root_.Fl.good_double (by rw [e, e2]; omega) (by rw [e, e2]; omega)
  rw [h, cmpOf_compare, sgn_key64 a0 a1 b0 b1]

theorem fCmp64 {a b : Int} (a0 : 0 ≤ a) (a1 : a < 18446744073709551616) (b0 : 0 ≤ b) (b1 : b < 18446744073709551616) :
    float_Cmp_uint64.f a b = some (if 9218868437227405312 < a % 9223372036854775808 ∨ 9218868437227405312 < b % 9223372036854775808 then (0, false) else (cmpKey64 a b, true)) := by
  unfold float_Cmp_uint64.f
  rw [if_pos ⟨⟨a0, a1⟩, ⟨b0, b1⟩⟩, isNan64_eq a0 a1, isNan64_eq b0 b1]
  by_cases na : 9218868437227405312 < a % 9223372036854775808
  · rw [decide_eq_true na, if_pos (Or.inl na)]; rfl
  · by_cases nb : 9218868437227405312 < b % 9223372036854775808
    · rw [decide_eq_false na, decide_eq_true nb, if_pos (Or.inr nb)]; rfl
    · rw [decide_eq_false na, decide_eq_false nb, if_neg (by omega), cmp64_key a0 a1 b0 b1 na nb]; rfl

theorem rCompare64 {a b : Int} (a0 : 0 ≤ a) (a1 : a < 18446744073709551616) (b0 : 0 ≤ b) (b1 : b < 18446744073709551616) (k : Nat) :
    fathomref3_Compare.f (k + 2) a b 64 = some (if 9218868437227405312 < a % 9223372036854775808 ∨ 9218868437227405312 < b % 9223372036854775808 then (0, false) else (cmpKey64 a b, true)) := by
  unfold fathomref3_Compare.f
  rw [rIsNan64 a0 a1, rIsNan64 b0 b1]
  simp only [Option.bind_some, decide_eq_true_eq]
  by_cases na : 9218868437227405312 < a % 9223372036854775808
  · rw [if_pos na, if_pos (Or.inl na)]; simp only [fathomref3_Compare.j0, if_true]
  · rw [if_neg na]
    by_cases nb : 9218868437227405312 < b % 9223372036854775808
    · rw [decide_eq_true nb, if_pos (Or.inr nb)]; simp only [fathomref3_Compare.j0, if_true]
    · rw [decide_eq_false nb, if_neg (by omega)]
      simp only [fathomref3_Compare.j0, Bool.false_eq_true, if_false]
      rw [rIsZero64 a0 a1, rIsZero64 b0 b1]
      simp only [Option.bind_some, decide_eq_true_eq, fathomref3_Compare.j1, rKey64 a0 a1, rKey64 b0 b1, Bool.false_eq_true, if_false]
      unfold cmpKey64 sgnOf
      have fin : ∀ hz : ¬ (a % 9223372036854775808 = 0 ∧ b % 9223372036854775808 = 0), (if Fl.key64 a < Fl.key64 b then some ((-1 : Int), true) else if Fl.key64 a > Fl.key64 b then some (1, true) else some (0, true)) =
          some ((if a % 9223372036854775808 = 0 ∧ b % 9223372036854775808 = 0 then (0 : Int) else if Fl.key64 a < Fl.key64 b then -1 else if Fl.key64 b < Fl.key64 a then 1 else 0), true) := by
        intro hz
        rw [if_neg hz]
        by_cases l1 : Fl.key64 a < Fl.key64 b
        · rw [if_pos l1, if_pos l1]
        · rw [if_neg l1, if_neg l1]
          by_cases l2 : Fl.key64 b < Fl.key64 a
          · rw [if_pos l2, if_pos l2]
          · rw [if_neg l2, if_neg l2]
      by_cases za : a % 9223372036854775808 = 0
      · rw [if_pos za]
        by_cases zb : b % 9223372036854775808 = 0
        · rw [if_pos zb, if_pos ⟨za, zb⟩]
        · rw [if_neg zb]; exact fin (by omega)
      · rw [if_neg za]; exact fin (by omega)

/-- By the places of numbers that are not both noughts. -/
def cmpKey32 (a b : Int) : Int := if a % 2147483648 = 0 ∧ b % 2147483648 = 0 then 0 else sgnOf (Fl.key32 a) (Fl.key32 b)

theorem sgn_key32 {a b : Int} (a0 : 0 ≤ a) (a1 : a < 4294967296) (b0 : 0 ≤ b) (b1 : b < 4294967296) : sgnOf (_root_.Fl.sv Ieee.single a.toNat) (_root_.Fl.sv Ieee.single b.toNat) = cmpKey32 a b := by
  have e : Ieee.single.signWeight = 2147483648 := by decide
  have h1 := @_root_.Fl.sv_lt Ieee.single a.toNat b.toNat
  have h2 := @_root_.Fl.sv_lt Ieee.single b.toNat a.toNat
  rw [e] at h1 h2
  unfold sgnOf cmpKey32 sgnOf
  rw [key32_eq a0 a1, key32_eq b0 b1]
  generalize _root_.Fl.sv Ieee.single a.toNat = x at *
  generalize _root_.Fl.sv Ieee.single b.toNat = y at *
  by_cases ca : a < 2147483648 <;> by_cases cb : b < 2147483648 <;> simp only [ca, cb, if_true, if_false]
  all_goals
    by_cases z : a % 2147483648 = 0 ∧ b % 2147483648 = 0
    · rw [if_pos z, if_neg (by omega), if_neg (by omega)]
    · rw [if_neg z]
      by_cases l1 : x < y
      · rw [if_pos l1, if_pos (by omega)]
      · rw [if_neg l1]
        by_cases l2 : y < x
        · rw [if_pos l2, if_neg (by omega), if_pos (by omega)]
        · rw [if_neg l2, if_neg (by omega), if_neg (by omega)]

theorem cmp32_key {a b : Int} (a0 : 0 ≤ a) (a1 : a < 4294967296) (b0 : 0 ≤ b) (b1 : b < 4294967296) (na : ¬ 2139095040 < a % 2147483648) (nb : ¬ 2139095040 < b % 2147483648) :
    Fl.cmpOf (FloatKind.f64.format.order (Fl.wid a.toNat) (Fl.wid b.toNat)) = cmpKey32 a b := by
  have e : Ieee.single.signWeight = 2147483648 := by decide
  have e2 : Ieee.single.infRung = 2139095040 := by decide
  have h : FloatKind.f64.format.order (Fl.wid a.toNat) (Fl.wid b.toNat) = some (compare (_root_.Fl.sv Ieee.single a.toNat) (_root_.Fl.sv Ieee.single b.toNat)) :=
    _root_.Fl.widen_order (by rw [e, e2]; omega) (by rw [e, e2]; omega)
  rw [h, cmpOf_compare, sgn_key32 a0 a1 b0 b1]

theorem fCmp32 {a b : Int} (a0 : 0 ≤ a) (a1 : a < 4294967296) (b0 : 0 ≤ b) (b1 : b < 4294967296) :
    float_Cmp_uint32.f a b = some (if 2139095040 < a % 2147483648 ∨ 2139095040 < b % 2147483648 then (0, false) else (cmpKey32 a b, true)) := by
  unfold float_Cmp_uint32.f
  rw [if_pos ⟨⟨a0, a1⟩, ⟨b0, b1⟩⟩, isNan32_eq a0 a1, isNan32_eq b0 b1]
  by_cases na : 2139095040 < a % 2147483648
  · rw [decide_eq_true na, if_pos (Or.inl na)]; rfl
  · by_cases nb : 2139095040 < b % 2147483648
    · rw [decide_eq_false na, decide_eq_true nb, if_pos (Or.inr nb)]; rfl
    · rw [decide_eq_false na, decide_eq_false nb, if_neg (by omega), cmp32_key a0 a1 b0 b1 na nb]; rfl

theorem rCompare32 {a b : Int} (a0 : 0 ≤ a) (a1 : a < 4294967296) (b0 : 0 ≤ b) (b1 : b < 4294967296) (k : Nat) :
    fathomref3_Compare.f (k + 2) a b 32 = some (if 2139095040 < a % 2147483648 ∨ 2139095040 < b % 2147483648 then (0, false) else (cmpKey32 a b, true)) := by
  unfold fathomref3_Compare.f
  rw [rIsNan32 a0 a1, rIsNan32 b0 b1]
  simp only [Option.bind_some, decide_eq_true_eq]
  by_cases na : 2139095040 < a % 2147483648
  · rw [if_pos na, if_pos (Or.inl na)]; simp only [fathomref3_Compare.j0, if_true]
  · rw [if_neg na]
    by_cases nb : 2139095040 < b % 2147483648
    · rw [decide_eq_true nb, if_pos (Or.inr nb)]; simp only [fathomref3_Compare.j0, if_true]
    · rw [decide_eq_false nb, if_neg (by omega)]
      simp only [fathomref3_Compare.j0, Bool.false_eq_true, if_false]
      rw [rIsZero32 a0 a1, rIsZero32 b0 b1]
      simp only [Option.bind_some, decide_eq_true_eq, fathomref3_Compare.j1, rKey32 a0 a1, rKey32 b0 b1, Bool.false_eq_true, if_false]
      unfold cmpKey32 sgnOf
      have fin : ∀ hz : ¬ (a % 2147483648 = 0 ∧ b % 2147483648 = 0), (if Fl.key32 a < Fl.key32 b then some ((-1 : Int), true) else if Fl.key32 a > Fl.key32 b then some (1, true) else some (0, true)) =
          some ((if a % 2147483648 = 0 ∧ b % 2147483648 = 0 then (0 : Int) else if Fl.key32 a < Fl.key32 b then -1 else if Fl.key32 b < Fl.key32 a then 1 else 0), true) := by
        intro hz
        rw [if_neg hz]
        by_cases l1 : Fl.key32 a < Fl.key32 b
        · rw [if_pos l1, if_pos l1]
        · rw [if_neg l1, if_neg l1]
          by_cases l2 : Fl.key32 b < Fl.key32 a
          · rw [if_pos l2, if_pos l2]
          · rw [if_neg l2, if_neg l2]
      by_cases za : a % 2147483648 = 0
      · rw [if_pos za]
        by_cases zb : b % 2147483648 = 0
        · rw [if_pos zb, if_pos ⟨za, zb⟩]
        · rw [if_neg zb]; exact fin (by omega)
      · rw [if_neg za]; exact fin (by omega)

end Go.Proofs.YtfloeiagdegpjaaDoor.Q
