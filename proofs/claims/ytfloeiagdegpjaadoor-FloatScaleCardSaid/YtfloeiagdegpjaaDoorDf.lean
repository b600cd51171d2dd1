/- Package float's Split and Scale as Lean functions over whole numbers; what each call comes to where the library's table lies as its initialiser lays it. -/
import Derived.Test.YtfloeiagdegpjaaDoorDe
import Derived.Test.YtfloeiagdegpjaaDoorQa
import Derived.Test.YtfloeiagdegpjaaDoorPs
import Derived.Laws.MathBits
namespace Go.Proofs.YtfloeiagdegpjaaDoor.Rf
open Go.RowKit Go.Proofs.YtfloeiagdegpjaaDoorW.PrintWords Go.Proofs.YtfloeiagdegpjaaDoor.Q
set_option linter.unusedVariables false
set_option linter.unusedSimpArgs false

/-- math/bits' table, as its initialiser lays it. -/
def Tab (w : World) : Prop := 0 < w.heap.size ∧ ∀ j, j < 64 → w.cell? ⟨0, j, none⟩ = some (.int .u8 (Lib.deBruijn64tab.getD j 0))
theorem tabOf {w w' : World} (h : Tab w) (b : Below w.heap.size w w') : Tab w' :=
  ⟨by have := b.size; have := h.1; omega, fun j hj => (b.cell (p := ⟨0, j, none⟩) h.1).trans (h.2 j hj)⟩

theorem tz_key (x a : Nat) (hx : x < 18446744073709551616) (hx0 : x ≠ 0) (hlow : x &&& (18446744073709551616 - x) = a) :
    IntKind.u64.wrap (Go.bits BinOp.and IntKind.u64 (x : Int) (IntKind.u64.wrap (-(x : Int))) * 285870213051353865) / 288230376151711744 = ((a * 285870213051353865 % 18446744073709551616 / 288230376151711744 : Nat) : Int) := by
  have e1 : IntKind.u64.wrap (-(x : Int)) = ((18446744073709551616 - x : Nat) : Int) := by rw [IntKind.wrap_u64]; omega
  rw [e1, bits_and_u64_nat x _ hx (by omega), hlow, IntKind.wrap_u64]
  omega

theorem tz_calls (x : Nat) (hx0 : x ≠ 0) (hx : x < 18446744073709551616) (w : World) (hT : Tab w) :
    Calls Tryd.prog 9 #[.int .u64 x] w fun e w' => e = .returned (.int .i64 (Lib.ctz 64 x)) ∧ w = w' := by
  obtain ⟨hlow, hk⟩ := Lib.lowest_bit 64 x hx0 hx
  obtain ⟨hi, htab⟩ := Lib.deBruijn64_at _ hk
  have hcell := hT.2 _ hi
  rw [htab] at hcell
  exact (Dw.tz_core x _ _ w (by simp; omega) (tz_key x _ hx hx0 hlow) hi hk hcell).mono fun e w' ⟨h, hw⟩ => ⟨h, hw.symm⟩

/-! The parts of a pattern. -/
def fld (b : Nat) : Nat := b / 4503599627370496 % 2048
def man (b : Nat) : Nat := if fld b = 0 then b % 4503599627370496 else b % 4503599627370496 + 4503599627370496
def pow0 (b : Nat) : Int := if fld b = 0 then -1074 else (fld b : Int) - 1075
def tzs (b : Nat) : Nat := Lib.ctz 64 (man b)
def sgn (b : Nat) : Bool := b / 9223372036854775808 == 1
def splitOf (b : Nat) : Bool × Int × Int × Bool :=
  if fld b = 2047 then (false, 0, 0, false) else if man b = 0 then (sgn b, 0, 0, true) else (sgn b, ((man b / 2 ^ tzs b : Nat) : Int), pow0 b + (tzs b : Int), true)
def float_Split.f (a : Int) : Option (Bool × Int × Int × Bool) := if In64 a then some (splitOf a.toNat) else none

theorem man_lt (b : Nat) : man b < 9007199254740992 := by unfold man; split <;> omega
theorem tzs_lt {b : Nat} (h : man b ≠ 0) : tzs b < 64 := (Lib.lowest_bit 64 (man b) h (by have := man_lt b; rw [show (2 : Nat) ^ 64 = 18446744073709551616 by decide]; omega)).2
theorem fld_bits {b : Nat} (h : b < 18446744073709551616) : Go.bits .and .i64 ((b : Int) / 4503599627370496) 2047 = ((fld b : Nat) : Int) := by
  have h0 : 0 ≤ (b : Int) / 4503599627370496 := by omega
  have h1 : (b : Int) / 4503599627370496 < 4096 := by omega
  have e : ((fld b : Nat) : Int) = (b : Int) / 4503599627370496 % 2048 := by unfold fld; omega
  rw [e]
  generalize (b : Int) / 4503599627370496 = z at *
  have hm : (BitVec.ofInt 64 2047).toNat = 2 ^ 11 - 1 := by decide
  have key : (BitVec.ofInt 64 z &&& BitVec.ofInt 64 2047).toNat = (z % ((2 ^ 64 : Nat) : Int)).toNat % 2 ^ 11 := by
    rw [BitVec.toNat_and, BitVec.toNat_ofInt, hm, Nat.and_two_pow_sub_one_eq_mod]
  show IntKind.i64.wrap ((BitVec.ofInt 64 z &&& BitVec.ofInt 64 2047).toNat : Nat) = z % 2048
  rw [key, IntKind.wrap_i64]
  omega
theorem fr_bits {b : Nat} (h : b < 18446744073709551616) : Go.bits .and .u64 (b : Int) 4503599627370495 = ((b % 4503599627370496 : Nat) : Int) := by
  rw [show (4503599627370495 : Int) = ((4503599627370495 : Nat) : Int) by rfl, bits_and_u64_nat b _ h (by decide), show 4503599627370495 = 2 ^ 52 - 1 by decide, Nat.and_two_pow_sub_one_eq_mod, show (2 : Nat) ^ 52 = 4503599627370496 by decide]
theorem or_bits {r : Nat} (h : r < 4503599627370496) : Go.bits .or .u64 (r : Int) 4503599627370496 = ((r + 4503599627370496 : Nat) : Int) := by
  rw [show (4503599627370496 : Int) = ((4503599627370496 : Nat) : Int) by rfl, bits_or_u64_nat r _ (by omega) (by decide), show 4503599627370496 = 2 ^ 52 by decide, ← testBit_sum (by rw [show (2 : Nat) ^ 52 = 4503599627370496 by decide]; exact h)]
theorem shr_nat (m k : Nat) : (m : Int) / 2 ^ ((k : Int)).toNat = ((m / 2 ^ k : Nat) : Int) := by
  rw [Int.toNat_natCast]
  exact_mod_cast rfl

theorem split_calls (b : Nat) (h : b < 18446744073709551616) (w : World) (hT : Tab w) :
    Calls Tryd.prog 4 #[.int .u64 b] w (Dw.SomeDrawn (.returned (.tuple #[.bool (splitOf b).1, .int .u64 (splitOf b).2.1, .int .i64 (splitOf b).2.2.1, .bool (splitOf b).2.2.2])) w) := by
  have e1 := fld_bits h
  have e2 := fr_bits h
  have hs : ((b : Int) / 9223372036854775808 == 1) = sgn b := by
    unfold sgn
    by_cases hc : b / 9223372036854775808 = 1
    · rw [hc]; simp; omega
    · rw [beq_eq_false_iff_ne.2 hc]; simp; omega
  have hf : fld b < 2048 := by unfold fld; omega
  unfold splitOf
  by_cases h1 : fld b = 2047
  · rw [if_pos h1]
    rw [h1] at e1
    exact (Dw.split_odd b w (by omega) (by omega) e1).mono fun e w' ⟨h, hw⟩ => ⟨h, 0, hw.symm⟩
  · rw [if_neg h1]
    have hml := man_lt b
    by_cases h2 : man b = 0
    · rw [if_pos h2]
      have h3 : fld b = 0 ∧ b % 4503599627370496 = 0 := by unfold man at h2; split at h2 <;> omega
      rw [h3.1] at e1
      rw [h3.2] at e2
      rw [← hs]
      exact (Dw.split_zero b w (by omega) (by omega) e1 e2).mono fun e w' ⟨h, hw⟩ => ⟨h, 0, hw.symm⟩
    · rw [if_neg h2]
      have hk := tzs_lt h2
      have hc := tz_calls (man b) h2 (by omega) w hT
      by_cases h3 : fld b = 0
      · have hm : man b = b % 4503599627370496 := by unfold man; rw [if_pos h3]
        rw [h3] at e1
        rw [← hm] at e2
        have key := Dw.split_low b (man b : Nat) (tzs b : Nat) w (by omega) (by omega) e1 e2 (by rw [beq_eq_false_iff_ne]; omega) (by omega) (by omega) (by omega) (by omega) hc
        have ep : pow0 b = -1074 := by unfold pow0; rw [if_pos h3]
        rw [shr_nat, hs] at key
        rw [ep]
        exact key
      · have hm : man b = b % 4503599627370496 + 4503599627370496 := by unfold man; rw [if_neg h3]
        have e3 := or_bits (r := b % 4503599627370496) (by omega)
        rw [← hm] at e3
        have key := Dw.split_high b (fld b : Nat) _ (man b : Nat) (tzs b : Nat) w (by omega) (by omega) e1 e2 e3 (by omega) (by omega) (by rw [beq_eq_false_iff_ne]; omega) (by rw [beq_eq_false_iff_ne]; omega) (by omega) (by omega) (by omega) (by omega) hc
        have ep : pow0 b + (tzs b : Int) = (fld b : Int) - 1 - 1074 + (tzs b : Int) := by unfold pow0; rw [if_neg h3]; omega
        rw [shr_nat, hs] at key
        rw [ep]
        exact key

theorem float_Split.calls (a : Int) (r1 : Bool) (r2 r3 : Int) (r4 : Bool) (w : World) (h : float_Split.f a = some (r1, r2, r3, r4)) (hT : Tab w) :
    Calls Tryd.prog 4 #[.int .u64 a] w fun e w' => e = .returned (.tuple #[.bool r1, .int .u64 r2, .int .i64 r3, .bool r4]) ∧ Drawn0 w w' := by
  obtain ⟨⟨h0, h1⟩, h2⟩ := some_if h
  obtain ⟨b, rfl⟩ : ∃ b : Nat, a = b := ⟨a.toNat, by omega⟩
  rw [Int.toNat_natCast] at h2
  have := split_calls b (by omega) w hT
  rw [h2] at this
  exact this.mono fun e w' ⟨h, hw⟩ => ⟨h, drawn_of hw⟩

/-! m times 2^n, where nothing is cut off but by the greatest. -/
def ldx (m : Nat) (n : Int) : Nat :=
  if 1023 < (m.log2 : Int) + n then 9218868437227405312
  else if (m.log2 : Int) + n < -1022 then m * 2 ^ (n + 1074).toNat
  else ((m.log2 : Int) + n + 1022).toNat * 4503599627370496 + m * 2 ^ (52 - m.log2)

theorem ldexp_calls (m : Nat) (n : Int) (w : World) (hm : 0 < m) (hm2 : m < 9007199254740992) (n0 : -1074 ≤ n) (n1 : n ≤ 100000) :
    Calls Tryd.prog 15 #[.int .u64 m, .int .i64 n] w fun e w' => e = .returned (.int .u64 (ldx m n : Nat)) ∧ w = w' := by
  obtain ⟨t, ht⟩ : ∃ t, t = m.log2 := ⟨_, rfl⟩
  have hl := Nat.log2_self_le (n := m) (by omega)
  have hu : m < 2 ^ (m.log2 + 1) := Nat.lt_log2_self
  rw [← ht] at hl hu
  have ht52 : t ≤ 52 := by
    rcases Nat.lt_or_ge 52 t with h | h
    · exfalso
      have : 2 ^ 53 ≤ 2 ^ t := Nat.pow_le_pow_right (by decide) h
      have e : (2 : Nat) ^ 53 = 9007199254740992 := by decide
      omega
    · exact h
  have hb : (Lib.bitLen ((m : Int)).toNat : Int) = (t : Int) + 1 := by
    have h64 : m < 2 ^ 64 := by rw [show (2 : Nat) ^ 64 = 18446744073709551616 by decide]; omega
    have h1 : m / 2 ^ t = 1 := by
      rw [Nat.pow_succ] at hu
      exact Nat.div_eq_of_lt_le (by omega) (by omega)
    have h2 := Lib.bitLen_shift t m hl h64
    rw [h1, show Lib.bitLen 1 = 1 by decide] at h2
    rw [Int.toNat_natCast, h2]
    rfl
  have hz : ((m : Int) == 0) = false := beq_eq_false_iff_ne.2 (by omega)
  unfold ldx
  rw [← ht]
  by_cases h1 : 1023 < (t : Int) + n
  · rw [if_pos h1]
    exact Dw.ldexp_inf m n t w hz (by omega) (by omega) hb (by omega) (by omega) (by omega) (by omega) h1
  · rw [if_neg h1]
    by_cases h2 : (t : Int) + n < -1022
    · rw [if_pos h2]
      have key := Dw.ldexp_sub m n t w hz (by omega) (by omega) hb (by omega) (by omega) (by omega) (by omega) h2
      have e : IntKind.u64.wrap ((m : Int) * 2 ^ (n + 1074).toNat) = ((m * 2 ^ (n + 1074).toNat : Nat) : Int) := by
        have hlt : m * 2 ^ (n + 1074).toNat < 4503599627370496 := by
          have h3 : m * 2 ^ (n + 1074).toNat < 2 ^ (t + 1) * 2 ^ (n + 1074).toNat := Nat.mul_lt_mul_of_pos_right hu (Nat.two_pow_pos _)
          rw [← Nat.pow_add] at h3
          have h4 : 2 ^ (t + 1 + (n + 1074).toNat) ≤ 2 ^ 52 := Nat.pow_le_pow_right (by decide) (by omega)
          have e5 : (2 : Nat) ^ 52 = 4503599627370496 := by decide
          omega
        have e6 : (m : Int) * 2 ^ (n + 1074).toNat = ((m * 2 ^ (n + 1074).toNat : Nat) : Int) := by simp
        rw [e6, IntKind.wrap_u64]
        omega
      rw [e] at key
      exact key
    · rw [if_neg h2]
      have key := Dw.ldexp_norm m n t w hz (by omega) (by omega) hb (by omega) (by omega) (by omega) (by omega) (by omega) (by omega)
      obtain ⟨k, hk⟩ : ∃ k, k = m * 2 ^ (52 - t) := ⟨_, rfl⟩
      have k0 : 4503599627370496 ≤ k := by
        have h3 : 2 ^ t * 2 ^ (52 - t) ≤ m * 2 ^ (52 - t) := Nat.mul_le_mul_right _ hl
        rw [← Nat.pow_add, show t + (52 - t) = 52 by omega, ← hk] at h3
        have e5 : (2 : Nat) ^ 52 = 4503599627370496 := by decide
        omega
      have k1 : k < 9007199254740992 := by
        have h3 : m * 2 ^ (52 - t) < 2 ^ (t + 1) * 2 ^ (52 - t) := Nat.mul_lt_mul_of_pos_right hu (Nat.two_pow_pos _)
        rw [← Nat.pow_add, show t + 1 + (52 - t) = 53 by omega, ← hk] at h3
        have e5 : (2 : Nat) ^ 53 = 9007199254740992 := by decide
        omega
      have e6 : IntKind.u64.wrap ((m : Int) * 2 ^ (52 - (t : Int)).toNat) = ((k : Nat) : Int) := by
        have e7 : (52 - (t : Int)).toNat = 52 - t := by omega
        have e8 : (m : Int) * 2 ^ (52 - t) = ((m * 2 ^ (52 - t) : Nat) : Int) := by simp
        rw [e7, e8, ← hk, IntKind.wrap_u64]
        omega
      obtain ⟨c, hc⟩ : ∃ c : Nat, (t : Int) + n + 1022 = c := ⟨((t : Int) + n + 1022).toNat, by omega⟩
      have e9 : Go.bits .or .u64 (((t : Int) + n + 1023) * 4503599627370496) (((k % 4503599627370496 : Nat)) : Int) = (((t : Int) + n + 1022).toNat * 4503599627370496 + k : Nat) := by
        have e10 : ((t : Int) + n + 1023) * 4503599627370496 = (((c + 1) * 4503599627370496 : Nat) : Int) := by omega
        have hkk : k % 4503599627370496 = k - 4503599627370496 := by omega
        have h2 : k - 4503599627370496 < 2 ^ 52 := by
          have e5 : (2 : Nat) ^ 52 = 4503599627370496 := by decide
          omega
        have h3 := Nat.two_pow_add_eq_or_of_lt h2 (c + 1)
        have e5 : (2 : Nat) ^ 52 = 4503599627370496 := by decide
        rw [e5] at h3
        rw [e10, hkk, bits_or_u64_nat _ _ (by omega) (by omega), Nat.mul_comm (c + 1), ← h3, hc, Int.toNat_natCast]
        omega
      rw [e6, fr_bits (by omega), e9, hk] at key
      exact key

/-! A number times a power of 2. -/
def scaled (m : Nat) (p : Int) : Nat := if -1074 ≤ p then ldx m p else Fl.rne m (-1074 - p).toNat
def scaleOf (b : Nat) (n : Int) : Int :=
  if fld b = 2047 ∨ man b = 0 then Fl.tld64 b else ((if sgn b then 9223372036854775808 else 0) + scaled (man b / 2 ^ tzs b) (Dw.clamp n + (pow0 b + (tzs b : Int))) : Nat)
def float_Scale.f (a n : Int) : Option Int := if In64 a then some (scaleOf a.toNat n) else none

theorem tz_spec {x : Nat} (h0 : x ≠ 0) (h : x < 18446744073709551616) : ∃ j, x = 2 ^ Lib.ctz 64 x * (2 * j + 1) := by
  obtain ⟨j, hj, _⟩ := Lib.ctzFrom_spec 64 x (by omega) (by rw [show (2 : Nat) ^ 64 = 18446744073709551616 by decide]; exact h)
  refine ⟨j, ?_⟩
  unfold Lib.ctz
  rw [if_neg h0]
  exact hj
theorem odd_part {b : Nat} (h : man b ≠ 0) : ∃ j, man b / 2 ^ tzs b = 2 * j + 1 ∧ man b = (2 * j + 1) * 2 ^ tzs b := by
  obtain ⟨j, hj⟩ := tz_spec h (by have := man_lt b; omega)
  refine ⟨j, ?_, ?_⟩
  · unfold tzs
    have h2 := Nat.two_pow_pos (Lib.ctz 64 (man b))
    rw [Nat.div_eq_iff_eq_mul_right h2 ⟨_, hj⟩]
    exact hj
  · rw [Nat.mul_comm]; exact hj
theorem pow0_range (b : Nat) : -1074 ≤ pow0 b ∧ pow0 b ≤ 972 := by
  have : fld b < 2048 := by unfold fld; omega
  unfold pow0
  split <;> omega

theorem ldx_lt {m : Nat} {p : Int} (hm : 0 < m) (hm2 : m < 9007199254740992) : ldx m p ≤ 9218868437227405312 := by
  have hl := Nat.log2_self_le (n := m) (by omega)
  have hu : m < 2 ^ (m.log2 + 1) := Nat.lt_log2_self
  unfold ldx
  split
  · exact Nat.le_refl _
  · split
    · have h3 : m * 2 ^ (p + 1074).toNat < 2 ^ (m.log2 + 1) * 2 ^ (p + 1074).toNat := Nat.mul_lt_mul_of_pos_right hu (Nat.two_pow_pos _)
      rw [← Nat.pow_add] at h3
      by_cases hp : 0 ≤ p + 1074
      · have h4 : 2 ^ (m.log2 + 1 + (p + 1074).toNat) ≤ 2 ^ 52 := Nat.pow_le_pow_right (by decide) (by omega)
        have e5 : (2 : Nat) ^ 52 = 4503599627370496 := by decide
        omega
      · have e0 : (p + 1074).toNat = 0 := by omega
        rw [e0, Nat.pow_zero]
        omega
    · have h52 : m.log2 ≤ 52 := by
        rcases Nat.lt_or_ge 52 m.log2 with h | h
        · exfalso
          have : 2 ^ 53 ≤ 2 ^ m.log2 := Nat.pow_le_pow_right (by decide) h
          have e : (2 : Nat) ^ 53 = 9007199254740992 := by decide
          omega
        · exact h
      have h3 : m * 2 ^ (52 - m.log2) < 2 ^ (m.log2 + 1) * 2 ^ (52 - m.log2) := Nat.mul_lt_mul_of_pos_right hu (Nat.two_pow_pos _)
      rw [← Nat.pow_add, show m.log2 + 1 + (52 - m.log2) = 53 by omega] at h3
      have e5 : (2 : Nat) ^ 53 = 9007199254740992 := by decide
      omega

/-- A number of at most 53 digits in units of the least place stays as it is. -/
theorem ldx_least {x : Nat} (h0 : 0 < x) (h : x ≤ 4503599627370496) : ldx x (-1074) = x := by
  have hl := Nat.log2_self_le (n := x) (by omega)
  have hu : x < 2 ^ (x.log2 + 1) := Nat.lt_log2_self
  have e5 : (2 : Nat) ^ 52 = 4503599627370496 := by decide
  unfold ldx
  rw [if_neg (by
    rcases Nat.lt_or_ge 52 x.log2 with h' | h'
    · exfalso
      have : 2 ^ 53 ≤ 2 ^ x.log2 := Nat.pow_le_pow_right (by decide) h'
      have e : (2 : Nat) ^ 53 = 9007199254740992 := by decide
      omega
    · omega)]
  by_cases hx : x = 4503599627370496
  · subst hx
    decide +kernel
  · have h51 : x.log2 ≤ 51 := by
      rcases Nat.lt_or_ge 51 x.log2 with h' | h'
      · exfalso
        have : 2 ^ 52 ≤ 2 ^ x.log2 := Nat.pow_le_pow_right (by decide) h'
        omega
      · exact h'
    rw [if_pos (by omega), show ((-1074 : Int) + 1074).toNat = 0 by decide, Nat.pow_zero, Nat.mul_one]

theorem ldexp_least (x : Nat) (w : World) (h : x ≤ 4503599627370496) :
    Calls Tryd.prog 15 #[.int .u64 x, .int .i64 (-1074)] w fun e w' => e = .returned (.int .u64 (x : Nat)) ∧ w = w' := by
  rcases Nat.eq_zero_or_pos x with rfl | h0
  · exact Dw.ldexp_zero (-1074) w
  · have := ldexp_calls x (-1074) w h0 (by omega) (by omega) (by omega)
    rw [ldx_least h0 h] at this
    exact this

theorem sign_word {x : Nat} (s : Bool) (h : x < 9223372036854775808) : (bif s then Go.bits .or .u64 (x : Int) 9223372036854775808 else (x : Int)) = (((if s then 9223372036854775808 else 0) + x : Nat) : Int) := by
  cases s
  · simp
  · simp only [cond_true, if_true]
    rw [or_sign64 (by omega) (by omega)]
    omega

theorem pow_le60 {g : Nat} (h : g ≤ 60) : 2 ^ g ≤ 1152921504606846976 := by
  have : 2 ^ g ≤ 2 ^ 60 := Nat.pow_le_pow_right (by decide) h
  have e : (2 : Nat) ^ 60 = 1152921504606846976 := by decide
  omega

theorem scale_calls (b : Nat) (n : Int) (h : b < 18446744073709551616) (w : World) (hT : Tab w) :
    Calls Tryd.prog 6 #[.int .u64 b, .int .i64 n] w (Dw.SomeDrawn (.returned (.int .u64 (scaleOf b n))) w) := by
  have hs := split_calls b h w hT
  unfold splitOf at hs
  have ht : ∀ w, Calls Tryd.prog 13 #[.float .f64 ((b : Int)).toNat] w fun e w' => e = .returned (.int .u64 (Fl.tld64 b)) ∧ w = w' := fun w => by
    have := Fl.told64 b w
    rw [Int.toNat_natCast]
    exact this
  unfold scaleOf
  by_cases h1 : fld b = 2047
  · rw [if_pos h1] at hs
    rw [if_pos (.inl h1)]
    exact Dw.scale_bad b n 0 0 _ false w hs ht
  · rw [if_neg h1] at hs
    by_cases h2 : man b = 0
    · rw [if_pos h2] at hs
      rw [if_pos (.inr h2)]
      exact Dw.scale_nil b n 0 0 _ (sgn b) w hs ht
    · rw [if_neg h2] at hs
      rw [if_neg (by omega)]
      obtain ⟨j, hj, hj2⟩ := odd_part h2
      have hml := man_lt b
      have hk := tzs_lt h2
      have hp := pow0_range b
      obtain ⟨m, hm⟩ : ∃ m, m = man b / 2 ^ tzs b := ⟨_, rfl⟩
      have hm0 : 0 < m := by omega
      have hm1 : m < 9007199254740992 := by
        have : m ≤ man b := by rw [hm]; exact Nat.div_le_self _ _
        omega
      obtain ⟨e, he⟩ : ∃ e, e = pow0 b + (tzs b : Int) := ⟨_, rfl⟩
      obtain ⟨c, hc⟩ : ∃ c, Dw.clamp n = c := ⟨_, rfl⟩
      rw [← hm, ← he] at hs ⊢
      rw [hc]
      have hc2 : -10000 ≤ c ∧ c ≤ 10000 := by
        rw [← hc]; unfold Dw.clamp
        split <;> (try split) <;> omega
      have hz : ((m : Int) == 0) = false := beq_eq_false_iff_ne.2 (by omega)
      have e0 : -2000 ≤ e := by omega
      have e1 : e ≤ 2000 := by omega
      unfold scaled
      by_cases hup : -1074 ≤ c + e
      · rw [if_pos hup]
        have key := Dw.scale_up b n m e c (ldx m (c + e) : Nat) (sgn b) w hs hz hc e0 e1 hup (fun w => ldexp_calls m (c + e) w hm0 hm1 hup (by omega))
        have := ldx_lt (p := c + e) hm0 hm1
        rw [sign_word _ (by omega)] at key
        exact key
      · rw [if_neg hup]
        obtain ⟨g, hg⟩ : ∃ g : Nat, g = (-1074 - (c + e)).toNat := ⟨_, rfl⟩
        rw [← hg]
        by_cases h60 : 60 < g
        · have e0' : Fl.rne m g = 0 := by unfold Fl.rne; rw [if_pos h60]
          rw [e0']
          have key := Dw.scale_gone b n m e c (sgn b) w hs hz hc e0 e1 (by omega) (fun w => Dw.ldexp_zero (-1074) w)
          have e2 := sign_word (x := 0) (sgn b) (by decide)
          rw [show ((0 : Nat) : Int) = 0 from rfl] at e2
          rw [e2] at key
          exact key
        · have hg1 : 1 ≤ g := by omega
          have hP := Nat.two_pow_pos g
          have hP60 := pow_le60 (Nat.le_of_not_lt h60)
          obtain ⟨H, hH⟩ : ∃ H, H = 2 ^ (g - 1) := ⟨_, rfl⟩
          have hH0 : 0 < H := hH ▸ Nat.two_pow_pos (g - 1)
          have hPH : 2 ^ g = 2 * H := by
            rw [hH, Nat.mul_comm, ← Nat.pow_succ]; congr 1; omega
          have hrl := Fl.rne_le hm1 hg1
          have hmod : m % 2 ^ g < 2 ^ g := Nat.mod_lt _ hP
          have eR : Go.bits .and .u64 (m : Int) (((2 ^ g : Nat) : Int) - 1) = ((m % 2 ^ g : Nat) : Int) := by
            rw [show ((2 ^ g : Nat) : Int) - 1 = ((2 ^ g - 1 : Nat) : Int) by omega, bits_and_u64_nat m _ (by omega) (by omega), Nat.and_two_pow_sub_one_eq_mod]
          have eo : Go.bits .and .u64 ((m / 2 ^ g : Nat) : Int) 1 = ((m / 2 ^ g % 2 : Nat) : Int) := by
            have hq : m / 2 ^ g ≤ m := Nat.div_le_self _ _
            rw [show (1 : Int) = ((1 : Nat) : Int) by rfl, bits_and_u64_nat _ _ (by omega) (by decide), Nat.and_one_is_mod]
          have key := Dw.scale_round b n m e c (Fl.rne m g : Nat) ((2 ^ g : Nat) : Int) (H : Nat) (m % 2 ^ g : Nat) (m / 2 ^ g : Nat) (m / 2 ^ g % 2 : Nat) (sgn b) w hs hz hc e0 e1 (by omega) (by omega)
            (by rw [← hg, IntKind.wrap_u64, show (2 : Int) ^ g = ((2 ^ g : Nat) : Int) by simp]; omega) (by omega) (by omega) (by omega) (by omega) eR
            (by rw [← hg]; simp) (Int.natCast_nonneg _) (by have hq : m / 2 ^ g ≤ m := Nat.div_le_self _ _; omega) eo
            (by
              have er : Fl.rne m g = m / 2 ^ g + (if m % 2 ^ g > H ∨ m % 2 ^ g = H ∧ m / 2 ^ g % 2 = 1 then 1 else 0) := by
                unfold Fl.rne; rw [if_neg h60, hH]
              rw [er]
              by_cases hx : m % 2 ^ g > H ∨ m % 2 ^ g = H ∧ m / 2 ^ g % 2 = 1
              · rw [if_pos hx]
                rcases hx with hx | ⟨hx, hy⟩
                · exact .inl ⟨by omega, by omega⟩
                · exact .inr (.inl ⟨by omega, by omega, by omega⟩)
              · rw [if_neg hx]
                by_cases hx2 : m % 2 ^ g = H
                · exact .inr (.inr (.inl ⟨by omega, by omega, by omega⟩))
                · exact .inr (.inr (.inr ⟨by omega, by omega⟩)))
            (fun w => ldexp_least (Fl.rne m g) w hrl)
          rw [sign_word _ (by omega)] at key
          exact key

theorem float_Scale.calls (a n r : Int) (w : World) (h : float_Scale.f a n = some r) (hT : Tab w) :
    Calls Tryd.prog 6 #[.int .u64 a, .int .i64 n] w fun e w' => e = .returned (.int .u64 r) ∧ Drawn0 w w' := by
  obtain ⟨⟨h0, h1⟩, h2⟩ := some_if h
  obtain ⟨b, rfl⟩ : ∃ b : Nat, a = b := ⟨a.toNat, by omega⟩
  rw [Int.toNat_natCast] at h2
  have := scale_calls b n (by omega) w hT
  rw [h2] at this
  exact this.mono fun e w' ⟨h, hw⟩ => ⟨h, drawn_of hw⟩
end Go.Proofs.YtfloeiagdegpjaaDoor.Rf
