/- Round: what package float makes whole is what the reference makes whole. No program runs here. -/
import Derived.Test.YtfloeiagdegpjaaQp
namespace Go.Proofs.Ytfloeiagdegpjaa.Q
open Go.RowKit Go.Proofs.YtfloeiagdegpjaaW.PrintWords Go.Proofs.Ytfloeiagdegpjaa.Rf
open Ieee (Format Toward Datum)
set_option linter.unusedVariables false
set_option linter.unusedSimpArgs false

theorem andNot_low {y d : Nat} (hy : y < 18446744073709551616) (hd : d ≤ 63) : Go.bits .andNot .u64 (y : Int) ((2 ^ d - 1 : Nat) : Int) = ((y / 2 ^ d * 2 ^ d : Nat) : Int) := by
  have hp : 2 ^ d ≤ 2 ^ 63 := Nat.pow_le_pow_right (by omega) hd
  have h63 : (2 : Nat) ^ 63 = 9223372036854775808 := by decide
  have h0 := Nat.two_pow_pos d
  rw [u64_andNot_nat _ _ hy (by omega)]
  congr 1
  have e : 18446744073709551615 - (2 ^ d - 1) = 2 ^ 64 - ((2 ^ d - 1) + 1) := by
    rw [show (2 : Nat) ^ 64 = 18446744073709551616 by decide]; omega
  rw [e]
  apply Nat.eq_of_testBit_eq
  intro i
  rw [Nat.testBit_and, Nat.testBit_two_pow_sub_succ (by rw [show (2 : Nat) ^ 64 = 18446744073709551616 by decide]; omega), Nat.testBit_two_pow_sub_one, Nat.testBit_mul_two_pow, Nat.testBit_div_two_pow]
  by_cases hi : d ≤ i
  · by_cases h64 : i < 64
    · have : i - d + d = i := by omega
      simp [hi, h64, this]
    · have hb : y.testBit i = false := Nat.testBit_lt_two_pow (Nat.lt_of_lt_of_le hy (by
        rw [show (18446744073709551616 : Nat) = 2 ^ 64 by decide]
        exact Nat.pow_le_pow_right (by omega) (by omega)))
      have : i - d + d = i := by omega
      simp [hi, h64, this, hb]
  · simp [hi]
    intro _ _; omega

theorem pow_split {a b : Nat} (h : a ≤ b) : 2 ^ b / 2 ^ a = 2 ^ (b - a) := Nat.pow_div h (by decide)
theorem mask_split {c d : Nat} (h : c + d = 52) : 4503599627370495 / 2 ^ c = 2 ^ d - 1 := by
  have e : 4503599627370496 = 2 ^ d * 2 ^ c := by rw [← Nat.pow_add, Nat.add_comm d c, h]
  have h0 := Nat.two_pow_pos c
  have h1 := Nat.two_pow_pos d
  rw [Nat.div_eq_iff h0]
  have e2 : (2 ^ d - 1) * 2 ^ c + 2 ^ c = 4503599627370496 := by
    rw [e]
    conv => lhs; rhs; rw [← Nat.one_mul (2 ^ c)]
    rw [← Nat.add_mul]; congr 1; omega
  omega

theorem half_up {m d : Nat} (hd : 1 ≤ d) : (m + 2 ^ (d - 1)) / 2 ^ d = m / 2 ^ d + (decide (m / 2 ^ (d - 1) % 2 = 1)).toNat := by
  have hg := Nat.two_pow_pos (d - 1)
  have e : 2 ^ d = 2 ^ (d - 1) * 2 := by rw [← Nat.pow_succ, Nat.succ_eq_add_one, show d - 1 + 1 = d by omega]
  rw [e, ← Nat.div_div_eq_div_mul, ← Nat.div_div_eq_div_mul, Nat.add_div_right _ hg]
  generalize m / 2 ^ (d - 1) = v
  by_cases h : v % 2 = 1
  · rw [decide_eq_true h, Bool.toNat_true]; omega
  · rw [decide_eq_false h, Bool.toNat_false]; omega

theorem val_double_at {T k : Nat} (hk : k ≤ 9007199254740992) (hT : T = 0 ∨ 4503599627370496 ≤ k) : _root_.Fl.val Ieee.double (T * 4503599627370496 + k) = k * 2 ^ T :=
  _root_.Fl.val_at Ieee.double (by rw [show Ieee.double.binade = 4503599627370496 by decide]; omega) (by rw [show Ieee.double.binade = 4503599627370496 by decide]; omega)

theorem split_x {x σ r m g T : Nat} (h : x = σ + r) (h2 : r = T + m) : x + g = m + g + (σ + T) := by omega

/-- Halves away from nought. -/
theorem goRound_whole {x : Nat} (hx : x < 18446744073709551616) (hf : x % 9223372036854775808 < 9218868437227405312) :
    ∃ m p, Ieee.double.read x = .number (x / 9223372036854775808 % 2 == 1) m p ∧ Fl.goRound x = Ieee.double.nearest (x / 9223372036854775808 % 2 == 1) (whole (x / 9223372036854775808 % 2 == 1) m p 1) 0 := by
  obtain ⟨r, hr⟩ : ∃ r, r = x % 9223372036854775808 := ⟨_, rfl⟩
  obtain ⟨E, hE⟩ : ∃ E, E = r / 4503599627370496 := ⟨_, rfl⟩
  have hbits : Go.bits .and .u64 ((x : Int) / 4503599627370496) 2047 = (E : Int) := by
    have e1 : (x : Int) / 4503599627370496 = ((x / 4503599627370496 : Nat) : Int) := rfl
    have := and_mask (k := 11) (x := ((x / 4503599627370496 : Nat) : Int)) (Int.natCast_nonneg _) (by omega) (by omega) (m := 2047) rfl
    rw [e1, this, Int.toNat_natCast, hE, hr]
    congr 1; omega
  have hread : Ieee.double.read x = .number (x / 9223372036854775808 % 2 == 1) (if E = 0 then r else 4503599627370496 + r % 4503599627370496) (if E = 0 then -1074 else -1074 + ((E - 1 : Nat) : Int)) := by
    unfold Ieee.Format.read
    simp only []
    rw [sign_double, show Ieee.double.binade = 4503599627370496 by decide, inf_double, least_double, ← hr]
    by_cases h : E = 0
    · rw [if_pos (show r < 4503599627370496 by omega), if_pos h, if_pos h]
    · rw [if_neg (show ¬ r < 4503599627370496 by omega), if_pos (by omega), if_neg h, if_neg h, ← hE]
  refine ⟨_, _, hread, ?_⟩
  obtain ⟨s, hs⟩ : ∃ s : Bool, s = (x / 9223372036854775808 % 2 == 1) := ⟨_, rfl⟩
  rw [← hs]
  have hxs : x = (if s then 9223372036854775808 else 0) + r := by
    by_cases h : x < 9223372036854775808
    · have : s = false := by rw [hs]; exact beq_eq_false_iff_ne.2 (by omega)
      rw [this]; simp; omega
    · have : s = true := by rw [hs]; exact beq_iff_eq.2 (by omega)
      rw [this]; simp; omega
  have hword : ∀ q, Ieee.double.word s q = (if s then 9223372036854775808 else 0) + q := fun q => by
    unfold Ieee.Format.word; rw [sign_double]; cases s <;> simp
  have hsgn : Go.bits .and .u64 (x : Int) 9223372036854775808 = (((if s then 9223372036854775808 else 0 : Nat)) : Int) := by
    rw [and_sign64 (Int.natCast_nonneg _) (by omega)]
    by_cases h : x < 9223372036854775808
    · have : s = false := by rw [hs]; exact beq_eq_false_iff_ne.2 (by omega)
      rw [this, if_pos (by omega)]; rfl
    · have : s = true := by rw [hs]; exact beq_iff_eq.2 (by omega)
      rw [this, if_neg (by omega)]; rfl
  have z0 : Ieee.double.nearest s 0 0 = Ieee.double.word s 0 := by unfold Ieee.Format.nearest; rw [if_pos rfl]
  have z1 : Ieee.double.nearest s 1 0 = Ieee.double.word s 4607182418800017408 := by cases s <;> decide +kernel
  unfold Fl.goRound
  rw [hbits]
  by_cases h1 : E < 1023
  · rw [show decide ((E : Int) < 1023) = true from decide_eq_true (by omega), cond_true]
    by_cases h2 : E = 1022
    · rw [show ((E : Int) == 1022) = true from beq_iff_eq.2 (by omega), cond_true, hsgn, if_neg (show ¬ E = 0 by omega), if_neg (show ¬ E = 0 by omega)]
      have hw : whole s (4503599627370496 + r % 4503599627370496) (-1074 + ((E - 1 : Nat) : Int)) 1 = 1 := by
        have e : (-(-1074 + ((E - 1 : Nat) : Int))).toNat = 53 := by omega
        unfold whole more
        rw [if_neg (by omega), e, if_neg (by decide), if_pos rfl]
        have a1 : (4503599627370496 + r % 4503599627370496) / 2 ^ 53 = 0 := by omega
        have a2 : (4503599627370496 + r % 4503599627370496) / 2 ^ (53 - 1) % 2 = 1 := by omega
        rw [a1, decide_eq_true a2]; rfl
      rw [hw, z1, hword]
      cases s <;> decide +kernel
    · rw [show ((E : Int) == 1022) = false from beq_eq_false_iff_ne.2 (by omega), cond_false, hsgn, Int.toNat_natCast]
      have hw : ∀ m p, m < 9007199254740992 → p ≤ -54 → whole s m p 1 = 0 := by
        intro m p hm hp
        obtain ⟨d, hd⟩ : ∃ d, d = (-p).toNat := ⟨_, rfl⟩
        unfold whole more
        rw [if_neg (by omega), ← hd, if_neg (by decide), if_pos rfl]
        have b1 : (9007199254740992 : Nat) ≤ 2 ^ (d - 1) := by
          have : (2 : Nat) ^ 53 ≤ 2 ^ (d - 1) := Nat.pow_le_pow_right (by decide) (by omega)
          exact this
        have b2 : (2 : Nat) ^ (d - 1) ≤ 2 ^ d := Nat.pow_le_pow_right (by decide) (by omega)
        rw [Nat.div_eq_of_lt (show m < 2 ^ d by omega), Nat.div_eq_of_lt (show m < 2 ^ (d - 1) by omega)]
        rfl
      rw [hw _ _ (by split <;> omega) (by split <;> omega), z0, hword]; rfl
  · rw [show decide ((E : Int) < 1023) = false from decide_eq_false (by omega), cond_false]
    have hE0 : ¬ E = 0 := by omega
    rw [if_neg hE0, if_neg hE0]
    obtain ⟨m, hm⟩ : ∃ m, m = 4503599627370496 + r % 4503599627370496 := ⟨_, rfl⟩
    rw [← hm]
    have hrE : r = (E - 1) * 4503599627370496 + m := by omega
    by_cases h2 : E < 1075
    · rw [show decide ((E : Int) < 1075) = true from decide_eq_true (by omega), cond_true]
      obtain ⟨d, hd⟩ : ∃ d, d = 1075 - E := ⟨_, rfl⟩
      have hd1 : 1 ≤ d := by omega
      have hd2 : d ≤ 52 := by omega
      have hc : ((E : Int) - 1023).toNat = 52 - d := by omega
      rw [hc]
      have f1 : (2251799813685248 : Int) / 2 ^ (52 - d) = ((2 ^ (d - 1) : Nat) : Int) := by
        have : (2251799813685248 : Nat) / 2 ^ (52 - d) = 2 ^ (d - 1) := by
          rw [show (2251799813685248 : Nat) = 2 ^ 51 by decide, pow_split (by omega)]; congr 1; omega
        rw [← this]; simp
      have f2 : (4503599627370495 : Int) / 2 ^ (52 - d) = ((2 ^ d - 1 : Nat) : Int) := by
        rw [← mask_split (c := 52 - d) (d := d) (by omega)]; simp
      have hpd : (2 : Nat) ^ (d - 1) ≤ 2251799813685248 := by
        have : (2 : Nat) ^ (d - 1) ≤ 2 ^ 51 := Nat.pow_le_pow_right (by decide) (by omega)
        exact this
      have hlt : x + 2 ^ (d - 1) < 18446744073709551616 := by
        rw [hxs]; split <;> omega
      have f3 : IntKind.u64.wrap ((x : Int) + ((2 ^ (d - 1) : Nat) : Int)) = ((x + 2 ^ (d - 1) : Nat) : Int) := by
        rw [← Int.natCast_add]; exact wrapu_nat hlt
      rw [f1, f2, f3, andNot_low hlt (by omega), Int.toNat_natCast]
      have hwh : whole s m (-1074 + ((E - 1 : Nat) : Int)) 1 = (m + 2 ^ (d - 1)) / 2 ^ d := by
        have e : (-(-1074 + ((E - 1 : Nat) : Int))).toNat = d := by omega
        rw [half_up hd1]
        unfold whole more
        rw [if_neg (by omega), e, if_neg (by decide), if_pos rfl]
      rw [hwh]
      obtain ⟨K, hK⟩ : ∃ K, K = (m + 2 ^ (d - 1)) / 2 ^ d := ⟨_, rfl⟩
      rw [← hK]
      have hp0 := Nat.two_pow_pos d
      have hB : (4503599627370496 : Nat) = 2 ^ (52 - d) * 2 ^ d := by rw [← Nat.pow_add, show 52 - d + d = 52 by omega]
      -- the word
      have hcut : (x + 2 ^ (d - 1)) / 2 ^ d * 2 ^ d = (if s then 9223372036854775808 else 0) + ((E - 1) * 4503599627370496 + K * 2 ^ d) := by
        obtain ⟨c, hc⟩ : ∃ c, (if s then 9223372036854775808 else 0) + (E - 1) * 4503599627370496 = c * 2 ^ d := by
          refine ⟨((if s then 2048 else 0) + (E - 1)) * 2 ^ (52 - d), ?_⟩
          rw [Nat.mul_assoc, ← hB, Nat.add_mul]
          congr 1
          cases s <;> rfl
        have e1 : x + 2 ^ (d - 1) = (m + 2 ^ (d - 1)) + c * 2 ^ d := by
          rw [← hc]
          exact split_x hxs hrE
        rw [e1, Nat.add_mul_div_right _ _ hp0, ← hK, Nat.add_mul, ← hc]
        omega
      rw [hcut]
      -- its number
      have hK1 : 4503599627370496 ≤ K * 2 ^ d := by
        have : 2 ^ (52 - d) ≤ K := by
          rw [hK, Nat.le_div_iff_mul_le hp0, ← hB]
          exact Nat.le_trans (by rw [hm]; exact Nat.le_add_right _ _) (Nat.le_add_right m _)
        rw [hB]; exact Nat.mul_le_mul_right _ this
      have hK2 : K * 2 ^ d ≤ 9007199254740992 := by
        have h3 : K * 2 ^ d ≤ m + 2 ^ (d - 1) := by rw [hK]; exact Nat.div_mul_le_self _ _
        have h4 : K * 2 ^ d < 4503599627370496 * 2 + 2 ^ (d - 1) + 0 := by omega
        have h5 : K < 2 * 2 ^ (52 - d) + 1 := by
          rcases Nat.lt_or_ge K (2 * 2 ^ (52 - d) + 1) with h | h
          · exact h
          · exfalso
            have h6 := Nat.mul_le_mul_right (2 ^ d) h
            rw [Nat.add_mul, Nat.mul_assoc, ← hB, Nat.one_mul] at h6
            have h7 : 2 ^ (d - 1) ≤ 2 ^ d := Nat.pow_le_pow_right (by decide) (by omega)
            omega
        have h6 := Nat.mul_le_mul_right (2 ^ d) (Nat.le_of_lt_succ h5)
        rw [Nat.mul_assoc, ← hB] at h6
        omega
      have hnv := _root_.Fl.nearest_val _root_.Fl.good_double s (r := (E - 1) * 4503599627370496 + K * 2 ^ d) (by rw [inf_double]; omega) K 0 (by rw [least_double]; omega) (by
        rw [val_double_at hK2 (Or.inr hK1), least_double, Nat.mul_assoc, ← Nat.pow_add]
        congr 2; omega)
      rw [hnv, hword]
    · rw [show decide ((E : Int) < 1075) = false from decide_eq_false (by omega), cond_false]
      have hwh : whole s m (-1074 + ((E - 1 : Nat) : Int)) 1 = m * 2 ^ (E - 1075) := by
        unfold whole
        rw [if_pos (by omega), show (-1074 + ((E - 1 : Nat) : Int)).toNat = E - 1075 by omega]
      rw [hwh]
      have hnv := _root_.Fl.nearest_val _root_.Fl.good_double s (r := r) (by rw [inf_double]; omega) (m * 2 ^ (E - 1075)) 0 (by rw [least_double]; omega) (by
        rw [hrE, val_double_at (by omega) (Or.inr (by omega)), least_double, Nat.mul_assoc, ← Nat.pow_add]
        congr 2; omega)
      rw [hnv, hword]; exact hxs
end Go.Proofs.Ytfloeiagdegpjaa.Q
