/- The units of a word; numbers that a format has are found exactly. Plain laws over Ieee alone. -/
import Derived.Test.YtfloeiagdegpjaaDoorPb
set_option linter.unusedVariables false
set_option linter.unusedSimpArgs false
namespace Fl
open Ieee

theorem val_mono_iff {f : Format} {r s : Nat} : val f r ≤ val f s ↔ r ≤ s := by
  constructor
  · intro h
    rcases Nat.lt_or_ge s r with h1 | h1
    · have := val_strict f h1; omega
    · exact h1
  · exact val_mono f

theorem val_inj {f : Format} {r s : Nat} (h : val f r = val f s) : r = s :=
  Nat.le_antisymm (val_mono_iff.1 (Nat.le_of_eq h)) (val_mono_iff.1 (Nat.le_of_eq h.symm))

theorem val_zero (f : Format) : val f 0 = 0 := by
  have := binade_pos f
  unfold val; rw [if_pos this]

theorem val_pos {f : Format} {r : Nat} (h : 0 < r) : 0 < val f r := by
  have := val_strict f h
  omega

/-- A finite word: its sign, a whole number, a place. -/
theorem read_fin {f : Format} (hf : Good f) (b : Nat) (h : b % f.signWeight < f.infRung) :
    ∃ m p, f.read b = .number (b / f.signWeight % 2 == 1) m p ∧ f.leastPlace ≤ p ∧ val f (b % f.signWeight) = m * 2 ^ (p - f.leastPlace).toNat ∧ m < 2 * f.binade := by
  have hB := binade_pos f
  unfold Format.read val
  simp only []
  generalize b % f.signWeight = r at *
  by_cases h1 : r < f.binade
  · rw [if_pos h1, if_pos h1]
    exact ⟨r, f.leastPlace, rfl, Int.le_refl _, by simp, by omega⟩
  · rw [if_neg h1, if_pos h, if_neg h1]
    refine ⟨_, _, rfl, by omega, ?_, by have := Nat.mod_lt r hB; omega⟩
    have : (f.leastPlace + ((r / f.binade - 1 : Nat) : Int) - f.leastPlace).toNat = r / f.binade - 1 := by omega
    rw [this]

theorem read_infinity {f : Format} (hf : Good f) (b : Nat) (h : b % f.signWeight = f.infRung) : f.read b = .infinity (b / f.signWeight % 2 == 1) := by
  have hle := binade_le_inf hf
  unfold Format.read
  simp only [h]
  rw [if_neg (by omega), if_neg (by omega), if_pos trivial]

/-- A rung's own number has that rung for its nearest. -/
theorem near_self {f : Format} {r : Nat} (hr : r < f.infRung) (m : Nat) (p : Int) (hp : f.leastPlace ≤ p) (hv : val f r = m * 2 ^ (p - f.leastPlace).toNat) :
    Near f (frac f m 1 p Nat.one_pos) r := by
  obtain ⟨a, ha⟩ : ∃ a : Nat, a = (p - f.leastPlace).toNat := ⟨_, rfl⟩
  have hab : (a : Int) - (0 : Nat) = p - f.leastPlace := by omega
  rw [← ha] at hv
  have lo : ∀ c, (frac f m 1 p Nat.one_pos).lo c ↔ c ≤ 2 * val f r := fun c => by
    rw [frac_lo f m 1 p Nat.one_pos hab, hv, Nat.pow_zero, Nat.mul_one, Nat.mul_one, Nat.mul_assoc]
  have hi : ∀ c, (frac f m 1 p Nat.one_pos).hi c ↔ 2 * val f r ≤ c := fun c => by
    rw [frac_hi f m 1 p Nat.one_pos hab, hv, Nat.pow_zero, Nat.mul_one, Nat.mul_one, Nat.mul_assoc]
  refine ⟨Nat.le_of_lt hr, fun h0 => ?_, fun _ => ?_⟩
  · have hlt := val_strict f (show r - 1 < r by omega)
    rw [lo, hi]
    exact ⟨by omega, fun h => by omega⟩
  · have hlt := val_lt_succ f r
    rw [lo, hi]
    exact ⟨by omega, fun h => by omega⟩

/-- What a rung stands for is written as that rung. -/
theorem nearest_val {f : Format} (hf : Good f) (neg : Bool) {r : Nat} (hr : r < f.infRung) (m : Nat) (p : Int) (hp : f.leastPlace ≤ p) (hv : val f r = m * 2 ^ (p - f.leastPlace).toNat) :
    f.nearest neg m p = f.word neg r := by
  obtain ⟨s, h1, h2⟩ := nearest_exact f hf.fb neg m p
  rw [h1, h2.unique (near_self hr m p hp hv)]

theorem word_of (f : Format) {b : Nat} (hb : b < 2 * f.signWeight) : f.word (b / f.signWeight % 2 == 1) (b % f.signWeight) = b := by
  have hp : 0 < f.signWeight := Nat.two_pow_pos _
  have h1 := Nat.div_add_mod b f.signWeight
  have h2 : b / f.signWeight < 2 := Nat.div_lt_of_lt_mul (by omega)
  unfold Format.word
  generalize f.signWeight = S at *
  have : b / S = 0 ∨ b / S = 1 := by
    generalize b / S = q at h2; clear h1; omega
  rcases this with h | h
  · rw [h] at h1 ⊢; simp at h1 ⊢; exact h1
  · rw [h] at h1 ⊢; simp at h1 ⊢; omega

/-- There and back. -/
theorem write_read {f : Format} (hf : Good f) {b : Nat} (hb : b < 2 * f.signWeight) (hn : b % f.signWeight ≤ f.infRung) : f.write (f.read b) = b := by
  rcases Nat.lt_or_ge (b % f.signWeight) f.infRung with h | h
  · obtain ⟨m, p, h1, h2, h3, _⟩ := read_fin hf b h
    rw [h1]
    show f.nearest _ m p = b
    rw [nearest_val hf _ h m p h2 h3, word_of f hb]
  · have he : b % f.signWeight = f.infRung := by omega
    rw [read_infinity hf b he]
    show f.word _ f.infRung = b
    rw [← he, word_of f hb]

theorem read_word_fin {f : Format} (hf : Good f) (neg : Bool) {r : Nat} (hr : r < f.infRung) :
    ∃ m p, f.read (f.word neg r) = .number neg m p ∧ f.leastPlace ≤ p ∧ val f r = m * 2 ^ (p - f.leastPlace).toNat ∧ m < 2 * f.binade := by
  have hs : r < f.signWeight := Nat.lt_trans hr f.infRung_lt
  have := read_fin hf (f.word neg r) (by rw [word_rung f neg hs]; exact hr)
  rw [word_rung f neg hs, word_neg f neg hs] at this
  exact this

theorem read_word_inf {f : Format} (hf : Good f) (neg : Bool) : f.read (f.word neg f.infRung) = .infinity neg := by
  have := read_infinity hf (f.word neg f.infRung) (by rw [word_rung f neg f.infRung_lt])
  rw [word_neg f neg f.infRung_lt] at this
  exact this

/-- A whole number of digits that fit, times a power of two, is some rung's. -/
theorem val_of (f : Format) {m : Nat} (hm : m < 2 * f.binade) (k : Nat) : ∃ r, val f r = m * 2 ^ k := by
  rcases Nat.eq_zero_or_pos m with rfl | hpos
  · exact ⟨0, by rw [val_zero]; simp⟩
  · have hB : f.binade = 2 ^ f.fractionBits := rfl
    have h1 : 2 ^ m.log2 ≤ m := Nat.log2_self_le (by omega)
    have h2 : m < 2 ^ (m.log2 + 1) := Nat.lt_log2_self
    have h3 : m.log2 ≤ f.fractionBits := by
      have : 2 ^ m.log2 < 2 ^ (f.fractionBits + 1) := by rw [Nat.pow_succ]; omega
      have := (Nat.pow_lt_pow_iff_right (by omega)).1 this
      omega
    obtain ⟨j, hj⟩ : ∃ j, j = min k (f.fractionBits - m.log2) := ⟨_, rfl⟩
    have hle : m * 2 ^ j ≤ 2 * f.binade := by
      calc m * 2 ^ j ≤ 2 ^ (m.log2 + 1) * 2 ^ j := Nat.mul_le_mul_right _ (Nat.le_of_lt h2)
        _ = 2 ^ (m.log2 + 1 + j) := by rw [← Nat.pow_add]
        _ ≤ 2 ^ (f.fractionBits + 1) := Nat.pow_le_pow_right (by omega) (by omega)
        _ = 2 * f.binade := by rw [hB, Nat.pow_succ, Nat.mul_comm]
    have hge : k - j = 0 ∨ f.binade ≤ m * 2 ^ j := by
      by_cases h : k ≤ f.fractionBits - m.log2
      · left; omega
      · right
        have : j = f.fractionBits - m.log2 := by omega
        rw [this]
        calc f.binade = 2 ^ (m.log2 + (f.fractionBits - m.log2)) := by rw [hB]; congr 1; omega
          _ = 2 ^ m.log2 * 2 ^ (f.fractionBits - m.log2) := by rw [Nat.pow_add]
          _ ≤ m * 2 ^ (f.fractionBits - m.log2) := Nat.mul_le_mul_right _ h1
    refine ⟨(k - j) * f.binade + m * 2 ^ j, ?_⟩
    rw [val_at f hle hge, Nat.mul_assoc, ← Nat.pow_add]
    congr 2; omega

/-- A number that the format has is written exactly. -/
theorem nearest_has {f : Format} (hf : Good f) (neg : Bool) {m k : Nat} (hm : m < 2 * f.binade) (p : Int) (hk : (k : Int) = p - f.leastPlace) (hlt : m * 2 ^ k < val f f.infRung) :
    ∃ r, r < f.infRung ∧ val f r = m * 2 ^ k ∧ f.nearest neg m p = f.word neg r := by
  obtain ⟨r, hr⟩ := val_of f hm k
  have hlt2 : r < f.infRung := by
    rcases Nat.lt_or_ge r f.infRung with h | h
    · exact h
    · have := val_mono f h; omega
  refine ⟨r, hlt2, hr, nearest_val hf neg hlt2 m p (by omega) ?_⟩
  rw [hr]; congr 2; omega

theorem val_inf_double : val double double.infRung = 2 ^ 2098 := by decide +kernel
theorem val_inf_single : val single single.infRung = 2 ^ 277 := by decide +kernel

theorem log2_lt_of {m k : Nat} (h : m < 2 ^ k) : m = 0 ∨ m.log2 < k := by
  rcases Nat.eq_zero_or_pos m with h0 | h0
  · exact Or.inl h0
  · exact Or.inr ((Nat.log2_lt (by omega)).2 h)

/-- A binary32 as a binary64: the same units, 925 places on. -/
theorem widen_fin {b : Nat} (h : b % single.signWeight < single.infRung) :
    ∃ r, r < double.infRung ∧ val double r = val single (b % single.signWeight) * 2 ^ 925 ∧ double.write (single.read b) = double.word (b / single.signWeight % 2 == 1) r := by
  obtain ⟨m, p, h1, h2, h3, h4⟩ := read_fin good_single b h
  have e1 : single.leastPlace = -149 := by decide
  have e2 : double.leastPlace = -1074 := by decide
  have e3 : single.binade = 8388608 := by decide
  have e4 : double.binade = 4503599627370496 := by decide
  rw [e1] at h2 h3
  rw [e3] at h4
  generalize hK : (925 : Nat) = K
  have hv : val single (b % single.signWeight) * 2 ^ K = m * 2 ^ ((p + 1074).toNat) := by
    rw [h3, Nat.mul_assoc, ← Nat.pow_add]; congr 2; omega
  have hlt : m * 2 ^ ((p + 1074).toNat) < val double double.infRung := by
    rw [← hv, val_inf_double]
    have := val_strict single h
    rw [val_inf_single] at this
    generalize hA : (2098 : Nat) = A
    generalize hC : (277 : Nat) = C at this
    have h6 : (2 : Nat) ^ A = 2 ^ (A - K) * 2 ^ K := by rw [← Nat.pow_add]; congr 1; omega
    have h7 : (2 : Nat) ^ C ≤ 2 ^ (A - K) := Nat.pow_le_pow_right (by omega) (by omega)
    rw [h6]
    exact Nat.mul_lt_mul_of_pos_right (Nat.lt_of_lt_of_le this h7) (Nat.two_pow_pos _)
  obtain ⟨r, hr1, hr2, hr3⟩ := nearest_has good_double (b / single.signWeight % 2 == 1) (m := m) (k := (p + 1074).toNat) (by rw [e4]; omega) p (by rw [e2]; omega) hlt
  refine ⟨r, hr1, by rw [hv]; exact hr2, ?_⟩
  rw [h1]; exact hr3
end Fl
