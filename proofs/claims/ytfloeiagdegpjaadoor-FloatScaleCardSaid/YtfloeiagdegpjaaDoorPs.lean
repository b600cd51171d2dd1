/- A number times a power of 2, rounded once by hand: it is the nearest float. Plain laws over Ieee, no program. -/
import Derived.Test.YtfloeiagdegpjaaDoorPd
namespace Fl
open Ieee
set_option linter.unusedVariables false
set_option linter.unusedSimpArgs false

/-- A whole number that has 53 digits from some place on. -/
theorem near_whole {f : Format} (hfb : 1 ≤ f.fractionBits) {M a T k : Nat} {p : Int} (hp : (a : Int) = p - f.leastPlace) (h : M * 2 ^ a = k * 2 ^ T) (hk : k ≤ 2 * f.binade) (hT : T = 0 ∨ f.binade ≤ k) :
    Near f (frac f M 1 p Nat.one_pos) (min (T * f.binade + k) f.infRung) := by
  have hlo : ∀ c, (frac f M 1 p Nat.one_pos).lo (c * 2 ^ T) ↔ c * 2 ^ T ≤ (2 * k) * 2 ^ T := fun c => by
    rw [frac_lo f M 1 p Nat.one_pos (a := a) (b := 0) (by omega), Nat.pow_zero, Nat.mul_one, Nat.mul_one, Nat.mul_assoc 2 M, h, Nat.mul_assoc 2 k]
  have hhi : ∀ c, (frac f M 1 p Nat.one_pos).hi (c * 2 ^ T) ↔ (2 * k) * 2 ^ T ≤ c * 2 ^ T := fun c => by
    rw [frac_hi f M 1 p Nat.one_pos (a := a) (b := 0) (by omega), Nat.pow_zero, Nat.mul_one, Nat.mul_one, Nat.mul_assoc 2 M, h, Nat.mul_assoc 2 k]
  have hP := Nat.two_pow_pos T
  have le : ∀ {x y : Nat}, x * 2 ^ T ≤ y * 2 ^ T → x ≤ y := fun h => Nat.le_of_mul_le_mul_right h hP
  refine near_alg hfb _ hk ?_ (fun h0 => (hlo _).2 (Nat.mul_le_mul_right _ (by omega))) (fun h0 h1 => ?_) ((hhi _).2 (Nat.mul_le_mul_right _ (by omega))) (fun h1 => ?_)
  · rcases hT with hT | hT
    · exact .inl hT
    · exact .inr ⟨hT, (hlo _).2 (Nat.mul_le_mul_right _ (by omega))⟩
  · have := le ((hhi _).1 h1)
    omega
  · have := le ((hlo _).1 h1)
    omega

/-- Rounded to the nearest, of two the even one; past 60 places nothing is left. -/
def rne (M g : Nat) : Nat :=
  if 60 < g then 0 else M / 2 ^ g + (if M % 2 ^ g > 2 ^ (g - 1) ∨ M % 2 ^ g = 2 ^ (g - 1) ∧ M / 2 ^ g % 2 = 1 then 1 else 0)

theorem rne_le {M g : Nat} (hM : M < 9007199254740992) (hg : 1 ≤ g) : rne M g ≤ 4503599627370496 := by
  unfold rne
  split
  · omega
  · have : M / 2 ^ g ≤ M / 2 ^ 1 := Nat.div_le_div_left (Nat.pow_le_pow_right (by decide) hg) (by decide)
    have : M / 2 ^ g < 4503599627370496 := by omega
    split <;> omega

theorem near_rne {M g : Nat} (hM : M < 9007199254740992) (hg : 1 ≤ g) {p : Int} (hp : p = -1074 - (g : Int)) :
    Near double (frac double M 1 p Nat.one_pos) (rne M g) := by
  have hlp : double.leastPlace = -1074 := by decide
  have hB : double.binade = 4503599627370496 := by decide
  have hI : double.infRung = 9218868437227405312 := by decide
  have hlo : ∀ c, (frac double M 1 p Nat.one_pos).lo c ↔ c * 2 ^ g ≤ 2 * M := fun c => by
    rw [frac_lo double M 1 p Nat.one_pos (a := 0) (b := g) (by rw [hlp]; omega), Nat.pow_zero, Nat.mul_one, Nat.mul_one]
  have hhi : ∀ c, (frac double M 1 p Nat.one_pos).hi c ↔ 2 * M ≤ c * 2 ^ g := fun c => by
    rw [frac_hi double M 1 p Nat.one_pos (a := 0) (b := g) (by rw [hlp]; omega), Nat.pow_zero, Nat.mul_one, Nat.mul_one]
  have hk := rne_le hM hg
  have key := near_alg (f := double) (by decide) (frac double M 1 p Nat.one_pos) (T := 0) (k := rne M g) (by rw [hB]; omega) (.inl rfl)
  rw [Nat.zero_mul, Nat.zero_add, Nat.min_eq_left (by rw [hI]; omega)] at key
  simp only [Nat.pow_zero, Nat.mul_one] at key
  by_cases h60 : 60 < g
  · have e : rne M g = 0 := by unfold rne; rw [if_pos h60]
    rw [e] at key ⊢
    have h61 : 2 ^ 61 ≤ 2 ^ g := Nat.pow_le_pow_right (by decide) h60
    have e61 : (2 : Nat) ^ 61 = 2305843009213693952 := by decide
    refine key (fun h => absurd h (Nat.lt_irrefl _)) (fun h => absurd h (Nat.lt_irrefl _)) ((hhi _).2 ?_) (fun _ => rfl)
    omega
  · obtain ⟨h, rfl⟩ : ∃ h, g = h + 1 := ⟨g - 1, by omega⟩
    obtain ⟨H, hH⟩ : ∃ H, H = 2 ^ h := ⟨_, rfl⟩
    have hH0 : 0 < H := hH ▸ Nat.two_pow_pos h
    have e2 : 2 ^ (h + 1) = 2 * H := by rw [Nat.pow_succ, hH, Nat.mul_comm]
    have ek : rne M (h + 1) = M / (2 * H) + (if M % (2 * H) > H ∨ M % (2 * H) = H ∧ M / (2 * H) % 2 = 1 then 1 else 0) := by
      unfold rne
      rw [if_neg h60, e2, Nat.add_sub_cancel, ← hH]
    rw [e2] at hlo hhi
    rw [ek] at key ⊢
    obtain ⟨q, hq⟩ : ∃ q, q = M / (2 * H) := ⟨_, rfl⟩
    obtain ⟨r, hr⟩ : ∃ r, r = M % (2 * H) := ⟨_, rfl⟩
    have hMq : M = 2 * H * q + r := by rw [hq, hr]; exact (Nat.div_add_mod M (2 * H)).symm
    have hrl : r < 2 * H := by rw [hr]; exact Nat.mod_lt _ (by omega)
    rw [← hq, ← hr] at key ⊢
    obtain ⟨P, hP⟩ : ∃ P, P = H * q := ⟨_, rfl⟩
    have hM2 : M = 2 * P + r := by rw [hMq, hP, Nat.mul_assoc]
    have m1 : ∀ c, c * (2 * H) = 2 * (H * c) := fun c => by rw [Nat.mul_comm, Nat.mul_assoc]
    have s1 : H * (2 * q + 1) = 2 * P + H := by rw [Nat.mul_add, Nat.mul_one, ← Nat.mul_assoc, Nat.mul_comm H 2, Nat.mul_assoc, hP]
    have s2 : H * (2 * (q + 1) + 1) = 2 * P + 3 * H := by
      rw [show 2 * (q + 1) + 1 = (2 * q + 1) + 2 by omega, Nat.mul_add, s1]; omega
    have s3 : 0 < q → H * (2 * q - 1) + H = 2 * P := fun h0 => by
      have : H * (2 * q - 1) + H * 1 = H * (2 * q) := by rw [← Nat.mul_add]; congr 1; omega
      rw [Nat.mul_one] at this
      rw [this, ← Nat.mul_assoc, Nat.mul_comm H 2, Nat.mul_assoc, hP]
    have s4 : H * (2 * (q + 1) - 1) = 2 * P + H := by rw [show 2 * (q + 1) - 1 = 2 * q + 1 by omega, s1]
    by_cases hc : r > H ∨ r = H ∧ q % 2 = 1
    · rw [if_pos hc] at key ⊢
      refine key (fun _ => (hlo _).2 ?_) (fun _ h1 => ?_) ((hhi _).2 ?_) (fun h1 => ?_)
      · rw [m1, s4]; omega
      · have := (hhi _).1 h1
        rw [m1, s4] at this
        omega
      · rw [m1, s2]; omega
      · have := (hlo _).1 h1
        rw [m1, s2] at this
        omega
    · rw [if_neg hc] at key ⊢
      simp only [Nat.add_zero] at key ⊢
      refine key (fun h0 => (hlo _).2 ?_) (fun h0 h1 => ?_) ((hhi _).2 ?_) (fun h1 => ?_)
      · have := s3 h0
        rw [m1]; omega
      · have := (hhi _).1 h1
        have h3 := s3 h0
        rw [m1] at this
        omega
      · rw [m1, s1]; omega
      · have := (hlo _).1 h1
        rw [m1, s1] at this
        omega
end Fl
