/- A root of a binary32 by way of a binary64: rounded twice it is what is rounded once. No program here. -/
import Derived.Test.YtfloeiagdegpjaaPd
namespace Fl
open Ieee

/-- The square of a number of 25 digits is not near to a number of 24 digits, but where it is that number. -/
theorem mid_gap {κ t v j : Nat} (h1 : 16777216 ≤ κ) (h2 : κ < 33554432) (hv : v < 16777216) :
    (v * 2 ^ j < (κ * 268435456 * 2 ^ t) * (κ * 268435456 * 2 ^ t) → 4 * (v * 2 ^ j) < ((2 * (κ * 268435456) - 1) * 2 ^ t) * ((2 * (κ * 268435456) - 1) * 2 ^ t)) ∧
    ((κ * 268435456 * 2 ^ t) * (κ * 268435456 * 2 ^ t) < v * 2 ^ j → ((2 * (κ * 268435456) + 1) * 2 ^ t) * ((2 * (κ * 268435456) + 1) * 2 ^ t) < 4 * (v * 2 ^ j)) := by
  have sq : ∀ x : Nat, (x * 2 ^ t) * (x * 2 ^ t) = x * x * 2 ^ (2 * t) := fun x => by
    rw [show 2 * t = t + t by omega, Nat.pow_add]
    simp only [Nat.mul_assoc, Nat.mul_left_comm, Nat.mul_comm]
  rw [sq, sq, sq]
  obtain ⟨A, hA⟩ : ∃ A, A = κ * 268435456 := ⟨_, rfl⟩
  obtain ⟨B, hB⟩ : ∃ B, A = B + 1 := ⟨A - 1, by omega⟩
  have hAA : A * A = κ * κ * 72057594037927936 := by
    rw [hA, show (72057594037927936 : Nat) = 268435456 * 268435456 by decide]
    simp only [Nat.mul_assoc, Nat.mul_left_comm, Nat.mul_comm]
  have e1 : (2 * A - 1) * (2 * A - 1) + 4 * A = 4 * (A * A) + 1 := by
    rw [hB, show 2 * (B + 1) - 1 = 2 * B + 1 by omega]
    simp only [Nat.mul_add, Nat.add_mul, Nat.mul_one, Nat.one_mul]
    have : 2 * B * (2 * B) = 4 * (B * B) := by rw [show (4 : Nat) = 2 * 2 by decide]; simp only [Nat.mul_assoc, Nat.mul_left_comm, Nat.mul_comm]
    omega
  have e2 : (2 * A + 1) * (2 * A + 1) = 4 * (A * A) + 4 * A + 1 := by
    simp only [Nat.mul_add, Nat.add_mul, Nat.mul_one, Nat.one_mul]
    have : 2 * A * (2 * A) = 4 * (A * A) := by rw [show (4 : Nat) = 2 * 2 by decide]; simp only [Nat.mul_assoc, Nat.mul_left_comm, Nat.mul_comm]
    omega
  have hkk : 16777216 * 16777216 ≤ κ * κ := Nat.mul_le_mul h1 h1
  rw [← hA]
  have hp := Nat.two_pow_pos (2 * t)
  rcases Nat.lt_or_ge j (56 + 2 * t) with hj | hj
  · -- far below
    have hlow : v * 2 ^ j < 604462909807314587353088 * 2 ^ (2 * t) := by
      have hj2 : 2 ^ j ≤ 2 ^ (55 + 2 * t) := Nat.pow_le_pow_right (by decide) (by omega)
      rw [Nat.pow_add] at hj2
      have h3 : v * 2 ^ j ≤ v * (2 ^ 55 * 2 ^ (2 * t)) := Nat.mul_le_mul_left _ hj2
      have h4 : v * (2 ^ 55 * 2 ^ (2 * t)) < 16777216 * (2 ^ 55 * 2 ^ (2 * t)) := Nat.mul_lt_mul_of_pos_right hv (Nat.mul_pos (by decide) hp)
      have h5 : 16777216 * (2 ^ 55 * 2 ^ (2 * t)) = 604462909807314587353088 * 2 ^ (2 * t) := by rw [← Nat.mul_assoc]
      omega
    have hbig : 604462909807314587353088 * 4 ≤ A * A := by rw [hAA]; omega
    constructor
    · intro _
      have h3 : 604462909807314587353088 * 4 ≤ (2 * A - 1) * (2 * A - 1) := by
        have : A * A ≤ (2 * A - 1) * (2 * A - 1) := Nat.mul_le_mul (by omega) (by omega)
        omega
      have h4 := Nat.mul_le_mul_right (2 ^ (2 * t)) h3
      generalize 2 ^ (2 * t) = q at *
      omega
    · intro h
      exfalso
      have h4 := Nat.mul_le_mul_right (2 ^ (2 * t)) hbig
      generalize 2 ^ (2 * t) = q at *
      generalize A * A * q = AAq at *
      omega
  · obtain ⟨u, hu⟩ : ∃ u, j = u + (56 + 2 * t) := ⟨j - (56 + 2 * t), by omega⟩
    have hV : v * 2 ^ j = v * 2 ^ u * 72057594037927936 * 2 ^ (2 * t) := by
      rw [hu, Nat.pow_add, Nat.pow_add, show (2 : Nat) ^ 56 = 72057594037927936 by decide]
      simp only [Nat.mul_assoc]
    rw [hV]
    generalize v * 2 ^ u = x at *
    have c4 : 4 * (x * 72057594037927936 * 2 ^ (2 * t)) = 4 * (x * 72057594037927936) * 2 ^ (2 * t) := (Nat.mul_assoc 4 _ _).symm
    rw [c4]
    constructor
    · intro h
      refine Nat.mul_lt_mul_of_pos_right ?_ hp
      have h3 : x * 72057594037927936 < A * A := Nat.lt_of_mul_lt_mul_right h
      omega
    · intro h
      refine Nat.mul_lt_mul_of_pos_right ?_ hp
      have h3 : A * A < x * 72057594037927936 := Nat.lt_of_mul_lt_mul_right h
      omega

theorem binade_double : double.binade = 4503599627370496 := by decide
theorem binade_single : single.binade = 8388608 := by decide

/-- A nearest root stands to a middle as the root itself. -/
theorem mid_side {κ t v j ry : Nat} (h1 : 16777216 ≤ κ) (h2 : κ < 33554432) (hv : v < 16777216)
    (hlo : (val double ry + val double (ry - 1)) * (val double ry + val double (ry - 1)) ≤ 4 * (v * 2 ^ j))
    (hhi : 4 * (v * 2 ^ j) ≤ (val double ry + val double (ry + 1)) * (val double ry + val double (ry + 1))) :
    (κ * 268435456 * 2 ^ t ≤ val double ry ↔ (κ * 268435456 * 2 ^ t) * (κ * 268435456 * 2 ^ t) ≤ v * 2 ^ j) ∧
    (val double ry ≤ κ * 268435456 * 2 ^ t ↔ v * 2 ^ j ≤ (κ * 268435456 * 2 ^ t) * (κ * 268435456 * 2 ^ t)) := by
  obtain ⟨R, hR⟩ := val_of double (m := κ * 268435456) (by rw [binade_double]; omega) t
  obtain ⟨Q, hQ⟩ := val_of double (m := κ * 268435456 - 1) (by rw [binade_double]; omega) t
  obtain ⟨S, hS⟩ := val_of double (m := κ * 268435456 + 1) (by rw [binade_double]; omega) t
  have hp := Nat.two_pow_pos t
  have hQR : Q < R := by
    rcases Nat.lt_or_ge Q R with h | h
    · exact h
    · exfalso
      have := val_mono double h
      rw [hQ, hR] at this
      have := Nat.le_of_mul_le_mul_right this hp
      omega
  have hRS : R < S := by
    rcases Nat.lt_or_ge R S with h | h
    · exact h
    · exfalso
      have := val_mono double h
      rw [hS, hR] at this
      have := Nat.le_of_mul_le_mul_right this hp
      omega
  have gap := mid_gap (t := t) (j := j) h1 h2 hv
  have hq1 : val double Q ≤ val double (R - 1) := val_mono double (by omega)
  have hs1 : val double (R + 1) ≤ val double S := val_mono double (by omega)
  have eQ : val double Q + val double R = (2 * (κ * 268435456) - 1) * 2 ^ t := by
    rw [hQ, hR, ← Nat.add_mul]; congr 1; omega
  have eS : val double R + val double S = (2 * (κ * 268435456) + 1) * 2 ^ t := by
    rw [hS, hR, ← Nat.add_mul]; congr 1; omega
  rw [← hR, ← eQ, ← eS] at gap
  rw [← hR]
  generalize v * 2 ^ j = V at *
  -- three ways
  have A : V < val double R * val double R → val double ry < val double R := by
    intro h
    rcases Nat.lt_or_ge ry R with hr | hr
    · exact val_strict double hr
    · exfalso
      have g := gap.1 h
      have m1 := val_mono double hr
      have m2 : val double Q ≤ val double (ry - 1) := Nat.le_trans hq1 (val_mono double (by omega))
      have : (val double Q + val double R) * (val double Q + val double R) ≤ (val double ry + val double (ry - 1)) * (val double ry + val double (ry - 1)) := Nat.mul_le_mul (by omega) (by omega)
      omega
  have B : val double R * val double R < V → val double R < val double ry := by
    intro h
    rcases Nat.lt_or_ge R ry with hr | hr
    · exact val_strict double hr
    · exfalso
      have g := gap.2 h
      have m1 := val_mono double hr
      have m2 : val double (ry + 1) ≤ val double S := Nat.le_trans (val_mono double (by omega)) hs1
      have : (val double ry + val double (ry + 1)) * (val double ry + val double (ry + 1)) ≤ (val double R + val double S) * (val double R + val double S) := Nat.mul_le_mul (by omega) (by omega)
      omega
  have C : V = val double R * val double R → val double ry = val double R := by
    intro h
    have e4 : 4 * V = (2 * val double R) * (2 * val double R) := by
      rw [h, show (4 : Nat) = 2 * 2 by decide]; simp only [Nat.mul_assoc, Nat.mul_left_comm, Nat.mul_comm]
    rw [e4] at hlo hhi
    have k1 := Nat.mul_self_le_mul_self_iff.1 hlo
    have k2 := Nat.mul_self_le_mul_self_iff.1 hhi
    rcases Nat.lt_trichotomy ry R with hr | hr | hr
    · exfalso
      have m1 := val_strict double hr
      have m2 : val double (ry + 1) ≤ val double R := val_mono double hr
      omega
    · rw [hr]
    · exfalso
      have m1 := val_strict double hr
      have m2 : val double R ≤ val double (ry - 1) := val_mono double (by omega)
      omega
  have hpos : True := trivial
  rcases Nat.lt_trichotomy V (val double R * val double R) with h | h | h
  · have := A h
    constructor <;> constructor <;> intro <;> omega
  · have := C h
    constructor <;> constructor <;> intro <;> omega
  · have := B h
    constructor <;> constructor <;> intro <;> omega

/-- The sum of two neighbours among the binary32s: an odd number of 25 digits at most. -/
theorem mid_form (q : Nat) : ∃ n T, val single q + val single (q + 1) = n * 2 ^ T ∧ 0 < n ∧ n < 33554432 := by
  obtain ⟨T, k, rfl, hk, hT⟩ := rep single q
  rw [binade_single] at hk hT
  refine ⟨2 * k + 1, T, ?_, by omega, by omega⟩
  rw [Nat.add_assoc, val_at single (by rw [binade_single]; omega) (by rw [binade_single]; omega), val_at single (by rw [binade_single]; omega) (by rw [binade_single]; omega), ← Nat.add_mul]
  congr 1; omega

theorem mid_norm {n T E : Nat} (h0 : 0 < n) (h : n < 33554432) (hE : 52 ≤ E) : ∃ κ t, 16777216 ≤ κ ∧ κ < 33554432 ∧ n * 2 ^ T * 2 ^ E = κ * 268435456 * 2 ^ t := by
  have l1 : 2 ^ n.log2 ≤ n := Nat.log2_self_le (by omega)
  have l2 : n < 2 ^ (n.log2 + 1) := Nat.lt_log2_self
  have hl : n.log2 ≤ 24 := by
    have : n.log2 < 25 := (Nat.log2_lt (by omega)).2 (by omega)
    omega
  obtain ⟨u, hu⟩ : ∃ u, u = 24 - n.log2 := ⟨_, rfl⟩
  refine ⟨n * 2 ^ u, T + E - u - 28, ?_, ?_, ?_⟩
  · have : 2 ^ n.log2 * 2 ^ u ≤ n * 2 ^ u := Nat.mul_le_mul_right _ l1
    rw [← Nat.pow_add, show n.log2 + u = 24 by omega] at this
    exact this
  · have : n * 2 ^ u < 2 ^ (n.log2 + 1) * 2 ^ u := Nat.mul_lt_mul_of_pos_right l2 (Nat.two_pow_pos _)
    rw [← Nat.pow_add, show n.log2 + 1 + u = 25 by omega] at this
    exact this
  · rw [show (268435456 : Nat) = 2 ^ 28 by decide, Nat.mul_assoc n, ← Nat.pow_add, Nat.mul_assoc n, Nat.mul_assoc n, ← Nat.pow_add, ← Nat.pow_add]
    congr 2; omega
end Fl
