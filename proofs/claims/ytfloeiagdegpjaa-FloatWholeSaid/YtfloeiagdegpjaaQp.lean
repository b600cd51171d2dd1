/- The reference's numbers made whole. No program runs here. -/
import Derived.Test.YtfloeiagdegpjaaQn
import Derived.Test.YtfloeiagdegpjaaRb
import Derived.Test.YtfloeiagdegpjaaSt
namespace Go.Proofs.Ytfloeiagdegpjaa.Q
open Go.RowKit Go.Proofs.YtfloeiagdegpjaaW.PrintWords Go.Proofs.Ytfloeiagdegpjaa.Rf
open Ieee (Format Toward Datum)
set_option linter.unusedVariables false
set_option linter.unusedSimpArgs false

/-- One more, or not. -/
def more (s : Bool) (m d : Nat) (mode : Int) : Bool :=
  if mode = 0 then (decide (m / 2 ^ (d - 1) % 2 = 1) && (decide (m % 2 ^ (d - 1) ≠ 0) || decide (m / 2 ^ d % 2 = 1)))
  else if mode = 1 then decide (m / 2 ^ (d - 1) % 2 = 1)
  else if mode = 3 then (s && decide (m % 2 ^ d ≠ 0))
  else if mode = 4 then (!s && decide (m % 2 ^ d ≠ 0))
  else false

/-- A number made whole. -/
def whole (s : Bool) (m : Nat) (p : Int) (mode : Int) : Nat :=
  if 0 ≤ p then m * 2 ^ p.toNat else m / 2 ^ (-p).toNat + (more s m (-p).toNat mode).toNat

theorem gap_same (n drop : Nat) : n / (1 <<< min drop (n.log2 + 2)) = n / 2 ^ drop ∧ n % (1 <<< min drop (n.log2 + 2)) = n % 2 ^ drop := by
  rw [Nat.one_shiftLeft]
  by_cases h : drop ≤ n.log2 + 2
  · rw [Nat.min_eq_left h]; exact ⟨rfl, rfl⟩
  · rw [Nat.min_eq_right (by omega)]
    have h1 : n < 2 ^ (n.log2 + 2) := Nat.lt_trans Nat.lt_log2_self (Nat.pow_lt_pow_right (by decide) (by omega))
    have h2 : n < 2 ^ drop := Nat.lt_of_lt_of_le h1 (Nat.pow_le_pow_right (by decide) (by omega))
    rw [Nat.div_eq_of_lt h1, Nat.div_eq_of_lt h2, Nat.mod_eq_of_lt h1, Nat.mod_eq_of_lt h2]
    exact ⟨rfl, rfl⟩

theorem cut_none (way : Toward) (s : Bool) (n : Nat) : way.cut s n 0 = n := by
  obtain ⟨g1, g2⟩ := gap_same n 0
  unfold Ieee.Toward.cut
  simp only [g1, g2, Nat.pow_zero, Nat.div_one, Nat.mod_one]
  have e : (1 <<< min 0 (n.log2 + 2)) = 1 := by rw [Nat.zero_min]; rfl
  rw [e]
  cases way <;> cases s <;> simp

theorem cut_zero (s : Bool) (m d : Nat) : Toward.zero.cut s m d = m / 2 ^ d := by
  obtain ⟨g1, g2⟩ := gap_same m d
  unfold Ieee.Toward.cut
  simp only [g1, g2]
  simp
theorem cut_down (s : Bool) (m d : Nat) : Toward.down.cut s m d = m / 2 ^ d + (s && decide (m % 2 ^ d ≠ 0)).toNat := by
  obtain ⟨g1, g2⟩ := gap_same m d
  unfold Ieee.Toward.cut
  simp only [g1, g2]
  congr 2
  by_cases h : m % 2 ^ d = 0 <;> simp [h]
theorem cut_up (s : Bool) (m d : Nat) : Toward.up.cut s m d = m / 2 ^ d + (!s && decide (m % 2 ^ d ≠ 0)).toNat := by
  obtain ⟨g1, g2⟩ := gap_same m d
  unfold Ieee.Toward.cut
  simp only [g1, g2]
  congr 2
  by_cases h : m % 2 ^ d = 0 <;> simp [h]

theorem cut_even_more (s : Bool) (m d : Nat) (hd : 1 ≤ d) : Toward.even.cut s m d = m / 2 ^ d + (decide (m / 2 ^ (d - 1) % 2 = 1) && (decide (m % 2 ^ (d - 1) ≠ 0) || decide (m / 2 ^ d % 2 = 1))).toNat := by
  refine cut_unique (Nat.two_pow_pos d) (_root_.Fl.cut_even s _ _) ?_
  have hg := Nat.two_pow_pos (d - 1)
  have e : 2 ^ d = 2 * 2 ^ (d - 1) := by rw [← Nat.pow_succ', Nat.succ_eq_add_one, show d - 1 + 1 = d by omega]
  have hv : m / 2 ^ d = m / 2 ^ (d - 1) / 2 := by rw [Nat.div_div_eq_div_mul, Nat.mul_comm, ← e]
  rw [hv, e]
  have hdm := Nat.div_add_mod m (2 ^ (d - 1))
  have hlt := Nat.mod_lt m hg
  generalize m / 2 ^ (d - 1) = v at *
  generalize m % 2 ^ (d - 1) = r at *
  generalize 2 ^ (d - 1) = g at *
  obtain ⟨q, b, hq, hb⟩ : ∃ q b, v = 2 * q + b ∧ b < 2 := ⟨v / 2, v % 2, by omega, by omega⟩
  have hv2 : v / 2 = q := by omega
  have hvm : v % 2 = b := by omega
  rw [hv2, hvm]
  have hN : 2 * m = 2 * (2 * (g * q)) + 2 * (g * b) + 2 * r := by
    have e1 : g * (2 * q + b) = 2 * (g * q) + g * b := by rw [Nat.mul_add, Nat.mul_left_comm g 2]
    rw [← hdm, hq, e1]; omega
  rw [hN]
  have l1 : ∀ q : Nat, (2 * q + 1) * (2 * g) = 2 * (2 * (g * q)) + 2 * g := fun q => by
    rw [Nat.add_mul, Nat.one_mul, Nat.mul_assoc, Nat.mul_left_comm q 2 g, Nat.mul_comm q g]
  have l2 : ∀ q : Nat, 0 < q → (2 * q - 1) * (2 * g) + 2 * g = 2 * (2 * (g * q)) := fun q h0 => by
    obtain ⟨p, rfl⟩ : ∃ p, q = p + 1 := ⟨q - 1, by omega⟩
    rw [show 2 * (p + 1) - 1 = 2 * p + 1 by omega, l1, Nat.mul_add, Nat.mul_one]; omega
  have l3 : g * (q + 1) = g * q + g := by rw [Nat.mul_add, Nat.mul_one]
  by_cases hb1 : b = 1
  · rw [hb1, Nat.mul_one, decide_eq_true (rfl : (1 : Nat) = 1), Bool.true_and]
    by_cases hr : r = 0
    · rw [decide_eq_false (show ¬ r ≠ 0 from fun h => h hr), Bool.false_or, hr]
      by_cases ho : q % 2 = 1
      · rw [decide_eq_true ho, Bool.toNat_true]
        have a1 := l2 (q + 1) (by omega)
        have a2 := l1 (q + 1)
        rw [l3] at a1 a2
        refine ⟨fun _ => ⟨?_, fun _ => by omega⟩, ?_, fun _ => by omega⟩
        all_goals (generalize g * q = Q at *; generalize (2 * (q + 1) - 1) * (2 * g) = P1 at *; generalize (2 * (q + 1) + 1) * (2 * g) = P2 at *; omega)
      · rw [decide_eq_false ho, Bool.toNat_false, Nat.add_zero]
        have a2 := l1 q
        refine ⟨fun h0 => ⟨?_, fun _ => by omega⟩, ?_, fun _ => by omega⟩
        · have a1 := l2 q h0
          generalize g * q = Q at *; generalize (2 * q - 1) * (2 * g) = P1 at *; generalize (2 * q + 1) * (2 * g) = P2 at *; omega
        · generalize g * q = Q at *; generalize (2 * q + 1) * (2 * g) = P2 at *; omega
    · rw [decide_eq_true (show r ≠ 0 from hr), Bool.true_or, Bool.toNat_true]
      have a1 := l2 (q + 1) (by omega)
      have a2 := l1 (q + 1)
      rw [l3] at a1 a2
      refine ⟨fun _ => ⟨?_, ?_⟩, ?_, ?_⟩
      all_goals (generalize g * q = Q at *; generalize (2 * (q + 1) - 1) * (2 * g) = P1 at *; generalize (2 * (q + 1) + 1) * (2 * g) = P2 at *; omega)
  · have hb0 : b = 0 := by omega
    rw [hb0, decide_eq_false (show ¬ (0 : Nat) = 1 by decide), Bool.false_and, Bool.toNat_false, Nat.mul_zero, Nat.mul_zero, Nat.add_zero, Nat.add_zero]
    have a2 := l1 q
    refine ⟨fun h0 => ?_, ?_⟩
    · have a1 := l2 q h0
      generalize g * q = Q at *; generalize (2 * q - 1) * (2 * g) = P1 at *; generalize (2 * q + 1) * (2 * g) = P2 at *; omega
    · generalize g * q = Q at *; generalize (2 * q + 1) * (2 * g) = P2 at *; omega

/-- What the model's ways make whole. -/
theorem integral_whole (way : Toward) (mode : Int) (hw : (way = .even ∧ mode = 0) ∨ (way = .zero ∧ mode = 2) ∨ (way = .down ∧ mode = 3) ∨ (way = .up ∧ mode = 4)) (s : Bool) (m : Nat) (p : Int) :
    (Datum.number s m p).integral way = .number s (whole s m p mode) 0 := by
  simp only [Datum.integral, Nat.shiftLeft_eq]
  congr 1
  unfold whole
  by_cases hp : 0 ≤ p
  · rw [if_pos hp, show (-p).toNat = 0 by omega, cut_none]
  · rw [if_neg hp, show p.toNat = 0 by omega, Nat.pow_zero, Nat.mul_one]
    rcases hw with ⟨rfl, rfl⟩ | ⟨rfl, rfl⟩ | ⟨rfl, rfl⟩ | ⟨rfl, rfl⟩
    · rw [cut_even_more s m _ (by omega)]; rfl
    · rw [cut_zero]; rfl
    · rw [cut_down]; rfl
    · rw [cut_up]; rfl

/-! turned -/
theorem whole_le {s : Bool} {m : Nat} {p mode : Int} (hm : m < 9007199254740992) (hp : p ≤ 2000) : bl (whole s m p mode) ≤ 2100 := by
  have hb : bl m ≤ (53 : Nat) := bl_iff.2 hm
  unfold whole
  split
  · have := bl_shift (a := p.toNat) hb
    omega
  · have h1 : bl (m / 2 ^ (-p).toNat) ≤ (53 : Nat) := bl_mono (Nat.div_le_self _ _) hb
    have h2 : bl (more s m (-p).toNat mode).toNat ≤ (53 : Nat) := by
      cases more s m (-p).toNat mode <;> decide
    have := bl_add2 h1 h2
    omega

theorem turned_ev {x : Int} (hx : InW Ieee.double x) {m : Nat} {p : Int} {s : Bool} (hm : m < 9007199254740992) (hp : -1074 ≤ p ∧ p ≤ 2000) (mode : Int)
    (hpa : Ev (fun k => fathomref3_Parts.f k x 64) (s, lim m, p)) :
    Ev (fun k => fathomref3_turned.f k x mode) (lim (whole s m p mode)) := by
  have hb : bl m ≤ (53 : Nat) := bl_iff.2 hm
  have lm := len_bl hb (by omega)
  have lm2 : (lim m).length < 1073741824 := by omega
  unfold whole
  by_cases hc : 0 ≤ p
  · rw [if_pos hc]
    have hup := up2_ev (n := m) (a := p.toNat) lm2 (by omega)
    rw [show ((p.toNat : Nat) : Int) = p by omega] at hup
    obtain ⟨K1, H1⟩ := hpa
    obtain ⟨K2, H2⟩ := hup
    refine ⟨K1 + K2, fun k hk => ?_⟩
    dsimp only at H1 H2 ⊢
    unfold fathomref3_turned.f
    rw [H1 k (by omega), Option.bind_some]
    dsimp only
    rw [if_pos hc, H2 k (by omega), Option.bind_some]
  · rw [if_neg hc]
    obtain ⟨d, hd⟩ : ∃ d, d = (-p).toNat := ⟨_, rfl⟩
    rw [← hd]
    have hd1 : 1 ≤ d := by omega
    have w1 : wrap64 (-p) = ((d : Nat) : Int) := by rw [wrap64_id (by omega) (by omega)]; omega
    have w2 : wrap64 (((d : Nat) : Int) - 1) = ((d - 1 : Nat) : Int) := by rw [wrap64_id (by omega) (by omega)]; omega
    have v64 : m / 2 ^ (d - 1) < 18446744073709551616 := Nat.lt_of_le_of_lt (Nat.div_le_self _ _) (by omega)
    have q64 : m / 2 ^ d < 18446744073709551616 := Nat.lt_of_le_of_lt (Nat.div_le_self _ _) (by omega)
    have low1 := low64_eq (m / 2 ^ (d - 1))
    have low2 := low64_eq (m / 2 ^ d)
    rw [Nat.mod_eq_of_lt v64] at low1
    rw [Nat.mod_eq_of_lt q64] at low2
    have and1 : Go.bits .and .u64 ((m / 2 ^ (d - 1) : Nat) : Int) 1 = ((m / 2 ^ (d - 1) % 2 : Nat) : Int) := by
      have := and_mask (k := 1) (x := ((m / 2 ^ (d - 1) : Nat) : Int)) (Int.natCast_nonneg _) (by omega) (by omega) (m := 1) rfl
      rw [this, Int.toNat_natCast]
    have and2 : Go.bits .and .u64 ((m / 2 ^ d : Nat) : Int) 1 = ((m / 2 ^ d % 2 : Nat) : Int) := by
      have := and_mask (k := 1) (x := ((m / 2 ^ d : Nat) : Int)) (Int.natCast_nonneg _) (by omega) (by omega) (m := 1) rfl
      rw [this, Int.toNat_natCast]
    have beq1 : ∀ v : Nat, (((v % 2 : Nat) : Int) == 1) = decide (v % 2 = 1) := fun v => by
      by_cases h : v % 2 = 1
      · rw [h]; rfl
      · rw [decide_eq_false h]; exact beq_eq_false_iff_ne.2 (by omega)
    -- the last step
    have lq : (lim (m / 2 ^ d)).length < 1073741824 := by
      have := len_bl (bl_mono (Nat.div_le_self m (2 ^ d)) hb) (by omega)
      omega
    obtain ⟨K1, H1⟩ := hpa
    obtain ⟨K2, H2⟩ := down2_ev (n := m) (a := d) lm2
    obtain ⟨K3, H3⟩ := down2_ev (n := m) (a := d - 1) lm2
    obtain ⟨K4, H4⟩ := of_ev (a := 1) (by decide) (by decide)
    obtain ⟨K5, H5⟩ := sum_ev (a := m / 2 ^ d) (b := 1) lq (by decide +kernel)
    have last : ∀ (k : Nat) (b : Bool), K4 + K5 + 1 ≤ k → fathomref3_turned.j0 k (lim (m / 2 ^ d)) b = some (lim (m / 2 ^ d + b.toNat)) := by
      intro k b hk
      obtain ⟨k, rfl⟩ := fuel_out hk
      dsimp only at H4 H5
      have H4' : ∀ k, K4 ≤ k → fathomref3_Of.f k 1 = some (lim 1) := H4
      cases b with
      | true => rw [fathomref3_turned.j0, if_pos rfl, H4' k (by omega), Option.bind_some, H5 k (by omega), Option.bind_some]; rfl
      | false => rw [fathomref3_turned.j0, if_neg (by decide)]; rfl
    refine ⟨K1 + K2 + K3 + K4 + K5 + 1, fun k hk => ?_⟩
    dsimp only at H1 H2 H3 ⊢
    unfold fathomref3_turned.f
    rw [H1 k (by omega), Option.bind_some]
    dsimp only
    rw [if_neg hc, w1, H2 k (by omega), Option.bind_some, w2, H3 k (by omega), Option.bind_some]
    dsimp only
    rw [low1, Option.bind_some, low2, Option.bind_some, and1, and2, beq1, beq1]
    unfold more
    by_cases h0 : mode = 0
    · rw [if_pos h0, if_pos h0]
      by_cases hh : m / 2 ^ (d - 1) % 2 = 1
      · rw [if_pos (show ((m / 2 ^ (d - 1) % 2 : Nat) : Int) = 1 by omega), decide_eq_true hh, Bool.true_and]
        by_cases hr : m % 2 ^ (d - 1) ≠ 0
        · rw [if_pos (decide_eq_true hr), decide_eq_true hr, Bool.true_or]; exact last k true (by omega)
        · rw [if_neg (by rw [decide_eq_false hr]; decide), decide_eq_false hr, Bool.false_or]; exact last k _ (by omega)
      · rw [if_neg (show ¬ ((m / 2 ^ (d - 1) % 2 : Nat) : Int) = 1 by omega), decide_eq_false hh, Bool.false_and]; exact last k false (by omega)
    · rw [if_neg h0, if_neg h0]
      by_cases h1 : mode = 1
      · rw [if_pos h1, if_pos h1]; exact last k _ (by omega)
      · rw [if_neg h1, if_neg h1]
        by_cases h3 : mode = 3
        · rw [if_pos h3, if_pos h3]
          cases s with
          | true => rw [if_pos rfl, Bool.true_and]; exact last k _ (by omega)
          | false => rw [if_neg (by decide), Bool.false_and]; exact last k false (by omega)
        · rw [if_neg h3, if_neg h3]
          by_cases h4 : mode = 4
          · rw [if_pos h4, if_pos h4]
            cases s with
            | true => rw [if_pos rfl]; exact last k false (by omega)
            | false => rw [if_neg (by decide)]; exact last k _ (by omega)
          · rw [if_neg h4, if_neg h4]; exact last k false (by omega)
end Go.Proofs.Ytfloeiagdegpjaa.Q
