/- Floats as whole numbers of the least place: what a sum has lost is a float, and Knuth's way finds it. No program here. -/
import Derived.Test.YtfloeiagdegpjaaPd
namespace Fl
open Ieee

/-- A float of 53 digits, of whatever greatness, as a whole number. -/
def F (z : Int) : Prop := ∃ (m : Int) (k : Nat), -9007199254740992 ≤ m ∧ m ≤ 9007199254740992 ∧ z = m * 2 ^ k

theorem pow_pos' (k : Nat) : (0 : Int) < 2 ^ k := Int.pow_pos (by decide)

theorem F.neg {z : Int} (h : F z) : F (-z) := by
  obtain ⟨m, k, h1, h2, rfl⟩ := h
  exact ⟨-m, k, by omega, by omega, by rw [Int.neg_mul]⟩
theorem F.small {z : Int} (h1 : -9007199254740992 ≤ z) (h2 : z ≤ 9007199254740992) : F z := ⟨z, 0, h1, h2, by rw [Int.pow_zero, Int.mul_one]⟩
theorem F.twice {z : Int} (h : F z) : F (2 * z) := by
  obtain ⟨m, k, h1, h2, rfl⟩ := h
  exact ⟨m, k + 1, h1, h2, by rw [Int.pow_succ, Int.mul_comm 2, Int.mul_assoc]⟩
theorem F.half {z : Int} (h : F z) (hb : 9007199254740992 < z) : ∃ w, z = 2 * w ∧ F w := by
  obtain ⟨m, k, h1, h2, rfl⟩ := h
  cases k with
  | zero => rw [Int.pow_zero, Int.mul_one] at hb; omega
  | succ k => exact ⟨m * 2 ^ k, by rw [Int.pow_succ, Int.mul_comm 2, Int.mul_assoc], m, k, h1, h2, rfl⟩

theorem le_of_scaled {d n : Int} {k : Nat} (h : d * 2 ^ k ≤ n * 2 ^ k) : d ≤ n := Int.le_of_mul_le_mul_right h (pow_pos' k)

/-- Two floats of which neither is twice the other have a float for difference. -/
theorem sterbenz {y z : Int} (hy : F y) (hz : F z) (h0 : 0 ≤ z) (h1 : z ≤ y) (h2 : y ≤ 2 * z) : F (y - z) := by
  obtain ⟨m, k, a1, a2, ey⟩ := hy
  obtain ⟨n, l, b1, b2, ez⟩ := hz
  rcases Nat.le_total k l with h | h
  · obtain ⟨j, rfl⟩ : ∃ j, l = k + j := ⟨l - k, by omega⟩
    have e : y - z = (m - n * 2 ^ j) * 2 ^ k := by
      rw [ey, ez, Int.sub_mul, Int.pow_add, Int.mul_comm (2 ^ k) (2 ^ j), Int.mul_assoc]
    have hp := pow_pos' k
    have g1 : (m - n * 2 ^ j) * 2 ^ k ≤ m * 2 ^ k := by rw [← e, ← ey]; omega
    have g2 : 0 * 2 ^ k ≤ (m - n * 2 ^ j) * 2 ^ k := by rw [← e, Int.zero_mul]; omega
    have := le_of_scaled g1
    have := le_of_scaled g2
    exact ⟨m - n * 2 ^ j, k, by omega, by omega, e⟩
  · obtain ⟨j, rfl⟩ : ∃ j, k = l + j := ⟨k - l, by omega⟩
    have e : y - z = (m * 2 ^ j - n) * 2 ^ l := by
      rw [ey, ez, Int.sub_mul, Int.pow_add, Int.mul_comm (2 ^ l) (2 ^ j), Int.mul_assoc]
    have g1 : (m * 2 ^ j - n) * 2 ^ l ≤ n * 2 ^ l := by rw [← e, ← ez]; omega
    have g2 : 0 * 2 ^ l ≤ (m * 2 ^ j - n) * 2 ^ l := by rw [← e, Int.zero_mul]; omega
    have := le_of_scaled g1
    have := le_of_scaled g2
    exact ⟨m * 2 ^ j - n, l, by omega, by omega, e⟩

/-- The float w is nearest to z. -/
def N (z w : Int) : Prop := F w ∧ ∀ y, F y → (z - w).natAbs ≤ (z - y).natAbs

theorem N.exact {z w : Int} (h : N z w) (hz : F z) : w = z := by
  have := h.2 z hz
  omega
theorem N.le {z w y : Int} (h : N z w) (hy : F y) (h1 : z ≤ y) : w ≤ y := by
  have := h.2 y hy
  omega
theorem N.ge {z w y : Int} (h : N z w) (hy : F y) (h1 : y ≤ z) : y ≤ w := by
  have := h.2 y hy
  omega
theorem N.neg {z w : Int} (h : N z w) : N (-z) (-w) := by
  refine ⟨h.1.neg, fun y hy => ?_⟩
  have := h.2 (-y) hy.neg
  omega

/-- What a sum has lost is a float. -/
theorem lost {a b w : Int} (ha : F a) (hb : F b) (h : N (a + b) w) : F (a + b - w) := by
  have key : ∀ {a b w : Int}, (∃ (m : Int) (k : Nat) (n : Int), -9007199254740992 ≤ m ∧ m ≤ 9007199254740992 ∧ a = m * 2 ^ k ∧ b = n * 2 ^ k) → F b → N (a + b) w → F (a + b - w) := by
    intro a b w ⟨m, k, n, h1, h2, ea, eb⟩ hb h
    have hp := pow_pos' k
    have es : a + b = (m + n) * 2 ^ k := by rw [ea, eb, Int.add_mul]
    by_cases hs : -9007199254740992 ≤ m + n ∧ m + n ≤ 9007199254740992
    · have hF : F (a + b) := ⟨m + n, k, hs.1, hs.2, es⟩
      rw [h.exact hF]
      exact F.small (by omega) (by omega)
    · -- the sum is great: so is w
      have hZ : F (9007199254740992 * 2 ^ k) := ⟨9007199254740992, k, by omega, by omega, rfl⟩
      have hw : 9007199254740992 * 2 ^ k ≤ w ∨ w ≤ -(9007199254740992 * 2 ^ k) := by
        by_cases hg : 9007199254740992 ≤ m + n
        · left
          refine h.ge hZ ?_
          rw [es]; exact Int.mul_le_mul_of_nonneg_right hg (Int.le_of_lt hp)
        · right
          refine h.le hZ.neg ?_
          rw [es, ← Int.neg_mul]; exact Int.mul_le_mul_of_nonneg_right (by omega) (Int.le_of_lt hp)
      obtain ⟨p, q, p1, p2, ew⟩ := h.1
      have hq : k ≤ q := by
        rcases Nat.lt_or_ge q k with hlt | hge
        · exfalso
          obtain ⟨j, rfl⟩ : ∃ j, k = q + (j + 1) := ⟨k - q - 1, by omega⟩
          have hj := pow_pos' j
          have hq' := pow_pos' q
          have e2 : (2 : Int) ^ (q + (j + 1)) = 2 ^ (j + 1) * 2 ^ q := by rw [Int.pow_add, Int.mul_comm]
          rw [e2, ew, ← Int.mul_assoc] at hw
          have hj2 : (2 : Int) ≤ 2 ^ (j + 1) := by rw [Int.pow_succ]; omega
          rcases hw with hw | hw
          · have := le_of_scaled hw
            omega
          · rw [← Int.neg_mul] at hw
            have := le_of_scaled hw
            omega
        · exact hge
      obtain ⟨j, rfl⟩ : ∃ j, q = k + j := ⟨q - k, by omega⟩
      have ew2 : w = p * 2 ^ j * 2 ^ k := by rw [ew, Int.pow_add, Int.mul_comm (2 ^ k), Int.mul_assoc]
      have e : a + b - w = (m + n - p * 2 ^ j) * 2 ^ k := by rw [es, ew2, ← Int.sub_mul]
      have hle := h.2 b hb
      have e3 : a + b - b = m * 2 ^ k := by omega
      rw [e3, e] at hle
      have b1 : (m + n - p * 2 ^ j) * 2 ^ k ≤ 9007199254740992 * 2 ^ k ∧ -9007199254740992 * 2 ^ k ≤ (m + n - p * 2 ^ j) * 2 ^ k := by
        have c1 : m * 2 ^ k ≤ 9007199254740992 * 2 ^ k := Int.mul_le_mul_of_nonneg_right h2 (Int.le_of_lt hp)
        have c2 : -9007199254740992 * 2 ^ k ≤ m * 2 ^ k := Int.mul_le_mul_of_nonneg_right h1 (Int.le_of_lt hp)
        rw [Int.neg_mul] at c2 ⊢
        generalize (m + n - p * 2 ^ j) * 2 ^ k = X at *
        generalize m * 2 ^ k = Y at *
        generalize 9007199254740992 * 2 ^ k = Z at *
        omega
      exact ⟨m + n - p * 2 ^ j, k, le_of_scaled b1.2, le_of_scaled b1.1, e⟩
  obtain ⟨m, k, a1, a2, ea⟩ := ha
  obtain ⟨n, l, b1, b2, eb⟩ := hb
  rcases Nat.le_total k l with hkl | hkl
  · obtain ⟨j, rfl⟩ : ∃ j, l = k + j := ⟨l - k, by omega⟩
    refine key ⟨m, k, n * 2 ^ j, a1, a2, ea, ?_⟩ ⟨n, k + j, b1, b2, eb⟩ h
    rw [eb, Int.pow_add, Int.mul_comm (2 ^ k), Int.mul_assoc]
  · obtain ⟨j, rfl⟩ : ∃ j, k = l + j := ⟨k - l, by omega⟩
    rw [Int.add_comm a b] at h ⊢
    refine key ⟨n, l, m * 2 ^ j, b1, b2, eb, ?_⟩ ⟨m, l + j, a1, a2, ea⟩ h
    rw [ea, Int.pow_add, Int.mul_comm (2 ^ l), Int.mul_assoc]

/-- The sum less the greater summand is a float. -/
theorem dekker {a b x : Int} (ha : F a) (hb : F b) (hab : b.natAbs ≤ a.natAbs) (h : N (a + b) x) : F (x - a) := by
  have key : ∀ {a b x : Int}, F a → F b → b.natAbs ≤ a.natAbs → 0 ≤ a → N (a + b) x → F (x - a) := by
    intro a b x ha hb hab h0 h
    by_cases hb0 : 0 ≤ b
    · have x1 := h.ge ha (by omega)
      have x2 := h.le ha.twice (by omega)
      exact sterbenz h.1 ha h0 x1 x2
    · by_cases hc : a ≤ 2 * -b
      · have hF := sterbenz ha hb.neg (by omega) (by omega) hc
        have e : a - -b = a + b := by omega
        rw [e] at hF
        have := h.exact hF
        rw [this, show a + b - a = b by omega]; exact hb
      · by_cases hs : a ≤ 9007199254740992
        · have hF : F (a + b) := F.small (by omega) (by omega)
          have := h.exact hF
          rw [this, show a + b - a = b by omega]; exact hb
        · obtain ⟨w, ew, hw⟩ := ha.half (by omega)
          have x1 := h.ge hw (by omega)
          have x2 := h.le ha (by omega)
          have := (sterbenz ha h.1 (by omega) x2 (by omega)).neg
          rw [show -(a - x) = x - a by omega] at this
          exact this
  by_cases h0 : 0 ≤ a
  · exact key ha hb hab h0 h
  · have hn := h.neg
    rw [show -(a + b) = -a + -b by omega] at hn
    have := (key ha.neg hb.neg (by omega) (by omega) hn).neg
    rw [show -(-x - -a) = x - a by omega] at this
    exact this

/-- Knuth's way: each step but the first two is exact, and the two errors together are what the sum has lost. -/
theorem knuth {a b x v u : Int} (ha : F a) (hb : F b) (hx : N (a + b) x) (hv : N (x - a) v) (hu : N (x - v) u) :
    u = x - v ∧ F (a - u) ∧ F (b - v) ∧ F (a + b - x) ∧ (a - u).natAbs ≤ a.natAbs ∧ (b - v).natAbs ≤ b.natAbs ∧ (a + b - x).natAbs ≤ a.natAbs := by
  have w1 := hx.2 a ha
  have w2 := hx.2 b hb
  have herr := lost ha hb hx
  by_cases hab : b.natAbs ≤ a.natAbs
  · have e1 := hv.exact (dekker ha hb hab hx)
    have e2 : x - v = a := by omega
    rw [e2] at hu ⊢
    have e3 := hu.exact ha
    refine ⟨e3, ?_, ?_, herr, by omega, by omega, by omega⟩
    · exact F.small (by omega) (by omega)
    · rw [show b - v = a + b - x by omega]; exact herr
  · have key : ∀ {a b x v : Int}, F a → F b → N (a + b) x → N (x - a) v → a.natAbs < b.natAbs → 0 < b → F (x - v) ∧ F (a - (x - v)) ∧ F (b - v) ∧ (a - (x - v)).natAbs ≤ a.natAbs ∧ (b - v).natAbs ≤ b.natAbs := by
      intro a b x v ha hb hx hv hab hb0
      have herr := lost ha hb hx
      have n0 := hx.2 0 (F.small (by omega) (by omega))
      have n1 := hx.2 b hb
      have n2 := hx.2 (2 * b) hb.twice
      have nv := hv.2 b hb
      obtain ⟨err, he⟩ : ∃ err, err = a + b - x := ⟨_, rfl⟩
      rw [← he] at herr
      have hsmall : 2 * err.natAbs ≤ b.natAbs := by omega
      have exv : x - a = b - err := by omega
      have f1 : F (a - (x - v)) := by
        have hv2 : N (b + -err) v := by rw [show b + -err = x - a by omega]; exact hv
        have := (lost hb herr.neg hv2).neg
        rw [show -(b + -err - v) = a - (x - v) by omega] at this
        exact this
      have f2 : F (b - v) := by
        by_cases hs : b ≤ 9007199254740992
        · exact F.small (by omega) (by omega)
        · obtain ⟨h, eh, hh⟩ := hb.half (by omega)
          have v1 := hv.ge hh (by omega)
          have v2 := hv.le hb.twice (by omega)
          by_cases hvb : v ≤ b
          · exact sterbenz hb hv.1 (by omega) hvb (by omega)
          · have := (sterbenz hv.1 hb (by omega) (by omega) v2).neg
            rw [show -(v - b) = b - v by omega] at this
            exact this
      have exact_case : x = a + b → F (x - v) := by
        intro hex
        have e1 : x - a = b := by omega
        rw [e1] at hv
        have := hv.exact hb
        rw [this, show x - b = a by omega]; exact ha
      refine ⟨?_, f1, f2, by omega, by omega⟩
      by_cases ha0 : 0 ≤ a
      · have x1 := hx.ge hb (by omega)
        have x2 := hx.ge ha.twice (by omega)
        have v1 := hv.le hx.1 (by omega)
        have v0 := hv.ge (F.small (z := 0) (by omega) (by omega)) (by omega)
        by_cases hs : x ≤ 9007199254740992
        · exact F.small (by omega) (by omega)
        · obtain ⟨h, eh, hh⟩ := hx.1.half (by omega)
          have v2 := hv.ge hh (by omega)
          exact sterbenz hx.1 hv.1 v0 v1 (by omega)
      · by_cases hc : b ≤ 2 * -a
        · have hF := sterbenz hb ha.neg (by omega) (by omega) hc
          rw [show b - -a = a + b by omega] at hF
          exact exact_case (hx.exact hF)
        · by_cases hs : b ≤ 9007199254740992
          · exact exact_case (hx.exact (F.small (by omega) (by omega)))
          · obtain ⟨h, eh, hh⟩ := hb.half (by omega)
            have x1 := hx.ge hh (by omega)
            have v1 := hv.ge hx.1 (by omega)
            have v2 := hv.le hx.1.twice (by omega)
            have := (sterbenz hv.1 hx.1 (by omega) v1 v2).neg
            rw [show -(v - x) = x - v by omega] at this
            exact this
    have hall : F (x - v) ∧ F (a - (x - v)) ∧ F (b - v) ∧ (a - (x - v)).natAbs ≤ a.natAbs ∧ (b - v).natAbs ≤ b.natAbs := by
      by_cases hb0 : 0 < b
      · exact key ha hb hx hv (by omega) hb0
      · have hx' := hx.neg
        rw [show -(a + b) = -a + -b by omega] at hx'
        have hv' := hv.neg
        rw [show -(x - a) = -x - -a by omega] at hv'
        obtain ⟨g1, g2, g3, g4, g5⟩ := key ha.neg hb.neg hx' hv' (by omega) (by omega)
        refine ⟨?_, ?_, ?_, by omega, by omega⟩
        · have := g1.neg; rw [show -(-x - -v) = x - v by omega] at this; exact this
        · have := g2.neg; rw [show -(-a - (-x - -v)) = a - (x - v) by omega] at this; exact this
        · have := g3.neg; rw [show -(-b - -v) = b - v by omega] at this; exact this
    obtain ⟨g1, g2, g3, g4, g5⟩ := hall
    have e := hu.exact g1
    exact ⟨e, by rw [e]; exact g2, g3, herr, by rw [e]; exact g4, g5, by omega⟩
end Fl
