/- Sums of binary64s as whole numbers of the least place: the nearest float, or the sum itself. No program here. -/
import Derived.Test.YtfloeiagdegpjaaPh
namespace Fl
open Ieee

theorem F_val (r : Nat) : F (val double r : Int) := by
  obtain ⟨T, k, rfl, hk, hT⟩ := rep double r
  have hB : double.binade = 4503599627370496 := by decide
  rw [val_at double (by omega) hT]
  rw [hB] at hk
  exact ⟨k, T, by omega, by omega, by simp⟩

theorem val_F {z : Int} (h : F z) : ∃ r, z.natAbs = val double r := by
  have hB : double.binade = 4503599627370496 := by decide
  obtain ⟨m, k, h1, h2, rfl⟩ := h
  have e : (m * 2 ^ k).natAbs = m.natAbs * 2 ^ k := by rw [Int.natAbs_mul, Int.natAbs_pow]; rfl
  rw [e]
  by_cases hm : m.natAbs < 9007199254740992
  · obtain ⟨r, hr⟩ := val_of double (m := m.natAbs) (by rw [hB]; omega) k
    exact ⟨r, hr.symm⟩
  · obtain ⟨r, hr⟩ := val_of double (m := 4503599627370496) (by rw [hB]; omega) (k + 1)
    refine ⟨r, ?_⟩
    rw [hr, show m.natAbs = 4503599627370496 * 2 by omega, Nat.pow_succ, Nat.mul_assoc, Nat.mul_comm 2]

theorem near_N {Z r : Nat} (lo : 0 < r → val double (r - 1) + val double r ≤ 2 * Z) (hi : 2 * Z ≤ val double r + val double (r + 1)) : N (Z : Int) (val double r : Int) := by
  refine ⟨F_val r, fun y hy => ?_⟩
  obtain ⟨q, hq⟩ := val_F hy
  have m1 := val_mono double (show r - 1 ≤ r by omega)
  have m2 := val_mono double (show r ≤ r + 1 by omega)
  rcases Nat.lt_trichotomy q r with h | h | h
  · have l1 := lo (by omega)
    have l2 := val_mono double (show q ≤ r - 1 by omega)
    omega
  · subst h
    by_cases h0 : 0 < q
    · have l1 := lo h0
      omega
    · have : q = 0 := by omega
      subst this
      rw [val_zero] at *
      omega
  · have l2 := val_mono double (show r + 1 ≤ q by omega)
    by_cases h0 : 0 < r
    · have l1 := lo h0
      omega
    · have : r = 0 := by omega
      subst this
      rw [val_zero] at *
      omega

theorem sv_zero_word (s : Bool) : sv double (double.word s 0) = 0 := by cases s <;> decide +kernel

theorem sv_of_word (s : Bool) {r : Nat} (hr : r < double.infRung) : sv double (double.word s r) = if s then -(val double r : Int) else (val double r : Int) := by
  have h : r < double.signWeight := Nat.lt_trans hr double.infRung_lt
  unfold sv
  rw [word_neg double s h, word_rung double s h]

theorem fin_val {x : Nat} (h : x % double.signWeight < double.infRung) : val double (x % double.signWeight) < 2 ^ 2098 := by
  rw [← val_inf_double]; exact val_strict double h

/-- A finite sum is nearest to the summands' own. -/
theorem sum_cases {x y : Nat} (hx : x % double.signWeight < double.infRung) (hy : y % double.signWeight < double.infRung) :
    ∃ (t : Int) (base : Int) (s : Bool), -1074 ≤ base ∧ double.add x y = some (double.nearest (if t = 0 then s else decide (t < 0)) t.natAbs base) ∧
      sv double x + sv double y = t * ((2 ^ (base + 1074).toNat : Nat) : Int) := by
  obtain ⟨m, p, rx, hp, vx, _⟩ := read_fin good_double x hx
  obtain ⟨n, q, ry, hq, vy, _⟩ := read_fin good_double y hy
  have e2 : double.leastPlace = -1074 := by decide
  refine ⟨signed (x / double.signWeight % 2 == 1) m (p - min p q).toNat + signed (y / double.signWeight % 2 == 1) n (q - min p q).toNat, min p q, (x / double.signWeight % 2 == 1) && (y / double.signWeight % 2 == 1), by omega, ?_, ?_⟩
  · unfold Format.add
    rw [rx, ry]
    simp only [Datum.sum, Option.map_some, Format.write]
  · rw [sv_fin hp vx (base := min p q) (by omega) (by omega), sv_fin hq vy (base := min p q) (by omega) (by omega), ← Int.add_mul, e2]
    congr 2

theorem near_val {t : Nat} {base : Int} (hb : -1074 ≤ base) {r : Nat} (h : Near double (frac double t 1 base Nat.one_pos) r) (hr : r < double.infRung) :
    N ((t * 2 ^ (base + 1074).toNat : Nat) : Int) (val double r : Int) := by
  have hab : (((base + 1074).toNat : Nat) : Int) - ((0 : Nat) : Int) = base - double.leastPlace := by
    have : double.leastPlace = -1074 := by decide
    omega
  refine near_N (fun h0 => ?_) ?_
  · have := (frac_lo double t 1 base Nat.one_pos hab _).1 (h.low h0).1
    rw [Nat.pow_zero, Nat.mul_one, Nat.mul_one, Nat.mul_assoc] at this
    exact this
  · have := (frac_hi double t 1 base Nat.one_pos hab _).1 (h.high hr).1
    rw [Nat.pow_zero, Nat.mul_one, Nat.mul_one, Nat.mul_assoc] at this
    exact this

/-- A finite sum is a nearest float. -/
theorem add_N {x y s : Nat} (hx : x % double.signWeight < double.infRung) (hy : y % double.signWeight < double.infRung) (h : double.add x y = some s) (hs : s % double.signWeight < double.infRung) :
    N (sv double x + sv double y) (sv double s) := by
  obtain ⟨t, base, b, hb, ha, hv⟩ := sum_cases hx hy
  rw [ha] at h
  obtain rfl := Option.some.inj h
  rw [hv]
  by_cases ht : t = 0
  · subst ht
    rw [if_pos rfl, Int.zero_mul]
    have e : double.nearest b (0 : Int).natAbs base = double.word b 0 := by unfold Format.nearest; rw [if_pos (by decide)]
    rw [e, sv_zero_word]
    exact ⟨F.small (by omega) (by omega), fun y _ => by omega⟩
  · rw [if_neg ht] at hs ⊢
    obtain ⟨r, h1, h2⟩ := nearest_exact double (by decide) (decide (t < 0)) t.natAbs base
    rw [h1] at hs ⊢
    have hr : r < double.infRung := by
      rw [word_rung double _ (Nat.lt_of_le_of_lt h2.le double.infRung_lt)] at hs
      exact hs
    have hn := near_val hb h2 hr
    rw [sv_of_word _ hr]
    by_cases hneg : t < 0
    · rw [decide_eq_true hneg, if_pos rfl]
      have := hn.neg
      have e : -((t.natAbs * 2 ^ (base + 1074).toNat : Nat) : Int) = t * ((2 ^ (base + 1074).toNat : Nat) : Int) := by
        rw [Int.natCast_mul, ← Int.neg_mul]; congr 1; omega
      rw [e] at this
      exact this
    · rw [decide_eq_false hneg, if_neg (by decide)]
      have e : ((t.natAbs * 2 ^ (base + 1074).toNat : Nat) : Int) = t * ((2 ^ (base + 1074).toNat : Nat) : Int) := by
        rw [Int.natCast_mul]; congr 1; omega
      rw [e] at hn
      exact hn

/-- A sum that is a float, and not too great, is told exactly. -/
theorem add_exact {x y : Nat} (hx : x % double.signWeight < double.infRung) (hy : y % double.signWeight < double.infRung) (hF : F (sv double x + sv double y)) (hb : (sv double x + sv double y).natAbs < val double double.infRung) :
    ∃ s, double.add x y = some s ∧ s % double.signWeight < double.infRung ∧ sv double s = sv double x + sv double y := by
  obtain ⟨t, base, b, hbase, ha, hv⟩ := sum_cases hx hy
  obtain ⟨q, hq⟩ := val_F hF
  have hq2 : q < double.infRung := by
    rcases Nat.lt_or_ge q double.infRung with h | h
    · exact h
    · have := val_mono double h
      omega
  have hlp : double.leastPlace = -1074 := by decide
  have hqt : val double q = t.natAbs * 2 ^ (base - double.leastPlace).toNat := by
    rw [← hq, hv, Int.natAbs_mul, Int.natAbs_natCast, hlp]; rfl
  have hnv := fun neg => nearest_val good_double neg hq2 t.natAbs base (by rw [hlp]; exact hbase) hqt
  have hrung : ∀ neg, double.word neg q % double.signWeight = q := fun neg => word_rung double neg (Nat.lt_trans hq2 double.infRung_lt)
  refine ⟨_, ha, ?_, ?_⟩
  · rw [hnv, hrung]; exact hq2
  · rw [hnv, sv_of_word _ hq2]
    by_cases ht : t = 0
    · have hz : sv double x + sv double y = 0 := by rw [hv, ht, Int.zero_mul]
      rw [hz] at hq ⊢
      have : val double q = 0 := by omega
      rw [this]; simp
    · rw [if_neg ht]
      have hp : (0 : Int) < ((2 ^ (base + 1074).toNat : Nat) : Int) := by
        have := Nat.two_pow_pos (base + 1074).toNat
        omega
      by_cases hneg : t < 0
      · have : t * ((2 ^ (base + 1074).toNat : Nat) : Int) < 0 := Int.mul_neg_of_neg_of_pos hneg hp
        rw [decide_eq_true hneg, if_pos rfl]
        omega
      · have : 0 < t * ((2 ^ (base + 1074).toNat : Nat) : Int) := Int.mul_pos (by omega) hp
        rw [decide_eq_false hneg, if_neg (by decide)]
        omega
end Fl
