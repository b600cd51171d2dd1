/- What a product of binary64s has lost is a float. No program here. -/
import Derived.Test.YtfloeiagdegpjaaPi
namespace Fl
open Ieee

/-- Two numbers of 53 digits, their product's nearest float not too small: what is lost has 53 digits. -/
theorem prod_lost {w0 h T k : Nat} (hw : w0 < 2 ^ 106) (hk1 : 4503599627370496 ≤ k) (hk2 : k ≤ 9007199254740992) (h1 : (2 * k - 1) * 2 ^ T ≤ 2 * (w0 * 2 ^ h)) (h2 : 2 * (w0 * 2 ^ h) ≤ (2 * k + 1) * 2 ^ T) :
    F ((w0 * 2 ^ h : Nat) - (k * 2 ^ T : Nat) : Int) ∧ 2 * ((w0 * 2 ^ h : Nat) - (k * 2 ^ T : Nat) : Int).natAbs ≤ 2 ^ T := by
  have hT := Nat.two_pow_pos T
  have e1 : (2 * k - 1) * 2 ^ T + 2 ^ T = 2 * (k * 2 ^ T) := by
    have : (2 * k - 1) * 2 ^ T + 1 * 2 ^ T = (2 * k) * 2 ^ T := by rw [← Nat.add_mul]; congr 1; omega
    rw [Nat.one_mul, Nat.mul_assoc] at this; exact this
  have e2 : (2 * k + 1) * 2 ^ T = 2 * (k * 2 ^ T) + 2 ^ T := by rw [Nat.add_mul, Nat.one_mul, Nat.mul_assoc]
  have hb : 2 * ((w0 * 2 ^ h : Nat) - (k * 2 ^ T : Nat) : Int).natAbs ≤ 2 ^ T := by
    generalize w0 * 2 ^ h = W at *
    generalize k * 2 ^ T = V at *
    generalize (2 * k - 1) * 2 ^ T = X at *
    generalize (2 * k + 1) * 2 ^ T = Y at *
    generalize 2 ^ T = Q at *
    omega
  refine ⟨?_, hb⟩
  rcases Nat.le_total T h with hTh | hTh
  · -- a multiple of the last place: nothing is lost
    obtain ⟨j, rfl⟩ : ∃ j, h = T + j := ⟨h - T, by omega⟩
    have e : ((w0 * 2 ^ (T + j) : Nat) - (k * 2 ^ T : Nat) : Int) = ((w0 * 2 ^ j : Nat) - (k : Int)) * ((2 ^ T : Nat) : Int) := by
      rw [Int.sub_mul, ← Int.natCast_mul, ← Int.natCast_mul, Nat.mul_assoc, ← Nat.pow_add, Nat.add_comm j T]
    rw [e, Int.natAbs_mul, Int.natAbs_natCast] at hb
    have hd : ((w0 * 2 ^ j : Nat) - (k : Int)).natAbs = 0 := by
      rcases Nat.eq_zero_or_pos ((w0 * 2 ^ j : Nat) - (k : Int)).natAbs with h0 | h0
      · exact h0
      · exfalso
        have := Nat.mul_le_mul_right (2 ^ T) h0
        rw [Nat.succ_mul, Nat.zero_mul, Nat.zero_add] at this
        omega
    have hd2 : ((w0 * 2 ^ j : Nat) - (k : Int)) = 0 := by omega
    rw [e, hd2, Int.zero_mul]
    exact F.small (by omega) (by omega)
  · obtain ⟨j, rfl⟩ : ∃ j, T = h + j := ⟨T - h, by omega⟩
    have hj : j ≤ 54 := by
      rcases Nat.lt_or_ge 54 j with hlt | hge
      · exfalso
        have h3 : (2 * k - 1) * 2 ^ (h + j) ≤ 2 * (w0 * 2 ^ h) := h1
        have h4 : 2 ^ 53 * 2 ^ (h + j) ≤ (2 * k - 1 + 1) * 2 ^ (h + j) := Nat.mul_le_mul_right _ (by omega)
        have h5 : 2 * (w0 * 2 ^ h) < 2 * (2 ^ 106 * 2 ^ h) := by
          have := Nat.mul_lt_mul_of_pos_right hw (Nat.two_pow_pos h)
          omega
        have h6 : (2 ^ 53 - 1) * 2 ^ (h + j) ≤ (2 * k - 1) * 2 ^ (h + j) := Nat.mul_le_mul_right _ (by omega)
        have h7 : 2 ^ 55 * 2 ^ h ≤ 2 ^ (h + j) := by
          rw [← Nat.pow_add]; exact Nat.pow_le_pow_right (by decide) (by omega)
        have h8 : (2 ^ 53 - 1) * (2 ^ 55 * 2 ^ h) ≤ (2 ^ 53 - 1) * 2 ^ (h + j) := Nat.mul_le_mul_left _ h7
        have hp := Nat.two_pow_pos h
        generalize 2 ^ (h + j) = Q at *
        generalize 2 ^ h = P at *
        omega
      · exact hge
    have e : ((w0 * 2 ^ h : Nat) - (k * 2 ^ (h + j) : Nat) : Int) = ((w0 : Int) - (k * 2 ^ j : Nat)) * 2 ^ h := by
      rw [Int.sub_mul, Nat.add_comm h j, Nat.pow_add, ← Nat.mul_assoc]
      simp
    have hn : 2 * ((w0 : Int) - (k * 2 ^ j : Nat)).natAbs ≤ 2 ^ j := by
      rw [e, Int.natAbs_mul, Int.natAbs_pow, Nat.pow_add, Nat.mul_comm (2 ^ h), ← Nat.mul_assoc] at hb
      exact Nat.le_of_mul_le_mul_right hb (Nat.two_pow_pos h)
    have hj2 : (2 : Nat) ^ j ≤ 2 ^ 54 := Nat.pow_le_pow_right (by decide) hj
    exact ⟨(w0 : Int) - (k * 2 ^ j : Nat), h, by omega, by omega, e⟩

theorem sv_read {x m : Nat} {i : Int} (h3 : val double (x % double.signWeight) = m * 2 ^ (i - double.leastPlace).toNat) :
    sv double x = (if (x / double.signWeight % 2 == 1) then -1 else 1) * ((m * 2 ^ (i + 1074).toNat : Nat) : Int) := by
  have e2 : double.leastPlace = -1074 := by decide
  unfold sv
  rw [h3, e2]
  have e : (i - -1074).toNat = (i + 1074).toNat := by omega
  rw [e]
  split <;> omega

theorem sign_mul (s t : Bool) (A B : Int) : ((if s then -1 else 1) * A) * ((if t then -1 else 1) * B) = (if (s ^^ t) then -1 else 1) * (A * B) := by
  cases s <;> cases t <;> simp [Int.neg_mul, Int.mul_neg]

/-- The fused sum tells what a product has lost. -/
theorem mul_fma {x y p p' : Nat} (hx : x % double.signWeight < double.infRung) (hy : y % double.signWeight < double.infRung) (hmul : double.mul x y = some p) (hp : p % double.signWeight < double.infRung)
    (hbig : 288230376151711744 ≤ p % double.signWeight) (hp' : double.read p' = (double.read p).opposite) (G : Nat) (hG : G = 1074) :
    ∃ (e : Int) (r : Nat), double.fma x y p' = some r ∧ r % double.signWeight < double.infRung ∧ sv double r = e ∧ sv double x * sv double y = (sv double p + e) * ((2 ^ G : Nat) : Int) := by
  have hlp : double.leastPlace = -1074 := by decide
  have hBd : double.binade = 4503599627370496 := by decide
  obtain ⟨m, i, rx, hi, vx, hm⟩ := read_fin good_double x hx
  obtain ⟨n, j, ry, hj, vy, hn⟩ := read_fin good_double y hy
  obtain ⟨q, c, rp, hc, vp, _⟩ := read_fin good_double p hp
  have sx := sv_read vx
  have sy := sv_read vy
  have sp := sv_read vp
  rw [hBd] at hm hn
  rw [hlp] at hi hj hc vp
  -- the product
  obtain ⟨r, g1, g2⟩ := mul_numbers double (by decide) (x / double.signWeight % 2 == 1) (y / double.signWeight % 2 == 1) m n i j
  have hmul' := hmul
  unfold Format.mul at hmul'
  rw [rx, ry, g1] at hmul'
  have hpw := Option.some.inj hmul'
  have hrlt : r < double.signWeight := Nat.lt_of_le_of_lt g2.le double.infRung_lt
  have hpr : p % double.signWeight = r := by rw [← hpw]; exact word_rung double _ hrlt
  have hpn : (p / double.signWeight % 2 == 1) = ((x / double.signWeight % 2 == 1) ^^ (y / double.signWeight % 2 == 1)) := by rw [← hpw]; exact word_neg double _ hrlt
  rw [hpr] at hp hbig vp
  rw [hpn] at sp rp
  -- its place
  obtain ⟨T, k, hrk, hk, hT⟩ := rep double r
  rw [hBd] at hrk hk hT
  have hT63 : 63 ≤ T := by omega
  have hk1 : 4503599627370496 ≤ k := by omega
  have v0 : val double r = k * 2 ^ T := by rw [hrk]; rw [← hBd]; exact val_at double (by rw [hBd]; omega) (by rw [hBd]; omega)
  have v1 : val double (r + 1) = (k + 1) * 2 ^ T := by rw [hrk, Nat.add_assoc]; rw [← hBd]; exact val_at double (by rw [hBd]; omega) (by rw [hBd]; omega)
  have vm : (k - 1) * 2 ^ T ≤ val double (r - 1) := by
    obtain ⟨z, hz⟩ := val_of double (m := k - 1) (by rw [hBd]; omega) T
    rw [← hz]
    refine val_mono double ?_
    rcases Nat.lt_or_ge z r with h | h
    · omega
    · exfalso
      have := val_mono double h
      rw [hz, v0] at this
      have := Nat.le_of_mul_le_mul_right this (Nat.two_pow_pos T)
      omega
  -- the middles
  obtain ⟨a, ha⟩ : ∃ a, a = (i + j + 2148).toNat := ⟨_, rfl⟩
  have hab : ((a : Nat) : Int) - (G : Nat) = i + j - double.leastPlace := by rw [hlp]; omega
  have l1 := (frac_lo double (m * n) 1 (i + j) Nat.one_pos hab _).1 (g2.low (by omega)).1
  have l2 := (frac_hi double (m * n) 1 (i + j) Nat.one_pos hab _).1 (g2.high hp).1
  rw [Nat.mul_one, v0] at l1
  rw [Nat.mul_one, v0, v1] at l2
  have hPG := Nat.two_pow_pos G
  have hPT := Nat.two_pow_pos T
  have mn : m * n < 2 ^ 106 := by
    have : m * n < 9007199254740992 * 9007199254740992 := Nat.mul_lt_mul_of_lt_of_le (by omega) (by omega) (by decide)
    exact this
  have l1' : (2 * k - 1) * 2 ^ T * 2 ^ G ≤ 2 * (m * n) * 2 ^ a := by
    refine Nat.le_trans (Nat.mul_le_mul_right _ ?_) l1
    have : (2 * k - 1) * 2 ^ T = (k - 1) * 2 ^ T + k * 2 ^ T := by rw [← Nat.add_mul]; congr 1; omega
    omega
  have l2' : 2 * (m * n) * 2 ^ a ≤ (2 * k + 1) * 2 ^ T * 2 ^ G := by
    refine Nat.le_trans l2 (Nat.mul_le_mul_right _ (Nat.le_of_eq ?_))
    rw [← Nat.add_mul]; congr 1; omega
  -- so the product is a multiple of the least place
  have haG : G ≤ a := by
    rcases Nat.lt_or_ge a G with hlt | hge
    · exfalso
      have h3 : 2 ^ 53 * 2 ^ 63 * 2 ^ G ≤ (2 * k) * 2 ^ T * 2 ^ G := Nat.mul_le_mul_right _ (Nat.mul_le_mul (by omega) (Nat.pow_le_pow_right (by decide) hT63))
      have h4 : (2 * k) * 2 ^ T * 2 ^ G ≤ 2 * ((2 * k - 1) * 2 ^ T * 2 ^ G) := by
        have : (2 * k) * 2 ^ T ≤ 2 * ((2 * k - 1) * 2 ^ T) := by rw [← Nat.mul_assoc]; exact Nat.mul_le_mul_right _ (by omega)
        have := Nat.mul_le_mul_right (2 ^ G) this
        rw [Nat.mul_assoc 2 ((2 * k - 1) * 2 ^ T)] at this
        exact this
      have h5 : 2 * (m * n) * 2 ^ a ≤ 2 * 2 ^ 106 * 2 ^ G := Nat.mul_le_mul (by omega) (Nat.pow_le_pow_right (by decide) (by omega))
      generalize 2 ^ G = P at *
      generalize (2 * k - 1) * 2 ^ T * P = X at *
      generalize 2 * (m * n) * 2 ^ a = Y at *
      generalize (2 * k) * 2 ^ T * P = Z at *
      omega
    · exact hge
  obtain ⟨h, hh⟩ : ∃ h, a = h + G := ⟨a - G, by omega⟩
  have eW : 2 * (m * n) * 2 ^ a = 2 * (m * n * 2 ^ h) * 2 ^ G := by rw [hh, Nat.pow_add]; simp only [Nat.mul_assoc]
  rw [eW] at l1' l2'
  obtain ⟨fF, fB⟩ := prod_lost mn hk1 (by omega) (Nat.le_of_mul_le_mul_right l1' hPG) (Nat.le_of_mul_le_mul_right l2' hPG)
  -- what is lost, with its sign
  have hval : val double r = q * 2 ^ (c + 1074).toNat := by rw [vp]; congr 2
  obtain ⟨st, hst⟩ : ∃ st, st = ((x / double.signWeight % 2 == 1) ^^ (y / double.signWeight % 2 == 1)) := ⟨_, rfl⟩
  obtain ⟨d, hd⟩ : ∃ d : Int, d = ((m * n * 2 ^ h : Nat) - (k * 2 ^ T : Nat) : Int) := ⟨_, rfl⟩
  rw [← hd] at fF fB
  have hsv : sv double x * sv double y = (sv double p + (if st then -1 else 1) * d) * ((2 ^ G : Nat) : Int) := by
    have eAB : ((m * 2 ^ (i + 1074).toNat : Nat) : Int) * ((n * 2 ^ (j + 1074).toNat : Nat) : Int) = ((m * n * 2 ^ h : Nat) : Int) * ((2 ^ G : Nat) : Int) := by
      rw [← Int.natCast_mul, ← Int.natCast_mul]
      congr 1
      rw [Nat.mul_assoc (m * n), ← Nat.pow_add, ← hh, ha, show (i + j + 2148).toNat = (i + 1074).toNat + (j + 1074).toNat by omega, Nat.pow_add]
      simp only [Nat.mul_assoc, Nat.mul_left_comm]
    rw [sx, sy, sp, sign_mul, eAB, ← hst, ← hval, v0, ← Int.mul_add, ← Int.mul_assoc]
    congr 2
    omega
  obtain ⟨z, hz⟩ := val_F fF
  have hz2 : z < double.infRung := by
    rcases Nat.lt_or_ge z double.infRung with h' | h'
    · exact h'
    · exfalso
      have m1 := val_mono double h'
      have m2 := val_strict double hp
      rw [v0] at m2
      have m3 : 1 * 2 ^ T ≤ k * 2 ^ T := Nat.mul_le_mul_right _ (by omega)
      rw [Nat.one_mul] at m3
      generalize k * 2 ^ T = V at *
      generalize 2 ^ T = Q at *
      omega
  -- the fused sum
  obtain ⟨t, ht⟩ : ∃ t, t = signed st (m * n) (i + j - min (i + j) c).toNat + signed (!st) q (c - min (i + j) c).toNat := ⟨_, rfl⟩
  have hfma : double.fma x y p' = some (double.nearest (if t = 0 then (st && !st) else decide (t < 0)) t.natAbs (min (i + j) c)) := by
    unfold Format.fma
    rw [rx, ry, hp', rp]
    simp only [Datum.product, Datum.opposite, Option.bind_some, Datum.sum, Option.map_some, Format.write]
    rw [← hst, ← ht]
  obtain ⟨base, hbase⟩ : ∃ base, base = min (i + j) c := ⟨_, rfl⟩
  rw [← hbase] at ht hfma
  obtain ⟨b2, hb2⟩ : ∃ b2, b2 = (base + 2148).toNat := ⟨_, rfl⟩
  have htv : t * ((2 ^ b2 : Nat) : Int) = (if st then -1 else 1) * d * ((2 ^ G : Nat) : Int) := by
    rw [ht, signed_eq, signed_eq, Int.add_mul, Int.mul_assoc, Int.mul_assoc, ← Int.natCast_mul, ← Int.natCast_mul, Nat.mul_assoc (m * n), ← Nat.pow_add, Nat.mul_assoc q, ← Nat.pow_add]
    have q1 : (i + j - base).toNat + b2 = h + G := by omega
    have q2 : (c - base).toNat + b2 = (c + 1074).toNat + G := by omega
    rw [q1, q2, Nat.pow_add, Nat.pow_add, ← Nat.mul_assoc, ← Nat.mul_assoc, ← hval, v0, hd, Int.mul_assoc, Int.sub_mul, ← Int.natCast_mul, ← Int.natCast_mul]
    cases st
    · simp; omega
    · simp; omega
  have habs : t.natAbs * 2 ^ b2 = val double z * 2 ^ G := by
    have := congrArg Int.natAbs htv
    rw [Int.natAbs_mul, Int.natAbs_mul, Int.natAbs_natCast, Int.natAbs_natCast, Int.natAbs_mul, ← hz] at *
    rw [this]
    cases st <;> simp
  have hnear : Near double (frac double t.natAbs 1 base Nat.one_pos) z := by
    have hs := near_self hz2 (val double z) (-1074) (by rw [hlp]; omega) (by rw [hlp]; simp)
    have y1 : ((0 : Nat) : Int) - ((0 : Nat) : Int) = (-1074) - double.leastPlace := by rw [hlp]; omega
    have y2 : ((b2 : Nat) : Int) - (G : Nat) = base - double.leastPlace := by rw [hlp]; omega
    refine hs.congr (fun u => ?_) (fun u => ?_)
    · rw [frac_lo double _ 1 _ Nat.one_pos y1, frac_lo double _ 1 _ Nat.one_pos y2, Nat.mul_assoc 2 t.natAbs, habs, Nat.pow_zero, Nat.mul_one, Nat.mul_one, Nat.mul_one, ← Nat.mul_assoc, Nat.mul_le_mul_right_iff hPG]
    · rw [frac_hi double _ 1 _ Nat.one_pos y1, frac_hi double _ 1 _ Nat.one_pos y2, Nat.mul_assoc 2 t.natAbs, habs, Nat.pow_zero, Nat.mul_one, Nat.mul_one, Nat.mul_one, ← Nat.mul_assoc, Nat.mul_le_mul_right_iff hPG]
  have hword : ∀ neg, double.nearest neg t.natAbs base = double.word neg z := fun neg => by
    obtain ⟨z', w1, w2⟩ := nearest_exact double (by decide) neg t.natAbs base
    rw [w1, w2.unique hnear]
  refine ⟨(if st then -1 else 1) * d, _, hfma, ?_, ?_, hsv⟩
  · rw [hword, word_rung double _ (Nat.lt_trans hz2 double.infRung_lt)]; exact hz2
  · rw [hword, sv_of_word _ hz2, ← hz]
    have hP2 : (0 : Int) < ((2 ^ b2 : Nat) : Int) := by have := Nat.two_pow_pos b2; omega
    have hPG2 : (0 : Int) < ((2 ^ G : Nat) : Int) := by omega
    by_cases ht0 : t = 0
    · rw [ht0, Int.zero_mul] at htv
      have : (if st then -1 else 1) * d = 0 := by
        rcases Int.mul_eq_zero.1 htv.symm with h' | h'
        · exact h'
        · omega
      have hd0 : d = 0 := by cases st <;> simp at this <;> omega
      rw [hd0]; simp
    · rw [if_neg ht0]
      by_cases hneg : t < 0
      · have h1 : t * ((2 ^ b2 : Nat) : Int) < 0 := Int.mul_neg_of_neg_of_pos hneg hP2
        rw [htv] at h1
        have h2 : (if st then -1 else 1) * d < 0 := by
          refine Int.not_le.1 (fun h' => ?_)
          exact absurd (Int.mul_nonneg h' (Int.le_of_lt hPG2)) (by omega)
        rw [decide_eq_true hneg, if_pos rfl]
        cases st <;> simp at h2 ⊢ <;> omega
      · have h1 : 0 < t * ((2 ^ b2 : Nat) : Int) := Int.mul_pos (by omega) hP2
        rw [htv] at h1
        have h2 : 0 < (if st then -1 else 1) * d := by
          refine Int.not_le.1 (fun h' => ?_)
          have := Int.mul_le_mul_of_nonneg_right h' (Int.le_of_lt hPG2)
          rw [Int.zero_mul] at this
          omega
        rw [decide_eq_false hneg, if_neg (by decide)]
        cases st <;> simp at h2 ⊢ <;> omega
end Fl
