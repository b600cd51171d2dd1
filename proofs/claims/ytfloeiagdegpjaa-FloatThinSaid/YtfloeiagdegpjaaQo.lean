/- A binary32's root by way of a binary64 is its root. No program runs here. -/
import Derived.Test.YtfloeiagdegpjaaQs
import Derived.Test.YtfloeiagdegpjaaPg
import Derived.Test.YtfloeiagdegpjaaSt
namespace Go.Proofs.Ytfloeiagdegpjaa.Q
open Go.RowKit Go.Proofs.YtfloeiagdegpjaaW.PrintWords Go.Proofs.Ytfloeiagdegpjaa.Rf
open Ieee (Format Toward Datum)
set_option linter.unusedVariables false
set_option linter.unusedSimpArgs false

theorem twice_le {x y : Nat} : x * 2 ≤ 2 * y ↔ x ≤ y := by omega
theorem le_twice {x y : Nat} : 2 * y ≤ x * 2 ↔ y ≤ x := by omega

theorem near_round {m : Nat} {i : Int} (hm2 : m < 16777216) (hi : -149 ≤ i) {m' : Nat} {p' : Int} (hp : -1074 ≤ p') {ry J : Nat} (hJ : J = (i + 2148).toNat)
    (hy : _root_.Fl.val Ieee.double ry = m' * 2 ^ (p' + 1074).toNat)
    (hlo : (_root_.Fl.val Ieee.double ry + _root_.Fl.val Ieee.double (ry - 1)) * (_root_.Fl.val Ieee.double ry + _root_.Fl.val Ieee.double (ry - 1)) ≤ 4 * (m * 2 ^ J))
    (hhi : 4 * (m * 2 ^ J) ≤ (_root_.Fl.val Ieee.double ry + _root_.Fl.val Ieee.double (ry + 1)) * (_root_.Fl.val Ieee.double ry + _root_.Fl.val Ieee.double (ry + 1)))
    {r : Nat} (h : _root_.Fl.Near Ieee.single (_root_.Fl.frac Ieee.single m' 1 p' Nat.one_pos) r) : _root_.Fl.Near Ieee.single (_root_.Fl.rootOf Ieee.single m i) r := by
  obtain ⟨E, hE⟩ : ∃ E : Nat, E = 924 := ⟨_, rfl⟩
  have side : ∀ q, ((_root_.Fl.frac Ieee.single m' 1 p' Nat.one_pos).lo (_root_.Fl.val Ieee.single q + _root_.Fl.val Ieee.single (q + 1)) ↔ (_root_.Fl.rootOf Ieee.single m i).lo (_root_.Fl.val Ieee.single q + _root_.Fl.val Ieee.single (q + 1))) ∧
      ((_root_.Fl.frac Ieee.single m' 1 p' Nat.one_pos).hi (_root_.Fl.val Ieee.single q + _root_.Fl.val Ieee.single (q + 1)) ↔ (_root_.Fl.rootOf Ieee.single m i).hi (_root_.Fl.val Ieee.single q + _root_.Fl.val Ieee.single (q + 1))) := by
    intro q
    obtain ⟨n, T, hc, hn0, hn⟩ := _root_.Fl.mid_form q
    rw [hc]
    obtain ⟨κ, t, k1, k2, hk⟩ := _root_.Fl.mid_norm (T := T) (E := E) hn0 hn (by omega)
    generalize n * 2 ^ T = c at *
    obtain ⟨s1, s2⟩ := _root_.Fl.mid_side (t := t) k1 k2 hm2 hlo hhi
    rw [← hk] at s1 s2
    have hab : (((p' + 1074).toNat : Nat) : Int) - ((E + 1 : Nat) : Int) = p' - Ieee.single.leastPlace := by rw [least_single]; omega
    have hab2 : (((i + 2146).toNat : Nat) : Int) - ((E + E : Nat) : Int) = i - 2 * Ieee.single.leastPlace := by rw [least_single]; omega
    have f1 : c * 1 * 2 ^ (E + 1) = c * 2 ^ E * 2 := by rw [Nat.mul_one, Nat.pow_succ, Nat.mul_assoc]
    have f2 : 2 * m' * 2 ^ (p' + 1074).toNat = 2 * _root_.Fl.val Ieee.double ry := by rw [hy, Nat.mul_assoc]
    have f3 : c * c * 2 ^ (E + E) = (c * 2 ^ E) * (c * 2 ^ E) := by
      rw [Nat.pow_add]; simp only [Nat.mul_assoc, Nat.mul_left_comm, Nat.mul_comm]
    have f4 : 4 * m * 2 ^ (i + 2146).toNat = m * 2 ^ J := by
      rw [show J = 2 + (i + 2146).toNat by omega, Nat.pow_add, show (2 : Nat) ^ 2 = 4 by decide]
      simp only [Nat.mul_assoc, Nat.mul_left_comm, Nat.mul_comm]
    rw [_root_.Fl.frac_lo Ieee.single m' 1 p' Nat.one_pos hab, _root_.Fl.frac_hi Ieee.single m' 1 p' Nat.one_pos hab, _root_.Fl.rootOf_lo Ieee.single m i hab2, _root_.Fl.rootOf_hi Ieee.single m i hab2, f1, f2, f3, f4, twice_le, le_twice]
    exact ⟨s1, s2⟩
  refine ⟨h.le, fun h0 => ?_, fun h0 => ?_⟩
  · obtain ⟨q, rfl⟩ : ∃ q, r = q + 1 := ⟨r - 1, by omega⟩
    have hl := h.low h0
    rw [show q + 1 - 1 = q by omega] at hl ⊢
    exact ⟨(side q).1.1 hl.1, fun hx => hl.2 ((side q).2.2 hx)⟩
  · have hl := h.high h0
    exact ⟨(side r).2.1 hl.1, fun hx => hl.2 ((side r).1.2 hx)⟩

theorem p_1074 {v i : Nat} (E : Nat) : v * 2 ^ i * 2 ^ E * 2 ^ 1076 = 4 * (v * 2 ^ (i + E + 1074)) := by
  rw [p1076, Nat.pow_add, Nat.pow_add]
  generalize (2 : Nat) ^ 1074 = P
  simp only [Nat.mul_assoc, Nat.mul_left_comm, Nat.mul_comm]

theorem inf_no {P Q M c : Nat} (hP : P ≤ c) (h1 : c * c ≤ 4 * M * Q) (h2 : M < P) (hPQ : 4 * Q ≤ P) : False := by
  have e : 4 * M * Q = M * (4 * Q) := by rw [Nat.mul_comm 4 M, Nat.mul_assoc]
  rw [e] at h1
  have h3 : P * P ≤ c * c := Nat.mul_le_mul hP hP
  have h4 : M * (4 * Q) ≤ M * P := Nat.mul_le_mul_left _ hPQ
  have h5 : M * P < P * P := Nat.mul_lt_mul_of_pos_right h2 (by omega)
  omega
theorem pos_of {v x P : Nat} (h : v = x * P) (hx : 0 < x) (hP : 0 < P) : 0 < v := by rw [h]; exact Nat.mul_pos hx hP
theorem zero_of {v x P : Nat} (h : v = x * P) (hx : x = 0) : v = 0 := by rw [h, hx, Nat.zero_mul]

/-- A zero's root, the way round. -/
theorem nar_zero (s : Bool) : Fl.nar (Ieee.double.word s 0) = Ieee.single.word s 0 ∧ floatToFloatBits .f64 (Ieee.double.word s 0) .f32 = some (Ieee.single.word s 0) := by
  cases s <;> decide +kernel

theorem root32_eq {a : Nat} (ha : a < 4294967296) (hn : ¬ 2139095040 < a % 2147483648) :
    (∀ y, Ieee.double.sqrt (Fl.wid a) = some y → floatToFloatBits .f64 y .f32 = some (Fl.nar y)) ∧ (Ieee.double.sqrt (Fl.wid a)).map Fl.nar = Ieee.single.sqrt a := by
  have hsw := sign_single
  have hiw := inf_single
  rcases Nat.lt_or_ge (a % Ieee.single.signWeight) Ieee.single.infRung with hf | hf
  · obtain ⟨m, p, ra, hp, hv, hm⟩ := _root_.Fl.read_fin _root_.Fl.good_single a hf
    obtain ⟨R, hR, hvR, hw⟩ := _root_.Fl.widen_fin hf
    obtain ⟨m2, p2, rR, hp2, hv2, _⟩ := _root_.Fl.read_word_fin _root_.Fl.good_double (a / Ieee.single.signWeight % 2 == 1) hR
    have hwid : Fl.wid a = Ieee.double.word (a / Ieee.single.signWeight % 2 == 1) R := hw
    rw [hwid]
    unfold Ieee.Format.sqrt
    rw [rR, ra]
    generalize (a / Ieee.single.signWeight % 2 == 1) = s at *
    by_cases hm0 : m = 0
    · have hv0 : _root_.Fl.val Ieee.double R = 0 := by
        have hz : _root_.Fl.val Ieee.single (a % Ieee.single.signWeight) = 0 := by rw [hv, hm0, Nat.zero_mul]
        exact zero_of hvR hz
      have hm20 : m2 = 0 := by
        rw [hv0] at hv2
        rcases Nat.mul_eq_zero.1 hv2.symm with h | h
        · exact h
        · exact absurd h (Nat.ne_of_gt (Nat.two_pow_pos _))
      have e1 : ((Datum.number s m2 p2).root (Ieee.double.fractionBits + 2)).map Ieee.double.write = some (Ieee.double.word s 0) := by
        simp only [Datum.root]
        rw [if_pos hm20, Option.map_some, hm20]
        rfl
      have e2 : ((Datum.number s m p).root (Ieee.single.fractionBits + 2)).map Ieee.single.write = some (Ieee.single.word s 0) := by
        simp only [Datum.root]
        rw [if_pos hm0, Option.map_some, hm0]
        rfl
      rw [e1, e2]
      obtain ⟨z1, z2⟩ := nar_zero s
      refine ⟨fun y hy => ?_, ?_⟩
      · obtain rfl := Option.some.inj hy
        rw [z2, z1]
      · rw [Option.map_some, z1]
    · have hvpos : 0 < _root_.Fl.val Ieee.double R := by
        refine pos_of hvR ?_ (Nat.two_pow_pos 925)
        rw [hv]
        exact Nat.mul_pos (by omega) (Nat.two_pow_pos _)
      have hm20 : m2 ≠ 0 := by
        intro h
        rw [h, Nat.zero_mul] at hv2
        omega
      cases s with
      | true =>
        have e1 : (Datum.number true m2 p2).root (Ieee.double.fractionBits + 2) = none := by
          simp only [Datum.root]; rw [if_neg hm20]; rfl
        have e2 : (Datum.number true m p).root (Ieee.single.fractionBits + 2) = none := by
          simp only [Datum.root]; rw [if_neg hm0]; rfl
        rw [e1, e2]
        exact ⟨fun y hy => (by cases hy), rfl⟩
      | false =>
        rw [word_plus] at rR
        have hR0 : R ≠ 0 := by
          intro h
          rw [h, _root_.Fl.val_zero] at hvpos
          omega
        rw [inf_double] at hR
        obtain ⟨ry, hry0, hry, hsq, hlo, hhi⟩ := sqrt_between hR hR0
        unfold Ieee.Format.sqrt at hsq
        rw [rR] at hsq
        rw [hsq]
        obtain ⟨m', p', ry2, hp', hvy⟩ := read_plus hry
        obtain ⟨r, hr1, hr2⟩ := _root_.Fl.nearest_exact Ieee.single (by decide) false m' p'
        rw [least_single] at hp hv
        have hp149 : (p - -149) = p + 149 := by omega
        rw [hp149] at hv
        rw [_root_.Fl.binade_single] at hm
        obtain ⟨E, hE⟩ : ∃ E : Nat, E = 925 := ⟨_, rfl⟩
        have hJ : (p + 149).toNat + E + 1074 = (p + 2148).toNat := by omega
        have hV : _root_.Fl.val Ieee.double R * 2 ^ 1076 = 4 * (m * 2 ^ (p + 2148).toNat) := by
          rw [hvR, hv]
          have := p_1074 (v := m) (i := (p + 149).toNat) E
          rw [hJ, hE] at this
          exact this
        rw [hV] at hlo hhi
        have hnear := near_round (J := (p + 2148).toNat) (by omega) hp hp' rfl hvy hlo hhi hr2
        obtain ⟨r', g1, g2⟩ := _root_.Fl.sqrt_number Ieee.single (by decide) m p (by omega)
        rw [g1, g2.unique hnear]
        have hnar : Fl.nar ry = Ieee.single.word false r := by
          unfold Fl.nar; rw [ry2]; exact hr1
        have hrinf : r < Ieee.single.infRung := by
          rcases Nat.lt_or_ge r Ieee.single.infRung with h | h
          · exact h
          · exfalso
            have hr : r = Ieee.single.infRung := Nat.le_antisymm hnear.le h
            have h0 : 0 < r := by rw [hr, hiw]; decide
            obtain ⟨P, hP, hPQ⟩ : ∃ P : Nat, _root_.Fl.val Ieee.single Ieee.single.infRung = P ∧ 4 * 2 ^ 149 ≤ P := ⟨_, rfl, by rw [_root_.Fl.val_inf_single]; decide +kernel⟩
            have hab : (((p + 298).toNat : Nat) : Int) - ((0 : Nat) : Int) = p - 2 * Ieee.single.leastPlace := by rw [least_single]; omega
            have h1 := (_root_.Fl.rootOf_lo Ieee.single m p hab _).1 (hnear.low h0).1
            rw [Nat.pow_zero, Nat.mul_one, hr, hP] at h1
            have h2 := _root_.Fl.val_strict Ieee.single hf
            rw [hv, hP] at h2
            have h3 : 4 * m * 2 ^ (p + 298).toNat = 4 * (m * 2 ^ (p + 149).toNat) * 2 ^ 149 := by
              rw [show (p + 298).toNat = (p + 149).toNat + 149 by omega, Nat.pow_add]
              simp only [Nat.mul_assoc]
            rw [h3] at h1
            exact inf_no (Nat.le_add_left _ _) h1 h2 hPQ
        refine ⟨fun y hy => ?_, ?_⟩
        · obtain rfl := Option.some.inj hy
          obtain ⟨m3, p3, rd3, _⟩ := _root_.Fl.read_word_fin _root_.Fl.good_single false hrinf
          have e1 : FloatKind.f64.decode ry = .number false m' p' := ry2
          have e2 : FloatKind.f32.encode (.number false m' p') = Ieee.single.word false r := hr1
          have e3 : FloatKind.f32.decode (Ieee.single.word false r) = .number false m3 p3 := rd3
          unfold floatToFloatBits
          rw [if_neg (by decide), e1]
          simp only [e2, e3]
          rw [hnar]; rfl
        · rw [Option.map_some, hnar]
  · have hinf : a % Ieee.single.signWeight = Ieee.single.infRung := by rw [hsw, hiw] at *; omega
    have ra := _root_.Fl.read_infinity _root_.Fl.good_single a hinf
    have hwid : Fl.wid a = Ieee.double.word (a / Ieee.single.signWeight % 2 == 1) Ieee.double.infRung := by
      unfold Fl.wid; rw [ra]; rfl
    have rR := _root_.Fl.read_word_inf _root_.Fl.good_double (a / Ieee.single.signWeight % 2 == 1)
    rw [hwid]
    unfold Ieee.Format.sqrt
    rw [rR, ra]
    generalize (a / Ieee.single.signWeight % 2 == 1) = s at *
    cases s with
    | true => exact ⟨fun y hy => (by cases hy), rfl⟩
    | false =>
      have e1 : ((Datum.infinity false).root (Ieee.double.fractionBits + 2)).map Ieee.double.write = some 9218868437227405312 := by decide +kernel
      have e2 : ((Datum.infinity false).root (Ieee.single.fractionBits + 2)).map Ieee.single.write = some 2139095040 := by decide +kernel
      have z1 : Fl.nar 9218868437227405312 = 2139095040 := by decide +kernel
      have z2 : floatToFloatBits .f64 9218868437227405312 .f32 = some 2139095040 := by decide +kernel
      rw [e1, e2]
      refine ⟨fun y hy => ?_, ?_⟩
      · obtain rfl := Option.some.inj hy
        rw [z2, z1]
      · rw [Option.map_some, z1]
end Go.Proofs.Ytfloeiagdegpjaa.Q
