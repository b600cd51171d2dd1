/- FloatScale, over lists and whole numbers alone: what a number is made of; times a power of 2. -/
import Derived.Test.YtfloeiagdegpjaaDoorLScale
import Derived.Test.YtfloeiagdegpjaaDoorQn
namespace Go.Proofs.YtfloeiagdegpjaaDoor.ZScale
open Go.RowKit Go.Proofs.YtfloeiagdegpjaaDoorW.PrintWords Go.Proofs.YtfloeiagdegpjaaDoor.Rf Go.Proofs.YtfloeiagdegpjaaDoor.LScale Go.Proofs.YtfloeiagdegpjaaDoor.Q
open Ieee (Format Datum)
set_option linter.unusedVariables false
set_option linter.unusedSimpArgs false

theorem rng {l : List S27} (hw : ∀ y ∈ l, ∃ p q, y = S27.mk p q ∧ (Lit.int .u64 p).wf = true ∧ (Lit.int .i64 q).wf = true) {i : Nat} (hi : i < l.length) :
    (0 ≤ (rd_T27 l (i : Int)).f0 ∧ (rd_T27 l (i : Int)).f0 < 18446744073709551616) ∧ (-9223372036854775808 ≤ (rd_T27 l (i : Int)).f1 ∧ (rd_T27 l (i : Int)).f1 < 9223372036854775808) := by
  unfold rd_T27
  rw [Int.toNat_natCast, List.getD_eq_getElem?_getD, List.getElem?_eq_getElem hi]
  obtain ⟨p, q, e, h1, h2⟩ := hw _ (List.getElem_mem hi)
  rw [Option.getD_some, e]
  exact ⟨wf_u64 h1, wf_i64 h2⟩

theorem binade_double : Ieee.double.binade = 4503599627370496 := by decide
theorem least_double : Ieee.double.leastPlace = -1074 := by decide

theorem fld_mod (b : Nat) : fld b = b % 9223372036854775808 / 4503599627370496 := by unfold fld; omega
theorem fld_fin {b : Nat} : b % 9223372036854775808 < 9218868437227405312 ↔ fld b ≠ 2047 := by rw [fld_mod]; omega

theorem read_parts {b : Nat} (hf : b % 9223372036854775808 < 9218868437227405312) : Ieee.double.read b = .number (b / 9223372036854775808 % 2 == 1) (man b) (pow0 b) := by
  have e := fld_mod b
  unfold Ieee.Format.read man pow0
  simp only []
  rw [sign_double, binade_double, inf_double, least_double]
  by_cases hc : b % 9223372036854775808 < 4503599627370496
  · have h0 : fld b = 0 := by omega
    rw [if_pos hc, if_pos h0, if_pos h0]
    congr 1; omega
  · have h0 : fld b ≠ 0 := by omega
    rw [if_neg hc, if_pos hf, if_neg h0, if_neg h0]
    congr 1 <;> omega

theorem sgn_eq {b : Nat} (h : b < 18446744073709551616) : (b / 9223372036854775808 % 2 == 1) = sgn b := by
  unfold sgn
  congr 1; omega

/-- The reference's parts are those of the pattern. -/
theorem parts_at {b : Nat} (h : b < 18446744073709551616) (hf : b % 9223372036854775808 < 9218868437227405312) :
    Ev (fun k => fathomref3_Parts.f k (b : Int) 64) (sgn b, lim (man b), pow0 b) := by
  obtain ⟨m, p, hr, _, _, _, hev⟩ := parts_ev fx64 (x := (b : Int)) (in64.2 ⟨by omega, by omega⟩) (by rw [Int.toNat_natCast, sign_double, inf_double]; exact hf)
  rw [Int.toNat_natCast] at hr hev
  rw [read_parts hf, sign_double] at hr
  injection hr with h1 h2 h3
  rw [sign_double, sgn_eq h, ← h2, ← h3] at hev
  exact hev

theorem man_zero {b : Nat} (hf : b % 9223372036854775808 < 9218868437227405312) : man b = 0 ↔ b % 9223372036854775808 = 0 := by
  have e := fld_mod b
  unfold man
  split <;> omega

theorem strip (j : Nat) (neg : Bool) (t : Nat) : ∀ (e : Int) (x : Nat), x = (2 * j + 1) * 2 ^ t → x < 18446744073709551616 → -4000 ≤ e → e + t ≤ 4000 →
    Ev (fun k => fathomref3_Split.l0 k neg e (x : Int)) (neg, ((2 * j + 1 : Nat) : Int), e + (t : Int), true) := by
  induction t with
  | zero =>
    intro e x hx hb h1 h2
    refine Ev.step (f := fun _ => some (neg, ((2 * j + 1 : Nat) : Int), e + ((0 : Nat) : Int), true)) (fun k => ?_) (Ev.now _)
    rw [Nat.pow_zero, Nat.mul_one] at hx
    have ha : Go.bits .and .u64 (x : Int) 1 = 1 := by
      rw [show (1 : Int) = ((1 : Nat) : Int) by rfl, bits_and_u64_nat _ _ hb (by decide), Nat.and_one_is_mod, hx]
      congr 1; omega
    rw [fathomref3_Split.l0, ha, if_neg (by decide), hx]
    simp
  | succ t ih =>
    intro e x hx hb h1 h2
    have hx2 : x = 2 * ((2 * j + 1) * 2 ^ t) := by rw [hx, Nat.pow_succ]; simp only [Nat.mul_assoc, Nat.mul_comm, Nat.mul_left_comm]
    have ha : Go.bits .and .u64 (x : Int) 1 = 0 := by
      rw [show (1 : Int) = ((1 : Nat) : Int) by rfl, bits_and_u64_nat _ _ hb (by decide), Nat.and_one_is_mod, hx2]
      generalize (2 * j + 1) * 2 ^ t = Q
      omega
    have hd : (x : Int) / 2 = (((2 * j + 1) * 2 ^ t : Nat) : Int) := by
      rw [hx2]
      generalize (2 * j + 1) * 2 ^ t = Q
      omega
    have hw : wrap64 (e + 1) = e + 1 := wrap64_id (by omega) (by omega)
    have key := ih (e + 1) ((2 * j + 1) * 2 ^ t) rfl (by generalize (2 * j + 1) * 2 ^ t = Q at *; omega) (by omega) (by omega)
    rw [show e + 1 + (t : Int) = e + ((t + 1 : Nat) : Int) by omega] at key
    exact Ev.step (fun k => by rw [fathomref3_Split.l0, ha, if_pos rfl, hw, hd]) key

theorem split_ev {b : Nat} (h : b < 18446744073709551616) : Ev (fun k => fathomref3_Split.f k (b : Int)) (splitOf b) := by
  have hfin := rFinite64 (x := (b : Int)) (by omega) (by omega)
  unfold splitOf
  by_cases hf : b % 9223372036854775808 < 9218868437227405312
  · rw [if_neg (fld_fin.1 hf)]
    obtain ⟨K1, H1⟩ := parts_at h hf
    have hml := man_lt b
    have hfin2 : fathomref3_Finite.f (b : Int) 64 = some true := by rw [hfin, decide_eq_true (by omega)]
    have hlow : fathomref3_Low64.f (lim (man b)) = some ((man b : Nat) : Int) := by rw [low64_eq]; congr 2; omega
    by_cases h0 : man b = 0
    · rw [if_pos h0]
      refine ⟨K1, fun k hk => ?_⟩
      dsimp only at H1 ⊢
      unfold fathomref3_Split.f
      rw [hfin2, Option.bind_some, if_pos rfl, H1 k hk, Option.bind_some]
      simp only []
      rw [hlow, Option.bind_some, if_pos (by omega)]
    · rw [if_neg h0]
      obtain ⟨j, hj1, hj2⟩ := odd_part h0
      have hp := pow0_range b
      have ht := tzs_lt h0
      obtain ⟨K2, H2⟩ := strip j (sgn b) (tzs b) (pow0 b) (man b) hj2 (by omega) (by omega) (by omega)
      refine ⟨K1 + K2, fun k hk => ?_⟩
      dsimp only at H1 H2 ⊢
      unfold fathomref3_Split.f
      rw [hfin2, Option.bind_some, if_pos rfl, H1 k (by omega), Option.bind_some]
      simp only []
      rw [hlow, Option.bind_some, if_neg (by omega), H2 k (by omega), hj1]
  · rw [if_pos (Decidable.not_not.1 (fun h' => hf (fld_fin.2 h')))]
    refine Ev.congr (f := fun _ => some (false, 0, 0, false)) (fun k => ?_) (Ev.now _)
    unfold fathomref3_Split.f
    rw [hfin, decide_eq_false (by omega), Option.bind_some, if_neg (by decide)]

/-- What Scale lays is the nearest. -/
theorem near_scaled {m : Nat} {p : Int} (hm : 0 < m) (hm2 : m < 9007199254740992) : _root_.Fl.Near Ieee.double (_root_.Fl.frac Ieee.double m 1 p Nat.one_pos) (scaled m p) := by
  have hl := Nat.log2_self_le (n := m) (by omega)
  have hu : m < 2 ^ (m.log2 + 1) := Nat.lt_log2_self
  have h52 : m.log2 ≤ 52 := by
    rcases Nat.lt_or_ge 52 m.log2 with h | h
    · exfalso
      have : 2 ^ 53 ≤ 2 ^ m.log2 := Nat.pow_le_pow_right (by decide) h
      have e : (2 : Nat) ^ 53 = 9007199254740992 := by decide
      omega
    · exact h
  unfold scaled
  by_cases hp : -1074 ≤ p
  · rw [if_pos hp]
    unfold ldx
    obtain ⟨t, ht⟩ : ∃ t, t = m.log2 := ⟨_, rfl⟩
    rw [← ht] at hl hu h52 ⊢
    obtain ⟨a, ha⟩ : ∃ a : Nat, (a : Int) = p + 1074 := ⟨(p + 1074).toNat, by omega⟩
    obtain ⟨k, hk⟩ : ∃ k, k = m * 2 ^ (52 - t) := ⟨_, rfl⟩
    have e52 : (2 : Nat) ^ 52 = 4503599627370496 := by decide
    have e53 : (2 : Nat) ^ 53 = 9007199254740992 := by decide
    have k0 : 4503599627370496 ≤ k := by
      have h3 : 2 ^ t * 2 ^ (52 - t) ≤ m * 2 ^ (52 - t) := Nat.mul_le_mul_right _ hl
      rw [← Nat.pow_add, show t + (52 - t) = 52 by omega, ← hk] at h3
      omega
    have k1 : k < 9007199254740992 := by
      have h3 : m * 2 ^ (52 - t) < 2 ^ (t + 1) * 2 ^ (52 - t) := Nat.mul_lt_mul_of_pos_right hu (Nat.two_pow_pos _)
      rw [← Nat.pow_add, show t + 1 + (52 - t) = 53 by omega, ← hk] at h3
      omega
    by_cases h2 : (t : Int) + p < -1022
    · rw [if_neg (by omega), if_pos h2, show (p + 1074).toNat = a by omega]
      have hlt : m * 2 ^ a < 4503599627370496 := by
        have h3 : m * 2 ^ a < 2 ^ (t + 1) * 2 ^ a := Nat.mul_lt_mul_of_pos_right hu (Nat.two_pow_pos _)
        rw [← Nat.pow_add] at h3
        have h4 : 2 ^ (t + 1 + a) ≤ 2 ^ 52 := Nat.pow_le_pow_right (by decide) (by omega)
        omega
      have key := _root_.Fl.near_whole (f := Ieee.double) (by decide) (M := m) (a := a) (T := 0) (k := m * 2 ^ a) (p := p) (by rw [least_double]; omega) (by rw [Nat.pow_zero, Nat.mul_one]) (by rw [binade_double]; omega) (.inl rfl)
      rw [Nat.zero_mul, Nat.zero_add, Nat.min_eq_left (by rw [inf_double]; omega)] at key
      exact key
    · obtain ⟨T, hT⟩ : ∃ T : Nat, (T : Int) = (t : Int) + p + 1022 := ⟨((t : Int) + p + 1022).toNat, by omega⟩
      have hMk : m * 2 ^ a = k * 2 ^ T := by
        rw [hk, Nat.mul_assoc, ← Nat.pow_add, show 52 - t + T = a by omega]
      have key := _root_.Fl.near_whole (f := Ieee.double) (by decide) (M := m) (a := a) (T := T) (k := k) (p := p) (by rw [least_double]; omega) hMk (by rw [binade_double]; omega) (.inr (by rw [binade_double]; exact k0))
      rw [inf_double, binade_double] at key
      by_cases h1 : 1023 < (t : Int) + p
      · rw [if_pos h1]
        rw [Nat.min_eq_right (by omega)] at key
        exact key
      · rw [if_neg h1, if_neg h2, show ((t : Int) + p + 1022).toNat = T by omega, ← hk]
        rw [Nat.min_eq_left (by omega)] at key
        exact key
  · rw [if_neg hp]
    exact _root_.Fl.near_rne hm2 (by omega) (by omega)

theorem near_odd {m k : Nat} {p : Int} (hm : 0 < m) (hm2 : m < 9007199254740992) : _root_.Fl.Near Ieee.double (_root_.Fl.frac Ieee.double (m * 2 ^ k) 1 p Nat.one_pos) (scaled m (p + (k : Int))) := by
  refine (near_scaled hm hm2).congr (fun a => ?_) (fun a => ?_)
  · have := (_root_.Fl.frac_scale Ieee.double m 1 k 0 (p + (k : Int)) p Nat.one_pos (by omega) a).1
    exact this.symm
  · have := (_root_.Fl.frac_scale Ieee.double m 1 k 0 (p + (k : Int)) p Nat.one_pos (by omega) a).2
    exact this.symm

theorem word_eq (s : Bool) (r : Nat) : Ieee.double.word s r = (if s then 9223372036854775808 else 0) + r := by
  unfold Ieee.Format.word
  rw [sign_double]
  cases s <;> simp

/-- The nearest float of a pattern's number times a power of 2. -/
theorem nearest_scaled {b : Nat} (h0 : man b ≠ 0) (c : Int) : Ieee.double.nearest (sgn b) (man b) (pow0 b + c) = (if sgn b then 9223372036854775808 else 0) + scaled (man b / 2 ^ tzs b) (c + (pow0 b + (tzs b : Int))) := by
  obtain ⟨r, h1, h2⟩ := _root_.Fl.nearest_exact Ieee.double (by decide) (sgn b) (man b) (pow0 b + c)
  obtain ⟨j, hj1, hj2⟩ := odd_part h0
  have hml := man_lt b
  have hm1 : man b / 2 ^ tzs b < 9007199254740992 := Nat.lt_of_le_of_lt (Nat.div_le_self _ _) hml
  have key := near_odd (k := tzs b) (p := pow0 b + c) (m := man b / 2 ^ tzs b) (by omega) hm1
  have e : man b / 2 ^ tzs b * 2 ^ tzs b = man b := by rw [hj1]; exact hj2.symm
  have e2 : pow0 b + c + (tzs b : Int) = c + (pow0 b + (tzs b : Int)) := by omega
  rw [e, e2] at key
  rw [h1, word_eq, h2.unique key]

theorem scale_ev {b : Nat} (h : b < 18446744073709551616) (n : Int) : Ev (fun k => fathomref3_Scale.f k (b : Int) n) (scaleOf b n) := by
  have hfin := rFinite64 (x := (b : Int)) (by omega) (by omega)
  have hnan := rIsNan64 (x := (b : Int)) (by omega) (by omega)
  have hzero := rIsZero64 (x := (b : Int)) (by omega) (by omega)
  have hrn := _root_.Fl.read_nan _root_.Fl.good_double b
  rw [sign_double, inf_double] at hrn
  have htold := Fl.tld64_nan (r := b)
  unfold scaleOf
  by_cases hN : 9218868437227405312 < b % 9223372036854775808
  · rw [if_pos (.inl (by rw [fld_mod]; omega)), htold, hrn, decide_eq_true hN, cond_true]
    refine Ev.congr (f := fun _ => some Fl.one64) (fun k => ?_) (Ev.now _)
    unfold fathomref3_Scale.f
    rw [hnan, decide_eq_true (by omega), Option.bind_some, if_pos rfl]
    rfl
  · have hnan2 : fathomref3_IsNan.f (b : Int) 64 = some false := by rw [hnan, decide_eq_false (by omega)]
    have hsame : Fl.tld64 b = (b : Int) := by rw [htold, hrn, decide_eq_false hN, cond_false]
    by_cases hf : b % 9223372036854775808 < 9218868437227405312
    · have hfin2 : fathomref3_Finite.f (b : Int) 64 = some true := by rw [hfin, decide_eq_true (by omega)]
      by_cases h0 : man b = 0
      · rw [if_pos (.inr h0), hsame]
        have hz2 : fathomref3_IsZero.f (b : Int) 64 = some true := by rw [hzero, decide_eq_true (by have := (man_zero hf).1 h0; omega)]
        refine Ev.congr (f := fun k => fathomref3_Scale.j0 k (b : Int) n true) (fun k => ?_) (Ev.step (f := fun _ => some (b : Int)) (fun k => by rw [fathomref3_Scale.j0, if_pos rfl]) (Ev.now _))
        unfold fathomref3_Scale.f
        rw [hnan2, Option.bind_some, if_neg (by decide), hfin2, Option.bind_some, if_pos rfl, hz2, Option.bind_some]
      · have hfl := fld_fin.1 hf
        rw [if_neg (by omega)]
        have hz2 : fathomref3_IsZero.f (b : Int) 64 = some false := by rw [hzero, decide_eq_false (by have := mt (man_zero hf).2 h0; omega)]
        obtain ⟨c, hc⟩ : ∃ c, Dw.clamp n = c := ⟨_, rfl⟩
        have hc2 : -10000 ≤ c ∧ c ≤ 10000 := by
          rw [← hc]; unfold Dw.clamp
          split <;> (try split) <;> omega
        rw [hc, ← nearest_scaled h0 c]
        have hp := pow0_range b
        obtain ⟨K1, H1⟩ := parts_at h hf
        obtain ⟨K2, H2⟩ := of_ev (a := 1) (by decide) (by decide)
        have hml := man_lt b
        obtain ⟨K3, H3⟩ := write_ev fw64 (sgn b) (m := man b) (by
          have : bl (man b) ≤ (53 : Nat) := bl_iff.2 (by rw [show (2 : Nat) ^ 53 = 9007199254740992 by decide]; exact hml)
          omega) (pow0 b + c) (by omega)
        have H2' : ∀ k, K2 ≤ k → fathomref3_Of.f k 1 = some (lim 1) := H2
        have hw : wrap64 (pow0 b + c) = pow0 b + c := wrap64_id (by omega) (by omega)
        have tail : ∀ x, (x < -10000 ∧ c = -10000 ∨ ¬ x < -10000 ∧ c = x) → Ev (fun k => fathomref3_Scale.j1 k (b : Int) x) ((Ieee.double.nearest (sgn b) (man b) (pow0 b + c) : Nat) : Int) := fun x hx => by
          refine ⟨K1 + K2 + K3 + 1, fun k hk => ?_⟩
          obtain ⟨k, rfl⟩ : ∃ m, k = m + 1 := ⟨k - 1, by omega⟩
          dsimp only at H1 H3 ⊢
          rw [fathomref3_Scale.j1]
          rcases hx with ⟨hx, hcx⟩ | ⟨hx, hcx⟩
          · rw [if_pos hx, H1 k (by omega), Option.bind_some]
            simp only []
            rw [H2' k (by omega), Option.bind_some, ← hcx, hw, H3 k (by omega), Option.bind_some]
          · rw [if_neg hx, H1 k (by omega), Option.bind_some]
            simp only []
            rw [H2' k (by omega), Option.bind_some, ← hcx, hw, H3 k (by omega), Option.bind_some]
        have mid : Ev (fun k => fathomref3_Scale.j0 k (b : Int) n false) ((Ieee.double.nearest (sgn b) (man b) (pow0 b + c) : Nat) : Int) := by
          by_cases h1 : n > 10000
          · refine Ev.step (fun k => by rw [fathomref3_Scale.j0, if_neg (by decide), if_pos h1]) (tail 10000 (.inr ⟨by omega, ?_⟩))
            rw [← hc]; unfold Dw.clamp; split <;> (try split) <;> omega
          · refine Ev.step (fun k => by rw [fathomref3_Scale.j0, if_neg (by decide), if_neg h1]) (tail n ?_)
            by_cases h2 : n < -10000
            · refine .inl ⟨h2, ?_⟩
              rw [← hc]; unfold Dw.clamp; rw [if_pos h2]
            · refine .inr ⟨h2, ?_⟩
              rw [← hc]; unfold Dw.clamp; rw [if_neg h2, if_neg (by omega)]
        refine Ev.congr (fun k => ?_) mid
        unfold fathomref3_Scale.f
        rw [hnan2, Option.bind_some, if_neg (by decide), hfin2, Option.bind_some, if_pos rfl, hz2, Option.bind_some]
    · have hfl : fld b = 2047 := Decidable.not_not.1 (fun h' => hf (fld_fin.2 h'))
      have hfin2 : fathomref3_Finite.f (b : Int) 64 = some false := by rw [hfin, decide_eq_false (by omega)]
      rw [if_pos (.inl hfl), hsame]
      refine Ev.congr (f := fun k => fathomref3_Scale.j0 k (b : Int) n true) (fun k => ?_) (Ev.step (f := fun _ => some (b : Int)) (fun k => by rw [fathomref3_Scale.j0, if_pos rfl]) (Ev.now _))
      unfold fathomref3_Scale.f
      rw [hnan2, Option.bind_some, if_neg (by decide), hfin2, Option.bind_some, if_neg (by decide)]

theorem FloatScale (l : List S27) (hm : l.length ≤ maxLen) (hw : ∀ y ∈ l, ∃ p q, y = S27.mk p q ∧ (Lit.int .u64 p).wf = true ∧ (Lit.int .i64 q).wf = true) : ∃ k, fathomlaw3_FloatScale.f k l = some true := by
  refine rounds_of (g := fun k i => fathomlaw3_FloatScale.l0 k l (i : Int)) (n := l.length) (fun i h => ?_) (fun i hi h2 ih => ?_)
  · refine Ev.step (f := fun k => fathomlaw3_FloatScale.j1 k l i false) (fun k => ?_) ?_
    · simp only [fathomlaw3_FloatScale.l0]
      by_cases hi : i < l.length
      · rw [if_pos (by omega), decide_eq_false (by omega)]
      · rw [if_neg (by omega)]
    · exact Ev.step (f := fun _ => some true) (fun k => by simp [fathomlaw3_FloatScale.j1, fathomlaw3_wakes.f]) (Ev.now true)
  · obtain ⟨⟨a0, a1⟩, ⟨n0, n1⟩⟩ := rng hw hi
    have hwr := wrap_next hi hm
    refine Ev.step (f := fun k => fathomlaw3_FloatScale.j1 k l i true) (fun k => by simp only [fathomlaw3_FloatScale.l0]; rw [if_pos (by omega), decide_eq_true (by omega)]) ?_
    obtain ⟨b, eb⟩ : ∃ b : Nat, (rd_T27 l (i : Int)).f0 = (b : Int) := ⟨(rd_T27 l (i : Int)).f0.toNat, by omega⟩
    obtain ⟨n, en⟩ : ∃ n, n = (rd_T27 l (i : Int)).f1 := ⟨_, rfl⟩
    rw [eb] at a0 a1
    have hb : b < 18446744073709551616 := by omega
    have hin : In64 (b : Int) := ⟨a0, a1⟩
    have hsplit : float_Split.f (b : Int) = some (splitOf b) := by unfold float_Split.f; rw [if_pos hin, Int.toNat_natCast]
    have hscale : float_Scale.f (b : Int) n = some (scaleOf b n) := by unfold float_Scale.f; rw [if_pos hin, Int.toNat_natCast]
    obtain ⟨K0, H0⟩ := ih
    obtain ⟨K1, H1⟩ := split_ev hb
    obtain ⟨K2, H2⟩ := scale_ev hb n
    refine ⟨K0 + K1 + K2 + 1, fun k hk => ?_⟩
    obtain ⟨k, rfl⟩ : ∃ m, k = m + 1 := ⟨k - 1, by omega⟩
    dsimp only at H0 H1 H2 ⊢
    rw [fathomlaw3_FloatScale.j1, if_pos rfl, if_pos (by omega), if_pos (by omega), eb, ← en, hsplit, Option.bind_some, H1 k (by omega), Option.bind_some, bne_self_eq_false, if_neg (by decide), if_pos rfl, if_pos rfl, bne_self_eq_false, if_neg (by decide), hscale, Option.bind_some, H2 k (by omega), Option.bind_some, if_pos rfl, hwr]
    exact H0 k (by omega)
end Go.Proofs.YtfloeiagdegpjaaDoor.ZScale
