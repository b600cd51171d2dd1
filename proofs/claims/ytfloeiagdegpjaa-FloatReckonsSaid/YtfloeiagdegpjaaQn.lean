/- The reference's rounding is what the model reckons. No program runs here. -/
import Derived.Test.YtfloeiagdegpjaaQm
import Derived.Test.YtfloeiagdegpjaaR5
namespace Go.Proofs.Ytfloeiagdegpjaa.Q
section
open Go.RowKit Go.Proofs.YtfloeiagdegpjaaW.PrintWords Go.Proofs.Ytfloeiagdegpjaa.Rf
open Ieee (Format Toward)
set_option linter.unusedVariables false
set_option linter.unusedSimpArgs false

/-- A width's format. -/
structure Fw (f : Format) (w : Int) : Prop where
  good : _root_.Fl.Good f
  dig : fathomref3_digits.f w = some ((f.fractionBits + 1 : Nat) : Int)
  least : fathomref3_least.f w = some f.leastPlace
  inf : fathomref3_Inf.f w = some (f.infRung : Int)
  signed : ∀ neg r, r ≤ f.infRung → fathomref3_signed.f neg (r : Int) w = some (f.word neg r : Int)
  fb : f.fractionBits ≤ 52
  lp : -1074 ≤ f.leastPlace ∧ f.leastPlace ≤ -149
  infle : f.infRung ≤ 2047 * f.binade

theorem fw64 : Fw Ieee.double 64 where
  good := _root_.Fl.good_double
  dig := digits_64
  least := by decide +kernel
  inf := inf_64
  signed := by
    intro neg r hr
    rw [inf_double] at hr
    unfold fathomref3_signed.f Ieee.Format.word
    rw [sign_64, sign_double, Option.bind_some]
    cases neg with
    | true => rw [if_pos rfl, if_pos rfl, or_sign64 (by omega) (by omega)]; congr 1; omega
    | false => rw [if_neg (by decide), if_neg (by decide)]
  fb := by decide
  lp := by decide
  infle := by decide

theorem inf_single : Ieee.single.infRung = 2139095040 := by decide
theorem sign_single : Ieee.single.signWeight = 2147483648 := by decide
theorem least_single : Ieee.single.leastPlace = -149 := by decide

theorem fw32 : Fw Ieee.single 32 where
  good := _root_.Fl.good_single
  dig := digits_32
  least := by decide +kernel
  inf := inf_32
  signed := by
    intro neg r hr
    rw [inf_single] at hr
    unfold fathomref3_signed.f Ieee.Format.word
    rw [sign_32, sign_single, Option.bind_some]
    cases neg with
    | true => rw [if_pos rfl, if_pos rfl, or64_32 (by omega) (by omega)]; congr 1; omega
    | false => rw [if_neg (by decide), if_neg (by decide)]
  fb := by decide
  lp := by decide
  infle := by decide

variable {f : Format} {w : Int}

theorem binade_le (h : Fw f w) : f.binade ≤ 4503599627370496 := by
  have : (2 : Nat) ^ f.fractionBits ≤ 2 ^ 52 := Nat.pow_le_pow_right (by omega) h.fb
  exact this

theorem wrap64_sub2 {x y : Int} (hx : -4000000000000 < x ∧ x < 4000000000000) (hy : -4000000000000 < y ∧ y < 4000000000000) : wrap64 (wrap64 x - y) = x - y := by
  rw [wrap64_id (z := x) (by omega) (by omega), wrap64_id (by omega) (by omega)]
theorem wrap64_add2 {x y : Int} (hx : -4000000000000 < x ∧ x < 4000000000000) (hy : -4000000000000 < y ∧ y < 4000000000000) : wrap64 (wrap64 x + y) = x + y := by
  rw [wrap64_id (z := x) (by omega) (by omega), wrap64_id (by omega) (by omega)]

/-! laid -/
theorem laid_ev (h : Fw f w) (neg : Bool) {T k : Nat} (hk : k ≤ 2 * f.binade) (hT : T = 0 ∨ f.binade ≤ k) (hT2 : T ≤ 3100) :
    Ev (fun n => fathomref3_laid.f n neg (k : Int) (f.leastPlace + T) w) (f.word neg (min (T * f.binade + k) f.infRung) : Nat) := by
  have hB := binade_le h
  have hB0 := _root_.Fl.binade_pos f
  have hB2 : f.binade = 2 ^ f.fractionBits := rfl
  have hfb := h.fb
  have hlp := h.lp
  have hTB : T * f.binade ≤ 3100 * 4503599627370496 := Nat.mul_le_mul hT2 hB
  -- what j1 does
  have j1 : ∀ r : Nat, Ev (fun n => fathomref3_laid.j1 n neg w (r : Int)) (f.word neg (min r f.infRung) : Nat) := by
    intro r
    by_cases hr : f.infRung ≤ r
    · refine Ev.step (f := fun _ => some (f.word neg (min r f.infRung) : Int)) (fun n => ?_) (Ev.now _)
      rw [fathomref3_laid.j1, h.inf, Option.bind_some, if_pos (Int.ofNat_le.2 hr), Option.bind_some, h.signed neg _ (Nat.le_refl _), Option.bind_some, Nat.min_eq_right hr]
    · refine Ev.step (f := fun _ => some (f.word neg (min r f.infRung) : Int)) (fun n => ?_) (Ev.now _)
      rw [fathomref3_laid.j1, h.inf, Option.bind_some, if_neg (fun h' => hr (Int.ofNat_le.1 h')), h.signed neg r (Nat.le_of_not_le hr), Option.bind_some, Nat.min_eq_left (Nat.le_of_not_le hr)]
  -- what j0 does
  have j0 : ∀ T k : Nat, k < 2 * f.binade → (T = 0 ∨ f.binade ≤ k) → T ≤ 3101 → Ev (fun n => fathomref3_laid.j0 n neg (k : Int) (f.leastPlace + T) w (f.fractionBits : Int)) (f.word neg (min (T * f.binade + k) f.infRung) : Nat) := by
    intro T k hk hT hT2
    have hTB : T * f.binade ≤ 3101 * 4503599627370496 := Nat.mul_le_mul hT2 hB
    have hsh : shr .u64 (k : Int) (f.fractionBits : Int) = ((k / f.binade : Nat) : Int) := shr_nat (by omega)
    by_cases hc : f.binade ≤ k
    · have hq : k / f.binade = 1 := by
        rw [Nat.div_eq_iff hB0]; omega
      refine Ev.step (fun n => ?_) (j1 (T * f.binade + k))
      have hw : wrap64 (f.leastPlace + (T : Int) - f.leastPlace) = (T : Int) := by rw [show f.leastPlace + (T : Int) - f.leastPlace = (T : Int) by omega]; exact wrap64_nat (by omega)
      rw [fathomref3_laid.j0, if_pos (Int.natCast_nonneg _), hsh, hq, if_pos (show ((1 : Nat) : Int) = 1 from rfl), h.least, Option.bind_some, hw, wrapu_nat (n := T) (by omega), shl_nat (by omega) (by rw [← hB2]; omega), ← hB2, ← Int.natCast_add, wrapu_nat (by omega)]
    · have hq : k / f.binade = 0 := Nat.div_eq_of_lt (by omega)
      have hT0 : T = 0 := by omega
      have := j1 k
      rw [hT0, Nat.zero_mul, Nat.zero_add]
      refine Ev.step (fun n => ?_) this
      rw [fathomref3_laid.j0, if_pos (Int.natCast_nonneg _), hsh, hq, if_neg (by decide)]
  have hw1 : IntKind.u64.wrap (wrap64 (((f.fractionBits + 1 : Nat) : Int) - 1)) = (f.fractionBits : Int) := by
    rw [show ((f.fractionBits + 1 : Nat) : Int) - 1 = (f.fractionBits : Int) by omega, wrap64_nat (by omega), wrapu_nat (by omega)]
  have hsh : shr .u64 (k : Int) (f.fractionBits : Int) = ((k / f.binade : Nat) : Int) := shr_nat (by omega)
  by_cases hc : k = 2 * f.binade
  · have hq : k / f.binade = 2 := by rw [hc]; exact Nat.mul_div_cancel _ hB0
    have hk2 : (k : Int) / 2 = (f.binade : Int) := by omega
    have hw2 : wrap64 (f.leastPlace + (T : Int) + 1) = f.leastPlace + ((T + 1 : Nat) : Int) := by rw [wrap64_id (by omega) (by omega)]; omega
    have hj := j0 (T + 1) f.binade (by omega) (Or.inr (Nat.le_refl _)) (by omega)
    have he : (T + 1) * f.binade + f.binade = T * f.binade + k := by rw [Nat.add_mul, Nat.one_mul, hc]; omega
    rw [he] at hj
    refine Ev.congr (fun n => ?_) hj
    unfold fathomref3_laid.f
    rw [h.dig, Option.bind_some, hw1, if_pos (Int.natCast_nonneg _), hsh, hq, if_pos (by decide), hk2, hw2]
  · have hq : k / f.binade ≤ 1 := by
      have : k / f.binade < 2 := (Nat.div_lt_iff_lt_mul hB0).2 (by omega)
      omega
    refine Ev.congr (fun n => ?_) (j0 T k (by omega) hT (by omega))
    unfold fathomref3_laid.f
    rw [h.dig, Option.bind_some, hw1, if_pos (Int.natCast_nonneg _), hsh, if_neg (by omega)]

/-! rounded -/
theorem cut_unique {G c k M : Nat} (hG : 0 < G)
    (hc : ((0 < c → (2 * c - 1) * G ≤ 2 * M ∧ ((2 * c - 1) * G = 2 * M → c % 2 = 0)) ∧ (2 * M ≤ (2 * c + 1) * G ∧ (2 * M = (2 * c + 1) * G → c % 2 = 0))))
    (hk : ((0 < k → (2 * k - 1) * G ≤ 2 * M ∧ ((2 * k - 1) * G = 2 * M → k % 2 = 0)) ∧ (2 * M ≤ (2 * k + 1) * G ∧ (2 * M = (2 * k + 1) * G → k % 2 = 0)))) : c = k := by
  have key : ∀ {c k : Nat}, ((0 < c → (2 * c - 1) * G ≤ 2 * M ∧ ((2 * c - 1) * G = 2 * M → c % 2 = 0)) ∧ (2 * M ≤ (2 * c + 1) * G ∧ (2 * M = (2 * c + 1) * G → c % 2 = 0))) →
      ((0 < k → (2 * k - 1) * G ≤ 2 * M ∧ ((2 * k - 1) * G = 2 * M → k % 2 = 0)) ∧ (2 * M ≤ (2 * k + 1) * G ∧ (2 * M = (2 * k + 1) * G → k % 2 = 0))) → ¬ c < k := by
    intro c k hc hk hlt
    obtain ⟨k1, k2⟩ := hk.1 (by omega)
    obtain ⟨c1, c2⟩ := hc.2
    have h1 : (2 * k - 1) * G ≤ (2 * c + 1) * G := Nat.le_trans k1 c1
    have h2 : 2 * k - 1 ≤ 2 * c + 1 := Nat.le_of_mul_le_mul_right h1 hG
    have h3 : 2 * k - 1 = 2 * c + 1 := by omega
    rw [h3] at k1 k2
    have h4 : (2 * c + 1) * G = 2 * M := Nat.le_antisymm k1 c1
    have := k2 h4
    have := c2 h4.symm
    omega
  have h1 := key hc hk
  have h2 := key hk hc
  omega

/-- What is kept of 2N + s, two digits and more dropped. -/
theorem kept_eq (neg : Bool) (N D : Nat) (s : Bool) (hD : 1 ≤ D) :
    Toward.even.cut neg (2 * N + s.toNat) (D + 1) =
      N / 2 ^ (D - 1) / 2 + (if N / 2 ^ (D - 1) % 2 = 1 ∧ ((s = true ∨ N % 2 ^ (D - 1) ≠ 0) ∨ N / 2 ^ (D - 1) / 2 % 2 = 1) then 1 else 0) := by
  refine cut_unique (Nat.two_pow_pos (D + 1)) (_root_.Fl.cut_even neg _ _) ?_
  have hg := Nat.two_pow_pos (D - 1)
  have e : 2 ^ (D + 1) = 4 * 2 ^ (D - 1) := by
    rw [show D + 1 = 2 + (D - 1) by omega, Nat.pow_add]
  rw [e]
  have hdm := Nat.div_add_mod N (2 ^ (D - 1))
  have hlt := Nat.mod_lt N hg
  generalize N / 2 ^ (D - 1) = v at *
  generalize N % 2 ^ (D - 1) = m at *
  generalize 2 ^ (D - 1) = g at *
  have hs : s.toNat ≤ 1 := by cases s <;> decide
  have hst : s.toNat = 0 ↔ ¬ s = true := by cases s <;> decide
  obtain ⟨q, b, hq, hb⟩ : ∃ q b, v = 2 * q + b ∧ b < 2 := ⟨v / 2, v % 2, by omega, by omega⟩
  have hv2 : v / 2 = q := by omega
  have hvm : v % 2 = b := by omega
  rw [hv2, hvm]
  have hN : 2 * (2 * N + s.toNat) = 2 * (4 * (g * q)) + 4 * (g * b) + (4 * m + 2 * s.toNat) := by
    have e1 : g * (2 * q + b) = 2 * (g * q) + g * b := by rw [Nat.mul_add, Nat.mul_left_comm g 2]
    rw [← hdm, hq, e1]
    omega
  have hrest : 4 * m + 2 * s.toNat < 4 * g := by omega
  rw [hN]
  have l1 : ∀ q : Nat, (2 * q + 1) * (4 * g) = 2 * (4 * (g * q)) + 4 * g := fun q => by
    rw [Nat.add_mul, Nat.one_mul, Nat.mul_assoc, Nat.mul_left_comm q 4 g, Nat.mul_comm q g]
  have l2 : ∀ q : Nat, 0 < q → (2 * q - 1) * (4 * g) + 4 * g = 2 * (4 * (g * q)) := fun q h0 => by
    obtain ⟨p, rfl⟩ : ∃ p, q = p + 1 := ⟨q - 1, by omega⟩
    rw [show 2 * (p + 1) - 1 = 2 * p + 1 by omega, l1, Nat.mul_add, Nat.mul_one]; omega
  have l3 : g * (q + 1) = g * q + g := by rw [Nat.mul_add, Nat.mul_one]
  by_cases hb1 : b = 1
  · rw [hb1, Nat.mul_one]
    by_cases hr : s = true ∨ m ≠ 0
    · rw [if_pos ⟨rfl, Or.inl hr⟩]
      have hpos : 0 < 4 * m + 2 * s.toNat := by
        rcases hr with h | h
        · have : s.toNat = 1 := by rw [h]; rfl
          omega
        · omega
      have a1 := l2 (q + 1) (by omega)
      have a2 := l1 (q + 1)
      rw [l3] at a1 a2
      refine ⟨fun _ => ⟨?_, ?_⟩, ?_, ?_⟩
      all_goals (generalize g * q = Q at *; generalize (2 * (q + 1) - 1) * (4 * g) = P1 at *; generalize (2 * (q + 1) + 1) * (4 * g) = P2 at *; omega)
    · have hz : 4 * m + 2 * s.toNat = 0 := by
        have h1 : ¬ s = true := fun h => hr (Or.inl h)
        have h2 : m = 0 := by
          rcases Nat.eq_zero_or_pos m with h | h
          · exact h
          · exact absurd (Or.inr (by omega)) hr
        have := hst.2 h1
        omega
      by_cases ho : q % 2 = 1
      · rw [if_pos ⟨rfl, Or.inr ho⟩]
        have a1 := l2 (q + 1) (by omega)
        have a2 := l1 (q + 1)
        rw [l3] at a1 a2
        refine ⟨fun _ => ⟨?_, fun _ => by omega⟩, ?_, fun _ => by omega⟩
        all_goals (generalize g * q = Q at *; generalize (2 * (q + 1) - 1) * (4 * g) = P1 at *; generalize (2 * (q + 1) + 1) * (4 * g) = P2 at *; omega)
      · rw [if_neg (fun h => by rcases h.2 with h | h; exact hr h; exact ho h), Nat.add_zero]
        have a2 := l1 q
        refine ⟨fun h0 => ⟨?_, fun _ => by omega⟩, ?_, fun _ => by omega⟩
        · have a1 := l2 q h0
          generalize g * q = Q at *; generalize (2 * q - 1) * (4 * g) = P1 at *; generalize (2 * q + 1) * (4 * g) = P2 at *; omega
        · generalize g * q = Q at *; generalize (2 * q + 1) * (4 * g) = P2 at *; omega
  · have hb0 : b = 0 := by omega
    rw [if_neg (fun h => hb1 h.1), hb0, Nat.mul_zero, Nat.mul_zero, Nat.add_zero, Nat.add_zero]
    have a2 := l1 q
    refine ⟨fun h0 => ?_, ?_⟩
    · have a1 := l2 q h0
      generalize g * q = Q at *; generalize (2 * q - 1) * (4 * g) = P1 at *; generalize (2 * q + 1) * (4 * g) = P2 at *; omega
    · generalize g * q = Q at *; generalize (2 * q + 1) * (4 * g) = P2 at *; omega

theorem log2_of {N k : Nat} (hN : 0 < N) (h : N.log2 = k) : 2 ^ k ≤ N ∧ N < 2 ^ (k + 1) := by
  rw [← h]; exact ⟨Nat.log2_self_le (by omega), Nat.lt_log2_self⟩

theorem log2_sticky {N : Nat} (hN : 0 < N) (s : Bool) : (2 * N + s.toNat).log2 = N.log2 + 1 := by
  have hs : s.toNat ≤ 1 := by cases s <;> decide
  obtain ⟨h1, h2⟩ := log2_of hN rfl
  refine (Nat.log2_eq_iff (by omega)).2 ⟨?_, ?_⟩
  · rw [Nat.pow_succ]; omega
  · rw [Nat.pow_succ _ (N.log2 + 1)]; omega

/-- rounded, where at least one digit is dropped: the word nearest to (N + what is left) * 2 ^ e. -/
theorem rounded_ev (h : Fw f w) (neg : Bool) {N : Nat} (hN : 0 < N) (hl : (lim N).length < 16777216) (e : Int) (he : -1000000000 < e ∧ e < 1000000000) (s : Bool)
    (hp : e < max (e + N.log2 - f.fractionBits) f.leastPlace) :
    Ev (fun n => fathomref3_rounded.f n neg (lim N) e s w) (f.nearest neg (2 * N + s.toNat) (e - 1) : Nat) := by
  have hB := binade_le h
  have hB0 := _root_.Fl.binade_pos f
  have hB2 : f.binade = 2 ^ f.fractionBits := rfl
  have hfb := h.fb
  have hlp := h.lp
  have hlog : N.log2 < 32 * 16777216 := by
    have h1 := bl_len hl
    rw [bl_pos hN] at h1; omega
  have hs : s.toNat ≤ 1 := by cases s <;> decide
  have hbl : bl N = (N.log2 : Int) + 1 := bl_pos hN
  obtain ⟨p, hpd⟩ : ∃ p, p = max (e + N.log2 - f.fractionBits) f.leastPlace := ⟨_, rfl⟩
  rw [← hpd] at hp
  have hp1 : e + N.log2 - f.fractionBits ≤ p := by omega
  have hp2 : f.leastPlace ≤ p := by omega
  have hp3 : p = f.leastPlace ∨ p = e + N.log2 - f.fractionBits := by omega
  obtain ⟨T, hT⟩ : ∃ T : Nat, p = f.leastPlace + T := ⟨(p - f.leastPlace).toNat, by omega⟩
  obtain ⟨D, hD, hD1⟩ : ∃ D : Nat, (D : Int) = p - e ∧ 1 ≤ D := ⟨(p - e).toNat, by omega, by omega⟩
  obtain ⟨k, hkd⟩ : ∃ k, k = Toward.even.cut neg (2 * N + s.toNat) (D + 1) := ⟨_, rfl⟩
  -- the word that is asked for
  have hword : f.nearest neg (2 * N + s.toNat) (e - 1) = f.word neg (min (T * f.binade + k) f.infRung) := by
    unfold Ieee.Format.nearest
    rw [if_neg (by omega)]
    simp only []
    rw [log2_sticky hN s]
    have e1 : max (e - 1 + ((N.log2 + 1 : Nat) : Int) - (f.fractionBits : Int)) f.leastPlace = p := by rw [hpd]; congr 1; omega
    rw [e1]
    have e2 : (e - 1 - p).toNat = 0 := by omega
    have e3 : (p - (e - 1)).toNat = D + 1 := by omega
    have e4 : (p - f.leastPlace).toNat = T := by omega
    rw [e2, e3, e4, Nat.shiftLeft_zero, hkd]
  rw [hword]
  -- the place that is found
  have hw1 : wrap64 (wrap64 (bl N + e) - ((f.fractionBits + 1 : Nat) : Int)) = e + N.log2 - f.fractionBits := by
    rw [hbl, wrap64_sub2 (by omega) (by omega)]; omega
  have start : ∀ r : Int, Ev (fun n => fathomref3_rounded.j0 n neg (lim N) e s w p) r → Ev (fun n => fathomref3_rounded.f n neg (lim N) e s w) r := by
    intro r hj
    obtain ⟨K1, H1⟩ := len_ev (n := N) (by omega)
    obtain ⟨K2, H2⟩ := hj
    refine ⟨K1 + K2, fun n hn => ?_⟩
    have q1 : K1 ≤ n := by clear hword hkd; omega
    have q2 : K2 ≤ n := by clear hword hkd; omega
    dsimp only at H1 H2 ⊢
    unfold fathomref3_rounded.f
    rw [H1 _ q1, Option.bind_some, h.dig, Option.bind_some, h.least, Option.bind_some, hw1]
    by_cases hc : e + N.log2 - f.fractionBits < f.leastPlace
    · rw [if_pos hc, Option.bind_some, ← H2 _ q2]
      congr 1; clear hword hkd; omega
    · rw [if_neg hc, ← H2 _ q2]
      congr 1; clear hword hkd; omega
  refine start _ ?_
  by_cases hbig : p > 2000
  · have hinf : min (T * f.binade + k) f.infRung = f.infRung := by
      refine Nat.min_eq_right (Nat.le_trans h.infle (Nat.le_trans (Nat.mul_le_mul_right _ ?_) (Nat.le_add_right _ _)))
      clear hword hkd; omega
    rw [hinf]
    refine Ev.step (f := fun _ => some (f.word neg f.infRung : Int)) (fun n => ?_) (Ev.now _)
    rw [fathomref3_rounded.j0, if_pos hbig, h.inf, Option.bind_some, h.signed neg _ (Nat.le_refl _), Option.bind_some]
  · have hT3 : T ≤ 3100 := by clear hword hkd; omega
    have hw2 : wrap64 (wrap64 (p - e) - 1) = ((D - 1 : Nat) : Int) := by
      rw [← hD, wrap64_sub2 (by clear hword hkd; omega) (by clear hword hkd; omega)]
      clear hword hkd; omega
    have hdown := down2_ev (n := N) (a := D - 1) (by clear hword hkd; omega)
    have hkept := kept_eq neg N D s hD1
    rw [← hkd] at hkept
    -- few digits are left
    have hvlt : N / 2 ^ (D - 1) < 4 * f.binade := by
      refine Nat.div_lt_of_lt_mul ?_
      refine Nat.lt_of_lt_of_le (log2_of hN rfl).2 ?_
      have e1 : 2 ^ (D - 1) * (4 * f.binade) = 2 ^ (D - 1 + (2 + f.fractionBits)) := by
        rw [Nat.pow_add, Nat.pow_add, hB2]
      rw [e1]
      refine Nat.pow_le_pow_right (by omega) ?_
      clear hword hkd hkept e1; omega
    have hvge : T = 0 ∨ 2 * f.binade ≤ N / 2 ^ (D - 1) := by
      rcases Nat.eq_zero_or_pos T with h0 | h0
      · exact Or.inl h0
      · right
        rw [Nat.le_div_iff_mul_le (Nat.two_pow_pos _)]
        refine Nat.le_trans ?_ (log2_of hN rfl).1
        have e1 : 2 * f.binade * 2 ^ (D - 1) = 2 ^ (1 + f.fractionBits + (D - 1)) := by
          rw [Nat.pow_add, Nat.pow_add, hB2]
        rw [e1]
        refine Nat.pow_le_pow_right (by omega) ?_
        clear hword hkd hkept e1 hvlt; omega
    generalize hv : N / 2 ^ (D - 1) = v at *
    obtain ⟨rest, hrest⟩ : ∃ rest : Bool, rest = decide (N % 2 ^ (D - 1) ≠ 0) := ⟨_, rfl⟩
    rw [← hrest] at hdown
    have hrest2 : N % 2 ^ (D - 1) ≠ 0 ↔ rest = true := by rw [hrest]; exact decide_eq_true_iff.symm
    simp only [hrest2] at hkept
    have hk2 : k ≤ 2 * f.binade := by
      rw [hkept]; split <;> (clear hword hkd hkept; omega)
    have hkB : T = 0 ∨ f.binade ≤ k := by
      rcases hvge with h0 | h0
      · exact Or.inl h0
      · right; rw [hkept]; clear hword hkd hkept; split <;> omega
    have hlaid := laid_ev h neg hk2 hkB hT3
    rw [← hT] at hlaid
    have hlow := low64_eq v
    rw [Nat.mod_eq_of_lt (show v < 18446744073709551616 by clear hword hkd hkept hlaid; omega)] at hlow
    have hand : Go.bits .and .u64 (v : Int) 1 = ((v % 2 : Nat) : Int) := by
      have := and_mask (k := 1) (x := (v : Int)) (Int.natCast_nonneg _) (by clear hword hkd hkept hlaid; omega) (by omega) (m := 1) rfl
      rw [this, Int.toNat_natCast]
    have hand2 : Go.bits .and .u64 ((v : Int) / 2) 1 = ((v / 2 % 2 : Nat) : Int) := by
      have e1 : (v : Int) / 2 = ((v / 2 : Nat) : Int) := rfl
      rw [e1]
      have := and_mask (k := 1) (x := ((v / 2 : Nat) : Int)) (Int.natCast_nonneg _) (by clear hword hkd hkept hlaid; omega) (by omega) (m := 1) rfl
      rw [this, Int.toNat_natCast]
    have hup : IntKind.u64.wrap ((v : Int) / 2 + 1) = ((v / 2 + 1 : Nat) : Int) := by
      have e1 : (v : Int) / 2 + 1 = ((v / 2 + 1 : Nat) : Int) := rfl
      rw [e1]; exact wrapu_nat (by clear hword hkd hkept hlaid; omega)
    have hdn : (v : Int) / 2 = ((v / 2 : Nat) : Int) := rfl
    have j1 : Ev (fun n => fathomref3_rounded.j1 n neg (s || rest) w p (lim v)) (f.word neg (min (T * f.binade + k) f.infRung) : Nat) := by
      obtain ⟨K, H⟩ := hlaid
      refine ⟨K + 1, fun n hn => ?_⟩
      obtain ⟨m, rfl⟩ := fuel_out hn
      dsimp only at H ⊢
      have H := H m (Nat.le_of_succ_le_succ hn)
      have hst : (s || rest) = true ↔ (s = true ∨ rest = true) := Bool.or_eq_true _ _ ▸ Iff.rfl
      rw [fathomref3_rounded.j1, hlow, Option.bind_some, hand]
      by_cases hb : v % 2 = 1
      · rw [if_pos (show ((v % 2 : Nat) : Int) = 1 by rw [hb]; rfl)]
        by_cases hst2 : (s || rest) = true
        · rw [if_pos ⟨hb, Or.inl (hst.1 hst2)⟩] at hkept
          rw [if_pos hst2, hup, ← hkept, H, Option.bind_some]
        · rw [if_neg hst2, hand2]
          by_cases ho : v / 2 % 2 = 1
          · rw [if_pos ⟨hb, Or.inr ho⟩] at hkept
            rw [if_pos (show ((v / 2 % 2 : Nat) : Int) = 1 by rw [ho]; rfl), hup, ← hkept, H, Option.bind_some]
          · rw [if_neg (fun h => by rcases h.2 with h | h; exact hst2 (hst.2 h); exact ho h), Nat.add_zero] at hkept
            rw [if_neg (show ¬ ((v / 2 % 2 : Nat) : Int) = 1 from fun h => ho (Int.ofNat_inj.1 h)), hdn, ← hkept, H, Option.bind_some]
      · rw [if_neg (fun h => hb h.1), Nat.add_zero] at hkept
        rw [if_neg (show ¬ ((v % 2 : Nat) : Int) = 1 from fun h => hb (Int.ofNat_inj.1 h)), hdn, ← hkept, H, Option.bind_some]
    obtain ⟨K1, H1⟩ := hdown
    obtain ⟨K2, H2⟩ := j1
    refine ⟨K1 + K2 + 1, fun n hn => ?_⟩
    obtain ⟨m, rfl⟩ := fuel_out hn
    have q1 : K1 ≤ m := by clear hword hkd hkept; omega
    have q2 : K2 ≤ m := by clear hword hkd hkept; omega
    dsimp only at H1 H2 ⊢
    rw [fathomref3_rounded.j0, if_neg hbig, if_neg (by clear hword hkd hkept; omega), hw2, H1 _ q1, Option.bind_some]
    cases s with
    | true => rw [if_pos rfl]; exact H2 _ q2
    | false => rw [if_neg (by decide)]; exact H2 _ q2
end
end Go.Proofs.Ytfloeiagdegpjaa.Q
namespace Go.Proofs.Ytfloeiagdegpjaa.Q
section
open Go.RowKit Go.Proofs.YtfloeiagdegpjaaW.PrintWords Go.Proofs.Ytfloeiagdegpjaa.Rf
open Ieee (Format Toward)
set_option linter.unusedVariables false
set_option linter.unusedSimpArgs false

theorem bl_iff {n k : Nat} : bl n ≤ k ↔ n < 2 ^ k := by
  constructor
  · exact bl_le
  · intro h
    rcases Nat.eq_zero_or_pos n with rfl | h0
    · rw [bl_zero]; omega
    · rw [bl_pos h0]
      have := (Nat.log2_lt (by omega)).2 h
      omega
theorem bl_mono {a b : Nat} (h : a ≤ b) {k : Nat} (hb : bl b ≤ k) : bl a ≤ k := bl_iff.2 (Nat.lt_of_le_of_lt h (bl_iff.1 hb))
theorem bl_shift {m k a : Nat} (h : bl m ≤ k) : bl (m * 2 ^ a) ≤ ((k + a : Nat) : Int) := by
  refine bl_iff.2 ?_
  rw [Nat.pow_add]
  exact Nat.mul_lt_mul_of_pos_right (bl_iff.1 h) (Nat.two_pow_pos _)
theorem bl_add2 {m n k : Nat} (h : bl m ≤ k) (h2 : bl n ≤ k) : bl (m + n) ≤ ((k + 1 : Nat) : Int) := by
  refine bl_iff.2 ?_
  rw [Nat.pow_succ, Nat.mul_two]
  exact Nat.add_lt_add (bl_iff.1 h) (bl_iff.1 h2)
theorem bl_mul2 {m n k l : Nat} (h : bl m ≤ k) (h2 : bl n ≤ l) : bl (m * n) ≤ ((k + l : Nat) : Int) := by
  refine bl_iff.2 ?_
  rw [Nat.pow_add]
  exact Nat.mul_lt_mul_of_lt_of_le (bl_iff.1 h) (Nat.le_of_lt (bl_iff.1 h2)) (Nat.two_pow_pos _)
theorem len_bl {n k : Nat} (h : bl n ≤ k) (hk : k < 300000) : (lim n).length < 10000 := by
  have e : B32 ^ (k / 32 + 1) = 2 ^ (32 * (k / 32 + 1)) := by rw [Nat.pow_mul]
  have : n < B32 ^ (k / 32 + 1) := by
    rw [e]
    exact Nat.lt_of_lt_of_le (bl_iff.1 h) (Nat.pow_le_pow_right (by omega) (by omega))
  have := len_le this
  omega

theorem bl_two {n : Nat} (h : 0 < n) : 2 ^ (bl n - 1).toNat ≤ n ∧ n < 2 ^ (bl n).toNat := by
  obtain ⟨h1, h2⟩ := log2_of h rfl
  rw [bl_pos h]
  have e1 : ((n.log2 : Int) + 1 - 1).toNat = n.log2 := by omega
  have e2 : ((n.log2 : Int) + 1).toNat = n.log2 + 1 := by omega
  rw [e1, e2]
  exact ⟨h1, h2⟩

theorem dec_len (n : Nat) : decide (((lim n).length : Int) > 0) = (n != 0) := by
  have h := len_lim n 0
  rw [Nat.pow_zero] at h
  by_cases h0 : n = 0
  · rw [h0, lim_zero]; rfl
  · rw [bne_iff_ne.2 h0, decide_eq_true (by omega)]

/-- quotient: of the number times a power of 2. -/
theorem quotient_ev {m n : Nat} (hn : 0 < n) (sh : Int) (hsh : -1000000 < sh ∧ sh < 1000000) (h1 : (lim (m * 2 ^ sh.toNat)).length < 16777216) (h2 : (lim (n * 2 ^ (-sh).toNat)).length < 16777216)
    (h3 : (lim m).length < 16777216) (h4 : (lim n).length < 16777216) :
    Ev (fun k => fathomref3_quotient.f k (lim m) (lim n) sh) (lim (m * 2 ^ sh.toNat / (n * 2 ^ (-sh).toNat)), lim (m * 2 ^ sh.toNat % (n * 2 ^ (-sh).toNat))) := by
  have hdiv := divide_ev (Nat.mul_pos hn (Nat.two_pow_pos _)) h1 h2
  by_cases hc : sh ≥ 0
  · have e : (-sh).toNat = 0 := by omega
    have e2 : ((sh.toNat : Nat) : Int) = sh := by omega
    have hup := up2_ev (n := m) (a := sh.toNat) (by omega) (by omega)
    rw [e2] at hup
    rw [e, Nat.pow_zero, Nat.mul_one] at hdiv ⊢
    obtain ⟨K1, H1⟩ := hup
    obtain ⟨K2, H2⟩ := hdiv
    refine ⟨K1 + K2, fun k hk => ?_⟩
    dsimp only at H1 H2 ⊢
    unfold fathomref3_quotient.f
    rw [if_pos hc, H1 _ (by omega), Option.bind_some, H2 _ (by omega), Option.bind_some]
  · have e : sh.toNat = 0 := by omega
    have e2 : (((-sh).toNat : Nat) : Int) = -sh := by omega
    have hw : wrap64 (-sh) = -sh := wrap64_id (by omega) (by omega)
    have hup := up2_ev (n := n) (a := (-sh).toNat) (by omega) (by omega)
    rw [e2] at hup
    rw [e, Nat.pow_zero, Nat.mul_one] at hdiv ⊢
    obtain ⟨K1, H1⟩ := hup
    obtain ⟨K2, H2⟩ := hdiv
    refine ⟨K1 + K2, fun k hk => ?_⟩
    dsimp only at H1 H2 ⊢
    unfold fathomref3_quotient.f
    rw [if_neg hc, hw, H1 _ (by omega), Option.bind_some, H2 _ (by omega), Option.bind_some]

variable {f : Format} {w : Int}

/-- Nearest: the word of the nearest number of a fraction. -/
theorem nearest_ev (h : Fw f w) (neg : Bool) {m n : Nat} (hm : 0 < m) (hn : 0 < n) (bm : bl m ≤ 100000) (bn : bl n ≤ 100000) (e : Int) (he : -1048576 ≤ e ∧ e ≤ 1048576) :
    ∃ r, _root_.Fl.Near f (_root_.Fl.frac f m n e hn) r ∧ Ev (fun k => fathomref3_Nearest.f k neg (lim m) (lim n) e w) (f.word neg r : Nat) := by
  have hfb := h.fb
  have hlp := h.lp
  have bm0 : 0 < bl m := by rw [bl_pos hm]; omega
  have bn0 : 0 < bl n := by rw [bl_pos hn]; omega
  obtain ⟨m1, m2⟩ := bl_two hm
  obtain ⟨n1, n2⟩ := bl_two hn
  have lm := len_bl (k := 100000) bm (by omega)
  have ln := len_bl (k := 100000) bn (by omega)
  obtain ⟨e', he'⟩ : ∃ e' : Int, e' = bl m - bl n + e - ((f.fractionBits + 1 : Nat) : Int) - 3 := ⟨_, rfl⟩
  obtain ⟨sh, hsh⟩ : ∃ sh : Int, sh = e - e' := ⟨_, rfl⟩
  obtain ⟨u, hu⟩ : ∃ u, u = sh.toNat := ⟨_, rfl⟩
  obtain ⟨v, hv⟩ : ∃ v, v = (-sh).toNat := ⟨_, rfl⟩
  have hb1 : u < 100100 := by clear m1 m2 n1 n2; omega
  have hb2 : v < 100100 := by clear m1 m2 n1 n2; omega
  have bM : bl (m * 2 ^ u) ≤ (200100 : Nat) := Int.le_trans (bl_shift (k := 100000) bm) (by clear m1 m2 n1 n2; omega)
  have bN : bl (n * 2 ^ v) ≤ (200100 : Nat) := Int.le_trans (bl_shift (k := 100000) bn) (by clear m1 m2 n1 n2; omega)
  have lnum := len_bl bM (by omega)
  have lden := len_bl bN (by omega)
  have hden : 0 < n * 2 ^ v := Nat.mul_pos hn (Nat.two_pow_pos _)
  -- enough digits
  have hQ : 2 ^ (f.fractionBits + 3) ≤ m * 2 ^ u / (n * 2 ^ v) := by
    rw [Nat.le_div_iff_mul_le hden]
    have h1 : 2 ^ (f.fractionBits + 3) * (n * 2 ^ v) ≤ 2 ^ (f.fractionBits + 3) * (2 ^ (bl n).toNat * 2 ^ v) :=
      Nat.mul_le_mul_left _ (Nat.mul_le_mul_right _ (Nat.le_of_lt n2))
    have h2 : 2 ^ (bl m - 1).toNat * 2 ^ u ≤ m * 2 ^ u := Nat.mul_le_mul_right _ m1
    refine Nat.le_trans h1 (Nat.le_trans (Nat.le_of_eq ?_) h2)
    rw [← Nat.pow_add, ← Nat.pow_add, ← Nat.pow_add]
    congr 1
    clear m1 m2 n1 n2 h1 h2; omega
  have hQ0 : 0 < m * 2 ^ u / (n * 2 ^ v) := Nat.lt_of_lt_of_le (Nat.two_pow_pos _) hQ
  have hlog : f.fractionBits + 3 ≤ (m * 2 ^ u / (n * 2 ^ v)).log2 := _root_.Fl.log2_ge hQ
  have lQ : (lim (m * 2 ^ u / (n * 2 ^ v))).length < 16777216 := by
    have := len_bl (bl_mono (Nat.div_le_self (m * 2 ^ u) (n * 2 ^ v)) bM) (by omega)
    clear m1 m2 n1 n2 hQ; omega
  obtain ⟨r, hr1, hr2⟩ := _root_.Fl.quotient_near f h.good.fb neg (m * 2 ^ u) (n * 2 ^ v) hden e'
    (Or.inr (Or.inl (Nat.le_trans (Nat.pow_le_pow_right (by decide) (by clear m1 m2 n1 n2 hQ; omega)) hQ)))
  have hround := rounded_ev h neg hQ0 lQ e' (by clear m1 m2 n1 n2 hQ; omega) (m * 2 ^ u % (n * 2 ^ v) != 0) (by clear m1 m2 n1 n2 hQ; omega)
  rw [hr1] at hround
  have hq := quotient_ev (m := m) (n := n) hn sh (by clear m1 m2 n1 n2 hQ; omega) (by rw [← hu]; exact Nat.lt_trans lnum (by decide)) (by rw [← hv]; exact Nat.lt_trans lden (by decide)) (Nat.lt_trans lm (by decide)) (Nat.lt_trans ln (by decide))
  rw [← hu, ← hv] at hq
  refine ⟨r, hr2.congr (fun a => (_root_.Fl.frac_scale f m n u v e e' hn (by clear m1 m2 n1 n2 hQ; omega) a).1) (fun a => (_root_.Fl.frac_scale f m n u v e e' hn (by clear m1 m2 n1 n2 hQ; omega) a).2), ?_⟩
  have l0 : ¬ (((lim m).length : Int) = 0) := by
    have := (len_lim m 0).2 (by rw [Nat.pow_zero]; exact hm)
    clear m1 m2 n1 n2 hQ; omega
  have hw1 : wrap64 (wrap64 (wrap64 (wrap64 (bl m - bl n) + e) - ((f.fractionBits + 1 : Nat) : Int)) - 3) = e' := by
    clear m1 m2 n1 n2 hQ
    rw [wrap64_add2 (by omega) (by omega), wrap64_sub2 (by omega) (by omega)]
    rw [he']
  have hw2 : wrap64 (e - e') = sh := by
    clear m1 m2 n1 n2 hQ
    rw [← hsh]; exact wrap64_id (by omega) (by omega)
  obtain ⟨K1, H1⟩ := len_ev (n := m) (Nat.lt_trans lm (by decide))
  obtain ⟨K2, H2⟩ := len_ev (n := n) (Nat.lt_trans ln (by decide))
  obtain ⟨K3, H3⟩ := hq
  obtain ⟨K4, H4⟩ := hround
  clear m1 m2 n1 n2 hQ hQ0 hlog lQ hr1 hr2
  refine ⟨K1 + K2 + K3 + K4, fun k hk => ?_⟩
  have q1 : K1 ≤ k := by omega
  have q2 : K2 ≤ k := by omega
  have q3 : K3 ≤ k := by omega
  have q4 : K4 ≤ k := by omega
  dsimp only at H1 H2 H3 H4 ⊢
  unfold fathomref3_Nearest.f
  rw [if_neg l0, if_neg (by omega), if_neg (by omega), H1 _ q1, Option.bind_some, H2 _ q2, Option.bind_some, h.dig, Option.bind_some, hw1, hw2, H3 _ q3, Option.bind_some, dec_len, H4 _ q4, Option.bind_some]

/-- Nearest of a whole number times a power of 2: what the model writes. -/
theorem write_ev (h : Fw f w) (neg : Bool) {m : Nat} (bm : bl m ≤ 100000) (e : Int) (he : -1048576 ≤ e ∧ e ≤ 1048576) :
    Ev (fun k => fathomref3_Nearest.f k neg (lim m) (lim 1) e w) (f.nearest neg m e : Nat) := by
  rcases Nat.eq_zero_or_pos m with h0 | h0
  · refine Ev.congr (f := fun _ => some ((f.nearest neg m e : Nat) : Int)) (fun k => ?_) (Ev.now _)
    unfold fathomref3_Nearest.f
    rw [h0, lim_zero, if_pos (show ((([] : List Int).length : Nat) : Int) = 0 from rfl)]
    have := h.signed neg 0 (Nat.zero_le _)
    rw [show ((0 : Nat) : Int) = 0 from rfl] at this
    rw [this, Option.bind_some]
    congr 2
  · obtain ⟨r, h1, h2⟩ := nearest_ev h neg h0 Nat.one_pos bm (by decide) e he
    obtain ⟨s, g1, g2⟩ := _root_.Fl.nearest_exact f h.good.fb neg m e
    rw [g1, g2.unique h1]
    exact h2

end
end Go.Proofs.Ytfloeiagdegpjaa.Q
namespace Go.Proofs.Ytfloeiagdegpjaa.Q
section
open Go.RowKit Go.Proofs.YtfloeiagdegpjaaW.PrintWords Go.Proofs.Ytfloeiagdegpjaa.Rf
open Ieee (Format Toward Datum)
set_option linter.unusedVariables false
set_option linter.unusedSimpArgs false

/-- A word of the format. -/
def InW (f : Format) (x : Int) : Prop := 0 ≤ x ∧ x.toNat < 2 * f.signWeight
/-- What an operation gives: nw where the answer is a NaN. -/
def res (nw : Int) (o : Option Nat) : Int := match o with | some r => r | none => nw

/-- A width's format, and what the reference asks of a word. -/
structure Fx (f : Format) (w nw : Int) : Prop extends Fw f w where
  nan : fathomref3_Nan.f w = some nw
  abs : ∀ x, InW f x → fathomref3_Abs.f x w = some ((x.toNat % f.signWeight : Nat) : Int)
  isnan : ∀ x, InW f x → fathomref3_IsNan.f x w = some (decide (f.infRung < x.toNat % f.signWeight))
  isinf : ∀ x, InW f x → fathomref3_IsInf.f x w = some (decide (x.toNat % f.signWeight = f.infRung))
  iszero : ∀ x, InW f x → fathomref3_IsZero.f x w = some (decide (x.toNat % f.signWeight = 0))
  neg : ∀ x, InW f x → fathomref3_Neg.f x w = some (x.toNat / f.signWeight % 2 == 1)
  sign : fathomref3_Sign.f w = some (f.signWeight : Int)
  flip : ∀ x, InW f x → Go.bits .xor .u64 x (f.signWeight : Int) = if x.toNat < f.signWeight then x + f.signWeight else x - f.signWeight
  sw64 : f.signWeight ≤ 9223372036854775808

theorem in64 {x : Int} : InW Ieee.double x ↔ 0 ≤ x ∧ x < 18446744073709551616 := by
  unfold InW; rw [sign_double]; omega
theorem in32 {x : Int} : InW Ieee.single x ↔ 0 ≤ x ∧ x < 4294967296 := by
  unfold InW; rw [sign_single]; omega

theorem fx64 : Fx Ieee.double 64 9221120237041090560 where
  toFw := fw64
  nan := nan_64
  abs := fun x h => by
    obtain ⟨h0, h1⟩ := in64.1 h
    rw [rAbs64 h0 h1, sign_double]; congr 1; omega
  isnan := fun x h => by
    obtain ⟨h0, h1⟩ := in64.1 h
    rw [rIsNan64 h0 h1, sign_double, inf_double]; congr 1; exact decide_eq_decide.2 (by omega)
  isinf := fun x h => by
    obtain ⟨h0, h1⟩ := in64.1 h
    rw [rIsInf64 h0 h1, sign_double, inf_double]; congr 1; exact decide_eq_decide.2 (by omega)
  iszero := fun x h => by
    obtain ⟨h0, h1⟩ := in64.1 h
    rw [rIsZero64 h0 h1, sign_double]; congr 1; exact decide_eq_decide.2 (by omega)
  neg := fun x h => by
    obtain ⟨h0, h1⟩ := in64.1 h
    rw [rNeg64 h0 h1, sign_double]; congr 1
    by_cases hc : 9223372036854775808 ≤ x
    · rw [decide_eq_true hc]; symm; exact beq_iff_eq.2 (by omega)
    · rw [decide_eq_false hc]; symm; exact beq_eq_false_iff_ne.2 (by omega)
  sign := by rw [sign_double]; exact sign_64
  flip := fun x h => by
    obtain ⟨h0, h1⟩ := in64.1 h
    rw [sign_double]
    rw [show ((9223372036854775808 : Nat) : Int) = 9223372036854775808 from rfl, xor_sign64 h0 h1]
    split
    · rw [if_pos (by omega)]
    · rw [if_neg (by omega)]
  sw64 := by rw [sign_double]; decide

theorem fx32 : Fx Ieee.single 32 2143289344 where
  toFw := fw32
  nan := nan_32
  abs := fun x h => by
    obtain ⟨h0, h1⟩ := in32.1 h
    rw [rAbs32 h0 h1, sign_single]; congr 1; omega
  isnan := fun x h => by
    obtain ⟨h0, h1⟩ := in32.1 h
    rw [rIsNan32 h0 h1, sign_single, inf_single]; congr 1; exact decide_eq_decide.2 (by omega)
  isinf := fun x h => by
    obtain ⟨h0, h1⟩ := in32.1 h
    rw [rIsInf32 h0 h1, sign_single, inf_single]; congr 1; exact decide_eq_decide.2 (by omega)
  iszero := fun x h => by
    obtain ⟨h0, h1⟩ := in32.1 h
    rw [rIsZero32 h0 h1, sign_single]; congr 1; exact decide_eq_decide.2 (by omega)
  neg := fun x h => by
    obtain ⟨h0, h1⟩ := in32.1 h
    rw [rNeg32 h0 h1, sign_single]; congr 1
    by_cases hc : 2147483648 ≤ x
    · rw [decide_eq_true hc]; symm; exact beq_iff_eq.2 (by omega)
    · rw [decide_eq_false hc]; symm; exact beq_eq_false_iff_ne.2 (by omega)
  sign := by rw [sign_single]; exact sign_32
  flip := fun x h => by
    obtain ⟨h0, h1⟩ := in32.1 h
    rw [sign_single]
    rw [show ((2147483648 : Nat) : Int) = 2147483648 from rfl, xor64_32 h0 h1]
    split
    · rw [if_pos (by omega)]
    · rw [if_neg (by omega)]
  sw64 := by rw [sign_single]; decide

variable {f : Format} {w nw : Int}

theorem read_nan_at (h : Fx f w nw) {b : Nat} (hb : f.infRung < b % f.signWeight) : ∃ s t, f.read b = .nan s t := by
  have := _root_.Fl.read_nan h.good b
  rw [decide_eq_true hb] at this
  cases hr : f.read b with
  | number _ _ _ => rw [hr] at this; cases this
  | infinity _ => rw [hr] at this; cases this
  | nan s t => exact ⟨s, t, rfl⟩

theorem parts_ev (h : Fx f w nw) {x : Int} (hx : InW f x) (hfin : x.toNat % f.signWeight < f.infRung) :
    ∃ m p, f.read x.toNat = .number (x.toNat / f.signWeight % 2 == 1) m p ∧ m < 2 * f.binade ∧ (f.leastPlace ≤ p ∧ p ≤ 2000) ∧ (m = 0 ↔ x.toNat % f.signWeight = 0) ∧
      Ev (fun k => fathomref3_Parts.f k x w) (x.toNat / f.signWeight % 2 == 1, lim m, p) := by
  have hB := binade_le h.toFw
  have hB0 := _root_.Fl.binade_pos f
  have hB2 : f.binade = 2 ^ f.fractionBits := rfl
  have hfb := h.fb
  have hlp := h.lp
  have hsw := h.sw64
  have hif := f.infRung_lt
  obtain ⟨r, hr⟩ : ∃ r, r = x.toNat % f.signWeight := ⟨_, rfl⟩
  have habs := h.abs x hx
  have hneg := h.neg x hx
  rw [← hr] at habs hfin
  have hr64 : r < 9223372036854775808 := by omega
  have hw1 : IntKind.u64.wrap (wrap64 (((f.fractionBits + 1 : Nat) : Int) - 1)) = (f.fractionBits : Int) := by
    rw [show ((f.fractionBits + 1 : Nat) : Int) - 1 = (f.fractionBits : Int) by omega, wrap64_nat (by omega), wrapu_nat (by omega)]
  have hsh : shr .u64 (r : Int) (f.fractionBits : Int) = ((r / f.binade : Nat) : Int) := shr_nat (by omega)
  have hone : shl .u64 1 (f.fractionBits : Int) = (f.binade : Int) := by
    have := shl_nat (x := 1) (s := f.fractionBits) (by omega) (by rw [Nat.one_mul, ← hB2]; omega)
    rw [Nat.one_mul, ← hB2] at this
    exact this
  have hmask : IntKind.u64.wrap ((f.binade : Int) - 1) = ((f.binade - 1 : Nat) : Int) := by
    rw [show (f.binade : Int) - 1 = ((f.binade - 1 : Nat) : Int) by omega]; exact wrapu_nat (by omega)
  have hand : Go.bits .and .u64 (r : Int) ((f.binade - 1 : Nat) : Int) = ((r % f.binade : Nat) : Int) := by
    have := and_mask (k := f.fractionBits) (x := (r : Int)) (Int.natCast_nonneg _) (by omega) (by omega) (m := ((f.binade - 1 : Nat) : Int)) rfl
    rw [this, Int.toNat_natCast]; rfl
  have hmod : r % f.binade < f.binade := Nat.mod_lt _ hB0
  have hor : Go.bits .or .u64 ((r % f.binade : Nat) : Int) (f.binade : Int) = ((r % f.binade + f.binade : Nat) : Int) := by
    have := or_low (k := f.fractionBits) (a := r % f.binade) (b := 1) hmod (by rw [Nat.one_mul, ← hB2]; omega)
    rw [Nat.one_mul, ← hB2] at this
    exact this
  by_cases hc : r < f.binade
  · have hq : r / f.binade = 0 := Nat.div_eq_of_lt hc
    have hm : r % f.binade = r := Nat.mod_eq_of_lt hc
    refine ⟨r, f.leastPlace, ?_, by omega, by omega, by omega, ?_⟩
    · unfold Ieee.Format.read
      simp only []
      rw [← hr, if_pos hc]
    · have hof := of_ev (a := (r : Int)) (Int.natCast_nonneg _) (by omega)
      rw [Int.toNat_natCast] at hof
      obtain ⟨K, H⟩ := hof
      refine ⟨K, fun k hk => ?_⟩
      dsimp only at H ⊢
      unfold fathomref3_Parts.f
      rw [habs, Option.bind_some, h.dig, Option.bind_some, hw1, if_pos (Int.natCast_nonneg _), hsh, hq, if_pos (show ((0 : Nat) : Int) = 0 from rfl), hneg, Option.bind_some, hone, hmask, hand, hm, H k hk, Option.bind_some, h.least, Option.bind_some]
  · have hq : 1 ≤ r / f.binade := (Nat.one_le_div_iff hB0).2 (by omega)
    have hq2 : r / f.binade < 2047 := by
      refine (Nat.div_lt_iff_lt_mul hB0).2 ?_
      exact Nat.lt_of_lt_of_le hfin h.infle
    refine ⟨f.binade + r % f.binade, f.leastPlace + ((r / f.binade - 1 : Nat) : Int), ?_, by omega, by omega, by omega, ?_⟩
    · unfold Ieee.Format.read
      simp only []
      rw [← hr, if_neg hc, if_pos hfin]
    · have hof := of_ev (a := ((r % f.binade + f.binade : Nat) : Int)) (Int.natCast_nonneg _) (by omega)
      rw [Int.toNat_natCast, Nat.add_comm (r % f.binade) f.binade] at hof
      obtain ⟨K, H⟩ := hof
      refine ⟨K, fun k hk => ?_⟩
      dsimp only at H ⊢
      have hw2 : wrap64 (wrap64 (f.leastPlace + wrap64 ((r / f.binade : Nat) : Int)) - 1) = f.leastPlace + ((r / f.binade - 1 : Nat) : Int) := by
        rw [wrap64_nat (n := r / f.binade) (by omega), wrap64_sub2 (by omega) (by omega)]; omega
      unfold fathomref3_Parts.f
      rw [habs, Option.bind_some, h.dig, Option.bind_some, hw1, if_pos (Int.natCast_nonneg _), hsh, if_neg (by omega), hneg, Option.bind_some, hone, hmask, hand, hor, Nat.add_comm (r % f.binade) f.binade, H k hk, Option.bind_some, h.least, Option.bind_some, hw2]

theorem bl_binade (h : Fx f w nw) {m : Nat} (hm : m < 2 * f.binade) : bl m ≤ (53 : Nat) := by
  refine bl_iff.2 (Nat.lt_of_lt_of_le hm ?_)
  have : (2 : Nat) ^ f.fractionBits ≤ 2 ^ 52 := Nat.pow_le_pow_right (by omega) h.fb
  have e : 2 * f.binade = 2 * 2 ^ f.fractionBits := rfl
  omega

end
end Go.Proofs.Ytfloeiagdegpjaa.Q
