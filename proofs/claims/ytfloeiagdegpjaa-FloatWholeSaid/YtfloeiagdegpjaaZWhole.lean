/- FloatWhole, over lists and whole numbers alone: from and to whole numbers. -/
import Derived.Test.YtfloeiagdegpjaaLWhole
import Derived.Test.YtfloeiagdegpjaaQr
namespace Go.Proofs.Ytfloeiagdegpjaa.ZWhole
open Go.RowKit Go.Proofs.YtfloeiagdegpjaaW.PrintWords Go.Proofs.Ytfloeiagdegpjaa.Rf Go.Proofs.Ytfloeiagdegpjaa.LWhole Go.Proofs.Ytfloeiagdegpjaa.Q
open Ieee (Format Toward Datum)
set_option linter.unusedVariables false
set_option linter.unusedSimpArgs false

theorem rng {l : List S44} (hw : ∀ y ∈ l, ∃ p q, y = S44.mk p q ∧ (Lit.int .u64 p).wf = true ∧ (Lit.int .i64 q).wf = true) {i : Nat} (hi : i < l.length) :
    (0 ≤ (rd_T44 l (i : Int)).f0 ∧ (rd_T44 l (i : Int)).f0 < 18446744073709551616) := by
  unfold rd_T44
  rw [Int.toNat_natCast, List.getD_eq_getElem?_getD, List.getElem?_eq_getElem hi]
  obtain ⟨p, q, e, h1, h2⟩ := hw _ (List.getElem_mem hi)
  rw [Option.getD_some, e]
  exact wf_u64 h1

theorem mag_eq {a : Int} (h : -9223372036854775808 ≤ a ∧ a < 9223372036854775808) : fathomref3_Magnitude.f a = some (a.natAbs : Int) := by
  unfold fathomref3_Magnitude.f
  by_cases hc : a < 0
  · rw [if_pos hc]; simp only [wrap_u64]; congr 1; omega
  · rw [if_neg hc]; simp only [wrap_u64]; congr 1; omega

theorem from_ev {f : Format} {w : Int} (h : Fw f w) (neg : Bool) {n : Nat} (hn : n < 18446744073709551616) : Ev (fun k => (fathomref3_Of.f k (n : Int)).bind fun t => (fathomref3_Of.f k 1).bind fun o => fathomref3_Nearest.f k neg t o 0 w) (f.nearest neg n 0 : Nat) := by
  have b1 : bl n ≤ (64 : Nat) := bl_iff.2 hn
  obtain ⟨K1, H1⟩ := of_ev (a := (n : Int)) (Int.natCast_nonneg _) (by omega)
  obtain ⟨K2, H2⟩ := of_ev (a := 1) (by decide) (by decide)
  obtain ⟨K3, H3⟩ := write_ev h neg (m := n) (by omega) 0 (by omega)
  refine ⟨K1 + K2 + K3, fun k hk => ?_⟩
  dsimp only at H1 H2 H3 ⊢
  have H2' : ∀ k, K2 ≤ k → fathomref3_Of.f k 1 = some (lim 1) := H2
  rw [H1 k (by omega), Option.bind_some, H2' k (by omega), Option.bind_some, Int.toNat_natCast, H3 k (by omega)]

theorem near32_lt (neg : Bool) (n : Nat) : Ieee.single.nearest neg n 0 < 4294967296 := by
  obtain ⟨r, h1, h2⟩ := _root_.Fl.nearest_word Ieee.single neg n 0
  rw [h1]
  rw [inf_single] at h2
  unfold Ieee.Format.word
  rw [sign_single]
  split <;> omega

/-! Round and ToInt -/
theorem integ_fin {way : Toward} {mode : Int} (hw : (way = .even ∧ mode = 0) ∨ (way = .zero ∧ mode = 2) ∨ (way = .down ∧ mode = 3) ∨ (way = .up ∧ mode = 4)) {x m : Nat} {p : Int} {s : Bool} (hr : Ieee.double.read x = .number s m p) :
    Fl.integ way x = Ieee.double.nearest s (whole s m p mode) 0 := by
  unfold Fl.integ
  rw [hr, integral_whole way mode hw s m p]; rfl
theorem integ_inf (way : Toward) {x : Nat} {s : Bool} (hx : x < 18446744073709551616) (hi : x % 9223372036854775808 = 9218868437227405312) : Fl.integ way x = x := by
  have hr := _root_.Fl.read_infinity _root_.Fl.good_double x (by rw [sign_double, inf_double]; exact hi)
  unfold Fl.integ
  rw [hr]
  have hwd := _root_.Fl.word_of Ieee.double (b := x) (by rw [sign_double]; omega)
  rw [sign_double, hi, ← inf_double] at hwd
  rw [← sign_double] at hwd
  exact hwd

theorem rnd_0 (x : Nat) : Fl.rnd x 0 = Fl.integ .even x := by
  unfold Fl.rnd
  rw [show ((0 : Int) == 0) = true by decide]
  simp only [cond_true, cond_false]
theorem rnd_1 (x : Nat) : Fl.rnd x 1 = Fl.goRound x := by
  unfold Fl.rnd
  rw [show ((1 : Int) == 0) = false by decide, show ((1 : Int) == 1) = true by decide]
  simp only [cond_true, cond_false]
theorem rnd_2 (x : Nat) : Fl.rnd x 2 = Fl.integ .zero x := by
  unfold Fl.rnd
  rw [show ((2 : Int) == 0) = false by decide, show ((2 : Int) == 1) = false by decide, show ((2 : Int) == 2) = true by decide]
  simp only [cond_true, cond_false]
theorem rnd_3 (x : Nat) : Fl.rnd x 3 = Fl.integ .down x := by
  unfold Fl.rnd
  rw [show ((3 : Int) == 0) = false by decide, show ((3 : Int) == 1) = false by decide, show ((3 : Int) == 2) = false by decide, show ((3 : Int) == 3) = true by decide]
  simp only [cond_true, cond_false]
theorem rnd_4 (x : Nat) : Fl.rnd x 4 = Fl.integ .up x := by
  unfold Fl.rnd
  rw [show ((4 : Int) == 0) = false by decide, show ((4 : Int) == 1) = false by decide, show ((4 : Int) == 2) = false by decide, show ((4 : Int) == 3) = false by decide]
  simp only [cond_true, cond_false]

theorem num_inj {s t : Bool} {m n : Nat} {p q : Int} (h : Datum.number s m p = Datum.number t n q) : m = n ∧ p = q := by
  injection h with e1 e2 e3
  exact ⟨e2, e3⟩

theorem rnd_fin {x : Nat} (hx : x < 18446744073709551616) (hf : x % 9223372036854775808 < 9218868437227405312) {mode : Int} (hm : 0 ≤ mode ∧ mode ≤ 4) {m : Nat} {p : Int} (hr : Ieee.double.read x = .number (x / 9223372036854775808 % 2 == 1) m p) :
    Fl.rnd x mode = Ieee.double.nearest (x / 9223372036854775808 % 2 == 1) (whole (x / 9223372036854775808 % 2 == 1) m p mode) 0 := by
  have hc : mode = 0 ∨ mode = 1 ∨ mode = 2 ∨ mode = 3 ∨ mode = 4 := by omega
  rcases hc with rfl | rfl | rfl | rfl | rfl
  · rw [rnd_0]; exact integ_fin (Or.inl ⟨rfl, rfl⟩) hr
  · rw [rnd_1]
    obtain ⟨m', p', h1, h2⟩ := goRound_whole hx hf
    rw [h1] at hr
    obtain ⟨e2, e3⟩ := num_inj hr
    rw [e2, e3] at h2
    exact h2
  · rw [rnd_2]; exact integ_fin (Or.inr (Or.inl ⟨rfl, rfl⟩)) hr
  · rw [rnd_3]; exact integ_fin (Or.inr (Or.inr (Or.inl ⟨rfl, rfl⟩))) hr
  · rw [rnd_4]; exact integ_fin (Or.inr (Or.inr (Or.inr ⟨rfl, rfl⟩))) hr

theorem rnd_inf {x : Nat} (hx : x < 18446744073709551616) (hi : x % 9223372036854775808 = 9218868437227405312) (mode : Int) : Fl.rnd x mode = x := by
  have h2 : x = 9218868437227405312 ∨ x = 18442240474082181120 := by omega
  have hg : Fl.goRound x = x := by rcases h2 with rfl | rfl <;> decide +kernel
  unfold Fl.rnd
  rw [integ_inf (s := false) .even hx hi, integ_inf (s := false) .zero hx hi, integ_inf (s := false) .down hx hi, integ_inf (s := false) .up hx hi, hg]
  cases mode == 0 <;> cases mode == 1 <;> cases mode == 2 <;> cases mode == 3 <;> rfl

theorem round_ev {x mode : Int} (hx : InW Ieee.double x) : Ev (fun k => fathomref3_Round.f k x mode) (Fl.rounds x mode) := by
  have h := fx64
  obtain ⟨x0, x1⟩ := in64.1 hx
  unfold Fl.rounds
  have start : ∀ {r : Int × Int}, Ev (fun k => fathomref3_Round.j0 k x mode (decide (mode < 0 ∨ 4 < mode))) r → Ev (fun k => fathomref3_Round.f k x mode) r := by
    intro r hr
    refine Ev.congr (fun k => ?_) hr
    unfold fathomref3_Round.f
    by_cases hm : mode < 0
    · rw [if_pos hm, decide_eq_true (Or.inl hm)]
    · rw [if_neg hm]; congr 1; exact decide_eq_decide.2 (by omega)
  refine start ?_
  by_cases hm : mode < 0 ∨ 4 < mode
  · rw [if_pos hm]
    exact Ev.step (f := fun _ => some (0, 31)) (fun k => by rw [fathomref3_Round.j0, decide_eq_true hm, if_pos rfl]) (Ev.now _)
  · rw [if_neg hm, decide_eq_false hm]
    have na := h.isnan x hx
    have ia := h.isinf x hx
    have sa := h.neg x hx
    rw [sign_double, inf_double] at na ia
    rw [sign_double] at sa
    rw [isNan64_eq x0 x1]
    by_cases hn : 9218868437227405312 < x.toNat % 9223372036854775808
    · rw [decide_eq_true (by omega), if_pos rfl]
      refine Ev.step (f := fun _ => some (Fl.one64, 0)) (fun k => ?_) (Ev.now _)
      rw [fathomref3_Round.j0, if_neg (by decide), na, Option.bind_some, if_pos (decide_eq_true hn)]; rfl
    · rw [decide_eq_false (by omega), if_neg (by decide)]
      by_cases hi : x.toNat % 9223372036854775808 = 9218868437227405312
      · rw [rnd_inf (by omega) hi]
        refine Ev.step (f := fun _ => some (((x.toNat : Nat) : Int), 0)) (fun k => ?_) (Ev.now _)
        rw [fathomref3_Round.j0, if_neg (by decide), na, Option.bind_some, if_neg (by rw [decide_eq_false hn]; decide), ia, Option.bind_some, if_pos (decide_eq_true hi)]
        congr 2; omega
      · obtain ⟨m, p, hr, hmB, hp, _, hpa⟩ := parts_ev h hx (by rw [sign_double, inf_double]; omega)
        rw [sign_double] at hr hpa
        rw [least_double] at hp
        rw [show Ieee.double.binade = 4503599627370496 by decide] at hmB
        rw [rnd_fin (by omega) (by omega) (by omega) hr]
        have htu := turned_ev hx (by omega) hp mode hpa
        generalize (x.toNat / 9223372036854775808 % 2 == 1) = s at *
        have hwb := whole_le (s := s) (m := m) (p := p) (mode := mode) (by omega) hp.2
        obtain ⟨K1, H1⟩ := htu
        obtain ⟨K2, H2⟩ := of_ev (a := 1) (by decide) (by decide)
        obtain ⟨K3, H3⟩ := write_ev h.toFw s (m := whole s m p mode) (by omega) 0 (by omega)
        refine ⟨K1 + K2 + K3 + 1, fun k hk => ?_⟩
        obtain ⟨k, rfl⟩ := fuel_out hk
        dsimp only at H1 H2 H3 ⊢
        have H2' : ∀ k, K2 ≤ k → fathomref3_Of.f k 1 = some (lim 1) := H2
        rw [fathomref3_Round.j0, if_neg (by decide), na, Option.bind_some, if_neg (by rw [decide_eq_false hn]; decide), ia, Option.bind_some, if_neg (by rw [decide_eq_false hi]; decide), sa, Option.bind_some, H1 k (by omega), Option.bind_some, H2' k (by omega), Option.bind_some, H3 k (by omega), Option.bind_some]

/-- What the whole word stands for. -/
theorem whole_word {x : Nat} (hf : x % 9223372036854775808 < 9218868437227405312) {m : Nat} {p : Int} {s : Bool} (hm : m < 9007199254740992) (hv : _root_.Fl.val Ieee.double (x % 9223372036854775808) = m * 2 ^ (p + 1074).toNat) (hp : -1074 ≤ p) (mode : Int) :
    ∃ r, r < 9218868437227405312 ∧ Ieee.double.nearest s (whole s m p mode) 0 = Ieee.double.word s r ∧ _root_.Fl.val Ieee.double r = whole s m p mode * 2 ^ 1074 := by
  obtain ⟨E, hE⟩ : ∃ E : Nat, E = 1074 := ⟨_, rfl⟩
  obtain ⟨q, k, hq, hqk⟩ : ∃ q k, q < 9007199254740992 ∧ whole s m p mode = q * 2 ^ k := by
    unfold whole
    by_cases hc : 0 ≤ p
    · rw [if_pos hc]; exact ⟨m, p.toNat, hm, rfl⟩
    · rw [if_neg hc]
      refine ⟨_, 0, ?_, by rw [Nat.pow_zero, Nat.mul_one]⟩
      have h1 : m / 2 ^ (-p).toNat ≤ m / 2 := Nat.div_le_div_left (by
        have : (2 : Nat) ^ 1 ≤ 2 ^ (-p).toNat := Nat.pow_le_pow_right (by decide) (by omega)
        exact this) (by decide)
      have h2 : (more s m (-p).toNat mode).toNat ≤ 1 := by cases more s m (-p).toNat mode <;> decide
      omega
  obtain ⟨r, hr⟩ := _root_.Fl.val_of Ieee.double (m := q) (by rw [show Ieee.double.binade = 4503599627370496 by decide]; omega) (k + E)
  have hv2 : _root_.Fl.val Ieee.double r = whole s m p mode * 2 ^ E := by rw [hr, hqk, Nat.mul_assoc, ← Nat.pow_add]
  have hlt : r < 9218868437227405312 := by
    rcases Nat.lt_or_ge r 9218868437227405312 with h | h
    · exact h
    · exfalso
      have h1 : _root_.Fl.val Ieee.double Ieee.double.infRung ≤ _root_.Fl.val Ieee.double r := _root_.Fl.val_mono Ieee.double (by rw [inf_double]; exact h)
      rw [hv2] at h1
      have h2 := _root_.Fl.val_strict Ieee.double (r := x % 9223372036854775808) (s := Ieee.double.infRung) (by rw [inf_double]; exact hf)
      by_cases hc : 0 ≤ p
      · have e : whole s m p mode * 2 ^ E = m * 2 ^ (p + 1074).toNat := by
          unfold whole
          rw [if_pos hc, Nat.mul_assoc, ← Nat.pow_add]; congr 2; omega
        rw [e, ← hv] at h1
        omega
      · have hk : whole s m p mode ≤ 9007199254740992 := by
          unfold whole
          rw [if_neg hc]
          have h3 : m / 2 ^ (-p).toNat ≤ m := Nat.div_le_self _ _
          have h4 : (more s m (-p).toNat mode).toNat ≤ 1 := by cases more s m (-p).toNat mode <;> decide
          omega
        have h5 : whole s m p mode * 2 ^ E ≤ 2 ^ 53 * 2 ^ E := Nat.mul_le_mul_right _ hk
        rw [← Nat.pow_add] at h5
        have h6 := Nat.le_trans h1 h5
        rw [_root_.Fl.val_inf_double] at h6
        have h8 := (Nat.pow_le_pow_iff_right (a := 2) (by decide)).1 h6
        omega
  refine ⟨r, hlt, ?_, by rw [hv2, hE]⟩
  refine _root_.Fl.nearest_val _root_.Fl.good_double s (by rw [inf_double]; exact hlt) _ 0 (by rw [least_double]; omega) ?_
  rw [hv2, least_double]
  congr 2

theorem whole_back {s : Bool} {m T E : Nat} {p : Int} (hE : E = 1074) (hp : -1074 ≤ p) (hv : m * 2 ^ (p + 1074).toNat = T * 2 ^ E) : whole s m p 2 = T := by
  unfold whole
  by_cases hc : 0 ≤ p
  · rw [if_pos hc]
    have e : (p + 1074).toNat = p.toNat + E := by omega
    rw [e, Nat.pow_add, ← Nat.mul_assoc] at hv
    exact Nat.eq_of_mul_eq_mul_right (Nat.two_pow_pos E) hv
  · rw [if_neg hc]
    obtain ⟨d, hd⟩ : ∃ d, d = (-p).toNat := ⟨_, rfl⟩
    rw [← hd]
    have e : E = d + (p + 1074).toNat := by omega
    rw [e, Nat.pow_add, ← Nat.mul_assoc] at hv
    have hm := Nat.eq_of_mul_eq_mul_right (Nat.two_pow_pos _) hv
    have hmore : more s m d 2 = false := by unfold more; rfl
    rw [hmore, hm, Nat.mul_div_cancel _ (Nat.two_pow_pos d)]; rfl

theorem sv_word (s : Bool) {r : Nat} (hr : r < 9218868437227405312) : _root_.Fl.sv Ieee.double (Ieee.double.word s r) = if s then -(_root_.Fl.val Ieee.double r : Int) else (_root_.Fl.val Ieee.double r : Int) := by
  have h : r < Ieee.double.signWeight := by rw [sign_double]; omega
  unfold _root_.Fl.sv
  rw [_root_.Fl.word_neg Ieee.double s h, _root_.Fl.word_rung Ieee.double s h]

theorem word_lt (s : Bool) {r : Nat} (hr : r ≤ 9218868437227405312) : Ieee.double.word s r < 18446744073709551616 ∧ Ieee.double.word s r % Ieee.double.signWeight = r := by
  have h : r < Ieee.double.signWeight := by rw [sign_double]; omega
  refine ⟨?_, _root_.Fl.word_rung Ieee.double s h⟩
  unfold Ieee.Format.word
  rw [sign_double]
  split <;> omega

theorem val_high (E : Nat) (hE : E = 1074) : _root_.Fl.val Ieee.double 4890909195324358656 = 9223372036854775808 * 2 ^ E := by
  rw [hE]; decide +kernel

theorem order_at {x y : Nat} (hx : x % Ieee.double.signWeight ≤ Ieee.double.infRung) (hy : y % Ieee.double.signWeight ≤ Ieee.double.infRung) :
    (FloatKind.f64.format.order x y == some .gt || FloatKind.f64.format.order x y == some .eq) = decide (_root_.Fl.sv Ieee.double y ≤ _root_.Fl.sv Ieee.double x) ∧
    (FloatKind.f64.format.order x y == some .lt) = decide (_root_.Fl.sv Ieee.double x < _root_.Fl.sv Ieee.double y) := by
  have h : FloatKind.f64.format.order x y = some (compare (_root_.Fl.sv Ieee.double x) (_root_.Fl.sv Ieee.double y)) := _root_.Fl.order_sv _root_.Fl.good_double hx hy
  rw [h]
  generalize _root_.Fl.sv Ieee.double x = a
  generalize _root_.Fl.sv Ieee.double y = b
  rw [_root_.Fl.compare_int]
  by_cases h1 : a < b
  · rw [if_pos h1, decide_eq_true h1, decide_eq_false (by omega)]; exact ⟨rfl, rfl⟩
  · rw [if_neg h1, decide_eq_false h1]
    by_cases h2 : a = b
    · rw [if_pos h2, decide_eq_true (by omega)]; exact ⟨rfl, rfl⟩
    · rw [if_neg h2, decide_eq_true (by omega)]; exact ⟨rfl, rfl⟩

/-- Within 64 bits, of a whole number. -/
theorem in_range (s : Bool) {r T E : Nat} (hr : r < 9218868437227405312) (hE : E = 1074) (hv : _root_.Fl.val Ieee.double r = T * 2 ^ E) :
    (Fl.geLow (Ieee.double.word s r) && Fl.ltHigh (Ieee.double.word s r)) = decide (if s then T ≤ 9223372036854775808 else T < 9223372036854775808) := by
  have hH := val_high E hE
  have hp := Nat.two_pow_pos E
  have w1 := (word_lt s (Nat.le_of_lt hr)).2
  have hlow : (14114281232179134464 : Nat) = Ieee.double.word true 4890909195324358656 := by decide +kernel
  have hhigh : (4890909195324358656 : Nat) = Ieee.double.word false 4890909195324358656 := by decide +kernel
  have o1 := order_at (x := Ieee.double.word s r) (y := 14114281232179134464) (by rw [w1, inf_double]; omega) (by rw [sign_double, inf_double]; decide)
  have o2 := order_at (x := Ieee.double.word s r) (y := 4890909195324358656) (by rw [w1, inf_double]; omega) (by rw [sign_double, inf_double]; decide)
  have sl : _root_.Fl.sv Ieee.double 14114281232179134464 = -((9223372036854775808 * 2 ^ E : Nat) : Int) := by
    rw [hlow, sv_word true (by decide), hH]; rfl
  have sh : _root_.Fl.sv Ieee.double 4890909195324358656 = ((9223372036854775808 * 2 ^ E : Nat) : Int) := by
    conv => lhs; rw [hhigh]
    rw [sv_word false (by decide), hH]; rfl
  unfold Fl.geLow Fl.ltHigh
  rw [o1.1, o2.2, sl, sh, sv_word s hr, hv]
  have k1 : T * 2 ^ E ≤ 9223372036854775808 * 2 ^ E ↔ T ≤ 9223372036854775808 := Nat.mul_le_mul_right_iff hp
  have k2 : T * 2 ^ E < 9223372036854775808 * 2 ^ E ↔ T < 9223372036854775808 := Nat.mul_lt_mul_right hp
  have k3 : 0 < 9223372036854775808 * 2 ^ E := Nat.mul_pos (by decide) hp
  generalize 9223372036854775808 * 2 ^ E = H at *
  generalize T * 2 ^ E = V at *
  cases s with
  | true =>
    simp only [if_true]
    rw [decide_eq_true (show -(V : Int) < (H : Int) by omega), Bool.and_true]
    exact decide_eq_decide.2 (by omega)
  | false =>
    simp only [Bool.false_eq_true, if_false]
    rw [decide_eq_true (show -(H : Int) ≤ (V : Int) by omega), Bool.true_and]
    exact decide_eq_decide.2 (by omega)

theorem to_val (s : Bool) {r T E : Nat} (hr : r < 9218868437227405312) (hE : E = 1074) (hv : _root_.Fl.val Ieee.double r = T * 2 ^ E) (hT : if s then T ≤ 9223372036854775808 else T < 9223372036854775808) :
    floatToIntVal .f64 (Ieee.double.word s r) .i64 = some (if s then -(T : Int) else (T : Int)) := by
  obtain ⟨m, p, hrd, hp, hvm, _⟩ := _root_.Fl.read_word_fin _root_.Fl.good_double s (r := r) (by rw [inf_double]; exact hr)
  rw [least_double] at hp hvm
  rw [show p - -1074 = p + 1074 by omega, hv] at hvm
  have hw := whole_back (s := s) hE hp hvm.symm
  have e : (FloatKind.f64.decode (Ieee.double.word s r)).toInt .zero = some (Ieee.signed s T 0) := by
    have e1 : FloatKind.f64.decode (Ieee.double.word s r) = .number s m p := hrd
    rw [e1]
    unfold Ieee.Datum.toInt
    rw [integral_whole .zero 2 (Or.inr (Or.inl ⟨rfl, rfl⟩)) s m p, hw]
  unfold floatToIntVal
  rw [e]
  simp only []
  have e2 : Ieee.signed s T 0 = if s then -(T : Int) else (T : Int) := by
    unfold Ieee.signed; rw [Nat.shiftLeft_zero]
  have emin : IntKind.i64.min = -9223372036854775808 := by decide
  have emax : IntKind.i64.max = 9223372036854775807 := by decide
  rw [e2, emin, emax]
  cases s with
  | true => simp only [if_true] at hT ⊢; rw [if_pos (by omega)]
  | false => simp only [Bool.false_eq_true, if_false] at hT ⊢; rw [if_pos (by omega)]

theorem toInt_ev {x mode : Int} (hx : InW Ieee.double x) : ∃ r, float_ToInt.f x mode = some r ∧ Ev (fun k => fathomref3_ToInt.f k x mode) r := by
  have h := fx64
  obtain ⟨x0, x1⟩ := in64.1 hx
  have start : ∀ {r : Int × Int}, Ev (fun k => fathomref3_ToInt.j0 k x mode (decide (mode < 0 ∨ 4 < mode))) r → Ev (fun k => fathomref3_ToInt.f k x mode) r := by
    intro r hr
    refine Ev.congr (fun k => ?_) hr
    unfold fathomref3_ToInt.f
    by_cases hm : mode < 0
    · rw [if_pos hm, decide_eq_true (Or.inl hm)]
    · rw [if_neg hm]; congr 1; exact decide_eq_decide.2 (by omega)
  have hin : In64 x := ⟨x0, x1⟩
  unfold float_ToInt.f
  rw [if_pos hin]
  by_cases hm : mode < 0 ∨ 4 < mode
  · have hr : Fl.rounds x mode = (0, 31) := by unfold Fl.rounds; rw [if_pos hm]
    rw [hr]
    refine ⟨(0, 31), rfl, start ?_⟩
    exact Ev.step (f := fun _ => some (0, 31)) (fun k => by rw [fathomref3_ToInt.j0, decide_eq_true hm, if_pos rfl]) (Ev.now _)
  · have hfi := rFinite64 x0 x1
    have out : ¬ x % 9223372036854775808 < 9218868437227405312 → Ev (fun k => fathomref3_ToInt.f k x mode) (0, 30) := fun hnf => by
      refine start (Ev.step (f := fun _ => some (0, 30)) (fun k => ?_) (Ev.now _))
      rw [fathomref3_ToInt.j0, decide_eq_false hm, if_neg (by decide), hfi, Option.bind_some, if_neg (by rw [decide_eq_false hnf]; decide)]
    have hr : Fl.rounds x mode = if Fl.isNan64 x = true then (Fl.one64, 0) else ((Fl.rnd x.toNat mode : Nat), 0) := by unfold Fl.rounds; rw [if_neg hm]
    rw [hr, isNan64_eq x0 x1]
    by_cases hn : 9218868437227405312 < x % 9223372036854775808
    · rw [decide_eq_true hn, if_pos rfl]
      have hg : (Fl.geLow Fl.one64.toNat && Fl.ltHigh Fl.one64.toNat) = false := by decide +kernel
      simp only [hg]
      exact ⟨(0, 30), rfl, out (by omega)⟩
    · rw [decide_eq_false hn, if_neg (by decide)]
      by_cases hi : x % 9223372036854775808 = 9218868437227405312
      · rw [rnd_inf (by omega) (by omega)]
        have h2 : x.toNat = 9218868437227405312 ∨ x.toNat = 18442240474082181120 := by omega
        have hg : (Fl.geLow (((x.toNat : Nat) : Int)).toNat && Fl.ltHigh (((x.toNat : Nat) : Int)).toNat) = false := by
          rw [Int.toNat_natCast]
          rcases h2 with h2 | h2 <;> rw [h2] <;> decide +kernel
        simp only [hg]
        exact ⟨(0, 30), rfl, out (by omega)⟩
      · obtain ⟨m, p, hrd, hmB, hp, _, hpa⟩ := parts_ev h hx (by rw [sign_double, inf_double]; omega)
        have hval := _root_.Fl.read_fin _root_.Fl.good_double x.toNat (by rw [sign_double, inf_double]; omega)
        obtain ⟨m', p', hrd', hp', hv', _⟩ := hval
        rw [hrd] at hrd'
        obtain ⟨q2, q3⟩ := num_inj hrd'
        subst q2 q3
        have sa := h.neg x hx
        rw [sign_double] at hrd hpa hv' sa
        rw [least_double] at hp hp' hv'
        rw [show p - -1074 = p + 1074 by omega] at hv'
        rw [show Ieee.double.binade = 4503599627370496 by decide] at hmB
        rw [rnd_fin (by omega) (by omega) (by omega) hrd]
        have htu := turned_ev hx (by omega) hp mode hpa
        generalize (x.toNat / 9223372036854775808 % 2 == 1) = s at *
        obtain ⟨r, hr1, hr2, hr3⟩ := whole_word (s := s) (x := x.toNat) (by omega) (by omega) hv' hp.1 mode
        have hwb := whole_le (s := s) (m := m) (p := p) (mode := mode) (by omega) hp.2
        generalize whole s m p mode = T at *
        rw [hr2]
        obtain ⟨E, hE⟩ : ∃ E : Nat, E = 1074 := ⟨_, rfl⟩
        rw [← hE] at hr3
        have hrange := in_range s hr1 hE hr3
        obtain ⟨K1, H1⟩ := htu
        obtain ⟨K2, H2⟩ := of_ev (a := 9223372036854775807) (by decide) (by decide)
        obtain ⟨K3, H3⟩ := of_ev (a := 9223372036854775808) (by decide) (by decide)
        have lT : (lim T).length < 1073741824 := by
          have := len_bl (k := 2100) hwb (by omega)
          omega
        obtain ⟨K4, H4⟩ := cmp_ev (a := T) (b := 9223372036854775807) lT
        obtain ⟨K5, H5⟩ := cmp_ev (a := T) (b := 9223372036854775808) lT
        have H2' : ∀ k, K2 ≤ k → fathomref3_Of.f k 9223372036854775807 = some (lim 9223372036854775807) := H2
        have H3' : ∀ k, K3 ≤ k → fathomref3_Of.f k 9223372036854775808 = some (lim 9223372036854775808) := H3
        have j0 : ∀ {q : Int × Int}, Ev (fun k => fathomref3_ToInt.j1 k x (lim T) (lim (if s then 9223372036854775808 else 9223372036854775807))) q → Ev (fun k => fathomref3_ToInt.f k x mode) q := by
          intro q hq
          refine start ?_
          obtain ⟨K6, H6⟩ := hq
          refine ⟨K1 + K2 + K3 + K6 + 1, fun k hk => ?_⟩
          obtain ⟨k, rfl⟩ := fuel_out hk
          dsimp only at H1 H6 ⊢
          rw [fathomref3_ToInt.j0, decide_eq_false hm, if_neg (by decide), hfi, Option.bind_some, if_pos (decide_eq_true (by omega)), H1 k (by omega), Option.bind_some, H2' k (by omega), Option.bind_some, sa, Option.bind_some]
          have H6 := H6 k (by omega)
          cases s with
          | true => rw [if_pos rfl, H3' k (by omega), Option.bind_some]; exact H6
          | false => rw [if_neg (by decide)]; exact H6
        have low := low64_eq T
        have hsg : ∀ c : Nat, (sgnN T c > 0 ↔ c < T) := fun c => by
          unfold sgnN
          by_cases h1 : T < c
          · rw [if_pos h1]; omega
          · rw [if_neg h1]
            by_cases h2 : c < T
            · rw [if_pos h2]; omega
            · rw [if_neg h2]; omega
        simp only [Int.toNat_natCast, hrange]
        by_cases hok : (if s then T ≤ 9223372036854775808 else T < 9223372036854775808)
        · rw [decide_eq_true hok, to_val s hr1 hE hr3 hok]
          refine ⟨_, rfl, j0 ?_⟩
          have hT64 : T < 18446744073709551616 := by
            cases s with
            | true => simp only [if_true] at hok; omega
            | false => simp only [Bool.false_eq_true, if_false] at hok; omega
          rw [Nat.mod_eq_of_lt hT64] at low
          refine ⟨K4 + K5 + 1, fun k hk => ?_⟩
          obtain ⟨k, rfl⟩ := fuel_out hk
          dsimp only at H4 H5 ⊢
          cases s with
          | true =>
            simp only [if_true] at hok ⊢
            rw [fathomref3_ToInt.j1, H5 k (by omega), Option.bind_some, if_neg (fun h' => by have := (hsg _).1 h'; omega), sa, Option.bind_some, if_pos rfl, low, Option.bind_some]
            congr 2
            rw [wrap_u64]; unfold wrap64; omega
          | false =>
            simp only [Bool.false_eq_true, if_false] at hok ⊢
            rw [fathomref3_ToInt.j1, H4 k (by omega), Option.bind_some, if_neg (fun h' => by have := (hsg _).1 h'; omega), sa, Option.bind_some, if_neg (by decide), low, Option.bind_some]
            congr 2
            unfold wrap64; omega
        · rw [decide_eq_false hok]
          refine ⟨(0, 30), rfl, j0 ?_⟩
          refine ⟨K4 + K5 + 1, fun k hk => ?_⟩
          obtain ⟨k, rfl⟩ := fuel_out hk
          dsimp only at H4 H5 ⊢
          cases s with
          | true =>
            simp only [if_true] at hok ⊢
            rw [fathomref3_ToInt.j1, H5 k (by omega), Option.bind_some, if_pos ((hsg _).2 (by omega))]
          | false =>
            simp only [Bool.false_eq_true, if_false] at hok ⊢
            rw [fathomref3_ToInt.j1, H4 k (by omega), Option.bind_some, if_pos ((hsg _).2 (by omega))]

theorem ofInt64 (v : Int) : (floatOfInt .f64 v : Nat) = Ieee.double.nearest (decide (v < 0)) v.natAbs 0 := rfl
theorem ofInt32 (v : Int) : (floatOfInt .f32 v : Nat) = Ieee.single.nearest (decide (v < 0)) v.natAbs 0 := rfl

theorem fromInt_ev {v : Int} (h : -9223372036854775808 ≤ v ∧ v < 9223372036854775808) : Ev (fun k => fathomref3_FromInt.f k v) ((floatOfInt .f64 v : Nat) : Int) := by
  obtain ⟨K, H⟩ := from_ev fw64 (decide (v < 0)) (n := v.natAbs) (by omega)
  refine ⟨K, fun k hk => ?_⟩
  have H := H k hk
  dsimp only at H ⊢
  unfold fathomref3_FromInt.f
  rw [mag_eq h, Option.bind_some, ofInt64, ← H]
  cases fathomref3_Of.f k (v.natAbs : Int) with
  | none => rfl
  | some t => cases fathomref3_Of.f k 1 with
    | none => rfl
    | some o => simp only [Option.bind_some, Option.bind_fun_some]
theorem fromUint_ev {v : Int} (h : 0 ≤ v ∧ v < 18446744073709551616) : Ev (fun k => fathomref3_FromUint.f k v) ((floatOfInt .f64 v : Nat) : Int) := by
  obtain ⟨K, H⟩ := from_ev fw64 false (n := v.natAbs) (by omega)
  refine ⟨K, fun k hk => ?_⟩
  have H := H k hk
  dsimp only at H ⊢
  have e : ((v.natAbs : Nat) : Int) = v := by omega
  rw [e] at H
  unfold fathomref3_FromUint.f
  rw [ofInt64, decide_eq_false (show ¬ v < 0 by omega), ← H]
  cases fathomref3_Of.f k v with
  | none => rfl
  | some t => cases fathomref3_Of.f k 1 with
    | none => rfl
    | some o => simp only [Option.bind_some, Option.bind_fun_some]
theorem fromInt32_ev {v : Int} (h : -9223372036854775808 ≤ v ∧ v < 9223372036854775808) : Ev (fun k => fathomref3_FromInt32.f k v) ((floatOfInt .f32 v : Nat) : Int) := by
  obtain ⟨K, H⟩ := from_ev fw32 (decide (v < 0)) (n := v.natAbs) (by omega)
  refine ⟨K, fun k hk => ?_⟩
  have H := H k hk
  have hlt := near32_lt (decide (v < 0)) v.natAbs
  dsimp only at H ⊢
  unfold fathomref3_FromInt32.f
  rw [mag_eq h, Option.bind_some, ofInt32]
  cases h1 : fathomref3_Of.f k (v.natAbs : Int) with
  | none => rw [h1] at H; cases H
  | some t =>
    rw [h1] at H
    cases h2 : fathomref3_Of.f k 1 with
    | none => rw [h2] at H; cases H
    | some o =>
      rw [h2] at H
      simp only [Option.bind_some] at H ⊢
      rw [H, Option.bind_some]
      congr 1; omega

theorem FloatWhole (l : List S44) (hm : l.length ≤ maxLen) (hw : ∀ y ∈ l, ∃ p q, y = S44.mk p q ∧ (Lit.int .u64 p).wf = true ∧ (Lit.int .i64 q).wf = true) : ∃ k, fathomlaw3_FloatWhole.f k l = some true := by
  refine rounds_of (g := fun k i => fathomlaw3_FloatWhole.l0 k l (i : Int)) (n := l.length) (fun i h => ?_) (fun i hi h2 ih => ?_)
  · refine Ev.step (f := fun k => fathomlaw3_FloatWhole.j1 k l i false) (fun k => ?_) ?_
    · simp only [fathomlaw3_FloatWhole.l0]
      by_cases hi : i < l.length
      · rw [if_pos (by omega), decide_eq_false (by omega)]
      · rw [if_neg (by omega)]
    · exact Ev.step (f := fun _ => some true) (fun k => by simp [fathomlaw3_FloatWhole.j1, fathomlaw3_wakes.f]) (Ev.now true)
  · have a0 := rng hw hi
    have hwr := wrap_next hi hm
    refine Ev.step (f := fun k => fathomlaw3_FloatWhole.j1 k l i true) (fun k => by simp only [fathomlaw3_FloatWhole.l0]; rw [if_pos (by omega), decide_eq_true (by omega)]) ?_
    obtain ⟨a, ea⟩ : ∃ a, a = (rd_T44 l (i : Int)).f0 := ⟨_, rfl⟩
    obtain ⟨mode, eb⟩ : ∃ b, b = (rd_T44 l (i : Int)).f1 := ⟨_, rfl⟩
    rw [← ea] at a0
    have ha := in64.2 a0
    have hv : -9223372036854775808 ≤ wrap64 a ∧ wrap64 a < 9223372036854775808 := by unfold wrap64; omega
    obtain ⟨K, H⟩ := ih
    obtain ⟨K1, H1⟩ := fromInt_ev hv
    obtain ⟨K2, H2⟩ := fromUint_ev a0
    obtain ⟨K3, H3⟩ := fromInt32_ev hv
    obtain ⟨r, hr, K4, H4⟩ := toInt_ev (mode := mode) ha
    obtain ⟨K5, H5⟩ := round_ev (mode := mode) ha
    refine ⟨K + K1 + K2 + K3 + K4 + K5 + 3, fun k hk => ?_⟩
    obtain ⟨k, rfl⟩ : ∃ m, k = m + 3 := ⟨k - 3, by omega⟩
    dsimp only at H H1 H2 H3 H4 H5 ⊢
    have hround : float_Round.f a mode = some (Fl.rounds a mode) := by
      unfold float_Round.f
      have hin : In64 a := a0
      rw [if_pos hin]
    rw [fathomlaw3_FloatWhole.j1, if_pos rfl, if_pos (by omega), if_pos (by omega), ← ea]
    simp only [float_FromInt.f, float_FromUint.f, float_FromInt32.f, Option.bind_some]
    rw [H1 _ (by omega), Option.bind_some, if_pos rfl, H2 _ (by omega), Option.bind_some, if_pos rfl, H3 _ (by omega), Option.bind_some, bne_self_eq_false, fathomlaw3_FloatWhole.j2, if_neg (by decide), if_pos (by omega), if_pos (by omega), ← eb, hr, Option.bind_some, H4 _ (by omega), Option.bind_some, if_pos rfl]
    simp only [fathomlaw3_num.f, Option.bind_some]
    rw [bne_self_eq_false, fathomlaw3_FloatWhole.j3, if_neg (by decide), if_pos (by omega), if_pos (by omega), ← eb, hround, Option.bind_some, H5 _ (by omega), Option.bind_some, if_pos rfl]
    simp only [fathomlaw3_num.f, Option.bind_some]
    rw [if_pos trivial, hwr]
    exact H _ (by omega)
end Go.Proofs.Ytfloeiagdegpjaa.ZWhole
