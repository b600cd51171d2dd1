/- FloatErrors, over lists and whole numbers alone: what a sum, a product has lost, exactly. -/
import Derived.Test.YtfloeiagdegpjaaLErrors
import Derived.Test.YtfloeiagdegpjaaQu
import Derived.Test.YtfloeiagdegpjaaPj
namespace Go.Proofs.Ytfloeiagdegpjaa.ZErrors
open Go.RowKit Go.Proofs.YtfloeiagdegpjaaW.PrintWords Go.Proofs.Ytfloeiagdegpjaa.Rf Go.Proofs.Ytfloeiagdegpjaa.LErrors Go.Proofs.Ytfloeiagdegpjaa.Q
open Ieee (Format Datum)
set_option linter.unusedVariables false
set_option linter.unusedSimpArgs false

theorem rng {l : List S39} (hw : ∀ y ∈ l, ∃ p q, y = S39.mk p q ∧ (Lit.int .u64 p).wf = true ∧ (Lit.int .u64 q).wf = true) {i : Nat} (hi : i < l.length) :
    (0 ≤ (rd_T39 l (i : Int)).f0 ∧ (rd_T39 l (i : Int)).f0 < 18446744073709551616) ∧ (0 ≤ (rd_T39 l (i : Int)).f1 ∧ (rd_T39 l (i : Int)).f1 < 18446744073709551616) := by
  unfold rd_T39
  rw [Int.toNat_natCast, List.getD_eq_getElem?_getD, List.getElem?_eq_getElem hi]
  obtain ⟨p, q, e, h1, h2⟩ := hw _ (List.getElem_mem hi)
  rw [Option.getD_some, e]
  exact ⟨wf_u64 h1, wf_u64 h2⟩

/-- A finite word. -/
def Fin (x : Int) : Prop := 0 ≤ x ∧ x < 18446744073709551616 ∧ x.toNat % 9223372036854775808 < 9218868437227405312
/-- Its number. -/
def V (x : Int) : Int := _root_.Fl.sv Ieee.double x.toNat

theorem Fin.nat {x : Int} (h : Fin x) : x.toNat % Ieee.double.signWeight < Ieee.double.infRung := by rw [sign_double, inf_double]; exact h.2.2

theorem fin_eq {x : Int} (h0 : 0 ≤ x) (h1 : x < 18446744073709551616) : fathomlaw3_finite.f x = some (decide (x.toNat % 9223372036854775808 < 9218868437227405312)) := by
  unfold fathomlaw3_finite.f
  rw [Fl.andNot64 h0 h1]
  congr 1; exact decide_eq_decide.2 (by omega)

theorem near_lt (neg : Bool) (m : Nat) (p : Int) : Ieee.double.nearest neg m p < 18446744073709551616 := by
  obtain ⟨r, h1, h2⟩ := _root_.Fl.nearest_word Ieee.double neg m p
  rw [h1]
  rw [inf_double] at h2
  unfold Ieee.Format.word
  rw [sign_double]
  split <;> omega

theorem read_flip {b b' : Nat} (h1 : b' % Ieee.double.signWeight = b % Ieee.double.signWeight) (h2 : (b' / Ieee.double.signWeight % 2 == 1) = !(b / Ieee.double.signWeight % 2 == 1)) : Ieee.double.read b' = (Ieee.double.read b).opposite := by
  unfold Ieee.Format.read
  simp only [h1, h2]
  split
  · rfl
  · split
    · rfl
    · split <;> rfl

/-- The word with the other sign. -/
theorem flip_fin {x : Int} (h : Fin x) : ∃ y, Fin y ∧ V y = -V x ∧ y = Go.bits .xor .u64 x 9223372036854775808 ∧ Ieee.double.read y.toNat = (Ieee.double.read x.toNat).opposite := by
  obtain ⟨h0, h1, h2⟩ := h
  refine ⟨_, ?_, ?_, rfl, ?_⟩
  · rw [xor_sign64 h0 h1]
    unfold Fin
    split <;> omega
  · rw [xor_sign64 h0 h1]
    unfold V _root_.Fl.sv
    rw [sign_double]
    by_cases hc : x < 9223372036854775808
    · rw [if_pos hc]
      have e1 : (x + 9223372036854775808).toNat % 9223372036854775808 = x.toNat % 9223372036854775808 := by omega
      have e2 : (x + 9223372036854775808).toNat / 9223372036854775808 % 2 = 1 := by omega
      have e3 : x.toNat / 9223372036854775808 % 2 = 0 := by omega
      rw [e1, e2, e3]; rfl
    · rw [if_neg hc]
      have e1 : (x - 9223372036854775808).toNat % 9223372036854775808 = x.toNat % 9223372036854775808 := by omega
      have e2 : (x - 9223372036854775808).toNat / 9223372036854775808 % 2 = 0 := by omega
      have e3 : x.toNat / 9223372036854775808 % 2 = 1 := by omega
      rw [e1, e2, e3]; simp
  · rw [xor_sign64 h0 h1]
    refine read_flip ?_ ?_
    · rw [sign_double]; split <;> omega
    · rw [sign_double]
      by_cases hc : x < 9223372036854775808
      · rw [if_pos hc]
        have e2 : (x + 9223372036854775808).toNat / 9223372036854775808 % 2 = 1 := by omega
        have e3 : x.toNat / 9223372036854775808 % 2 = 0 := by omega
        rw [e2, e3]; rfl
      · rw [if_neg hc]
        have e2 : (x - 9223372036854775808).toNat / 9223372036854775808 % 2 = 0 := by omega
        have e3 : x.toNat / 9223372036854775808 % 2 = 1 := by omega
        rw [e2, e3]; rfl

/-- A sum of finite words: a word; where it is finite it is a nearest float. -/
theorem add_word {x y : Int} (hx : Fin x) (hy : Fin y) : ∃ s : Int, float_Add_uint64.f x y = some s ∧ 0 ≤ s ∧ s < 18446744073709551616 ∧ (s.toNat % 9223372036854775808 < 9218868437227405312 → _root_.Fl.N (V x + V y) (V s)) := by
  obtain ⟨t, base, b, _, ha, _⟩ := _root_.Fl.sum_cases hx.nat hy.nat
  refine ⟨((Ieee.double.nearest (if t = 0 then b else decide (t < 0)) t.natAbs base : Nat) : Int), ?_, Int.natCast_nonneg _, by have := near_lt (if t = 0 then b else decide (t < 0)) t.natAbs base; omega, fun hf => ?_⟩
  · unfold float_Add_uint64.f; rw [ha]; rfl
  · unfold V
    rw [Int.toNat_natCast] at hf ⊢
    exact _root_.Fl.add_N hx.nat hy.nat ha (by rw [sign_double, inf_double]; exact hf)

theorem add_exact {x y : Int} (hx : Fin x) (hy : Fin y) (hF : _root_.Fl.F (V x + V y)) (hb : (V x + V y).natAbs < _root_.Fl.val Ieee.double Ieee.double.infRung) : ∃ s : Int, float_Add_uint64.f x y = some s ∧ Fin s ∧ V s = V x + V y := by
  obtain ⟨s, h1, h2, h3⟩ := _root_.Fl.add_exact hx.nat hy.nat hF hb
  obtain ⟨t, base, b, _, ha, _⟩ := _root_.Fl.sum_cases hx.nat hy.nat
  have hs : s < 18446744073709551616 := by
    rw [ha] at h1
    rw [← Option.some.inj h1]; exact near_lt _ _ _
  rw [sign_double, inf_double] at h2
  refine ⟨(s : Int), ?_, ⟨by omega, by omega, by rw [Int.toNat_natCast]; exact h2⟩, ?_⟩
  · unfold float_Add_uint64.f; rw [h1]; rfl
  · unfold V; rw [Int.toNat_natCast]; exact h3

theorem sub_add {x y y' : Int} (h : Ieee.double.read y'.toNat = (Ieee.double.read y.toNat).opposite) : float_Sub_uint64.f x y = float_Add_uint64.f x y' := by
  unfold float_Sub_uint64.f float_Add_uint64.f Format.sub Format.add
  rw [h]

theorem sub_word {x y : Int} (hx : Fin x) (hy : Fin y) : ∃ s : Int, float_Sub_uint64.f x y = some s ∧ 0 ≤ s ∧ s < 18446744073709551616 ∧ (s.toNat % 9223372036854775808 < 9218868437227405312 → _root_.Fl.N (V x - V y) (V s)) := by
  obtain ⟨y', f1, f2, _, f4⟩ := flip_fin hy
  obtain ⟨s, s1, s2, s3, s4⟩ := add_word hx f1
  refine ⟨s, by rw [sub_add f4]; exact s1, s2, s3, fun hf => ?_⟩
  have := s4 hf
  rw [f2, ← Int.sub_eq_add_neg] at this
  exact this

theorem sub_exact {x y : Int} (hx : Fin x) (hy : Fin y) (hF : _root_.Fl.F (V x - V y)) (hb : (V x - V y).natAbs < _root_.Fl.val Ieee.double Ieee.double.infRung) : ∃ s : Int, float_Sub_uint64.f x y = some s ∧ Fin s ∧ V s = V x - V y := by
  obtain ⟨y', f1, f2, _, f4⟩ := flip_fin hy
  have e : V x + V y' = V x - V y := by rw [f2, ← Int.sub_eq_add_neg]
  obtain ⟨s, s1, s2, s3⟩ := add_exact hx f1 (by rw [e]; exact hF) (by rw [e]; exact hb)
  exact ⟨s, by rw [sub_add f4]; exact s1, s2, by rw [s3, e]⟩

theorem V_lt {x : Int} (h : Fin x) : (V x).natAbs < _root_.Fl.val Ieee.double Ieee.double.infRung := by
  have := _root_.Fl.val_strict Ieee.double h.nat
  have h2 := _root_.Fl.sv_abs Ieee.double x.toNat
  unfold V
  omega

theorem V_F {x : Int} : _root_.Fl.F (V x) := by
  unfold V _root_.Fl.sv
  split
  · exact (_root_.Fl.F_val _).neg
  · exact _root_.Fl.F_val _

/-- A word's sign and magnitude. -/
theorem V_sgd {x : Int} (h0 : 0 ≤ x) (h1 : x < 18446744073709551616) : V x = sgd (decide (9223372036854775808 ≤ x)) (dv x) := by
  unfold V _root_.Fl.sv sgd dv
  rw [sign_double]
  by_cases hc : 9223372036854775808 ≤ x
  · rw [decide_eq_true hc, if_pos rfl, if_pos (beq_iff_eq.2 (by omega))]
  · rw [decide_eq_false hc, if_neg (show ¬ (x.toNat / 9223372036854775808 % 2 == 1) = true from fun h => by have := beq_iff_eq.1 h; omega), if_neg (by decide)]

/-! The product -/
theorem write_lt {d : Datum} (hd : d.isNaN = false) : Ieee.double.write d < 18446744073709551616 := by
  obtain ⟨neg, r, h1, h2⟩ := _root_.Fl.write_word Ieee.double hd
  rw [h1]
  rw [inf_double] at h2
  unfold Ieee.Format.word
  rw [sign_double]
  split <;> omega

theorem mul_word {x y : Int} (hx : Fin x) (hy : Fin y) : ∃ p : Nat, Ieee.double.mul x.toNat y.toNat = some p ∧ p < 18446744073709551616 ∧ (V x * V y = 0 → p % 9223372036854775808 = 0) := by
  obtain ⟨m, i, rx, hi, vx, _⟩ := _root_.Fl.read_fin _root_.Fl.good_double x.toNat hx.nat
  obtain ⟨n, j, ry, hj, vy, _⟩ := _root_.Fl.read_fin _root_.Fl.good_double y.toNat hy.nat
  obtain ⟨r, g1, g2⟩ := _root_.Fl.mul_numbers Ieee.double (by decide) (x.toNat / Ieee.double.signWeight % 2 == 1) (y.toNat / Ieee.double.signWeight % 2 == 1) m n i j
  refine ⟨_, by unfold Format.mul; rw [rx, ry]; exact g1, ?_, fun hz => ?_⟩
  · have := g2.le
    rw [inf_double] at this
    unfold Ieee.Format.word
    rw [sign_double]
    split <;> omega
  · have sx := _root_.Fl.sv_read vx
    have sy := _root_.Fl.sv_read vy
    have hmn : m * n = 0 := by
      rcases Int.mul_eq_zero.1 hz with h | h
      · have hm : m = 0 := by
          unfold V at h
          rw [sx] at h
          have h' : ((m * 2 ^ (i + 1074).toNat : Nat) : Int) = 0 := by
            generalize ((m * 2 ^ (i + 1074).toNat : Nat) : Int) = Z at *
            split at h <;> omega
          have h2 : m * 2 ^ (i + 1074).toNat = 0 := by omega
          rcases Nat.mul_eq_zero.1 h2 with h3 | h3
          · exact h3
          · exact absurd h3 (Nat.ne_of_gt (Nat.two_pow_pos _))
        rw [hm, Nat.zero_mul]
      · have hn : n = 0 := by
          unfold V at h
          rw [sy] at h
          have h' : ((n * 2 ^ (j + 1074).toNat : Nat) : Int) = 0 := by
            generalize ((n * 2 ^ (j + 1074).toNat : Nat) : Int) = Z at *
            split at h <;> omega
          have h2 : n * 2 ^ (j + 1074).toNat = 0 := by omega
          rcases Nat.mul_eq_zero.1 h2 with h3 | h3
          · exact h3
          · exact absurd h3 (Nat.ne_of_gt (Nat.two_pow_pos _))
        rw [hn, Nat.mul_zero]
    rw [hmn] at g2
    have hr : r = 0 := g2.unique (_root_.Fl.near_zero Ieee.double 1 (i + j) Nat.one_pos)
    rw [hr]
    unfold Ieee.Format.word
    rw [sign_double]
    split <;> decide

theorem fma_lt {x y z r : Nat} (h : Ieee.double.fma x y z = some r) : r < 18446744073709551616 := by
  unfold Format.fma at h
  cases hp : (Ieee.double.read x).product (Ieee.double.read y) with
  | none => rw [hp] at h; cases h
  | some d =>
    rw [hp, Option.bind_some] at h
    cases hs : d.sum (Ieee.double.read z) with
    | none => rw [hs] at h; cases h
    | some q =>
      rw [hs] at h
      obtain rfl := Option.some.inj h
      exact write_lt (_root_.Fl.sum_nan hs)

theorem xor_top {a b : Int} (a0 : 0 ≤ a) (a1 : a < 18446744073709551616) (b0 : 0 ≤ b) (b1 : b < 18446744073709551616) :
    (Go.bits .and .u64 (Go.bits .xor .u64 a b) 9223372036854775808 != 0) = (decide (9223372036854775808 ≤ a) ^^ decide (9223372036854775808 ≤ b)) := by
  rw [u64_xor a b a0 a1 b0 b1]
  have hx : a.toNat ^^^ b.toNat < 2 ^ 64 := Nat.xor_lt_two_pow (by rw [show (2 : Nat) ^ 64 = 18446744073709551616 by decide]; omega) (by rw [show (2 : Nat) ^ 64 = 18446744073709551616 by decide]; omega)
  rw [show (2 : Nat) ^ 64 = 18446744073709551616 by decide] at hx
  rw [u64_and _ _ (Int.natCast_nonneg _) (by omega) (by omega) (by omega), Int.toNat_natCast, show (9223372036854775808 : Int).toNat = 2 ^ 63 by decide, and_pow, Nat.testBit_xor, Nat.testBit_eq_decide_div_mod_eq, Nat.testBit_eq_decide_div_mod_eq]
  have e : ∀ {c : Int}, 0 ≤ c → c < 18446744073709551616 → decide (c.toNat / 2 ^ 63 % 2 = 1) = decide (9223372036854775808 ≤ c) := fun h0 h1 => decide_eq_decide.2 (by rw [show (2 : Nat) ^ 63 = 9223372036854775808 by decide]; omega)
  rw [e a0 a1, e b0 b1]
  cases decide (9223372036854775808 ≤ a) <;> cases decide (9223372036854775808 ≤ b) <;> rfl

theorem sgd_sign {u st : Bool} {c w : Nat} {P : Nat} (hP : 0 < P) (hw : 0 < w) (h : sgd st w = sgd u c * (P : Int)) : u = st ∧ w = c * P := by
  have hc : ((c * P : Nat) : Int) = (c : Int) * (P : Int) := by simp
  unfold sgd at h
  cases u <;> cases st <;> simp only [Bool.false_eq_true, if_false, if_true, Int.neg_mul] at h <;> rw [← hc] at h <;> refine ⟨?_, ?_⟩ <;> first | rfl | omega | (exfalso; omega)

theorem sgd_mul (s t : Bool) (a b : Nat) : sgd s a * sgd t b = sgd (s ^^ t) (a * b) := by
  unfold sgd
  cases s <;> cases t <;> simp [Int.neg_mul, Int.mul_neg]

theorem fin_word {x : Int} (h : Fin x) : fathomlaw3_finite.f x = some true := by
  rw [fin_eq h.1 h.2.1, decide_eq_true h.2.2]

theorem len_two_at {k x y c : Nat} (hk : k < 20000000) (h1 : x < 2 ^ k) (h2 : y < 2 ^ k) (h : c ≤ x + y) : (lim c).length < 1073741824 := by
  refine len_pow (n := c) (k := k + 1) ?_ (by omega)
  rw [Nat.pow_succ]
  generalize 2 ^ k = P at *
  omega
theorem len_prod_at {k x y : Nat} (hk : k < 10000000) (h1 : x < 2 ^ k) (h2 : y < 2 ^ k) : (lim (x * y)).length < 1073741824 := by
  refine len_pow (n := x * y) (k := k + k) ?_ (by omega)
  rw [Nat.pow_add]
  exact Nat.mul_lt_mul_of_lt_of_le h1 (Nat.le_of_lt h2) (Nat.two_pow_pos k)
theorem len_two {x y c : Nat} (h1 : x < 2 ^ 2100) (h2 : y < 2 ^ 2100) (h : c ≤ x + y) : (lim c).length < 1073741824 := len_two_at (k := 2100) (by omega) h1 h2 h
theorem len_prod {x y : Nat} (h1 : x < 2 ^ 2100) (h2 : y < 2 ^ 2100) : (lim (x * y)).length < 1073741824 := len_prod_at (k := 2100) (by omega) h1 h2

/-- The product: what it has lost, the fused sum tells. -/
theorem err5 {l : List S39} {i : Nat} {a b : Int} {p : Nat} (ha : Fin a) (hb : Fin b) (hmul : Ieee.double.mul a.toNat b.toNat = some p) (p1 : p < 18446744073709551616) (hz : V a * V b = 0 → p % 9223372036854775808 = 0)
    (hp : p % 9223372036854775808 < 9218868437227405312) (hbig : 288230376151711744 ≤ p % 9223372036854775808)
    (hwr : wrap64 ((i : Int) + 1) = ((i + 1 : Nat) : Int)) (ih : Ev (fun k => fathomlaw3_FloatErrors.l0 k l ((i + 1 : Nat) : Int)) true) :
    Ev (fun k => fathomlaw3_FloatErrors.j5 k l i a b (p : Int) false) true := by
  have hpf : Fin (p : Int) := ⟨Int.natCast_nonneg _, by omega, by rw [Int.toNat_natCast]; exact hp⟩
  obtain ⟨y', f1, f2, f3, f4⟩ := flip_fin hpf
  rw [Int.toNat_natCast] at f4
  obtain ⟨G, hG⟩ : ∃ G : Nat, G = 1074 := ⟨_, rfl⟩
  obtain ⟨e, r, g1, g2, g3, g4⟩ := _root_.Fl.mul_fma ha.nat hb.nat hmul (by rw [sign_double, inf_double]; exact hp) (by rw [sign_double]; exact hbig) f4 G hG
  have hr := fma_lt g1
  rw [sign_double, inf_double] at g2
  have hrf : Fin (r : Int) := ⟨Int.natCast_nonneg _, by omega, by rw [Int.toNat_natCast]; exact g2⟩
  have hfma : float_Fma.f a b (Go.bits .xor .u64 (p : Int) 9223372036854775808) = some (r : Int) := by
    unfold float_Fma.f; rw [← f3, g1]; rfl
  obtain ⟨u, c, ⟨K1, H1⟩, hs, hle⟩ := plus_ev (s := decide (9223372036854775808 ≤ (p : Int))) (t := decide (9223372036854775808 ≤ (r : Int))) (len_dv (p : Int)) (len_dv (r : Int))
  have key : V a * V b = (V (p : Int) + V (r : Int)) * ((2 ^ G : Nat) : Int) := by
    unfold V
    rw [Int.toNat_natCast, Int.toNat_natCast, g3]; exact g4
  rw [V_sgd ha.1 ha.2.1, V_sgd hb.1 hb.2.1, V_sgd hpf.1 hpf.2.1, V_sgd hrf.1 hrf.2.1, ← hs, sgd_mul] at key
  rw [V_sgd ha.1 ha.2.1, V_sgd hb.1 hb.2.1, sgd_mul] at hz
  have hw0 : 0 < dv a * dv b := by
    rcases Nat.eq_zero_or_pos (dv a * dv b) with h | h
    · exfalso
      rw [h] at hz
      have := hz (by unfold sgd; split <;> rfl)
      omega
    · exact h
  obtain ⟨hu, hc⟩ := sgd_sign (Nat.two_pow_pos G) hw0 key
  have hcl : (lim c).length < 1073741824 := by
    have h1 := dv_lt (p : Int)
    have h2 := dv_lt (r : Int)
    exact len_two h1 h2 hle
  obtain ⟨K0, H0⟩ := ih
  obtain ⟨K2, H2⟩ := units_ev ha.1 ha.2.1
  obtain ⟨K3, H3⟩ := units_ev hb.1 hb.2.1
  obtain ⟨K4, H4⟩ := times_ev (len_dv a) (len_dv b)
  obtain ⟨K5, H5⟩ := of_law_ev hpf.1 hpf.2.1
  obtain ⟨K6, H6⟩ := of_law_ev hrf.1 hrf.2.1
  obtain ⟨K7, H7⟩ := up2_ev (a := G) hcl (by omega)
  have hml : (lim (dv a * dv b)).length < 1073741824 := by
    have h1 := dv_lt a
    have h2 := dv_lt b
    exact len_prod h1 h2
  obtain ⟨K8, H8⟩ := eqNat_ev (b := c * 2 ^ G) hml
  have hG' : (1074 : Int) = ((G : Nat) : Int) := by omega
  refine ⟨K0 + K1 + K2 + K3 + K4 + K5 + K6 + K7 + K8 + 1, fun k hk => ?_⟩
  obtain ⟨k, rfl⟩ : ∃ m, k = m + 1 := ⟨k - 1, by omega⟩
  dsimp only [-Nat.reducePow, -Int.reducePow] at H0 H1 H2 H3 H4 H5 H6 H7 H8 ⊢
  rw [fathomlaw3_FloatErrors.j5, if_neg (by decide), hfma, Option.bind_some, H2 k (by omega), Option.bind_some, H3 k (by omega), Option.bind_some, H4 k (by omega), Option.bind_some, H5 k (by omega), Option.bind_some, H6 k (by omega), Option.bind_some, H1 k (by omega), Option.bind_some, fin_word hrf, Option.bind_some, if_pos rfl, hG', H7 k (by omega), Option.bind_some, H8 k (by omega), Option.bind_some, if_pos (decide_eq_true hc), xor_top ha.1 ha.2.1 hb.1 hb.2.1, hu, bne_self_eq_false, if_neg (by decide), hwr]
  exact H0 k (by omega)

/-- The product, whatever it is. -/
theorem err4 {l : List S39} {i : Nat} {a b : Int} (ha : Fin a) (hb : Fin b) (hwr : wrap64 ((i : Int) + 1) = ((i + 1 : Nat) : Int)) (ih : Ev (fun k => fathomlaw3_FloatErrors.l0 k l ((i + 1 : Nat) : Int)) true) :
    Ev (fun k => fathomlaw3_FloatErrors.j4 k l i a b false) true := by
  obtain ⟨p, m1, m2, m3⟩ := mul_word ha hb
  have hmul : float_Mul_uint64.f a b = some (p : Int) := by unfold float_Mul_uint64.f; rw [m1]; rfl
  have p0 : (0 : Int) ≤ (p : Int) := Int.natCast_nonneg _
  have p1 : (p : Int) < 18446744073709551616 := by omega
  have skip : Ev (fun k => fathomlaw3_FloatErrors.j5 k l i a b (p : Int) true) true :=
    Ev.step (fun k => by rw [fathomlaw3_FloatErrors.j5, if_pos rfl, hwr]) ih
  have hfe := fin_eq p0 p1
  rw [Int.toNat_natCast] at hfe
  by_cases hf : p % 9223372036854775808 < 9218868437227405312
  · by_cases hbig : 288230376151711744 ≤ p % 9223372036854775808
    · refine Ev.step (fun k => ?_) (err5 ha hb m1 m2 m3 hf hbig hwr ih)
      rw [fathomlaw3_FloatErrors.j4, if_neg (by decide), hmul, Option.bind_some, hfe, Option.bind_some, if_pos (decide_eq_true hf), Fl.andNot64 p0 p1, decide_eq_false (by omega)]
    · refine Ev.step (fun k => ?_) skip
      rw [fathomlaw3_FloatErrors.j4, if_neg (by decide), hmul, Option.bind_some, hfe, Option.bind_some, if_pos (decide_eq_true hf), Fl.andNot64 p0 p1, decide_eq_true (by omega)]
  · refine Ev.step (fun k => ?_) skip
    rw [fathomlaw3_FloatErrors.j4, if_neg (by decide), hmul, Option.bind_some, hfe, Option.bind_some, if_neg (by rw [decide_eq_false hf]; decide)]

/-- The sum: what it has lost. -/
theorem err3 {l : List S39} {i : Nat} {a b s c d : Int} (ha : Fin a) (hb : Fin b) (hs : Fin s) (hc : Fin c) (hd : Fin d) (ns : _root_.Fl.N (V a + V b) (V s)) (nc : _root_.Fl.N (V s - V a) (V c)) (nd : _root_.Fl.N (V s - V c) (V d))
    (hwr : wrap64 ((i : Int) + 1) = ((i + 1 : Nat) : Int)) (ih : Ev (fun k => fathomlaw3_FloatErrors.l0 k l ((i + 1 : Nat) : Int)) true) :
    Ev (fun k => fathomlaw3_FloatErrors.j3 k l i a b s c d false) true := by
  obtain ⟨e1, e2, e3, e4, e5, e6, e7⟩ := _root_.Fl.knuth V_F V_F ns nc nd
  have la := V_lt ha
  have lb := V_lt hb
  obtain ⟨x, x1, x2, x3⟩ := sub_exact ha hd e2 (Nat.lt_of_le_of_lt e5 la)
  obtain ⟨y, y1, y2, y3⟩ := sub_exact hb hc e3 (Nat.lt_of_le_of_lt e6 lb)
  have esum : V x + V y = V a + V b - V s := by rw [x3, y3, e1]; omega
  obtain ⟨t, t1, t2, t3⟩ := add_exact x2 y2 (by rw [esum]; exact e4) (by rw [esum]; exact Nat.lt_of_le_of_lt e7 la)
  rw [esum] at t3
  obtain ⟨u, m, ⟨K1, H1⟩, s1, l1⟩ := plus_ev (s := decide (9223372036854775808 ≤ a)) (t := decide (9223372036854775808 ≤ b)) (len_dv a) (len_dv b)
  obtain ⟨v, n, ⟨K2, H2⟩, s2, l2⟩ := plus_ev (s := decide (9223372036854775808 ≤ s)) (t := decide (9223372036854775808 ≤ t)) (len_dv s) (len_dv t)
  rw [← V_sgd ha.1 ha.2.1, ← V_sgd hb.1 hb.2.1] at s1
  rw [← V_sgd hs.1 hs.2.1, ← V_sgd t2.1 t2.2.1] at s2
  have hml : (lim m).length < 1073741824 := by
    have h1 := dv_lt a
    have h2 := dv_lt b
    exact len_two h1 h2 l1
  obtain ⟨K3, H3⟩ := eqWhole_ev (s := u) (t := v) (a := m) (b := n) hml (by rw [s1, s2, t3]; omega)
  obtain ⟨K4, H4⟩ := of_law_ev ha.1 ha.2.1
  obtain ⟨K5, H5⟩ := of_law_ev hb.1 hb.2.1
  obtain ⟨K6, H6⟩ := of_law_ev hs.1 hs.2.1
  obtain ⟨K7, H7⟩ := of_law_ev t2.1 t2.2.1
  obtain ⟨K0, H0⟩ := err4 (l := l) ha hb hwr ih
  refine ⟨K0 + K1 + K2 + K3 + K4 + K5 + K6 + K7 + 1, fun k hk => ?_⟩
  obtain ⟨k, rfl⟩ : ∃ m, k = m + 1 := ⟨k - 1, by omega⟩
  dsimp only [-Nat.reducePow, -Int.reducePow] at H0 H1 H2 H3 H4 H5 H6 H7 ⊢
  rw [fathomlaw3_FloatErrors.j3, if_neg (by decide), x1, Option.bind_some, y1, Option.bind_some, t1, Option.bind_some, fin_word t2, Option.bind_some, if_pos rfl, H4 k (by omega), Option.bind_some, H5 k (by omega), Option.bind_some, H1 k (by omega), Option.bind_some, H6 k (by omega), Option.bind_some, H7 k (by omega), Option.bind_some, H2 k (by omega), Option.bind_some, H3 k (by omega), Option.bind_some]
  exact H0 k (by omega)

theorem err2 {l : List S39} {i : Nat} {a b s : Int} (ha : Fin a) (hb : Fin b) (hs : Fin s) (ns : _root_.Fl.N (V a + V b) (V s))
    (hwr : wrap64 ((i : Int) + 1) = ((i + 1 : Nat) : Int)) (ih : Ev (fun k => fathomlaw3_FloatErrors.l0 k l ((i + 1 : Nat) : Int)) true) :
    Ev (fun k => fathomlaw3_FloatErrors.j2 k l i a b s false) true := by
  obtain ⟨c, c1, c2, c3, c4⟩ := sub_word hs ha
  have hfc := fin_eq c2 c3
  have skip : ∀ d, Ev (fun k => fathomlaw3_FloatErrors.j3 k l i a b s c d true) true := fun d =>
    Ev.step (fun k => by rw [fathomlaw3_FloatErrors.j3, if_pos rfl, hwr]) ih
  by_cases hc : c.toNat % 9223372036854775808 < 9218868437227405312
  · have hcf : Fin c := ⟨c2, c3, hc⟩
    obtain ⟨d, d1, d2, d3, d4⟩ := sub_word hs hcf
    have hfd := fin_eq d2 d3
    by_cases hd : d.toNat % 9223372036854775808 < 9218868437227405312
    · refine Ev.step (fun k => ?_) (err3 ha hb hs hcf ⟨d2, d3, hd⟩ ns (c4 hc) (d4 hd) hwr ih)
      rw [fathomlaw3_FloatErrors.j2, if_neg (by decide), c1, Option.bind_some, d1, Option.bind_some, hfc, Option.bind_some, if_pos (decide_eq_true hc), hfd, Option.bind_some, decide_eq_true hd, Bool.not_true]
    · refine Ev.step (fun k => ?_) (skip d)
      rw [fathomlaw3_FloatErrors.j2, if_neg (by decide), c1, Option.bind_some, d1, Option.bind_some, hfc, Option.bind_some, if_pos (decide_eq_true hc), hfd, Option.bind_some, decide_eq_false hd, Bool.not_false]
  · obtain ⟨d, d1⟩ : ∃ d, float_Sub_uint64.f s c = some d := ⟨_, rfl⟩
    refine Ev.step (fun k => ?_) (skip d)
    rw [fathomlaw3_FloatErrors.j2, if_neg (by decide), c1, Option.bind_some, d1, Option.bind_some, hfc, Option.bind_some, if_neg (by rw [decide_eq_false hc]; decide)]

theorem FloatErrors (l : List S39) (hm : l.length ≤ maxLen) (hw : ∀ y ∈ l, ∃ p q, y = S39.mk p q ∧ (Lit.int .u64 p).wf = true ∧ (Lit.int .u64 q).wf = true) : ∃ k, fathomlaw3_FloatErrors.f k l = some true := by
  refine rounds_of (g := fun k i => fathomlaw3_FloatErrors.l0 k l (i : Int)) (n := l.length) (fun i h => ?_) (fun i hi h2 ih => ?_)
  · refine Ev.step (f := fun k => fathomlaw3_FloatErrors.j1 k l i false) (fun k => ?_) ?_
    · simp only [fathomlaw3_FloatErrors.l0]
      by_cases hi : i < l.length
      · rw [if_pos (by omega), decide_eq_false (by omega)]
      · rw [if_neg (by omega)]
    · exact Ev.step (f := fun _ => some true) (fun k => by simp [fathomlaw3_FloatErrors.j1, fathomlaw3_wakes.f]) (Ev.now true)
  · obtain ⟨⟨a0, a1⟩, ⟨b0, b1⟩⟩ := rng hw hi
    have hwr := wrap_next hi hm
    refine Ev.step (f := fun k => fathomlaw3_FloatErrors.j1 k l i true) (fun k => by simp only [fathomlaw3_FloatErrors.l0]; rw [if_pos (by omega), decide_eq_true (by omega)]) ?_
    obtain ⟨a, ea⟩ : ∃ a, a = (rd_T39 l (i : Int)).f0 := ⟨_, rfl⟩
    obtain ⟨b, eb⟩ : ∃ b, b = (rd_T39 l (i : Int)).f1 := ⟨_, rfl⟩
    rw [← ea] at a0 a1
    rw [← eb] at b0 b1
    have skip : ∀ s, Ev (fun k => fathomlaw3_FloatErrors.j2 k l i a b s true) true := fun s =>
      Ev.step (fun k => by rw [fathomlaw3_FloatErrors.j2, if_pos rfl, hwr]) ih
    by_cases ha : a.toNat % 9223372036854775808 < 9218868437227405312
    · by_cases hb : b.toNat % 9223372036854775808 < 9218868437227405312
      · have haf : Fin a := ⟨a0, a1, ha⟩
        have hbf : Fin b := ⟨b0, b1, hb⟩
        obtain ⟨s, s1, s2, s3, s4⟩ := add_word haf hbf
        have hfs := fin_eq s2 s3
        by_cases hs : s.toNat % 9223372036854775808 < 9218868437227405312
        · refine Ev.step (fun k => ?_) (err2 haf hbf ⟨s2, s3, hs⟩ (s4 hs) hwr ih)
          rw [fathomlaw3_FloatErrors.j1, if_pos rfl, if_pos (by omega), if_pos (by omega), ← ea, ← eb, s1, Option.bind_some, fin_eq a0 a1, Option.bind_some, if_pos (decide_eq_true ha), fin_eq b0 b1, Option.bind_some, if_pos (decide_eq_true hb), hfs, Option.bind_some, decide_eq_true hs, Bool.not_true]
        · refine Ev.step (fun k => ?_) (skip s)
          rw [fathomlaw3_FloatErrors.j1, if_pos rfl, if_pos (by omega), if_pos (by omega), ← ea, ← eb, s1, Option.bind_some, fin_eq a0 a1, Option.bind_some, if_pos (decide_eq_true ha), fin_eq b0 b1, Option.bind_some, if_pos (decide_eq_true hb), hfs, Option.bind_some, decide_eq_false hs, Bool.not_false]
      · obtain ⟨s, s1⟩ : ∃ s, float_Add_uint64.f a b = some s := ⟨_, rfl⟩
        refine Ev.step (fun k => ?_) (skip s)
        rw [fathomlaw3_FloatErrors.j1, if_pos rfl, if_pos (by omega), if_pos (by omega), ← ea, ← eb, s1, Option.bind_some, fin_eq a0 a1, Option.bind_some, if_pos (decide_eq_true ha), fin_eq b0 b1, Option.bind_some, if_neg (by rw [decide_eq_false hb]; decide)]
    · obtain ⟨s, s1⟩ : ∃ s, float_Add_uint64.f a b = some s := ⟨_, rfl⟩
      refine Ev.step (fun k => ?_) (skip s)
      rw [fathomlaw3_FloatErrors.j1, if_pos rfl, if_pos (by omega), if_pos (by omega), ← ea, ← eb, s1, Option.bind_some, fin_eq a0 a1, Option.bind_some, if_neg (by rw [decide_eq_false ha]; decide)]
end Go.Proofs.Ytfloeiagdegpjaa.ZErrors
