/- How words compare: as their units with their signs. Plain laws over Ieee alone. -/
import Derived.Test.YtfloeiagdegpjaaDoorPc
set_option linter.unusedVariables false
set_option linter.unusedSimpArgs false
namespace Fl
open Ieee

/-- A word's units with their sign; an infinity's are those behind the greatest. -/
def sv (f : Format) (b : Nat) : Int := if b / f.signWeight % 2 == 1 then -(val f (b % f.signWeight) : Int) else (val f (b % f.signWeight) : Int)

theorem compare_int (a b : Int) : compare a b = if a < b then .lt else if a = b then .eq else .gt := rfl

theorem compare_scale {a b : Int} {k : Int} (hk : 0 < k) : compare (a * k) (b * k) = compare a b := by
  rw [compare_int, compare_int]
  by_cases h : a < b
  · rw [if_pos h, if_pos (Int.mul_lt_mul_of_pos_right h hk)]
  · by_cases h2 : a = b
    · subst h2; rw [if_neg (Int.lt_irrefl _), if_neg (Int.lt_irrefl _)]; simp
    · have h3 : b < a := by omega
      have h4 := Int.mul_lt_mul_of_pos_right h3 hk
      rw [if_neg h, if_neg h2, if_neg (by omega), if_neg (by omega)]

theorem signed_eq (s : Bool) (m k : Nat) : signed s m k = (if s then -1 else 1) * ((m * 2 ^ k : Nat) : Int) := by
  unfold signed
  rw [Nat.shiftLeft_eq]
  cases s <;> simp

theorem sv_fin {f : Format} {b m : Nat} {p : Int} (h2 : f.leastPlace ≤ p) (h3 : val f (b % f.signWeight) = m * 2 ^ (p - f.leastPlace).toNat) {base : Int} (hb : f.leastPlace ≤ base) (hbp : base ≤ p) :
    sv f b = signed (b / f.signWeight % 2 == 1) m (p - base).toNat * ((2 ^ (base - f.leastPlace).toNat : Nat) : Int) := by
  unfold sv
  rw [h3, signed_eq]
  have e : m * 2 ^ (p - f.leastPlace).toNat = m * 2 ^ (p - base).toNat * 2 ^ (base - f.leastPlace).toNat := by
    rw [Nat.mul_assoc, ← Nat.pow_add]; congr 2; omega
  rw [e]
  cases (b / f.signWeight % 2 == 1) <;> simp [Int.natCast_mul, Int.neg_mul]

theorem sv_abs (f : Format) (b : Nat) : sv f b ≤ val f (b % f.signWeight) ∧ -(val f (b % f.signWeight) : Int) ≤ sv f b := by
  unfold sv; split <;> omega

theorem order_sv {f : Format} (hf : Good f) {x y : Nat} (hx : x % f.signWeight ≤ f.infRung) (hy : y % f.signWeight ≤ f.infRung) :
    f.order x y = some (compare (sv f x) (sv f y)) := by
  unfold Format.order
  rcases Nat.lt_or_ge (x % f.signWeight) f.infRung with h1 | h1 <;> rcases Nat.lt_or_ge (y % f.signWeight) f.infRung with h2 | h2
  · obtain ⟨m, p, a1, a2, a3, _⟩ := read_fin hf x h1
    obtain ⟨n, q, b1, b2, b3, _⟩ := read_fin hf y h2
    rw [a1, b1]
    simp only [Datum.order]
    have hb : f.leastPlace ≤ min p q := by omega
    rw [sv_fin a2 a3 hb (by omega), sv_fin b2 b3 hb (by omega)]
    have hpos : (0 : Int) < ((2 ^ (min p q - f.leastPlace).toNat : Nat) : Int) := by
      have := Nat.two_pow_pos (min p q - f.leastPlace).toNat
      omega
    rw [compare_scale hpos]
  · have e2 : y % f.signWeight = f.infRung := by omega
    obtain ⟨m, p, a1, _⟩ := read_fin hf x h1
    rw [a1, read_infinity hf y e2]
    simp only [Datum.order]
    have hlt := val_strict f h1
    have hx2 := sv_abs f x
    unfold sv
    unfold sv at hx2
    rw [e2]
    rw [compare_int]
    cases (y / f.signWeight % 2 == 1)
    · simp only [Bool.false_eq_true, if_false] at hx2 ⊢
      rw [if_pos (by omega)]
    · simp only [if_true] at hx2 ⊢
      rw [if_neg (by omega), if_neg (by omega)]
  · have e1 : x % f.signWeight = f.infRung := by omega
    obtain ⟨m, p, a1, _⟩ := read_fin hf y h2
    rw [a1, read_infinity hf x e1]
    simp only [Datum.order]
    have hlt := val_strict f h2
    have hy2 := sv_abs f y
    unfold sv
    unfold sv at hy2
    rw [e1]
    rw [compare_int]
    cases (x / f.signWeight % 2 == 1)
    · simp only [Bool.false_eq_true, if_false] at hy2 ⊢
      rw [if_neg (by omega), if_neg (by omega)]
    · simp only [if_true] at hy2 ⊢
      rw [if_pos (by omega)]
  · have e1 : x % f.signWeight = f.infRung := by omega
    have e2 : y % f.signWeight = f.infRung := by omega
    rw [read_infinity hf x e1, read_infinity hf y e2]
    simp only [Datum.order]
    unfold sv
    rw [e1, e2]
    have hp : 0 < val f f.infRung := val_pos (by have := binade_le_inf hf; have := binade_pos f; omega)
    rw [compare_int]
    cases (x / f.signWeight % 2 == 1) <;> cases (y / f.signWeight % 2 == 1) <;> simp only [Bool.false_eq_true, if_false, if_true]
    · simp <;> rfl
    · rw [if_neg (by omega), if_neg (by omega)]; rfl
    · rw [if_pos (by omega)]; rfl
    · simp <;> rfl

theorem order_sv_none {f : Format} (hf : Good f) {x y : Nat} (h : f.infRung < x % f.signWeight ∨ f.infRung < y % f.signWeight) : f.order x y = none := by
  have key : ∀ b, f.infRung < b % f.signWeight → ∃ s t, f.read b = .nan s t := by
    intro b hb
    have := read_nan hf b
    rw [decide_eq_true hb] at this
    cases hd : f.read b with
    | number _ _ _ => rw [hd] at this; cases this
    | infinity _ => rw [hd] at this; cases this
    | nan s t => exact ⟨s, t, rfl⟩
  unfold Format.order
  rcases h with h | h
  · obtain ⟨s, t, e⟩ := key x h; rw [e]; rfl
  · obtain ⟨s, t, e⟩ := key y h; rw [e]
    cases f.read x <;> rfl

/-- Where a rung stands among the units: by the sign and the rung alone. -/
theorem sv_lt {f : Format} {x y : Nat} : sv f x < sv f y ↔
    (x / f.signWeight % 2 = 1 ∧ ¬ y / f.signWeight % 2 = 1 ∧ ¬ (x % f.signWeight = 0 ∧ y % f.signWeight = 0)) ∨
    (¬ x / f.signWeight % 2 = 1 ∧ ¬ y / f.signWeight % 2 = 1 ∧ x % f.signWeight < y % f.signWeight) ∨
    (x / f.signWeight % 2 = 1 ∧ y / f.signWeight % 2 = 1 ∧ y % f.signWeight < x % f.signWeight) := by
  unfold sv
  generalize x % f.signWeight = r
  generalize y % f.signWeight = s
  have h1 : ∀ a b, val f a < val f b ↔ a < b := fun a b => by
    have := @val_mono_iff f b a
    omega
  have h0 : ∀ a, val f a = 0 ↔ a = 0 := fun a => by
    constructor
    · intro h
      rcases Nat.eq_zero_or_pos a with h2 | h2
      · exact h2
      · have := @val_pos f a h2; omega
    · intro h; rw [h, val_zero]
  have e1 := h1 r s
  have e2 := h1 s r
  have e3 := h0 r
  have e4 := h0 s
  by_cases c1 : x / f.signWeight % 2 = 1 <;> by_cases c2 : y / f.signWeight % 2 = 1
  · rw [if_pos (by simp [c1]), if_pos (by simp [c2])]; simp only [c1, c2]; simp <;> omega
  · rw [if_pos (by simp [c1]), if_neg (by simp [c2])]; simp only [c1, c2]; simp <;> omega
  · rw [if_neg (by simp [c1]), if_pos (by simp [c2])]; simp only [c1, c2]; simp <;> omega
  · rw [if_neg (by simp [c1]), if_neg (by simp [c2])]; simp only [c1, c2]; simp <;> omega

/-- A binary32's number, widened, compares as itself. -/
theorem widen_order {a b : Nat} (ha : a % single.signWeight ≤ single.infRung) (hb : b % single.signWeight ≤ single.infRung) :
    double.order (double.write (single.read a)) (double.write (single.read b)) = some (compare (sv single a) (sv single b)) := by
  have key : ∀ c, c % single.signWeight ≤ single.infRung → ∃ r, double.write (single.read c) = double.word (c / single.signWeight % 2 == 1) r ∧ r ≤ double.infRung ∧
      ((c % single.signWeight < single.infRung ∧ val double r = val single (c % single.signWeight) * 2 ^ 925) ∨ (c % single.signWeight = single.infRung ∧ r = double.infRung)) := by
    intro c hc
    rcases Nat.lt_or_ge (c % single.signWeight) single.infRung with h | h
    · obtain ⟨r, h1, h2, h3⟩ := widen_fin h
      exact ⟨r, h3, Nat.le_of_lt h1, Or.inl ⟨h, h2⟩⟩
    · have he : c % single.signWeight = single.infRung := by omega
      rw [read_infinity good_single c he]
      exact ⟨double.infRung, rfl, Nat.le_refl _, Or.inr ⟨he, rfl⟩⟩
  have rng : ∀ s r, r ≤ double.infRung → double.word s r % double.signWeight = r ∧ (double.word s r / double.signWeight % 2 == 1) = s := fun s r hr =>
    ⟨word_rung double s (Nat.lt_of_le_of_lt hr double.infRung_lt), word_neg double s (Nat.lt_of_le_of_lt hr double.infRung_lt)⟩
  obtain ⟨r, ea, hr, ra⟩ := key a ha
  obtain ⟨s, eb, hs, rb⟩ := key b hb
  rw [ea, eb, order_sv good_double (by rw [(rng _ r hr).1]; exact hr) (by rw [(rng _ s hs).1]; exact hs)]
  have big : ∀ c, c % single.signWeight < single.infRung → val single (c % single.signWeight) * 2 ^ 925 < val double double.infRung := by
    intro c hc
    obtain ⟨r, h1, h2, _⟩ := widen_fin hc
    rw [← h2]; exact val_strict double h1
  congr 1
  unfold sv
  rw [(rng _ r hr).1, (rng _ r hr).2, (rng _ s hs).1, (rng _ s hs).2]
  generalize (a / single.signWeight % 2 == 1) = sa
  generalize (b / single.signWeight % 2 == 1) = sb
  obtain ⟨K, hK⟩ : ∃ K : Nat, K = 2 ^ 925 := ⟨_, rfl⟩
  have hk : 0 < K := by rw [hK]; exact Nat.two_pow_pos 925
  rw [← hK] at ra rb
  simp only [← hK] at big
  clear hK key
  rcases ra with ⟨ra1, ra2⟩ | ⟨ra1, ra2⟩ <;> rcases rb with ⟨rb1, rb2⟩ | ⟨rb1, rb2⟩
  · rw [ra2, rb2]
    have hk' : (0 : Int) < (K : Int) := by omega
    generalize val single (a % single.signWeight) = va at *
    generalize val single (b % single.signWeight) = vb at *
    have e1 : (if sa then -((va * K : Nat) : Int) else ((va * K : Nat) : Int)) = (if sa then -(va : Int) else (va : Int)) * (K : Int) := by cases sa <;> simp [Int.neg_mul]
    have e2 : (if sb then -((vb * K : Nat) : Int) else ((vb * K : Nat) : Int)) = (if sb then -(vb : Int) else (vb : Int)) * (K : Int) := by cases sb <;> simp [Int.neg_mul]
    rw [e1, e2, compare_scale hk']
  · rw [ra2, rb2, rb1]
    have h1 := big a ra1
    have h2 := val_strict single ra1
    generalize val single (a % single.signWeight) * K = va at *
    generalize val single (a % single.signWeight) = ua at *
    generalize val double double.infRung = D at *
    generalize val single single.infRung = S at *
    rw [compare_int, compare_int]
    cases sa <;> cases sb <;> simp only [Bool.false_eq_true, if_false, if_true]
    · rw [if_pos (by omega), if_pos (by omega)]
    · rw [if_neg (by omega), if_neg (by omega), if_neg (by omega), if_neg (by omega)]
    · rw [if_pos (by omega), if_pos (by omega)]
    · rw [if_neg (by omega), if_neg (by omega), if_neg (by omega), if_neg (by omega)]
  · rw [ra2, rb2, ra1]
    have h1 := big b rb1
    have h2 := val_strict single rb1
    generalize val single (b % single.signWeight) * K = vb at *
    generalize val single (b % single.signWeight) = ub at *
    generalize val double double.infRung = D at *
    generalize val single single.infRung = S at *
    rw [compare_int, compare_int]
    cases sa <;> cases sb <;> simp only [Bool.false_eq_true, if_false, if_true]
    · rw [if_neg (by omega), if_neg (by omega), if_neg (by omega), if_neg (by omega)]
    · rw [if_neg (by omega), if_neg (by omega), if_neg (by omega), if_neg (by omega)]
    · rw [if_pos (by omega), if_pos (by omega)]
    · rw [if_pos (by omega), if_pos (by omega)]
  · rw [ra2, rb2, ra1, rb1]
    have p1 : 0 < val double double.infRung := val_pos (by decide)
    have p2 : 0 < val single single.infRung := val_pos (by decide)
    generalize val double double.infRung = D at *
    generalize val single single.infRung = S at *
    rw [compare_int, compare_int]
    cases sa <;> cases sb <;> simp only [Bool.false_eq_true, if_false, if_true]
    · simp
    · rw [if_neg (by omega), if_neg (by omega), if_neg (by omega), if_neg (by omega)]
    · rw [if_pos (by omega), if_pos (by omega)]
    · simp
end Fl
