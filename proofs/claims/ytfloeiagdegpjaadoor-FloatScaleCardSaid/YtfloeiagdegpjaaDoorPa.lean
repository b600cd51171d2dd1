/- Rounding: a rung is the nearest one of a number; what Ieee's operations find is the nearest. Plain laws over Ieee alone, no program. -/
import Ieee.Arith
import Derived.Laws.FloatBits
set_option linter.unusedVariables false
set_option linter.unusedSimpArgs false
namespace Fl
open Ieee

section


/-- A number that is not below nought, told by what lies below and above its double. -/
structure Val where
  lo : Nat → Prop
  hi : Nat → Prop
  lo_mono : ∀ {a b : Nat}, a ≤ b → lo b → lo a
  hi_mono : ∀ {a b : Nat}, a ≤ b → hi a → hi b
  strict : ∀ {a b : Nat}, hi a → lo b → b ≤ a

def Val.rat (num den : Nat) (hd : 0 < den) : Val where
  lo a := a * den ≤ 2 * num
  hi a := 2 * num ≤ a * den
  lo_mono h h1 := Nat.le_trans (Nat.mul_le_mul_right _ h) h1
  hi_mono h h1 := Nat.le_trans h1 (Nat.mul_le_mul_right _ h)
  strict h1 h2 := Nat.le_of_mul_le_mul_right (Nat.le_trans h2 h1) hd

def Val.root (num den : Nat) (hd : 0 < den) : Val where
  lo a := a * a * den ≤ 4 * num
  hi a := 4 * num ≤ a * a * den
  lo_mono h h1 := Nat.le_trans (Nat.mul_le_mul_right _ (Nat.mul_le_mul h h)) h1
  hi_mono h h1 := Nat.le_trans h1 (Nat.mul_le_mul_right _ (Nat.mul_le_mul h h))
  strict {a b} h1 h2 := by
    have h3 : b * b ≤ a * a := Nat.le_of_mul_le_mul_right (Nat.le_trans h2 h1) hd
    exact Nat.mul_self_le_mul_self_iff.1 h3

variable (f : Format)

/-- How many units of the least place a rung's number has; beyond the infinity it goes on. -/
def val (r : Nat) : Nat := if r < f.binade then r else (f.binade + r % f.binade) * 2 ^ (r / f.binade - 1)

theorem binade_pos : 0 < f.binade := Nat.two_pow_pos _

theorem val_at {T k : Nat} (hk : k ≤ 2 * f.binade) (hT : T = 0 ∨ f.binade ≤ k) : val f (T * f.binade + k) = k * 2 ^ T := by
  have hB := binade_pos f
  generalize hb : f.binade = B at *
  unfold val; rw [hb]
  by_cases h1 : T * B + k < B
  · rw [if_pos h1]
    have : T = 0 := by
      rcases hT with h | h
      · exact h
      · have : 0 ≤ T * B := Nat.zero_le _
        omega
    subst this; simp
  · rw [if_neg h1]
    rcases Nat.lt_or_ge k B with h2 | h2
    · have hT0 : T = 0 := by omega
      subst hT0; omega
    · rcases Nat.lt_or_ge k (2 * B) with h3 | h3
      · have e : T * B + k = (k - B) + B * (T + 1) := by rw [Nat.mul_add, Nat.mul_comm B T]; omega
        have hm : (T * B + k) % B = k - B := by rw [e, Nat.add_mul_mod_self_left, Nat.mod_eq_of_lt (by omega)]
        have hd : (T * B + k) / B = T + 1 := by rw [e, Nat.add_mul_div_left _ _ hB, Nat.div_eq_of_lt (by omega)]; omega
        rw [hm, hd]; congr 1; omega
      · have hk2 : k = 2 * B := by omega
        subst hk2
        have e : T * B + 2 * B = B * (T + 2) := by rw [Nat.mul_add, Nat.mul_comm B T]; omega
        have hm : (T * B + 2 * B) % B = 0 := by rw [e, Nat.mul_mod_right]
        have hd : (T * B + 2 * B) / B = T + 2 := by rw [e, Nat.mul_div_cancel_left _ hB]
        rw [hm, hd]
        have : T + 2 - 1 = T + 1 := by omega
        rw [this, Nat.pow_succ, Nat.add_zero, Nat.mul_comm (2 ^ T) 2, ← Nat.mul_assoc, Nat.mul_comm B 2]

theorem rep (r : Nat) : ∃ T k, r = T * f.binade + k ∧ k < 2 * f.binade ∧ (T = 0 ∨ f.binade ≤ k) := by
  have hB := binade_pos f
  rcases Nat.lt_or_ge r f.binade with h | h
  · exact ⟨0, r, by omega, by omega, Or.inl rfl⟩
  · refine ⟨r / f.binade - 1, f.binade + r % f.binade, ?_, ?_, Or.inr (by omega)⟩
    · have h1 := Nat.div_add_mod r f.binade
      have h2 : 0 < r / f.binade := Nat.div_pos h hB
      rw [Nat.sub_mul, Nat.mul_comm (r / f.binade)]
      have : f.binade ≤ f.binade * (r / f.binade) := Nat.le_mul_of_pos_right _ h2
      omega
    · have := Nat.mod_lt r hB; omega

theorem val_lt_succ (r : Nat) : val f r < val f (r + 1) := by
  obtain ⟨T, k, rfl, hk, hT⟩ := rep f r
  rw [Nat.add_assoc, val_at f (by omega) hT, val_at f (by omega) (by omega)]
  exact Nat.mul_lt_mul_of_pos_right (by omega) (Nat.two_pow_pos _)

theorem val_mono {r s : Nat} (h : r ≤ s) : val f r ≤ val f s := by
  induction h with
  | refl => exact Nat.le_refl _
  | step _ ih => exact Nat.le_trans ih (Nat.le_of_lt (val_lt_succ f _))

theorem val_strict {r s : Nat} (h : r < s) : val f r < val f s := Nat.lt_of_lt_of_le (val_lt_succ f r) (val_mono f h)

/-- The rung is the nearest one, of two the even one; the infinity from the middle behind the greatest on. -/
structure Near (X : Val) (r : Nat) : Prop where
  le : r ≤ f.infRung
  low : 0 < r → X.lo (val f (r - 1) + val f r) ∧ (X.hi (val f (r - 1) + val f r) → r % 2 = 0)
  high : r < f.infRung → X.hi (val f r + val f (r + 1)) ∧ (X.lo (val f r + val f (r + 1)) → r % 2 = 0)

variable {f}

theorem Near.mono {X Y : Val} (hl : ∀ a, X.lo a → Y.lo a) (hh : ∀ a, Y.hi a → X.hi a) {r s : Nat} (hr : Near f X r) (hs : Near f Y s) : r ≤ s := by
  rcases Nat.lt_or_ge s r with h | h
  · exfalso
    have h1 := hr.low (by omega)
    have h2 := hs.high (Nat.lt_of_lt_of_le h hr.le)
    have h3 := Y.strict h2.1 (hl _ h1.1)
    have e : r = s + 1 := by
      rcases Nat.lt_or_ge (s + 1) r with h4 | h4
      · have a := val_strict f (show s < r - 1 by omega)
        have b := val_strict f (show s + 1 < r by omega)
        omega
      · omega
    subst e
    simp only [Nat.add_sub_cancel] at h1
    have a := h1.2 (hh _ h2.1)
    have b := h2.2 (hl _ h1.1)
    omega
  · exact h

theorem Near.unique {X : Val} {r s : Nat} (hr : Near f X r) (hs : Near f X s) : r = s :=
  Nat.le_antisymm (hr.mono (fun _ h => h) (fun _ h => h) hs) (hs.mono (fun _ h => h) (fun _ h => h) hr)

theorem near_alg (hfb : 1 ≤ f.fractionBits) (X : Val) {T k : Nat} (hk : k ≤ 2 * f.binade) (hT : T = 0 ∨ f.binade ≤ k ∧ X.lo (2 * f.binade * 2 ^ T))
    (hlo : 0 < k → X.lo ((2 * k - 1) * 2 ^ T)) (tlo : 0 < k → X.hi ((2 * k - 1) * 2 ^ T) → k % 2 = 0)
    (hhi : X.hi ((2 * k + 1) * 2 ^ T)) (thi : X.lo ((2 * k + 1) * 2 ^ T) → k % 2 = 0) : Near f X (min (T * f.binade + k) f.infRung) := by
  have hB := binade_pos f
  have hBe : f.binade % 2 = 0 := by
    unfold Format.binade
    obtain ⟨m, hm⟩ : ∃ m, f.fractionBits = m + 1 := ⟨f.fractionBits - 1, by omega⟩
    rw [hm, Nat.pow_succ, Nat.mul_mod_left]
  have hev : ∀ M, (M * f.binade) % 2 = 0 := fun M => by rw [Nat.mul_mod, hBe]; simp
  have hT' : T = 0 ∨ f.binade ≤ k := by rcases hT with h | h; exact Or.inl h; exact Or.inr h.1
  have hpar : (T * f.binade + k) % 2 = k % 2 := by have := hev T; omega
  have hinf : f.infRung % 2 = 0 := hev _
  have p1 := Nat.two_pow_pos T
  -- the middle below
  have hlow : 0 < T * f.binade + k → X.lo (val f (T * f.binade + k - 1) + val f (T * f.binade + k)) ∧ (X.hi (val f (T * f.binade + k - 1) + val f (T * f.binade + k)) → k % 2 = 0) := by
    intro h0
    have hk0 : 0 < k := by rcases hT' with h | h; subst h; omega; omega
    rw [val_at f hk hT']
    by_cases hc : T = 0 ∨ f.binade < k
    · have e : T * f.binade + k - 1 = T * f.binade + (k - 1) := by omega
      rw [e, val_at f (by omega) (by omega), ← Nat.add_mul]
      have e2 : k - 1 + k = 2 * k - 1 := by omega
      rw [e2]
      exact ⟨hlo hk0, tlo hk0⟩
    · have hTp : 0 < T := by omega
      have hkB : k = f.binade := by omega
      have hX : X.lo (2 * f.binade * 2 ^ T) := by rcases hT with h | h; omega; exact h.2
      obtain ⟨S, rfl⟩ : ∃ S, T = S + 1 := ⟨T - 1, by omega⟩
      have e : (S + 1) * f.binade + k - 1 = S * f.binade + (2 * f.binade - 1) := by rw [Nat.add_mul]; omega
      rw [e, val_at f (by omega) (by omega)]
      have hS := Nat.two_pow_pos S
      have hlt : (2 * f.binade - 1) * 2 ^ S + k * 2 ^ (S + 1) < 2 * f.binade * 2 ^ (S + 1) := by
        have a : (2 * f.binade - 1) * 2 ^ S < 2 * f.binade * 2 ^ S := Nat.mul_lt_mul_of_pos_right (by omega) hS
        have b : 2 * f.binade * 2 ^ (S + 1) = 2 * f.binade * 2 ^ S + k * 2 ^ (S + 1) := by
          rw [hkB, Nat.pow_succ, Nat.mul_comm (2 ^ S) 2, ← Nat.mul_assoc, ← Nat.mul_assoc, ← Nat.add_mul]
          congr 1; omega
        omega
      exact ⟨X.lo_mono (Nat.le_of_lt hlt) hX, fun hh => absurd (X.strict hh hX) (by omega)⟩
  have hhigh : X.hi (val f (T * f.binade + k) + val f (T * f.binade + k + 1)) ∧ (X.lo (val f (T * f.binade + k) + val f (T * f.binade + k + 1)) → k % 2 = 0) := by
    rcases Nat.lt_or_ge k (2 * f.binade) with h | h
    · rw [Nat.add_assoc (T * f.binade) k 1, val_at f hk hT', val_at f (by omega) (by omega), ← Nat.add_mul]
      have e2 : k + (k + 1) = 2 * k + 1 := by omega
      rw [e2]; exact ⟨hhi, thi⟩
    · have hk2 : k = 2 * f.binade := by omega
      have e : T * f.binade + k + 1 = (T + 1) * f.binade + (f.binade + 1) := by rw [Nat.add_mul]; omega
      rw [val_at f hk hT', e, val_at f (by omega) (by omega)]
      have hlt : (2 * k + 1) * 2 ^ T < k * 2 ^ T + (f.binade + 1) * 2 ^ (T + 1) := by
        rw [Nat.pow_succ, Nat.mul_comm (2 ^ T) 2, ← Nat.mul_assoc, ← Nat.add_mul]
        exact Nat.mul_lt_mul_of_pos_right (by omega) p1
      exact ⟨X.hi_mono (Nat.le_of_lt hlt) hhi, fun hh => absurd (X.strict hhi hh) (by omega)⟩
  rcases Nat.lt_or_ge f.infRung (T * f.binade + k) with hc | hc
  · rw [Nat.min_eq_right (Nat.le_of_lt hc)]
    refine ⟨Nat.le_refl _, fun h0 => ⟨?_, fun _ => hinf⟩, fun h => absurd h (Nat.lt_irrefl _)⟩
    refine X.lo_mono ?_ (hlow (by omega)).1
    exact Nat.add_le_add (val_mono f (by omega)) (val_mono f (by omega))
  · rw [Nat.min_eq_left hc]
    exact ⟨hc, fun h => ⟨(hlow h).1, fun hh => by rw [hpar]; exact (hlow h).2 hh⟩, fun _ => ⟨hhigh.1, fun hh => by rw [hpar]; exact hhigh.2 hh⟩⟩


end


/-- What 'even' cuts off: rounded to the nearest, of two to the even one. -/
theorem cut_even (neg : Bool) (n drop : Nat) :
    ((0 < Toward.even.cut neg n drop → (2 * Toward.even.cut neg n drop - 1) * 2 ^ drop ≤ 2 * n ∧ ((2 * Toward.even.cut neg n drop - 1) * 2 ^ drop = 2 * n → Toward.even.cut neg n drop % 2 = 0)) ∧
    (2 * n ≤ (2 * Toward.even.cut neg n drop + 1) * 2 ^ drop ∧ (2 * n = (2 * Toward.even.cut neg n drop + 1) * 2 ^ drop → Toward.even.cut neg n drop % 2 = 0))) := by
  by_cases hd : drop ≤ n.log2 + 2
  · have hg : 1 <<< min drop (n.log2 + 2) = 2 ^ drop := by rw [Nat.min_eq_left hd, Nat.one_shiftLeft]
    unfold Toward.cut
    simp only [hg]
    have hp := Nat.two_pow_pos drop
    generalize 2 ^ drop = G at *
    have h1 := Nat.div_add_mod n G
    have h2 := Nat.mod_lt n hp
    generalize n / G = q at *
    generalize n % G = s at *
    have key : ∀ b : Bool, b = (decide (G < 2 * s) || G == 2 * s && q % 2 == 1) →
        ((0 < q + b.toNat → (2 * (q + b.toNat) - 1) * G ≤ 2 * n ∧ ((2 * (q + b.toNat) - 1) * G = 2 * n → (q + b.toNat) % 2 = 0)) ∧
        (2 * n ≤ (2 * (q + b.toNat) + 1) * G ∧ (2 * n = (2 * (q + b.toNat) + 1) * G → (q + b.toNat) % 2 = 0))) := by
      intro b hb
      have hqG : q * G = G * q := Nat.mul_comm _ _
      cases b with
      | false =>
        have hb' : ¬ G < 2 * s ∧ ¬ (G = 2 * s ∧ q % 2 = 1) := by simpa using hb.symm
        simp only [Bool.toNat_false, Nat.add_zero]
        refine ⟨fun h0 => ?_, ?_⟩
        · have e : (2 * q - 1) * G = 2 * (G * q) - G := by rw [Nat.sub_mul, Nat.mul_assoc, hqG, Nat.one_mul]
          have : G ≤ G * q := Nat.le_mul_of_pos_right _ h0
          rw [e]; constructor <;> omega
        · have e : (2 * q + 1) * G = 2 * (G * q) + G := by rw [Nat.add_mul, Nat.mul_assoc, hqG, Nat.one_mul]
          rw [e]; constructor <;> omega
      | true =>
        have hb' : G < 2 * s ∨ (G = 2 * s ∧ q % 2 = 1) := by simpa using hb.symm
        simp only [Bool.toNat_true]
        refine ⟨fun h0 => ?_, ?_⟩
        · have e : (2 * (q + 1) - 1) * G = 2 * (G * q) + G := by
            have : 2 * (q + 1) - 1 = 2 * q + 1 := by omega
            rw [this, Nat.add_mul, Nat.mul_assoc, hqG, Nat.one_mul]
          rw [e]; constructor <;> omega
        · have e : (2 * (q + 1) + 1) * G = 2 * (G * q) + 3 * G := by
            have : 2 * (q + 1) + 1 = 2 * q + 3 := by omega
            rw [this, Nat.add_mul, Nat.mul_assoc, hqG]
          rw [e]; constructor <;> omega
    exact key _ rfl
  · have hm : min drop (n.log2 + 2) = n.log2 + 2 := Nat.min_eq_right (by omega)
    have hlt : n < 2 ^ (n.log2 + 1) := Nat.lt_log2_self
    have hz : Toward.even.cut neg n drop = 0 := by
      unfold Toward.cut
      simp only [hm, Nat.one_shiftLeft]
      have e : 2 ^ (n.log2 + 2) = 2 * 2 ^ (n.log2 + 1) := by rw [Nat.pow_succ, Nat.mul_comm]
      have h0 : n / 2 ^ (n.log2 + 2) = 0 := Nat.div_eq_of_lt (by omega)
      have h1 : n % 2 ^ (n.log2 + 2) = n := Nat.mod_eq_of_lt (by omega)
      rw [h0, h1]
      have a : decide (2 ^ (n.log2 + 2) < 2 * n) = false := by simp; omega
      rw [a]; simp
    rw [hz]
    have hle : 2 ^ (n.log2 + 2) ≤ 2 ^ drop := Nat.pow_le_pow_right (by omega) (by omega)
    have e : 2 ^ (n.log2 + 2) = 2 * 2 ^ (n.log2 + 1) := by rw [Nat.pow_succ, Nat.mul_comm]
    refine ⟨fun h => absurd h (Nat.lt_irrefl _), by omega, fun _ => rfl⟩

theorem cut_even_le (neg : Bool) (n drop B : Nat) (h : n ≤ B * 2 ^ drop) : Toward.even.cut neg n drop ≤ B := by
  have hp := Nat.two_pow_pos drop
  have := (cut_even neg n drop).1
  generalize Toward.even.cut neg n drop = k at *
  rcases Nat.lt_or_ge B k with hlt | hge
  · exfalso
    have h1 := (this (by omega)).1
    have h2 : (2 * B + 1) * 2 ^ drop ≤ (2 * k - 1) * 2 ^ drop := Nat.mul_le_mul_right _ (by omega)
    rw [Nat.add_mul, Nat.mul_assoc] at h2; omega
  · exact hge

theorem cut_even_ge (neg : Bool) (n drop B : Nat) (h : B * 2 ^ drop ≤ n) : B ≤ Toward.even.cut neg n drop := by
  have hp := Nat.two_pow_pos drop
  have := (cut_even neg n drop).2.1
  generalize Toward.even.cut neg n drop = k at *
  rcases Nat.lt_or_ge k B with hlt | hge
  · exfalso
    have h2 : (2 * k + 2) * 2 ^ drop ≤ 2 * B * 2 ^ drop := Nat.mul_le_mul_right _ (by omega)
    rw [Nat.add_mul] at h2
    rw [Nat.add_mul] at this
    rw [Nat.mul_assoc 2 B] at h2; omega
  · exact hge

/-- The place of the last digit that stays. -/
def lastOf (f : Format) (mag : Nat) (place : Int) : Int := max (place + mag.log2 - f.fractionBits) f.leastPlace

/-- A number that agrees with 'mag * 2 ^ place' at all multiples of the last place: the rung that 'nearest' finds is its nearest. -/
theorem nearest_near (f : Format) (hfb : 1 ≤ f.fractionBits) (neg : Bool) (mag : Nat) (place : Int) (hm : 0 < mag) (X : Val)
    (agree : ∀ c T a b : Nat, (T : Int) = lastOf f mag place - f.leastPlace → (a : Int) - b = place - f.leastPlace →
      (c * 2 ^ T * 2 ^ b ≤ 2 * mag * 2 ^ a → X.lo (c * 2 ^ T)) ∧ (2 * mag * 2 ^ a ≤ c * 2 ^ T * 2 ^ b → X.hi (c * 2 ^ T)) ∧
      (X.lo (c * 2 ^ T) → c * 2 ^ T * 2 ^ b ≤ 2 * mag * 2 ^ a) ∧ (X.hi (c * 2 ^ T) → 2 * mag * 2 ^ a ≤ c * 2 ^ T * 2 ^ b)) :
    ∃ r, f.nearest neg mag place = f.word neg r ∧ Near f X r := by
  unfold Format.nearest
  rw [if_neg (by omega)]
  simp only []
  have hlast : max (place + (mag.log2 : Int) - f.fractionBits) f.leastPlace = lastOf f mag place := rfl
  simp only [hlast]
  have hge : f.leastPlace ≤ lastOf f mag place := Int.le_max_right _ _
  have hge2 : place + (mag.log2 : Int) - f.fractionBits ≤ lastOf f mag place := Int.le_max_left _ _
  have hor : lastOf f mag place = f.leastPlace ∨ lastOf f mag place = place + (mag.log2 : Int) - f.fractionBits := by
    unfold lastOf; omega
  generalize hL : lastOf f mag place = L at *
  have hlog1 : 2 ^ mag.log2 ≤ mag := Nat.log2_self_le (by omega)
  have hlog2 : mag < 2 ^ (mag.log2 + 1) := Nat.lt_log2_self
  obtain ⟨T, hT⟩ : ∃ T : Nat, (T : Int) = L - f.leastPlace := ⟨(L - f.leastPlace).toNat, by omega⟩
  obtain ⟨d, hd⟩ : ∃ d : Nat, d = (L - place).toNat := ⟨_, rfl⟩
  obtain ⟨s, hs⟩ : ∃ s : Nat, s = (place - L).toNat := ⟨_, rfl⟩
  have hTn : (L - f.leastPlace).toNat = T := by omega
  rw [hTn, ← hd, ← hs, Nat.shiftLeft_eq]
  have hds : (d : Int) - s = L - place := by omega
  obtain ⟨b, hb⟩ : ∃ b : Nat, b = (f.leastPlace - place).toNat := ⟨_, rfl⟩
  obtain ⟨a, ha⟩ : ∃ a : Nat, a = (place - f.leastPlace).toNat := ⟨_, rfl⟩
  have hab : (a : Int) - b = place - f.leastPlace := by omega
  have hsum : a + d = s + T + b := by omega
  have ag := fun c => agree c T a b hT hab
  -- the sides, in digits that are cut off
  have sideL : ∀ c, c * 2 ^ d ≤ 2 * (mag * 2 ^ s) → c * 2 ^ T * 2 ^ b ≤ 2 * mag * 2 ^ a := by
    intro c h
    refine Nat.le_of_mul_le_mul_right (c := 2 ^ d) ?_ (Nat.two_pow_pos _)
    have e1 : c * 2 ^ T * 2 ^ b * 2 ^ d = c * 2 ^ d * 2 ^ (T + b) := by rw [Nat.pow_add]; simp [Nat.mul_assoc, Nat.mul_comm, Nat.mul_left_comm]
    have e2 : 2 * mag * 2 ^ a * 2 ^ d = 2 * (mag * 2 ^ s) * 2 ^ (T + b) := by
      rw [Nat.mul_assoc, ← Nat.pow_add, hsum, Nat.add_assoc, Nat.pow_add]; simp [Nat.mul_assoc]
    rw [e1, e2]; exact Nat.mul_le_mul_right _ h
  have sideL' : ∀ c, c * 2 ^ T * 2 ^ b ≤ 2 * mag * 2 ^ a → c * 2 ^ d ≤ 2 * (mag * 2 ^ s) := by
    intro c h
    refine Nat.le_of_mul_le_mul_right (c := 2 ^ (T + b)) ?_ (Nat.two_pow_pos _)
    have e1 : c * 2 ^ T * 2 ^ b * 2 ^ d = c * 2 ^ d * 2 ^ (T + b) := by rw [Nat.pow_add]; simp [Nat.mul_assoc, Nat.mul_comm, Nat.mul_left_comm]
    have e2 : 2 * mag * 2 ^ a * 2 ^ d = 2 * (mag * 2 ^ s) * 2 ^ (T + b) := by
      rw [Nat.mul_assoc, ← Nat.pow_add, hsum, Nat.add_assoc, Nat.pow_add]; simp [Nat.mul_assoc]
    rw [← e1, ← e2]; exact Nat.mul_le_mul_right _ h
  have sideH : ∀ c, 2 * (mag * 2 ^ s) ≤ c * 2 ^ d → 2 * mag * 2 ^ a ≤ c * 2 ^ T * 2 ^ b := by
    intro c h
    refine Nat.le_of_mul_le_mul_right (c := 2 ^ d) ?_ (Nat.two_pow_pos _)
    have e1 : c * 2 ^ T * 2 ^ b * 2 ^ d = c * 2 ^ d * 2 ^ (T + b) := by rw [Nat.pow_add]; simp [Nat.mul_assoc, Nat.mul_comm, Nat.mul_left_comm]
    have e2 : 2 * mag * 2 ^ a * 2 ^ d = 2 * (mag * 2 ^ s) * 2 ^ (T + b) := by
      rw [Nat.mul_assoc, ← Nat.pow_add, hsum, Nat.add_assoc, Nat.pow_add]; simp [Nat.mul_assoc]
    rw [e1, e2]; exact Nat.mul_le_mul_right _ h
  have sideH' : ∀ c, 2 * mag * 2 ^ a ≤ c * 2 ^ T * 2 ^ b → 2 * (mag * 2 ^ s) ≤ c * 2 ^ d := by
    intro c h
    refine Nat.le_of_mul_le_mul_right (c := 2 ^ (T + b)) ?_ (Nat.two_pow_pos _)
    have e1 : c * 2 ^ T * 2 ^ b * 2 ^ d = c * 2 ^ d * 2 ^ (T + b) := by rw [Nat.pow_add]; simp [Nat.mul_assoc, Nat.mul_comm, Nat.mul_left_comm]
    have e2 : 2 * mag * 2 ^ a * 2 ^ d = 2 * (mag * 2 ^ s) * 2 ^ (T + b) := by
      rw [Nat.mul_assoc, ← Nat.pow_add, hsum, Nat.add_assoc, Nat.pow_add]; simp [Nat.mul_assoc]
    rw [← e1, ← e2]; exact Nat.mul_le_mul_right _ h
  -- how great the kept part is
  have hB : f.binade = 2 ^ f.fractionBits := rfl
  have hup : mag * 2 ^ s ≤ 2 * f.binade * 2 ^ d := by
    have h1 : mag * 2 ^ s ≤ 2 ^ (mag.log2 + 1) * 2 ^ s := Nat.mul_le_mul_right _ (Nat.le_of_lt hlog2)
    have h2 : 2 * f.binade * 2 ^ d = 2 ^ (f.fractionBits + 1 + d) := by rw [hB, Nat.pow_add, Nat.pow_succ, Nat.mul_comm 2]
    rw [h2]; rw [← Nat.pow_add] at h1
    exact Nat.le_trans h1 (Nat.pow_le_pow_right (by omega) (by omega))
  have hkle := cut_even_le neg (mag * 2 ^ s) d (2 * f.binade) hup
  have hcut := cut_even neg (mag * 2 ^ s) d
  have hdown : T = 0 ∨ f.binade * 2 ^ d ≤ mag * 2 ^ s := by
    rcases hor with h | h
    · left; omega
    · right
      have h1 : 2 ^ mag.log2 * 2 ^ s ≤ mag * 2 ^ s := Nat.mul_le_mul_right _ hlog1
      rw [hB, ← Nat.pow_add]; rw [← Nat.pow_add] at h1
      exact Nat.le_trans (Nat.pow_le_pow_right (by omega) (by omega)) h1
  have hkge : T = 0 ∨ f.binade ≤ Toward.even.cut neg (mag * 2 ^ s) d := hdown.imp id (cut_even_ge neg _ d _)
  generalize Toward.even.cut neg (mag * 2 ^ s) d = k at *
  refine ⟨_, rfl, near_alg hfb X hkle ?_ ?_ ?_ ?_ ?_⟩
  · rcases hdown with h | h
    · exact Or.inl h
    · rcases hkge with h3 | h3
      · exact Or.inl h3
      · refine Or.inr ⟨h3, (ag _).1 (sideL _ ?_)⟩
        rw [Nat.mul_assoc]; omega
  · exact fun h0 => (ag _).1 (sideL _ (hcut.1 h0).1)
  · exact fun h0 hh => (hcut.1 h0).2 (Nat.le_antisymm (hcut.1 h0).1 (sideH' _ ((ag _).2.2.2 hh)))
  · exact (ag _).2.1 (sideH _ hcut.2.1)
  · exact fun hh => hcut.2.2 (Nat.le_antisymm hcut.2.1 (sideL' _ ((ag _).2.2.1 hh)))



theorem pow_cross {a b a0 b0 : Nat} (h : a + b0 = a0 + b) (c m : Nat) : c * 2 ^ b ≤ m * 2 ^ a ↔ c * 2 ^ b0 ≤ m * 2 ^ a0 := by
  have key : ∀ {a b a0 b0 : Nat}, a + b0 = a0 + b → c * 2 ^ b ≤ m * 2 ^ a → c * 2 ^ b0 ≤ m * 2 ^ a0 := by
    intro a b a0 b0 h h1
    refine Nat.le_of_mul_le_mul_right (c := 2 ^ b) ?_ (Nat.two_pow_pos _)
    have e1 : c * 2 ^ b0 * 2 ^ b = c * 2 ^ b * 2 ^ b0 := by rw [Nat.mul_assoc, Nat.mul_comm (2 ^ b0), ← Nat.mul_assoc]
    have e2 : m * 2 ^ a0 * 2 ^ b = m * 2 ^ a * 2 ^ b0 := by rw [Nat.mul_assoc, ← Nat.pow_add, ← h, Nat.pow_add, Nat.mul_assoc]
    rw [e1, e2]; exact Nat.mul_le_mul_right _ h1
  exact ⟨key h, key (by omega)⟩

theorem pow_cross' {a b a0 b0 : Nat} (h : a + b0 = a0 + b) (c m : Nat) : m * 2 ^ a ≤ c * 2 ^ b ↔ m * 2 ^ a0 ≤ c * 2 ^ b0 :=
  pow_cross (by omega) m c

/-- 'p / q * 2 ^ e' in units of the least place. -/
def frac (f : Format) (p q : Nat) (e : Int) (hq : 0 < q) : Val :=
  Val.rat (p * 2 ^ (e - f.leastPlace).toNat) (q * 2 ^ (f.leastPlace - e).toNat) (Nat.mul_pos hq (Nat.two_pow_pos _))

/-- The root of 'p / q * 2 ^ (2 * e)' in units of the least place. -/
def fracRoot (f : Format) (p q : Nat) (e : Int) (hq : 0 < q) : Val :=
  Val.root (p * 2 ^ (2 * (e - f.leastPlace).toNat)) (q * 2 ^ (2 * (f.leastPlace - e).toNat)) (Nat.mul_pos hq (Nat.two_pow_pos _))

theorem near_zero (f : Format) (q : Nat) (e : Int) (hq : 0 < q) : Near f (frac f 0 q e hq) 0 := by
  refine ⟨Nat.zero_le _, fun h => absurd h (Nat.lt_irrefl _), fun _ => ⟨?_, fun _ => rfl⟩⟩
  simp [frac, Val.rat]

theorem nearest_exact (f : Format) (hfb : 1 ≤ f.fractionBits) (neg : Bool) (mag : Nat) (place : Int) :
    ∃ r, f.nearest neg mag place = f.word neg r ∧ Near f (frac f mag 1 place Nat.one_pos) r := by
  rcases Nat.eq_zero_or_pos mag with rfl | hm
  · exact ⟨0, by simp [Format.nearest], near_zero f 1 place Nat.one_pos⟩
  · refine nearest_near f hfb neg mag place hm _ ?_
    intro c T a b _ hab
    simp only [frac, Val.rat, Nat.one_mul, ← Nat.mul_assoc]
    have hc : a + (f.leastPlace - place).toNat = (place - f.leastPlace).toNat + b := by omega
    exact ⟨(pow_cross hc _ _).1, (pow_cross' hc _ _).1, (pow_cross hc _ _).2, (pow_cross' hc _ _).2⟩

/-- A whole part with one digit more for what is left: it serves where that digit lies two places below the last. -/
theorem agree_sticky (f : Format) (num n : Nat) (hn : 0 < n) (e : Int) (hlast : e + 1 ≤ lastOf f (2 * (num / n) + (num % n != 0).toNat) (e - 1)) :
    ∀ c T a b : Nat, (T : Int) = lastOf f (2 * (num / n) + (num % n != 0).toNat) (e - 1) - f.leastPlace → (a : Int) - b = e - 1 - f.leastPlace →
      (c * 2 ^ T * 2 ^ b ≤ 2 * (2 * (num / n) + (num % n != 0).toNat) * 2 ^ a → (frac f num n e hn).lo (c * 2 ^ T)) ∧
      (2 * (2 * (num / n) + (num % n != 0).toNat) * 2 ^ a ≤ c * 2 ^ T * 2 ^ b → (frac f num n e hn).hi (c * 2 ^ T)) ∧
      ((frac f num n e hn).lo (c * 2 ^ T) → c * 2 ^ T * 2 ^ b ≤ 2 * (2 * (num / n) + (num % n != 0).toNat) * 2 ^ a) ∧
      ((frac f num n e hn).hi (c * 2 ^ T) → 2 * (2 * (num / n) + (num % n != 0).toNat) * 2 ^ a ≤ c * 2 ^ T * 2 ^ b) := by
  intro c T a b hT hab
  generalize lastOf f (2 * (num / n) + (num % n != 0).toNat) (e - 1) = L at *
  obtain ⟨g, hg⟩ : ∃ g : Nat, T + b = a + 2 + g := ⟨T + b - (a + 2), by omega⟩
  obtain ⟨a', ha'⟩ : ∃ a' : Nat, a' = (e - f.leastPlace).toNat := ⟨_, rfl⟩
  obtain ⟨b', hb'⟩ : ∃ b' : Nat, b' = (f.leastPlace - e).toNat := ⟨_, rfl⟩
  have hg' : T + b' = a' + 1 + g := by omega
  simp only [frac, Val.rat]
  rw [← ha', ← hb']
  have hst : (num % n != 0).toNat ≤ 1 := by cases (num % n != 0) <;> simp
  have hst0 : (num % n != 0).toNat = 0 ↔ num % n = 0 := by by_cases h : num % n = 0 <;> simp [h]
  generalize (num % n != 0).toNat = st at *
  have hdm := Nat.div_add_mod num n
  have hlt := Nat.mod_lt num hn
  -- both sides over 'c * 2 ^ g'
  have e1 : c * 2 ^ T * 2 ^ b = 4 * (c * 2 ^ g) * 2 ^ a := by
    rw [Nat.mul_assoc, ← Nat.pow_add, hg, Nat.pow_add, Nat.pow_add]
    have : (2 : Nat) ^ 2 = 4 := rfl
    rw [this]; simp [Nat.mul_assoc, Nat.mul_comm, Nat.mul_left_comm]
  have e2 : c * 2 ^ T * (n * 2 ^ b') = 2 * ((c * 2 ^ g) * n) * 2 ^ a' := by
    have : c * 2 ^ T * (n * 2 ^ b') = c * n * 2 ^ (T + b') := by rw [Nat.pow_add]; simp [Nat.mul_assoc, Nat.mul_comm, Nat.mul_left_comm]
    rw [this, hg', Nat.pow_add, Nat.pow_add]; simp [Nat.mul_assoc, Nat.mul_comm, Nat.mul_left_comm]
  have e3 : 2 * (num * 2 ^ a') = 2 * num * 2 ^ a' := by rw [Nat.mul_assoc]
  rw [e1, e2, e3]
  have p1 := Nat.two_pow_pos a
  have p2 := Nat.two_pow_pos a'
  rw [Nat.mul_le_mul_right_iff p1, Nat.mul_le_mul_right_iff p1, Nat.mul_le_mul_right_iff p2, Nat.mul_le_mul_right_iff p2]
  generalize c * 2 ^ g = z at *
  have k1 : z ≤ num / n ↔ z * n ≤ num := Nat.le_div_iff_mul_le hn
  have k2 : (num / n < z ∨ num / n = z ∧ num % n = 0) ↔ num ≤ z * n := by
    constructor
    · rintro (h | ⟨h, h0⟩)
      · have : n * (num / n + 1) ≤ n * z := Nat.mul_le_mul_left _ h
        rw [Nat.mul_add, Nat.mul_comm n z] at this; omega
      · rw [h, h0, Nat.mul_comm n z] at hdm; omega
    · intro h
      rcases Nat.lt_trichotomy (num / n) z with h1 | h1 | h1
      · exact Or.inl h1
      · right; refine ⟨h1, ?_⟩
        rw [h1, Nat.mul_comm n z] at hdm; omega
      · exfalso
        have : n * (z + 1) ≤ n * (num / n) := Nat.mul_le_mul_left _ h1
        rw [Nat.mul_add, Nat.mul_comm n z] at this; omega
  rw [← hst0] at k2
  refine ⟨fun h => ?_, fun h => ?_, fun h => ?_, fun h => ?_⟩
  · have := k1.1 (by omega); omega
  · have := k2.1 (by omega); omega
  · have := k1.2 (by omega); omega
  · have := k2.2 (by omega); omega

theorem log2_ge {m k : Nat} (h : 2 ^ k ≤ m) : k ≤ m.log2 := (Nat.le_log2 (by have := Nat.two_pow_pos k; omega)).2 h

/-- Any quotient of enough digits and one more for what is left rounds as the fraction itself. -/
theorem quotient_near (f : Format) (hfb : 1 ≤ f.fractionBits) (neg : Bool) (num n : Nat) (hn : 0 < n) (e : Int)
    (h : num = 0 ∨ 2 ^ (f.fractionBits + 1) ≤ num / n ∨ e + 1 ≤ f.leastPlace) :
    ∃ r, f.nearest neg (2 * (num / n) + (num % n != 0).toNat) (e - 1) = f.word neg r ∧ Near f (frac f num n e hn) r := by
  rcases Nat.eq_zero_or_pos num with rfl | hnum
  · refine ⟨0, ?_, near_zero f n e hn⟩
    simp [Format.nearest]
  · have hpos : 0 < 2 * (num / n) + (num % n != 0).toNat := by
      rcases Nat.eq_zero_or_pos (num / n) with h0 | h0
      · have : num % n = num := by have := Nat.div_add_mod num n; rw [h0] at this; omega
        rw [this]
        have h1 : (num != 0) = true := by simp; omega
        rw [h1]; simp
      · omega
    refine nearest_near f hfb neg _ _ hpos _ (agree_sticky f num n hn e ?_)
    unfold lastOf
    rcases h with h | h | h
    · omega
    · have : f.fractionBits + 2 ≤ (2 * (num / n) + (num % n != 0).toNat).log2 := log2_ge (by rw [Nat.pow_succ]; omega)
      omega
    · omega

/-- A whole root with one digit more for what is left. -/
theorem root_near (f : Format) (hfb : 1 ≤ f.fractionBits) (neg : Bool) (num w : Nat) (hw1 : w * w ≤ num) (hw2 : num < (w + 1) * (w + 1)) (e : Int)
    (h : num = 0 ∨ 2 ^ (f.fractionBits + 1) ≤ w) :
    ∃ r, f.nearest neg (2 * w + (w * w != num).toNat) (e - 1) = f.word neg r ∧ Near f (fracRoot f num 1 e Nat.one_pos) r := by
  rcases Nat.eq_zero_or_pos num with rfl | hnum
  · have : w = 0 := by
      rcases Nat.eq_zero_or_pos w with h0 | h0
      · exact h0
      · have := Nat.mul_pos h0 h0; omega
    subst this
    refine ⟨0, by simp [Format.nearest], Nat.zero_le _, fun h => absurd h (Nat.lt_irrefl _), fun _ => ⟨?_, fun _ => rfl⟩⟩
    simp [fracRoot, Val.root]
  · have hwpos : 0 < w := by
      rcases h with h | h
      · omega
      · have := Nat.two_pow_pos (f.fractionBits + 1); omega
    have hst : (w * w != num).toNat ≤ 1 := by cases (w * w != num) <;> simp
    have hst0 : (w * w != num).toNat = 0 ↔ w * w = num := by by_cases h : w * w = num <;> simp [h]
    have hlast : e + 1 ≤ lastOf f (2 * w + (w * w != num).toNat) (e - 1) := by
      unfold lastOf
      rcases h with h | h
      · omega
      · have : f.fractionBits + 2 ≤ (2 * w + (w * w != num).toNat).log2 := log2_ge (by rw [Nat.pow_succ]; omega)
        omega
    refine nearest_near f hfb neg _ _ (by omega) _ ?_
    intro c T a b hT hab
    generalize lastOf f (2 * w + (w * w != num).toNat) (e - 1) = L at *
    obtain ⟨g, hg⟩ : ∃ g : Nat, T + b = a + 2 + g := ⟨T + b - (a + 2), by omega⟩
    obtain ⟨a', ha'⟩ : ∃ a' : Nat, a' = (e - f.leastPlace).toNat := ⟨_, rfl⟩
    obtain ⟨b', hb'⟩ : ∃ b' : Nat, b' = (f.leastPlace - e).toNat := ⟨_, rfl⟩
    have hg' : T + b' = a' + 1 + g := by omega
    simp only [fracRoot, Val.root]
    rw [← ha', ← hb']
    generalize (w * w != num).toNat = st at *
    have e1 : c * 2 ^ T * 2 ^ b = 4 * (c * 2 ^ g) * 2 ^ a := by
      rw [Nat.mul_assoc, ← Nat.pow_add, hg, Nat.pow_add, Nat.pow_add]
      have : (2 : Nat) ^ 2 = 4 := rfl
      rw [this]; simp [Nat.mul_assoc, Nat.mul_comm, Nat.mul_left_comm]
    have e2 : c * 2 ^ T * (c * 2 ^ T) * (1 * 2 ^ (2 * b')) = 4 * ((c * 2 ^ g) * (c * 2 ^ g)) * 2 ^ (2 * a') := by
      have : c * 2 ^ T * (c * 2 ^ T) * (1 * 2 ^ (2 * b')) = (c * 2 ^ (T + b')) * (c * 2 ^ (T + b')) := by
        have : 2 * b' = b' + b' := by omega
        rw [this, Nat.pow_add, Nat.pow_add]; simp [Nat.mul_assoc, Nat.mul_comm, Nat.mul_left_comm]
      rw [this, hg']
      have : 2 * a' = a' + a' := by omega
      rw [this, Nat.pow_add, Nat.pow_add, Nat.pow_add]
      have h4 : ∀ x y z : Nat, c * (x * 2 ^ 1 * y) * (c * (x * 2 ^ 1 * y)) = 4 * (c * y * (c * y)) * (x * x) := by
        intro x y _
        have : (2 : Nat) ^ 1 = 2 := rfl
        rw [this, show (4 : Nat) = 2 * 2 from rfl]; simp only [Nat.mul_assoc, Nat.mul_comm, Nat.mul_left_comm]
      exact h4 _ _ 0
    have e3 : 4 * (num * 2 ^ (2 * a')) = 4 * num * 2 ^ (2 * a') := by rw [Nat.mul_assoc]
    rw [e1, e2, e3]
    have p1 := Nat.two_pow_pos a
    have p2 := Nat.two_pow_pos (2 * a')
    rw [Nat.mul_le_mul_right_iff p1, Nat.mul_le_mul_right_iff p1, Nat.mul_le_mul_right_iff p2, Nat.mul_le_mul_right_iff p2]
    generalize c * 2 ^ g = z at *
    have k1 : z ≤ w ↔ z * z ≤ num := by
      constructor
      · intro h; exact Nat.le_trans (Nat.mul_le_mul h h) hw1
      · intro h
        have : z * z < (w + 1) * (w + 1) := by omega
        have := Nat.mul_self_lt_mul_self_iff.1 this
        omega
    have k2 : (w < z ∨ w = z ∧ w * w = num) ↔ num ≤ z * z := by
      constructor
      · rintro (h | ⟨h, h0⟩)
        · have : (w + 1) * (w + 1) ≤ z * z := Nat.mul_le_mul h h
          omega
        · rw [← h]; omega
      · intro h
        rcases Nat.lt_trichotomy w z with h1 | h1 | h1
        · exact Or.inl h1
        · right; refine ⟨h1, ?_⟩; rw [← h1] at h; omega
        · exfalso
          have : z * z < w * w := Nat.mul_self_lt_mul_self_iff.2 h1
          omega
    rw [← hst0] at k2
    refine ⟨fun h => ?_, fun h => ?_, fun h => ?_, fun h => ?_⟩
    · have := k1.1 (by omega); omega
    · have := k2.1 (by omega); omega
    · have := k1.2 (by omega); omega
    · have := k2.2 (by omega); omega



theorem Near.congr {f : Format} {X Y : Val} (hl : ∀ a, X.lo a ↔ Y.lo a) (hh : ∀ a, X.hi a ↔ Y.hi a) {r : Nat} (h : Near f X r) : Near f Y r :=
  ⟨h.le, fun h0 => ⟨(hl _).1 (h.low h0).1, fun hx => (h.low h0).2 ((hh _).2 hx)⟩, fun h0 => ⟨(hh _).1 (h.high h0).1, fun hx => (h.high h0).2 ((hl _).2 hx)⟩⟩

theorem frac_lo (f : Format) (p q : Nat) (e : Int) (hq : 0 < q) {a b : Nat} (h : (a : Int) - b = e - f.leastPlace) (c : Nat) :
    (frac f p q e hq).lo c ↔ c * q * 2 ^ b ≤ 2 * p * 2 ^ a := by
  simp only [frac, Val.rat, ← Nat.mul_assoc]
  exact pow_cross (by omega) _ _

theorem frac_hi (f : Format) (p q : Nat) (e : Int) (hq : 0 < q) {a b : Nat} (h : (a : Int) - b = e - f.leastPlace) (c : Nat) :
    (frac f p q e hq).hi c ↔ 2 * p * 2 ^ a ≤ c * q * 2 ^ b := by
  simp only [frac, Val.rat, ← Nat.mul_assoc]
  exact pow_cross' (by omega) _ _

/-- The same number, its parts times powers of two. -/
theorem frac_scale (f : Format) (p q k l : Nat) (e e' : Int) (hq : 0 < q) (he : e' + k = e + l) (c : Nat) :
    ((frac f (p * 2 ^ k) (q * 2 ^ l) e' (Nat.mul_pos hq (Nat.two_pow_pos _))).lo c ↔ (frac f p q e hq).lo c) ∧
    ((frac f (p * 2 ^ k) (q * 2 ^ l) e' (Nat.mul_pos hq (Nat.two_pow_pos _))).hi c ↔ (frac f p q e hq).hi c) := by
  obtain ⟨a, ha⟩ : ∃ a : Nat, a = (e' - f.leastPlace).toNat := ⟨_, rfl⟩
  obtain ⟨b, hb⟩ : ∃ b : Nat, b = (f.leastPlace - e').toNat := ⟨_, rfl⟩
  have hab : (a : Int) - b = e' - f.leastPlace := by omega
  have hab2 : ((a + k : Nat) : Int) - (b + l : Nat) = e - f.leastPlace := by omega
  have e1 : c * (q * 2 ^ l) * 2 ^ b = c * q * 2 ^ (b + l) := by rw [Nat.pow_add]; simp only [Nat.mul_assoc, Nat.mul_comm, Nat.mul_left_comm]
  have e2 : 2 * (p * 2 ^ k) * 2 ^ a = 2 * p * 2 ^ (a + k) := by rw [Nat.pow_add]; simp only [Nat.mul_assoc, Nat.mul_comm, Nat.mul_left_comm]
  constructor
  · rw [frac_lo f _ _ _ _ hab, frac_lo f _ _ _ _ hab2, e1, e2]
  · rw [frac_hi f _ _ _ _ hab, frac_hi f _ _ _ _ hab2, e1, e2]

/-- The root of 'm * 2 ^ i'. -/
def rootOf (f : Format) (m : Nat) (i : Int) : Val :=
  Val.root (m * 2 ^ (i - 2 * f.leastPlace).toNat) (2 ^ (2 * f.leastPlace - i).toNat) (Nat.two_pow_pos _)

theorem rootOf_lo (f : Format) (m : Nat) (i : Int) {a b : Nat} (h : (a : Int) - b = i - 2 * f.leastPlace) (c : Nat) :
    (rootOf f m i).lo c ↔ c * c * 2 ^ b ≤ 4 * m * 2 ^ a := by
  simp only [rootOf, Val.root, ← Nat.mul_assoc]
  exact pow_cross (by omega) _ _

theorem rootOf_hi (f : Format) (m : Nat) (i : Int) {a b : Nat} (h : (a : Int) - b = i - 2 * f.leastPlace) (c : Nat) :
    (rootOf f m i).hi c ↔ 4 * m * 2 ^ a ≤ c * c * 2 ^ b := by
  simp only [rootOf, Val.root, ← Nat.mul_assoc]
  exact pow_cross' (by omega) _ _

theorem fracRoot_rootOf (f : Format) (m k : Nat) (i e : Int) (h : 2 * e + k = i) (c : Nat) :
    ((fracRoot f (m * 2 ^ k) 1 e Nat.one_pos).lo c ↔ (rootOf f m i).lo c) ∧ ((fracRoot f (m * 2 ^ k) 1 e Nat.one_pos).hi c ↔ (rootOf f m i).hi c) := by
  obtain ⟨a, ha⟩ : ∃ a : Nat, a = (e - f.leastPlace).toNat := ⟨_, rfl⟩
  obtain ⟨b, hb⟩ : ∃ b : Nat, b = (f.leastPlace - e).toNat := ⟨_, rfl⟩
  have hab2 : ((2 * a + k : Nat) : Int) - (2 * b : Nat) = i - 2 * f.leastPlace := by omega
  have e2 : 4 * (m * 2 ^ k * 2 ^ (2 * a)) = 4 * m * 2 ^ (2 * a + k) := by rw [Nat.pow_add]; simp only [Nat.mul_assoc, Nat.mul_comm, Nat.mul_left_comm]
  constructor
  · rw [rootOf_lo f _ _ hab2]; simp only [fracRoot, Val.root, ← ha, ← hb, Nat.one_mul]; rw [e2]
  · rw [rootOf_hi f _ _ hab2]; simp only [fracRoot, Val.root, ← ha, ← hb, Nat.one_mul]; rw [e2]

/-- What 'write' gives of a quotient of two numbers. -/
theorem div_numbers (f : Format) (hfb : 1 ≤ f.fractionBits) (s t : Bool) (m n : Nat) (i j : Int) (hn : 0 < n) :
    ∃ r, ((Datum.number s m i).quotient (f.fractionBits + 2) (Datum.number t n j)).map f.write = some (f.word (s ^^ t) r) ∧ Near f (frac f m n (i - j) hn) r := by
  simp only [Datum.quotient, if_neg (show ¬ n = 0 by omega), Option.map_some, Format.write, Nat.shiftLeft_eq]
  generalize hk : f.fractionBits + 2 + n.log2 - m.log2 = k
  have h : m * 2 ^ k = 0 ∨ 2 ^ (f.fractionBits + 1) ≤ m * 2 ^ k / n ∨ i - j - k + 1 ≤ f.leastPlace := by
    rcases Nat.eq_zero_or_pos m with rfl | hm
    · left; simp
    · right; left
      rw [Nat.le_div_iff_mul_le hn]
      have h1 : 2 ^ m.log2 ≤ m := Nat.log2_self_le (by omega)
      have h2 : n < 2 ^ (n.log2 + 1) := Nat.lt_log2_self
      calc 2 ^ (f.fractionBits + 1) * n ≤ 2 ^ (f.fractionBits + 1) * 2 ^ (n.log2 + 1) := Nat.mul_le_mul_left _ (Nat.le_of_lt h2)
        _ = 2 ^ (f.fractionBits + 1 + (n.log2 + 1)) := by rw [← Nat.pow_add]
        _ ≤ 2 ^ (m.log2 + k) := Nat.pow_le_pow_right (by omega) (by omega)
        _ = 2 ^ m.log2 * 2 ^ k := by rw [Nat.pow_add]
        _ ≤ m * 2 ^ k := Nat.mul_le_mul_right _ h1
  obtain ⟨r, h1, h2⟩ := quotient_near f hfb (s ^^ t) (m * 2 ^ k) n hn (i - j - k) h
  refine ⟨r, by rw [← h1], ?_⟩
  have sc := frac_scale f m n k 0 (i - j) (i - j - k) hn (by omega)
  simp only [Nat.pow_zero, Nat.mul_one] at sc
  exact h2.congr (fun a => (sc a).1) (fun a => (sc a).2)

theorem mul_numbers (f : Format) (hfb : 1 ≤ f.fractionBits) (s t : Bool) (m n : Nat) (i j : Int) :
    ∃ r, ((Datum.number s m i).product (Datum.number t n j)).map f.write = some (f.word (s ^^ t) r) ∧ Near f (frac f (m * n) 1 (i + j) Nat.one_pos) r := by
  simp only [Datum.product, Option.map_some, Format.write]
  obtain ⟨r, h1, h2⟩ := nearest_exact f hfb (s ^^ t) (m * n) (i + j)
  exact ⟨r, by rw [h1], h2⟩

theorem rootFrom_spec (n todo root : Nat) (h1 : root * root ≤ n) (h2 : n < (root + 2 ^ todo) * (root + 2 ^ todo)) :
    Datum.rootFrom n todo root * Datum.rootFrom n todo root ≤ n ∧ n < (Datum.rootFrom n todo root + 1) * (Datum.rootFrom n todo root + 1) := by
  induction todo generalizing root with
  | zero => simpa [Datum.rootFrom] using ⟨h1, h2⟩
  | succ t ih =>
    simp only [Datum.rootFrom, Nat.one_shiftLeft]
    have e : 2 ^ (t + 1) = 2 ^ t + 2 ^ t := by rw [Nat.pow_succ]; omega
    split
    · rename_i h; exact ih _ h (by rw [e] at h2; rw [Nat.add_assoc]; exact h2)
    · rename_i h; exact ih _ h1 (by omega)

theorem sqrt_number (f : Format) (hfb : 1 ≤ f.fractionBits) (m : Nat) (i : Int) (hm : 0 < m) :
    ∃ r, ((Datum.number false m i).root (f.fractionBits + 2)).map f.write = some (f.word false r) ∧ Near f (rootOf f m i) r := by
  simp only [Datum.root, if_neg (show ¬ m = 0 by omega), Bool.false_eq_true, if_false, Option.map_some, Format.write, Nat.shiftLeft_eq]
  generalize hk0 : 2 * (f.fractionBits + 2) - m.log2 = k0
  generalize hk : k0 + ((i - (k0 : Int)) % 2).toNat = k
  have hpar : 2 * ((i - k) / 2) + k = i := by
    have h2 : (i - k0) % 2 = 0 ∨ (i - k0) % 2 = 1 := by omega
    rcases h2 with h | h
    · rw [h] at hk; simp at hk; omega
    · rw [h] at hk; simp at hk; omega
  generalize hn : m * 2 ^ k = n
  have hnpos : 0 < n := by rw [← hn]; exact Nat.mul_pos hm (Nat.two_pow_pos _)
  have hlt : n < 2 ^ (n.log2 + 1) := Nat.lt_log2_self
  have hsp := rootFrom_spec n (n.log2 / 2 + 1) 0 (by omega) (by
    rw [Nat.zero_add, ← Nat.pow_add]
    exact Nat.lt_of_lt_of_le hlt (Nat.pow_le_pow_right (by omega) (by omega)))
  generalize Datum.rootFrom n (n.log2 / 2 + 1) 0 = w at *
  have hbig : 2 ^ (f.fractionBits + 1) ≤ w := by
    rcases Nat.lt_or_ge w (2 ^ (f.fractionBits + 1)) with h | h
    · exfalso
      have h1 : 2 ^ m.log2 ≤ m := Nat.log2_self_le (by omega)
      have h3 : (w + 1) * (w + 1) ≤ 2 ^ (f.fractionBits + 1) * 2 ^ (f.fractionBits + 1) := Nat.mul_le_mul h h
      have h4 : 2 ^ (f.fractionBits + 1) * 2 ^ (f.fractionBits + 1) ≤ n := by
        rw [← hn, ← Nat.pow_add]
        calc 2 ^ (f.fractionBits + 1 + (f.fractionBits + 1)) ≤ 2 ^ (m.log2 + k) := Nat.pow_le_pow_right (by omega) (by omega)
          _ = 2 ^ m.log2 * 2 ^ k := by rw [Nat.pow_add]
          _ ≤ m * 2 ^ k := Nat.mul_le_mul_right _ h1
      omega
    · exact h
  obtain ⟨r, h1, h2⟩ := root_near f hfb false n w hsp.1 hsp.2 ((i - k) / 2) (Or.inr hbig)
  refine ⟨r, by rw [← h1], ?_⟩
  rw [← hn] at h2
  have sc := fracRoot_rootOf f m k i ((i - k) / 2) hpar
  exact h2.congr (fun a => (sc a).1) (fun a => (sc a).2)

end Fl
