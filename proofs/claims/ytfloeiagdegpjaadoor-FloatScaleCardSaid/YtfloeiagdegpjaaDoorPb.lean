/- Words and what they stand for: no result of an operation is a NaN; the units of a word. Plain laws over Ieee alone. -/
import Derived.Test.YtfloeiagdegpjaaDoorPa
set_option linter.unusedVariables false
set_option linter.unusedSimpArgs false
namespace Fl
open Ieee

structure Good (f : Format) : Prop where
  fb : 1 ≤ f.fractionBits
  eb : 2 ≤ f.exponentBits

theorem good_double : Good double := ⟨by decide, by decide⟩
theorem good_single : Good single := ⟨by decide, by decide⟩

theorem binade_le_inf {f : Format} (hf : Good f) : f.binade ≤ f.infRung := by
  have h : 2 ^ 1 ≤ 2 ^ f.exponentBits := Nat.pow_le_pow_right (by omega) (by have := hf.eb; omega)
  unfold Format.infRung
  exact Nat.le_mul_of_pos_left _ (by omega)

theorem word_rung (f : Format) (neg : Bool) {r : Nat} (h : r < f.signWeight) : f.word neg r % f.signWeight = r := by
  unfold Format.word
  cases neg
  · simp [Nat.mod_eq_of_lt h]
  · simp [Nat.mod_eq_of_lt h]

theorem word_neg (f : Format) (neg : Bool) {r : Nat} (h : r < f.signWeight) : (f.word neg r / f.signWeight % 2 == 1) = neg := by
  have hp : 0 < f.signWeight := Nat.two_pow_pos _
  unfold Format.word
  cases neg
  · simp [Nat.div_eq_of_lt h]
  · have : (f.signWeight + r) / f.signWeight = 1 := by
      rw [Nat.add_div_left _ hp, Nat.div_eq_of_lt h]
    simp [this]

/-- Whether a word is a NaN's. -/
theorem read_nan {f : Format} (hf : Good f) (b : Nat) : (f.read b).isNaN = decide (f.infRung < b % f.signWeight) := by
  have hle := binade_le_inf hf
  unfold Format.read
  simp only []
  generalize b % f.signWeight = r
  by_cases h2 : r < f.binade
  · have h3 : decide (f.infRung < r) = false := decide_eq_false (by omega)
    rw [h3, if_pos h2]; rfl
  · rw [if_neg h2]
    by_cases h1 : r < f.infRung
    · have h3 : decide (f.infRung < r) = false := decide_eq_false (by omega)
      rw [h3, if_pos h1]; rfl
    · rw [if_neg h1]
      by_cases h3 : r = f.infRung
      · rw [if_pos h3, h3]; simp [Datum.isNaN]
      · rw [if_neg h3]
        have h4 : decide (f.infRung < r) = true := decide_eq_true (by omega)
        rw [h4]; rfl

theorem read_word_nan {f : Format} (hf : Good f) (neg : Bool) {r : Nat} (h : r ≤ f.infRung) : (f.read (f.word neg r)).isNaN = false := by
  rw [read_nan hf, word_rung f neg (Nat.lt_of_le_of_lt h f.infRung_lt)]
  exact decide_eq_false (by omega)

theorem nearest_word (f : Format) (neg : Bool) (mag : Nat) (place : Int) : ∃ r, f.nearest neg mag place = f.word neg r ∧ r ≤ f.infRung := by
  unfold Format.nearest
  simp only []
  split
  · exact ⟨0, rfl, Nat.zero_le _⟩
  · exact ⟨_, rfl, Nat.min_le_right _ _⟩

theorem write_word (f : Format) {d : Datum} (hd : d.isNaN = false) : ∃ neg r, f.write d = f.word neg r ∧ r ≤ f.infRung := by
  cases d with
  | number s m e => obtain ⟨r, h1, h2⟩ := nearest_word f s m e; exact ⟨s, r, h1, h2⟩
  | infinity s => exact ⟨s, f.infRung, rfl, Nat.le_refl _⟩
  | nan s t => simp [Datum.isNaN] at hd

theorem write_nan {f : Format} (hf : Good f) {d : Datum} (hd : d.isNaN = false) : (f.read (f.write d)).isNaN = false := by
  obtain ⟨neg, r, h, hr⟩ := write_word f hd
  rw [h]; exact read_word_nan hf neg hr

theorem sum_nan {x y d : Datum} (h : x.sum y = some d) : d.isNaN = false := by
  cases x <;> cases y <;> simp only [Datum.sum] at h <;> first | (cases h; rfl) | (cases h; done) | (split at h <;> cases h; rfl)

theorem product_nan {x y d : Datum} (h : x.product y = some d) : d.isNaN = false := by
  cases x <;> cases y <;> simp only [Datum.product] at h <;> first | (cases h; rfl) | (cases h; done) | (split at h <;> cases h; rfl)

theorem quotient_nan {n : Nat} {x y d : Datum} (h : x.quotient n y = some d) : d.isNaN = false := by
  cases x <;> cases y <;> simp only [Datum.quotient] at h
  case number.number =>
    split at h
    · split at h <;> cases h; rfl
    · cases h; rfl
  all_goals (cases h; try rfl)

theorem root_nan {n : Nat} {x d : Datum} (h : x.root n = some d) : d.isNaN = false := by
  cases x <;> simp only [Datum.root] at h
  · split at h
    · cases h; rfl
    · split at h <;> cases h; rfl
  · split at h <;> cases h; rfl
  · cases h

theorem map_write {f : Format} (hf : Good f) {o : Option Datum} (ho : ∀ d, o = some d → d.isNaN = false) {r : Nat} (h : o.map f.write = some r) : (f.read r).isNaN = false := by
  cases o with
  | none => cases h
  | some d => cases h; exact write_nan hf (ho d rfl)

theorem add_nan {f : Format} (hf : Good f) {x y r : Nat} (h : f.add x y = some r) : (f.read r).isNaN = false := map_write hf (fun _ => sum_nan) h
theorem sub_nan {f : Format} (hf : Good f) {x y r : Nat} (h : f.sub x y = some r) : (f.read r).isNaN = false := map_write hf (fun _ => sum_nan) h
theorem mul_nan {f : Format} (hf : Good f) {x y r : Nat} (h : f.mul x y = some r) : (f.read r).isNaN = false := map_write hf (fun _ => product_nan) h
theorem div_nan {f : Format} (hf : Good f) {x y r : Nat} (h : f.div x y = some r) : (f.read r).isNaN = false := map_write hf (fun _ => quotient_nan) h
theorem sqrt_nan {f : Format} (hf : Good f) {x r : Nat} (h : f.sqrt x = some r) : (f.read r).isNaN = false := map_write hf (fun _ => root_nan) h
theorem fma_nan {f : Format} (hf : Good f) {x y z r : Nat} (h : f.fma x y z = some r) : (f.read r).isNaN = false := by
  refine map_write hf (fun d hd => ?_) h
  cases hp : (f.read x).product (f.read y) with
  | none => rw [hp] at hd; cases hd
  | some p => rw [hp] at hd; exact sum_nan hd

theorem order_self {d : Datum} : (d.order d == some .eq) = !d.isNaN := by
  cases d with
  | number s m e => simp only [Datum.order]; simp [Datum.isNaN]
  | infinity s => simp [Datum.order, Datum.isNaN]
  | nan s t => simp [Datum.order, Datum.isNaN]
end Fl
