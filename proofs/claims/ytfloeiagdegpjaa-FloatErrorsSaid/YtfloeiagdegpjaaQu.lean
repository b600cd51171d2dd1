/- Signed whole numbers as limbs: the laws' of, plus, eqWhole, and EqNat. No program runs here. -/
import Derived.Test.YtfloeiagdegpjaaQm
import Derived.Test.YtfloeiagdegpjaaRf
namespace Go.Proofs.Ytfloeiagdegpjaa.Q
open Go.RowKit Go.Proofs.YtfloeiagdegpjaaW.PrintWords Go.Proofs.Ytfloeiagdegpjaa.Rf
set_option linter.unusedVariables false
set_option linter.unusedSimpArgs false

/-- A sign and a magnitude. -/
def sgd (s : Bool) (m : Nat) : Int := if s then -(m : Int) else m

theorem lim_inj {a b : Nat} (h : lim a = lim b) : a = b := by rw [← nv_lim a, h, nv_lim]

theorem eqNat_loop {a b : Nat} (hl : (lim a).length = (lim b).length) (hs : (lim a).length < 1073741824) (d : Nat) : ∀ i : Nat, (lim a).length - i = d → i ≤ (lim a).length → (∀ j, j < i → dg a j = dg b j) →
    Ev (fun k => fathomref0_EqNat.l0 k (lim a) (lim b) (i : Int)) (decide (a = b)) := by
  induction d with
  | zero =>
    intro i hd hi hj
    have hi2 : ¬ i < (lim a).length := by omega
    have hab : a = b := by
      have key : ∀ n, n ≤ i → a % B32 ^ n = b % B32 ^ n := by
        intro n
        induction n with
        | zero => intro _; rw [Nat.pow_zero, Nat.mod_one, Nat.mod_one]
        | succ n ih => intro hn; rw [mod_step, mod_step, ih (by omega), hj n (by omega)]
      have := key i (Nat.le_refl _)
      rw [mod_all hi2, mod_all (by omega)] at this
      exact this
    refine Ev.step (f := fun _ => some (decide (a = b))) (fun k => ?_) (Ev.now _)
    rw [fathomref0_EqNat.l0, if_neg (by omega), decide_eq_true hab]
  | succ d ih =>
    intro i hd hi hj
    have h1 : i < (lim a).length := by omega
    have hw : wrap64 ((i : Int) + 1) = ((i + 1 : Nat) : Int) := wrap64_next (by omega)
    by_cases he : dg a i = dg b i
    · refine Ev.step (fun k => ?_) (ih (i + 1) (by omega) h1 (fun j hj2 => by
        rcases Nat.lt_or_ge j i with h | h
        · exact hj j h
        · rw [show j = i by omega]; exact he))
      rw [fathomref0_EqNat.l0, if_pos (by omega), if_pos (by omega), if_pos (by omega), rd_lim, rd_lim, if_pos (by omega), hw]
    · refine Ev.step (f := fun _ => some (decide (a = b))) (fun k => ?_) (Ev.now _)
      rw [fathomref0_EqNat.l0, if_pos (by omega), if_pos (by omega), if_pos (by omega), rd_lim, rd_lim, if_neg (by omega), decide_eq_false (fun h => he (by rw [h]))]

theorem eqNat_ev {a b : Nat} (hs : (lim a).length < 1073741824) : Ev (fun k => fathomref0_EqNat.f k (lim a) (lim b)) (decide (a = b)) := by
  by_cases hl : (lim a).length = (lim b).length
  · refine Ev.congr (fun k => ?_) (eqNat_loop hl hs _ 0 rfl (Nat.zero_le _) (fun j hj => absurd hj (Nat.not_lt_zero j)))
    unfold fathomref0_EqNat.f
    rw [if_pos (by omega)]; rfl
  · refine Ev.congr (f := fun _ => some (decide (a = b))) (fun k => ?_) (Ev.now _)
    unfold fathomref0_EqNat.f
    rw [if_neg (by omega), decide_eq_false (fun h => hl (by rw [h]))]

/-- The same whole number, whatever a nought's sign. -/
theorem eqWhole_ev {s t : Bool} {a b : Nat} (hs : (lim a).length < 1073741824) (h : sgd s a = sgd t b) : Ev (fun k => fathomlaw3_eqWhole.f k s (lim a) t (lim b)) true := by
  have hab : a = b := by unfold sgd at h; split at h <;> split at h <;> omega
  obtain ⟨K, H⟩ := eqNat_ev (a := a) (b := b) hs
  refine ⟨K, fun k hk => ?_⟩
  dsimp only at H ⊢
  unfold fathomlaw3_eqWhole.f
  rw [H k hk, Option.bind_some, if_pos (decide_eq_true hab)]
  by_cases hst : s = t
  · rw [if_pos (beq_iff_eq.2 hst)]
  · rw [if_neg (fun h' => hst (beq_iff_eq.1 h'))]
    have ha0 : a = 0 := by
      unfold sgd at h
      cases s <;> cases t <;> simp at h hst <;> omega
    rw [ha0, lim_zero]; rfl

theorem plus_ev {s t : Bool} {a b : Nat} (ha : (lim a).length < 1073741824) (hb : (lim b).length < 1073741824) :
    ∃ u c, Ev (fun k => fathomlaw3_plus.f k s (lim a) t (lim b)) (u, lim c) ∧ sgd u c = sgd s a + sgd t b ∧ c ≤ a + b := by
  by_cases hst : s = t
  · obtain ⟨K, H⟩ := sum_ev ha hb
    refine ⟨s, a + b, ⟨K, fun k hk => ?_⟩, ?_, Nat.le_refl _⟩
    · dsimp only at H ⊢
      unfold fathomlaw3_plus.f
      rw [if_pos (beq_iff_eq.2 hst), H k hk, Option.bind_some]
    · rw [← hst]; unfold sgd; split <;> omega
  · have hne : ¬ (s == t) = true := fun h => hst (beq_iff_eq.1 h)
    obtain ⟨K1, H1⟩ := cmp_ev (b := b) ha
    by_cases hc : b ≤ a
    · obtain ⟨K2, H2⟩ := less_ev hc ha
      have hsg : sgnN a b ≥ 0 := by unfold sgnN; rw [if_neg (Nat.not_lt.2 hc)]; split <;> decide
      refine ⟨s, a - b, ⟨K1 + K2, fun k hk => ?_⟩, ?_, by omega⟩
      · dsimp only at H1 H2 ⊢
        unfold fathomlaw3_plus.f
        rw [if_neg hne, H1 k (by omega), Option.bind_some, if_pos hsg, H2 k (by omega), Option.bind_some]
      · unfold sgd; cases s <;> cases t <;> simp at hst ⊢ <;> omega
    · obtain ⟨K2, H2⟩ := less_ev (Nat.le_of_lt (Nat.lt_of_not_le hc)) hb
      have hsg : ¬ sgnN a b ≥ 0 := by unfold sgnN; rw [if_pos (Nat.lt_of_not_le hc)]; decide
      refine ⟨t, b - a, ⟨K1 + K2, fun k hk => ?_⟩, ?_, by omega⟩
      · dsimp only at H1 H2 ⊢
        unfold fathomlaw3_plus.f
        rw [if_neg hne, H1 k (by omega), Option.bind_some, if_neg hsg, H2 k (by omega), Option.bind_some]
      · unfold sgd; cases s <;> cases t <;> simp at hst ⊢ <;> omega

theorem of_law_ev {x : Int} (h0 : 0 ≤ x) (h1 : x < 18446744073709551616) : Ev (fun k => fathomlaw3_of.f k x) (decide (9223372036854775808 ≤ x), lim (dv x)) := by
  obtain ⟨K, H⟩ := units_ev h0 h1
  refine ⟨K, fun k hk => ?_⟩
  dsimp only at H ⊢
  unfold fathomlaw3_of.f
  rw [H k hk, Option.bind_some, and_sign64 h0 h1]
  by_cases hc : x < 9223372036854775808
  · rw [if_pos hc, decide_eq_false (by omega)]; rfl
  · rw [if_neg hc, decide_eq_true (by omega)]; rfl
end Go.Proofs.Ytfloeiagdegpjaa.Q
