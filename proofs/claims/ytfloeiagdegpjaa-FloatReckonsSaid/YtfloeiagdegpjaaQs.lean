/- The reference's operations are what the model reckons. No program runs here. -/
import Derived.Test.YtfloeiagdegpjaaQn
import Derived.Test.YtfloeiagdegpjaaR7
import Derived.Test.YtfloeiagdegpjaaR8
import Derived.Test.YtfloeiagdegpjaaR9
namespace Go.Proofs.Ytfloeiagdegpjaa.Q
section
open Go.RowKit Go.Proofs.YtfloeiagdegpjaaW.PrintWords Go.Proofs.Ytfloeiagdegpjaa.Rf
open Ieee (Format Toward)
set_option linter.unusedVariables false
set_option linter.unusedSimpArgs false

variable {f : Format} {w : Int}
/-- together: the sum of two numbers, the least place. -/
theorem together_ev {s t : Bool} {m n : Nat} {i j : Int} (bm : bl m ≤ 5000) (bn : bl n ≤ 5000) (hi : -5000 < i ∧ i < 5000) (hj : -5000 < j ∧ j < 5000) :
    ∃ (u : Bool) (c : Nat), Ev (fun k => fathomref3_together.f k s (lim m) i t (lim n) j) (u, lim c, min i j) ∧
      c = (Ieee.signed s m (i - min i j).toNat + Ieee.signed t n (j - min i j).toNat).natAbs ∧ bl c ≤ 100000 ∧
      (Ieee.signed s m (i - min i j).toNat + Ieee.signed t n (j - min i j).toNat ≠ 0 → u = decide (Ieee.signed s m (i - min i j).toNat + Ieee.signed t n (j - min i j).toNat < 0)) := by
  obtain ⟨a, ha⟩ : ∃ a, a = (i - min i j).toNat := ⟨_, rfl⟩
  obtain ⟨b, hb⟩ : ∃ b, b = (j - min i j).toNat := ⟨_, rfl⟩
  rw [← ha, ← hb, _root_.Fl.signed_eq, _root_.Fl.signed_eq]
  have ha2 : a < 10000 := by omega
  have hb2 : b < 10000 := by omega
  have lm := len_bl (k := 5000) bm (by omega)
  have ln := len_bl (k := 5000) bn (by omega)
  have bM : bl (m * 2 ^ a) ≤ (15000 : Nat) := Int.le_trans (bl_shift (k := 5000) bm) (by omega)
  have bN : bl (n * 2 ^ b) ≤ (15000 : Nat) := Int.le_trans (bl_shift (k := 5000) bn) (by omega)
  have lM : (lim (m * 2 ^ a)).length < 1073741824 := Nat.lt_trans (len_bl bM (by omega)) (by decide)
  have lN : (lim (n * 2 ^ b)).length < 1073741824 := Nat.lt_trans (len_bl bN (by omega)) (by decide)
  have hupM := up2_ev (n := m) (a := a) (Nat.lt_trans lm (by decide)) (by omega)
  have hupN := up2_ev (n := n) (a := b) (Nat.lt_trans ln (by decide)) (by omega)
  have hwb : wrap64 (j - min i j) = (b : Int) := by
    rw [wrap64_id (by  omega) (by  omega), hb];  omega
  -- the first is laid at the least place
  have first : ∀ {r : Bool × List Int × Int}, Ev (fun k => fathomref3_together.j0 k s (lim (m * 2 ^ a)) (min i j) t (lim n) j) r → Ev (fun k => fathomref3_together.f k s (lim m) i t (lim n) j) r := by
    intro r hr
    obtain ⟨K1, H1⟩ := hupM
    obtain ⟨K2, H2⟩ := hr
    refine ⟨K1 + K2, fun k hk => ?_⟩
    have q1 : K1 ≤ k := by  omega
    have q2 : K2 ≤ k := by  omega
    dsimp only at H1 H2 ⊢
    unfold fathomref3_together.f
    by_cases hc : i > j
    · have hwa : wrap64 (i - j) = (a : Int) := by
        rw [wrap64_id (by  omega) (by  omega), ha];  omega
      have hmin : min i j = j := by  omega
      rw [hmin] at H2
      rw [if_pos hc, hwa, H1 _ q1, Option.bind_some, H2 _ q2]
    · have hmin : min i j = i := by  omega
      have ha0 : a = 0 := by  omega
      rw [hmin, ha0, Nat.pow_zero, Nat.mul_one] at H2
      rw [if_neg hc, H2 _ q2]
  generalize m * 2 ^ a = M at *
  generalize n * 2 ^ b = N at *
  obtain ⟨K1, H1⟩ := hupN
  by_cases hst : s = t
  · obtain ⟨K2, H2⟩ := sum_ev lM lN
    refine ⟨s, M + N, first ⟨K1 + K2 + 1, fun k hk => ?_⟩, ?_, Int.le_trans (bl_add2 bM bN) (by decide), ?_⟩
    · obtain ⟨k, rfl⟩ := fuel_out hk
      have q1 : K1 ≤ k := by  omega
      have q2 : K2 ≤ k := by  omega
      dsimp only at H1 H2 ⊢
      rw [fathomref3_together.j0, hwb, H1 _ q1, Option.bind_some, if_pos (beq_iff_eq.2 hst), H2 _ q2, Option.bind_some]
    · rw [← hst];  cases s <;> simp <;> omega
    · rw [← hst]; skip
      cases s
      · intro _; symm; simp; omega
      · intro h; symm; simp at h ⊢; omega
  · have hne : ¬ (s == t) = true := fun h => hst (beq_iff_eq.1 h)
    have htn : t = !s := by cases s <;> cases t <;> simp_all
    obtain ⟨K2, H2⟩ := cmp_ev (b := N) lM
    by_cases hc : N ≤ M
    · obtain ⟨K3, H3⟩ := less_ev hc lM
      have hsg : sgnN M N ≥ 0 := by unfold sgnN; rw [if_neg (Nat.not_lt.2 hc)]; split <;> decide
      refine ⟨s, M - N, first ⟨K1 + K2 + K3 + 1, fun k hk => ?_⟩, ?_, Int.le_trans (bl_mono (Nat.sub_le _ _) bM) (by decide), ?_⟩
      · obtain ⟨k, rfl⟩ := fuel_out hk
        have q1 : K1 ≤ k := by  omega
        have q2 : K2 ≤ k := by  omega
        have q3 : K3 ≤ k := by  omega
        dsimp only at H1 H2 H3 ⊢
        rw [fathomref3_together.j0, hwb, H1 _ q1, Option.bind_some, if_neg hne, H2 _ q2, Option.bind_some, if_pos hsg, H3 _ q3, Option.bind_some]
      · rw [htn];  cases s <;> simp <;> omega
      · rw [htn]; skip
        cases s
        · intro h; symm; simp at h ⊢; omega
        · intro h; symm; simp at h ⊢; omega
    · obtain ⟨K3, H3⟩ := less_ev (Nat.le_of_lt (Nat.lt_of_not_le hc)) lN
      have hsg : ¬ sgnN M N ≥ 0 := by unfold sgnN; rw [if_pos (Nat.lt_of_not_le hc)]; decide
      refine ⟨t, N - M, first ⟨K1 + K2 + K3 + 1, fun k hk => ?_⟩, ?_, Int.le_trans (bl_mono (Nat.sub_le _ _) bN) (by decide), ?_⟩
      · obtain ⟨k, rfl⟩ := fuel_out hk
        have q1 : K1 ≤ k := by  omega
        have q2 : K2 ≤ k := by  omega
        have q3 : K3 ≤ k := by  omega
        dsimp only at H1 H2 H3 ⊢
        rw [fathomref3_together.j0, hwb, H1 _ q1, Option.bind_some, if_neg hne, H2 _ q2, Option.bind_some, if_neg hsg, H3 _ q3, Option.bind_some]
      · rw [htn];  cases s <;> simp <;> omega
      · rw [htn]; skip
        cases s
        · intro h; symm; simp at h ⊢; omega
        · intro h; symm; simp at h ⊢; omega
end
section
open Go.RowKit Go.Proofs.YtfloeiagdegpjaaW.PrintWords Go.Proofs.Ytfloeiagdegpjaa.Rf
open Ieee (Format Toward Datum)
set_option linter.unusedVariables false
set_option linter.unusedSimpArgs false

variable {f : Format} {w nw : Int}
/-- What stands behind 'together' in Add and Fma. -/
def sumTail (k : Nat) (s t : Bool) (l : List Int) (i : Int) (l' : List Int) (j : Int) (w : Int) : Option Int :=
  (fathomref3_together.f k s l i t l' j).bind fun b => (if (b.2.1.length : Int) = 0 then (if s = true then ((fathomref3_signed.f t 0 w).bind fun z => (some z)) else ((fathomref3_signed.f false 0 w).bind fun z => (some z))) else ((fathomref3_Of.f k 1).bind fun o => ((fathomref3_Nearest.f k b.1 b.2.1 o b.2.2 w).bind fun z => (some z))))

theorem sumTail_ev (h : Fx f w nw) {s t : Bool} {m n : Nat} {i j : Int} (bm : bl m ≤ 5000) (bn : bl n ≤ 5000) (hi : -5000 < i ∧ i < 5000) (hj : -5000 < j ∧ j < 5000) :
    Ev (fun k => sumTail k s t (lim m) i (lim n) j w) (res nw (((Datum.number s m i).sum (Datum.number t n j)).map f.write)) := by
  obtain ⟨u, c, htog, hcv, hcb, hu⟩ := together_ev (s := s) (t := t) (m := m) (n := n) (i := i) (j := j) (by omega) (by omega) hi hj
  simp only [Datum.sum, Option.map_some, res, Format.write]
  generalize Ieee.signed s m (i - min i j).toNat + Ieee.signed t n (j - min i j).toNat = total at *
  by_cases hz : total = 0
  · have hc0 : c = 0 := by omega
    rw [if_pos hz, hz]
    have e : f.nearest (s && t) (0 : Int).natAbs (min i j) = f.word (s && t) 0 := by
      unfold Ieee.Format.nearest; rw [if_pos (by decide)]
    rw [e]
    obtain ⟨K, H⟩ := htog
    refine ⟨K, fun k hk => ?_⟩
    dsimp only at H ⊢
    unfold sumTail
    rw [H k hk, Option.bind_some, hc0, lim_zero, if_pos (show ((([] : List Int).length : Nat) : Int) = 0 from rfl)]
    have hs := fun g => h.signed g 0 (Nat.zero_le _)
    cases s with
    | true =>
      have := hs t
      rw [if_pos rfl, show (0 : Int) = ((0 : Nat) : Int) from rfl, this, Option.bind_some, Bool.true_and]
    | false =>
      have := hs false
      rw [if_neg (by decide), show (0 : Int) = ((0 : Nat) : Int) from rfl, this, Option.bind_some, Bool.false_and]
  · rw [if_neg hz, ← hu hz, ← hcv]
    have hcl : ¬ ((lim c).length : Int) = 0 := by
      have := (len_lim c 0).2 (by rw [Nat.pow_zero]; omega)
      omega
    obtain ⟨K, H⟩ := htog
    obtain ⟨K2, H2⟩ := of_ev (a := 1) (by decide) (by decide)
    obtain ⟨K3, H3⟩ := write_ev h.toFw u hcb (min i j) (by omega)
    refine ⟨K + K2 + K3, fun k hk => ?_⟩
    dsimp only at H H2 H3 ⊢
    have H2' : ∀ k, K2 ≤ k → fathomref3_Of.f k 1 = some (lim 1) := H2
    unfold sumTail
    rw [H k (by omega), Option.bind_some, if_neg hcl, H2' k (by omega), Option.bind_some, H3 k (by omega), Option.bind_some]

theorem not_nan {n i : Nat} (h : n ≤ i) : decide (i < n) = false := decide_eq_false (by omega)

/-- Add. -/
theorem add_ev (h : Fx f w nw) {a b : Int} (ha : InW f a) (hb : InW f b) : Ev (fun k => fathomref3_Add.f k a b w) (res nw (f.add a.toNat b.toNat)) := by
  unfold Ieee.Format.add
  have na := h.isnan a ha
  have nb := h.isnan b hb
  have ia := h.isinf a ha
  have ib := h.isinf b hb
  by_cases hna : f.infRung < a.toNat % f.signWeight
  · obtain ⟨s, t, hr⟩ := read_nan_at h hna
    have e : (f.read a.toNat).sum (f.read b.toNat) = none := by rw [hr]; rfl
    rw [e]
    refine ⟨1, fun k hk => ?_⟩
    obtain ⟨k, rfl⟩ := fuel_out hk
    dsimp only
    unfold fathomref3_Add.f
    rw [na, Option.bind_some, if_pos (decide_eq_true hna), fathomref3_Add.j0, if_pos rfl, h.nan]; rfl
  · by_cases hnb : f.infRung < b.toNat % f.signWeight
    · obtain ⟨s, t, hr⟩ := read_nan_at h hnb
      have e : (f.read a.toNat).sum (f.read b.toNat) = none := by rw [hr]; cases f.read a.toNat <;> rfl
      rw [e]
      refine ⟨1, fun k hk => ?_⟩
      obtain ⟨k, rfl⟩ := fuel_out hk
      dsimp only
      unfold fathomref3_Add.f
      rw [na, Option.bind_some, decide_eq_false hna, if_neg (by decide), nb, Option.bind_some, decide_eq_true hnb, fathomref3_Add.j0, if_pos rfl, h.nan]; rfl
    · -- no NaN
      have start : ∀ {r : Int}, Ev (fun k => fathomref3_Add.j0 k a b w false) r → Ev (fun k => fathomref3_Add.f k a b w) r := by
        intro r hr
        refine Ev.congr (fun k => ?_) hr
        unfold fathomref3_Add.f
        rw [na, Option.bind_some, decide_eq_false hna, if_neg (by decide), nb, Option.bind_some, decide_eq_false hnb]
      refine start ?_
      by_cases hia : a.toNat % f.signWeight = f.infRung
      · have ra := _root_.Fl.read_infinity h.good a.toNat hia
        by_cases hib : b.toNat % f.signWeight = f.infRung
        · have rb := _root_.Fl.read_infinity h.good b.toNat hib
          rw [ra, rb]
          have hj : ∀ {r : Int}, Ev (fun k => fathomref3_Add.j1 k a b w (a != b)) r → Ev (fun k => fathomref3_Add.j0 k a b w false) r := fun {r} hr => by
            refine Ev.step (fun k => ?_) hr
            rw [fathomref3_Add.j0, if_neg (by decide), ia, Option.bind_some, if_pos (decide_eq_true hia), ib, Option.bind_some, if_pos (decide_eq_true hib)]
          refine hj ?_
          by_cases hs : (a.toNat / f.signWeight % 2 == 1) = (b.toNat / f.signWeight % 2 == 1)
          · have hab : a = b := by
              have h1 := _root_.Fl.word_of f ha.2
              have h2 := _root_.Fl.word_of f hb.2
              rw [hia, hs, ← hib, h2] at h1
              have := ha.1; have := hb.1; omega
            refine Ev.step (f := fun _ => some (res nw (((Datum.infinity (a.toNat / f.signWeight % 2 == 1)).sum (Datum.infinity (b.toNat / f.signWeight % 2 == 1))).map f.write))) (fun k => ?_) (Ev.now _)
            have e : ((Datum.infinity (a.toNat / f.signWeight % 2 == 1)).sum (Datum.infinity (b.toNat / f.signWeight % 2 == 1))).map f.write = some a.toNat := by
              simp only [Datum.sum]
              rw [if_pos hs, Option.map_some]
              simp only [Format.write]
              rw [← hia, _root_.Fl.word_of f ha.2]
            rw [e, bne_eq_false_iff_eq.2 hab, fathomref3_Add.j1, if_neg (by decide), ia, Option.bind_some, if_pos (decide_eq_true hia)]
            have := ha.1
            simp only [res]; congr 1; omega
          · have hab : a ≠ b := fun h' => hs (by rw [h'])
            refine Ev.step (f := fun _ => some nw) (fun k => ?_) ?_
            · rw [bne_iff_ne.2 hab, fathomref3_Add.j1, if_pos rfl, h.nan]; rfl
            · have e : ((Datum.infinity (a.toNat / f.signWeight % 2 == 1)).sum (Datum.infinity (b.toNat / f.signWeight % 2 == 1))) = none := by
                simp only [Datum.sum]; rw [if_neg hs]
              rw [e]; exact Ev.now _
        · obtain ⟨n, j, rb, _, _, _, _⟩ := parts_ev h hb (by omega)
          rw [ra, rb]
          have e : ((Datum.infinity (a.toNat / f.signWeight % 2 == 1)).sum (Datum.number (b.toNat / f.signWeight % 2 == 1) n j)).map f.write = some a.toNat := by
            simp only [Datum.sum, Option.map_some, Format.write]
            rw [← hia, _root_.Fl.word_of f ha.2]
          rw [e]
          refine ⟨2, fun k hk => ?_⟩
          obtain ⟨k, rfl⟩ : ∃ m, k = m + 2 := ⟨k - 2, by omega⟩
          dsimp only
          rw [fathomref3_Add.j0, if_neg (by decide), ia, Option.bind_some, if_pos (decide_eq_true hia), ib, Option.bind_some, if_neg (by rw [decide_eq_false hib]; decide), fathomref3_Add.j1, if_neg (by decide), ia, Option.bind_some, if_pos (decide_eq_true hia)]
          have := ha.1
          simp only [res]; congr 1; omega
      · obtain ⟨m, i, ra, hm, hi, _, hpa⟩ := parts_ev h ha (by omega)
        have hj : ∀ {r : Int}, Ev (fun k => fathomref3_Add.j1 k a b w false) r → Ev (fun k => fathomref3_Add.j0 k a b w false) r := fun {r} hr => by
          refine Ev.step (fun k => ?_) hr
          rw [fathomref3_Add.j0, if_neg (by decide), ia, Option.bind_some, if_neg (by rw [decide_eq_false hia]; decide)]
        refine hj ?_
        by_cases hib : b.toNat % f.signWeight = f.infRung
        · have rb := _root_.Fl.read_infinity h.good b.toNat hib
          rw [ra, rb]
          have e : ((Datum.number (a.toNat / f.signWeight % 2 == 1) m i).sum (Datum.infinity (b.toNat / f.signWeight % 2 == 1))).map f.write = some b.toNat := by
            simp only [Datum.sum, Option.map_some, Format.write]
            rw [← hib, _root_.Fl.word_of f hb.2]
          rw [e]
          refine ⟨1, fun k hk => ?_⟩
          obtain ⟨k, rfl⟩ := fuel_out hk
          dsimp only
          rw [fathomref3_Add.j1, if_neg (by decide), ia, Option.bind_some, if_neg (by rw [decide_eq_false hia]; decide), ib, Option.bind_some, if_pos (decide_eq_true hib)]
          have := hb.1
          simp only [res]; congr 1; omega
        · obtain ⟨n, j, rb, hn, hj2, _, hpb⟩ := parts_ev h hb (by omega)
          rw [ra, rb]
          have hlp := h.lp
          have b1 := bl_binade h hm
          have b2 := bl_binade h hn
          have htail := sumTail_ev h (s := a.toNat / f.signWeight % 2 == 1) (t := b.toNat / f.signWeight % 2 == 1) (m := m) (n := n) (i := i) (j := j) (by omega) (by omega) (by omega) (by omega)
          obtain ⟨K1, H1⟩ := hpa
          obtain ⟨K2, H2⟩ := hpb
          obtain ⟨K3, H3⟩ := htail
          refine ⟨K1 + K2 + K3 + 1, fun k hk => ?_⟩
          obtain ⟨k, rfl⟩ := fuel_out hk
          dsimp only at H1 H2 H3 ⊢
          have H3 := H3 k (by omega)
          unfold sumTail at H3
          rw [fathomref3_Add.j1, if_neg (by decide), ia, Option.bind_some, if_neg (by rw [decide_eq_false hia]; decide), ib, Option.bind_some, if_neg (by rw [decide_eq_false hib]; decide), H1 k (by omega), Option.bind_some, H2 k (by omega), Option.bind_some]
          exact H3
end
end Go.Proofs.Ytfloeiagdegpjaa.Q
namespace Go.Proofs.Ytfloeiagdegpjaa.Q
section
open Go.RowKit Go.Proofs.YtfloeiagdegpjaaW.PrintWords Go.Proofs.Ytfloeiagdegpjaa.Rf
open Ieee (Format Toward Datum)
set_option linter.unusedVariables false
set_option linter.unusedSimpArgs false

variable {f : Format} {w nw : Int}

/-! Sub -/
theorem read_flip {b b' : Nat} (h1 : b' % f.signWeight = b % f.signWeight) (h2 : (b' / f.signWeight % 2 == 1) = !(b / f.signWeight % 2 == 1)) : f.read b' = (f.read b).opposite := by
  unfold Ieee.Format.read
  simp only [h1, h2]
  split
  · rfl
  · split
    · rfl
    · split <;> rfl

theorem flip_word (h : Fx f w nw) {b : Int} (hb : InW f b) : InW f (Go.bits .xor .u64 b (f.signWeight : Int)) ∧ f.read (Go.bits .xor .u64 b (f.signWeight : Int)).toNat = (f.read b.toNat).opposite := by
  have hp : 0 < f.signWeight := Nat.two_pow_pos _
  have h0 := hb.1
  have h1 := hb.2
  rw [h.flip b hb]
  by_cases hc : b.toNat < f.signWeight
  · rw [if_pos hc]
    have e : (b + (f.signWeight : Int)).toNat = b.toNat + f.signWeight := by omega
    refine ⟨⟨by omega, by omega⟩, read_flip ?_ ?_⟩
    · rw [e, Nat.add_mod_right]
    · rw [e, Nat.add_div_right _ hp, Nat.div_eq_of_lt hc]; rfl
  · rw [if_neg hc]
    have e : (b - (f.signWeight : Int)).toNat = b.toNat - f.signWeight := by omega
    have e2 : b.toNat = (b.toNat - f.signWeight) + f.signWeight := by omega
    have hlt : b.toNat - f.signWeight < f.signWeight := by omega
    refine ⟨⟨by omega, by omega⟩, read_flip ?_ ?_⟩
    · rw [e]; conv => rhs; rw [e2]
      rw [Nat.add_mod_right]
    · rw [e]; conv => rhs; rw [e2]
      rw [Nat.add_div_right _ hp, Nat.div_eq_of_lt hlt]; rfl

theorem sub_ev (h : Fx f w nw) {a b : Int} (ha : InW f a) (hb : InW f b) : Ev (fun k => fathomref3_Sub.f k a b w) (res nw (f.sub a.toNat b.toNat)) := by
  have nb := h.isnan b hb
  obtain ⟨hin, hrd⟩ := flip_word h hb
  unfold Ieee.Format.sub
  by_cases hnb : f.infRung < b.toNat % f.signWeight
  · obtain ⟨s, t, hr⟩ := read_nan_at h hnb
    have e : (f.read a.toNat).sum (f.read b.toNat).opposite = none := by rw [hr]; cases f.read a.toNat <;> rfl
    rw [e]
    refine Ev.congr (f := fun _ => some nw) (fun k => ?_) (Ev.now _)
    unfold fathomref3_Sub.f
    rw [nb, Option.bind_some, if_pos (decide_eq_true hnb), h.nan]; rfl
  · have hadd := add_ev h ha hin
    unfold Ieee.Format.add at hadd
    rw [hrd] at hadd
    refine Ev.congr (fun k => ?_) (Ev.bind hadd (Ev.now _))
    unfold fathomref3_Sub.f
    rw [nb, Option.bind_some, if_neg (by rw [decide_eq_false hnb]; decide), h.sign]; rfl

/-! Mul -/
theorem mul_front (h : Fx f w nw) {a b : Int} (ha : InW f a) (hb : InW f b) (k : Nat) : fathomref3_Mul.f k a b w =
    fathomref3_Mul.j0 k a b w ((a.toNat / f.signWeight % 2 == 1) ^^ (b.toNat / f.signWeight % 2 == 1))
      (decide (f.infRung < a.toNat % f.signWeight) || (decide (f.infRung < b.toNat % f.signWeight) || ((decide (a.toNat % f.signWeight = f.infRung) && decide (b.toNat % f.signWeight = 0)) || (decide (a.toNat % f.signWeight = 0) && decide (b.toNat % f.signWeight = f.infRung))))) := by
  unfold fathomref3_Mul.f
  rw [h.neg a ha, h.neg b hb, h.isnan a ha, h.isnan b hb, h.isinf a ha, h.isinf b hb, h.iszero a ha, h.iszero b hb]
  simp only [Option.bind_some]
  generalize decide (f.infRung < a.toNat % f.signWeight) = na
  generalize decide (f.infRung < b.toNat % f.signWeight) = nb
  generalize decide (a.toNat % f.signWeight = f.infRung) = ia
  generalize decide (b.toNat % f.signWeight = f.infRung) = ib
  generalize decide (a.toNat % f.signWeight = 0) = za
  generalize decide (b.toNat % f.signWeight = 0) = zb
  generalize (a.toNat / f.signWeight % 2 == 1) = s
  generalize (b.toNat / f.signWeight % 2 == 1) = t
  have e : (s != t) = (s ^^ t) := by cases s <;> cases t <;> rfl
  rw [e]
  cases na <;> cases nb <;> cases ia <;> cases ib <;> cases za <;> cases zb <;> rfl

theorem infle2 (h : Fx f w nw) : 0 < f.infRung := Nat.lt_of_lt_of_le (_root_.Fl.binade_pos f) (_root_.Fl.binade_le_inf h.good)

/-- What kind of word. -/
theorem kinds (h : Fx f w nw) (x : Nat) : f.infRung < x % f.signWeight ∨ x % f.signWeight = f.infRung ∨ x % f.signWeight < f.infRung := by omega

theorem mul_ev (h : Fx f w nw) {a b : Int} (ha : InW f a) (hb : InW f b) : Ev (fun k => fathomref3_Mul.f k a b w) (res nw (f.mul a.toNat b.toNat)) := by
  unfold Ieee.Format.mul
  have hif := infle2 h
  have ia := h.isinf a ha
  have ib := h.isinf b hb
  refine Ev.congr (mul_front h ha hb) ?_
  have bad : ∀ {c : Bool} (s : Bool), c = true → (f.read a.toNat).product (f.read b.toNat) = none → Ev (fun k => fathomref3_Mul.j0 k a b w s c) (res nw (((f.read a.toNat).product (f.read b.toNat)).map f.write)) := by
    intro c s hc e
    rw [e, hc]
    refine ⟨1, fun k hk => ?_⟩
    obtain ⟨k, rfl⟩ := fuel_out hk
    dsimp only
    rw [fathomref3_Mul.j0, if_pos rfl, h.nan]; rfl
  have great : ∀ {c : Bool} (s : Bool), c = false → (a.toNat % f.signWeight = f.infRung ∨ b.toNat % f.signWeight = f.infRung) → (f.read a.toNat).product (f.read b.toNat) = some (Datum.infinity s) → Ev (fun k => fathomref3_Mul.j0 k a b w s c) (res nw (((f.read a.toNat).product (f.read b.toNat)).map f.write)) := by
    intro c s hc hor e
    rw [e, hc]
    refine ⟨2, fun k hk => ?_⟩
    obtain ⟨k, rfl⟩ : ∃ m, k = m + 2 := ⟨k - 2, by omega⟩
    dsimp only
    have fin : fathomref3_Mul.j1 (k + 1) a b w s true = some ((f.word s f.infRung : Nat) : Int) := by
      rw [fathomref3_Mul.j1, if_pos rfl, h.inf, Option.bind_some, h.signed s _ (Nat.le_refl _), Option.bind_some]
    rw [fathomref3_Mul.j0, if_neg (by decide), ia, Option.bind_some]
    by_cases hia : a.toNat % f.signWeight = f.infRung
    · rw [if_pos (decide_eq_true hia), fin]; rfl
    · have hib : b.toNat % f.signWeight = f.infRung := hor.resolve_left hia
      rw [if_neg (by rw [decide_eq_false hia]; decide), ib, Option.bind_some, decide_eq_true hib, fin]; rfl
  rcases kinds h a.toNat with hna | hia | hfa
  · obtain ⟨s, t, hr⟩ := read_nan_at h hna
    exact bad _ (by rw [decide_eq_true hna]; rfl) (by rw [hr]; rfl)
  · have ra := _root_.Fl.read_infinity h.good a.toNat hia
    have d1 : decide (f.infRung < a.toNat % f.signWeight) = false := decide_eq_false (by omega)
    have d2 : decide (a.toNat % f.signWeight = f.infRung) = true := decide_eq_true hia
    have d3 : decide (a.toNat % f.signWeight = 0) = false := decide_eq_false (by omega)
    rcases kinds h b.toNat with hnb | hib | hfb
    · obtain ⟨s, t, hr⟩ := read_nan_at h hnb
      exact bad _ (by rw [decide_eq_true hnb, d1]; rfl) (by rw [hr]; cases f.read a.toNat <;> rfl)
    · have rb := _root_.Fl.read_infinity h.good b.toNat hib
      have d4 : decide (f.infRung < b.toNat % f.signWeight) = false := decide_eq_false (by omega)
      have d5 : decide (b.toNat % f.signWeight = 0) = false := decide_eq_false (by omega)
      exact great _ (by rw [d1, d2, d3, d4, d5]; rfl) (Or.inl hia) (by rw [ra, rb]; rfl)
    · obtain ⟨n, j, rb, hn, hj, hz, _⟩ := parts_ev h hb hfb
      have d4 : decide (f.infRung < b.toNat % f.signWeight) = false := decide_eq_false (by omega)
      by_cases hb0 : b.toNat % f.signWeight = 0
      · exact bad _ (by rw [d1, d2, d3, d4, decide_eq_true hb0]; rfl) (by rw [ra, rb]; simp only [Datum.product]; rw [if_pos (hz.2 hb0)])
      · exact great _ (by rw [d1, d2, d3, d4, decide_eq_false hb0]; rfl) (Or.inl hia) (by rw [ra, rb]; simp only [Datum.product]; rw [if_neg (fun h' => hb0 (hz.1 h'))])
  · obtain ⟨m, i, ra, hm, hi, hza, hpa⟩ := parts_ev h ha hfa
    have d1 : decide (f.infRung < a.toNat % f.signWeight) = false := decide_eq_false (by omega)
    have d2 : decide (a.toNat % f.signWeight = f.infRung) = false := decide_eq_false (by omega)
    rcases kinds h b.toNat with hnb | hib | hfb
    · obtain ⟨s, t, hr⟩ := read_nan_at h hnb
      exact bad _ (by rw [decide_eq_true hnb, d1]; rfl) (by rw [hr]; cases f.read a.toNat <;> rfl)
    · have rb := _root_.Fl.read_infinity h.good b.toNat hib
      have d4 : decide (f.infRung < b.toNat % f.signWeight) = false := decide_eq_false (by omega)
      have d6 : decide (b.toNat % f.signWeight = f.infRung) = true := decide_eq_true hib
      by_cases ha0 : a.toNat % f.signWeight = 0
      · exact bad _ (by rw [d1, d2, d4, d6, decide_eq_true ha0]; rfl) (by rw [ra, rb]; simp only [Datum.product]; rw [if_pos (hza.2 ha0)])
      · exact great _ (by rw [d1, d2, d4, d6, decide_eq_false ha0]; rfl) (Or.inr hib) (by
          rw [ra, rb]; simp only [Datum.product]; rw [if_neg (fun h' => ha0 (hza.1 h'))]
          congr 2; exact Bool.xor_comm _ _)
    · obtain ⟨n, j, rb, hn, hj, hzb, hpb⟩ := parts_ev h hb hfb
      have d4 : decide (f.infRung < b.toNat % f.signWeight) = false := decide_eq_false (by omega)
      have d6 : decide (b.toNat % f.signWeight = f.infRung) = false := decide_eq_false (by omega)
      rw [d1, d2, d4, d6, Bool.false_and, Bool.and_false, ra, rb]
      simp only [Datum.product, Option.map_some, res, Format.write, Bool.or_false]
      have hlp := h.lp
      have b1 := bl_binade h hm
      have b2 := bl_binade h hn
      generalize (a.toNat / f.signWeight % 2 == 1) = s at *
      generalize (b.toNat / f.signWeight % 2 == 1) = t at *
      have b3 := bl_mul2 b1 b2
      have l1 := len_bl b1 (by omega)
      have l2 := len_bl b2 (by omega)
      obtain ⟨K1, H1⟩ := hpa
      obtain ⟨K2, H2⟩ := hpb
      obtain ⟨K3, H3⟩ := times_ev (a := m) (b := n) (by omega) (by omega)
      obtain ⟨K4, H4⟩ := of_ev (a := 1) (by decide) (by decide)
      obtain ⟨K5, H5⟩ := write_ev h.toFw (s ^^ t) (m := m * n) (by omega) (i + j) (by omega)
      refine ⟨K1 + K2 + K3 + K4 + K5 + 2, fun k hk => ?_⟩
      obtain ⟨k, rfl⟩ : ∃ m, k = m + 2 := ⟨k - 2, by omega⟩
      dsimp only at H1 H2 H3 H4 H5 ⊢
      have H4' : ∀ k, K4 ≤ k → fathomref3_Of.f k 1 = some (lim 1) := H4
      have hw : wrap64 (i + j) = i + j := wrap64_id (by omega) (by omega)
      rw [fathomref3_Mul.j0, if_neg (by decide), ia, Option.bind_some, if_neg (by rw [d2]; decide), ib, Option.bind_some, d6, fathomref3_Mul.j1, if_neg (by decide), H1 k (by omega), Option.bind_some, H2 k (by omega), Option.bind_some, H3 k (by omega), Option.bind_some, H4' k (by omega), Option.bind_some, hw, H5 k (by omega), Option.bind_some]

/-! Div -/
theorem div_front (h : Fx f w nw) {a b : Int} (ha : InW f a) (hb : InW f b) (k : Nat) : fathomref3_Div.f k a b w =
    fathomref3_Div.j0 k a b w ((a.toNat / f.signWeight % 2 == 1) ^^ (b.toNat / f.signWeight % 2 == 1))
      (decide (f.infRung < a.toNat % f.signWeight) || (decide (f.infRung < b.toNat % f.signWeight) || ((decide (a.toNat % f.signWeight = f.infRung) && decide (b.toNat % f.signWeight = f.infRung)) || (decide (a.toNat % f.signWeight = 0) && decide (b.toNat % f.signWeight = 0))))) := by
  unfold fathomref3_Div.f
  rw [h.neg a ha, h.neg b hb, h.isnan a ha, h.isnan b hb, h.isinf a ha, h.isinf b hb, h.iszero a ha, h.iszero b hb]
  simp only [Option.bind_some]
  generalize decide (f.infRung < a.toNat % f.signWeight) = na
  generalize decide (f.infRung < b.toNat % f.signWeight) = nb
  generalize decide (a.toNat % f.signWeight = f.infRung) = ia
  generalize decide (b.toNat % f.signWeight = f.infRung) = ib
  generalize decide (a.toNat % f.signWeight = 0) = za
  generalize decide (b.toNat % f.signWeight = 0) = zb
  generalize (a.toNat / f.signWeight % 2 == 1) = s
  generalize (b.toNat / f.signWeight % 2 == 1) = t
  have e : (s != t) = (s ^^ t) := by cases s <;> cases t <;> rfl
  rw [e]
  cases na <;> cases nb <;> cases ia <;> cases ib <;> cases za <;> cases zb <;> rfl

theorem div_ev (h : Fx f w nw) {a b : Int} (ha : InW f a) (hb : InW f b) : Ev (fun k => fathomref3_Div.f k a b w) (res nw (f.div a.toNat b.toNat)) := by
  unfold Ieee.Format.div
  have hif := infle2 h
  have ia := h.isinf a ha
  have ib := h.isinf b hb
  have zb := h.iszero b hb
  refine Ev.congr (div_front h ha hb) ?_
  have bad : ∀ {c : Bool} (s : Bool), c = true → (f.read a.toNat).quotient (f.fractionBits + 2) (f.read b.toNat) = none → Ev (fun k => fathomref3_Div.j0 k a b w s c) (res nw (((f.read a.toNat).quotient (f.fractionBits + 2) (f.read b.toNat)).map f.write)) := by
    intro c s hc e
    rw [e, hc]
    refine ⟨1, fun k hk => ?_⟩
    obtain ⟨k, rfl⟩ := fuel_out hk
    dsimp only
    rw [fathomref3_Div.j0, if_pos rfl, h.nan]; rfl
  have great : ∀ {c : Bool} (s : Bool), c = false → (a.toNat % f.signWeight = f.infRung ∨ b.toNat % f.signWeight = 0) → (f.read a.toNat).quotient (f.fractionBits + 2) (f.read b.toNat) = some (Datum.infinity s) → Ev (fun k => fathomref3_Div.j0 k a b w s c) (res nw (((f.read a.toNat).quotient (f.fractionBits + 2) (f.read b.toNat)).map f.write)) := by
    intro c s hc hor e
    rw [e, hc]
    refine ⟨2, fun k hk => ?_⟩
    obtain ⟨k, rfl⟩ : ∃ m, k = m + 2 := ⟨k - 2, by omega⟩
    dsimp only
    have fin : fathomref3_Div.j1 (k + 1) a b w s true = some ((f.word s f.infRung : Nat) : Int) := by
      rw [fathomref3_Div.j1, if_pos rfl, h.inf, Option.bind_some, h.signed s _ (Nat.le_refl _), Option.bind_some]
    rw [fathomref3_Div.j0, if_neg (by decide), ia, Option.bind_some]
    by_cases hia : a.toNat % f.signWeight = f.infRung
    · rw [if_pos (decide_eq_true hia), fin]; rfl
    · have hzb : b.toNat % f.signWeight = 0 := hor.resolve_left hia
      rw [if_neg (by rw [decide_eq_false hia]; decide), zb, Option.bind_some, decide_eq_true hzb, fin]; rfl
  rcases kinds h a.toNat with hna | hia | hfa
  · obtain ⟨s, t, hr⟩ := read_nan_at h hna
    exact bad _ (by rw [decide_eq_true hna]; rfl) (by rw [hr]; rfl)
  · have ra := _root_.Fl.read_infinity h.good a.toNat hia
    have d1 : decide (f.infRung < a.toNat % f.signWeight) = false := decide_eq_false (by omega)
    have d2 : decide (a.toNat % f.signWeight = f.infRung) = true := decide_eq_true hia
    have d3 : decide (a.toNat % f.signWeight = 0) = false := decide_eq_false (by omega)
    rcases kinds h b.toNat with hnb | hib | hfb
    · obtain ⟨s, t, hr⟩ := read_nan_at h hnb
      exact bad _ (by rw [decide_eq_true hnb, d1]; rfl) (by rw [hr]; cases f.read a.toNat <;> rfl)
    · have rb := _root_.Fl.read_infinity h.good b.toNat hib
      exact bad _ (by rw [d1, d2, decide_eq_true hib]; cases decide (f.infRung < b.toNat % f.signWeight) <;> rfl) (by rw [ra, rb]; rfl)
    · obtain ⟨n, j, rb, hn, hj, hz, _⟩ := parts_ev h hb hfb
      have d4 : decide (f.infRung < b.toNat % f.signWeight) = false := decide_eq_false (by omega)
      have d6 : decide (b.toNat % f.signWeight = f.infRung) = false := decide_eq_false (by omega)
      exact great _ (by rw [d1, d2, d3, d4, d6]; rfl) (Or.inl hia) (by rw [ra, rb]; rfl)
  · obtain ⟨m, i, ra, hm, hi, hza, hpa⟩ := parts_ev h ha hfa
    have d1 : decide (f.infRung < a.toNat % f.signWeight) = false := decide_eq_false (by omega)
    have d2 : decide (a.toNat % f.signWeight = f.infRung) = false := decide_eq_false (by omega)
    rcases kinds h b.toNat with hnb | hib | hfb
    · obtain ⟨s, t, hr⟩ := read_nan_at h hnb
      exact bad _ (by rw [decide_eq_true hnb, d1]; rfl) (by rw [hr]; cases f.read a.toNat <;> rfl)
    · have rb := _root_.Fl.read_infinity h.good b.toNat hib
      have d4 : decide (f.infRung < b.toNat % f.signWeight) = false := decide_eq_false (by omega)
      have d5 : decide (b.toNat % f.signWeight = 0) = false := decide_eq_false (by omega)
      have d6 : decide (b.toNat % f.signWeight = f.infRung) = true := decide_eq_true hib
      rw [d1, d2, d4, d5, d6, Bool.false_and, Bool.and_false, ra, rb]
      simp only [Datum.quotient, Option.map_some, res, Format.write, Bool.or_false]
      have e : f.nearest ((a.toNat / f.signWeight % 2 == 1) ^^ (b.toNat / f.signWeight % 2 == 1)) 0 0 = f.word ((a.toNat / f.signWeight % 2 == 1) ^^ (b.toNat / f.signWeight % 2 == 1)) 0 := by
        unfold Ieee.Format.nearest; rw [if_pos rfl]
      rw [e]
      refine ⟨2, fun k hk => ?_⟩
      obtain ⟨k, rfl⟩ : ∃ m, k = m + 2 := ⟨k - 2, by omega⟩
      dsimp only
      have hs := h.signed ((a.toNat / f.signWeight % 2 == 1) ^^ (b.toNat / f.signWeight % 2 == 1)) 0 (Nat.zero_le _)
      rw [show ((0 : Nat) : Int) = 0 from rfl] at hs
      rw [fathomref3_Div.j0, if_neg (by decide), ia, Option.bind_some, if_neg (by rw [d2]; decide), zb, Option.bind_some, d5, fathomref3_Div.j1, if_neg (by decide), ib, Option.bind_some, if_pos d6, hs, Option.bind_some]
    · obtain ⟨n, j, rb, hn, hj, hzb, hpb⟩ := parts_ev h hb hfb
      have d4 : decide (f.infRung < b.toNat % f.signWeight) = false := decide_eq_false (by omega)
      have d6 : decide (b.toNat % f.signWeight = f.infRung) = false := decide_eq_false (by omega)
      by_cases hb0 : b.toNat % f.signWeight = 0
      · have hn0 := hzb.2 hb0
        by_cases ha0 : a.toNat % f.signWeight = 0
        · exact bad _ (by rw [d1, d2, d4, decide_eq_true ha0, decide_eq_true hb0]; rfl) (by rw [ra, rb]; simp only [Datum.quotient]; rw [if_pos hn0, if_pos (hza.2 ha0)])
        · exact great _ (by rw [d1, d2, d4, decide_eq_false ha0]; rfl) (Or.inr hb0) (by rw [ra, rb]; simp only [Datum.quotient]; rw [if_pos hn0, if_neg (fun h' => ha0 (hza.1 h'))])
      · have hn0 : 0 < n := Nat.pos_of_ne_zero (fun h' => hb0 (hzb.1 h'))
        have d5 : decide (b.toNat % f.signWeight = 0) = false := decide_eq_false hb0
        rw [d1, d2, d4, d5, d6, Bool.false_and, Bool.and_false, ra, rb]
        have hlp := h.lp
        have b1 := bl_binade h hm
        have b2 := bl_binade h hn
        generalize (a.toNat / f.signWeight % 2 == 1) = s at *
        generalize (b.toNat / f.signWeight % 2 == 1) = t at *
        have hnear : Ev (fun k => fathomref3_Nearest.f k (s ^^ t) (lim m) (lim n) (i - j) w) (res nw (((Datum.number s m i).quotient (f.fractionBits + 2) (Datum.number t n j)).map f.write)) := by
          rcases Nat.eq_zero_or_pos m with hm0 | hm0
          · have e : ((Datum.number s m i).quotient (f.fractionBits + 2) (Datum.number t n j)).map f.write = some (f.word (s ^^ t) 0) := by
              simp only [Datum.quotient]
              rw [if_neg (by omega), Option.map_some, hm0, Nat.zero_shiftLeft, Nat.zero_div, Nat.zero_mod]
              simp only [Format.write]
              congr 1
            rw [e]
            refine Ev.congr (f := fun _ => some ((f.word (s ^^ t) 0 : Nat) : Int)) (fun k => ?_) (Ev.now _)
            have hs := h.signed (s ^^ t) 0 (Nat.zero_le _)
            rw [show ((0 : Nat) : Int) = 0 from rfl] at hs
            unfold fathomref3_Nearest.f
            rw [hm0, lim_zero, if_pos (show ((([] : List Int).length : Nat) : Int) = 0 from rfl), hs, Option.bind_some]
          · obtain ⟨r, g1, g2⟩ := _root_.Fl.div_numbers f h.good.fb s t m n i j hn0
            obtain ⟨r', g3, g4⟩ := nearest_ev h.toFw (s ^^ t) hm0 hn0 (by omega) (by omega) (i - j) (by omega)
            rw [g1, g2.unique g3]
            exact g4
        obtain ⟨K1, H1⟩ := hpa
        obtain ⟨K2, H2⟩ := hpb
        obtain ⟨K3, H3⟩ := hnear
        refine ⟨K1 + K2 + K3 + 2, fun k hk => ?_⟩
        obtain ⟨k, rfl⟩ : ∃ m, k = m + 2 := ⟨k - 2, by omega⟩
        dsimp only at H1 H2 H3 ⊢
        have hw : wrap64 (i - j) = i - j := wrap64_id (by omega) (by omega)
        simp only [Bool.or_false]
        rw [fathomref3_Div.j0, if_neg (by decide), ia, Option.bind_some, if_neg (by rw [d2]; decide), zb, Option.bind_some, d5, fathomref3_Div.j1, if_neg (by decide), ib, Option.bind_some, if_neg (by rw [d6]; decide), H1 k (by omega), Option.bind_some, H2 k (by omega), Option.bind_some, hw, H3 k (by omega), Option.bind_some]
end
end Go.Proofs.Ytfloeiagdegpjaa.Q
namespace Go.Proofs.Ytfloeiagdegpjaa.Q
section
open Go.RowKit Go.Proofs.YtfloeiagdegpjaaW.PrintWords Go.Proofs.Ytfloeiagdegpjaa.Rf
open Ieee (Format Toward Datum)
set_option linter.unusedVariables false
set_option linter.unusedSimpArgs false

variable {f : Format} {w nw : Int}

theorem nearestRoot_ev (h : Fw f w) {m : Nat} (hm : 0 < m) (hm2 : m < 2 * f.binade) (i : Int) (hi : -5000 < i ∧ i < 5000) :
    ∃ r, _root_.Fl.Near f (_root_.Fl.rootOf f m i) r ∧ Ev (fun k => fathomref3_NearestRoot.f k (lim m) (lim 1) i w) (f.word false r : Nat) := by
  have hfb := h.fb
  have hlp := h.lp
  have hB2 : f.binade = 2 ^ f.fractionBits := rfl
  have bm : bl m ≤ ((f.fractionBits + 1 : Nat) : Int) := bl_iff.2 (by rw [Nat.pow_succ, ← hB2]; omega)
  have bm0 : 0 < bl m := by rw [bl_pos hm]; omega
  have b1 : bl 1 = 1 := by decide
  obtain ⟨m1, m2⟩ := bl_two hm
  have lm := len_bl bm (by omega)
  obtain ⟨e, he⟩ : ∃ e : Int, e = (bl m - 1 + i + 4194304) / 2 - 2097152 - ((f.fractionBits + 1 : Nat) : Int) - 4 := ⟨_, rfl⟩
  obtain ⟨sh, hsh⟩ : ∃ sh : Nat, (sh : Int) = i - 2 * e := ⟨(i - 2 * e).toNat, by omega⟩
  have hsh1 : 2 * ((f.fractionBits : Int) + 1) + 9 ≤ bl m + sh := by omega
  have hsh2 : bl m + sh ≤ 2 * ((f.fractionBits : Int) + 1) + 11 := by omega
  have bQ : bl (m * 2 ^ sh) ≤ ((f.fractionBits + 1 + sh : Nat) : Int) := bl_shift bm
  have lQ := len_bl bQ (by omega)
  obtain ⟨s, g1, g2, g3⟩ := sqrt_ev lQ
  have hbig : 2 ^ (f.fractionBits + 4) ≤ s := by
    rcases Nat.lt_or_ge s (2 ^ (f.fractionBits + 4)) with hlt | hge
    · exfalso
      have h3 : (s + 1) * (s + 1) ≤ 2 ^ (f.fractionBits + 4) * 2 ^ (f.fractionBits + 4) := Nat.mul_le_mul hlt hlt
      have h4 : 2 ^ (f.fractionBits + 4) * 2 ^ (f.fractionBits + 4) ≤ m * 2 ^ sh := by
        refine Nat.le_trans ?_ (Nat.mul_le_mul_right _ m1)
        rw [← Nat.pow_add, ← Nat.pow_add]
        refine Nat.pow_le_pow_right (by decide) ?_
        clear g1 g2 g3 h3 m1 m2 hm2; omega
      exact absurd (Nat.lt_of_lt_of_le g2 (Nat.le_trans h3 h4)) (Nat.lt_irrefl _)
    · exact hge
  have hs0 : 0 < s := Nat.lt_of_lt_of_le (Nat.two_pow_pos _) hbig
  have hlog : f.fractionBits + 4 ≤ s.log2 := _root_.Fl.log2_ge hbig
  have hsle : s ≤ m * 2 ^ sh := Nat.le_trans (Nat.le_mul_of_pos_right _ hs0) g1
  have ls : (lim s).length < 16777216 := Nat.lt_trans (len_bl (bl_mono hsle bQ) (by omega)) (by decide)
  obtain ⟨r, hr1, hr2⟩ := _root_.Fl.root_near f h.good.fb false (m * 2 ^ sh) s g1 g2 e (Or.inr (Nat.le_trans (Nat.pow_le_pow_right (by decide) (by omega)) hbig))
  have hround := rounded_ev h false hs0 ls e (by clear g1 g2 g3 m1 m2 hm2 hbig; omega) (s * s != m * 2 ^ sh) (by clear g1 g2 g3 m1 m2 hm2 hbig; omega)
  rw [hr1] at hround
  have sc := _root_.Fl.fracRoot_rootOf f m sh i e (by omega)
  refine ⟨r, hr2.congr (fun a => (sc a).1) (fun a => (sc a).2), ?_⟩
  have hq := quotient_ev (m := m) (n := 1) Nat.one_pos (sh : Int) (by omega) (by rw [Int.toNat_natCast]; exact Nat.lt_trans lQ (by decide)) (by
    have : (-(sh : Int)).toNat = 0 := by omega
    rw [this, Nat.pow_zero]; decide +kernel) (Nat.lt_trans lm (by decide)) (by decide +kernel)
  have hz : (-(sh : Int)).toNat = 0 := by omega
  rw [hz, Int.toNat_natCast, Nat.pow_zero, Nat.mul_one, Nat.div_one, Nat.mod_one, lim_zero] at hq
  have l0 : ¬ (((lim m).length : Int) = 0) := by
    have := (len_lim m 0).2 (by rw [Nat.pow_zero]; exact hm)
    omega
  obtain ⟨K1, H1⟩ := len_ev (n := m) (Nat.lt_trans lm (by decide))
  obtain ⟨K2, H2⟩ := len_ev (n := 1) (by decide +kernel)
  obtain ⟨K3, H3⟩ := hq
  obtain ⟨K4, H4⟩ := g3
  obtain ⟨K5, H5⟩ := hround
  clear g1 g2 m1 m2 hm2 hbig hsle hr1 hr2
  have ht : Int.tdiv (wrap64 (wrap64 (wrap64 (bl m - bl 1) + i) + 4194304)) 2 = (bl m - 1 + i + 4194304) / 2 := by
    rw [b1, wrap64_add2 (x := bl m - 1) (y := i) (by omega) (by omega), wrap64_id (z := bl m - 1 + i + 4194304) (by omega) (by omega), Int.tdiv_eq_ediv_of_nonneg (by omega)]
  have hw1 : wrap64 (wrap64 (wrap64 (wrap64 ((bl m - 1 + i + 4194304) / 2) - 2097152) - ((f.fractionBits + 1 : Nat) : Int)) - 4) = e := by
    rw [wrap64_sub2 (x := (bl m - 1 + i + 4194304) / 2) (y := 2097152) (by omega) (by omega), wrap64_sub2 (x := (bl m - 1 + i + 4194304) / 2 - 2097152 - ((f.fractionBits + 1 : Nat) : Int)) (y := 4) (by omega) (by omega), he]
  have hw2 : wrap64 (i - wrap64 (2 * e)) = (sh : Int) := by
    rw [wrap64_id (z := 2 * e) (by omega) (by omega), hsh]; exact wrap64_id (by omega) (by omega)
  refine ⟨K1 + K2 + K3 + K4 + K5, fun k hk => ?_⟩
  have q1 : K1 ≤ k := by omega
  have q2 : K2 ≤ k := by omega
  have q3 : K3 ≤ k := by omega
  have q4 : K4 ≤ k := by omega
  have q5 : K5 ≤ k := by omega
  dsimp only at H1 H2 H3 H4 H5 ⊢
  unfold fathomref3_NearestRoot.f
  rw [if_neg l0, if_neg (by omega), if_neg (by omega), H1 _ q1, Option.bind_some, H2 _ q2, Option.bind_some, h.dig, Option.bind_some, ht, hw1, hw2, H3 _ q3, Option.bind_some, H4 _ q4, Option.bind_some]
  by_cases hx : s * s = m * 2 ^ sh
  · rw [if_pos (decide_eq_true hx)]
    have : (s * s != m * 2 ^ sh) = false := bne_eq_false_iff_eq.2 hx
    rw [this] at H5
    have e0 : decide ((([] : List Int).length : Int) > 0) = false := rfl
    rw [e0, H5 _ q5, Option.bind_some]
  · rw [decide_eq_false hx]
    simp only [Bool.false_eq_true, if_false]
    have : (s * s != m * 2 ^ sh) = true := bne_iff_ne.2 hx
    rw [this] at H5
    rw [H5 _ q5, Option.bind_some]

theorem root_ev (h : Fx f w nw) {a : Int} (ha : InW f a) : Ev (fun k => fathomref3_Root.f k a w) (res nw (f.sqrt a.toNat)) := by
  unfold Ieee.Format.sqrt
  have hif := infle2 h
  have na := h.isnan a ha
  have ia := h.isinf a ha
  have za := h.iszero a ha
  have sa := h.neg a ha
  have h0 := ha.1
  rcases kinds h a.toNat with hna | hia | hfa
  · obtain ⟨s, t, hr⟩ := read_nan_at h hna
    have e : (f.read a.toNat).root (f.fractionBits + 2) = none := by rw [hr]; rfl
    rw [e]
    refine Ev.congr (f := fun _ => some nw) (fun k => ?_) (Ev.now _)
    unfold fathomref3_Root.f
    rw [na, Option.bind_some, if_pos (decide_eq_true hna), h.nan]; rfl
  · have ra := _root_.Fl.read_infinity h.good a.toNat hia
    have d1 : ¬ decide (f.infRung < a.toNat % f.signWeight) = true := by rw [decide_eq_false (by omega)]; decide
    have d3 : ¬ decide (a.toNat % f.signWeight = 0) = true := by rw [decide_eq_false (by omega)]; decide
    have hwd := _root_.Fl.word_of f ha.2
    rw [hia] at hwd
    rw [ra]
    refine Ev.congr (f := fun _ => some (res nw (((Datum.infinity (a.toNat / f.signWeight % 2 == 1)).root (f.fractionBits + 2)).map f.write))) (fun k => ?_) (Ev.now _)
    unfold fathomref3_Root.f
    rw [na, Option.bind_some, if_neg d1, za, Option.bind_some, if_neg d3, sa, Option.bind_some]
    generalize (a.toNat / f.signWeight % 2 == 1) = s at *
    cases s with
    | true => rw [if_pos rfl, h.nan]; rfl
    | false =>
      rw [if_neg (by decide), ia, Option.bind_some, if_pos (decide_eq_true hia)]
      simp only [Datum.root, Bool.false_eq_true, if_false, Option.map_some, res, Format.write]
      rw [hwd]; congr 1; omega
  · obtain ⟨m, i, ra, hm, hi, hza, hpa⟩ := parts_ev h ha hfa
    have hlp := h.lp
    have d1 : ¬ decide (f.infRung < a.toNat % f.signWeight) = true := by rw [decide_eq_false (by omega)]; decide
    have d2 : ¬ decide (a.toNat % f.signWeight = f.infRung) = true := by rw [decide_eq_false (by omega)]; decide
    by_cases hm0 : m = 0
    · have hwr := _root_.Fl.write_read h.good ha.2 (by omega)
      have e : ((f.read a.toNat).root (f.fractionBits + 2)).map f.write = some a.toNat := by
        rw [ra] at hwr ⊢
        simp only [Datum.root]
        rw [if_pos hm0, Option.map_some, hwr]
      rw [e]
      refine Ev.congr (f := fun _ => some (res nw (some a.toNat))) (fun k => ?_) (Ev.now _)
      unfold fathomref3_Root.f
      rw [na, Option.bind_some, if_neg d1, za, Option.bind_some, if_pos (decide_eq_true (hza.1 hm0))]
      simp only [res]; congr 1; omega
    · have d3 : ¬ decide (a.toNat % f.signWeight = 0) = true := by rw [decide_eq_false (fun h' => hm0 (hza.2 h'))]; decide
      rw [ra]
      generalize (a.toNat / f.signWeight % 2 == 1) = s at *
      cases s with
      | true =>
        have e : (Datum.number true m i).root (f.fractionBits + 2) = none := by
          simp only [Datum.root]; rw [if_neg hm0]; rfl
        rw [e]
        refine Ev.congr (f := fun _ => some nw) (fun k => ?_) (Ev.now _)
        unfold fathomref3_Root.f
        rw [na, Option.bind_some, if_neg d1, za, Option.bind_some, if_neg d3, sa, Option.bind_some, if_pos rfl, h.nan]; rfl
      | false =>
        obtain ⟨r, g1, g2⟩ := _root_.Fl.sqrt_number f h.good.fb m i (by omega)
        obtain ⟨r', g3, g4⟩ := nearestRoot_ev h.toFw (by omega) hm i (by omega)
        rw [g1, g2.unique g3]
        obtain ⟨K1, H1⟩ := hpa
        obtain ⟨K2, H2⟩ := of_ev (a := 1) (by decide) (by decide)
        obtain ⟨K3, H3⟩ := g4
        refine ⟨K1 + K2 + K3, fun k hk => ?_⟩
        dsimp only at H1 H2 H3 ⊢
        have H2' : ∀ k, K2 ≤ k → fathomref3_Of.f k 1 = some (lim 1) := H2
        unfold fathomref3_Root.f
        rw [na, Option.bind_some, if_neg d1, za, Option.bind_some, if_neg d3, sa, Option.bind_some, if_neg (by decide), ia, Option.bind_some, if_neg d2, H1 k (by omega), Option.bind_some, H2' k (by omega), Option.bind_some, H3 k (by omega), Option.bind_some]; rfl

end
end Go.Proofs.Ytfloeiagdegpjaa.Q
