/- The reference's Fma is what the model reckons. No program runs here. -/
import Derived.Test.YtfloeiagdegpjaaQs
import Derived.Test.YtfloeiagdegpjaaRa
namespace Go.Proofs.Ytfloeiagdegpjaa.Q
open Go.RowKit Go.Proofs.YtfloeiagdegpjaaW.PrintWords Go.Proofs.Ytfloeiagdegpjaa.Rf
open Ieee (Format Toward Datum)
set_option linter.unusedVariables false
set_option linter.unusedSimpArgs false

/-! Fma -/
theorem fma_front {a b c : Int} (ha : InW Ieee.double a) (hb : InW Ieee.double b) (hc : InW Ieee.double c) (k : Nat) : fathomref3_Fma.f k a b c =
    fathomref3_Fma.j0 k a b c ((a.toNat / Ieee.double.signWeight % 2 == 1) ^^ (b.toNat / Ieee.double.signWeight % 2 == 1))
      (decide (Ieee.double.infRung < a.toNat % Ieee.double.signWeight) || (decide (Ieee.double.infRung < b.toNat % Ieee.double.signWeight) || (decide (Ieee.double.infRung < c.toNat % Ieee.double.signWeight) || ((decide (a.toNat % Ieee.double.signWeight = Ieee.double.infRung) && decide (b.toNat % Ieee.double.signWeight = 0)) || (decide (a.toNat % Ieee.double.signWeight = 0) && decide (b.toNat % Ieee.double.signWeight = Ieee.double.infRung)))))) := by
  have h := fx64
  unfold fathomref3_Fma.f
  rw [h.neg a ha, h.neg b hb, h.isnan a ha, h.isnan b hb, h.isnan c hc, h.isinf a ha, h.isinf b hb, h.iszero a ha, h.iszero b hb]
  simp only [Option.bind_some]
  generalize decide (Ieee.double.infRung < a.toNat % Ieee.double.signWeight) = na
  generalize decide (Ieee.double.infRung < b.toNat % Ieee.double.signWeight) = nb
  generalize decide (Ieee.double.infRung < c.toNat % Ieee.double.signWeight) = nc
  generalize decide (a.toNat % Ieee.double.signWeight = Ieee.double.infRung) = ia
  generalize decide (b.toNat % Ieee.double.signWeight = Ieee.double.infRung) = ib
  generalize decide (a.toNat % Ieee.double.signWeight = 0) = za
  generalize decide (b.toNat % Ieee.double.signWeight = 0) = zb
  generalize (a.toNat / Ieee.double.signWeight % 2 == 1) = s
  generalize (b.toNat / Ieee.double.signWeight % 2 == 1) = t
  have e : (s != t) = (s ^^ t) := by cases s <;> cases t <;> rfl
  rw [e]
  cases na <;> cases nb <;> cases nc <;> cases ia <;> cases ib <;> cases za <;> cases zb <;> rfl

theorem fma_ev {a b c : Int} (ha : InW Ieee.double a) (hb : InW Ieee.double b) (hc : InW Ieee.double c) : Ev (fun k => fathomref3_Fma.f k a b c) (res 9221120237041090560 (Ieee.double.fma a.toNat b.toNat c.toNat)) := by
  have h := fx64
  unfold Ieee.Format.fma
  have hif := infle2 h
  have ia := h.isinf a ha
  have ib := h.isinf b hb
  have ic := h.isinf c hc
  have i64 : (9218868437227405312 : Int) = (Ieee.double.infRung : Int) := by rw [inf_double]; rfl
  refine Ev.congr (fma_front ha hb hc) ?_
  have bad : ∀ {x : Bool} (s : Bool), x = true → ((Ieee.double.read a.toNat).product (Ieee.double.read b.toNat)).bind (·.sum (Ieee.double.read c.toNat)) = none → Ev (fun k => fathomref3_Fma.j0 k a b c s x) (res 9221120237041090560 ((((Ieee.double.read a.toNat).product (Ieee.double.read b.toNat)).bind (·.sum (Ieee.double.read c.toNat))).map Ieee.double.write)) := by
    intro x s hx e
    rw [e, hx]
    refine ⟨1, fun k hk => ?_⟩
    obtain ⟨k, rfl⟩ := fuel_out hk
    dsimp only
    rw [fathomref3_Fma.j0, if_pos rfl]; rfl
  have great : ∀ {x : Bool} (s : Bool), x = false → (a.toNat % Ieee.double.signWeight = Ieee.double.infRung ∨ b.toNat % Ieee.double.signWeight = Ieee.double.infRung) → (Ieee.double.read a.toNat).product (Ieee.double.read b.toNat) = some (Datum.infinity s) → Ev (fun k => fathomref3_Fma.j0 k a b c s x) (res 9221120237041090560 ((((Ieee.double.read a.toNat).product (Ieee.double.read b.toNat)).bind (·.sum (Ieee.double.read c.toNat))).map Ieee.double.write)) := by
    intro x s hx hor e
    rw [e, hx, Option.bind_some]
    have hin : InW Ieee.double ((Ieee.double.word s Ieee.double.infRung : Nat) : Int) := by
      rw [in64]
      unfold Ieee.Format.word
      rw [sign_double, inf_double]
      split <;> omega
    have hadd := add_ev h hin hc
    unfold Ieee.Format.add at hadd
    rw [Int.toNat_natCast, _root_.Fl.read_word_inf h.good s] at hadd
    obtain ⟨K, H⟩ := hadd
    refine ⟨K + 2, fun k hk => ?_⟩
    obtain ⟨k, rfl⟩ : ∃ m, k = m + 2 := ⟨k - 2, by omega⟩
    dsimp only at H ⊢
    have fin : fathomref3_Fma.j1 (k + 1) a b c s true = some (res 9221120237041090560 (((Datum.infinity s).sum (Ieee.double.read c.toNat)).map Ieee.double.write)) := by
      rw [fathomref3_Fma.j1, if_pos rfl, i64, h.signed s _ (Nat.le_refl _), Option.bind_some, H k (by omega), Option.bind_some]
    rw [fathomref3_Fma.j0, if_neg (by decide), ia, Option.bind_some]
    by_cases hia : a.toNat % Ieee.double.signWeight = Ieee.double.infRung
    · rw [if_pos (decide_eq_true hia), fin]
    · have hib : b.toNat % Ieee.double.signWeight = Ieee.double.infRung := hor.resolve_left hia
      rw [if_neg (by rw [decide_eq_false hia]; decide), ib, Option.bind_some, decide_eq_true hib, fin]
  rcases kinds h c.toNat with hnc | hcc
  · obtain ⟨s, t, hr⟩ := read_nan_at h hnc
    refine bad _ (by rw [decide_eq_true hnc]; cases decide (Ieee.double.infRung < a.toNat % Ieee.double.signWeight) <;> cases decide (Ieee.double.infRung < b.toNat % Ieee.double.signWeight) <;> rfl) ?_
    rw [hr]
    cases (Ieee.double.read a.toNat).product (Ieee.double.read b.toNat) with
    | none => rfl
    | some d => cases d <;> rfl
  · have d0 : decide (Ieee.double.infRung < c.toNat % Ieee.double.signWeight) = false := decide_eq_false (by omega)
    rw [d0]
    rcases kinds h a.toNat with hna | hia | hfa
    · obtain ⟨s, t, hr⟩ := read_nan_at h hna
      exact bad _ (by rw [decide_eq_true hna]; rfl) (by rw [hr]; rfl)
    · have ra := _root_.Fl.read_infinity h.good a.toNat hia
      have d1 : decide (Ieee.double.infRung < a.toNat % Ieee.double.signWeight) = false := decide_eq_false (by omega)
      have d2 : decide (a.toNat % Ieee.double.signWeight = Ieee.double.infRung) = true := decide_eq_true hia
      have d3 : decide (a.toNat % Ieee.double.signWeight = 0) = false := decide_eq_false (by omega)
      rcases kinds h b.toNat with hnb | hib | hfb
      · obtain ⟨s, t, hr⟩ := read_nan_at h hnb
        exact bad _ (by rw [decide_eq_true hnb, d1]; rfl) (by rw [hr]; cases Ieee.double.read a.toNat <;> rfl)
      · have rb := _root_.Fl.read_infinity h.good b.toNat hib
        have d4 : decide (Ieee.double.infRung < b.toNat % Ieee.double.signWeight) = false := decide_eq_false (by omega)
        have d5 : decide (b.toNat % Ieee.double.signWeight = 0) = false := decide_eq_false (by omega)
        exact great _ (by rw [d1, d2, d3, d4, d5]; rfl) (Or.inl hia) (by rw [ra, rb]; rfl)
      · obtain ⟨n, j, rb, hn, hj, hz, _⟩ := parts_ev h hb hfb
        have d4 : decide (Ieee.double.infRung < b.toNat % Ieee.double.signWeight) = false := decide_eq_false (by omega)
        by_cases hb0 : b.toNat % Ieee.double.signWeight = 0
        · exact bad _ (by rw [d1, d2, d3, d4, decide_eq_true hb0]; rfl) (by rw [ra, rb]; simp only [Datum.product]; rw [if_pos (hz.2 hb0)]; rfl)
        · exact great _ (by rw [d1, d2, d3, d4, decide_eq_false hb0]; rfl) (Or.inl hia) (by rw [ra, rb]; simp only [Datum.product]; rw [if_neg (fun h' => hb0 (hz.1 h'))])
    · obtain ⟨m, i, ra, hm, hi, hza, hpa⟩ := parts_ev h ha hfa
      have d1 : decide (Ieee.double.infRung < a.toNat % Ieee.double.signWeight) = false := decide_eq_false (by omega)
      have d2 : decide (a.toNat % Ieee.double.signWeight = Ieee.double.infRung) = false := decide_eq_false (by omega)
      rcases kinds h b.toNat with hnb | hib | hfb
      · obtain ⟨s, t, hr⟩ := read_nan_at h hnb
        exact bad _ (by rw [decide_eq_true hnb, d1]; rfl) (by rw [hr]; cases Ieee.double.read a.toNat <;> rfl)
      · have rb := _root_.Fl.read_infinity h.good b.toNat hib
        have d4 : decide (Ieee.double.infRung < b.toNat % Ieee.double.signWeight) = false := decide_eq_false (by omega)
        have d6 : decide (b.toNat % Ieee.double.signWeight = Ieee.double.infRung) = true := decide_eq_true hib
        by_cases ha0 : a.toNat % Ieee.double.signWeight = 0
        · exact bad _ (by rw [d1, d2, d4, d6, decide_eq_true ha0]; rfl) (by rw [ra, rb]; simp only [Datum.product]; rw [if_pos (hza.2 ha0)]; rfl)
        · exact great _ (by rw [d1, d2, d4, d6, decide_eq_false ha0]; rfl) (Or.inr hib) (by
            rw [ra, rb]; simp only [Datum.product]; rw [if_neg (fun h' => ha0 (hza.1 h'))]
            congr 2; exact Bool.xor_comm _ _)
      · obtain ⟨n, j, rb, hn, hj, hzb, hpb⟩ := parts_ev h hb hfb
        have d4 : decide (Ieee.double.infRung < b.toNat % Ieee.double.signWeight) = false := decide_eq_false (by omega)
        have d6 : decide (b.toNat % Ieee.double.signWeight = Ieee.double.infRung) = false := decide_eq_false (by omega)
        rw [d1, d2, d4, d6, Bool.false_and, Bool.and_false, ra, rb]
        simp only [Datum.product, Option.bind_some, Bool.or_false]
        generalize (a.toNat / Ieee.double.signWeight % 2 == 1) = s at *
        generalize (b.toNat / Ieee.double.signWeight % 2 == 1) = t at *
        have j0 : ∀ {r : Int}, Ev (fun k => fathomref3_Fma.j1 k a b c (s ^^ t) false) r → Ev (fun k => fathomref3_Fma.j0 k a b c (s ^^ t) false) r := fun {r} hr => by
          refine Ev.step (fun k => ?_) hr
          rw [fathomref3_Fma.j0, if_neg (by decide), ia, Option.bind_some, if_neg (by rw [d2]; decide), ib, Option.bind_some, d6]
        refine j0 ?_
        rcases hcc with hic | hfc
        · have rc := _root_.Fl.read_infinity h.good c.toNat hic
          have e : ((Datum.number (s ^^ t) (m * n) (i + j)).sum (Datum.infinity (c.toNat / Ieee.double.signWeight % 2 == 1))).map Ieee.double.write = some c.toNat := by
            simp only [Datum.sum, Option.map_some, Format.write]
            rw [← hic, _root_.Fl.word_of Ieee.double hc.2]
          rw [rc, e]
          refine ⟨1, fun k hk => ?_⟩
          obtain ⟨k, rfl⟩ := fuel_out hk
          dsimp only
          rw [fathomref3_Fma.j1, if_neg (by decide), ic, Option.bind_some, if_pos (decide_eq_true hic)]
          have := hc.1
          simp only [res]; congr 1; omega
        · obtain ⟨q, u, rc, hq, hu, hzc, hpc⟩ := parts_ev h hc hfc
          rw [rc]
          have hlp := h.lp
          have b1 := bl_binade h hm
          have b2 := bl_binade h hn
          have b3 := bl_binade h hq
          have b4 := bl_mul2 b1 b2
          have l1 := len_bl b1 (by omega)
          have l2 := len_bl b2 (by omega)
          have htail := sumTail_ev h (s := s ^^ t) (t := c.toNat / Ieee.double.signWeight % 2 == 1) (m := m * n) (n := q) (i := i + j) (j := u) (by omega) (by omega) (by omega) (by omega)
          obtain ⟨K1, H1⟩ := hpa
          obtain ⟨K2, H2⟩ := hpb
          obtain ⟨K3, H3⟩ := hpc
          obtain ⟨K4, H4⟩ := times_ev (a := m) (b := n) (by omega) (by omega)
          obtain ⟨K5, H5⟩ := htail
          refine ⟨K1 + K2 + K3 + K4 + K5 + 1, fun k hk => ?_⟩
          obtain ⟨k, rfl⟩ := fuel_out hk
          dsimp only at H1 H2 H3 H4 H5 ⊢
          have H5 := H5 k (by omega)
          unfold sumTail at H5
          have hw : wrap64 (i + j) = i + j := wrap64_id (by omega) (by omega)
          rw [fathomref3_Fma.j1, if_neg (by decide), ic, Option.bind_some, if_neg (by rw [decide_eq_false (by omega)]; decide), H1 k (by omega), Option.bind_some, H2 k (by omega), Option.bind_some, H3 k (by omega), Option.bind_some, H4 k (by omega), Option.bind_some, hw]
          exact H5
end Go.Proofs.Ytfloeiagdegpjaa.Q
