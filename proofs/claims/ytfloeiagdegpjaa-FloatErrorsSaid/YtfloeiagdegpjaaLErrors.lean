/- The law FloatErrors: what its body comes to, as a Lean function over the rows that it is handed. The walk began as print.sh's text for this function, over the float functions of YtfloeiagdegpjaaSt. -/
import Derived.Test.YtfloeiagdegpjaaSt
import Derived.Test.YtfloeiagdegpjaaR6
import Derived.Test.YtfloeiagdegpjaaRe
import Derived.Test.YtfloeiagdegpjaaRf
namespace Go.Proofs.Ytfloeiagdegpjaa.LErrors
open Go.RowKit Go.Proofs.YtfloeiagdegpjaaW.PrintWords Go.Proofs.YtfloeiagdegpjaaW.PrintLast Go.Proofs.YtfloeiagdegpjaaW.PrintMore Go.Proofs.Ytfloeiagdegpjaa.Rf
attribute [local go_sem] max2_int min2_int max_two min_two max_three min_three max_four min_four
set_option linter.unusedVariables false
set_option linter.unusedSimpArgs false

/-! #### struct type 39 -/
structure S39 where
  f0 : Int
  f1 : Int
def z39 : S39 := ⟨(0 : Int), (0 : Int)⟩
def k39 : Kd S39 := Kd.iso (Kd.pair (Kd.int .u64) (Kd.int .u64)) (fun x : S39 => (x.f0, x.f1))
theorem k39_open {w : World} {x : S39} {cs : List Value} (h : k39.K w x cs) : cs = [.int .u64 x.f0, .int .u64 x.f1] := by
  obtain ⟨_, _, rfl, rfl, rfl⟩ := h
  exact rfl
theorem k39_openM {w : World} {base : Nat} {ok : Nat → Prop} {x : S39} {cs : List Value} (h : k39.M w base ok x cs) : cs = [.int .u64 x.f0, .int .u64 x.f1] := by
  obtain ⟨_, _, rfl, rfl, rfl⟩ := h
  exact rfl
theorem k39_mk (w : World) (x : S39)  : k39.K w x [.int .u64 x.f0, .int .u64 x.f1] := ⟨[.int .u64 x.f0], [.int .u64 x.f1], rfl, rfl, rfl⟩
theorem k39_mkM (w : World) (base : Nat) (ok : Nat → Prop) (x : S39)  : k39.M w base ok x [.int .u64 x.f0, .int .u64 x.f1] := ⟨[.int .u64 x.f0], [.int .u64 x.f1], rfl, rfl, rfl⟩
def rd_T39 (xs : List S39) (i : Int) : S39 := xs.getD i.toNat z39
theorem at_T39 {w : World} {A : Option Addr} {n : Nat} {xs : List S39} (h : Kd.C k39 w A n xs) (i : Int) (h0 : 0 ≤ i) (h1 : i < n) : ∃ ad , A = some ad ∧ w.cell? (ad.add (i.toNat * 2)) = some (.int .u64 (rd_T39 xs i).f0) ∧ w.cell? ⟨(ad.add (i.toNat * 2)).block, (ad.add (i.toNat * 2)).off + 1, none⟩ = some (.int .u64 (rd_T39 xs i).f1) := by
  obtain ⟨ad, c, e, _, hK, hc0⟩ := Kd.C_get h z39 i h0 h1
  have hc : ∀ j u, c[j]? = some u → w.cell? (ad.add (i.toNat * 2 + j)) = some u := hc0
  obtain rfl := k39_open hK
  exact ⟨ad, e, hc 0 _ rfl, by rw [← add_field _ _ 1 (by omega)]; exact hc 1 _ rfl⟩


/-! ### fathomlaw3_FloatErrors: function 13 -/
mutual
def fathomlaw3_FloatErrors.l0 : Nat → List (S39) → Int → Option (Bool)
  | 0, _, _ => none
  | k + 1, x0, x3 => if x3 < (x0.length : Int) then (fathomlaw3_FloatErrors.j1 k x0 x3 (decide (x3 < 2000))) else (fathomlaw3_FloatErrors.j1 k x0 x3 false)
def fathomlaw3_FloatErrors.j1 : Nat → List (S39) → Int → Bool → Option (Bool)
  | 0, _, _, _ => none
  | k + 1, x0, x3, x21 => if x21 = true then (if 0 ≤ x3 then (if x3 < (x0.length : Int) then ((float_Add_uint64.f ((rd_T39 x0 x3).f0) ((rd_T39 x0 x3).f1)).bind fun t210 => ((fathomlaw3_finite.f ((rd_T39 x0 x3).f0)).bind fun t211 => (if t211 = true then ((fathomlaw3_finite.f ((rd_T39 x0 x3).f1)).bind fun t212 => (if t212 = true then ((fathomlaw3_finite.f t210).bind fun t213 => (fathomlaw3_FloatErrors.j2 k x0 x3 ((rd_T39 x0 x3).f0) ((rd_T39 x0 x3).f1) t210 (!t213))) else (fathomlaw3_FloatErrors.j2 k x0 x3 ((rd_T39 x0 x3).f0) ((rd_T39 x0 x3).f1) t210 true))) else (fathomlaw3_FloatErrors.j2 k x0 x3 ((rd_T39 x0 x3).f0) ((rd_T39 x0 x3).f1) t210 true)))) else (none)) else (none)) else ((fathomlaw3_wakes.f).bind fun t207 => (some t207))
def fathomlaw3_FloatErrors.j2 : Nat → List (S39) → Int → Int → Int → Int → Bool → Option (Bool)
  | 0, _, _, _, _, _, _ => none
  | k + 1, x0, x3, x4, x5, x6, x49 => if x49 = true then (fathomlaw3_FloatErrors.l0 k x0 (wrap64 (x3 + 1))) else ((float_Sub_uint64.f x6 x4).bind fun t214 => ((float_Sub_uint64.f x6 t214).bind fun t215 => ((fathomlaw3_finite.f t214).bind fun t216 => (if t216 = true then ((fathomlaw3_finite.f t215).bind fun t217 => (fathomlaw3_FloatErrors.j3 k x0 x3 x4 x5 x6 t214 t215 (!t217))) else (fathomlaw3_FloatErrors.j3 k x0 x3 x4 x5 x6 t214 t215 true)))))
def fathomlaw3_FloatErrors.j3 : Nat → List (S39) → Int → Int → Int → Int → Int → Int → Bool → Option (Bool)
  | 0, _, _, _, _, _, _, _, _ => none
  | k + 1, x0, x3, x4, x5, x6, x7, x8, x63 => if x63 = true then (fathomlaw3_FloatErrors.l0 k x0 (wrap64 (x3 + 1))) else ((float_Sub_uint64.f x4 x8).bind fun t218 => ((float_Sub_uint64.f x5 x7).bind fun t219 => ((float_Add_uint64.f t218 t219).bind fun t220 => ((fathomlaw3_finite.f t220).bind fun t221 => (if t221 = true then ((fathomlaw3_of.f k x4).bind fun bt222 => ((fathomlaw3_of.f k x5).bind fun bt226 => ((fathomlaw3_plus.f k bt222.1 bt222.2 bt226.1 bt226.2).bind fun bt230 => ((fathomlaw3_of.f k x6).bind fun bt234 => ((fathomlaw3_of.f k t220).bind fun bt238 => ((fathomlaw3_plus.f k bt234.1 bt234.2 bt238.1 bt238.2).bind fun bt242 => ((fathomlaw3_eqWhole.f k bt230.1 bt230.2 bt242.1 bt242.2).bind fun t246 => (fathomlaw3_FloatErrors.j4 k x0 x3 x4 x5 (!t246))))))))) else (fathomlaw3_FloatErrors.j4 k x0 x3 x4 x5 true))))))
def fathomlaw3_FloatErrors.j4 : Nat → List (S39) → Int → Int → Int → Bool → Option (Bool)
  | 0, _, _, _, _, _ => none
  | k + 1, x0, x3, x4, x5, x87 => if x87 = true then (some false) else ((float_Mul_uint64.f x4 x5).bind fun t247 => ((fathomlaw3_finite.f t247).bind fun t248 => (if t248 = true then (fathomlaw3_FloatErrors.j5 k x0 x3 x4 x5 t247 (decide ((Go.bits .andNot .u64 t247 9223372036854775808) < 288230376151711744))) else (fathomlaw3_FloatErrors.j5 k x0 x3 x4 x5 t247 true))))
def fathomlaw3_FloatErrors.j5 : Nat → List (S39) → Int → Int → Int → Int → Bool → Option (Bool)
  | 0, _, _, _, _, _, _ => none
  | k + 1, x0, x3, x4, x5, x10, x98 => if x98 = true then (fathomlaw3_FloatErrors.l0 k x0 (wrap64 (x3 + 1))) else ((float_Fma.f x4 x5 (Go.bits .xor .u64 x10 9223372036854775808)).bind fun t249 => ((fathomlaw3_units.f k x4).bind fun t250 => ((fathomlaw3_units.f k x5).bind fun t253 => ((fathomref3_Times.f k t250 t253).bind fun t256 => ((fathomlaw3_of.f k x10).bind fun bt259 => ((fathomlaw3_of.f k t249).bind fun bt263 => ((fathomlaw3_plus.f k bt259.1 bt259.2 bt263.1 bt263.2).bind fun bt267 => ((fathomlaw3_finite.f t249).bind fun t272 => (if t272 = true then ((fathomref3_Up2.f k bt267.2 1074).bind fun t273 => ((fathomref0_EqNat.f k t256 t273).bind fun t276 => (if t276 = true then (if (bt267.1 != ((Go.bits .and .u64 (Go.bits .xor .u64 x4 x5) 9223372036854775808) != 0)) = true then (some false) else (fathomlaw3_FloatErrors.l0 k x0 (wrap64 (x3 + 1)))) else (some false)))) else (some false))))))))))
end
def fathomlaw3_FloatErrors.f (k : Nat) (l0 : List (S39)) : Option (Bool) := fathomlaw3_FloatErrors.l0 k l0 0
theorem fathomlaw3_FloatErrors.mono_l : ∀ k, (∀ y0 y1, LeO (fathomlaw3_FloatErrors.l0 k y0 y1) (fathomlaw3_FloatErrors.l0 (k + 1) y0 y1)) ∧ (∀ y0 y1 y2, LeO (fathomlaw3_FloatErrors.j1 k y0 y1 y2) (fathomlaw3_FloatErrors.j1 (k + 1) y0 y1 y2)) ∧ (∀ y0 y1 y2 y3 y4 y5, LeO (fathomlaw3_FloatErrors.j2 k y0 y1 y2 y3 y4 y5) (fathomlaw3_FloatErrors.j2 (k + 1) y0 y1 y2 y3 y4 y5)) ∧ (∀ y0 y1 y2 y3 y4 y5 y6 y7, LeO (fathomlaw3_FloatErrors.j3 k y0 y1 y2 y3 y4 y5 y6 y7) (fathomlaw3_FloatErrors.j3 (k + 1) y0 y1 y2 y3 y4 y5 y6 y7)) ∧ (∀ y0 y1 y2 y3 y4, LeO (fathomlaw3_FloatErrors.j4 k y0 y1 y2 y3 y4) (fathomlaw3_FloatErrors.j4 (k + 1) y0 y1 y2 y3 y4)) ∧ (∀ y0 y1 y2 y3 y4 y5, LeO (fathomlaw3_FloatErrors.j5 k y0 y1 y2 y3 y4 y5) (fathomlaw3_FloatErrors.j5 (k + 1) y0 y1 y2 y3 y4 y5))
  | 0 => ⟨fun _ _ r h => by simp [fathomlaw3_FloatErrors.l0] at h, fun _ _ _ r h => by simp [fathomlaw3_FloatErrors.j1] at h, fun _ _ _ _ _ _ r h => by simp [fathomlaw3_FloatErrors.j2] at h, fun _ _ _ _ _ _ _ _ r h => by simp [fathomlaw3_FloatErrors.j3] at h, fun _ _ _ _ _ r h => by simp [fathomlaw3_FloatErrors.j4] at h, fun _ _ _ _ _ _ r h => by simp [fathomlaw3_FloatErrors.j5] at h⟩
  | k + 1 => by
    obtain ⟨ih0, ih1, ih2, ih3, ih4, ih5⟩ := fathomlaw3_FloatErrors.mono_l k
    refine ⟨?_, ?_, ?_, ?_, ?_, ?_⟩
    · intro y0 y1
      unfold fathomlaw3_FloatErrors.l0
      repeat' first
      | (with_reducible exact ih0 _ _)
      | (with_reducible exact ih1 _ _ _)
      | (with_reducible exact ih2 _ _ _ _ _ _)
      | (with_reducible exact ih3 _ _ _ _ _ _ _ _)
      | (with_reducible exact ih4 _ _ _ _ _)
      | (with_reducible exact ih5 _ _ _ _ _ _)
      | (with_reducible exact fathomlaw3_eqWhole.mono _ _ _ _ _)
      | (with_reducible exact fathomlaw3_of.mono _ _)
      | (with_reducible exact fathomlaw3_plus.mono _ _ _ _ _)
      | (with_reducible exact fathomlaw3_units.mono _ _)
      | (with_reducible exact fathomref0_EqNat.mono _ _ _)
      | (with_reducible exact fathomref3_Times.mono _ _ _)
      | (with_reducible exact fathomref3_Up2.mono _ _ _)
      | (with_reducible exact LeO.refl _)
      | (with_reducible exact LeO.none _)
      | (with_reducible refine LeO.ite ?_ ?_)
      | (with_reducible refine LeO.bind ?_ (fun _ => ?_))
      | exact ih0 _ _
      | exact ih1 _ _ _
      | exact ih2 _ _ _ _ _ _
      | exact ih3 _ _ _ _ _ _ _ _
      | exact ih4 _ _ _ _ _
      | exact ih5 _ _ _ _ _ _
      | exact fathomlaw3_eqWhole.mono _ _ _ _ _
      | exact fathomlaw3_of.mono _ _
      | exact fathomlaw3_plus.mono _ _ _ _ _
      | exact fathomlaw3_units.mono _ _
      | exact fathomref0_EqNat.mono _ _ _
      | exact fathomref3_Times.mono _ _ _
      | exact fathomref3_Up2.mono _ _ _
      | exact LeO.none _
      | refine LeO.ite ?_ ?_
      | refine LeO.bind ?_ (fun _ => ?_)
    · intro y0 y1 y2
      unfold fathomlaw3_FloatErrors.j1
      repeat' first
      | (with_reducible exact ih0 _ _)
      | (with_reducible exact ih1 _ _ _)
      | (with_reducible exact ih2 _ _ _ _ _ _)
      | (with_reducible exact ih3 _ _ _ _ _ _ _ _)
      | (with_reducible exact ih4 _ _ _ _ _)
      | (with_reducible exact ih5 _ _ _ _ _ _)
      | (with_reducible exact fathomlaw3_eqWhole.mono _ _ _ _ _)
      | (with_reducible exact fathomlaw3_of.mono _ _)
      | (with_reducible exact fathomlaw3_plus.mono _ _ _ _ _)
      | (with_reducible exact fathomlaw3_units.mono _ _)
      | (with_reducible exact fathomref0_EqNat.mono _ _ _)
      | (with_reducible exact fathomref3_Times.mono _ _ _)
      | (with_reducible exact fathomref3_Up2.mono _ _ _)
      | (with_reducible exact LeO.refl _)
      | (with_reducible exact LeO.none _)
      | (with_reducible refine LeO.ite ?_ ?_)
      | (with_reducible refine LeO.bind ?_ (fun _ => ?_))
      | exact ih0 _ _
      | exact ih1 _ _ _
      | exact ih2 _ _ _ _ _ _
      | exact ih3 _ _ _ _ _ _ _ _
      | exact ih4 _ _ _ _ _
      | exact ih5 _ _ _ _ _ _
      | exact fathomlaw3_eqWhole.mono _ _ _ _ _
      | exact fathomlaw3_of.mono _ _
      | exact fathomlaw3_plus.mono _ _ _ _ _
      | exact fathomlaw3_units.mono _ _
      | exact fathomref0_EqNat.mono _ _ _
      | exact fathomref3_Times.mono _ _ _
      | exact fathomref3_Up2.mono _ _ _
      | exact LeO.none _
      | refine LeO.ite ?_ ?_
      | refine LeO.bind ?_ (fun _ => ?_)
    · intro y0 y1 y2 y3 y4 y5
      unfold fathomlaw3_FloatErrors.j2
      repeat' first
      | (with_reducible exact ih0 _ _)
      | (with_reducible exact ih1 _ _ _)
      | (with_reducible exact ih2 _ _ _ _ _ _)
      | (with_reducible exact ih3 _ _ _ _ _ _ _ _)
      | (with_reducible exact ih4 _ _ _ _ _)
      | (with_reducible exact ih5 _ _ _ _ _ _)
      | (with_reducible exact fathomlaw3_eqWhole.mono _ _ _ _ _)
      | (with_reducible exact fathomlaw3_of.mono _ _)
      | (with_reducible exact fathomlaw3_plus.mono _ _ _ _ _)
      | (with_reducible exact fathomlaw3_units.mono _ _)
      | (with_reducible exact fathomref0_EqNat.mono _ _ _)
      | (with_reducible exact fathomref3_Times.mono _ _ _)
      | (with_reducible exact fathomref3_Up2.mono _ _ _)
      | (with_reducible exact LeO.refl _)
      | (with_reducible exact LeO.none _)
      | (with_reducible refine LeO.ite ?_ ?_)
      | (with_reducible refine LeO.bind ?_ (fun _ => ?_))
      | exact ih0 _ _
      | exact ih1 _ _ _
      | exact ih2 _ _ _ _ _ _
      | exact ih3 _ _ _ _ _ _ _ _
      | exact ih4 _ _ _ _ _
      | exact ih5 _ _ _ _ _ _
      | exact fathomlaw3_eqWhole.mono _ _ _ _ _
      | exact fathomlaw3_of.mono _ _
      | exact fathomlaw3_plus.mono _ _ _ _ _
      | exact fathomlaw3_units.mono _ _
      | exact fathomref0_EqNat.mono _ _ _
      | exact fathomref3_Times.mono _ _ _
      | exact fathomref3_Up2.mono _ _ _
      | exact LeO.none _
      | refine LeO.ite ?_ ?_
      | refine LeO.bind ?_ (fun _ => ?_)
    · intro y0 y1 y2 y3 y4 y5 y6 y7
      unfold fathomlaw3_FloatErrors.j3
      repeat' first
      | (with_reducible exact ih0 _ _)
      | (with_reducible exact ih1 _ _ _)
      | (with_reducible exact ih2 _ _ _ _ _ _)
      | (with_reducible exact ih3 _ _ _ _ _ _ _ _)
      | (with_reducible exact ih4 _ _ _ _ _)
      | (with_reducible exact ih5 _ _ _ _ _ _)
      | (with_reducible exact fathomlaw3_eqWhole.mono _ _ _ _ _)
      | (with_reducible exact fathomlaw3_of.mono _ _)
      | (with_reducible exact fathomlaw3_plus.mono _ _ _ _ _)
      | (with_reducible exact fathomlaw3_units.mono _ _)
      | (with_reducible exact fathomref0_EqNat.mono _ _ _)
      | (with_reducible exact fathomref3_Times.mono _ _ _)
      | (with_reducible exact fathomref3_Up2.mono _ _ _)
      | (with_reducible exact LeO.refl _)
      | (with_reducible exact LeO.none _)
      | (with_reducible refine LeO.ite ?_ ?_)
      | (with_reducible refine LeO.bind ?_ (fun _ => ?_))
      | exact ih0 _ _
      | exact ih1 _ _ _
      | exact ih2 _ _ _ _ _ _
      | exact ih3 _ _ _ _ _ _ _ _
      | exact ih4 _ _ _ _ _
      | exact ih5 _ _ _ _ _ _
      | exact fathomlaw3_eqWhole.mono _ _ _ _ _
      | exact fathomlaw3_of.mono _ _
      | exact fathomlaw3_plus.mono _ _ _ _ _
      | exact fathomlaw3_units.mono _ _
      | exact fathomref0_EqNat.mono _ _ _
      | exact fathomref3_Times.mono _ _ _
      | exact fathomref3_Up2.mono _ _ _
      | exact LeO.none _
      | refine LeO.ite ?_ ?_
      | refine LeO.bind ?_ (fun _ => ?_)
    · intro y0 y1 y2 y3 y4
      unfold fathomlaw3_FloatErrors.j4
      repeat' first
      | (with_reducible exact ih0 _ _)
      | (with_reducible exact ih1 _ _ _)
      | (with_reducible exact ih2 _ _ _ _ _ _)
      | (with_reducible exact ih3 _ _ _ _ _ _ _ _)
      | (with_reducible exact ih4 _ _ _ _ _)
      | (with_reducible exact ih5 _ _ _ _ _ _)
      | (with_reducible exact fathomlaw3_eqWhole.mono _ _ _ _ _)
      | (with_reducible exact fathomlaw3_of.mono _ _)
      | (with_reducible exact fathomlaw3_plus.mono _ _ _ _ _)
      | (with_reducible exact fathomlaw3_units.mono _ _)
      | (with_reducible exact fathomref0_EqNat.mono _ _ _)
      | (with_reducible exact fathomref3_Times.mono _ _ _)
      | (with_reducible exact fathomref3_Up2.mono _ _ _)
      | (with_reducible exact LeO.refl _)
      | (with_reducible exact LeO.none _)
      | (with_reducible refine LeO.ite ?_ ?_)
      | (with_reducible refine LeO.bind ?_ (fun _ => ?_))
      | exact ih0 _ _
      | exact ih1 _ _ _
      | exact ih2 _ _ _ _ _ _
      | exact ih3 _ _ _ _ _ _ _ _
      | exact ih4 _ _ _ _ _
      | exact ih5 _ _ _ _ _ _
      | exact fathomlaw3_eqWhole.mono _ _ _ _ _
      | exact fathomlaw3_of.mono _ _
      | exact fathomlaw3_plus.mono _ _ _ _ _
      | exact fathomlaw3_units.mono _ _
      | exact fathomref0_EqNat.mono _ _ _
      | exact fathomref3_Times.mono _ _ _
      | exact fathomref3_Up2.mono _ _ _
      | exact LeO.none _
      | refine LeO.ite ?_ ?_
      | refine LeO.bind ?_ (fun _ => ?_)
    · intro y0 y1 y2 y3 y4 y5
      unfold fathomlaw3_FloatErrors.j5
      repeat' first
      | (with_reducible exact ih0 _ _)
      | (with_reducible exact ih1 _ _ _)
      | (with_reducible exact ih2 _ _ _ _ _ _)
      | (with_reducible exact ih3 _ _ _ _ _ _ _ _)
      | (with_reducible exact ih4 _ _ _ _ _)
      | (with_reducible exact ih5 _ _ _ _ _ _)
      | (with_reducible exact fathomlaw3_eqWhole.mono _ _ _ _ _)
      | (with_reducible exact fathomlaw3_of.mono _ _)
      | (with_reducible exact fathomlaw3_plus.mono _ _ _ _ _)
      | (with_reducible exact fathomlaw3_units.mono _ _)
      | (with_reducible exact fathomref0_EqNat.mono _ _ _)
      | (with_reducible exact fathomref3_Times.mono _ _ _)
      | (with_reducible exact fathomref3_Up2.mono _ _ _)
      | (with_reducible exact LeO.refl _)
      | (with_reducible exact LeO.none _)
      | (with_reducible refine LeO.ite ?_ ?_)
      | (with_reducible refine LeO.bind ?_ (fun _ => ?_))
      | exact ih0 _ _
      | exact ih1 _ _ _
      | exact ih2 _ _ _ _ _ _
      | exact ih3 _ _ _ _ _ _ _ _
      | exact ih4 _ _ _ _ _
      | exact ih5 _ _ _ _ _ _
      | exact fathomlaw3_eqWhole.mono _ _ _ _ _
      | exact fathomlaw3_of.mono _ _
      | exact fathomlaw3_plus.mono _ _ _ _ _
      | exact fathomlaw3_units.mono _ _
      | exact fathomref0_EqNat.mono _ _ _
      | exact fathomref3_Times.mono _ _ _
      | exact fathomref3_Up2.mono _ _ _
      | exact LeO.none _
      | refine LeO.ite ?_ ?_
      | refine LeO.bind ?_ (fun _ => ?_)
theorem fathomlaw3_FloatErrors.mono : ∀ a0 k, LeO (fathomlaw3_FloatErrors.f k a0) (fathomlaw3_FloatErrors.f (k + 1) a0) := by
  intro a0 k
  obtain ⟨ih0, ih1, ih2, ih3, ih4, ih5⟩ := fathomlaw3_FloatErrors.mono_l k
  unfold fathomlaw3_FloatErrors.f
  repeat' first
      | (with_reducible exact ih0 _ _)
      | (with_reducible exact ih1 _ _ _)
      | (with_reducible exact ih2 _ _ _ _ _ _)
      | (with_reducible exact ih3 _ _ _ _ _ _ _ _)
      | (with_reducible exact ih4 _ _ _ _ _)
      | (with_reducible exact ih5 _ _ _ _ _ _)
      | (with_reducible exact fathomlaw3_eqWhole.mono _ _ _ _ _)
      | (with_reducible exact fathomlaw3_of.mono _ _)
      | (with_reducible exact fathomlaw3_plus.mono _ _ _ _ _)
      | (with_reducible exact fathomlaw3_units.mono _ _)
      | (with_reducible exact fathomref0_EqNat.mono _ _ _)
      | (with_reducible exact fathomref3_Times.mono _ _ _)
      | (with_reducible exact fathomref3_Up2.mono _ _ _)
      | (with_reducible exact LeO.refl _)
      | (with_reducible exact LeO.none _)
      | (with_reducible refine LeO.ite ?_ ?_)
      | (with_reducible refine LeO.bind ?_ (fun _ => ?_))
      | exact ih0 _ _
      | exact ih1 _ _ _
      | exact ih2 _ _ _ _ _ _
      | exact ih3 _ _ _ _ _ _ _ _
      | exact ih4 _ _ _ _ _
      | exact ih5 _ _ _ _ _ _
      | exact fathomlaw3_eqWhole.mono _ _ _ _ _
      | exact fathomlaw3_of.mono _ _
      | exact fathomlaw3_plus.mono _ _ _ _ _
      | exact fathomlaw3_units.mono _ _
      | exact fathomref0_EqNat.mono _ _ _
      | exact fathomref3_Times.mono _ _ _
      | exact fathomref3_Up2.mono _ _ _
      | exact LeO.none _
      | refine LeO.ite ?_ ?_
      | refine LeO.bind ?_ (fun _ => ?_)
set_option maxHeartbeats 8000000 in
set_option maxRecDepth 100000 in
theorem fathomlaw3_FloatErrors.calls (k : Nat) (A0 : Option Addr) (c0 : Nat) (l0 : List (S39)) (r : Bool) (w : World) (hr0 : Kd.C k39 w A0 l0.length l0) (hc0 : l0.length ≤ c0) (h : fathomlaw3_FloatErrors.f k l0 = some r) :
    Calls Try.prog 13 #[.slice A0 l0.length c0] w fun e w' => e = .returned (.bool r) ∧ Below w.heap.size w w' := by
  have hu78 := Try.underlying78
  have HR0 := Aside0.mk hr0
  have HC0 := Aside0.mk hc0
  clear hr0 hc0
  have HB := Aside0.mk (Below.refl w.heap.size w)
  have H : (fathomlaw3_FloatErrors.l0 k l0 0) = some r := h
  clear h
  have H' := Aside0.mk H
  clear H
  go_enter Try.func13, Try.ntmps13
  go_wp2
  go_loopg [3] k (fun kq v3 w' => ∃ (x3_1 : Int), v3 = .int .i64 x3_1 ∧ Aside0 (fathomlaw3_FloatErrors.l0 kq l0 x3_1 = some r) ∧ Aside0 (kq ≤ k) ∧ Aside0 (Below w.heap.size w w'))
  case atStart => exact ⟨(0), (by first | rfl | (simp; done) | (simp [*]; done)), H', ⟨Nat.le_refl _⟩, ⟨by repeat (first | (with_reducible first | exact HB.out | apply below_alloc | apply pw_below_drewN | apply below_drew1) | exact HB.out)⟩⟩
  case round =>
    clear H'
    try clear c1
    obtain ⟨x3_1, rfl, HA, HK1, HB⟩ := hrel
    cases gk with
    | zero => exact absurd HA.out (by simp [fathomlaw3_FloatErrors.l0])
    | succ k1 =>
      have H := HA.out
      clear HA
      simp only [fathomlaw3_FloatErrors.l0] at H
      have HC2 := Aside0.mk H
      clear H
      go_upto_region 2 with (fail)
      go_cut [21] (fun v21 wc => ∃ (kq : Nat) (x21_1 : Bool), v21 = .bool x21_1 ∧ Aside0 (fathomlaw3_FloatErrors.j1 kq l0 x3_1 x21_1 = some r) ∧ Aside0 (kq ≤ k1) ∧ Aside0 (Below w.heap.size w wc))
      case first =>
        have H := HC2.out
        clear HC2
        by_cases c3 : x3_1 < (l0.length : Int)
        · rw [if_pos c3] at H
          have c3b0 : decide (x3_1 < (l0.length : Int)) = true := decide_eq_true c3
          clear c3
          (first | rw [c3b0] | (simp only [i64_w, i32_w]; rw [c3b0]) | skip)
          have H' := Aside0.mk H
          clear H
          go_wp2
          go_meet
          case rel => exact ⟨_, (decide (x3_1 < 2000)), (by first | rfl | (simp; done) | (simp [*]; done)), H', ⟨by have := HK1.out; first | omega | exact Nat.le_refl _⟩, ⟨by repeat (first | (with_reducible first | exact HB.out | apply below_alloc | apply pw_below_drewN | apply below_drew1) | exact HB.out)⟩⟩
        · rw [if_neg c3] at H
          have c3b0 : decide (x3_1 < (l0.length : Int)) = false := decide_eq_false c3
          clear c3
          (first | rw [c3b0] | (simp only [i64_w, i32_w]; rw [c3b0]) | skip)
          have H' := Aside0.mk H
          clear H
          go_wp2
          go_meet
          case rel => exact ⟨_, (false), (by first | rfl | (simp; done) | (simp [*]; done)), H', ⟨by have := HK1.out; first | omega | exact Nat.le_refl _⟩, ⟨by repeat (first | (with_reducible first | exact HB.out | apply below_alloc | apply pw_below_drewN | apply below_drew1) | exact HB.out)⟩⟩
      case rest =>
        clear HC2
        try clear c1
        try clear p2
        try clear c3
        try clear c3b0
        obtain ⟨kq, x21_1, rfl, HA, HJ1, HB⟩ := hcut
        cases kq with
        | zero => exact absurd HA.out (by simp [fathomlaw3_FloatErrors.j1])
        | succ kj1 =>
          have H := HA.out
          clear HA
          simp only [fathomlaw3_FloatErrors.j1] at H
          by_cases c4 : x21_1 = true
          · subst c4
            have H1 : (if 0 ≤ x3_1 then (if x3_1 < (l0.length : Int) then ((float_Add_uint64.f ((rd_T39 l0 x3_1).f0) ((rd_T39 l0 x3_1).f1)).bind fun t210 => ((fathomlaw3_finite.f ((rd_T39 l0 x3_1).f0)).bind fun t211 => (if t211 = true then ((fathomlaw3_finite.f ((rd_T39 l0 x3_1).f1)).bind fun t212 => (if t212 = true then ((fathomlaw3_finite.f t210).bind fun t213 => (fathomlaw3_FloatErrors.j2 kj1 l0 x3_1 ((rd_T39 l0 x3_1).f0) ((rd_T39 l0 x3_1).f1) t210 (!t213))) else (fathomlaw3_FloatErrors.j2 kj1 l0 x3_1 ((rd_T39 l0 x3_1).f0) ((rd_T39 l0 x3_1).f1) t210 true))) else (fathomlaw3_FloatErrors.j2 kj1 l0 x3_1 ((rd_T39 l0 x3_1).f0) ((rd_T39 l0 x3_1).f1) t210 true)))) else (none)) else (none)) = some r := by rw [if_pos rfl] at H; exact H
            clear H
            have H := H1
            clear H1
            by_cases c5 : 0 ≤ x3_1
            · rw [if_pos c5] at H
              have c5b0 : decide (0 ≤ x3_1) = true := decide_eq_true c5
              clear c5
              by_cases c6 : x3_1 < (l0.length : Int)
              · rw [if_pos c6] at H
                have c6b0 : decide (x3_1 < (l0.length : Int)) = true := decide_eq_true c6
                clear c6
                replace H := Option.bind_eq_some_iff.mp H
                obtain ⟨t210, A70, H⟩ := H
                replace H : ((fathomlaw3_finite.f ((rd_T39 l0 x3_1).f0)).bind fun t211 => (if t211 = true then ((fathomlaw3_finite.f ((rd_T39 l0 x3_1).f1)).bind fun t212 => (if t212 = true then ((fathomlaw3_finite.f t210).bind fun t213 => (fathomlaw3_FloatErrors.j2 kj1 l0 x3_1 ((rd_T39 l0 x3_1).f0) ((rd_T39 l0 x3_1).f1) t210 (!t213))) else (fathomlaw3_FloatErrors.j2 kj1 l0 x3_1 ((rd_T39 l0 x3_1).f0) ((rd_T39 l0 x3_1).f1) t210 true))) else (fathomlaw3_FloatErrors.j2 kj1 l0 x3_1 ((rd_T39 l0 x3_1).f0) ((rd_T39 l0 x3_1).f1) t210 true))) = some r := H
                have A7 := Aside0.mk A70
                clear A70
                have HC8 := Aside0.mk H
                clear H
                have p208 : 0 ≤ (x3_1 : Int) := of_decide_eq_true (by first | (with_reducible assumption) | assumption)
                have q208 : x3_1 < (l0.length : Int) := of_decide_eq_true (by first | (with_reducible assumption) | assumption)
                obtain ⟨ad208, e208, hx208_0, hx208_1⟩ := at_T39 HR0.out x3_1 p208 q208
                cases e208
                replace hx208_0 := (HB.out.cell (World.block_lt_of_cell? w _ hx208_0)).trans hx208_0
                replace hx208_1 := (HB.out.cell (World.block_lt_of_cell? w _ hx208_1)).trans hx208_1
                replace p208 := eq_true p208
                replace q208 := eq_true q208
                have p209 : 0 ≤ (x3_1 : Int) := of_decide_eq_true (by first | (with_reducible assumption) | assumption)
                have q209 : x3_1 < (l0.length : Int) := of_decide_eq_true (by first | (with_reducible assumption) | assumption)
                obtain ⟨ad209, e209, hx209_0, hx209_1⟩ := at_T39 HR0.out x3_1 p209 q209
                obtain rfl : ad208 = ad209 := (by injection e209)
                replace hx209_0 := (HB.out.cell (World.block_lt_of_cell? w _ hx209_0)).trans hx209_0
                replace hx209_1 := (HB.out.cell (World.block_lt_of_cell? w _ hx209_1)).trans hx209_1
                replace p209 := eq_true p209
                replace q209 := eq_true q209
                go_upto_region 7 with (first | ((with_reducible refine gate_callee (f := 75) rfl ?_); refine goesL_ (some 36) rfl rfl Try.func75 (by kernel_rfl) rfl #[.int .u64 ((rd_T39 l0 x3_1).f0), .int .u64 ((rd_T39 l0 x3_1).f1)] rfl (by (try simp only [List.map_toArray, List.map_cons, List.map_nil]); first | done | rfl | (simp only [List.length_drop, List.length_take]; rfl) | (simp only [gt_iff_lt, Int.natCast_pos]; rfl)) ?_; (with_reducible refine (float_Add_uint64.calls ((rd_T39 l0 x3_1).f0) ((rd_T39 l0 x3_1).f1) t210 _ A7.out).mono ?_); rintro e w' ⟨rfl, ⟨nd, rfl⟩⟩; refine ⟨_, rfl, ?_⟩))
                (try simp only [Act.put, List.setIfInBounds_toArray, List.set_cons_zero, List.set_cons_succ])
                go_cut [49] (fun v49 wc => ∃ (kq : Nat) (x49_7 : Bool), v49 = .bool x49_7 ∧ Aside0 (fathomlaw3_FloatErrors.j2 kq l0 x3_1 ((rd_T39 l0 x3_1).f0) ((rd_T39 l0 x3_1).f1) t210 x49_7 = some r) ∧ Aside0 (kq ≤ kj1) ∧ Aside0 (Below w.heap.size w wc))
                case first =>
                  have H := HC8.out
                  clear HC8
                  replace H := Option.bind_eq_some_iff.mp H
                  obtain ⟨t211, A90, H⟩ := H
                  replace H : (if t211 = true then ((fathomlaw3_finite.f ((rd_T39 l0 x3_1).f1)).bind fun t212 => (if t212 = true then ((fathomlaw3_finite.f t210).bind fun t213 => (fathomlaw3_FloatErrors.j2 kj1 l0 x3_1 ((rd_T39 l0 x3_1).f0) ((rd_T39 l0 x3_1).f1) t210 (!t213))) else (fathomlaw3_FloatErrors.j2 kj1 l0 x3_1 ((rd_T39 l0 x3_1).f0) ((rd_T39 l0 x3_1).f1) t210 true))) else (fathomlaw3_FloatErrors.j2 kj1 l0 x3_1 ((rd_T39 l0 x3_1).f0) ((rd_T39 l0 x3_1).f1) t210 true)) = some r := H
                  have A9 := Aside0.mk A90
                  clear A90
                  by_cases c10 : t211 = true
                  · subst c10
                    have H1 : ((fathomlaw3_finite.f ((rd_T39 l0 x3_1).f1)).bind fun t212 => (if t212 = true then ((fathomlaw3_finite.f t210).bind fun t213 => (fathomlaw3_FloatErrors.j2 kj1 l0 x3_1 ((rd_T39 l0 x3_1).f0) ((rd_T39 l0 x3_1).f1) t210 (!t213))) else (fathomlaw3_FloatErrors.j2 kj1 l0 x3_1 ((rd_T39 l0 x3_1).f0) ((rd_T39 l0 x3_1).f1) t210 true))) = some r := by rw [if_pos rfl] at H; exact H
                    clear H
                    have H := H1
                    clear H1
                    replace H := Option.bind_eq_some_iff.mp H
                    obtain ⟨t212, A110, H⟩ := H
                    replace H : (if t212 = true then ((fathomlaw3_finite.f t210).bind fun t213 => (fathomlaw3_FloatErrors.j2 kj1 l0 x3_1 ((rd_T39 l0 x3_1).f0) ((rd_T39 l0 x3_1).f1) t210 (!t213))) else (fathomlaw3_FloatErrors.j2 kj1 l0 x3_1 ((rd_T39 l0 x3_1).f0) ((rd_T39 l0 x3_1).f1) t210 true)) = some r := H
                    have A11 := Aside0.mk A110
                    clear A110
                    by_cases c12 : t212 = true
                    · subst c12
                      have H1 : ((fathomlaw3_finite.f t210).bind fun t213 => (fathomlaw3_FloatErrors.j2 kj1 l0 x3_1 ((rd_T39 l0 x3_1).f0) ((rd_T39 l0 x3_1).f1) t210 (!t213))) = some r := by rw [if_pos rfl] at H; exact H
                      clear H
                      have H := H1
                      clear H1
                      replace H := Option.bind_eq_some_iff.mp H
                      obtain ⟨t213, A130, H⟩ := H
                      replace H : (fathomlaw3_FloatErrors.j2 kj1 l0 x3_1 ((rd_T39 l0 x3_1).f0) ((rd_T39 l0 x3_1).f1) t210 (!t213)) = some r := H
                      have A13 := Aside0.mk A130
                      clear A130
                      have H' := Aside0.mk H
                      clear H
                      go_wp2_with (first | ((with_reducible refine gate_callee (f := 16) rfl ?_); refine goesL_ (some 38) rfl rfl Try.func16 (by kernel_rfl) rfl #[.int .u64 ((rd_T39 l0 x3_1).f0)] rfl (by (try simp only [List.map_toArray, List.map_cons, List.map_nil]); first | done | rfl | (simp only [List.length_drop, List.length_take]; rfl) | (simp only [gt_iff_lt, Int.natCast_pos]; rfl)) ?_; (with_reducible refine (fathomlaw3_finite.calls ((rd_T39 l0 x3_1).f0) true _ A9.out).mono ?_); rintro e w' ⟨rfl, ⟨nd, rfl⟩⟩; refine ⟨_, rfl, ?_⟩) | (go_at_call 16; (with_reducible refine (fathomlaw3_finite.calls ((rd_T39 l0 x3_1).f1) true _ A11.out).mono ?_); rintro e w' ⟨rfl, ⟨nd, rfl⟩⟩) | (go_at_call 16; (with_reducible refine (fathomlaw3_finite.calls t210 t213 _ A13.out).mono ?_); rintro e w' ⟨rfl, ⟨nd, rfl⟩⟩))
                      go_meet
                      case rel => exact ⟨_, (!t213), (by first | rfl | (simp; done) | (simp [*]; done)), H', ⟨by have := HK1.out; have := HJ1.out; first | omega | exact Nat.le_refl _⟩, ⟨by repeat (first | (with_reducible first | exact HB.out | apply below_alloc | apply pw_below_drewN | apply below_drew1) | exact HB.out)⟩⟩
                    · replace c12 := Bool.eq_false_iff.mpr c12
                      subst c12
                      have H1 : (fathomlaw3_FloatErrors.j2 kj1 l0 x3_1 ((rd_T39 l0 x3_1).f0) ((rd_T39 l0 x3_1).f1) t210 true) = some r := by rw [if_neg (show ¬ (false = true) by decide)] at H; exact H
                      clear H
                      have H := H1
                      clear H1
                      have H' := Aside0.mk H
                      clear H
                      go_wp2_with (first | ((with_reducible refine gate_callee (f := 16) rfl ?_); refine goesL_ (some 38) rfl rfl Try.func16 (by kernel_rfl) rfl #[.int .u64 ((rd_T39 l0 x3_1).f0)] rfl (by (try simp only [List.map_toArray, List.map_cons, List.map_nil]); first | done | rfl | (simp only [List.length_drop, List.length_take]; rfl) | (simp only [gt_iff_lt, Int.natCast_pos]; rfl)) ?_; (with_reducible refine (fathomlaw3_finite.calls ((rd_T39 l0 x3_1).f0) true _ A9.out).mono ?_); rintro e w' ⟨rfl, ⟨nd, rfl⟩⟩; refine ⟨_, rfl, ?_⟩) | (go_at_call 16; (with_reducible refine (fathomlaw3_finite.calls ((rd_T39 l0 x3_1).f1) false _ A11.out).mono ?_); rintro e w' ⟨rfl, ⟨nd, rfl⟩⟩))
                      go_meet
                      case rel => exact ⟨_, (true), (by first | rfl | (simp; done) | (simp [*]; done)), H', ⟨by have := HK1.out; have := HJ1.out; first | omega | exact Nat.le_refl _⟩, ⟨by repeat (first | (with_reducible first | exact HB.out | apply below_alloc | apply pw_below_drewN | apply below_drew1) | exact HB.out)⟩⟩
                  · replace c10 := Bool.eq_false_iff.mpr c10
                    subst c10
                    have H1 : (fathomlaw3_FloatErrors.j2 kj1 l0 x3_1 ((rd_T39 l0 x3_1).f0) ((rd_T39 l0 x3_1).f1) t210 true) = some r := by rw [if_neg (show ¬ (false = true) by decide)] at H; exact H
                    clear H
                    have H := H1
                    clear H1
                    have H' := Aside0.mk H
                    clear H
                    go_wp2_with (first | ((with_reducible refine gate_callee (f := 16) rfl ?_); refine goesL_ (some 38) rfl rfl Try.func16 (by kernel_rfl) rfl #[.int .u64 ((rd_T39 l0 x3_1).f0)] rfl (by (try simp only [List.map_toArray, List.map_cons, List.map_nil]); first | done | rfl | (simp only [List.length_drop, List.length_take]; rfl) | (simp only [gt_iff_lt, Int.natCast_pos]; rfl)) ?_; (with_reducible refine (fathomlaw3_finite.calls ((rd_T39 l0 x3_1).f0) false _ A9.out).mono ?_); rintro e w' ⟨rfl, ⟨nd, rfl⟩⟩; refine ⟨_, rfl, ?_⟩))
                    go_meet
                    case rel => exact ⟨_, (true), (by first | rfl | (simp; done) | (simp [*]; done)), H', ⟨by have := HK1.out; have := HJ1.out; first | omega | exact Nat.le_refl _⟩, ⟨by repeat (first | (with_reducible first | exact HB.out | apply below_alloc | apply pw_below_drewN | apply below_drew1) | exact HB.out)⟩⟩
                case rest =>
                  clear HC8
                  try clear c1
                  try clear p2
                  try clear q2
                  try clear hx2
                  try clear c3
                  try clear c3b0
                  try clear c4
                  try clear c5
                  try clear c5b0
                  try clear c6
                  try clear c6b0
                  try clear c7
                  try clear c10
                  try clear c12
                  try clear c13
                  try clear hx208_0
                  try clear hx208_1
                  try clear hx209_0
                  try clear hx209_1
                  try clear p2
                  try clear p208
                  try clear p209
                  try clear q208
                  try clear q209
                  obtain ⟨kq, x49_7, rfl, HA, HJ7, HB⟩ := hcut
                  cases kq with
                  | zero => exact absurd HA.out (by simp [fathomlaw3_FloatErrors.j2])
                  | succ kj7 =>
                    have H := HA.out
                    clear HA
                    simp only [fathomlaw3_FloatErrors.j2] at H
                    by_cases c14 : x49_7 = true
                    · subst c14
                      have H1 : (fathomlaw3_FloatErrors.l0 kj7 l0 (wrap64 (x3_1 + 1))) = some r := by rw [if_pos rfl] at H; exact H
                      clear H
                      have H := H1
                      clear H1
                      have H' := Aside0.mk H
                      clear H
                      go_wp2
                      go_roundg kj7
                      case measure => have := HK1.out; have := HJ1.out; have := HJ7.out; omega
                      case rel => exact ⟨(wrap64 (x3_1 + 1)), (by first | rfl | (simp; done) | (simp [*]; done)), H', ⟨by have := HK1.out; have := HJ1.out; have := HJ7.out; omega⟩, ⟨by repeat (first | (with_reducible first | exact HB.out | apply below_alloc | apply pw_below_drewN | apply below_drew1) | exact HB.out)⟩⟩
                    · replace c14 := Bool.eq_false_iff.mpr c14
                      subst c14
                      have H1 : ((float_Sub_uint64.f t210 ((rd_T39 l0 x3_1).f0)).bind fun t214 => ((float_Sub_uint64.f t210 t214).bind fun t215 => ((fathomlaw3_finite.f t214).bind fun t216 => (if t216 = true then ((fathomlaw3_finite.f t215).bind fun t217 => (fathomlaw3_FloatErrors.j3 kj7 l0 x3_1 ((rd_T39 l0 x3_1).f0) ((rd_T39 l0 x3_1).f1) t210 t214 t215 (!t217))) else (fathomlaw3_FloatErrors.j3 kj7 l0 x3_1 ((rd_T39 l0 x3_1).f0) ((rd_T39 l0 x3_1).f1) t210 t214 t215 true))))) = some r := by rw [if_neg (show ¬ (false = true) by decide)] at H; exact H
                      clear H
                      have H := H1
                      clear H1
                      replace H := Option.bind_eq_some_iff.mp H
                      obtain ⟨t214, A150, H⟩ := H
                      replace H : ((float_Sub_uint64.f t210 t214).bind fun t215 => ((fathomlaw3_finite.f t214).bind fun t216 => (if t216 = true then ((fathomlaw3_finite.f t215).bind fun t217 => (fathomlaw3_FloatErrors.j3 kj7 l0 x3_1 ((rd_T39 l0 x3_1).f0) ((rd_T39 l0 x3_1).f1) t210 t214 t215 (!t217))) else (fathomlaw3_FloatErrors.j3 kj7 l0 x3_1 ((rd_T39 l0 x3_1).f0) ((rd_T39 l0 x3_1).f1) t210 t214 t215 true)))) = some r := H
                      have A15 := Aside0.mk A150
                      clear A150
                      replace H := Option.bind_eq_some_iff.mp H
                      obtain ⟨t215, A160, H⟩ := H
                      replace H : ((fathomlaw3_finite.f t214).bind fun t216 => (if t216 = true then ((fathomlaw3_finite.f t215).bind fun t217 => (fathomlaw3_FloatErrors.j3 kj7 l0 x3_1 ((rd_T39 l0 x3_1).f0) ((rd_T39 l0 x3_1).f1) t210 t214 t215 (!t217))) else (fathomlaw3_FloatErrors.j3 kj7 l0 x3_1 ((rd_T39 l0 x3_1).f0) ((rd_T39 l0 x3_1).f1) t210 t214 t215 true))) = some r := H
                      have A16 := Aside0.mk A160
                      clear A160
                      have HC17 := Aside0.mk H
                      clear H
                      go_upto_region 10 with (first | ((with_reducible refine gate_callee (f := 77) rfl ?_); refine goesL_ (some 52) rfl rfl Try.func77 (by kernel_rfl) rfl #[.int .u64 t210, .int .u64 ((rd_T39 l0 x3_1).f0)] rfl (by (try simp only [List.map_toArray, List.map_cons, List.map_nil]); first | done | rfl | (simp only [List.length_drop, List.length_take]; rfl) | (simp only [gt_iff_lt, Int.natCast_pos]; rfl)) ?_; (with_reducible refine (float_Sub_uint64.calls t210 ((rd_T39 l0 x3_1).f0) t214 _ A15.out).mono ?_); rintro e w' ⟨rfl, ⟨nd, rfl⟩⟩; refine ⟨_, rfl, ?_⟩) | ((with_reducible refine gate_callee (f := 77) rfl ?_); refine goesL_ (some 55) rfl rfl Try.func77 (by kernel_rfl) rfl #[.int .u64 t210, .int .u64 t214] rfl (by (try simp only [List.map_toArray, List.map_cons, List.map_nil]); first | done | rfl | (simp only [List.length_drop, List.length_take]; rfl) | (simp only [gt_iff_lt, Int.natCast_pos]; rfl)) ?_; (with_reducible refine (float_Sub_uint64.calls t210 t214 t215 _ A16.out).mono ?_); rintro e w' ⟨rfl, ⟨nd, rfl⟩⟩; refine ⟨_, rfl, ?_⟩))
                      (try simp only [Act.put, List.setIfInBounds_toArray, List.set_cons_zero, List.set_cons_succ])
                      go_cut [63] (fun v63 wc => ∃ (kq : Nat) (x63_16 : Bool), v63 = .bool x63_16 ∧ Aside0 (fathomlaw3_FloatErrors.j3 kq l0 x3_1 ((rd_T39 l0 x3_1).f0) ((rd_T39 l0 x3_1).f1) t210 t214 t215 x63_16 = some r) ∧ Aside0 (kq ≤ kj7) ∧ Aside0 (Below w.heap.size w wc))
                      case first =>
                        have H := HC17.out
                        clear HC17
                        replace H := Option.bind_eq_some_iff.mp H
                        obtain ⟨t216, A180, H⟩ := H
                        replace H : (if t216 = true then ((fathomlaw3_finite.f t215).bind fun t217 => (fathomlaw3_FloatErrors.j3 kj7 l0 x3_1 ((rd_T39 l0 x3_1).f0) ((rd_T39 l0 x3_1).f1) t210 t214 t215 (!t217))) else (fathomlaw3_FloatErrors.j3 kj7 l0 x3_1 ((rd_T39 l0 x3_1).f0) ((rd_T39 l0 x3_1).f1) t210 t214 t215 true)) = some r := H
                        have A18 := Aside0.mk A180
                        clear A180
                        by_cases c19 : t216 = true
                        · subst c19
                          have H1 : ((fathomlaw3_finite.f t215).bind fun t217 => (fathomlaw3_FloatErrors.j3 kj7 l0 x3_1 ((rd_T39 l0 x3_1).f0) ((rd_T39 l0 x3_1).f1) t210 t214 t215 (!t217))) = some r := by rw [if_pos rfl] at H; exact H
                          clear H
                          have H := H1
                          clear H1
                          replace H := Option.bind_eq_some_iff.mp H
                          obtain ⟨t217, A200, H⟩ := H
                          replace H : (fathomlaw3_FloatErrors.j3 kj7 l0 x3_1 ((rd_T39 l0 x3_1).f0) ((rd_T39 l0 x3_1).f1) t210 t214 t215 (!t217)) = some r := H
                          have A20 := Aside0.mk A200
                          clear A200
                          have H' := Aside0.mk H
                          clear H
                          go_wp2_with (first | ((with_reducible refine gate_callee (f := 16) rfl ?_); refine goesL_ (some 57) rfl rfl Try.func16 (by kernel_rfl) rfl #[.int .u64 t214] rfl (by (try simp only [List.map_toArray, List.map_cons, List.map_nil]); first | done | rfl | (simp only [List.length_drop, List.length_take]; rfl) | (simp only [gt_iff_lt, Int.natCast_pos]; rfl)) ?_; (with_reducible refine (fathomlaw3_finite.calls t214 true _ A18.out).mono ?_); rintro e w' ⟨rfl, ⟨nd, rfl⟩⟩; refine ⟨_, rfl, ?_⟩) | (go_at_call 16; (with_reducible refine (fathomlaw3_finite.calls t215 t217 _ A20.out).mono ?_); rintro e w' ⟨rfl, ⟨nd, rfl⟩⟩))
                          go_meet
                          case rel => exact ⟨_, (!t217), (by first | rfl | (simp; done) | (simp [*]; done)), H', ⟨by have := HK1.out; have := HJ1.out; have := HJ7.out; first | omega | exact Nat.le_refl _⟩, ⟨by repeat (first | (with_reducible first | exact HB.out | apply below_alloc | apply pw_below_drewN | apply below_drew1) | exact HB.out)⟩⟩
                        · replace c19 := Bool.eq_false_iff.mpr c19
                          subst c19
                          have H1 : (fathomlaw3_FloatErrors.j3 kj7 l0 x3_1 ((rd_T39 l0 x3_1).f0) ((rd_T39 l0 x3_1).f1) t210 t214 t215 true) = some r := by rw [if_neg (show ¬ (false = true) by decide)] at H; exact H
                          clear H
                          have H := H1
                          clear H1
                          have H' := Aside0.mk H
                          clear H
                          go_wp2_with (first | ((with_reducible refine gate_callee (f := 16) rfl ?_); refine goesL_ (some 57) rfl rfl Try.func16 (by kernel_rfl) rfl #[.int .u64 t214] rfl (by (try simp only [List.map_toArray, List.map_cons, List.map_nil]); first | done | rfl | (simp only [List.length_drop, List.length_take]; rfl) | (simp only [gt_iff_lt, Int.natCast_pos]; rfl)) ?_; (with_reducible refine (fathomlaw3_finite.calls t214 false _ A18.out).mono ?_); rintro e w' ⟨rfl, ⟨nd, rfl⟩⟩; refine ⟨_, rfl, ?_⟩))
                          go_meet
                          case rel => exact ⟨_, (true), (by first | rfl | (simp; done) | (simp [*]; done)), H', ⟨by have := HK1.out; have := HJ1.out; have := HJ7.out; first | omega | exact Nat.le_refl _⟩, ⟨by repeat (first | (with_reducible first | exact HB.out | apply below_alloc | apply pw_below_drewN | apply below_drew1) | exact HB.out)⟩⟩
                      case rest =>
                        clear HC17
                        try clear c1
                        try clear p2
                        try clear q2
                        try clear hx2
                        try clear c3
                        try clear c3b0
                        try clear c4
                        try clear c5
                        try clear c5b0
                        try clear c6
                        try clear c6b0
                        try clear p6
                        try clear c7
                        try clear c10
                        try clear c12
                        try clear c13
                        try clear c14
                        try clear c16
                        try clear c19
                        try clear p20
                        try clear q20
                        try clear hx20
                        try clear hx208_0
                        try clear hx208_1
                        try clear hx209_0
                        try clear hx209_1
                        try clear p2
                        try clear p208
                        try clear p209
                        try clear q2
                        try clear q208
                        try clear q209
                        obtain ⟨kq, x63_16, rfl, HA, HJ16, HB⟩ := hcut
                        cases kq with
                        | zero => exact absurd HA.out (by simp [fathomlaw3_FloatErrors.j3])
                        | succ kj16 =>
                          have H := HA.out
                          clear HA
                          simp only [fathomlaw3_FloatErrors.j3] at H
                          by_cases c21 : x63_16 = true
                          · subst c21
                            have H1 : (fathomlaw3_FloatErrors.l0 kj16 l0 (wrap64 (x3_1 + 1))) = some r := by rw [if_pos rfl] at H; exact H
                            clear H
                            have H := H1
                            clear H1
                            have H' := Aside0.mk H
                            clear H
                            go_wp2
                            go_roundg kj16
                            case measure => have := HK1.out; have := HJ1.out; have := HJ7.out; have := HJ16.out; omega
                            case rel => exact ⟨(wrap64 (x3_1 + 1)), (by first | rfl | (simp; done) | (simp [*]; done)), H', ⟨by have := HK1.out; have := HJ1.out; have := HJ7.out; have := HJ16.out; omega⟩, ⟨by repeat (first | (with_reducible first | exact HB.out | apply below_alloc | apply pw_below_drewN | apply below_drew1) | exact HB.out)⟩⟩
                          · replace c21 := Bool.eq_false_iff.mpr c21
                            subst c21
                            have H1 : ((float_Sub_uint64.f ((rd_T39 l0 x3_1).f0) t215).bind fun t218 => ((float_Sub_uint64.f ((rd_T39 l0 x3_1).f1) t214).bind fun t219 => ((float_Add_uint64.f t218 t219).bind fun t220 => ((fathomlaw3_finite.f t220).bind fun t221 => (if t221 = true then ((fathomlaw3_of.f kj16 ((rd_T39 l0 x3_1).f0)).bind fun bt222 => ((fathomlaw3_of.f kj16 ((rd_T39 l0 x3_1).f1)).bind fun bt226 => ((fathomlaw3_plus.f kj16 bt222.1 bt222.2 bt226.1 bt226.2).bind fun bt230 => ((fathomlaw3_of.f kj16 t210).bind fun bt234 => ((fathomlaw3_of.f kj16 t220).bind fun bt238 => ((fathomlaw3_plus.f kj16 bt234.1 bt234.2 bt238.1 bt238.2).bind fun bt242 => ((fathomlaw3_eqWhole.f kj16 bt230.1 bt230.2 bt242.1 bt242.2).bind fun t246 => (fathomlaw3_FloatErrors.j4 kj16 l0 x3_1 ((rd_T39 l0 x3_1).f0) ((rd_T39 l0 x3_1).f1) (!t246))))))))) else (fathomlaw3_FloatErrors.j4 kj16 l0 x3_1 ((rd_T39 l0 x3_1).f0) ((rd_T39 l0 x3_1).f1) true)))))) = some r := by rw [if_neg (show ¬ (false = true) by decide)] at H; exact H
                            clear H
                            have H := H1
                            clear H1
                            replace H := Option.bind_eq_some_iff.mp H
                            obtain ⟨t218, A220, H⟩ := H
                            replace H : ((float_Sub_uint64.f ((rd_T39 l0 x3_1).f1) t214).bind fun t219 => ((float_Add_uint64.f t218 t219).bind fun t220 => ((fathomlaw3_finite.f t220).bind fun t221 => (if t221 = true then ((fathomlaw3_of.f kj16 ((rd_T39 l0 x3_1).f0)).bind fun bt222 => ((fathomlaw3_of.f kj16 ((rd_T39 l0 x3_1).f1)).bind fun bt226 => ((fathomlaw3_plus.f kj16 bt222.1 bt222.2 bt226.1 bt226.2).bind fun bt230 => ((fathomlaw3_of.f kj16 t210).bind fun bt234 => ((fathomlaw3_of.f kj16 t220).bind fun bt238 => ((fathomlaw3_plus.f kj16 bt234.1 bt234.2 bt238.1 bt238.2).bind fun bt242 => ((fathomlaw3_eqWhole.f kj16 bt230.1 bt230.2 bt242.1 bt242.2).bind fun t246 => (fathomlaw3_FloatErrors.j4 kj16 l0 x3_1 ((rd_T39 l0 x3_1).f0) ((rd_T39 l0 x3_1).f1) (!t246))))))))) else (fathomlaw3_FloatErrors.j4 kj16 l0 x3_1 ((rd_T39 l0 x3_1).f0) ((rd_T39 l0 x3_1).f1) true))))) = some r := H
                            have A22 := Aside0.mk A220
                            clear A220
                            replace H := Option.bind_eq_some_iff.mp H
                            obtain ⟨t219, A230, H⟩ := H
                            replace H : ((float_Add_uint64.f t218 t219).bind fun t220 => ((fathomlaw3_finite.f t220).bind fun t221 => (if t221 = true then ((fathomlaw3_of.f kj16 ((rd_T39 l0 x3_1).f0)).bind fun bt222 => ((fathomlaw3_of.f kj16 ((rd_T39 l0 x3_1).f1)).bind fun bt226 => ((fathomlaw3_plus.f kj16 bt222.1 bt222.2 bt226.1 bt226.2).bind fun bt230 => ((fathomlaw3_of.f kj16 t210).bind fun bt234 => ((fathomlaw3_of.f kj16 t220).bind fun bt238 => ((fathomlaw3_plus.f kj16 bt234.1 bt234.2 bt238.1 bt238.2).bind fun bt242 => ((fathomlaw3_eqWhole.f kj16 bt230.1 bt230.2 bt242.1 bt242.2).bind fun t246 => (fathomlaw3_FloatErrors.j4 kj16 l0 x3_1 ((rd_T39 l0 x3_1).f0) ((rd_T39 l0 x3_1).f1) (!t246))))))))) else (fathomlaw3_FloatErrors.j4 kj16 l0 x3_1 ((rd_T39 l0 x3_1).f0) ((rd_T39 l0 x3_1).f1) true)))) = some r := H
                            have A23 := Aside0.mk A230
                            clear A230
                            replace H := Option.bind_eq_some_iff.mp H
                            obtain ⟨t220, A240, H⟩ := H
                            replace H : ((fathomlaw3_finite.f t220).bind fun t221 => (if t221 = true then ((fathomlaw3_of.f kj16 ((rd_T39 l0 x3_1).f0)).bind fun bt222 => ((fathomlaw3_of.f kj16 ((rd_T39 l0 x3_1).f1)).bind fun bt226 => ((fathomlaw3_plus.f kj16 bt222.1 bt222.2 bt226.1 bt226.2).bind fun bt230 => ((fathomlaw3_of.f kj16 t210).bind fun bt234 => ((fathomlaw3_of.f kj16 t220).bind fun bt238 => ((fathomlaw3_plus.f kj16 bt234.1 bt234.2 bt238.1 bt238.2).bind fun bt242 => ((fathomlaw3_eqWhole.f kj16 bt230.1 bt230.2 bt242.1 bt242.2).bind fun t246 => (fathomlaw3_FloatErrors.j4 kj16 l0 x3_1 ((rd_T39 l0 x3_1).f0) ((rd_T39 l0 x3_1).f1) (!t246))))))))) else (fathomlaw3_FloatErrors.j4 kj16 l0 x3_1 ((rd_T39 l0 x3_1).f0) ((rd_T39 l0 x3_1).f1) true))) = some r := H
                            have A24 := Aside0.mk A240
                            clear A240
                            have HC25 := Aside0.mk H
                            clear H
                            go_upto_region 12 with (first | ((with_reducible refine gate_callee (f := 77) rfl ?_); refine goesL_ (some 66) rfl rfl Try.func77 (by kernel_rfl) rfl #[.int .u64 ((rd_T39 l0 x3_1).f0), .int .u64 t215] rfl (by (try simp only [List.map_toArray, List.map_cons, List.map_nil]); first | done | rfl | (simp only [List.length_drop, List.length_take]; rfl) | (simp only [gt_iff_lt, Int.natCast_pos]; rfl)) ?_; (with_reducible refine (float_Sub_uint64.calls ((rd_T39 l0 x3_1).f0) t215 t218 _ A22.out).mono ?_); rintro e w' ⟨rfl, ⟨nd, rfl⟩⟩; refine ⟨_, rfl, ?_⟩) | ((with_reducible refine gate_callee (f := 77) rfl ?_); refine goesL_ (some 69) rfl rfl Try.func77 (by kernel_rfl) rfl #[.int .u64 ((rd_T39 l0 x3_1).f1), .int .u64 t214] rfl (by (try simp only [List.map_toArray, List.map_cons, List.map_nil]); first | done | rfl | (simp only [List.length_drop, List.length_take]; rfl) | (simp only [gt_iff_lt, Int.natCast_pos]; rfl)) ?_; (with_reducible refine (float_Sub_uint64.calls ((rd_T39 l0 x3_1).f1) t214 t219 _ A23.out).mono ?_); rintro e w' ⟨rfl, ⟨nd, rfl⟩⟩; refine ⟨_, rfl, ?_⟩) | ((with_reducible refine gate_callee (f := 75) rfl ?_); refine goesL_ (some 70) rfl rfl Try.func75 (by kernel_rfl) rfl #[.int .u64 t218, .int .u64 t219] rfl (by (try simp only [List.map_toArray, List.map_cons, List.map_nil]); first | done | rfl | (simp only [List.length_drop, List.length_take]; rfl) | (simp only [gt_iff_lt, Int.natCast_pos]; rfl)) ?_; (with_reducible refine (float_Add_uint64.calls t218 t219 t220 _ A24.out).mono ?_); rintro e w' ⟨rfl, ⟨nd, rfl⟩⟩; refine ⟨_, rfl, ?_⟩))
                            (try simp only [Act.put, List.setIfInBounds_toArray, List.set_cons_zero, List.set_cons_succ])
                            go_cut [87] (fun v87 wc => ∃ (kq : Nat) (x87_24 : Bool), v87 = .bool x87_24 ∧ Aside0 (fathomlaw3_FloatErrors.j4 kq l0 x3_1 ((rd_T39 l0 x3_1).f0) ((rd_T39 l0 x3_1).f1) x87_24 = some r) ∧ Aside0 (kq ≤ kj16) ∧ Aside0 (Below w.heap.size w wc))
                            case first =>
                              have H := HC25.out
                              clear HC25
                              replace H := Option.bind_eq_some_iff.mp H
                              obtain ⟨t221, A260, H⟩ := H
                              replace H : (if t221 = true then ((fathomlaw3_of.f kj16 ((rd_T39 l0 x3_1).f0)).bind fun bt222 => ((fathomlaw3_of.f kj16 ((rd_T39 l0 x3_1).f1)).bind fun bt226 => ((fathomlaw3_plus.f kj16 bt222.1 bt222.2 bt226.1 bt226.2).bind fun bt230 => ((fathomlaw3_of.f kj16 t210).bind fun bt234 => ((fathomlaw3_of.f kj16 t220).bind fun bt238 => ((fathomlaw3_plus.f kj16 bt234.1 bt234.2 bt238.1 bt238.2).bind fun bt242 => ((fathomlaw3_eqWhole.f kj16 bt230.1 bt230.2 bt242.1 bt242.2).bind fun t246 => (fathomlaw3_FloatErrors.j4 kj16 l0 x3_1 ((rd_T39 l0 x3_1).f0) ((rd_T39 l0 x3_1).f1) (!t246))))))))) else (fathomlaw3_FloatErrors.j4 kj16 l0 x3_1 ((rd_T39 l0 x3_1).f0) ((rd_T39 l0 x3_1).f1) true)) = some r := H
                              have A26 := Aside0.mk A260
                              clear A260
                              by_cases c27 : t221 = true
                              · subst c27
                                have H1 : ((fathomlaw3_of.f kj16 ((rd_T39 l0 x3_1).f0)).bind fun bt222 => ((fathomlaw3_of.f kj16 ((rd_T39 l0 x3_1).f1)).bind fun bt226 => ((fathomlaw3_plus.f kj16 bt222.1 bt222.2 bt226.1 bt226.2).bind fun bt230 => ((fathomlaw3_of.f kj16 t210).bind fun bt234 => ((fathomlaw3_of.f kj16 t220).bind fun bt238 => ((fathomlaw3_plus.f kj16 bt234.1 bt234.2 bt238.1 bt238.2).bind fun bt242 => ((fathomlaw3_eqWhole.f kj16 bt230.1 bt230.2 bt242.1 bt242.2).bind fun t246 => (fathomlaw3_FloatErrors.j4 kj16 l0 x3_1 ((rd_T39 l0 x3_1).f0) ((rd_T39 l0 x3_1).f1) (!t246))))))))) = some r := by rw [if_pos rfl] at H; exact H
                                clear H
                                have H := H1
                                clear H1
                                replace H := Option.bind_eq_some_iff.mp H
                                obtain ⟨⟨t222, t223⟩, A280, H⟩ := H
                                replace H : ((fathomlaw3_of.f kj16 ((rd_T39 l0 x3_1).f1)).bind fun bt226 => ((fathomlaw3_plus.f kj16 t222 t223 bt226.1 bt226.2).bind fun bt230 => ((fathomlaw3_of.f kj16 t210).bind fun bt234 => ((fathomlaw3_of.f kj16 t220).bind fun bt238 => ((fathomlaw3_plus.f kj16 bt234.1 bt234.2 bt238.1 bt238.2).bind fun bt242 => ((fathomlaw3_eqWhole.f kj16 bt230.1 bt230.2 bt242.1 bt242.2).bind fun t246 => (fathomlaw3_FloatErrors.j4 kj16 l0 x3_1 ((rd_T39 l0 x3_1).f0) ((rd_T39 l0 x3_1).f1) (!t246)))))))) = some r := H
                                have A28 := Aside0.mk A280
                                clear A280
                                replace H := Option.bind_eq_some_iff.mp H
                                obtain ⟨⟨t226, t227⟩, A290, H⟩ := H
                                replace H : ((fathomlaw3_plus.f kj16 t222 t223 t226 t227).bind fun bt230 => ((fathomlaw3_of.f kj16 t210).bind fun bt234 => ((fathomlaw3_of.f kj16 t220).bind fun bt238 => ((fathomlaw3_plus.f kj16 bt234.1 bt234.2 bt238.1 bt238.2).bind fun bt242 => ((fathomlaw3_eqWhole.f kj16 bt230.1 bt230.2 bt242.1 bt242.2).bind fun t246 => (fathomlaw3_FloatErrors.j4 kj16 l0 x3_1 ((rd_T39 l0 x3_1).f0) ((rd_T39 l0 x3_1).f1) (!t246))))))) = some r := H
                                have A29 := Aside0.mk A290
                                clear A290
                                replace H := Option.bind_eq_some_iff.mp H
                                obtain ⟨⟨t230, t231⟩, A300, H⟩ := H
                                replace H : ((fathomlaw3_of.f kj16 t210).bind fun bt234 => ((fathomlaw3_of.f kj16 t220).bind fun bt238 => ((fathomlaw3_plus.f kj16 bt234.1 bt234.2 bt238.1 bt238.2).bind fun bt242 => ((fathomlaw3_eqWhole.f kj16 t230 t231 bt242.1 bt242.2).bind fun t246 => (fathomlaw3_FloatErrors.j4 kj16 l0 x3_1 ((rd_T39 l0 x3_1).f0) ((rd_T39 l0 x3_1).f1) (!t246)))))) = some r := H
                                have A30 := Aside0.mk A300
                                clear A300
                                replace H := Option.bind_eq_some_iff.mp H
                                obtain ⟨⟨t234, t235⟩, A310, H⟩ := H
                                replace H : ((fathomlaw3_of.f kj16 t220).bind fun bt238 => ((fathomlaw3_plus.f kj16 t234 t235 bt238.1 bt238.2).bind fun bt242 => ((fathomlaw3_eqWhole.f kj16 t230 t231 bt242.1 bt242.2).bind fun t246 => (fathomlaw3_FloatErrors.j4 kj16 l0 x3_1 ((rd_T39 l0 x3_1).f0) ((rd_T39 l0 x3_1).f1) (!t246))))) = some r := H
                                have A31 := Aside0.mk A310
                                clear A310
                                replace H := Option.bind_eq_some_iff.mp H
                                obtain ⟨⟨t238, t239⟩, A320, H⟩ := H
                                replace H : ((fathomlaw3_plus.f kj16 t234 t235 t238 t239).bind fun bt242 => ((fathomlaw3_eqWhole.f kj16 t230 t231 bt242.1 bt242.2).bind fun t246 => (fathomlaw3_FloatErrors.j4 kj16 l0 x3_1 ((rd_T39 l0 x3_1).f0) ((rd_T39 l0 x3_1).f1) (!t246)))) = some r := H
                                have A32 := Aside0.mk A320
                                clear A320
                                replace H := Option.bind_eq_some_iff.mp H
                                obtain ⟨⟨t242, t243⟩, A330, H⟩ := H
                                replace H : ((fathomlaw3_eqWhole.f kj16 t230 t231 t242 t243).bind fun t246 => (fathomlaw3_FloatErrors.j4 kj16 l0 x3_1 ((rd_T39 l0 x3_1).f0) ((rd_T39 l0 x3_1).f1) (!t246))) = some r := H
                                have A33 := Aside0.mk A330
                                clear A330
                                replace H := Option.bind_eq_some_iff.mp H
                                obtain ⟨t246, A340, H⟩ := H
                                replace H : (fathomlaw3_FloatErrors.j4 kj16 l0 x3_1 ((rd_T39 l0 x3_1).f0) ((rd_T39 l0 x3_1).f1) (!t246)) = some r := H
                                have A34 := Aside0.mk A340
                                clear A340
                                have H' := Aside0.mk H
                                clear H
                                go_wp2_with (first | ((with_reducible refine gate_callee (f := 16) rfl ?_); refine goesL_ (some 72) rfl rfl Try.func16 (by kernel_rfl) rfl #[.int .u64 t220] rfl (by (try simp only [List.map_toArray, List.map_cons, List.map_nil]); first | done | rfl | (simp only [List.length_drop, List.length_take]; rfl) | (simp only [gt_iff_lt, Int.natCast_pos]; rfl)) ?_; (with_reducible refine (fathomlaw3_finite.calls t220 true _ A26.out).mono ?_); rintro e w' ⟨rfl, ⟨nd, rfl⟩⟩; refine ⟨_, rfl, ?_⟩) | (go_at_call 80; (with_reducible refine (fathomlaw3_of.calls kj16 ((rd_T39 l0 x3_1).f0) t222 t223 _ A28.out).mono ?_); rintro e w35 ⟨v224, rfl, ho0, hb⟩; have n0_ := Aside0.mk (Kd.R_lower ho0 (below_size (by repeat (first | (with_reducible first | exact HB.out | apply below_alloc | apply pw_below_drewN | apply below_drew1) | exact HB.out)))); have n1_ := Aside0.mk (below_step (by repeat (first | (with_reducible first | exact HB.out | apply below_alloc | apply pw_below_drewN | apply below_drew1) | exact HB.out)) hb); clear HB; have HO225 := n0_; have HB := n1_; clear n0_ n1_; (try clear hb); (try clear hb2); (try clear hk); (try clear hi); (try clear ho0)) | (go_at_call 80; (with_reducible refine (fathomlaw3_of.calls kj16 ((rd_T39 l0 x3_1).f1) t226 t227 _ A29.out).mono ?_); rintro e w36 ⟨v228, rfl, ho0, hb⟩; have n0_ := Aside0.mk (Kd.R_elder' (by (with_reducible repeat (first | apply Kd.R_alloc | apply Kd.R_drewN | apply Kd.R_drew)); exact HO225.out) (Kd.R_base ho0) hb); have n1_ := Aside0.mk (Kd.R_lower (Kd.R_new' ho0 (Kd.R_lt (by (with_reducible repeat (first | apply Kd.R_alloc | apply Kd.R_drewN | apply Kd.R_drew)); exact HO225.out))) (below_size (by repeat (first | (with_reducible first | exact HB.out | apply below_alloc | apply pw_below_drewN | apply below_drew1) | exact HB.out)))); have n2_ := Aside0.mk (below_step (by repeat (first | (with_reducible first | exact HB.out | apply below_alloc | apply pw_below_drewN | apply below_drew1) | exact HB.out)) hb); clear HO225; clear HB; have HO225 := n0_; have HO229 := n1_; have HB := n2_; clear n0_ n1_ n2_; (try clear hb); (try clear hb2); (try clear hk); (try clear hi); (try clear ho0); obtain ⟨Ao37, co37, eo37⟩ := Kd.R_slice HO225.out; subst eo37; obtain ⟨Ao38, co38, eo38⟩ := Kd.R_slice HO229.out; subst eo38) | (go_at_call 79; (with_reducible refine (fathomlaw3_plus.calls kj16 t222 _ _ t223 t226 _ _ t227 t230 t231 _ ?side1 ?side2 ?side3 ?side4 A30.out).mono ?_); (case side1 => repeat (first | exact (Kd.R_reads' HO225.out).2.2 | (with_reducible refine Kd.C_alloc ?_ _) | (with_reducible refine Kd.C_drewN ?_ _) | (with_reducible refine Kd.C_drew ?_))); (case side2 => exact (Kd.R_reads' HO225.out).2.1); (case side3 => repeat (first | exact (Kd.R_reads' HO229.out).2.2 | (with_reducible refine Kd.C_alloc ?_ _) | (with_reducible refine Kd.C_drewN ?_ _) | (with_reducible refine Kd.C_drew ?_))); (case side4 => exact (Kd.R_reads' HO229.out).2.1); rintro e w39 ⟨v232, rfl, ho0, hb⟩; have n0_ := Aside0.mk (Kd.R_elder' (by (with_reducible repeat (first | apply Kd.R_alloc | apply Kd.R_drewN | apply Kd.R_drew)); exact HO225.out) (Kd.R_base ho0) hb); have n1_ := Aside0.mk (Kd.R_elder' (by (with_reducible repeat (first | apply Kd.R_alloc | apply Kd.R_drewN | apply Kd.R_drew)); exact HO229.out) (Kd.R_base ho0) hb); have n2_ := Aside0.mk (Kd.R_lower (Kd.R_new' (Kd.R_new' ho0 (Kd.R_lt (by (with_reducible repeat (first | apply Kd.R_alloc | apply Kd.R_drewN | apply Kd.R_drew)); exact HO225.out))) (Kd.R_lt (by (with_reducible repeat (first | apply Kd.R_alloc | apply Kd.R_drewN | apply Kd.R_drew)); exact HO229.out))) (below_size (by repeat (first | (with_reducible first | exact HB.out | apply below_alloc | apply pw_below_drewN | apply below_drew1) | exact HB.out)))); have n3_ := Aside0.mk (below_step (by repeat (first | (with_reducible first | exact HB.out | apply below_alloc | apply pw_below_drewN | apply below_drew1) | exact HB.out)) hb); clear HO225; clear HO229; clear HB; have HO225 := n0_; have HO229 := n1_; have HO233 := n2_; have HB := n3_; clear n0_ n1_ n2_ n3_; (try clear hb); (try clear hb2); (try clear hk); (try clear hi); (try clear ho0)) | (go_at_call 80; (with_reducible refine (fathomlaw3_of.calls kj16 t210 t234 t235 _ A31.out).mono ?_); rintro e w40 ⟨v236, rfl, ho0, hb⟩; have n0_ := Aside0.mk (Kd.R_elder' (by (with_reducible repeat (first | apply Kd.R_alloc | apply Kd.R_drewN | apply Kd.R_drew)); exact HO225.out) (Kd.R_base ho0) hb); have n1_ := Aside0.mk (Kd.R_elder' (by (with_reducible repeat (first | apply Kd.R_alloc | apply Kd.R_drewN | apply Kd.R_drew)); exact HO229.out) (Kd.R_base ho0) hb); have n2_ := Aside0.mk (Kd.R_elder' (by (with_reducible repeat (first | apply Kd.R_alloc | apply Kd.R_drewN | apply Kd.R_drew)); exact HO233.out) (Kd.R_base ho0) hb); have n3_ := Aside0.mk (Kd.R_lower (Kd.R_new' (Kd.R_new' (Kd.R_new' ho0 (Kd.R_lt (by (with_reducible repeat (first | apply Kd.R_alloc | apply Kd.R_drewN | apply Kd.R_drew)); exact HO225.out))) (Kd.R_lt (by (with_reducible repeat (first | apply Kd.R_alloc | apply Kd.R_drewN | apply Kd.R_drew)); exact HO229.out))) (Kd.R_lt (by (with_reducible repeat (first | apply Kd.R_alloc | apply Kd.R_drewN | apply Kd.R_drew)); exact HO233.out))) (below_size (by repeat (first | (with_reducible first | exact HB.out | apply below_alloc | apply pw_below_drewN | apply below_drew1) | exact HB.out)))); have n4_ := Aside0.mk (below_step (by repeat (first | (with_reducible first | exact HB.out | apply below_alloc | apply pw_below_drewN | apply below_drew1) | exact HB.out)) hb); clear HO225; clear HO229; clear HO233; clear HB; have HO225 := n0_; have HO229 := n1_; have HO233 := n2_; have HO237 := n3_; have HB := n4_; clear n0_ n1_ n2_ n3_ n4_; (try clear hb); (try clear hb2); (try clear hk); (try clear hi); (try clear ho0)) | (go_at_call 80; (with_reducible refine (fathomlaw3_of.calls kj16 t220 t238 t239 _ A32.out).mono ?_); rintro e w41 ⟨v240, rfl, ho0, hb⟩; have n0_ := Aside0.mk (Kd.R_elder' (by (with_reducible repeat (first | apply Kd.R_alloc | apply Kd.R_drewN | apply Kd.R_drew)); exact HO225.out) (Kd.R_base ho0) hb); have n1_ := Aside0.mk (Kd.R_elder' (by (with_reducible repeat (first | apply Kd.R_alloc | apply Kd.R_drewN | apply Kd.R_drew)); exact HO229.out) (Kd.R_base ho0) hb); have n2_ := Aside0.mk (Kd.R_elder' (by (with_reducible repeat (first | apply Kd.R_alloc | apply Kd.R_drewN | apply Kd.R_drew)); exact HO233.out) (Kd.R_base ho0) hb); have n3_ := Aside0.mk (Kd.R_elder' (by (with_reducible repeat (first | apply Kd.R_alloc | apply Kd.R_drewN | apply Kd.R_drew)); exact HO237.out) (Kd.R_base ho0) hb); have n4_ := Aside0.mk (Kd.R_lower (Kd.R_new' (Kd.R_new' (Kd.R_new' (Kd.R_new' ho0 (Kd.R_lt (by (with_reducible repeat (first | apply Kd.R_alloc | apply Kd.R_drewN | apply Kd.R_drew)); exact HO225.out))) (Kd.R_lt (by (with_reducible repeat (first | apply Kd.R_alloc | apply Kd.R_drewN | apply Kd.R_drew)); exact HO229.out))) (Kd.R_lt (by (with_reducible repeat (first | apply Kd.R_alloc | apply Kd.R_drewN | apply Kd.R_drew)); exact HO233.out))) (Kd.R_lt (by (with_reducible repeat (first | apply Kd.R_alloc | apply Kd.R_drewN | apply Kd.R_drew)); exact HO237.out))) (below_size (by repeat (first | (with_reducible first | exact HB.out | apply below_alloc | apply pw_below_drewN | apply below_drew1) | exact HB.out)))); have n5_ := Aside0.mk (below_step (by repeat (first | (with_reducible first | exact HB.out | apply below_alloc | apply pw_below_drewN | apply below_drew1) | exact HB.out)) hb); clear HO225; clear HO229; clear HO233; clear HO237; clear HB; have HO225 := n0_; have HO229 := n1_; have HO233 := n2_; have HO237 := n3_; have HO241 := n4_; have HB := n5_; clear n0_ n1_ n2_ n3_ n4_ n5_; (try clear hb); (try clear hb2); (try clear hk); (try clear hi); (try clear ho0); obtain ⟨Ao42, co42, eo42⟩ := Kd.R_slice HO237.out; subst eo42; obtain ⟨Ao43, co43, eo43⟩ := Kd.R_slice HO241.out; subst eo43) | (go_at_call 79; (with_reducible refine (fathomlaw3_plus.calls kj16 t234 _ _ t235 t238 _ _ t239 t242 t243 _ ?side1 ?side2 ?side3 ?side4 A33.out).mono ?_); (case side1 => repeat (first | exact (Kd.R_reads' HO237.out).2.2 | (with_reducible refine Kd.C_alloc ?_ _) | (with_reducible refine Kd.C_drewN ?_ _) | (with_reducible refine Kd.C_drew ?_))); (case side2 => exact (Kd.R_reads' HO237.out).2.1); (case side3 => repeat (first | exact (Kd.R_reads' HO241.out).2.2 | (with_reducible refine Kd.C_alloc ?_ _) | (with_reducible refine Kd.C_drewN ?_ _) | (with_reducible refine Kd.C_drew ?_))); (case side4 => exact (Kd.R_reads' HO241.out).2.1); rintro e w44 ⟨v244, rfl, ho0, hb⟩; have n0_ := Aside0.mk (Kd.R_elder' (by (with_reducible repeat (first | apply Kd.R_alloc | apply Kd.R_drewN | apply Kd.R_drew)); exact HO225.out) (Kd.R_base ho0) hb); have n1_ := Aside0.mk (Kd.R_elder' (by (with_reducible repeat (first | apply Kd.R_alloc | apply Kd.R_drewN | apply Kd.R_drew)); exact HO229.out) (Kd.R_base ho0) hb); have n2_ := Aside0.mk (Kd.R_elder' (by (with_reducible repeat (first | apply Kd.R_alloc | apply Kd.R_drewN | apply Kd.R_drew)); exact HO233.out) (Kd.R_base ho0) hb); have n3_ := Aside0.mk (Kd.R_elder' (by (with_reducible repeat (first | apply Kd.R_alloc | apply Kd.R_drewN | apply Kd.R_drew)); exact HO237.out) (Kd.R_base ho0) hb); have n4_ := Aside0.mk (Kd.R_elder' (by (with_reducible repeat (first | apply Kd.R_alloc | apply Kd.R_drewN | apply Kd.R_drew)); exact HO241.out) (Kd.R_base ho0) hb); have n5_ := Aside0.mk (Kd.R_lower (Kd.R_new' (Kd.R_new' (Kd.R_new' (Kd.R_new' (Kd.R_new' ho0 (Kd.R_lt (by (with_reducible repeat (first | apply Kd.R_alloc | apply Kd.R_drewN | apply Kd.R_drew)); exact HO225.out))) (Kd.R_lt (by (with_reducible repeat (first | apply Kd.R_alloc | apply Kd.R_drewN | apply Kd.R_drew)); exact HO229.out))) (Kd.R_lt (by (with_reducible repeat (first | apply Kd.R_alloc | apply Kd.R_drewN | apply Kd.R_drew)); exact HO233.out))) (Kd.R_lt (by (with_reducible repeat (first | apply Kd.R_alloc | apply Kd.R_drewN | apply Kd.R_drew)); exact HO237.out))) (Kd.R_lt (by (with_reducible repeat (first | apply Kd.R_alloc | apply Kd.R_drewN | apply Kd.R_drew)); exact HO241.out))) (below_size (by repeat (first | (with_reducible first | exact HB.out | apply below_alloc | apply pw_below_drewN | apply below_drew1) | exact HB.out)))); have n6_ := Aside0.mk (below_step (by repeat (first | (with_reducible first | exact HB.out | apply below_alloc | apply pw_below_drewN | apply below_drew1) | exact HB.out)) hb); clear HO225; clear HO229; clear HO233; clear HO237; clear HO241; clear HB; have HO225 := n0_; have HO229 := n1_; have HO233 := n2_; have HO237 := n3_; have HO241 := n4_; have HO245 := n5_; have HB := n6_; clear n0_ n1_ n2_ n3_ n4_ n5_ n6_; (try clear hb); (try clear hb2); (try clear hk); (try clear hi); (try clear ho0); obtain ⟨Ao45, co45, eo45⟩ := Kd.R_slice HO233.out; subst eo45; obtain ⟨Ao46, co46, eo46⟩ := Kd.R_slice HO245.out; subst eo46) | (go_at_call 78; (with_reducible refine (fathomlaw3_eqWhole.calls kj16 t230 _ _ t231 t242 _ _ t243 t246 _ ?side1 ?side2 ?side3 ?side4 A34.out).mono ?_); (case side1 => repeat (first | exact (Kd.R_reads' HO233.out).2.2 | (with_reducible refine Kd.C_alloc ?_ _) | (with_reducible refine Kd.C_drewN ?_ _) | (with_reducible refine Kd.C_drew ?_))); (case side2 => exact (Kd.R_reads' HO233.out).2.1); (case side3 => repeat (first | exact (Kd.R_reads' HO245.out).2.2 | (with_reducible refine Kd.C_alloc ?_ _) | (with_reducible refine Kd.C_drewN ?_ _) | (with_reducible refine Kd.C_drew ?_))); (case side4 => exact (Kd.R_reads' HO245.out).2.1); rintro e w47 ⟨rfl, hb⟩; have n0_ := Aside0.mk (Kd.R_below (by (with_reducible repeat (first | apply Kd.R_alloc | apply Kd.R_drewN | apply Kd.R_drew)); exact HO225.out) hb); have n1_ := Aside0.mk (Kd.R_below (by (with_reducible repeat (first | apply Kd.R_alloc | apply Kd.R_drewN | apply Kd.R_drew)); exact HO229.out) hb); have n2_ := Aside0.mk (Kd.R_below (by (with_reducible repeat (first | apply Kd.R_alloc | apply Kd.R_drewN | apply Kd.R_drew)); exact HO233.out) hb); have n3_ := Aside0.mk (Kd.R_below (by (with_reducible repeat (first | apply Kd.R_alloc | apply Kd.R_drewN | apply Kd.R_drew)); exact HO237.out) hb); have n4_ := Aside0.mk (Kd.R_below (by (with_reducible repeat (first | apply Kd.R_alloc | apply Kd.R_drewN | apply Kd.R_drew)); exact HO241.out) hb); have n5_ := Aside0.mk (Kd.R_below (by (with_reducible repeat (first | apply Kd.R_alloc | apply Kd.R_drewN | apply Kd.R_drew)); exact HO245.out) hb); have n6_ := Aside0.mk (below_step (by repeat (first | (with_reducible first | exact HB.out | apply below_alloc | apply pw_below_drewN | apply below_drew1) | exact HB.out)) hb); clear HO225; clear HO229; clear HO233; clear HO237; clear HO241; clear HO245; clear HB; have HO225 := n0_; have HO229 := n1_; have HO233 := n2_; have HO237 := n3_; have HO241 := n4_; have HO245 := n5_; have HB := n6_; clear n0_ n1_ n2_ n3_ n4_ n5_ n6_; (try clear hb); (try clear hb2); (try clear hk); (try clear hi)))
                                go_meet
                                case rel => exact ⟨_, (!t246), (by first | rfl | (simp; done) | (simp [*]; done)), H', ⟨by have := HK1.out; have := HJ1.out; have := HJ7.out; have := HJ16.out; first | omega | exact Nat.le_refl _⟩, ⟨by repeat (first | (with_reducible first | exact HB.out | apply below_alloc | apply pw_below_drewN | apply below_drew1) | exact HB.out)⟩⟩
                              · replace c27 := Bool.eq_false_iff.mpr c27
                                subst c27
                                have H1 : (fathomlaw3_FloatErrors.j4 kj16 l0 x3_1 ((rd_T39 l0 x3_1).f0) ((rd_T39 l0 x3_1).f1) true) = some r := by rw [if_neg (show ¬ (false = true) by decide)] at H; exact H
                                clear H
                                have H := H1
                                clear H1
                                have H' := Aside0.mk H
                                clear H
                                go_wp2_with (first | ((with_reducible refine gate_callee (f := 16) rfl ?_); refine goesL_ (some 72) rfl rfl Try.func16 (by kernel_rfl) rfl #[.int .u64 t220] rfl (by (try simp only [List.map_toArray, List.map_cons, List.map_nil]); first | done | rfl | (simp only [List.length_drop, List.length_take]; rfl) | (simp only [gt_iff_lt, Int.natCast_pos]; rfl)) ?_; (with_reducible refine (fathomlaw3_finite.calls t220 false _ A26.out).mono ?_); rintro e w' ⟨rfl, ⟨nd, rfl⟩⟩; refine ⟨_, rfl, ?_⟩))
                                go_meet
                                case rel => exact ⟨_, (true), (by first | rfl | (simp; done) | (simp [*]; done)), H', ⟨by have := HK1.out; have := HJ1.out; have := HJ7.out; have := HJ16.out; first | omega | exact Nat.le_refl _⟩, ⟨by repeat (first | (with_reducible first | exact HB.out | apply below_alloc | apply pw_below_drewN | apply below_drew1) | exact HB.out)⟩⟩
                            case rest =>
                              clear HC25
                              try clear c1
                              try clear c2
                              try clear p2
                              try clear q2
                              try clear hx2
                              try clear c3
                              try clear c3b0
                              try clear c4
                              try clear c5
                              try clear c5b0
                              try clear c6
                              try clear c6b0
                              try clear p6
                              try clear c7
                              try clear c10
                              try clear c12
                              try clear c13
                              try clear c14
                              try clear c16
                              try clear c19
                              try clear p20
                              try clear q20
                              try clear hx20
                              try clear c21
                              try clear c27
                              try clear hx208_0
                              try clear hx208_1
                              try clear hx209_0
                              try clear hx209_1
                              try clear p2
                              try clear p20
                              try clear p208
                              try clear p209
                              try clear p6
                              try clear q2
                              try clear q20
                              try clear q208
                              try clear q209
                              obtain ⟨kq, x87_24, rfl, HA, HJ24, HB⟩ := hcut
                              cases kq with
                              | zero => exact absurd HA.out (by simp [fathomlaw3_FloatErrors.j4])
                              | succ kj24 =>
                                have H := HA.out
                                clear HA
                                simp only [fathomlaw3_FloatErrors.j4] at H
                                by_cases c48 : x87_24 = true
                                · subst c48
                                  have H1 : (some false) = some r := by rw [if_pos rfl] at H; exact H
                                  clear H
                                  have H := H1
                                  clear H1
                                  obtain rfl := Option.some.inj H
                                  go_wp2
                                  go_ret
                                  exact ⟨by first | rfl | (simp [errW_none, errW_some] <;> rfl) | (simp [*, errW_none, errW_some] <;> rfl), by repeat (first | (with_reducible first | exact HB.out | apply below_alloc | apply pw_below_drewN | apply below_drew1) | exact HB.out)⟩
                                · replace c48 := Bool.eq_false_iff.mpr c48
                                  subst c48
                                  have H1 : ((float_Mul_uint64.f ((rd_T39 l0 x3_1).f0) ((rd_T39 l0 x3_1).f1)).bind fun t247 => ((fathomlaw3_finite.f t247).bind fun t248 => (if t248 = true then (fathomlaw3_FloatErrors.j5 kj24 l0 x3_1 ((rd_T39 l0 x3_1).f0) ((rd_T39 l0 x3_1).f1) t247 (decide ((Go.bits .andNot .u64 t247 9223372036854775808) < 288230376151711744))) else (fathomlaw3_FloatErrors.j5 kj24 l0 x3_1 ((rd_T39 l0 x3_1).f0) ((rd_T39 l0 x3_1).f1) t247 true)))) = some r := by rw [if_neg (show ¬ (false = true) by decide)] at H; exact H
                                  clear H
                                  have H := H1
                                  clear H1
                                  replace H := Option.bind_eq_some_iff.mp H
                                  obtain ⟨t247, A490, H⟩ := H
                                  replace H : ((fathomlaw3_finite.f t247).bind fun t248 => (if t248 = true then (fathomlaw3_FloatErrors.j5 kj24 l0 x3_1 ((rd_T39 l0 x3_1).f0) ((rd_T39 l0 x3_1).f1) t247 (decide ((Go.bits .andNot .u64 t247 9223372036854775808) < 288230376151711744))) else (fathomlaw3_FloatErrors.j5 kj24 l0 x3_1 ((rd_T39 l0 x3_1).f0) ((rd_T39 l0 x3_1).f1) t247 true))) = some r := H
                                  have A49 := Aside0.mk A490
                                  clear A490
                                  have HC50 := Aside0.mk H
                                  clear H
                                  go_upto_region 15 with (first | ((with_reducible refine gate_callee (f := 76) rfl ?_); refine goesL_ (some 90) rfl rfl Try.func76 (by kernel_rfl) rfl #[.int .u64 ((rd_T39 l0 x3_1).f0), .int .u64 ((rd_T39 l0 x3_1).f1)] rfl (by (try simp only [List.map_toArray, List.map_cons, List.map_nil]); first | done | rfl | (simp only [List.length_drop, List.length_take]; rfl) | (simp only [gt_iff_lt, Int.natCast_pos]; rfl)) ?_; (with_reducible refine (float_Mul_uint64.calls ((rd_T39 l0 x3_1).f0) ((rd_T39 l0 x3_1).f1) t247 _ A49.out).mono ?_); rintro e w' ⟨rfl, ⟨nd, rfl⟩⟩; refine ⟨_, rfl, ?_⟩))
                                  (try simp only [Act.put, List.setIfInBounds_toArray, List.set_cons_zero, List.set_cons_succ])
                                  go_cut [98] (fun v98 wc => ∃ (kq : Nat) (x98_49 : Bool), v98 = .bool x98_49 ∧ Aside0 (fathomlaw3_FloatErrors.j5 kq l0 x3_1 ((rd_T39 l0 x3_1).f0) ((rd_T39 l0 x3_1).f1) t247 x98_49 = some r) ∧ Aside0 (kq ≤ kj24) ∧ Aside0 (Below w.heap.size w wc))
                                  case first =>
                                    have H := HC50.out
                                    clear HC50
                                    replace H := Option.bind_eq_some_iff.mp H
                                    obtain ⟨t248, A510, H⟩ := H
                                    replace H : (if t248 = true then (fathomlaw3_FloatErrors.j5 kj24 l0 x3_1 ((rd_T39 l0 x3_1).f0) ((rd_T39 l0 x3_1).f1) t247 (decide ((Go.bits .andNot .u64 t247 9223372036854775808) < 288230376151711744))) else (fathomlaw3_FloatErrors.j5 kj24 l0 x3_1 ((rd_T39 l0 x3_1).f0) ((rd_T39 l0 x3_1).f1) t247 true)) = some r := H
                                    have A51 := Aside0.mk A510
                                    clear A510
                                    by_cases c52 : t248 = true
                                    · subst c52
                                      have H1 : (fathomlaw3_FloatErrors.j5 kj24 l0 x3_1 ((rd_T39 l0 x3_1).f0) ((rd_T39 l0 x3_1).f1) t247 (decide ((Go.bits .andNot .u64 t247 9223372036854775808) < 288230376151711744))) = some r := by rw [if_pos rfl] at H; exact H
                                      clear H
                                      have H := H1
                                      clear H1
                                      have H' := Aside0.mk H
                                      clear H
                                      go_wp2_with (first | ((with_reducible refine gate_callee (f := 16) rfl ?_); refine goesL_ (some 92) rfl rfl Try.func16 (by kernel_rfl) rfl #[.int .u64 t247] rfl (by (try simp only [List.map_toArray, List.map_cons, List.map_nil]); first | done | rfl | (simp only [List.length_drop, List.length_take]; rfl) | (simp only [gt_iff_lt, Int.natCast_pos]; rfl)) ?_; (with_reducible refine (fathomlaw3_finite.calls t247 true _ A51.out).mono ?_); rintro e w' ⟨rfl, ⟨nd, rfl⟩⟩; refine ⟨_, rfl, ?_⟩))
                                      go_meet
                                      case rel => exact ⟨_, (decide ((Go.bits .andNot .u64 t247 9223372036854775808) < 288230376151711744)), (by first | rfl | (simp; done) | (simp [*]; done)), H', ⟨by have := HK1.out; have := HJ1.out; have := HJ7.out; have := HJ16.out; have := HJ24.out; first | omega | exact Nat.le_refl _⟩, ⟨by repeat (first | (with_reducible first | exact HB.out | apply below_alloc | apply pw_below_drewN | apply below_drew1) | exact HB.out)⟩⟩
                                    · replace c52 := Bool.eq_false_iff.mpr c52
                                      subst c52
                                      have H1 : (fathomlaw3_FloatErrors.j5 kj24 l0 x3_1 ((rd_T39 l0 x3_1).f0) ((rd_T39 l0 x3_1).f1) t247 true) = some r := by rw [if_neg (show ¬ (false = true) by decide)] at H; exact H
                                      clear H
                                      have H := H1
                                      clear H1
                                      have H' := Aside0.mk H
                                      clear H
                                      go_wp2_with (first | ((with_reducible refine gate_callee (f := 16) rfl ?_); refine goesL_ (some 92) rfl rfl Try.func16 (by kernel_rfl) rfl #[.int .u64 t247] rfl (by (try simp only [List.map_toArray, List.map_cons, List.map_nil]); first | done | rfl | (simp only [List.length_drop, List.length_take]; rfl) | (simp only [gt_iff_lt, Int.natCast_pos]; rfl)) ?_; (with_reducible refine (fathomlaw3_finite.calls t247 false _ A51.out).mono ?_); rintro e w' ⟨rfl, ⟨nd, rfl⟩⟩; refine ⟨_, rfl, ?_⟩))
                                      go_meet
                                      case rel => exact ⟨_, (true), (by first | rfl | (simp; done) | (simp [*]; done)), H', ⟨by have := HK1.out; have := HJ1.out; have := HJ7.out; have := HJ16.out; have := HJ24.out; first | omega | exact Nat.le_refl _⟩, ⟨by repeat (first | (with_reducible first | exact HB.out | apply below_alloc | apply pw_below_drewN | apply below_drew1) | exact HB.out)⟩⟩
                                  case rest =>
                                    clear HC50
                                    try clear c1
                                    try clear c2
                                    try clear p2
                                    try clear q2
                                    try clear hx2
                                    try clear c3
                                    try clear c3b0
                                    try clear c4
                                    try clear c5
                                    try clear c5b0
                                    try clear c6
                                    try clear c6b0
                                    try clear p6
                                    try clear c7
                                    try clear c10
                                    try clear c12
                                    try clear c13
                                    try clear c14
                                    try clear c16
                                    try clear c19
                                    try clear p20
                                    try clear q20
                                    try clear hx20
                                    try clear c21
                                    try clear c27
                                    try clear c48
                                    try clear c52
                                    try clear hx208_0
                                    try clear hx208_1
                                    try clear hx209_0
                                    try clear hx209_1
                                    try clear p2
                                    try clear p20
                                    try clear p208
                                    try clear p209
                                    try clear p6
                                    try clear q2
                                    try clear q20
                                    try clear q208
                                    try clear q209
                                    obtain ⟨kq, x98_49, rfl, HA, HJ49, HB⟩ := hcut
                                    cases kq with
                                    | zero => exact absurd HA.out (by simp [fathomlaw3_FloatErrors.j5])
                                    | succ kj49 =>
                                      have H := HA.out
                                      clear HA
                                      simp only [fathomlaw3_FloatErrors.j5] at H
                                      by_cases c53 : x98_49 = true
                                      · subst c53
                                        have H1 : (fathomlaw3_FloatErrors.l0 kj49 l0 (wrap64 (x3_1 + 1))) = some r := by rw [if_pos rfl] at H; exact H
                                        clear H
                                        have H := H1
                                        clear H1
                                        have H' := Aside0.mk H
                                        clear H
                                        go_wp2
                                        go_roundg kj49
                                        case measure => have := HK1.out; have := HJ1.out; have := HJ7.out; have := HJ16.out; have := HJ24.out; have := HJ49.out; omega
                                        case rel => exact ⟨(wrap64 (x3_1 + 1)), (by first | rfl | (simp; done) | (simp [*]; done)), H', ⟨by have := HK1.out; have := HJ1.out; have := HJ7.out; have := HJ16.out; have := HJ24.out; have := HJ49.out; omega⟩, ⟨by repeat (first | (with_reducible first | exact HB.out | apply below_alloc | apply pw_below_drewN | apply below_drew1) | exact HB.out)⟩⟩
                                      · replace c53 := Bool.eq_false_iff.mpr c53
                                        subst c53
                                        have H1 : ((float_Fma.f ((rd_T39 l0 x3_1).f0) ((rd_T39 l0 x3_1).f1) (Go.bits .xor .u64 t247 9223372036854775808)).bind fun t249 => ((fathomlaw3_units.f kj49 ((rd_T39 l0 x3_1).f0)).bind fun t250 => ((fathomlaw3_units.f kj49 ((rd_T39 l0 x3_1).f1)).bind fun t253 => ((fathomref3_Times.f kj49 t250 t253).bind fun t256 => ((fathomlaw3_of.f kj49 t247).bind fun bt259 => ((fathomlaw3_of.f kj49 t249).bind fun bt263 => ((fathomlaw3_plus.f kj49 bt259.1 bt259.2 bt263.1 bt263.2).bind fun bt267 => ((fathomlaw3_finite.f t249).bind fun t272 => (if t272 = true then ((fathomref3_Up2.f kj49 bt267.2 1074).bind fun t273 => ((fathomref0_EqNat.f kj49 t256 t273).bind fun t276 => (if t276 = true then (if (bt267.1 != ((Go.bits .and .u64 (Go.bits .xor .u64 ((rd_T39 l0 x3_1).f0) ((rd_T39 l0 x3_1).f1)) 9223372036854775808) != 0)) = true then (some false) else (fathomlaw3_FloatErrors.l0 kj49 l0 (wrap64 (x3_1 + 1)))) else (some false)))) else (some false)))))))))) = some r := by rw [if_neg (show ¬ (false = true) by decide)] at H; exact H
                                        clear H
                                        have H := H1
                                        clear H1
                                        replace H := Option.bind_eq_some_iff.mp H
                                        obtain ⟨t249, A540, H⟩ := H
                                        replace H : ((fathomlaw3_units.f kj49 ((rd_T39 l0 x3_1).f0)).bind fun t250 => ((fathomlaw3_units.f kj49 ((rd_T39 l0 x3_1).f1)).bind fun t253 => ((fathomref3_Times.f kj49 t250 t253).bind fun t256 => ((fathomlaw3_of.f kj49 t247).bind fun bt259 => ((fathomlaw3_of.f kj49 t249).bind fun bt263 => ((fathomlaw3_plus.f kj49 bt259.1 bt259.2 bt263.1 bt263.2).bind fun bt267 => ((fathomlaw3_finite.f t249).bind fun t272 => (if t272 = true then ((fathomref3_Up2.f kj49 bt267.2 1074).bind fun t273 => ((fathomref0_EqNat.f kj49 t256 t273).bind fun t276 => (if t276 = true then (if (bt267.1 != ((Go.bits .and .u64 (Go.bits .xor .u64 ((rd_T39 l0 x3_1).f0) ((rd_T39 l0 x3_1).f1)) 9223372036854775808) != 0)) = true then (some false) else (fathomlaw3_FloatErrors.l0 kj49 l0 (wrap64 (x3_1 + 1)))) else (some false)))) else (some false))))))))) = some r := H
                                        have A54 := Aside0.mk A540
                                        clear A540
                                        replace H := Option.bind_eq_some_iff.mp H
                                        obtain ⟨t250, A550, H⟩ := H
                                        replace H : ((fathomlaw3_units.f kj49 ((rd_T39 l0 x3_1).f1)).bind fun t253 => ((fathomref3_Times.f kj49 t250 t253).bind fun t256 => ((fathomlaw3_of.f kj49 t247).bind fun bt259 => ((fathomlaw3_of.f kj49 t249).bind fun bt263 => ((fathomlaw3_plus.f kj49 bt259.1 bt259.2 bt263.1 bt263.2).bind fun bt267 => ((fathomlaw3_finite.f t249).bind fun t272 => (if t272 = true then ((fathomref3_Up2.f kj49 bt267.2 1074).bind fun t273 => ((fathomref0_EqNat.f kj49 t256 t273).bind fun t276 => (if t276 = true then (if (bt267.1 != ((Go.bits .and .u64 (Go.bits .xor .u64 ((rd_T39 l0 x3_1).f0) ((rd_T39 l0 x3_1).f1)) 9223372036854775808) != 0)) = true then (some false) else (fathomlaw3_FloatErrors.l0 kj49 l0 (wrap64 (x3_1 + 1)))) else (some false)))) else (some false)))))))) = some r := H
                                        have A55 := Aside0.mk A550
                                        clear A550
                                        replace H := Option.bind_eq_some_iff.mp H
                                        obtain ⟨t253, A560, H⟩ := H
                                        replace H : ((fathomref3_Times.f kj49 t250 t253).bind fun t256 => ((fathomlaw3_of.f kj49 t247).bind fun bt259 => ((fathomlaw3_of.f kj49 t249).bind fun bt263 => ((fathomlaw3_plus.f kj49 bt259.1 bt259.2 bt263.1 bt263.2).bind fun bt267 => ((fathomlaw3_finite.f t249).bind fun t272 => (if t272 = true then ((fathomref3_Up2.f kj49 bt267.2 1074).bind fun t273 => ((fathomref0_EqNat.f kj49 t256 t273).bind fun t276 => (if t276 = true then (if (bt267.1 != ((Go.bits .and .u64 (Go.bits .xor .u64 ((rd_T39 l0 x3_1).f0) ((rd_T39 l0 x3_1).f1)) 9223372036854775808) != 0)) = true then (some false) else (fathomlaw3_FloatErrors.l0 kj49 l0 (wrap64 (x3_1 + 1)))) else (some false)))) else (some false))))))) = some r := H
                                        have A56 := Aside0.mk A560
                                        clear A560
                                        replace H := Option.bind_eq_some_iff.mp H
                                        obtain ⟨t256, A570, H⟩ := H
                                        replace H : ((fathomlaw3_of.f kj49 t247).bind fun bt259 => ((fathomlaw3_of.f kj49 t249).bind fun bt263 => ((fathomlaw3_plus.f kj49 bt259.1 bt259.2 bt263.1 bt263.2).bind fun bt267 => ((fathomlaw3_finite.f t249).bind fun t272 => (if t272 = true then ((fathomref3_Up2.f kj49 bt267.2 1074).bind fun t273 => ((fathomref0_EqNat.f kj49 t256 t273).bind fun t276 => (if t276 = true then (if (bt267.1 != ((Go.bits .and .u64 (Go.bits .xor .u64 ((rd_T39 l0 x3_1).f0) ((rd_T39 l0 x3_1).f1)) 9223372036854775808) != 0)) = true then (some false) else (fathomlaw3_FloatErrors.l0 kj49 l0 (wrap64 (x3_1 + 1)))) else (some false)))) else (some false)))))) = some r := H
                                        have A57 := Aside0.mk A570
                                        clear A570
                                        replace H := Option.bind_eq_some_iff.mp H
                                        obtain ⟨⟨t259, t260⟩, A580, H⟩ := H
                                        replace H : ((fathomlaw3_of.f kj49 t249).bind fun bt263 => ((fathomlaw3_plus.f kj49 t259 t260 bt263.1 bt263.2).bind fun bt267 => ((fathomlaw3_finite.f t249).bind fun t272 => (if t272 = true then ((fathomref3_Up2.f kj49 bt267.2 1074).bind fun t273 => ((fathomref0_EqNat.f kj49 t256 t273).bind fun t276 => (if t276 = true then (if (bt267.1 != ((Go.bits .and .u64 (Go.bits .xor .u64 ((rd_T39 l0 x3_1).f0) ((rd_T39 l0 x3_1).f1)) 9223372036854775808) != 0)) = true then (some false) else (fathomlaw3_FloatErrors.l0 kj49 l0 (wrap64 (x3_1 + 1)))) else (some false)))) else (some false))))) = some r := H
                                        have A58 := Aside0.mk A580
                                        clear A580
                                        replace H := Option.bind_eq_some_iff.mp H
                                        obtain ⟨⟨t263, t264⟩, A590, H⟩ := H
                                        replace H : ((fathomlaw3_plus.f kj49 t259 t260 t263 t264).bind fun bt267 => ((fathomlaw3_finite.f t249).bind fun t272 => (if t272 = true then ((fathomref3_Up2.f kj49 bt267.2 1074).bind fun t273 => ((fathomref0_EqNat.f kj49 t256 t273).bind fun t276 => (if t276 = true then (if (bt267.1 != ((Go.bits .and .u64 (Go.bits .xor .u64 ((rd_T39 l0 x3_1).f0) ((rd_T39 l0 x3_1).f1)) 9223372036854775808) != 0)) = true then (some false) else (fathomlaw3_FloatErrors.l0 kj49 l0 (wrap64 (x3_1 + 1)))) else (some false)))) else (some false)))) = some r := H
                                        have A59 := Aside0.mk A590
                                        clear A590
                                        replace H := Option.bind_eq_some_iff.mp H
                                        obtain ⟨⟨t267, t268⟩, A600, H⟩ := H
                                        replace H : ((fathomlaw3_finite.f t249).bind fun t272 => (if t272 = true then ((fathomref3_Up2.f kj49 t268 1074).bind fun t273 => ((fathomref0_EqNat.f kj49 t256 t273).bind fun t276 => (if t276 = true then (if (t267 != ((Go.bits .and .u64 (Go.bits .xor .u64 ((rd_T39 l0 x3_1).f0) ((rd_T39 l0 x3_1).f1)) 9223372036854775808) != 0)) = true then (some false) else (fathomlaw3_FloatErrors.l0 kj49 l0 (wrap64 (x3_1 + 1)))) else (some false)))) else (some false))) = some r := H
                                        have A60 := Aside0.mk A600
                                        clear A600
                                        replace H := Option.bind_eq_some_iff.mp H
                                        obtain ⟨t272, A610, H⟩ := H
                                        replace H : (if t272 = true then ((fathomref3_Up2.f kj49 t268 1074).bind fun t273 => ((fathomref0_EqNat.f kj49 t256 t273).bind fun t276 => (if t276 = true then (if (t267 != ((Go.bits .and .u64 (Go.bits .xor .u64 ((rd_T39 l0 x3_1).f0) ((rd_T39 l0 x3_1).f1)) 9223372036854775808) != 0)) = true then (some false) else (fathomlaw3_FloatErrors.l0 kj49 l0 (wrap64 (x3_1 + 1)))) else (some false)))) else (some false)) = some r := H
                                        have A61 := Aside0.mk A610
                                        clear A610
                                        by_cases c62 : t272 = true
                                        · subst c62
                                          have H1 : ((fathomref3_Up2.f kj49 t268 1074).bind fun t273 => ((fathomref0_EqNat.f kj49 t256 t273).bind fun t276 => (if t276 = true then (if (t267 != ((Go.bits .and .u64 (Go.bits .xor .u64 ((rd_T39 l0 x3_1).f0) ((rd_T39 l0 x3_1).f1)) 9223372036854775808) != 0)) = true then (some false) else (fathomlaw3_FloatErrors.l0 kj49 l0 (wrap64 (x3_1 + 1)))) else (some false)))) = some r := by rw [if_pos rfl] at H; exact H
                                          clear H
                                          have H := H1
                                          clear H1
                                          replace H := Option.bind_eq_some_iff.mp H
                                          obtain ⟨t273, A630, H⟩ := H
                                          replace H : ((fathomref0_EqNat.f kj49 t256 t273).bind fun t276 => (if t276 = true then (if (t267 != ((Go.bits .and .u64 (Go.bits .xor .u64 ((rd_T39 l0 x3_1).f0) ((rd_T39 l0 x3_1).f1)) 9223372036854775808) != 0)) = true then (some false) else (fathomlaw3_FloatErrors.l0 kj49 l0 (wrap64 (x3_1 + 1)))) else (some false))) = some r := H
                                          have A63 := Aside0.mk A630
                                          clear A630
                                          replace H := Option.bind_eq_some_iff.mp H
                                          obtain ⟨t276, A640, H⟩ := H
                                          replace H : (if t276 = true then (if (t267 != ((Go.bits .and .u64 (Go.bits .xor .u64 ((rd_T39 l0 x3_1).f0) ((rd_T39 l0 x3_1).f1)) 9223372036854775808) != 0)) = true then (some false) else (fathomlaw3_FloatErrors.l0 kj49 l0 (wrap64 (x3_1 + 1)))) else (some false)) = some r := H
                                          have A64 := Aside0.mk A640
                                          clear A640
                                          by_cases c65 : t276 = true
                                          · subst c65
                                            have H1 : (if (t267 != ((Go.bits .and .u64 (Go.bits .xor .u64 ((rd_T39 l0 x3_1).f0) ((rd_T39 l0 x3_1).f1)) 9223372036854775808) != 0)) = true then (some false) else (fathomlaw3_FloatErrors.l0 kj49 l0 (wrap64 (x3_1 + 1)))) = some r := by rw [if_pos rfl] at H; exact H
                                            clear H
                                            have H := H1
                                            clear H1
                                            by_cases c66 : (t267 != ((Go.bits .and .u64 (Go.bits .xor .u64 ((rd_T39 l0 x3_1).f0) ((rd_T39 l0 x3_1).f1)) 9223372036854775808) != 0)) = true
                                            · rw [if_pos c66] at H
                                              have c66b0 : (t267 != ((Go.bits .and .u64 (Go.bits .xor .u64 ((rd_T39 l0 x3_1).f0) ((rd_T39 l0 x3_1).f1)) 9223372036854775808) != 0)) = true := c66
                                              (try (have c66b1 : decide (t267 = ((Go.bits .and .u64 (Go.bits .xor .u64 ((rd_T39 l0 x3_1).f0) ((rd_T39 l0 x3_1).f1)) 9223372036854775808) != 0)) = false := by simpa using c66))
                                              (try (have c66b2 : (t267 == ((Go.bits .and .u64 (Go.bits .xor .u64 ((rd_T39 l0 x3_1).f0) ((rd_T39 l0 x3_1).f1)) 9223372036854775808) != 0)) = false := by simpa using c66))
                                              (try (have c66b3 : ¬ (t267 = ((Go.bits .and .u64 (Go.bits .xor .u64 ((rd_T39 l0 x3_1).f0) ((rd_T39 l0 x3_1).f1)) 9223372036854775808) != 0)) := by simpa using c66))
                                              clear c66
                                              obtain rfl := Option.some.inj H
                                              go_wp2_with (first | ((with_reducible refine gate_callee (f := 81) rfl ?_); refine goesL_ (some 103) rfl rfl Try.func81 (by kernel_rfl) rfl #[.int .u64 ((rd_T39 l0 x3_1).f0), .int .u64 ((rd_T39 l0 x3_1).f1), .int .u64 (Go.bits .xor .u64 t247 9223372036854775808)] rfl (by (try simp only [List.map_toArray, List.map_cons, List.map_nil]); first | done | rfl | (simp only [List.length_drop, List.length_take]; rfl) | (simp only [gt_iff_lt, Int.natCast_pos]; rfl)) ?_; (with_reducible refine (float_Fma.calls ((rd_T39 l0 x3_1).f0) ((rd_T39 l0 x3_1).f1) (Go.bits .xor .u64 t247 9223372036854775808) t249 _ A54.out).mono ?_); rintro e w' ⟨rfl, ⟨nd, rfl⟩⟩; refine ⟨_, rfl, ?_⟩; (try (rw [drewN_self wc]; generalize hq_ : World.drewN wc _ = wc; have n0_ : Aside0 (Below w.heap.size w wc) := ⟨by rw [← hq_]; exact (by repeat (first | (with_reducible first | exact HB.out | apply below_alloc | apply pw_below_drewN | apply below_drew1) | exact HB.out))⟩; clear HB hq_; have HB := n0_; clear n0_))) | ((with_reducible refine gate_callee (f := 20) rfl ?_); refine goesL_ (some 105) rfl rfl Try.func20 (by kernel_rfl) rfl #[.int .u64 ((rd_T39 l0 x3_1).f0)] rfl (by (try simp only [List.map_toArray, List.map_cons, List.map_nil]); first | done | rfl | (simp only [List.length_drop, List.length_take]; rfl) | (simp only [gt_iff_lt, Int.natCast_pos]; rfl)) ?_; (with_reducible refine (fathomlaw3_units.calls kj49 ((rd_T39 l0 x3_1).f0) t250 _ A55.out).mono ?_); rintro e w67 ⟨v251, rfl, ho0, hb⟩; refine ⟨_, rfl, ?_⟩; have n0_ := Aside0.mk (Kd.R_lower ho0 (below_size (by repeat (first | (with_reducible first | exact HB.out | apply below_alloc | apply pw_below_drewN | apply below_drew1) | exact HB.out)))); have n1_ := Aside0.mk (below_step (by repeat (first | (with_reducible first | exact HB.out | apply below_alloc | apply pw_below_drewN | apply below_drew1) | exact HB.out)) hb); clear HB; have HO252 := n0_; have HB := n1_; clear n0_ n1_; (try clear hb); (try clear hb2); (try clear hk); (try clear hi); (try clear ho0)) | ((with_reducible refine gate_callee (f := 20) rfl ?_); refine goesL_ (some 107) rfl rfl Try.func20 (by kernel_rfl) rfl #[.int .u64 ((rd_T39 l0 x3_1).f1)] rfl (by (try simp only [List.map_toArray, List.map_cons, List.map_nil]); first | done | rfl | (simp only [List.length_drop, List.length_take]; rfl) | (simp only [gt_iff_lt, Int.natCast_pos]; rfl)) ?_; (with_reducible refine (fathomlaw3_units.calls kj49 ((rd_T39 l0 x3_1).f1) t253 _ A56.out).mono ?_); rintro e w68 ⟨v254, rfl, ho0, hb⟩; refine ⟨_, rfl, ?_⟩; have n0_ := Aside0.mk (Kd.R_elder' (by (with_reducible repeat (first | apply Kd.R_alloc | apply Kd.R_drewN | apply Kd.R_drew)); exact HO252.out) (Kd.R_base ho0) hb); have n1_ := Aside0.mk (Kd.R_lower (Kd.R_new' ho0 (Kd.R_lt (by (with_reducible repeat (first | apply Kd.R_alloc | apply Kd.R_drewN | apply Kd.R_drew)); exact HO252.out))) (below_size (by repeat (first | (with_reducible first | exact HB.out | apply below_alloc | apply pw_below_drewN | apply below_drew1) | exact HB.out)))); have n2_ := Aside0.mk (below_step (by repeat (first | (with_reducible first | exact HB.out | apply below_alloc | apply pw_below_drewN | apply below_drew1) | exact HB.out)) hb); clear HO252; clear HB; have HO252 := n0_; have HO255 := n1_; have HB := n2_; clear n0_ n1_ n2_; (try clear hb); (try clear hb2); (try clear hk); (try clear hi); (try clear ho0); obtain ⟨Ao69, co69, eo69⟩ := Kd.R_slice HO252.out; subst eo69; obtain ⟨Ao70, co70, eo70⟩ := Kd.R_slice HO255.out; subst eo70) | ((with_reducible refine gate_callee (f := 27) rfl ?_); refine goesL_ (some 108) rfl rfl Try.func27 (by kernel_rfl) rfl #[.slice Ao69 t250.length co69, .slice Ao70 t253.length co70] rfl (by (try simp only [List.map_toArray, List.map_cons, List.map_nil]); first | done | rfl | (simp only [List.length_drop, List.length_take]; rfl) | (simp only [gt_iff_lt, Int.natCast_pos]; rfl)) ?_; (with_reducible refine (fathomref3_Times.calls kj49 _ _ t250 _ _ t253 t256 _ ?side1 ?side2 ?side3 ?side4 A57.out).mono ?_); (case side1 => repeat (first | exact (Kd.R_reads' HO252.out).2.2 | (with_reducible refine Kd.C_alloc ?_ _) | (with_reducible refine Kd.C_drewN ?_ _) | (with_reducible refine Kd.C_drew ?_))); (case side2 => exact (Kd.R_reads' HO252.out).2.1); (case side3 => repeat (first | exact (Kd.R_reads' HO255.out).2.2 | (with_reducible refine Kd.C_alloc ?_ _) | (with_reducible refine Kd.C_drewN ?_ _) | (with_reducible refine Kd.C_drew ?_))); (case side4 => exact (Kd.R_reads' HO255.out).2.1); rintro e w71 ⟨v257, rfl, ho0, hb⟩; refine ⟨_, rfl, ?_⟩; have n0_ := Aside0.mk (Kd.R_elder' (by (with_reducible repeat (first | apply Kd.R_alloc | apply Kd.R_drewN | apply Kd.R_drew)); exact HO252.out) (Kd.R_base ho0) hb); have n1_ := Aside0.mk (Kd.R_elder' (by (with_reducible repeat (first | apply Kd.R_alloc | apply Kd.R_drewN | apply Kd.R_drew)); exact HO255.out) (Kd.R_base ho0) hb); have n2_ := Aside0.mk (Kd.R_lower (Kd.R_new' (Kd.R_new' ho0 (Kd.R_lt (by (with_reducible repeat (first | apply Kd.R_alloc | apply Kd.R_drewN | apply Kd.R_drew)); exact HO252.out))) (Kd.R_lt (by (with_reducible repeat (first | apply Kd.R_alloc | apply Kd.R_drewN | apply Kd.R_drew)); exact HO255.out))) (below_size (by repeat (first | (with_reducible first | exact HB.out | apply below_alloc | apply pw_below_drewN | apply below_drew1) | exact HB.out)))); have n3_ := Aside0.mk (below_step (by repeat (first | (with_reducible first | exact HB.out | apply below_alloc | apply pw_below_drewN | apply below_drew1) | exact HB.out)) hb); clear HO252; clear HO255; clear HB; have HO252 := n0_; have HO255 := n1_; have HO258 := n2_; have HB := n3_; clear n0_ n1_ n2_ n3_; (try clear hb); (try clear hb2); (try clear hk); (try clear hi); (try clear ho0)) | ((with_reducible refine gate_callee (f := 80) rfl ?_); refine goesL_ (some 110) rfl rfl Try.func80 (by kernel_rfl) rfl #[.int .u64 t247] rfl (by (try simp only [List.map_toArray, List.map_cons, List.map_nil]); first | done | rfl | (simp only [List.length_drop, List.length_take]; rfl) | (simp only [gt_iff_lt, Int.natCast_pos]; rfl)) ?_; (with_reducible refine (fathomlaw3_of.calls kj49 t247 t259 t260 _ A58.out).mono ?_); rintro e w72 ⟨v261, rfl, ho0, hb⟩; refine ⟨_, rfl, ?_⟩; have n0_ := Aside0.mk (Kd.R_elder' (by (with_reducible repeat (first | apply Kd.R_alloc | apply Kd.R_drewN | apply Kd.R_drew)); exact HO252.out) (Kd.R_base ho0) hb); have n1_ := Aside0.mk (Kd.R_elder' (by (with_reducible repeat (first | apply Kd.R_alloc | apply Kd.R_drewN | apply Kd.R_drew)); exact HO255.out) (Kd.R_base ho0) hb); have n2_ := Aside0.mk (Kd.R_elder' (by (with_reducible repeat (first | apply Kd.R_alloc | apply Kd.R_drewN | apply Kd.R_drew)); exact HO258.out) (Kd.R_base ho0) hb); have n3_ := Aside0.mk (Kd.R_lower (Kd.R_new' (Kd.R_new' (Kd.R_new' ho0 (Kd.R_lt (by (with_reducible repeat (first | apply Kd.R_alloc | apply Kd.R_drewN | apply Kd.R_drew)); exact HO252.out))) (Kd.R_lt (by (with_reducible repeat (first | apply Kd.R_alloc | apply Kd.R_drewN | apply Kd.R_drew)); exact HO255.out))) (Kd.R_lt (by (with_reducible repeat (first | apply Kd.R_alloc | apply Kd.R_drewN | apply Kd.R_drew)); exact HO258.out))) (below_size (by repeat (first | (with_reducible first | exact HB.out | apply below_alloc | apply pw_below_drewN | apply below_drew1) | exact HB.out)))); have n4_ := Aside0.mk (below_step (by repeat (first | (with_reducible first | exact HB.out | apply below_alloc | apply pw_below_drewN | apply below_drew1) | exact HB.out)) hb); clear HO252; clear HO255; clear HO258; clear HB; have HO252 := n0_; have HO255 := n1_; have HO258 := n2_; have HO262 := n3_; have HB := n4_; clear n0_ n1_ n2_ n3_ n4_; (try clear hb); (try clear hb2); (try clear hk); (try clear hi); (try clear ho0)) | ((with_reducible refine gate_callee (f := 80) rfl ?_); refine goesL_ (some 112) rfl rfl Try.func80 (by kernel_rfl) rfl #[.int .u64 t249] rfl (by (try simp only [List.map_toArray, List.map_cons, List.map_nil]); first | done | rfl | (simp only [List.length_drop, List.length_take]; rfl) | (simp only [gt_iff_lt, Int.natCast_pos]; rfl)) ?_; (with_reducible refine (fathomlaw3_of.calls kj49 t249 t263 t264 _ A59.out).mono ?_); rintro e w73 ⟨v265, rfl, ho0, hb⟩; refine ⟨_, rfl, ?_⟩; have n0_ := Aside0.mk (Kd.R_elder' (by (with_reducible repeat (first | apply Kd.R_alloc | apply Kd.R_drewN | apply Kd.R_drew)); exact HO252.out) (Kd.R_base ho0) hb); have n1_ := Aside0.mk (Kd.R_elder' (by (with_reducible repeat (first | apply Kd.R_alloc | apply Kd.R_drewN | apply Kd.R_drew)); exact HO255.out) (Kd.R_base ho0) hb); have n2_ := Aside0.mk (Kd.R_elder' (by (with_reducible repeat (first | apply Kd.R_alloc | apply Kd.R_drewN | apply Kd.R_drew)); exact HO258.out) (Kd.R_base ho0) hb); have n3_ := Aside0.mk (Kd.R_elder' (by (with_reducible repeat (first | apply Kd.R_alloc | apply Kd.R_drewN | apply Kd.R_drew)); exact HO262.out) (Kd.R_base ho0) hb); have n4_ := Aside0.mk (Kd.R_lower (Kd.R_new' (Kd.R_new' (Kd.R_new' (Kd.R_new' ho0 (Kd.R_lt (by (with_reducible repeat (first | apply Kd.R_alloc | apply Kd.R_drewN | apply Kd.R_drew)); exact HO252.out))) (Kd.R_lt (by (with_reducible repeat (first | apply Kd.R_alloc | apply Kd.R_drewN | apply Kd.R_drew)); exact HO255.out))) (Kd.R_lt (by (with_reducible repeat (first | apply Kd.R_alloc | apply Kd.R_drewN | apply Kd.R_drew)); exact HO258.out))) (Kd.R_lt (by (with_reducible repeat (first | apply Kd.R_alloc | apply Kd.R_drewN | apply Kd.R_drew)); exact HO262.out))) (below_size (by repeat (first | (with_reducible first | exact HB.out | apply below_alloc | apply pw_below_drewN | apply below_drew1) | exact HB.out)))); have n5_ := Aside0.mk (below_step (by repeat (first | (with_reducible first | exact HB.out | apply below_alloc | apply pw_below_drewN | apply below_drew1) | exact HB.out)) hb); clear HO252; clear HO255; clear HO258; clear HO262; clear HB; have HO252 := n0_; have HO255 := n1_; have HO258 := n2_; have HO262 := n3_; have HO266 := n4_; have HB := n5_; clear n0_ n1_ n2_ n3_ n4_ n5_; (try clear hb); (try clear hb2); (try clear hk); (try clear hi); (try clear ho0); obtain ⟨Ao74, co74, eo74⟩ := Kd.R_slice HO262.out; subst eo74; obtain ⟨Ao75, co75, eo75⟩ := Kd.R_slice HO266.out; subst eo75) | ((with_reducible refine gate_callee (f := 79) rfl ?_); refine goesL_ (some 113) rfl rfl Try.func79 (by kernel_rfl) rfl #[.agg #[.bool t259, .slice Ao74 t260.length co74], .agg #[.bool t263, .slice Ao75 t264.length co75]] rfl (by (try simp only [List.map_toArray, List.map_cons, List.map_nil]); first | done | rfl | (simp only [List.length_drop, List.length_take]; rfl) | (simp only [gt_iff_lt, Int.natCast_pos]; rfl)) ?_; (with_reducible refine (fathomlaw3_plus.calls kj49 t259 _ _ t260 t263 _ _ t264 t267 t268 _ ?side1 ?side2 ?side3 ?side4 A60.out).mono ?_); (case side1 => repeat (first | exact (Kd.R_reads' HO262.out).2.2 | (with_reducible refine Kd.C_alloc ?_ _) | (with_reducible refine Kd.C_drewN ?_ _) | (with_reducible refine Kd.C_drew ?_))); (case side2 => exact (Kd.R_reads' HO262.out).2.1); (case side3 => repeat (first | exact (Kd.R_reads' HO266.out).2.2 | (with_reducible refine Kd.C_alloc ?_ _) | (with_reducible refine Kd.C_drewN ?_ _) | (with_reducible refine Kd.C_drew ?_))); (case side4 => exact (Kd.R_reads' HO266.out).2.1); rintro e w76 ⟨v269, rfl, ho0, hb⟩; refine ⟨_, rfl, ?_⟩; have n0_ := Aside0.mk (Kd.R_elder' (by (with_reducible repeat (first | apply Kd.R_alloc | apply Kd.R_drewN | apply Kd.R_drew)); exact HO252.out) (Kd.R_base ho0) hb); have n1_ := Aside0.mk (Kd.R_elder' (by (with_reducible repeat (first | apply Kd.R_alloc | apply Kd.R_drewN | apply Kd.R_drew)); exact HO255.out) (Kd.R_base ho0) hb); have n2_ := Aside0.mk (Kd.R_elder' (by (with_reducible repeat (first | apply Kd.R_alloc | apply Kd.R_drewN | apply Kd.R_drew)); exact HO258.out) (Kd.R_base ho0) hb); have n3_ := Aside0.mk (Kd.R_elder' (by (with_reducible repeat (first | apply Kd.R_alloc | apply Kd.R_drewN | apply Kd.R_drew)); exact HO262.out) (Kd.R_base ho0) hb); have n4_ := Aside0.mk (Kd.R_elder' (by (with_reducible repeat (first | apply Kd.R_alloc | apply Kd.R_drewN | apply Kd.R_drew)); exact HO266.out) (Kd.R_base ho0) hb); have n5_ := Aside0.mk (Kd.R_lower (Kd.R_new' (Kd.R_new' (Kd.R_new' (Kd.R_new' (Kd.R_new' ho0 (Kd.R_lt (by (with_reducible repeat (first | apply Kd.R_alloc | apply Kd.R_drewN | apply Kd.R_drew)); exact HO252.out))) (Kd.R_lt (by (with_reducible repeat (first | apply Kd.R_alloc | apply Kd.R_drewN | apply Kd.R_drew)); exact HO255.out))) (Kd.R_lt (by (with_reducible repeat (first | apply Kd.R_alloc | apply Kd.R_drewN | apply Kd.R_drew)); exact HO258.out))) (Kd.R_lt (by (with_reducible repeat (first | apply Kd.R_alloc | apply Kd.R_drewN | apply Kd.R_drew)); exact HO262.out))) (Kd.R_lt (by (with_reducible repeat (first | apply Kd.R_alloc | apply Kd.R_drewN | apply Kd.R_drew)); exact HO266.out))) (below_size (by repeat (first | (with_reducible first | exact HB.out | apply below_alloc | apply pw_below_drewN | apply below_drew1) | exact HB.out)))); have n6_ := Aside0.mk (below_step (by repeat (first | (with_reducible first | exact HB.out | apply below_alloc | apply pw_below_drewN | apply below_drew1) | exact HB.out)) hb); clear HO252; clear HO255; clear HO258; clear HO262; clear HO266; clear HB; have HO252 := n0_; have HO255 := n1_; have HO258 := n2_; have HO262 := n3_; have HO266 := n4_; have HO270 := n5_; have HB := n6_; clear n0_ n1_ n2_ n3_ n4_ n5_ n6_; (try clear hb); (try clear hb2); (try clear hk); (try clear hi); (try clear ho0)) | ((with_reducible refine gate_dst (N := 13) rfl ?_); refine box_event ?hg (N := 13) ?hd (cs := #[.bool false, .slice none 0 0]) (t := 78) ?hr ?_; (case hd => rfl); (case hg => rfl); (case hr => first | (go_simp; done) | (go_simp; rfl)); intro gb271 hg w77 hbox hb; have n0_ := Aside0.mk (Kd.R_below (by (with_reducible repeat (first | apply Kd.R_alloc | apply Kd.R_drewN | apply Kd.R_drew)); exact HO252.out) hb); have n1_ := Aside0.mk (Kd.R_below (by (with_reducible repeat (first | apply Kd.R_alloc | apply Kd.R_drewN | apply Kd.R_drew)); exact HO255.out) hb); have n2_ := Aside0.mk (Kd.R_below (by (with_reducible repeat (first | apply Kd.R_alloc | apply Kd.R_drewN | apply Kd.R_drew)); exact HO258.out) hb); have n3_ := Aside0.mk (Kd.R_below (by (with_reducible repeat (first | apply Kd.R_alloc | apply Kd.R_drewN | apply Kd.R_drew)); exact HO262.out) hb); have n4_ := Aside0.mk (Kd.R_below (by (with_reducible repeat (first | apply Kd.R_alloc | apply Kd.R_drewN | apply Kd.R_drew)); exact HO266.out) hb); have n5_ := Aside0.mk (Kd.R_below (by (with_reducible repeat (first | apply Kd.R_alloc | apply Kd.R_drewN | apply Kd.R_drew)); exact HO270.out) hb); have n6_ := Aside0.mk (below_step (by repeat (first | (with_reducible first | exact HB.out | apply below_alloc | apply pw_below_drewN | apply below_drew1) | exact HB.out)) hb); have n7_ := Aside0.mk (hbox); have n8_ := Aside0.mk ((by rw [hg]; exact (below_size (by repeat (first | (with_reducible first | exact HB.out | apply below_alloc | apply pw_below_drewN | apply below_drew1) | exact HB.out))) : w.heap.size ≤ gb271)); have n9_ := Aside0.mk ((by rw [hg]; exact (below_size (by repeat (first | (with_reducible first | exact HB.out | apply below_alloc | apply pw_below_drewN | apply below_drew1) | exact HB.out))) : w.heap.size ≤ gb271)); clear HO252; clear HO255; clear HO258; clear HO262; clear HO266; clear HO270; clear HB; have HO252 := n0_; have HO255 := n1_; have HO258 := n2_; have HO262 := n3_; have HO266 := n4_; have HO270 := n5_; have HB := n6_; have BK271 := n7_; have GW271 := n8_; have GE271 := n9_; clear n0_ n1_ n2_ n3_ n4_ n5_ n6_ n7_ n8_ n9_; clear hb hbox hg; have hcz78_0 : w77.cell? ⟨gb271, 0, none⟩ = some (.bool false) := (blk_cell BK271.out 0).trans rfl; have hcz78_1 : w77.cell? ⟨gb271, 1, none⟩ = some (.slice none 0 0) := (blk_cell BK271.out 1).trans rfl; have hfz78_0 := blk_frozen BK271.out 0; have hfz78_1 := blk_frozen BK271.out 1; obtain ⟨Ao79, co79, eo79⟩ := Kd.R_slice HO270.out; subst eo79) | ((with_reducible refine gate_callee (f := 16) rfl ?_); refine goesL_ (some 115) rfl rfl Try.func16 (by kernel_rfl) rfl #[.int .u64 t249] rfl (by (try simp only [List.map_toArray, List.map_cons, List.map_nil]); first | done | rfl | (simp only [List.length_drop, List.length_take]; rfl) | (simp only [gt_iff_lt, Int.natCast_pos]; rfl)) ?_; (with_reducible refine (fathomlaw3_finite.calls t249 true _ A61.out).mono ?_); rintro e w' ⟨rfl, ⟨nd, rfl⟩⟩; refine ⟨_, rfl, ?_⟩) | (go_at_call 19; (with_reducible refine (fathomref3_Up2.calls kj49 _ _ t268 1074 t273 _ ?side1 ?side2 A63.out).mono ?_); (case side1 => refine (Kd.R_reads' (e := 25) (base := w.heap.size) (ok := fun k_ => (((((True ∧ some k_ ≠ (.slice Ao69 t250.length co69 : Value).ownBlock) ∧ some k_ ≠ (.slice Ao70 t253.length co70 : Value).ownBlock) ∧ some k_ ≠ (v257 : Value).ownBlock) ∧ some k_ ≠ (.slice Ao74 t260.length co74 : Value).ownBlock) ∧ some k_ ≠ (.slice Ao75 t264.length co75 : Value).ownBlock)) (n := t268.length) (c := co79) ?_).2.2; exact (by (with_reducible repeat (first | apply Kd.R_alloc | apply Kd.R_drewN | apply Kd.R_drew)); exact (Kd.R_mono (Kd.R_far (p := ⟨gb271, 1, none⟩) (Kd.R_far (p := ⟨gb271, 0, none⟩) (Kd.R_types HO270.out BK271.out (by decide)) (fun _ hk => hk.2) (.bool t267)) (fun _ hk => hk.2) (.slice Ao79 t268.length co79)) (fun _ h_ => h_.1)))); (case side2 => exact (Kd.R_reads' HO270.out).2.1); rintro e w80 ⟨v274, rfl, ho0, hb⟩; have n0_ := Aside0.mk (Kd.R_elder' (by (with_reducible repeat (first | apply Kd.R_alloc | apply Kd.R_drewN | apply Kd.R_drew)); exact (Kd.R_mono (Kd.R_far (p := ⟨gb271, 1, none⟩) (Kd.R_far (p := ⟨gb271, 0, none⟩) (Kd.R_types HO252.out BK271.out (by decide)) (fun _ hk => hk.2) (.bool t267)) (fun _ hk => hk.2) (.slice Ao79 t268.length co79)) (fun _ h_ => h_.1))) (Kd.R_base ho0) hb); have n1_ := Aside0.mk (Kd.R_elder' (by (with_reducible repeat (first | apply Kd.R_alloc | apply Kd.R_drewN | apply Kd.R_drew)); exact (Kd.R_mono (Kd.R_far (p := ⟨gb271, 1, none⟩) (Kd.R_far (p := ⟨gb271, 0, none⟩) (Kd.R_types HO255.out BK271.out (by decide)) (fun _ hk => hk.2) (.bool t267)) (fun _ hk => hk.2) (.slice Ao79 t268.length co79)) (fun _ h_ => h_.1))) (Kd.R_base ho0) hb); have n2_ := Aside0.mk (Kd.R_elder' (by (with_reducible repeat (first | apply Kd.R_alloc | apply Kd.R_drewN | apply Kd.R_drew)); exact (Kd.R_mono (Kd.R_far (p := ⟨gb271, 1, none⟩) (Kd.R_far (p := ⟨gb271, 0, none⟩) (Kd.R_types HO258.out BK271.out (by decide)) (fun _ hk => hk.2) (.bool t267)) (fun _ hk => hk.2) (.slice Ao79 t268.length co79)) (fun _ h_ => h_.1))) (Kd.R_base ho0) hb); have n3_ := Aside0.mk (Kd.R_elder' (by (with_reducible repeat (first | apply Kd.R_alloc | apply Kd.R_drewN | apply Kd.R_drew)); exact (Kd.R_mono (Kd.R_far (p := ⟨gb271, 1, none⟩) (Kd.R_far (p := ⟨gb271, 0, none⟩) (Kd.R_types HO262.out BK271.out (by decide)) (fun _ hk => hk.2) (.bool t267)) (fun _ hk => hk.2) (.slice Ao79 t268.length co79)) (fun _ h_ => h_.1))) (Kd.R_base ho0) hb); have n4_ := Aside0.mk (Kd.R_elder' (by (with_reducible repeat (first | apply Kd.R_alloc | apply Kd.R_drewN | apply Kd.R_drew)); exact (Kd.R_mono (Kd.R_far (p := ⟨gb271, 1, none⟩) (Kd.R_far (p := ⟨gb271, 0, none⟩) (Kd.R_types HO266.out BK271.out (by decide)) (fun _ hk => hk.2) (.bool t267)) (fun _ hk => hk.2) (.slice Ao79 t268.length co79)) (fun _ h_ => h_.1))) (Kd.R_base ho0) hb); have n5_ := Aside0.mk (Kd.R_elder' (by (with_reducible repeat (first | apply Kd.R_alloc | apply Kd.R_drewN | apply Kd.R_drew)); exact (Kd.R_mono (Kd.R_far (p := ⟨gb271, 1, none⟩) (Kd.R_far (p := ⟨gb271, 0, none⟩) (Kd.R_types HO270.out BK271.out (by decide)) (fun _ hk => hk.2) (.bool t267)) (fun _ hk => hk.2) (.slice Ao79 t268.length co79)) (fun _ h_ => h_.1))) (Kd.R_base ho0) hb); have n6_ := Aside0.mk (Kd.R_lower (Kd.R_new' (Kd.R_new' (Kd.R_new' (Kd.R_new' (Kd.R_new' (Kd.R_new' ho0 (Kd.R_lt (by (with_reducible repeat (first | apply Kd.R_alloc | apply Kd.R_drewN | apply Kd.R_drew)); exact (Kd.R_mono (Kd.R_far (p := ⟨gb271, 1, none⟩) (Kd.R_far (p := ⟨gb271, 0, none⟩) (Kd.R_types HO252.out BK271.out (by decide)) (fun _ hk => hk.2) (.bool t267)) (fun _ hk => hk.2) (.slice Ao79 t268.length co79)) (fun _ h_ => h_.1))))) (Kd.R_lt (by (with_reducible repeat (first | apply Kd.R_alloc | apply Kd.R_drewN | apply Kd.R_drew)); exact (Kd.R_mono (Kd.R_far (p := ⟨gb271, 1, none⟩) (Kd.R_far (p := ⟨gb271, 0, none⟩) (Kd.R_types HO255.out BK271.out (by decide)) (fun _ hk => hk.2) (.bool t267)) (fun _ hk => hk.2) (.slice Ao79 t268.length co79)) (fun _ h_ => h_.1))))) (Kd.R_lt (by (with_reducible repeat (first | apply Kd.R_alloc | apply Kd.R_drewN | apply Kd.R_drew)); exact (Kd.R_mono (Kd.R_far (p := ⟨gb271, 1, none⟩) (Kd.R_far (p := ⟨gb271, 0, none⟩) (Kd.R_types HO258.out BK271.out (by decide)) (fun _ hk => hk.2) (.bool t267)) (fun _ hk => hk.2) (.slice Ao79 t268.length co79)) (fun _ h_ => h_.1))))) (Kd.R_lt (by (with_reducible repeat (first | apply Kd.R_alloc | apply Kd.R_drewN | apply Kd.R_drew)); exact (Kd.R_mono (Kd.R_far (p := ⟨gb271, 1, none⟩) (Kd.R_far (p := ⟨gb271, 0, none⟩) (Kd.R_types HO262.out BK271.out (by decide)) (fun _ hk => hk.2) (.bool t267)) (fun _ hk => hk.2) (.slice Ao79 t268.length co79)) (fun _ h_ => h_.1))))) (Kd.R_lt (by (with_reducible repeat (first | apply Kd.R_alloc | apply Kd.R_drewN | apply Kd.R_drew)); exact (Kd.R_mono (Kd.R_far (p := ⟨gb271, 1, none⟩) (Kd.R_far (p := ⟨gb271, 0, none⟩) (Kd.R_types HO266.out BK271.out (by decide)) (fun _ hk => hk.2) (.bool t267)) (fun _ hk => hk.2) (.slice Ao79 t268.length co79)) (fun _ h_ => h_.1))))) (Kd.R_lt (by (with_reducible repeat (first | apply Kd.R_alloc | apply Kd.R_drewN | apply Kd.R_drew)); exact (Kd.R_mono (Kd.R_far (p := ⟨gb271, 1, none⟩) (Kd.R_far (p := ⟨gb271, 0, none⟩) (Kd.R_types HO270.out BK271.out (by decide)) (fun _ hk => hk.2) (.bool t267)) (fun _ hk => hk.2) (.slice Ao79 t268.length co79)) (fun _ h_ => h_.1))))) (below_size (by repeat (first | (with_reducible first | exact HB.out | apply below_alloc | apply pw_below_drewN | apply below_drew1 | refine below_set ?_ GE271.out) | exact HB.out)))); have n7_ := Aside0.mk (blk_below (g := gb271) (o := .cells #[.bool t267, .slice Ao79 t268.length co79] 78 (0, 0)) (by (with_reducible repeat (first | refine blk_drewN ?_ _ | refine blk_drew ?_ | refine blk_alloc ?_ _)); refine blk_put (cs := #[.bool t267, .slice none 0 0]) ?_ 1 _ rfl; (with_reducible repeat (first | refine blk_drewN ?_ _ | refine blk_drew ?_ | refine blk_alloc ?_ _)); refine blk_put (cs := #[.bool false, .slice none 0 0]) ?_ 0 _ rfl; (with_reducible repeat (first | refine blk_drewN ?_ _ | refine blk_drew ?_ | refine blk_alloc ?_ _)); exact BK271.out) hb); have n8_ := Aside0.mk (below_step (by repeat (first | (with_reducible first | exact HB.out | apply below_alloc | apply pw_below_drewN | apply below_drew1 | refine below_set ?_ GE271.out) | exact HB.out)) hb); clear HO252; clear HO255; clear HO258; clear HO262; clear HO266; clear HO270; clear BK271; clear HB; have HO252 := n0_; have HO255 := n1_; have HO258 := n2_; have HO262 := n3_; have HO266 := n4_; have HO270 := n5_; have HO275 := n6_; have BK271 := n7_; have HB := n8_; clear n0_ n1_ n2_ n3_ n4_ n5_ n6_ n7_ n8_; (try clear hb); (try clear hb2); (try clear hk); (try clear hi); (try clear ho0); obtain ⟨Ao81, co81, eo81⟩ := Kd.R_slice HO258.out; subst eo81; obtain ⟨Ao82, co82, eo82⟩ := Kd.R_slice HO275.out; subst eo82) | (go_at_call 82; (with_reducible refine (fathomref0_EqNat.calls kj49 _ _ t256 _ _ t273 true _ ?side1 ?side2 ?side3 ?side4 A64.out).mono ?_); (case side1 => repeat (first | exact (Kd.R_reads' HO258.out).2.2 | (with_reducible refine Kd.C_alloc ?_ _) | (with_reducible refine Kd.C_drewN ?_ _) | (with_reducible refine Kd.C_drew ?_))); (case side2 => exact (Kd.R_reads' HO258.out).2.1); (case side3 => repeat (first | exact (Kd.R_reads' HO275.out).2.2 | (with_reducible refine Kd.C_alloc ?_ _) | (with_reducible refine Kd.C_drewN ?_ _) | (with_reducible refine Kd.C_drew ?_))); (case side4 => exact (Kd.R_reads' HO275.out).2.1); rintro e w' ⟨rfl, ⟨nd, rfl⟩⟩; have hcz83_0 : w80.cell? ⟨gb271, 0, none⟩ = some (.bool t267) := (blk_cell BK271.out 0).trans rfl; have hcz83_1 : w80.cell? ⟨gb271, 1, none⟩ = some (.slice Ao79 t268.length co79) := (blk_cell BK271.out 1).trans rfl; have hfz83_0 := blk_frozen BK271.out 0; have hfz83_1 := blk_frozen BK271.out 1))
                                              go_ret
                                              exact ⟨by first | rfl | (simp [errW_none, errW_some] <;> rfl) | (simp [*, errW_none, errW_some] <;> rfl), by repeat (first | (with_reducible first | exact HB.out | apply below_alloc | apply pw_below_drewN | apply below_drew1 | refine below_set ?_ GE271.out) | exact HB.out)⟩
                                            · rw [if_neg c66] at H
                                              have c66b0 : (t267 != ((Go.bits .and .u64 (Go.bits .xor .u64 ((rd_T39 l0 x3_1).f0) ((rd_T39 l0 x3_1).f1)) 9223372036854775808) != 0)) = false := by simpa using c66
                                              (try (have c66b1 : decide (t267 = ((Go.bits .and .u64 (Go.bits .xor .u64 ((rd_T39 l0 x3_1).f0) ((rd_T39 l0 x3_1).f1)) 9223372036854775808) != 0)) = true := by simpa using c66))
                                              (try (have c66b2 : (t267 == ((Go.bits .and .u64 (Go.bits .xor .u64 ((rd_T39 l0 x3_1).f0) ((rd_T39 l0 x3_1).f1)) 9223372036854775808) != 0)) = true := by simpa using c66))
                                              clear c66
                                              have H' := Aside0.mk H
                                              clear H
                                              go_wp2_with (first | ((with_reducible refine gate_callee (f := 81) rfl ?_); refine goesL_ (some 103) rfl rfl Try.func81 (by kernel_rfl) rfl #[.int .u64 ((rd_T39 l0 x3_1).f0), .int .u64 ((rd_T39 l0 x3_1).f1), .int .u64 (Go.bits .xor .u64 t247 9223372036854775808)] rfl (by (try simp only [List.map_toArray, List.map_cons, List.map_nil]); first | done | rfl | (simp only [List.length_drop, List.length_take]; rfl) | (simp only [gt_iff_lt, Int.natCast_pos]; rfl)) ?_; (with_reducible refine (float_Fma.calls ((rd_T39 l0 x3_1).f0) ((rd_T39 l0 x3_1).f1) (Go.bits .xor .u64 t247 9223372036854775808) t249 _ A54.out).mono ?_); rintro e w' ⟨rfl, ⟨nd, rfl⟩⟩; refine ⟨_, rfl, ?_⟩; (try (rw [drewN_self wc]; generalize hq_ : World.drewN wc _ = wc; have n0_ : Aside0 (Below w.heap.size w wc) := ⟨by rw [← hq_]; exact (by repeat (first | (with_reducible first | exact HB.out | apply below_alloc | apply pw_below_drewN | apply below_drew1) | exact HB.out))⟩; clear HB hq_; have HB := n0_; clear n0_))) | ((with_reducible refine gate_callee (f := 20) rfl ?_); refine goesL_ (some 105) rfl rfl Try.func20 (by kernel_rfl) rfl #[.int .u64 ((rd_T39 l0 x3_1).f0)] rfl (by (try simp only [List.map_toArray, List.map_cons, List.map_nil]); first | done | rfl | (simp only [List.length_drop, List.length_take]; rfl) | (simp only [gt_iff_lt, Int.natCast_pos]; rfl)) ?_; (with_reducible refine (fathomlaw3_units.calls kj49 ((rd_T39 l0 x3_1).f0) t250 _ A55.out).mono ?_); rintro e w84 ⟨v251, rfl, ho0, hb⟩; refine ⟨_, rfl, ?_⟩; have n0_ := Aside0.mk (Kd.R_lower ho0 (below_size (by repeat (first | (with_reducible first | exact HB.out | apply below_alloc | apply pw_below_drewN | apply below_drew1) | exact HB.out)))); have n1_ := Aside0.mk (below_step (by repeat (first | (with_reducible first | exact HB.out | apply below_alloc | apply pw_below_drewN | apply below_drew1) | exact HB.out)) hb); clear HB; have HO252 := n0_; have HB := n1_; clear n0_ n1_; (try clear hb); (try clear hb2); (try clear hk); (try clear hi); (try clear ho0)) | ((with_reducible refine gate_callee (f := 20) rfl ?_); refine goesL_ (some 107) rfl rfl Try.func20 (by kernel_rfl) rfl #[.int .u64 ((rd_T39 l0 x3_1).f1)] rfl (by (try simp only [List.map_toArray, List.map_cons, List.map_nil]); first | done | rfl | (simp only [List.length_drop, List.length_take]; rfl) | (simp only [gt_iff_lt, Int.natCast_pos]; rfl)) ?_; (with_reducible refine (fathomlaw3_units.calls kj49 ((rd_T39 l0 x3_1).f1) t253 _ A56.out).mono ?_); rintro e w85 ⟨v254, rfl, ho0, hb⟩; refine ⟨_, rfl, ?_⟩; have n0_ := Aside0.mk (Kd.R_elder' (by (with_reducible repeat (first | apply Kd.R_alloc | apply Kd.R_drewN | apply Kd.R_drew)); exact HO252.out) (Kd.R_base ho0) hb); have n1_ := Aside0.mk (Kd.R_lower (Kd.R_new' ho0 (Kd.R_lt (by (with_reducible repeat (first | apply Kd.R_alloc | apply Kd.R_drewN | apply Kd.R_drew)); exact HO252.out))) (below_size (by repeat (first | (with_reducible first | exact HB.out | apply below_alloc | apply pw_below_drewN | apply below_drew1) | exact HB.out)))); have n2_ := Aside0.mk (below_step (by repeat (first | (with_reducible first | exact HB.out | apply below_alloc | apply pw_below_drewN | apply below_drew1) | exact HB.out)) hb); clear HO252; clear HB; have HO252 := n0_; have HO255 := n1_; have HB := n2_; clear n0_ n1_ n2_; (try clear hb); (try clear hb2); (try clear hk); (try clear hi); (try clear ho0); obtain ⟨Ao86, co86, eo86⟩ := Kd.R_slice HO252.out; subst eo86; obtain ⟨Ao87, co87, eo87⟩ := Kd.R_slice HO255.out; subst eo87) | ((with_reducible refine gate_callee (f := 27) rfl ?_); refine goesL_ (some 108) rfl rfl Try.func27 (by kernel_rfl) rfl #[.slice Ao86 t250.length co86, .slice Ao87 t253.length co87] rfl (by (try simp only [List.map_toArray, List.map_cons, List.map_nil]); first | done | rfl | (simp only [List.length_drop, List.length_take]; rfl) | (simp only [gt_iff_lt, Int.natCast_pos]; rfl)) ?_; (with_reducible refine (fathomref3_Times.calls kj49 _ _ t250 _ _ t253 t256 _ ?side1 ?side2 ?side3 ?side4 A57.out).mono ?_); (case side1 => repeat (first | exact (Kd.R_reads' HO252.out).2.2 | (with_reducible refine Kd.C_alloc ?_ _) | (with_reducible refine Kd.C_drewN ?_ _) | (with_reducible refine Kd.C_drew ?_))); (case side2 => exact (Kd.R_reads' HO252.out).2.1); (case side3 => repeat (first | exact (Kd.R_reads' HO255.out).2.2 | (with_reducible refine Kd.C_alloc ?_ _) | (with_reducible refine Kd.C_drewN ?_ _) | (with_reducible refine Kd.C_drew ?_))); (case side4 => exact (Kd.R_reads' HO255.out).2.1); rintro e w88 ⟨v257, rfl, ho0, hb⟩; refine ⟨_, rfl, ?_⟩; have n0_ := Aside0.mk (Kd.R_elder' (by (with_reducible repeat (first | apply Kd.R_alloc | apply Kd.R_drewN | apply Kd.R_drew)); exact HO252.out) (Kd.R_base ho0) hb); have n1_ := Aside0.mk (Kd.R_elder' (by (with_reducible repeat (first | apply Kd.R_alloc | apply Kd.R_drewN | apply Kd.R_drew)); exact HO255.out) (Kd.R_base ho0) hb); have n2_ := Aside0.mk (Kd.R_lower (Kd.R_new' (Kd.R_new' ho0 (Kd.R_lt (by (with_reducible repeat (first | apply Kd.R_alloc | apply Kd.R_drewN | apply Kd.R_drew)); exact HO252.out))) (Kd.R_lt (by (with_reducible repeat (first | apply Kd.R_alloc | apply Kd.R_drewN | apply Kd.R_drew)); exact HO255.out))) (below_size (by repeat (first | (with_reducible first | exact HB.out | apply below_alloc | apply pw_below_drewN | apply below_drew1) | exact HB.out)))); have n3_ := Aside0.mk (below_step (by repeat (first | (with_reducible first | exact HB.out | apply below_alloc | apply pw_below_drewN | apply below_drew1) | exact HB.out)) hb); clear HO252; clear HO255; clear HB; have HO252 := n0_; have HO255 := n1_; have HO258 := n2_; have HB := n3_; clear n0_ n1_ n2_ n3_; (try clear hb); (try clear hb2); (try clear hk); (try clear hi); (try clear ho0)) | ((with_reducible refine gate_callee (f := 80) rfl ?_); refine goesL_ (some 110) rfl rfl Try.func80 (by kernel_rfl) rfl #[.int .u64 t247] rfl (by (try simp only [List.map_toArray, List.map_cons, List.map_nil]); first | done | rfl | (simp only [List.length_drop, List.length_take]; rfl) | (simp only [gt_iff_lt, Int.natCast_pos]; rfl)) ?_; (with_reducible refine (fathomlaw3_of.calls kj49 t247 t259 t260 _ A58.out).mono ?_); rintro e w89 ⟨v261, rfl, ho0, hb⟩; refine ⟨_, rfl, ?_⟩; have n0_ := Aside0.mk (Kd.R_elder' (by (with_reducible repeat (first | apply Kd.R_alloc | apply Kd.R_drewN | apply Kd.R_drew)); exact HO252.out) (Kd.R_base ho0) hb); have n1_ := Aside0.mk (Kd.R_elder' (by (with_reducible repeat (first | apply Kd.R_alloc | apply Kd.R_drewN | apply Kd.R_drew)); exact HO255.out) (Kd.R_base ho0) hb); have n2_ := Aside0.mk (Kd.R_elder' (by (with_reducible repeat (first | apply Kd.R_alloc | apply Kd.R_drewN | apply Kd.R_drew)); exact HO258.out) (Kd.R_base ho0) hb); have n3_ := Aside0.mk (Kd.R_lower (Kd.R_new' (Kd.R_new' (Kd.R_new' ho0 (Kd.R_lt (by (with_reducible repeat (first | apply Kd.R_alloc | apply Kd.R_drewN | apply Kd.R_drew)); exact HO252.out))) (Kd.R_lt (by (with_reducible repeat (first | apply Kd.R_alloc | apply Kd.R_drewN | apply Kd.R_drew)); exact HO255.out))) (Kd.R_lt (by (with_reducible repeat (first | apply Kd.R_alloc | apply Kd.R_drewN | apply Kd.R_drew)); exact HO258.out))) (below_size (by repeat (first | (with_reducible first | exact HB.out | apply below_alloc | apply pw_below_drewN | apply below_drew1) | exact HB.out)))); have n4_ := Aside0.mk (below_step (by repeat (first | (with_reducible first | exact HB.out | apply below_alloc | apply pw_below_drewN | apply below_drew1) | exact HB.out)) hb); clear HO252; clear HO255; clear HO258; clear HB; have HO252 := n0_; have HO255 := n1_; have HO258 := n2_; have HO262 := n3_; have HB := n4_; clear n0_ n1_ n2_ n3_ n4_; (try clear hb); (try clear hb2); (try clear hk); (try clear hi); (try clear ho0)) | ((with_reducible refine gate_callee (f := 80) rfl ?_); refine goesL_ (some 112) rfl rfl Try.func80 (by kernel_rfl) rfl #[.int .u64 t249] rfl (by (try simp only [List.map_toArray, List.map_cons, List.map_nil]); first | done | rfl | (simp only [List.length_drop, List.length_take]; rfl) | (simp only [gt_iff_lt, Int.natCast_pos]; rfl)) ?_; (with_reducible refine (fathomlaw3_of.calls kj49 t249 t263 t264 _ A59.out).mono ?_); rintro e w90 ⟨v265, rfl, ho0, hb⟩; refine ⟨_, rfl, ?_⟩; have n0_ := Aside0.mk (Kd.R_elder' (by (with_reducible repeat (first | apply Kd.R_alloc | apply Kd.R_drewN | apply Kd.R_drew)); exact HO252.out) (Kd.R_base ho0) hb); have n1_ := Aside0.mk (Kd.R_elder' (by (with_reducible repeat (first | apply Kd.R_alloc | apply Kd.R_drewN | apply Kd.R_drew)); exact HO255.out) (Kd.R_base ho0) hb); have n2_ := Aside0.mk (Kd.R_elder' (by (with_reducible repeat (first | apply Kd.R_alloc | apply Kd.R_drewN | apply Kd.R_drew)); exact HO258.out) (Kd.R_base ho0) hb); have n3_ := Aside0.mk (Kd.R_elder' (by (with_reducible repeat (first | apply Kd.R_alloc | apply Kd.R_drewN | apply Kd.R_drew)); exact HO262.out) (Kd.R_base ho0) hb); have n4_ := Aside0.mk (Kd.R_lower (Kd.R_new' (Kd.R_new' (Kd.R_new' (Kd.R_new' ho0 (Kd.R_lt (by (with_reducible repeat (first | apply Kd.R_alloc | apply Kd.R_drewN | apply Kd.R_drew)); exact HO252.out))) (Kd.R_lt (by (with_reducible repeat (first | apply Kd.R_alloc | apply Kd.R_drewN | apply Kd.R_drew)); exact HO255.out))) (Kd.R_lt (by (with_reducible repeat (first | apply Kd.R_alloc | apply Kd.R_drewN | apply Kd.R_drew)); exact HO258.out))) (Kd.R_lt (by (with_reducible repeat (first | apply Kd.R_alloc | apply Kd.R_drewN | apply Kd.R_drew)); exact HO262.out))) (below_size (by repeat (first | (with_reducible first | exact HB.out | apply below_alloc | apply pw_below_drewN | apply below_drew1) | exact HB.out)))); have n5_ := Aside0.mk (below_step (by repeat (first | (with_reducible first | exact HB.out | apply below_alloc | apply pw_below_drewN | apply below_drew1) | exact HB.out)) hb); clear HO252; clear HO255; clear HO258; clear HO262; clear HB; have HO252 := n0_; have HO255 := n1_; have HO258 := n2_; have HO262 := n3_; have HO266 := n4_; have HB := n5_; clear n0_ n1_ n2_ n3_ n4_ n5_; (try clear hb); (try clear hb2); (try clear hk); (try clear hi); (try clear ho0); obtain ⟨Ao91, co91, eo91⟩ := Kd.R_slice HO262.out; subst eo91; obtain ⟨Ao92, co92, eo92⟩ := Kd.R_slice HO266.out; subst eo92) | ((with_reducible refine gate_callee (f := 79) rfl ?_); refine goesL_ (some 113) rfl rfl Try.func79 (by kernel_rfl) rfl #[.agg #[.bool t259, .slice Ao91 t260.length co91], .agg #[.bool t263, .slice Ao92 t264.length co92]] rfl (by (try simp only [List.map_toArray, List.map_cons, List.map_nil]); first | done | rfl | (simp only [List.length_drop, List.length_take]; rfl) | (simp only [gt_iff_lt, Int.natCast_pos]; rfl)) ?_; (with_reducible refine (fathomlaw3_plus.calls kj49 t259 _ _ t260 t263 _ _ t264 t267 t268 _ ?side1 ?side2 ?side3 ?side4 A60.out).mono ?_); (case side1 => repeat (first | exact (Kd.R_reads' HO262.out).2.2 | (with_reducible refine Kd.C_alloc ?_ _) | (with_reducible refine Kd.C_drewN ?_ _) | (with_reducible refine Kd.C_drew ?_))); (case side2 => exact (Kd.R_reads' HO262.out).2.1); (case side3 => repeat (first | exact (Kd.R_reads' HO266.out).2.2 | (with_reducible refine Kd.C_alloc ?_ _) | (with_reducible refine Kd.C_drewN ?_ _) | (with_reducible refine Kd.C_drew ?_))); (case side4 => exact (Kd.R_reads' HO266.out).2.1); rintro e w93 ⟨v269, rfl, ho0, hb⟩; refine ⟨_, rfl, ?_⟩; have n0_ := Aside0.mk (Kd.R_elder' (by (with_reducible repeat (first | apply Kd.R_alloc | apply Kd.R_drewN | apply Kd.R_drew)); exact HO252.out) (Kd.R_base ho0) hb); have n1_ := Aside0.mk (Kd.R_elder' (by (with_reducible repeat (first | apply Kd.R_alloc | apply Kd.R_drewN | apply Kd.R_drew)); exact HO255.out) (Kd.R_base ho0) hb); have n2_ := Aside0.mk (Kd.R_elder' (by (with_reducible repeat (first | apply Kd.R_alloc | apply Kd.R_drewN | apply Kd.R_drew)); exact HO258.out) (Kd.R_base ho0) hb); have n3_ := Aside0.mk (Kd.R_elder' (by (with_reducible repeat (first | apply Kd.R_alloc | apply Kd.R_drewN | apply Kd.R_drew)); exact HO262.out) (Kd.R_base ho0) hb); have n4_ := Aside0.mk (Kd.R_elder' (by (with_reducible repeat (first | apply Kd.R_alloc | apply Kd.R_drewN | apply Kd.R_drew)); exact HO266.out) (Kd.R_base ho0) hb); have n5_ := Aside0.mk (Kd.R_lower (Kd.R_new' (Kd.R_new' (Kd.R_new' (Kd.R_new' (Kd.R_new' ho0 (Kd.R_lt (by (with_reducible repeat (first | apply Kd.R_alloc | apply Kd.R_drewN | apply Kd.R_drew)); exact HO252.out))) (Kd.R_lt (by (with_reducible repeat (first | apply Kd.R_alloc | apply Kd.R_drewN | apply Kd.R_drew)); exact HO255.out))) (Kd.R_lt (by (with_reducible repeat (first | apply Kd.R_alloc | apply Kd.R_drewN | apply Kd.R_drew)); exact HO258.out))) (Kd.R_lt (by (with_reducible repeat (first | apply Kd.R_alloc | apply Kd.R_drewN | apply Kd.R_drew)); exact HO262.out))) (Kd.R_lt (by (with_reducible repeat (first | apply Kd.R_alloc | apply Kd.R_drewN | apply Kd.R_drew)); exact HO266.out))) (below_size (by repeat (first | (with_reducible first | exact HB.out | apply below_alloc | apply pw_below_drewN | apply below_drew1) | exact HB.out)))); have n6_ := Aside0.mk (below_step (by repeat (first | (with_reducible first | exact HB.out | apply below_alloc | apply pw_below_drewN | apply below_drew1) | exact HB.out)) hb); clear HO252; clear HO255; clear HO258; clear HO262; clear HO266; clear HB; have HO252 := n0_; have HO255 := n1_; have HO258 := n2_; have HO262 := n3_; have HO266 := n4_; have HO270 := n5_; have HB := n6_; clear n0_ n1_ n2_ n3_ n4_ n5_ n6_; (try clear hb); (try clear hb2); (try clear hk); (try clear hi); (try clear ho0)) | ((with_reducible refine gate_dst (N := 13) rfl ?_); refine box_event ?hg (N := 13) ?hd (cs := #[.bool false, .slice none 0 0]) (t := 78) ?hr ?_; (case hd => rfl); (case hg => rfl); (case hr => first | (go_simp; done) | (go_simp; rfl)); intro gb271 hg w94 hbox hb; have n0_ := Aside0.mk (Kd.R_below (by (with_reducible repeat (first | apply Kd.R_alloc | apply Kd.R_drewN | apply Kd.R_drew)); exact HO252.out) hb); have n1_ := Aside0.mk (Kd.R_below (by (with_reducible repeat (first | apply Kd.R_alloc | apply Kd.R_drewN | apply Kd.R_drew)); exact HO255.out) hb); have n2_ := Aside0.mk (Kd.R_below (by (with_reducible repeat (first | apply Kd.R_alloc | apply Kd.R_drewN | apply Kd.R_drew)); exact HO258.out) hb); have n3_ := Aside0.mk (Kd.R_below (by (with_reducible repeat (first | apply Kd.R_alloc | apply Kd.R_drewN | apply Kd.R_drew)); exact HO262.out) hb); have n4_ := Aside0.mk (Kd.R_below (by (with_reducible repeat (first | apply Kd.R_alloc | apply Kd.R_drewN | apply Kd.R_drew)); exact HO266.out) hb); have n5_ := Aside0.mk (Kd.R_below (by (with_reducible repeat (first | apply Kd.R_alloc | apply Kd.R_drewN | apply Kd.R_drew)); exact HO270.out) hb); have n6_ := Aside0.mk (below_step (by repeat (first | (with_reducible first | exact HB.out | apply below_alloc | apply pw_below_drewN | apply below_drew1) | exact HB.out)) hb); have n7_ := Aside0.mk (hbox); have n8_ := Aside0.mk ((by rw [hg]; exact (below_size (by repeat (first | (with_reducible first | exact HB.out | apply below_alloc | apply pw_below_drewN | apply below_drew1) | exact HB.out))) : w.heap.size ≤ gb271)); have n9_ := Aside0.mk ((by rw [hg]; exact (below_size (by repeat (first | (with_reducible first | exact HB.out | apply below_alloc | apply pw_below_drewN | apply below_drew1) | exact HB.out))) : w.heap.size ≤ gb271)); clear HO252; clear HO255; clear HO258; clear HO262; clear HO266; clear HO270; clear HB; have HO252 := n0_; have HO255 := n1_; have HO258 := n2_; have HO262 := n3_; have HO266 := n4_; have HO270 := n5_; have HB := n6_; have BK271 := n7_; have GW271 := n8_; have GE271 := n9_; clear n0_ n1_ n2_ n3_ n4_ n5_ n6_ n7_ n8_ n9_; clear hb hbox hg; have hcz95_0 : w94.cell? ⟨gb271, 0, none⟩ = some (.bool false) := (blk_cell BK271.out 0).trans rfl; have hcz95_1 : w94.cell? ⟨gb271, 1, none⟩ = some (.slice none 0 0) := (blk_cell BK271.out 1).trans rfl; have hfz95_0 := blk_frozen BK271.out 0; have hfz95_1 := blk_frozen BK271.out 1; obtain ⟨Ao96, co96, eo96⟩ := Kd.R_slice HO270.out; subst eo96) | ((with_reducible refine gate_callee (f := 16) rfl ?_); refine goesL_ (some 115) rfl rfl Try.func16 (by kernel_rfl) rfl #[.int .u64 t249] rfl (by (try simp only [List.map_toArray, List.map_cons, List.map_nil]); first | done | rfl | (simp only [List.length_drop, List.length_take]; rfl) | (simp only [gt_iff_lt, Int.natCast_pos]; rfl)) ?_; (with_reducible refine (fathomlaw3_finite.calls t249 true _ A61.out).mono ?_); rintro e w' ⟨rfl, ⟨nd, rfl⟩⟩; refine ⟨_, rfl, ?_⟩) | (go_at_call 19; (with_reducible refine (fathomref3_Up2.calls kj49 _ _ t268 1074 t273 _ ?side1 ?side2 A63.out).mono ?_); (case side1 => refine (Kd.R_reads' (e := 25) (base := w.heap.size) (ok := fun k_ => (((((True ∧ some k_ ≠ (.slice Ao86 t250.length co86 : Value).ownBlock) ∧ some k_ ≠ (.slice Ao87 t253.length co87 : Value).ownBlock) ∧ some k_ ≠ (v257 : Value).ownBlock) ∧ some k_ ≠ (.slice Ao91 t260.length co91 : Value).ownBlock) ∧ some k_ ≠ (.slice Ao92 t264.length co92 : Value).ownBlock)) (n := t268.length) (c := co96) ?_).2.2; exact (by (with_reducible repeat (first | apply Kd.R_alloc | apply Kd.R_drewN | apply Kd.R_drew)); exact (Kd.R_mono (Kd.R_far (p := ⟨gb271, 1, none⟩) (Kd.R_far (p := ⟨gb271, 0, none⟩) (Kd.R_types HO270.out BK271.out (by decide)) (fun _ hk => hk.2) (.bool t267)) (fun _ hk => hk.2) (.slice Ao96 t268.length co96)) (fun _ h_ => h_.1)))); (case side2 => exact (Kd.R_reads' HO270.out).2.1); rintro e w97 ⟨v274, rfl, ho0, hb⟩; have n0_ := Aside0.mk (Kd.R_elder' (by (with_reducible repeat (first | apply Kd.R_alloc | apply Kd.R_drewN | apply Kd.R_drew)); exact (Kd.R_mono (Kd.R_far (p := ⟨gb271, 1, none⟩) (Kd.R_far (p := ⟨gb271, 0, none⟩) (Kd.R_types HO252.out BK271.out (by decide)) (fun _ hk => hk.2) (.bool t267)) (fun _ hk => hk.2) (.slice Ao96 t268.length co96)) (fun _ h_ => h_.1))) (Kd.R_base ho0) hb); have n1_ := Aside0.mk (Kd.R_elder' (by (with_reducible repeat (first | apply Kd.R_alloc | apply Kd.R_drewN | apply Kd.R_drew)); exact (Kd.R_mono (Kd.R_far (p := ⟨gb271, 1, none⟩) (Kd.R_far (p := ⟨gb271, 0, none⟩) (Kd.R_types HO255.out BK271.out (by decide)) (fun _ hk => hk.2) (.bool t267)) (fun _ hk => hk.2) (.slice Ao96 t268.length co96)) (fun _ h_ => h_.1))) (Kd.R_base ho0) hb); have n2_ := Aside0.mk (Kd.R_elder' (by (with_reducible repeat (first | apply Kd.R_alloc | apply Kd.R_drewN | apply Kd.R_drew)); exact (Kd.R_mono (Kd.R_far (p := ⟨gb271, 1, none⟩) (Kd.R_far (p := ⟨gb271, 0, none⟩) (Kd.R_types HO258.out BK271.out (by decide)) (fun _ hk => hk.2) (.bool t267)) (fun _ hk => hk.2) (.slice Ao96 t268.length co96)) (fun _ h_ => h_.1))) (Kd.R_base ho0) hb); have n3_ := Aside0.mk (Kd.R_elder' (by (with_reducible repeat (first | apply Kd.R_alloc | apply Kd.R_drewN | apply Kd.R_drew)); exact (Kd.R_mono (Kd.R_far (p := ⟨gb271, 1, none⟩) (Kd.R_far (p := ⟨gb271, 0, none⟩) (Kd.R_types HO262.out BK271.out (by decide)) (fun _ hk => hk.2) (.bool t267)) (fun _ hk => hk.2) (.slice Ao96 t268.length co96)) (fun _ h_ => h_.1))) (Kd.R_base ho0) hb); have n4_ := Aside0.mk (Kd.R_elder' (by (with_reducible repeat (first | apply Kd.R_alloc | apply Kd.R_drewN | apply Kd.R_drew)); exact (Kd.R_mono (Kd.R_far (p := ⟨gb271, 1, none⟩) (Kd.R_far (p := ⟨gb271, 0, none⟩) (Kd.R_types HO266.out BK271.out (by decide)) (fun _ hk => hk.2) (.bool t267)) (fun _ hk => hk.2) (.slice Ao96 t268.length co96)) (fun _ h_ => h_.1))) (Kd.R_base ho0) hb); have n5_ := Aside0.mk (Kd.R_elder' (by (with_reducible repeat (first | apply Kd.R_alloc | apply Kd.R_drewN | apply Kd.R_drew)); exact (Kd.R_mono (Kd.R_far (p := ⟨gb271, 1, none⟩) (Kd.R_far (p := ⟨gb271, 0, none⟩) (Kd.R_types HO270.out BK271.out (by decide)) (fun _ hk => hk.2) (.bool t267)) (fun _ hk => hk.2) (.slice Ao96 t268.length co96)) (fun _ h_ => h_.1))) (Kd.R_base ho0) hb); have n6_ := Aside0.mk (Kd.R_lower (Kd.R_new' (Kd.R_new' (Kd.R_new' (Kd.R_new' (Kd.R_new' (Kd.R_new' ho0 (Kd.R_lt (by (with_reducible repeat (first | apply Kd.R_alloc | apply Kd.R_drewN | apply Kd.R_drew)); exact (Kd.R_mono (Kd.R_far (p := ⟨gb271, 1, none⟩) (Kd.R_far (p := ⟨gb271, 0, none⟩) (Kd.R_types HO252.out BK271.out (by decide)) (fun _ hk => hk.2) (.bool t267)) (fun _ hk => hk.2) (.slice Ao96 t268.length co96)) (fun _ h_ => h_.1))))) (Kd.R_lt (by (with_reducible repeat (first | apply Kd.R_alloc | apply Kd.R_drewN | apply Kd.R_drew)); exact (Kd.R_mono (Kd.R_far (p := ⟨gb271, 1, none⟩) (Kd.R_far (p := ⟨gb271, 0, none⟩) (Kd.R_types HO255.out BK271.out (by decide)) (fun _ hk => hk.2) (.bool t267)) (fun _ hk => hk.2) (.slice Ao96 t268.length co96)) (fun _ h_ => h_.1))))) (Kd.R_lt (by (with_reducible repeat (first | apply Kd.R_alloc | apply Kd.R_drewN | apply Kd.R_drew)); exact (Kd.R_mono (Kd.R_far (p := ⟨gb271, 1, none⟩) (Kd.R_far (p := ⟨gb271, 0, none⟩) (Kd.R_types HO258.out BK271.out (by decide)) (fun _ hk => hk.2) (.bool t267)) (fun _ hk => hk.2) (.slice Ao96 t268.length co96)) (fun _ h_ => h_.1))))) (Kd.R_lt (by (with_reducible repeat (first | apply Kd.R_alloc | apply Kd.R_drewN | apply Kd.R_drew)); exact (Kd.R_mono (Kd.R_far (p := ⟨gb271, 1, none⟩) (Kd.R_far (p := ⟨gb271, 0, none⟩) (Kd.R_types HO262.out BK271.out (by decide)) (fun _ hk => hk.2) (.bool t267)) (fun _ hk => hk.2) (.slice Ao96 t268.length co96)) (fun _ h_ => h_.1))))) (Kd.R_lt (by (with_reducible repeat (first | apply Kd.R_alloc | apply Kd.R_drewN | apply Kd.R_drew)); exact (Kd.R_mono (Kd.R_far (p := ⟨gb271, 1, none⟩) (Kd.R_far (p := ⟨gb271, 0, none⟩) (Kd.R_types HO266.out BK271.out (by decide)) (fun _ hk => hk.2) (.bool t267)) (fun _ hk => hk.2) (.slice Ao96 t268.length co96)) (fun _ h_ => h_.1))))) (Kd.R_lt (by (with_reducible repeat (first | apply Kd.R_alloc | apply Kd.R_drewN | apply Kd.R_drew)); exact (Kd.R_mono (Kd.R_far (p := ⟨gb271, 1, none⟩) (Kd.R_far (p := ⟨gb271, 0, none⟩) (Kd.R_types HO270.out BK271.out (by decide)) (fun _ hk => hk.2) (.bool t267)) (fun _ hk => hk.2) (.slice Ao96 t268.length co96)) (fun _ h_ => h_.1))))) (below_size (by repeat (first | (with_reducible first | exact HB.out | apply below_alloc | apply pw_below_drewN | apply below_drew1 | refine below_set ?_ GE271.out) | exact HB.out)))); have n7_ := Aside0.mk (blk_below (g := gb271) (o := .cells #[.bool t267, .slice Ao96 t268.length co96] 78 (0, 0)) (by (with_reducible repeat (first | refine blk_drewN ?_ _ | refine blk_drew ?_ | refine blk_alloc ?_ _)); refine blk_put (cs := #[.bool t267, .slice none 0 0]) ?_ 1 _ rfl; (with_reducible repeat (first | refine blk_drewN ?_ _ | refine blk_drew ?_ | refine blk_alloc ?_ _)); refine blk_put (cs := #[.bool false, .slice none 0 0]) ?_ 0 _ rfl; (with_reducible repeat (first | refine blk_drewN ?_ _ | refine blk_drew ?_ | refine blk_alloc ?_ _)); exact BK271.out) hb); have n8_ := Aside0.mk (below_step (by repeat (first | (with_reducible first | exact HB.out | apply below_alloc | apply pw_below_drewN | apply below_drew1 | refine below_set ?_ GE271.out) | exact HB.out)) hb); clear HO252; clear HO255; clear HO258; clear HO262; clear HO266; clear HO270; clear BK271; clear HB; have HO252 := n0_; have HO255 := n1_; have HO258 := n2_; have HO262 := n3_; have HO266 := n4_; have HO270 := n5_; have HO275 := n6_; have BK271 := n7_; have HB := n8_; clear n0_ n1_ n2_ n3_ n4_ n5_ n6_ n7_ n8_; (try clear hb); (try clear hb2); (try clear hk); (try clear hi); (try clear ho0); obtain ⟨Ao98, co98, eo98⟩ := Kd.R_slice HO258.out; subst eo98; obtain ⟨Ao99, co99, eo99⟩ := Kd.R_slice HO275.out; subst eo99) | (go_at_call 82; (with_reducible refine (fathomref0_EqNat.calls kj49 _ _ t256 _ _ t273 true _ ?side1 ?side2 ?side3 ?side4 A64.out).mono ?_); (case side1 => repeat (first | exact (Kd.R_reads' HO258.out).2.2 | (with_reducible refine Kd.C_alloc ?_ _) | (with_reducible refine Kd.C_drewN ?_ _) | (with_reducible refine Kd.C_drew ?_))); (case side2 => exact (Kd.R_reads' HO258.out).2.1); (case side3 => repeat (first | exact (Kd.R_reads' HO275.out).2.2 | (with_reducible refine Kd.C_alloc ?_ _) | (with_reducible refine Kd.C_drewN ?_ _) | (with_reducible refine Kd.C_drew ?_))); (case side4 => exact (Kd.R_reads' HO275.out).2.1); rintro e w' ⟨rfl, ⟨nd, rfl⟩⟩; have hcz100_0 : w97.cell? ⟨gb271, 0, none⟩ = some (.bool t267) := (blk_cell BK271.out 0).trans rfl; have hcz100_1 : w97.cell? ⟨gb271, 1, none⟩ = some (.slice Ao96 t268.length co96) := (blk_cell BK271.out 1).trans rfl; have hfz100_0 := blk_frozen BK271.out 0; have hfz100_1 := blk_frozen BK271.out 1))
                                              go_roundg kj49
                                              case measure => have := HK1.out; have := HJ1.out; have := HJ7.out; have := HJ16.out; have := HJ24.out; have := HJ49.out; omega
                                              case rel => exact ⟨(wrap64 (x3_1 + 1)), (by first | rfl | (simp; done) | (simp [*]; done)), H', ⟨by have := HK1.out; have := HJ1.out; have := HJ7.out; have := HJ16.out; have := HJ24.out; have := HJ49.out; omega⟩, ⟨by repeat (first | (with_reducible first | exact HB.out | apply below_alloc | apply pw_below_drewN | apply below_drew1 | refine below_set ?_ GE271.out) | exact HB.out)⟩⟩
                                          · replace c65 := Bool.eq_false_iff.mpr c65
                                            subst c65
                                            have H1 : (some false) = some r := by rw [if_neg (show ¬ (false = true) by decide)] at H; exact H
                                            clear H
                                            have H := H1
                                            clear H1
                                            obtain rfl := Option.some.inj H
                                            go_wp2_with (first | ((with_reducible refine gate_callee (f := 81) rfl ?_); refine goesL_ (some 103) rfl rfl Try.func81 (by kernel_rfl) rfl #[.int .u64 ((rd_T39 l0 x3_1).f0), .int .u64 ((rd_T39 l0 x3_1).f1), .int .u64 (Go.bits .xor .u64 t247 9223372036854775808)] rfl (by (try simp only [List.map_toArray, List.map_cons, List.map_nil]); first | done | rfl | (simp only [List.length_drop, List.length_take]; rfl) | (simp only [gt_iff_lt, Int.natCast_pos]; rfl)) ?_; (with_reducible refine (float_Fma.calls ((rd_T39 l0 x3_1).f0) ((rd_T39 l0 x3_1).f1) (Go.bits .xor .u64 t247 9223372036854775808) t249 _ A54.out).mono ?_); rintro e w' ⟨rfl, ⟨nd, rfl⟩⟩; refine ⟨_, rfl, ?_⟩; (try (rw [drewN_self wc]; generalize hq_ : World.drewN wc _ = wc; have n0_ : Aside0 (Below w.heap.size w wc) := ⟨by rw [← hq_]; exact (by repeat (first | (with_reducible first | exact HB.out | apply below_alloc | apply pw_below_drewN | apply below_drew1) | exact HB.out))⟩; clear HB hq_; have HB := n0_; clear n0_))) | ((with_reducible refine gate_callee (f := 20) rfl ?_); refine goesL_ (some 105) rfl rfl Try.func20 (by kernel_rfl) rfl #[.int .u64 ((rd_T39 l0 x3_1).f0)] rfl (by (try simp only [List.map_toArray, List.map_cons, List.map_nil]); first | done | rfl | (simp only [List.length_drop, List.length_take]; rfl) | (simp only [gt_iff_lt, Int.natCast_pos]; rfl)) ?_; (with_reducible refine (fathomlaw3_units.calls kj49 ((rd_T39 l0 x3_1).f0) t250 _ A55.out).mono ?_); rintro e w101 ⟨v251, rfl, ho0, hb⟩; refine ⟨_, rfl, ?_⟩; have n0_ := Aside0.mk (Kd.R_lower ho0 (below_size (by repeat (first | (with_reducible first | exact HB.out | apply below_alloc | apply pw_below_drewN | apply below_drew1) | exact HB.out)))); have n1_ := Aside0.mk (below_step (by repeat (first | (with_reducible first | exact HB.out | apply below_alloc | apply pw_below_drewN | apply below_drew1) | exact HB.out)) hb); clear HB; have HO252 := n0_; have HB := n1_; clear n0_ n1_; (try clear hb); (try clear hb2); (try clear hk); (try clear hi); (try clear ho0)) | ((with_reducible refine gate_callee (f := 20) rfl ?_); refine goesL_ (some 107) rfl rfl Try.func20 (by kernel_rfl) rfl #[.int .u64 ((rd_T39 l0 x3_1).f1)] rfl (by (try simp only [List.map_toArray, List.map_cons, List.map_nil]); first | done | rfl | (simp only [List.length_drop, List.length_take]; rfl) | (simp only [gt_iff_lt, Int.natCast_pos]; rfl)) ?_; (with_reducible refine (fathomlaw3_units.calls kj49 ((rd_T39 l0 x3_1).f1) t253 _ A56.out).mono ?_); rintro e w102 ⟨v254, rfl, ho0, hb⟩; refine ⟨_, rfl, ?_⟩; have n0_ := Aside0.mk (Kd.R_elder' (by (with_reducible repeat (first | apply Kd.R_alloc | apply Kd.R_drewN | apply Kd.R_drew)); exact HO252.out) (Kd.R_base ho0) hb); have n1_ := Aside0.mk (Kd.R_lower (Kd.R_new' ho0 (Kd.R_lt (by (with_reducible repeat (first | apply Kd.R_alloc | apply Kd.R_drewN | apply Kd.R_drew)); exact HO252.out))) (below_size (by repeat (first | (with_reducible first | exact HB.out | apply below_alloc | apply pw_below_drewN | apply below_drew1) | exact HB.out)))); have n2_ := Aside0.mk (below_step (by repeat (first | (with_reducible first | exact HB.out | apply below_alloc | apply pw_below_drewN | apply below_drew1) | exact HB.out)) hb); clear HO252; clear HB; have HO252 := n0_; have HO255 := n1_; have HB := n2_; clear n0_ n1_ n2_; (try clear hb); (try clear hb2); (try clear hk); (try clear hi); (try clear ho0); obtain ⟨Ao103, co103, eo103⟩ := Kd.R_slice HO252.out; subst eo103; obtain ⟨Ao104, co104, eo104⟩ := Kd.R_slice HO255.out; subst eo104) | ((with_reducible refine gate_callee (f := 27) rfl ?_); refine goesL_ (some 108) rfl rfl Try.func27 (by kernel_rfl) rfl #[.slice Ao103 t250.length co103, .slice Ao104 t253.length co104] rfl (by (try simp only [List.map_toArray, List.map_cons, List.map_nil]); first | done | rfl | (simp only [List.length_drop, List.length_take]; rfl) | (simp only [gt_iff_lt, Int.natCast_pos]; rfl)) ?_; (with_reducible refine (fathomref3_Times.calls kj49 _ _ t250 _ _ t253 t256 _ ?side1 ?side2 ?side3 ?side4 A57.out).mono ?_); (case side1 => repeat (first | exact (Kd.R_reads' HO252.out).2.2 | (with_reducible refine Kd.C_alloc ?_ _) | (with_reducible refine Kd.C_drewN ?_ _) | (with_reducible refine Kd.C_drew ?_))); (case side2 => exact (Kd.R_reads' HO252.out).2.1); (case side3 => repeat (first | exact (Kd.R_reads' HO255.out).2.2 | (with_reducible refine Kd.C_alloc ?_ _) | (with_reducible refine Kd.C_drewN ?_ _) | (with_reducible refine Kd.C_drew ?_))); (case side4 => exact (Kd.R_reads' HO255.out).2.1); rintro e w105 ⟨v257, rfl, ho0, hb⟩; refine ⟨_, rfl, ?_⟩; have n0_ := Aside0.mk (Kd.R_elder' (by (with_reducible repeat (first | apply Kd.R_alloc | apply Kd.R_drewN | apply Kd.R_drew)); exact HO252.out) (Kd.R_base ho0) hb); have n1_ := Aside0.mk (Kd.R_elder' (by (with_reducible repeat (first | apply Kd.R_alloc | apply Kd.R_drewN | apply Kd.R_drew)); exact HO255.out) (Kd.R_base ho0) hb); have n2_ := Aside0.mk (Kd.R_lower (Kd.R_new' (Kd.R_new' ho0 (Kd.R_lt (by (with_reducible repeat (first | apply Kd.R_alloc | apply Kd.R_drewN | apply Kd.R_drew)); exact HO252.out))) (Kd.R_lt (by (with_reducible repeat (first | apply Kd.R_alloc | apply Kd.R_drewN | apply Kd.R_drew)); exact HO255.out))) (below_size (by repeat (first | (with_reducible first | exact HB.out | apply below_alloc | apply pw_below_drewN | apply below_drew1) | exact HB.out)))); have n3_ := Aside0.mk (below_step (by repeat (first | (with_reducible first | exact HB.out | apply below_alloc | apply pw_below_drewN | apply below_drew1) | exact HB.out)) hb); clear HO252; clear HO255; clear HB; have HO252 := n0_; have HO255 := n1_; have HO258 := n2_; have HB := n3_; clear n0_ n1_ n2_ n3_; (try clear hb); (try clear hb2); (try clear hk); (try clear hi); (try clear ho0)) | ((with_reducible refine gate_callee (f := 80) rfl ?_); refine goesL_ (some 110) rfl rfl Try.func80 (by kernel_rfl) rfl #[.int .u64 t247] rfl (by (try simp only [List.map_toArray, List.map_cons, List.map_nil]); first | done | rfl | (simp only [List.length_drop, List.length_take]; rfl) | (simp only [gt_iff_lt, Int.natCast_pos]; rfl)) ?_; (with_reducible refine (fathomlaw3_of.calls kj49 t247 t259 t260 _ A58.out).mono ?_); rintro e w106 ⟨v261, rfl, ho0, hb⟩; refine ⟨_, rfl, ?_⟩; have n0_ := Aside0.mk (Kd.R_elder' (by (with_reducible repeat (first | apply Kd.R_alloc | apply Kd.R_drewN | apply Kd.R_drew)); exact HO252.out) (Kd.R_base ho0) hb); have n1_ := Aside0.mk (Kd.R_elder' (by (with_reducible repeat (first | apply Kd.R_alloc | apply Kd.R_drewN | apply Kd.R_drew)); exact HO255.out) (Kd.R_base ho0) hb); have n2_ := Aside0.mk (Kd.R_elder' (by (with_reducible repeat (first | apply Kd.R_alloc | apply Kd.R_drewN | apply Kd.R_drew)); exact HO258.out) (Kd.R_base ho0) hb); have n3_ := Aside0.mk (Kd.R_lower (Kd.R_new' (Kd.R_new' (Kd.R_new' ho0 (Kd.R_lt (by (with_reducible repeat (first | apply Kd.R_alloc | apply Kd.R_drewN | apply Kd.R_drew)); exact HO252.out))) (Kd.R_lt (by (with_reducible repeat (first | apply Kd.R_alloc | apply Kd.R_drewN | apply Kd.R_drew)); exact HO255.out))) (Kd.R_lt (by (with_reducible repeat (first | apply Kd.R_alloc | apply Kd.R_drewN | apply Kd.R_drew)); exact HO258.out))) (below_size (by repeat (first | (with_reducible first | exact HB.out | apply below_alloc | apply pw_below_drewN | apply below_drew1) | exact HB.out)))); have n4_ := Aside0.mk (below_step (by repeat (first | (with_reducible first | exact HB.out | apply below_alloc | apply pw_below_drewN | apply below_drew1) | exact HB.out)) hb); clear HO252; clear HO255; clear HO258; clear HB; have HO252 := n0_; have HO255 := n1_; have HO258 := n2_; have HO262 := n3_; have HB := n4_; clear n0_ n1_ n2_ n3_ n4_; (try clear hb); (try clear hb2); (try clear hk); (try clear hi); (try clear ho0)) | ((with_reducible refine gate_callee (f := 80) rfl ?_); refine goesL_ (some 112) rfl rfl Try.func80 (by kernel_rfl) rfl #[.int .u64 t249] rfl (by (try simp only [List.map_toArray, List.map_cons, List.map_nil]); first | done | rfl | (simp only [List.length_drop, List.length_take]; rfl) | (simp only [gt_iff_lt, Int.natCast_pos]; rfl)) ?_; (with_reducible refine (fathomlaw3_of.calls kj49 t249 t263 t264 _ A59.out).mono ?_); rintro e w107 ⟨v265, rfl, ho0, hb⟩; refine ⟨_, rfl, ?_⟩; have n0_ := Aside0.mk (Kd.R_elder' (by (with_reducible repeat (first | apply Kd.R_alloc | apply Kd.R_drewN | apply Kd.R_drew)); exact HO252.out) (Kd.R_base ho0) hb); have n1_ := Aside0.mk (Kd.R_elder' (by (with_reducible repeat (first | apply Kd.R_alloc | apply Kd.R_drewN | apply Kd.R_drew)); exact HO255.out) (Kd.R_base ho0) hb); have n2_ := Aside0.mk (Kd.R_elder' (by (with_reducible repeat (first | apply Kd.R_alloc | apply Kd.R_drewN | apply Kd.R_drew)); exact HO258.out) (Kd.R_base ho0) hb); have n3_ := Aside0.mk (Kd.R_elder' (by (with_reducible repeat (first | apply Kd.R_alloc | apply Kd.R_drewN | apply Kd.R_drew)); exact HO262.out) (Kd.R_base ho0) hb); have n4_ := Aside0.mk (Kd.R_lower (Kd.R_new' (Kd.R_new' (Kd.R_new' (Kd.R_new' ho0 (Kd.R_lt (by (with_reducible repeat (first | apply Kd.R_alloc | apply Kd.R_drewN | apply Kd.R_drew)); exact HO252.out))) (Kd.R_lt (by (with_reducible repeat (first | apply Kd.R_alloc | apply Kd.R_drewN | apply Kd.R_drew)); exact HO255.out))) (Kd.R_lt (by (with_reducible repeat (first | apply Kd.R_alloc | apply Kd.R_drewN | apply Kd.R_drew)); exact HO258.out))) (Kd.R_lt (by (with_reducible repeat (first | apply Kd.R_alloc | apply Kd.R_drewN | apply Kd.R_drew)); exact HO262.out))) (below_size (by repeat (first | (with_reducible first | exact HB.out | apply below_alloc | apply pw_below_drewN | apply below_drew1) | exact HB.out)))); have n5_ := Aside0.mk (below_step (by repeat (first | (with_reducible first | exact HB.out | apply below_alloc | apply pw_below_drewN | apply below_drew1) | exact HB.out)) hb); clear HO252; clear HO255; clear HO258; clear HO262; clear HB; have HO252 := n0_; have HO255 := n1_; have HO258 := n2_; have HO262 := n3_; have HO266 := n4_; have HB := n5_; clear n0_ n1_ n2_ n3_ n4_ n5_; (try clear hb); (try clear hb2); (try clear hk); (try clear hi); (try clear ho0); obtain ⟨Ao108, co108, eo108⟩ := Kd.R_slice HO262.out; subst eo108; obtain ⟨Ao109, co109, eo109⟩ := Kd.R_slice HO266.out; subst eo109) | ((with_reducible refine gate_callee (f := 79) rfl ?_); refine goesL_ (some 113) rfl rfl Try.func79 (by kernel_rfl) rfl #[.agg #[.bool t259, .slice Ao108 t260.length co108], .agg #[.bool t263, .slice Ao109 t264.length co109]] rfl (by (try simp only [List.map_toArray, List.map_cons, List.map_nil]); first | done | rfl | (simp only [List.length_drop, List.length_take]; rfl) | (simp only [gt_iff_lt, Int.natCast_pos]; rfl)) ?_; (with_reducible refine (fathomlaw3_plus.calls kj49 t259 _ _ t260 t263 _ _ t264 t267 t268 _ ?side1 ?side2 ?side3 ?side4 A60.out).mono ?_); (case side1 => repeat (first | exact (Kd.R_reads' HO262.out).2.2 | (with_reducible refine Kd.C_alloc ?_ _) | (with_reducible refine Kd.C_drewN ?_ _) | (with_reducible refine Kd.C_drew ?_))); (case side2 => exact (Kd.R_reads' HO262.out).2.1); (case side3 => repeat (first | exact (Kd.R_reads' HO266.out).2.2 | (with_reducible refine Kd.C_alloc ?_ _) | (with_reducible refine Kd.C_drewN ?_ _) | (with_reducible refine Kd.C_drew ?_))); (case side4 => exact (Kd.R_reads' HO266.out).2.1); rintro e w110 ⟨v269, rfl, ho0, hb⟩; refine ⟨_, rfl, ?_⟩; have n0_ := Aside0.mk (Kd.R_elder' (by (with_reducible repeat (first | apply Kd.R_alloc | apply Kd.R_drewN | apply Kd.R_drew)); exact HO252.out) (Kd.R_base ho0) hb); have n1_ := Aside0.mk (Kd.R_elder' (by (with_reducible repeat (first | apply Kd.R_alloc | apply Kd.R_drewN | apply Kd.R_drew)); exact HO255.out) (Kd.R_base ho0) hb); have n2_ := Aside0.mk (Kd.R_elder' (by (with_reducible repeat (first | apply Kd.R_alloc | apply Kd.R_drewN | apply Kd.R_drew)); exact HO258.out) (Kd.R_base ho0) hb); have n3_ := Aside0.mk (Kd.R_elder' (by (with_reducible repeat (first | apply Kd.R_alloc | apply Kd.R_drewN | apply Kd.R_drew)); exact HO262.out) (Kd.R_base ho0) hb); have n4_ := Aside0.mk (Kd.R_elder' (by (with_reducible repeat (first | apply Kd.R_alloc | apply Kd.R_drewN | apply Kd.R_drew)); exact HO266.out) (Kd.R_base ho0) hb); have n5_ := Aside0.mk (Kd.R_lower (Kd.R_new' (Kd.R_new' (Kd.R_new' (Kd.R_new' (Kd.R_new' ho0 (Kd.R_lt (by (with_reducible repeat (first | apply Kd.R_alloc | apply Kd.R_drewN | apply Kd.R_drew)); exact HO252.out))) (Kd.R_lt (by (with_reducible repeat (first | apply Kd.R_alloc | apply Kd.R_drewN | apply Kd.R_drew)); exact HO255.out))) (Kd.R_lt (by (with_reducible repeat (first | apply Kd.R_alloc | apply Kd.R_drewN | apply Kd.R_drew)); exact HO258.out))) (Kd.R_lt (by (with_reducible repeat (first | apply Kd.R_alloc | apply Kd.R_drewN | apply Kd.R_drew)); exact HO262.out))) (Kd.R_lt (by (with_reducible repeat (first | apply Kd.R_alloc | apply Kd.R_drewN | apply Kd.R_drew)); exact HO266.out))) (below_size (by repeat (first | (with_reducible first | exact HB.out | apply below_alloc | apply pw_below_drewN | apply below_drew1) | exact HB.out)))); have n6_ := Aside0.mk (below_step (by repeat (first | (with_reducible first | exact HB.out | apply below_alloc | apply pw_below_drewN | apply below_drew1) | exact HB.out)) hb); clear HO252; clear HO255; clear HO258; clear HO262; clear HO266; clear HB; have HO252 := n0_; have HO255 := n1_; have HO258 := n2_; have HO262 := n3_; have HO266 := n4_; have HO270 := n5_; have HB := n6_; clear n0_ n1_ n2_ n3_ n4_ n5_ n6_; (try clear hb); (try clear hb2); (try clear hk); (try clear hi); (try clear ho0)) | ((with_reducible refine gate_dst (N := 13) rfl ?_); refine box_event ?hg (N := 13) ?hd (cs := #[.bool false, .slice none 0 0]) (t := 78) ?hr ?_; (case hd => rfl); (case hg => rfl); (case hr => first | (go_simp; done) | (go_simp; rfl)); intro gb271 hg w111 hbox hb; have n0_ := Aside0.mk (Kd.R_below (by (with_reducible repeat (first | apply Kd.R_alloc | apply Kd.R_drewN | apply Kd.R_drew)); exact HO252.out) hb); have n1_ := Aside0.mk (Kd.R_below (by (with_reducible repeat (first | apply Kd.R_alloc | apply Kd.R_drewN | apply Kd.R_drew)); exact HO255.out) hb); have n2_ := Aside0.mk (Kd.R_below (by (with_reducible repeat (first | apply Kd.R_alloc | apply Kd.R_drewN | apply Kd.R_drew)); exact HO258.out) hb); have n3_ := Aside0.mk (Kd.R_below (by (with_reducible repeat (first | apply Kd.R_alloc | apply Kd.R_drewN | apply Kd.R_drew)); exact HO262.out) hb); have n4_ := Aside0.mk (Kd.R_below (by (with_reducible repeat (first | apply Kd.R_alloc | apply Kd.R_drewN | apply Kd.R_drew)); exact HO266.out) hb); have n5_ := Aside0.mk (Kd.R_below (by (with_reducible repeat (first | apply Kd.R_alloc | apply Kd.R_drewN | apply Kd.R_drew)); exact HO270.out) hb); have n6_ := Aside0.mk (below_step (by repeat (first | (with_reducible first | exact HB.out | apply below_alloc | apply pw_below_drewN | apply below_drew1) | exact HB.out)) hb); have n7_ := Aside0.mk (hbox); have n8_ := Aside0.mk ((by rw [hg]; exact (below_size (by repeat (first | (with_reducible first | exact HB.out | apply below_alloc | apply pw_below_drewN | apply below_drew1) | exact HB.out))) : w.heap.size ≤ gb271)); have n9_ := Aside0.mk ((by rw [hg]; exact (below_size (by repeat (first | (with_reducible first | exact HB.out | apply below_alloc | apply pw_below_drewN | apply below_drew1) | exact HB.out))) : w.heap.size ≤ gb271)); clear HO252; clear HO255; clear HO258; clear HO262; clear HO266; clear HO270; clear HB; have HO252 := n0_; have HO255 := n1_; have HO258 := n2_; have HO262 := n3_; have HO266 := n4_; have HO270 := n5_; have HB := n6_; have BK271 := n7_; have GW271 := n8_; have GE271 := n9_; clear n0_ n1_ n2_ n3_ n4_ n5_ n6_ n7_ n8_ n9_; clear hb hbox hg; have hcz112_0 : w111.cell? ⟨gb271, 0, none⟩ = some (.bool false) := (blk_cell BK271.out 0).trans rfl; have hcz112_1 : w111.cell? ⟨gb271, 1, none⟩ = some (.slice none 0 0) := (blk_cell BK271.out 1).trans rfl; have hfz112_0 := blk_frozen BK271.out 0; have hfz112_1 := blk_frozen BK271.out 1; obtain ⟨Ao113, co113, eo113⟩ := Kd.R_slice HO270.out; subst eo113) | ((with_reducible refine gate_callee (f := 16) rfl ?_); refine goesL_ (some 115) rfl rfl Try.func16 (by kernel_rfl) rfl #[.int .u64 t249] rfl (by (try simp only [List.map_toArray, List.map_cons, List.map_nil]); first | done | rfl | (simp only [List.length_drop, List.length_take]; rfl) | (simp only [gt_iff_lt, Int.natCast_pos]; rfl)) ?_; (with_reducible refine (fathomlaw3_finite.calls t249 true _ A61.out).mono ?_); rintro e w' ⟨rfl, ⟨nd, rfl⟩⟩; refine ⟨_, rfl, ?_⟩) | (go_at_call 19; (with_reducible refine (fathomref3_Up2.calls kj49 _ _ t268 1074 t273 _ ?side1 ?side2 A63.out).mono ?_); (case side1 => refine (Kd.R_reads' (e := 25) (base := w.heap.size) (ok := fun k_ => (((((True ∧ some k_ ≠ (.slice Ao103 t250.length co103 : Value).ownBlock) ∧ some k_ ≠ (.slice Ao104 t253.length co104 : Value).ownBlock) ∧ some k_ ≠ (v257 : Value).ownBlock) ∧ some k_ ≠ (.slice Ao108 t260.length co108 : Value).ownBlock) ∧ some k_ ≠ (.slice Ao109 t264.length co109 : Value).ownBlock)) (n := t268.length) (c := co113) ?_).2.2; exact (by (with_reducible repeat (first | apply Kd.R_alloc | apply Kd.R_drewN | apply Kd.R_drew)); exact (Kd.R_mono (Kd.R_far (p := ⟨gb271, 1, none⟩) (Kd.R_far (p := ⟨gb271, 0, none⟩) (Kd.R_types HO270.out BK271.out (by decide)) (fun _ hk => hk.2) (.bool t267)) (fun _ hk => hk.2) (.slice Ao113 t268.length co113)) (fun _ h_ => h_.1)))); (case side2 => exact (Kd.R_reads' HO270.out).2.1); rintro e w114 ⟨v274, rfl, ho0, hb⟩; have n0_ := Aside0.mk (Kd.R_elder' (by (with_reducible repeat (first | apply Kd.R_alloc | apply Kd.R_drewN | apply Kd.R_drew)); exact (Kd.R_mono (Kd.R_far (p := ⟨gb271, 1, none⟩) (Kd.R_far (p := ⟨gb271, 0, none⟩) (Kd.R_types HO252.out BK271.out (by decide)) (fun _ hk => hk.2) (.bool t267)) (fun _ hk => hk.2) (.slice Ao113 t268.length co113)) (fun _ h_ => h_.1))) (Kd.R_base ho0) hb); have n1_ := Aside0.mk (Kd.R_elder' (by (with_reducible repeat (first | apply Kd.R_alloc | apply Kd.R_drewN | apply Kd.R_drew)); exact (Kd.R_mono (Kd.R_far (p := ⟨gb271, 1, none⟩) (Kd.R_far (p := ⟨gb271, 0, none⟩) (Kd.R_types HO255.out BK271.out (by decide)) (fun _ hk => hk.2) (.bool t267)) (fun _ hk => hk.2) (.slice Ao113 t268.length co113)) (fun _ h_ => h_.1))) (Kd.R_base ho0) hb); have n2_ := Aside0.mk (Kd.R_elder' (by (with_reducible repeat (first | apply Kd.R_alloc | apply Kd.R_drewN | apply Kd.R_drew)); exact (Kd.R_mono (Kd.R_far (p := ⟨gb271, 1, none⟩) (Kd.R_far (p := ⟨gb271, 0, none⟩) (Kd.R_types HO258.out BK271.out (by decide)) (fun _ hk => hk.2) (.bool t267)) (fun _ hk => hk.2) (.slice Ao113 t268.length co113)) (fun _ h_ => h_.1))) (Kd.R_base ho0) hb); have n3_ := Aside0.mk (Kd.R_elder' (by (with_reducible repeat (first | apply Kd.R_alloc | apply Kd.R_drewN | apply Kd.R_drew)); exact (Kd.R_mono (Kd.R_far (p := ⟨gb271, 1, none⟩) (Kd.R_far (p := ⟨gb271, 0, none⟩) (Kd.R_types HO262.out BK271.out (by decide)) (fun _ hk => hk.2) (.bool t267)) (fun _ hk => hk.2) (.slice Ao113 t268.length co113)) (fun _ h_ => h_.1))) (Kd.R_base ho0) hb); have n4_ := Aside0.mk (Kd.R_elder' (by (with_reducible repeat (first | apply Kd.R_alloc | apply Kd.R_drewN | apply Kd.R_drew)); exact (Kd.R_mono (Kd.R_far (p := ⟨gb271, 1, none⟩) (Kd.R_far (p := ⟨gb271, 0, none⟩) (Kd.R_types HO266.out BK271.out (by decide)) (fun _ hk => hk.2) (.bool t267)) (fun _ hk => hk.2) (.slice Ao113 t268.length co113)) (fun _ h_ => h_.1))) (Kd.R_base ho0) hb); have n5_ := Aside0.mk (Kd.R_elder' (by (with_reducible repeat (first | apply Kd.R_alloc | apply Kd.R_drewN | apply Kd.R_drew)); exact (Kd.R_mono (Kd.R_far (p := ⟨gb271, 1, none⟩) (Kd.R_far (p := ⟨gb271, 0, none⟩) (Kd.R_types HO270.out BK271.out (by decide)) (fun _ hk => hk.2) (.bool t267)) (fun _ hk => hk.2) (.slice Ao113 t268.length co113)) (fun _ h_ => h_.1))) (Kd.R_base ho0) hb); have n6_ := Aside0.mk (Kd.R_lower (Kd.R_new' (Kd.R_new' (Kd.R_new' (Kd.R_new' (Kd.R_new' (Kd.R_new' ho0 (Kd.R_lt (by (with_reducible repeat (first | apply Kd.R_alloc | apply Kd.R_drewN | apply Kd.R_drew)); exact (Kd.R_mono (Kd.R_far (p := ⟨gb271, 1, none⟩) (Kd.R_far (p := ⟨gb271, 0, none⟩) (Kd.R_types HO252.out BK271.out (by decide)) (fun _ hk => hk.2) (.bool t267)) (fun _ hk => hk.2) (.slice Ao113 t268.length co113)) (fun _ h_ => h_.1))))) (Kd.R_lt (by (with_reducible repeat (first | apply Kd.R_alloc | apply Kd.R_drewN | apply Kd.R_drew)); exact (Kd.R_mono (Kd.R_far (p := ⟨gb271, 1, none⟩) (Kd.R_far (p := ⟨gb271, 0, none⟩) (Kd.R_types HO255.out BK271.out (by decide)) (fun _ hk => hk.2) (.bool t267)) (fun _ hk => hk.2) (.slice Ao113 t268.length co113)) (fun _ h_ => h_.1))))) (Kd.R_lt (by (with_reducible repeat (first | apply Kd.R_alloc | apply Kd.R_drewN | apply Kd.R_drew)); exact (Kd.R_mono (Kd.R_far (p := ⟨gb271, 1, none⟩) (Kd.R_far (p := ⟨gb271, 0, none⟩) (Kd.R_types HO258.out BK271.out (by decide)) (fun _ hk => hk.2) (.bool t267)) (fun _ hk => hk.2) (.slice Ao113 t268.length co113)) (fun _ h_ => h_.1))))) (Kd.R_lt (by (with_reducible repeat (first | apply Kd.R_alloc | apply Kd.R_drewN | apply Kd.R_drew)); exact (Kd.R_mono (Kd.R_far (p := ⟨gb271, 1, none⟩) (Kd.R_far (p := ⟨gb271, 0, none⟩) (Kd.R_types HO262.out BK271.out (by decide)) (fun _ hk => hk.2) (.bool t267)) (fun _ hk => hk.2) (.slice Ao113 t268.length co113)) (fun _ h_ => h_.1))))) (Kd.R_lt (by (with_reducible repeat (first | apply Kd.R_alloc | apply Kd.R_drewN | apply Kd.R_drew)); exact (Kd.R_mono (Kd.R_far (p := ⟨gb271, 1, none⟩) (Kd.R_far (p := ⟨gb271, 0, none⟩) (Kd.R_types HO266.out BK271.out (by decide)) (fun _ hk => hk.2) (.bool t267)) (fun _ hk => hk.2) (.slice Ao113 t268.length co113)) (fun _ h_ => h_.1))))) (Kd.R_lt (by (with_reducible repeat (first | apply Kd.R_alloc | apply Kd.R_drewN | apply Kd.R_drew)); exact (Kd.R_mono (Kd.R_far (p := ⟨gb271, 1, none⟩) (Kd.R_far (p := ⟨gb271, 0, none⟩) (Kd.R_types HO270.out BK271.out (by decide)) (fun _ hk => hk.2) (.bool t267)) (fun _ hk => hk.2) (.slice Ao113 t268.length co113)) (fun _ h_ => h_.1))))) (below_size (by repeat (first | (with_reducible first | exact HB.out | apply below_alloc | apply pw_below_drewN | apply below_drew1 | refine below_set ?_ GE271.out) | exact HB.out)))); have n7_ := Aside0.mk (blk_below (g := gb271) (o := .cells #[.bool t267, .slice Ao113 t268.length co113] 78 (0, 0)) (by (with_reducible repeat (first | refine blk_drewN ?_ _ | refine blk_drew ?_ | refine blk_alloc ?_ _)); refine blk_put (cs := #[.bool t267, .slice none 0 0]) ?_ 1 _ rfl; (with_reducible repeat (first | refine blk_drewN ?_ _ | refine blk_drew ?_ | refine blk_alloc ?_ _)); refine blk_put (cs := #[.bool false, .slice none 0 0]) ?_ 0 _ rfl; (with_reducible repeat (first | refine blk_drewN ?_ _ | refine blk_drew ?_ | refine blk_alloc ?_ _)); exact BK271.out) hb); have n8_ := Aside0.mk (below_step (by repeat (first | (with_reducible first | exact HB.out | apply below_alloc | apply pw_below_drewN | apply below_drew1 | refine below_set ?_ GE271.out) | exact HB.out)) hb); clear HO252; clear HO255; clear HO258; clear HO262; clear HO266; clear HO270; clear BK271; clear HB; have HO252 := n0_; have HO255 := n1_; have HO258 := n2_; have HO262 := n3_; have HO266 := n4_; have HO270 := n5_; have HO275 := n6_; have BK271 := n7_; have HB := n8_; clear n0_ n1_ n2_ n3_ n4_ n5_ n6_ n7_ n8_; (try clear hb); (try clear hb2); (try clear hk); (try clear hi); (try clear ho0); obtain ⟨Ao115, co115, eo115⟩ := Kd.R_slice HO258.out; subst eo115; obtain ⟨Ao116, co116, eo116⟩ := Kd.R_slice HO275.out; subst eo116) | (go_at_call 82; (with_reducible refine (fathomref0_EqNat.calls kj49 _ _ t256 _ _ t273 false _ ?side1 ?side2 ?side3 ?side4 A64.out).mono ?_); (case side1 => repeat (first | exact (Kd.R_reads' HO258.out).2.2 | (with_reducible refine Kd.C_alloc ?_ _) | (with_reducible refine Kd.C_drewN ?_ _) | (with_reducible refine Kd.C_drew ?_))); (case side2 => exact (Kd.R_reads' HO258.out).2.1); (case side3 => repeat (first | exact (Kd.R_reads' HO275.out).2.2 | (with_reducible refine Kd.C_alloc ?_ _) | (with_reducible refine Kd.C_drewN ?_ _) | (with_reducible refine Kd.C_drew ?_))); (case side4 => exact (Kd.R_reads' HO275.out).2.1); rintro e w' ⟨rfl, ⟨nd, rfl⟩⟩))
                                            go_ret
                                            exact ⟨by first | rfl | (simp [errW_none, errW_some] <;> rfl) | (simp [*, errW_none, errW_some] <;> rfl), by repeat (first | (with_reducible first | exact HB.out | apply below_alloc | apply pw_below_drewN | apply below_drew1 | refine below_set ?_ GE271.out) | exact HB.out)⟩
                                        · replace c62 := Bool.eq_false_iff.mpr c62
                                          subst c62
                                          have H1 : (some false) = some r := by rw [if_neg (show ¬ (false = true) by decide)] at H; exact H
                                          clear H
                                          have H := H1
                                          clear H1
                                          obtain rfl := Option.some.inj H
                                          go_wp2_with (first | ((with_reducible refine gate_callee (f := 81) rfl ?_); refine goesL_ (some 103) rfl rfl Try.func81 (by kernel_rfl) rfl #[.int .u64 ((rd_T39 l0 x3_1).f0), .int .u64 ((rd_T39 l0 x3_1).f1), .int .u64 (Go.bits .xor .u64 t247 9223372036854775808)] rfl (by (try simp only [List.map_toArray, List.map_cons, List.map_nil]); first | done | rfl | (simp only [List.length_drop, List.length_take]; rfl) | (simp only [gt_iff_lt, Int.natCast_pos]; rfl)) ?_; (with_reducible refine (float_Fma.calls ((rd_T39 l0 x3_1).f0) ((rd_T39 l0 x3_1).f1) (Go.bits .xor .u64 t247 9223372036854775808) t249 _ A54.out).mono ?_); rintro e w' ⟨rfl, ⟨nd, rfl⟩⟩; refine ⟨_, rfl, ?_⟩; (try (rw [drewN_self wc]; generalize hq_ : World.drewN wc _ = wc; have n0_ : Aside0 (Below w.heap.size w wc) := ⟨by rw [← hq_]; exact (by repeat (first | (with_reducible first | exact HB.out | apply below_alloc | apply pw_below_drewN | apply below_drew1) | exact HB.out))⟩; clear HB hq_; have HB := n0_; clear n0_))) | ((with_reducible refine gate_callee (f := 20) rfl ?_); refine goesL_ (some 105) rfl rfl Try.func20 (by kernel_rfl) rfl #[.int .u64 ((rd_T39 l0 x3_1).f0)] rfl (by (try simp only [List.map_toArray, List.map_cons, List.map_nil]); first | done | rfl | (simp only [List.length_drop, List.length_take]; rfl) | (simp only [gt_iff_lt, Int.natCast_pos]; rfl)) ?_; (with_reducible refine (fathomlaw3_units.calls kj49 ((rd_T39 l0 x3_1).f0) t250 _ A55.out).mono ?_); rintro e w117 ⟨v251, rfl, ho0, hb⟩; refine ⟨_, rfl, ?_⟩; have n0_ := Aside0.mk (Kd.R_lower ho0 (below_size (by repeat (first | (with_reducible first | exact HB.out | apply below_alloc | apply pw_below_drewN | apply below_drew1) | exact HB.out)))); have n1_ := Aside0.mk (below_step (by repeat (first | (with_reducible first | exact HB.out | apply below_alloc | apply pw_below_drewN | apply below_drew1) | exact HB.out)) hb); clear HB; have HO252 := n0_; have HB := n1_; clear n0_ n1_; (try clear hb); (try clear hb2); (try clear hk); (try clear hi); (try clear ho0)) | ((with_reducible refine gate_callee (f := 20) rfl ?_); refine goesL_ (some 107) rfl rfl Try.func20 (by kernel_rfl) rfl #[.int .u64 ((rd_T39 l0 x3_1).f1)] rfl (by (try simp only [List.map_toArray, List.map_cons, List.map_nil]); first | done | rfl | (simp only [List.length_drop, List.length_take]; rfl) | (simp only [gt_iff_lt, Int.natCast_pos]; rfl)) ?_; (with_reducible refine (fathomlaw3_units.calls kj49 ((rd_T39 l0 x3_1).f1) t253 _ A56.out).mono ?_); rintro e w118 ⟨v254, rfl, ho0, hb⟩; refine ⟨_, rfl, ?_⟩; have n0_ := Aside0.mk (Kd.R_elder' (by (with_reducible repeat (first | apply Kd.R_alloc | apply Kd.R_drewN | apply Kd.R_drew)); exact HO252.out) (Kd.R_base ho0) hb); have n1_ := Aside0.mk (Kd.R_lower (Kd.R_new' ho0 (Kd.R_lt (by (with_reducible repeat (first | apply Kd.R_alloc | apply Kd.R_drewN | apply Kd.R_drew)); exact HO252.out))) (below_size (by repeat (first | (with_reducible first | exact HB.out | apply below_alloc | apply pw_below_drewN | apply below_drew1) | exact HB.out)))); have n2_ := Aside0.mk (below_step (by repeat (first | (with_reducible first | exact HB.out | apply below_alloc | apply pw_below_drewN | apply below_drew1) | exact HB.out)) hb); clear HO252; clear HB; have HO252 := n0_; have HO255 := n1_; have HB := n2_; clear n0_ n1_ n2_; (try clear hb); (try clear hb2); (try clear hk); (try clear hi); (try clear ho0); obtain ⟨Ao119, co119, eo119⟩ := Kd.R_slice HO252.out; subst eo119; obtain ⟨Ao120, co120, eo120⟩ := Kd.R_slice HO255.out; subst eo120) | ((with_reducible refine gate_callee (f := 27) rfl ?_); refine goesL_ (some 108) rfl rfl Try.func27 (by kernel_rfl) rfl #[.slice Ao119 t250.length co119, .slice Ao120 t253.length co120] rfl (by (try simp only [List.map_toArray, List.map_cons, List.map_nil]); first | done | rfl | (simp only [List.length_drop, List.length_take]; rfl) | (simp only [gt_iff_lt, Int.natCast_pos]; rfl)) ?_; (with_reducible refine (fathomref3_Times.calls kj49 _ _ t250 _ _ t253 t256 _ ?side1 ?side2 ?side3 ?side4 A57.out).mono ?_); (case side1 => repeat (first | exact (Kd.R_reads' HO252.out).2.2 | (with_reducible refine Kd.C_alloc ?_ _) | (with_reducible refine Kd.C_drewN ?_ _) | (with_reducible refine Kd.C_drew ?_))); (case side2 => exact (Kd.R_reads' HO252.out).2.1); (case side3 => repeat (first | exact (Kd.R_reads' HO255.out).2.2 | (with_reducible refine Kd.C_alloc ?_ _) | (with_reducible refine Kd.C_drewN ?_ _) | (with_reducible refine Kd.C_drew ?_))); (case side4 => exact (Kd.R_reads' HO255.out).2.1); rintro e w121 ⟨v257, rfl, ho0, hb⟩; refine ⟨_, rfl, ?_⟩; have n0_ := Aside0.mk (Kd.R_elder' (by (with_reducible repeat (first | apply Kd.R_alloc | apply Kd.R_drewN | apply Kd.R_drew)); exact HO252.out) (Kd.R_base ho0) hb); have n1_ := Aside0.mk (Kd.R_elder' (by (with_reducible repeat (first | apply Kd.R_alloc | apply Kd.R_drewN | apply Kd.R_drew)); exact HO255.out) (Kd.R_base ho0) hb); have n2_ := Aside0.mk (Kd.R_lower (Kd.R_new' (Kd.R_new' ho0 (Kd.R_lt (by (with_reducible repeat (first | apply Kd.R_alloc | apply Kd.R_drewN | apply Kd.R_drew)); exact HO252.out))) (Kd.R_lt (by (with_reducible repeat (first | apply Kd.R_alloc | apply Kd.R_drewN | apply Kd.R_drew)); exact HO255.out))) (below_size (by repeat (first | (with_reducible first | exact HB.out | apply below_alloc | apply pw_below_drewN | apply below_drew1) | exact HB.out)))); have n3_ := Aside0.mk (below_step (by repeat (first | (with_reducible first | exact HB.out | apply below_alloc | apply pw_below_drewN | apply below_drew1) | exact HB.out)) hb); clear HO252; clear HO255; clear HB; have HO252 := n0_; have HO255 := n1_; have HO258 := n2_; have HB := n3_; clear n0_ n1_ n2_ n3_; (try clear hb); (try clear hb2); (try clear hk); (try clear hi); (try clear ho0)) | ((with_reducible refine gate_callee (f := 80) rfl ?_); refine goesL_ (some 110) rfl rfl Try.func80 (by kernel_rfl) rfl #[.int .u64 t247] rfl (by (try simp only [List.map_toArray, List.map_cons, List.map_nil]); first | done | rfl | (simp only [List.length_drop, List.length_take]; rfl) | (simp only [gt_iff_lt, Int.natCast_pos]; rfl)) ?_; (with_reducible refine (fathomlaw3_of.calls kj49 t247 t259 t260 _ A58.out).mono ?_); rintro e w122 ⟨v261, rfl, ho0, hb⟩; refine ⟨_, rfl, ?_⟩; have n0_ := Aside0.mk (Kd.R_elder' (by (with_reducible repeat (first | apply Kd.R_alloc | apply Kd.R_drewN | apply Kd.R_drew)); exact HO252.out) (Kd.R_base ho0) hb); have n1_ := Aside0.mk (Kd.R_elder' (by (with_reducible repeat (first | apply Kd.R_alloc | apply Kd.R_drewN | apply Kd.R_drew)); exact HO255.out) (Kd.R_base ho0) hb); have n2_ := Aside0.mk (Kd.R_elder' (by (with_reducible repeat (first | apply Kd.R_alloc | apply Kd.R_drewN | apply Kd.R_drew)); exact HO258.out) (Kd.R_base ho0) hb); have n3_ := Aside0.mk (Kd.R_lower (Kd.R_new' (Kd.R_new' (Kd.R_new' ho0 (Kd.R_lt (by (with_reducible repeat (first | apply Kd.R_alloc | apply Kd.R_drewN | apply Kd.R_drew)); exact HO252.out))) (Kd.R_lt (by (with_reducible repeat (first | apply Kd.R_alloc | apply Kd.R_drewN | apply Kd.R_drew)); exact HO255.out))) (Kd.R_lt (by (with_reducible repeat (first | apply Kd.R_alloc | apply Kd.R_drewN | apply Kd.R_drew)); exact HO258.out))) (below_size (by repeat (first | (with_reducible first | exact HB.out | apply below_alloc | apply pw_below_drewN | apply below_drew1) | exact HB.out)))); have n4_ := Aside0.mk (below_step (by repeat (first | (with_reducible first | exact HB.out | apply below_alloc | apply pw_below_drewN | apply below_drew1) | exact HB.out)) hb); clear HO252; clear HO255; clear HO258; clear HB; have HO252 := n0_; have HO255 := n1_; have HO258 := n2_; have HO262 := n3_; have HB := n4_; clear n0_ n1_ n2_ n3_ n4_; (try clear hb); (try clear hb2); (try clear hk); (try clear hi); (try clear ho0)) | ((with_reducible refine gate_callee (f := 80) rfl ?_); refine goesL_ (some 112) rfl rfl Try.func80 (by kernel_rfl) rfl #[.int .u64 t249] rfl (by (try simp only [List.map_toArray, List.map_cons, List.map_nil]); first | done | rfl | (simp only [List.length_drop, List.length_take]; rfl) | (simp only [gt_iff_lt, Int.natCast_pos]; rfl)) ?_; (with_reducible refine (fathomlaw3_of.calls kj49 t249 t263 t264 _ A59.out).mono ?_); rintro e w123 ⟨v265, rfl, ho0, hb⟩; refine ⟨_, rfl, ?_⟩; have n0_ := Aside0.mk (Kd.R_elder' (by (with_reducible repeat (first | apply Kd.R_alloc | apply Kd.R_drewN | apply Kd.R_drew)); exact HO252.out) (Kd.R_base ho0) hb); have n1_ := Aside0.mk (Kd.R_elder' (by (with_reducible repeat (first | apply Kd.R_alloc | apply Kd.R_drewN | apply Kd.R_drew)); exact HO255.out) (Kd.R_base ho0) hb); have n2_ := Aside0.mk (Kd.R_elder' (by (with_reducible repeat (first | apply Kd.R_alloc | apply Kd.R_drewN | apply Kd.R_drew)); exact HO258.out) (Kd.R_base ho0) hb); have n3_ := Aside0.mk (Kd.R_elder' (by (with_reducible repeat (first | apply Kd.R_alloc | apply Kd.R_drewN | apply Kd.R_drew)); exact HO262.out) (Kd.R_base ho0) hb); have n4_ := Aside0.mk (Kd.R_lower (Kd.R_new' (Kd.R_new' (Kd.R_new' (Kd.R_new' ho0 (Kd.R_lt (by (with_reducible repeat (first | apply Kd.R_alloc | apply Kd.R_drewN | apply Kd.R_drew)); exact HO252.out))) (Kd.R_lt (by (with_reducible repeat (first | apply Kd.R_alloc | apply Kd.R_drewN | apply Kd.R_drew)); exact HO255.out))) (Kd.R_lt (by (with_reducible repeat (first | apply Kd.R_alloc | apply Kd.R_drewN | apply Kd.R_drew)); exact HO258.out))) (Kd.R_lt (by (with_reducible repeat (first | apply Kd.R_alloc | apply Kd.R_drewN | apply Kd.R_drew)); exact HO262.out))) (below_size (by repeat (first | (with_reducible first | exact HB.out | apply below_alloc | apply pw_below_drewN | apply below_drew1) | exact HB.out)))); have n5_ := Aside0.mk (below_step (by repeat (first | (with_reducible first | exact HB.out | apply below_alloc | apply pw_below_drewN | apply below_drew1) | exact HB.out)) hb); clear HO252; clear HO255; clear HO258; clear HO262; clear HB; have HO252 := n0_; have HO255 := n1_; have HO258 := n2_; have HO262 := n3_; have HO266 := n4_; have HB := n5_; clear n0_ n1_ n2_ n3_ n4_ n5_; (try clear hb); (try clear hb2); (try clear hk); (try clear hi); (try clear ho0); obtain ⟨Ao124, co124, eo124⟩ := Kd.R_slice HO262.out; subst eo124; obtain ⟨Ao125, co125, eo125⟩ := Kd.R_slice HO266.out; subst eo125) | ((with_reducible refine gate_callee (f := 79) rfl ?_); refine goesL_ (some 113) rfl rfl Try.func79 (by kernel_rfl) rfl #[.agg #[.bool t259, .slice Ao124 t260.length co124], .agg #[.bool t263, .slice Ao125 t264.length co125]] rfl (by (try simp only [List.map_toArray, List.map_cons, List.map_nil]); first | done | rfl | (simp only [List.length_drop, List.length_take]; rfl) | (simp only [gt_iff_lt, Int.natCast_pos]; rfl)) ?_; (with_reducible refine (fathomlaw3_plus.calls kj49 t259 _ _ t260 t263 _ _ t264 t267 t268 _ ?side1 ?side2 ?side3 ?side4 A60.out).mono ?_); (case side1 => repeat (first | exact (Kd.R_reads' HO262.out).2.2 | (with_reducible refine Kd.C_alloc ?_ _) | (with_reducible refine Kd.C_drewN ?_ _) | (with_reducible refine Kd.C_drew ?_))); (case side2 => exact (Kd.R_reads' HO262.out).2.1); (case side3 => repeat (first | exact (Kd.R_reads' HO266.out).2.2 | (with_reducible refine Kd.C_alloc ?_ _) | (with_reducible refine Kd.C_drewN ?_ _) | (with_reducible refine Kd.C_drew ?_))); (case side4 => exact (Kd.R_reads' HO266.out).2.1); rintro e w126 ⟨v269, rfl, ho0, hb⟩; refine ⟨_, rfl, ?_⟩; have n0_ := Aside0.mk (Kd.R_elder' (by (with_reducible repeat (first | apply Kd.R_alloc | apply Kd.R_drewN | apply Kd.R_drew)); exact HO252.out) (Kd.R_base ho0) hb); have n1_ := Aside0.mk (Kd.R_elder' (by (with_reducible repeat (first | apply Kd.R_alloc | apply Kd.R_drewN | apply Kd.R_drew)); exact HO255.out) (Kd.R_base ho0) hb); have n2_ := Aside0.mk (Kd.R_elder' (by (with_reducible repeat (first | apply Kd.R_alloc | apply Kd.R_drewN | apply Kd.R_drew)); exact HO258.out) (Kd.R_base ho0) hb); have n3_ := Aside0.mk (Kd.R_elder' (by (with_reducible repeat (first | apply Kd.R_alloc | apply Kd.R_drewN | apply Kd.R_drew)); exact HO262.out) (Kd.R_base ho0) hb); have n4_ := Aside0.mk (Kd.R_elder' (by (with_reducible repeat (first | apply Kd.R_alloc | apply Kd.R_drewN | apply Kd.R_drew)); exact HO266.out) (Kd.R_base ho0) hb); have n5_ := Aside0.mk (Kd.R_lower (Kd.R_new' (Kd.R_new' (Kd.R_new' (Kd.R_new' (Kd.R_new' ho0 (Kd.R_lt (by (with_reducible repeat (first | apply Kd.R_alloc | apply Kd.R_drewN | apply Kd.R_drew)); exact HO252.out))) (Kd.R_lt (by (with_reducible repeat (first | apply Kd.R_alloc | apply Kd.R_drewN | apply Kd.R_drew)); exact HO255.out))) (Kd.R_lt (by (with_reducible repeat (first | apply Kd.R_alloc | apply Kd.R_drewN | apply Kd.R_drew)); exact HO258.out))) (Kd.R_lt (by (with_reducible repeat (first | apply Kd.R_alloc | apply Kd.R_drewN | apply Kd.R_drew)); exact HO262.out))) (Kd.R_lt (by (with_reducible repeat (first | apply Kd.R_alloc | apply Kd.R_drewN | apply Kd.R_drew)); exact HO266.out))) (below_size (by repeat (first | (with_reducible first | exact HB.out | apply below_alloc | apply pw_below_drewN | apply below_drew1) | exact HB.out)))); have n6_ := Aside0.mk (below_step (by repeat (first | (with_reducible first | exact HB.out | apply below_alloc | apply pw_below_drewN | apply below_drew1) | exact HB.out)) hb); clear HO252; clear HO255; clear HO258; clear HO262; clear HO266; clear HB; have HO252 := n0_; have HO255 := n1_; have HO258 := n2_; have HO262 := n3_; have HO266 := n4_; have HO270 := n5_; have HB := n6_; clear n0_ n1_ n2_ n3_ n4_ n5_ n6_; (try clear hb); (try clear hb2); (try clear hk); (try clear hi); (try clear ho0)) | ((with_reducible refine gate_dst (N := 13) rfl ?_); refine box_event ?hg (N := 13) ?hd (cs := #[.bool false, .slice none 0 0]) (t := 78) ?hr ?_; (case hd => rfl); (case hg => rfl); (case hr => first | (go_simp; done) | (go_simp; rfl)); intro gb271 hg w127 hbox hb; have n0_ := Aside0.mk (Kd.R_below (by (with_reducible repeat (first | apply Kd.R_alloc | apply Kd.R_drewN | apply Kd.R_drew)); exact HO252.out) hb); have n1_ := Aside0.mk (Kd.R_below (by (with_reducible repeat (first | apply Kd.R_alloc | apply Kd.R_drewN | apply Kd.R_drew)); exact HO255.out) hb); have n2_ := Aside0.mk (Kd.R_below (by (with_reducible repeat (first | apply Kd.R_alloc | apply Kd.R_drewN | apply Kd.R_drew)); exact HO258.out) hb); have n3_ := Aside0.mk (Kd.R_below (by (with_reducible repeat (first | apply Kd.R_alloc | apply Kd.R_drewN | apply Kd.R_drew)); exact HO262.out) hb); have n4_ := Aside0.mk (Kd.R_below (by (with_reducible repeat (first | apply Kd.R_alloc | apply Kd.R_drewN | apply Kd.R_drew)); exact HO266.out) hb); have n5_ := Aside0.mk (Kd.R_below (by (with_reducible repeat (first | apply Kd.R_alloc | apply Kd.R_drewN | apply Kd.R_drew)); exact HO270.out) hb); have n6_ := Aside0.mk (below_step (by repeat (first | (with_reducible first | exact HB.out | apply below_alloc | apply pw_below_drewN | apply below_drew1) | exact HB.out)) hb); have n7_ := Aside0.mk (hbox); have n8_ := Aside0.mk ((by rw [hg]; exact (below_size (by repeat (first | (with_reducible first | exact HB.out | apply below_alloc | apply pw_below_drewN | apply below_drew1) | exact HB.out))) : w.heap.size ≤ gb271)); have n9_ := Aside0.mk ((by rw [hg]; exact (below_size (by repeat (first | (with_reducible first | exact HB.out | apply below_alloc | apply pw_below_drewN | apply below_drew1) | exact HB.out))) : w.heap.size ≤ gb271)); clear HO252; clear HO255; clear HO258; clear HO262; clear HO266; clear HO270; clear HB; have HO252 := n0_; have HO255 := n1_; have HO258 := n2_; have HO262 := n3_; have HO266 := n4_; have HO270 := n5_; have HB := n6_; have BK271 := n7_; have GW271 := n8_; have GE271 := n9_; clear n0_ n1_ n2_ n3_ n4_ n5_ n6_ n7_ n8_ n9_; clear hb hbox hg; have hcz128_0 : w127.cell? ⟨gb271, 0, none⟩ = some (.bool false) := (blk_cell BK271.out 0).trans rfl; have hcz128_1 : w127.cell? ⟨gb271, 1, none⟩ = some (.slice none 0 0) := (blk_cell BK271.out 1).trans rfl; have hfz128_0 := blk_frozen BK271.out 0; have hfz128_1 := blk_frozen BK271.out 1; obtain ⟨Ao129, co129, eo129⟩ := Kd.R_slice HO270.out; subst eo129) | ((with_reducible refine gate_callee (f := 16) rfl ?_); refine goesL_ (some 115) rfl rfl Try.func16 (by kernel_rfl) rfl #[.int .u64 t249] rfl (by (try simp only [List.map_toArray, List.map_cons, List.map_nil]); first | done | rfl | (simp only [List.length_drop, List.length_take]; rfl) | (simp only [gt_iff_lt, Int.natCast_pos]; rfl)) ?_; (with_reducible refine (fathomlaw3_finite.calls t249 false _ A61.out).mono ?_); rintro e w' ⟨rfl, ⟨nd, rfl⟩⟩; refine ⟨_, rfl, ?_⟩))
                                          go_ret
                                          exact ⟨by first | rfl | (simp [errW_none, errW_some] <;> rfl) | (simp [*, errW_none, errW_some] <;> rfl), by repeat (first | (with_reducible first | exact HB.out | apply below_alloc | apply pw_below_drewN | apply below_drew1 | refine below_set ?_ GE271.out) | exact HB.out)⟩
              · rw [if_neg c6] at H
                exact absurd H (by simp)
            · rw [if_neg c5] at H
              exact absurd H (by simp)
          · replace c4 := Bool.eq_false_iff.mpr c4
            subst c4
            have H1 : ((fathomlaw3_wakes.f).bind fun t207 => (some t207)) = some r := by rw [if_neg (show ¬ (false = true) by decide)] at H; exact H
            clear H
            have H := H1
            clear H1
            replace H := Option.bind_eq_some_iff.mp H
            obtain ⟨t207, A1300, H⟩ := H
            replace H : (some t207) = some r := H
            have A130 := Aside0.mk A1300
            clear A1300
            obtain rfl := Option.some.inj H
            go_wp2_with (first | ((with_reducible refine gate_callee (f := 24) rfl ?_); refine goesL_ (some 135) rfl rfl Try.func24 (by kernel_rfl) rfl #[] rfl (by (try simp only [List.map_toArray, List.map_cons, List.map_nil]); first | done | rfl | (simp only [List.length_drop, List.length_take]; rfl) | (simp only [gt_iff_lt, Int.natCast_pos]; rfl)) ?_; (with_reducible refine (fathomlaw3_wakes.calls  t207 _ A130.out).mono ?_); rintro e w131 ⟨rfl, hb⟩; refine ⟨_, rfl, ?_⟩; have n0_ := Aside0.mk (below_step (by repeat (first | (with_reducible first | exact HB.out | apply below_alloc | apply pw_below_drewN | apply below_drew1) | exact HB.out)) hb); clear HB; have HB := n0_; clear n0_; (try clear hb); (try clear hb2); (try clear hk); (try clear hi)))
            go_ret
            exact ⟨by first | rfl | (simp [errW_none, errW_some] <;> rfl) | (simp [*, errW_none, errW_some] <;> rfl), by repeat (first | (with_reducible first | exact HB.out | apply below_alloc | apply pw_below_drewN | apply below_drew1) | exact HB.out)⟩
end Go.Proofs.Ytfloeiagdegpjaa.LErrors
