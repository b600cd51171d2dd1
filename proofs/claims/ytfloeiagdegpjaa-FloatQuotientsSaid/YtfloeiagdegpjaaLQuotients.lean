/- The law FloatQuotients: what its body comes to, as a Lean function over the rows that it is handed. The walk began as print.sh's text for this function, over the float functions of YtfloeiagdegpjaaSt. -/
import Derived.Test.YtfloeiagdegpjaaSt
import Derived.Test.YtfloeiagdegpjaaR2
import Derived.Test.YtfloeiagdegpjaaR6
import Derived.Test.YtfloeiagdegpjaaRe
namespace Go.Proofs.Ytfloeiagdegpjaa.LQuotients
open Go.RowKit Go.Proofs.YtfloeiagdegpjaaW.PrintWords Go.Proofs.YtfloeiagdegpjaaW.PrintLast Go.Proofs.YtfloeiagdegpjaaW.PrintMore Go.Proofs.Ytfloeiagdegpjaa.Rf
attribute [local go_sem] max2_int min2_int max_two min_two max_three min_three max_four min_four
set_option linter.unusedVariables false
set_option linter.unusedSimpArgs false

/-! #### struct type 39 -/
structure S39 where
  f0 : Int
  f1 : Int
def z39 : S39 := ⟨(0 : Int), (0 : Int)⟩
def k39 : Kd S39 := Kd.iso (Kd.pair (Kd.int .u64) (Kd.int .u64)) (fun x : S39 => (x.f0, x.f1))
theorem k39_open {w : World} {x : S39} {cs : List Value} (h : k39.K w x cs) : cs = [.int .u64 x.f0, .int .u64 x.f1] := by
  obtain ⟨_, _, rfl, rfl, rfl⟩ := h
  exact rfl
theorem k39_openM {w : World} {base : Nat} {ok : Nat → Prop} {x : S39} {cs : List Value} (h : k39.M w base ok x cs) : cs = [.int .u64 x.f0, .int .u64 x.f1] := by
  obtain ⟨_, _, rfl, rfl, rfl⟩ := h
  exact rfl
theorem k39_mk (w : World) (x : S39)  : k39.K w x [.int .u64 x.f0, .int .u64 x.f1] := ⟨[.int .u64 x.f0], [.int .u64 x.f1], rfl, rfl, rfl⟩
theorem k39_mkM (w : World) (base : Nat) (ok : Nat → Prop) (x : S39)  : k39.M w base ok x [.int .u64 x.f0, .int .u64 x.f1] := ⟨[.int .u64 x.f0], [.int .u64 x.f1], rfl, rfl, rfl⟩
def rd_T39 (xs : List S39) (i : Int) : S39 := xs.getD i.toNat z39
theorem at_T39 {w : World} {A : Option Addr} {n : Nat} {xs : List S39} (h : Kd.C k39 w A n xs) (i : Int) (h0 : 0 ≤ i) (h1 : i < n) : ∃ ad , A = some ad ∧ w.cell? (ad.add (i.toNat * 2)) = some (.int .u64 (rd_T39 xs i).f0) ∧ w.cell? ⟨(ad.add (i.toNat * 2)).block, (ad.add (i.toNat * 2)).off + 1, none⟩ = some (.int .u64 (rd_T39 xs i).f1) := by
  obtain ⟨ad, c, e, _, hK, hc0⟩ := Kd.C_get h z39 i h0 h1
  have hc : ∀ j u, c[j]? = some u → w.cell? (ad.add (i.toNat * 2 + j)) = some u := hc0
  obtain rfl := k39_open hK
  exact ⟨ad, e, hc 0 _ rfl, by rw [← add_field _ _ 1 (by omega)]; exact hc 1 _ rfl⟩


/-! ### fathomlaw3_FloatQuotients: function 4 -/
mutual
def fathomlaw3_FloatQuotients.l0 : Nat → List (S39) → Int → Option (Bool)
  | 0, _, _ => none
  | k + 1, x0, x3 => if x3 < (x0.length : Int) then (fathomlaw3_FloatQuotients.j1 k x0 x3 (decide (x3 < 2000))) else (fathomlaw3_FloatQuotients.j1 k x0 x3 false)
def fathomlaw3_FloatQuotients.j1 : Nat → List (S39) → Int → Bool → Option (Bool)
  | 0, _, _, _ => none
  | k + 1, x0, x3, x16 => if x16 = true then (if 0 ≤ x3 then (if x3 < (x0.length : Int) then ((fathomlaw3_finite.f (Go.bits .andNot .u64 ((rd_T39 x0 x3).f0) 9223372036854775808)).bind fun t186 => (if t186 = true then ((fathomlaw3_finite.f (Go.bits .andNot .u64 ((rd_T39 x0 x3).f1) 9223372036854775808)).bind fun t187 => (if t187 = true then (if (Go.bits .andNot .u64 ((rd_T39 x0 x3).f0) 9223372036854775808) = 0 then (fathomlaw3_FloatQuotients.j2 k x0 x3 (Go.bits .andNot .u64 ((rd_T39 x0 x3).f0) 9223372036854775808) (Go.bits .andNot .u64 ((rd_T39 x0 x3).f1) 9223372036854775808) true) else (fathomlaw3_FloatQuotients.j2 k x0 x3 (Go.bits .andNot .u64 ((rd_T39 x0 x3).f0) 9223372036854775808) (Go.bits .andNot .u64 ((rd_T39 x0 x3).f1) 9223372036854775808) ((Go.bits .andNot .u64 ((rd_T39 x0 x3).f1) 9223372036854775808) == 0))) else (fathomlaw3_FloatQuotients.j2 k x0 x3 (Go.bits .andNot .u64 ((rd_T39 x0 x3).f0) 9223372036854775808) (Go.bits .andNot .u64 ((rd_T39 x0 x3).f1) 9223372036854775808) true))) else (fathomlaw3_FloatQuotients.j2 k x0 x3 (Go.bits .andNot .u64 ((rd_T39 x0 x3).f0) 9223372036854775808) (Go.bits .andNot .u64 ((rd_T39 x0 x3).f1) 9223372036854775808) true))) else (none)) else (none)) else ((fathomlaw3_wakes.f).bind fun t183 => (some t183))
def fathomlaw3_FloatQuotients.j2 : Nat → List (S39) → Int → Int → Int → Bool → Option (Bool)
  | 0, _, _, _, _, _ => none
  | k + 1, x0, x3, x4, x5, x46 => if x46 = true then (fathomlaw3_FloatQuotients.l0 k x0 (wrap64 (x3 + 1))) else ((float_Div_uint64.f x4 x5).bind fun t188 => ((fathomlaw3_nan.f t188).bind fun t189 => (if t189 = true then (fathomlaw3_FloatQuotients.j3 k x0 x3 x4 x5 t188 true) else (fathomlaw3_FloatQuotients.j3 k x0 x3 x4 x5 t188 ((Go.bits .and .u64 t188 9223372036854775808) != 0)))))
def fathomlaw3_FloatQuotients.j3 : Nat → List (S39) → Int → Int → Int → Int → Bool → Option (Bool)
  | 0, _, _, _, _, _, _ => none
  | k + 1, x0, x3, x4, x5, x6, x56 => if x56 = true then (some false) else ((fathomlaw3_units.f k x4).bind fun t190 => ((fathomref3_Up2.f k t190 1075).bind fun t193 => ((fathomlaw3_units.f k x5).bind fun t196 => (if x6 = 0 then (fathomlaw3_FloatQuotients.j4 k x0 x3 x6 t193 t196 false) else ((fathomlaw3_top.f k x6).bind fun t199 => ((fathomlaw3_top.f k (IntKind.u64.wrap (x6 - 1))).bind fun t202 => ((fathomref3_Sum.f k t199 t202).bind fun t205 => ((fathomref3_Times.f k t205 t196).bind fun t208 => ((fathomref3_Cmp.f k t208 t193).bind fun t211 => (fathomlaw3_FloatQuotients.j4 k x0 x3 x6 t193 t196 (decide (t211 > 0))))))))))))
def fathomlaw3_FloatQuotients.j4 : Nat → List (S39) → Int → Int → List Int → List Int → Bool → Option (Bool)
  | 0, _, _, _, _, _, _ => none
  | k + 1, x0, x3, x6, x7, x8, x76 => if x76 = true then (some false) else (if x6 = 9218868437227405312 then (fathomlaw3_FloatQuotients.l0 k x0 (wrap64 (x3 + 1))) else ((fathomlaw3_top.f k x6).bind fun t212 => ((fathomlaw3_top.f k (IntKind.u64.wrap (x6 + 1))).bind fun t215 => ((fathomref3_Sum.f k t212 t215).bind fun t218 => ((fathomref3_Times.f k t218 x8).bind fun t221 => ((fathomref3_Cmp.f k x7 t221).bind fun t224 => (if t224 > 0 then (some false) else (fathomlaw3_FloatQuotients.l0 k x0 (wrap64 (x3 + 1))))))))))
end
def fathomlaw3_FloatQuotients.f (k : Nat) (l0 : List (S39)) : Option (Bool) := fathomlaw3_FloatQuotients.l0 k l0 0
theorem fathomlaw3_FloatQuotients.mono_l : ∀ k, (∀ y0 y1, LeO (fathomlaw3_FloatQuotients.l0 k y0 y1) (fathomlaw3_FloatQuotients.l0 (k + 1) y0 y1)) ∧ (∀ y0 y1 y2, LeO (fathomlaw3_FloatQuotients.j1 k y0 y1 y2) (fathomlaw3_FloatQuotients.j1 (k + 1) y0 y1 y2)) ∧ (∀ y0 y1 y2 y3 y4, LeO (fathomlaw3_FloatQuotients.j2 k y0 y1 y2 y3 y4) (fathomlaw3_FloatQuotients.j2 (k + 1) y0 y1 y2 y3 y4)) ∧ (∀ y0 y1 y2 y3 y4 y5, LeO (fathomlaw3_FloatQuotients.j3 k y0 y1 y2 y3 y4 y5) (fathomlaw3_FloatQuotients.j3 (k + 1) y0 y1 y2 y3 y4 y5)) ∧ (∀ y0 y1 y2 y3 y4 y5, LeO (fathomlaw3_FloatQuotients.j4 k y0 y1 y2 y3 y4 y5) (fathomlaw3_FloatQuotients.j4 (k + 1) y0 y1 y2 y3 y4 y5))
  | 0 => ⟨fun _ _ r h => by simp [fathomlaw3_FloatQuotients.l0] at h, fun _ _ _ r h => by simp [fathomlaw3_FloatQuotients.j1] at h, fun _ _ _ _ _ r h => by simp [fathomlaw3_FloatQuotients.j2] at h, fun _ _ _ _ _ _ r h => by simp [fathomlaw3_FloatQuotients.j3] at h, fun _ _ _ _ _ _ r h => by simp [fathomlaw3_FloatQuotients.j4] at h⟩
  | k + 1 => by
    obtain ⟨ih0, ih1, ih2, ih3, ih4⟩ := fathomlaw3_FloatQuotients.mono_l k
    refine ⟨?_, ?_, ?_, ?_, ?_⟩
    · intro y0 y1
      unfold fathomlaw3_FloatQuotients.l0
      repeat' first
      | (with_reducible exact ih0 _ _)
      | (with_reducible exact ih1 _ _ _)
      | (with_reducible exact ih2 _ _ _ _ _)
      | (with_reducible exact ih3 _ _ _ _ _ _)
      | (with_reducible exact ih4 _ _ _ _ _ _)
      | (with_reducible exact fathomlaw3_top.mono _ _)
      | (with_reducible exact fathomlaw3_units.mono _ _)
      | (with_reducible exact fathomref3_Cmp.mono _ _ _)
      | (with_reducible exact fathomref3_Sum.mono _ _ _)
      | (with_reducible exact fathomref3_Times.mono _ _ _)
      | (with_reducible exact fathomref3_Up2.mono _ _ _)
      | (with_reducible exact LeO.refl _)
      | (with_reducible exact LeO.none _)
      | (with_reducible refine LeO.ite ?_ ?_)
      | (with_reducible refine LeO.bind ?_ (fun _ => ?_))
      | exact ih0 _ _
      | exact ih1 _ _ _
      | exact ih2 _ _ _ _ _
      | exact ih3 _ _ _ _ _ _
      | exact ih4 _ _ _ _ _ _
      | exact fathomlaw3_top.mono _ _
      | exact fathomlaw3_units.mono _ _
      | exact fathomref3_Cmp.mono _ _ _
      | exact fathomref3_Sum.mono _ _ _
      | exact fathomref3_Times.mono _ _ _
      | exact fathomref3_Up2.mono _ _ _
      | exact LeO.none _
      | refine LeO.ite ?_ ?_
      | refine LeO.bind ?_ (fun _ => ?_)
    · intro y0 y1 y2
      unfold fathomlaw3_FloatQuotients.j1
      repeat' first
      | (with_reducible exact ih0 _ _)
      | (with_reducible exact ih1 _ _ _)
      | (with_reducible exact ih2 _ _ _ _ _)
      | (with_reducible exact ih3 _ _ _ _ _ _)
      | (with_reducible exact ih4 _ _ _ _ _ _)
      | (with_reducible exact fathomlaw3_top.mono _ _)
      | (with_reducible exact fathomlaw3_units.mono _ _)
      | (with_reducible exact fathomref3_Cmp.mono _ _ _)
      | (with_reducible exact fathomref3_Sum.mono _ _ _)
      | (with_reducible exact fathomref3_Times.mono _ _ _)
      | (with_reducible exact fathomref3_Up2.mono _ _ _)
      | (with_reducible exact LeO.refl _)
      | (with_reducible exact LeO.none _)
      | (with_reducible refine LeO.ite ?_ ?_)
      | (with_reducible refine LeO.bind ?_ (fun _ => ?_))
      | exact ih0 _ _
      | exact ih1 _ _ _
      | exact ih2 _ _ _ _ _
      | exact ih3 _ _ _ _ _ _
      | exact ih4 _ _ _ _ _ _
      | exact fathomlaw3_top.mono _ _
      | exact fathomlaw3_units.mono _ _
      | exact fathomref3_Cmp.mono _ _ _
      | exact fathomref3_Sum.mono _ _ _
      | exact fathomref3_Times.mono _ _ _
      | exact fathomref3_Up2.mono _ _ _
      | exact LeO.none _
      | refine LeO.ite ?_ ?_
      | refine LeO.bind ?_ (fun _ => ?_)
    · intro y0 y1 y2 y3 y4
      unfold fathomlaw3_FloatQuotients.j2
      repeat' first
      | (with_reducible exact ih0 _ _)
      | (with_reducible exact ih1 _ _ _)
      | (with_reducible exact ih2 _ _ _ _ _)
      | (with_reducible exact ih3 _ _ _ _ _ _)
      | (with_reducible exact ih4 _ _ _ _ _ _)
      | (with_reducible exact fathomlaw3_top.mono _ _)
      | (with_reducible exact fathomlaw3_units.mono _ _)
      | (with_reducible exact fathomref3_Cmp.mono _ _ _)
      | (with_reducible exact fathomref3_Sum.mono _ _ _)
      | (with_reducible exact fathomref3_Times.mono _ _ _)
      | (with_reducible exact fathomref3_Up2.mono _ _ _)
      | (with_reducible exact LeO.refl _)
      | (with_reducible exact LeO.none _)
      | (with_reducible refine LeO.ite ?_ ?_)
      | (with_reducible refine LeO.bind ?_ (fun _ => ?_))
      | exact ih0 _ _
      | exact ih1 _ _ _
      | exact ih2 _ _ _ _ _
      | exact ih3 _ _ _ _ _ _
      | exact ih4 _ _ _ _ _ _
      | exact fathomlaw3_top.mono _ _
      | exact fathomlaw3_units.mono _ _
      | exact fathomref3_Cmp.mono _ _ _
      | exact fathomref3_Sum.mono _ _ _
      | exact fathomref3_Times.mono _ _ _
      | exact fathomref3_Up2.mono _ _ _
      | exact LeO.none _
      | refine LeO.ite ?_ ?_
      | refine LeO.bind ?_ (fun _ => ?_)
    · intro y0 y1 y2 y3 y4 y5
      unfold fathomlaw3_FloatQuotients.j3
      repeat' first
      | (with_reducible exact ih0 _ _)
      | (with_reducible exact ih1 _ _ _)
      | (with_reducible exact ih2 _ _ _ _ _)
      | (with_reducible exact ih3 _ _ _ _ _ _)
      | (with_reducible exact ih4 _ _ _ _ _ _)
      | (with_reducible exact fathomlaw3_top.mono _ _)
      | (with_reducible exact fathomlaw3_units.mono _ _)
      | (with_reducible exact fathomref3_Cmp.mono _ _ _)
      | (with_reducible exact fathomref3_Sum.mono _ _ _)
      | (with_reducible exact fathomref3_Times.mono _ _ _)
      | (with_reducible exact fathomref3_Up2.mono _ _ _)
      | (with_reducible exact LeO.refl _)
      | (with_reducible exact LeO.none _)
      | (with_reducible refine LeO.ite ?_ ?_)
      | (with_reducible refine LeO.bind ?_ (fun _ => ?_))
      | exact ih0 _ _
      | exact ih1 _ _ _
      | exact ih2 _ _ _ _ _
      | exact ih3 _ _ _ _ _ _
      | exact ih4 _ _ _ _ _ _
      | exact fathomlaw3_top.mono _ _
      | exact fathomlaw3_units.mono _ _
      | exact fathomref3_Cmp.mono _ _ _
      | exact fathomref3_Sum.mono _ _ _
      | exact fathomref3_Times.mono _ _ _
      | exact fathomref3_Up2.mono _ _ _
      | exact LeO.none _
      | refine LeO.ite ?_ ?_
      | refine LeO.bind ?_ (fun _ => ?_)
    · intro y0 y1 y2 y3 y4 y5
      unfold fathomlaw3_FloatQuotients.j4
      repeat' first
      | (with_reducible exact ih0 _ _)
      | (with_reducible exact ih1 _ _ _)
      | (with_reducible exact ih2 _ _ _ _ _)
      | (with_reducible exact ih3 _ _ _ _ _ _)
      | (with_reducible exact ih4 _ _ _ _ _ _)
      | (with_reducible exact fathomlaw3_top.mono _ _)
      | (with_reducible exact fathomlaw3_units.mono _ _)
      | (with_reducible exact fathomref3_Cmp.mono _ _ _)
      | (with_reducible exact fathomref3_Sum.mono _ _ _)
      | (with_reducible exact fathomref3_Times.mono _ _ _)
      | (with_reducible exact fathomref3_Up2.mono _ _ _)
      | (with_reducible exact LeO.refl _)
      | (with_reducible exact LeO.none _)
      | (with_reducible refine LeO.ite ?_ ?_)
      | (with_reducible refine LeO.bind ?_ (fun _ => ?_))
      | exact ih0 _ _
      | exact ih1 _ _ _
      | exact ih2 _ _ _ _ _
      | exact ih3 _ _ _ _ _ _
      | exact ih4 _ _ _ _ _ _
      | exact fathomlaw3_top.mono _ _
      | exact fathomlaw3_units.mono _ _
      | exact fathomref3_Cmp.mono _ _ _
      | exact fathomref3_Sum.mono _ _ _
      | exact fathomref3_Times.mono _ _ _
      | exact fathomref3_Up2.mono _ _ _
      | exact LeO.none _
      | refine LeO.ite ?_ ?_
      | refine LeO.bind ?_ (fun _ => ?_)
theorem fathomlaw3_FloatQuotients.mono : ∀ a0 k, LeO (fathomlaw3_FloatQuotients.f k a0) (fathomlaw3_FloatQuotients.f (k + 1) a0) := by
  intro a0 k
  obtain ⟨ih0, ih1, ih2, ih3, ih4⟩ := fathomlaw3_FloatQuotients.mono_l k
  unfold fathomlaw3_FloatQuotients.f
  repeat' first
      | (with_reducible exact ih0 _ _)
      | (with_reducible exact ih1 _ _ _)
      | (with_reducible exact ih2 _ _ _ _ _)
      | (with_reducible exact ih3 _ _ _ _ _ _)
      | (with_reducible exact ih4 _ _ _ _ _ _)
      | (with_reducible exact fathomlaw3_top.mono _ _)
      | (with_reducible exact fathomlaw3_units.mono _ _)
      | (with_reducible exact fathomref3_Cmp.mono _ _ _)
      | (with_reducible exact fathomref3_Sum.mono _ _ _)
      | (with_reducible exact fathomref3_Times.mono _ _ _)
      | (with_reducible exact fathomref3_Up2.mono _ _ _)
      | (with_reducible exact LeO.refl _)
      | (with_reducible exact LeO.none _)
      | (with_reducible refine LeO.ite ?_ ?_)
      | (with_reducible refine LeO.bind ?_ (fun _ => ?_))
      | exact ih0 _ _
      | exact ih1 _ _ _
      | exact ih2 _ _ _ _ _
      | exact ih3 _ _ _ _ _ _
      | exact ih4 _ _ _ _ _ _
      | exact fathomlaw3_top.mono _ _
      | exact fathomlaw3_units.mono _ _
      | exact fathomref3_Cmp.mono _ _ _
      | exact fathomref3_Sum.mono _ _ _
      | exact fathomref3_Times.mono _ _ _
      | exact fathomref3_Up2.mono _ _ _
      | exact LeO.none _
      | refine LeO.ite ?_ ?_
      | refine LeO.bind ?_ (fun _ => ?_)
set_option maxHeartbeats 8000000 in
set_option maxRecDepth 100000 in
theorem fathomlaw3_FloatQuotients.calls (k : Nat) (A0 : Option Addr) (c0 : Nat) (l0 : List (S39)) (r : Bool) (w : World) (hr0 : Kd.C k39 w A0 l0.length l0) (hc0 : l0.length ≤ c0) (h : fathomlaw3_FloatQuotients.f k l0 = some r) :
    Calls Try.prog 4 #[.slice A0 l0.length c0] w fun e w' => e = .returned (.bool r) ∧ Below w.heap.size w w' := by
  have HR0 := Aside0.mk hr0
  have HC0 := Aside0.mk hc0
  clear hr0 hc0
  have HB := Aside0.mk (Below.refl w.heap.size w)
  have H : (fathomlaw3_FloatQuotients.l0 k l0 0) = some r := h
  clear h
  have H' := Aside0.mk H
  clear H
  go_enter Try.func4, Try.ntmps4
  go_wp2
  go_loopg [3] k (fun kq v3 w' => ∃ (x3_1 : Int), v3 = .int .i64 x3_1 ∧ Aside0 (fathomlaw3_FloatQuotients.l0 kq l0 x3_1 = some r) ∧ Aside0 (kq ≤ k) ∧ Aside0 (Below w.heap.size w w'))
  case atStart => exact ⟨(0), (by first | rfl | (simp; done) | (simp [*]; done)), H', ⟨Nat.le_refl _⟩, ⟨by repeat (first | (with_reducible first | exact HB.out | apply below_alloc | apply pw_below_drewN | apply below_drew1) | exact HB.out)⟩⟩
  case round =>
    clear H'
    obtain ⟨x3_1, rfl, HA, HK1, HB⟩ := hrel
    cases gk with
    | zero => exact absurd HA.out (by simp [fathomlaw3_FloatQuotients.l0])
    | succ k1 =>
      have H := HA.out
      clear HA
      simp only [fathomlaw3_FloatQuotients.l0] at H
      have HC2 := Aside0.mk H
      clear H
      go_upto_region 2 with (fail)
      go_cut [16] (fun v16 wc => ∃ (kq : Nat) (x16_1 : Bool), v16 = .bool x16_1 ∧ Aside0 (fathomlaw3_FloatQuotients.j1 kq l0 x3_1 x16_1 = some r) ∧ Aside0 (kq ≤ k1) ∧ Aside0 (Below w.heap.size w wc))
      case first =>
        have H := HC2.out
        clear HC2
        by_cases c3 : x3_1 < (l0.length : Int)
        · rw [if_pos c3] at H
          have c3b0 : decide (x3_1 < (l0.length : Int)) = true := decide_eq_true c3
          clear c3
          (first | rw [c3b0] | (simp only [i64_w, i32_w]; rw [c3b0]) | skip)
          have H' := Aside0.mk H
          clear H
          go_wp2
          go_meet
          case rel => exact ⟨_, (decide (x3_1 < 2000)), (by first | rfl | (simp; done) | (simp [*]; done)), H', ⟨by have := HK1.out; first | omega | exact Nat.le_refl _⟩, ⟨by repeat (first | (with_reducible first | exact HB.out | apply below_alloc | apply pw_below_drewN | apply below_drew1) | exact HB.out)⟩⟩
        · rw [if_neg c3] at H
          have c3b0 : decide (x3_1 < (l0.length : Int)) = false := decide_eq_false c3
          clear c3
          (first | rw [c3b0] | (simp only [i64_w, i32_w]; rw [c3b0]) | skip)
          have H' := Aside0.mk H
          clear H
          go_wp2
          go_meet
          case rel => exact ⟨_, (false), (by first | rfl | (simp; done) | (simp [*]; done)), H', ⟨by have := HK1.out; first | omega | exact Nat.le_refl _⟩, ⟨by repeat (first | (with_reducible first | exact HB.out | apply below_alloc | apply pw_below_drewN | apply below_drew1) | exact HB.out)⟩⟩
      case rest =>
        clear HC2
        try clear p2
        try clear c3
        try clear c3b0
        obtain ⟨kq, x16_1, rfl, HA, HJ1, HB⟩ := hcut
        cases kq with
        | zero => exact absurd HA.out (by simp [fathomlaw3_FloatQuotients.j1])
        | succ kj1 =>
          have H := HA.out
          clear HA
          simp only [fathomlaw3_FloatQuotients.j1] at H
          by_cases c4 : x16_1 = true
          · subst c4
            have H1 : (if 0 ≤ x3_1 then (if x3_1 < (l0.length : Int) then ((fathomlaw3_finite.f (Go.bits .andNot .u64 ((rd_T39 l0 x3_1).f0) 9223372036854775808)).bind fun t186 => (if t186 = true then ((fathomlaw3_finite.f (Go.bits .andNot .u64 ((rd_T39 l0 x3_1).f1) 9223372036854775808)).bind fun t187 => (if t187 = true then (if (Go.bits .andNot .u64 ((rd_T39 l0 x3_1).f0) 9223372036854775808) = 0 then (fathomlaw3_FloatQuotients.j2 kj1 l0 x3_1 (Go.bits .andNot .u64 ((rd_T39 l0 x3_1).f0) 9223372036854775808) (Go.bits .andNot .u64 ((rd_T39 l0 x3_1).f1) 9223372036854775808) true) else (fathomlaw3_FloatQuotients.j2 kj1 l0 x3_1 (Go.bits .andNot .u64 ((rd_T39 l0 x3_1).f0) 9223372036854775808) (Go.bits .andNot .u64 ((rd_T39 l0 x3_1).f1) 9223372036854775808) ((Go.bits .andNot .u64 ((rd_T39 l0 x3_1).f1) 9223372036854775808) == 0))) else (fathomlaw3_FloatQuotients.j2 kj1 l0 x3_1 (Go.bits .andNot .u64 ((rd_T39 l0 x3_1).f0) 9223372036854775808) (Go.bits .andNot .u64 ((rd_T39 l0 x3_1).f1) 9223372036854775808) true))) else (fathomlaw3_FloatQuotients.j2 kj1 l0 x3_1 (Go.bits .andNot .u64 ((rd_T39 l0 x3_1).f0) 9223372036854775808) (Go.bits .andNot .u64 ((rd_T39 l0 x3_1).f1) 9223372036854775808) true))) else (none)) else (none)) = some r := by rw [if_pos rfl] at H; exact H
            clear H
            have H := H1
            clear H1
            by_cases c5 : 0 ≤ x3_1
            · rw [if_pos c5] at H
              have c5b0 : decide (0 ≤ x3_1) = true := decide_eq_true c5
              clear c5
              by_cases c6 : x3_1 < (l0.length : Int)
              · rw [if_pos c6] at H
                have c6b0 : decide (x3_1 < (l0.length : Int)) = true := decide_eq_true c6
                clear c6
                have HC7 := Aside0.mk H
                clear H
                have p184 : 0 ≤ (x3_1 : Int) := of_decide_eq_true (by first | (with_reducible assumption) | assumption)
                have q184 : x3_1 < (l0.length : Int) := of_decide_eq_true (by first | (with_reducible assumption) | assumption)
                obtain ⟨ad184, e184, hx184_0, hx184_1⟩ := at_T39 HR0.out x3_1 p184 q184
                cases e184
                replace hx184_0 := (HB.out.cell (World.block_lt_of_cell? w _ hx184_0)).trans hx184_0
                replace hx184_1 := (HB.out.cell (World.block_lt_of_cell? w _ hx184_1)).trans hx184_1
                replace p184 := eq_true p184
                replace q184 := eq_true q184
                have p185 : 0 ≤ (x3_1 : Int) := of_decide_eq_true (by first | (with_reducible assumption) | assumption)
                have q185 : x3_1 < (l0.length : Int) := of_decide_eq_true (by first | (with_reducible assumption) | assumption)
                obtain ⟨ad185, e185, hx185_0, hx185_1⟩ := at_T39 HR0.out x3_1 p185 q185
                obtain rfl : ad184 = ad185 := (by injection e185)
                replace hx185_0 := (HB.out.cell (World.block_lt_of_cell? w _ hx185_0)).trans hx185_0
                replace hx185_1 := (HB.out.cell (World.block_lt_of_cell? w _ hx185_1)).trans hx185_1
                replace p185 := eq_true p185
                replace q185 := eq_true q185
                go_upto_region 6 with (fail)
                go_cut [46] (fun v46 wc => ∃ (kq : Nat) (x46_6 : Bool), v46 = .bool x46_6 ∧ Aside0 (fathomlaw3_FloatQuotients.j2 kq l0 x3_1 (Go.bits .andNot .u64 ((rd_T39 l0 x3_1).f0) 9223372036854775808) (Go.bits .andNot .u64 ((rd_T39 l0 x3_1).f1) 9223372036854775808) x46_6 = some r) ∧ Aside0 (kq ≤ kj1) ∧ Aside0 (Below w.heap.size w wc))
                case first =>
                  have H := HC7.out
                  clear HC7
                  replace H := Option.bind_eq_some_iff.mp H
                  obtain ⟨t186, A80, H⟩ := H
                  replace H : (if t186 = true then ((fathomlaw3_finite.f (Go.bits .andNot .u64 ((rd_T39 l0 x3_1).f1) 9223372036854775808)).bind fun t187 => (if t187 = true then (if (Go.bits .andNot .u64 ((rd_T39 l0 x3_1).f0) 9223372036854775808) = 0 then (fathomlaw3_FloatQuotients.j2 kj1 l0 x3_1 (Go.bits .andNot .u64 ((rd_T39 l0 x3_1).f0) 9223372036854775808) (Go.bits .andNot .u64 ((rd_T39 l0 x3_1).f1) 9223372036854775808) true) else (fathomlaw3_FloatQuotients.j2 kj1 l0 x3_1 (Go.bits .andNot .u64 ((rd_T39 l0 x3_1).f0) 9223372036854775808) (Go.bits .andNot .u64 ((rd_T39 l0 x3_1).f1) 9223372036854775808) ((Go.bits .andNot .u64 ((rd_T39 l0 x3_1).f1) 9223372036854775808) == 0))) else (fathomlaw3_FloatQuotients.j2 kj1 l0 x3_1 (Go.bits .andNot .u64 ((rd_T39 l0 x3_1).f0) 9223372036854775808) (Go.bits .andNot .u64 ((rd_T39 l0 x3_1).f1) 9223372036854775808) true))) else (fathomlaw3_FloatQuotients.j2 kj1 l0 x3_1 (Go.bits .andNot .u64 ((rd_T39 l0 x3_1).f0) 9223372036854775808) (Go.bits .andNot .u64 ((rd_T39 l0 x3_1).f1) 9223372036854775808) true)) = some r := H
                  have A8 := Aside0.mk A80
                  clear A80
                  by_cases c9 : t186 = true
                  · subst c9
                    have H1 : ((fathomlaw3_finite.f (Go.bits .andNot .u64 ((rd_T39 l0 x3_1).f1) 9223372036854775808)).bind fun t187 => (if t187 = true then (if (Go.bits .andNot .u64 ((rd_T39 l0 x3_1).f0) 9223372036854775808) = 0 then (fathomlaw3_FloatQuotients.j2 kj1 l0 x3_1 (Go.bits .andNot .u64 ((rd_T39 l0 x3_1).f0) 9223372036854775808) (Go.bits .andNot .u64 ((rd_T39 l0 x3_1).f1) 9223372036854775808) true) else (fathomlaw3_FloatQuotients.j2 kj1 l0 x3_1 (Go.bits .andNot .u64 ((rd_T39 l0 x3_1).f0) 9223372036854775808) (Go.bits .andNot .u64 ((rd_T39 l0 x3_1).f1) 9223372036854775808) ((Go.bits .andNot .u64 ((rd_T39 l0 x3_1).f1) 9223372036854775808) == 0))) else (fathomlaw3_FloatQuotients.j2 kj1 l0 x3_1 (Go.bits .andNot .u64 ((rd_T39 l0 x3_1).f0) 9223372036854775808) (Go.bits .andNot .u64 ((rd_T39 l0 x3_1).f1) 9223372036854775808) true))) = some r := by rw [if_pos rfl] at H; exact H
                    clear H
                    have H := H1
                    clear H1
                    replace H := Option.bind_eq_some_iff.mp H
                    obtain ⟨t187, A100, H⟩ := H
                    replace H : (if t187 = true then (if (Go.bits .andNot .u64 ((rd_T39 l0 x3_1).f0) 9223372036854775808) = 0 then (fathomlaw3_FloatQuotients.j2 kj1 l0 x3_1 (Go.bits .andNot .u64 ((rd_T39 l0 x3_1).f0) 9223372036854775808) (Go.bits .andNot .u64 ((rd_T39 l0 x3_1).f1) 9223372036854775808) true) else (fathomlaw3_FloatQuotients.j2 kj1 l0 x3_1 (Go.bits .andNot .u64 ((rd_T39 l0 x3_1).f0) 9223372036854775808) (Go.bits .andNot .u64 ((rd_T39 l0 x3_1).f1) 9223372036854775808) ((Go.bits .andNot .u64 ((rd_T39 l0 x3_1).f1) 9223372036854775808) == 0))) else (fathomlaw3_FloatQuotients.j2 kj1 l0 x3_1 (Go.bits .andNot .u64 ((rd_T39 l0 x3_1).f0) 9223372036854775808) (Go.bits .andNot .u64 ((rd_T39 l0 x3_1).f1) 9223372036854775808) true)) = some r := H
                    have A10 := Aside0.mk A100
                    clear A100
                    by_cases c11 : t187 = true
                    · subst c11
                      have H1 : (if (Go.bits .andNot .u64 ((rd_T39 l0 x3_1).f0) 9223372036854775808) = 0 then (fathomlaw3_FloatQuotients.j2 kj1 l0 x3_1 (Go.bits .andNot .u64 ((rd_T39 l0 x3_1).f0) 9223372036854775808) (Go.bits .andNot .u64 ((rd_T39 l0 x3_1).f1) 9223372036854775808) true) else (fathomlaw3_FloatQuotients.j2 kj1 l0 x3_1 (Go.bits .andNot .u64 ((rd_T39 l0 x3_1).f0) 9223372036854775808) (Go.bits .andNot .u64 ((rd_T39 l0 x3_1).f1) 9223372036854775808) ((Go.bits .andNot .u64 ((rd_T39 l0 x3_1).f1) 9223372036854775808) == 0))) = some r := by rw [if_pos rfl] at H; exact H
                      clear H
                      have H := H1
                      clear H1
                      by_cases c12 : (Go.bits .andNot .u64 ((rd_T39 l0 x3_1).f0) 9223372036854775808) = 0
                      · rw [if_pos c12] at H
                        have c12b0 : ((Go.bits .andNot .u64 ((rd_T39 l0 x3_1).f0) 9223372036854775808) == 0) = true := beq_iff_eq.mpr c12
                        have c12b1 : ((Go.bits .andNot .u64 ((rd_T39 l0 x3_1).f0) 9223372036854775808) != 0) = false := bne_eq_false_iff_eq.mpr c12
                        clear c12
                        (first | rw [c12b0] | (simp only [i64_w, i32_w]; rw [c12b0]) | skip)
                        have H' := Aside0.mk H
                        clear H
                        go_wp2_with (first | ((with_reducible refine gate_callee (f := 16) rfl ?_); refine goesL_ (some 32) rfl rfl Try.func16 (by kernel_rfl) rfl #[.int .u64 (Go.bits .andNot .u64 ((rd_T39 l0 x3_1).f0) 9223372036854775808)] rfl (by (try simp only [List.map_toArray, List.map_cons, List.map_nil]); first | done | rfl | (simp only [List.length_drop, List.length_take]; rfl) | (simp only [gt_iff_lt, Int.natCast_pos]; rfl)) ?_; (with_reducible refine (fathomlaw3_finite.calls (Go.bits .andNot .u64 ((rd_T39 l0 x3_1).f0) 9223372036854775808) true _ A8.out).mono ?_); rintro e w' ⟨rfl, ⟨nd, rfl⟩⟩; refine ⟨_, rfl, ?_⟩) | (go_at_call 16; (with_reducible refine (fathomlaw3_finite.calls (Go.bits .andNot .u64 ((rd_T39 l0 x3_1).f1) 9223372036854775808) true _ A10.out).mono ?_); rintro e w' ⟨rfl, ⟨nd, rfl⟩⟩))
                        go_meet
                        case rel => exact ⟨_, (true), (by first | rfl | (simp; done) | (simp [*]; done)), H', ⟨by have := HK1.out; have := HJ1.out; first | omega | exact Nat.le_refl _⟩, ⟨by repeat (first | (with_reducible first | exact HB.out | apply below_alloc | apply pw_below_drewN | apply below_drew1) | exact HB.out)⟩⟩
                      · rw [if_neg c12] at H
                        have c12b0 : ((Go.bits .andNot .u64 ((rd_T39 l0 x3_1).f0) 9223372036854775808) == 0) = false := beq_eq_false_iff_ne.mpr c12
                        have c12b1 : ((Go.bits .andNot .u64 ((rd_T39 l0 x3_1).f0) 9223372036854775808) != 0) = true := bne_iff_ne.mpr c12
                        (first | rw [c12b0] | (simp only [i64_w, i32_w]; rw [c12b0]) | skip)
                        have H' := Aside0.mk H
                        clear H
                        go_wp2_with (first | ((with_reducible refine gate_callee (f := 16) rfl ?_); refine goesL_ (some 32) rfl rfl Try.func16 (by kernel_rfl) rfl #[.int .u64 (Go.bits .andNot .u64 ((rd_T39 l0 x3_1).f0) 9223372036854775808)] rfl (by (try simp only [List.map_toArray, List.map_cons, List.map_nil]); first | done | rfl | (simp only [List.length_drop, List.length_take]; rfl) | (simp only [gt_iff_lt, Int.natCast_pos]; rfl)) ?_; (with_reducible refine (fathomlaw3_finite.calls (Go.bits .andNot .u64 ((rd_T39 l0 x3_1).f0) 9223372036854775808) true _ A8.out).mono ?_); rintro e w' ⟨rfl, ⟨nd, rfl⟩⟩; refine ⟨_, rfl, ?_⟩) | (go_at_call 16; (with_reducible refine (fathomlaw3_finite.calls (Go.bits .andNot .u64 ((rd_T39 l0 x3_1).f1) 9223372036854775808) true _ A10.out).mono ?_); rintro e w' ⟨rfl, ⟨nd, rfl⟩⟩))
                        go_meet
                        case rel => exact ⟨_, (((Go.bits .andNot .u64 ((rd_T39 l0 x3_1).f1) 9223372036854775808) == 0)), (by first | rfl | (simp; done) | (simp [*]; done)), H', ⟨by have := HK1.out; have := HJ1.out; first | omega | exact Nat.le_refl _⟩, ⟨by repeat (first | (with_reducible first | exact HB.out | apply below_alloc | apply pw_below_drewN | apply below_drew1) | exact HB.out)⟩⟩
                    · replace c11 := Bool.eq_false_iff.mpr c11
                      subst c11
                      have H1 : (fathomlaw3_FloatQuotients.j2 kj1 l0 x3_1 (Go.bits .andNot .u64 ((rd_T39 l0 x3_1).f0) 9223372036854775808) (Go.bits .andNot .u64 ((rd_T39 l0 x3_1).f1) 9223372036854775808) true) = some r := by rw [if_neg (show ¬ (false = true) by decide)] at H; exact H
                      clear H
                      have H := H1
                      clear H1
                      have H' := Aside0.mk H
                      clear H
                      go_wp2_with (first | ((with_reducible refine gate_callee (f := 16) rfl ?_); refine goesL_ (some 32) rfl rfl Try.func16 (by kernel_rfl) rfl #[.int .u64 (Go.bits .andNot .u64 ((rd_T39 l0 x3_1).f0) 9223372036854775808)] rfl (by (try simp only [List.map_toArray, List.map_cons, List.map_nil]); first | done | rfl | (simp only [List.length_drop, List.length_take]; rfl) | (simp only [gt_iff_lt, Int.natCast_pos]; rfl)) ?_; (with_reducible refine (fathomlaw3_finite.calls (Go.bits .andNot .u64 ((rd_T39 l0 x3_1).f0) 9223372036854775808) true _ A8.out).mono ?_); rintro e w' ⟨rfl, ⟨nd, rfl⟩⟩; refine ⟨_, rfl, ?_⟩) | (go_at_call 16; (with_reducible refine (fathomlaw3_finite.calls (Go.bits .andNot .u64 ((rd_T39 l0 x3_1).f1) 9223372036854775808) false _ A10.out).mono ?_); rintro e w' ⟨rfl, ⟨nd, rfl⟩⟩))
                      go_meet
                      case rel => exact ⟨_, (true), (by first | rfl | (simp; done) | (simp [*]; done)), H', ⟨by have := HK1.out; have := HJ1.out; first | omega | exact Nat.le_refl _⟩, ⟨by repeat (first | (with_reducible first | exact HB.out | apply below_alloc | apply pw_below_drewN | apply below_drew1) | exact HB.out)⟩⟩
                  · replace c9 := Bool.eq_false_iff.mpr c9
                    subst c9
                    have H1 : (fathomlaw3_FloatQuotients.j2 kj1 l0 x3_1 (Go.bits .andNot .u64 ((rd_T39 l0 x3_1).f0) 9223372036854775808) (Go.bits .andNot .u64 ((rd_T39 l0 x3_1).f1) 9223372036854775808) true) = some r := by rw [if_neg (show ¬ (false = true) by decide)] at H; exact H
                    clear H
                    have H := H1
                    clear H1
                    have H' := Aside0.mk H
                    clear H
                    go_wp2_with (first | ((with_reducible refine gate_callee (f := 16) rfl ?_); refine goesL_ (some 32) rfl rfl Try.func16 (by kernel_rfl) rfl #[.int .u64 (Go.bits .andNot .u64 ((rd_T39 l0 x3_1).f0) 9223372036854775808)] rfl (by (try simp only [List.map_toArray, List.map_cons, List.map_nil]); first | done | rfl | (simp only [List.length_drop, List.length_take]; rfl) | (simp only [gt_iff_lt, Int.natCast_pos]; rfl)) ?_; (with_reducible refine (fathomlaw3_finite.calls (Go.bits .andNot .u64 ((rd_T39 l0 x3_1).f0) 9223372036854775808) false _ A8.out).mono ?_); rintro e w' ⟨rfl, ⟨nd, rfl⟩⟩; refine ⟨_, rfl, ?_⟩))
                    go_meet
                    case rel => exact ⟨_, (true), (by first | rfl | (simp; done) | (simp [*]; done)), H', ⟨by have := HK1.out; have := HJ1.out; first | omega | exact Nat.le_refl _⟩, ⟨by repeat (first | (with_reducible first | exact HB.out | apply below_alloc | apply pw_below_drewN | apply below_drew1) | exact HB.out)⟩⟩
                case rest =>
                  clear HC7
                  try clear c1
                  try clear p1
                  try clear q1
                  try clear hx1
                  try clear p2
                  try clear c3
                  try clear c3b0
                  try clear c4
                  try clear c5
                  try clear c5b0
                  try clear c6
                  try clear c6b0
                  try clear c9
                  try clear c11
                  try clear c12
                  try clear c12b0
                  try clear c12b1
                  try clear hx184_0
                  try clear hx184_1
                  try clear hx185_0
                  try clear hx185_1
                  try clear p184
                  try clear p185
                  try clear p2
                  try clear q184
                  try clear q185
                  obtain ⟨kq, x46_6, rfl, HA, HJ6, HB⟩ := hcut
                  cases kq with
                  | zero => exact absurd HA.out (by simp [fathomlaw3_FloatQuotients.j2])
                  | succ kj6 =>
                    have H := HA.out
                    clear HA
                    simp only [fathomlaw3_FloatQuotients.j2] at H
                    by_cases c13 : x46_6 = true
                    · subst c13
                      have H1 : (fathomlaw3_FloatQuotients.l0 kj6 l0 (wrap64 (x3_1 + 1))) = some r := by rw [if_pos rfl] at H; exact H
                      clear H
                      have H := H1
                      clear H1
                      have H' := Aside0.mk H
                      clear H
                      go_wp2
                      go_roundg kj6
                      case measure => have := HK1.out; have := HJ1.out; have := HJ6.out; omega
                      case rel => exact ⟨(wrap64 (x3_1 + 1)), (by first | rfl | (simp; done) | (simp [*]; done)), H', ⟨by have := HK1.out; have := HJ1.out; have := HJ6.out; omega⟩, ⟨by repeat (first | (with_reducible first | exact HB.out | apply below_alloc | apply pw_below_drewN | apply below_drew1) | exact HB.out)⟩⟩
                    · replace c13 := Bool.eq_false_iff.mpr c13
                      subst c13
                      have H1 : ((float_Div_uint64.f (Go.bits .andNot .u64 ((rd_T39 l0 x3_1).f0) 9223372036854775808) (Go.bits .andNot .u64 ((rd_T39 l0 x3_1).f1) 9223372036854775808)).bind fun t188 => ((fathomlaw3_nan.f t188).bind fun t189 => (if t189 = true then (fathomlaw3_FloatQuotients.j3 kj6 l0 x3_1 (Go.bits .andNot .u64 ((rd_T39 l0 x3_1).f0) 9223372036854775808) (Go.bits .andNot .u64 ((rd_T39 l0 x3_1).f1) 9223372036854775808) t188 true) else (fathomlaw3_FloatQuotients.j3 kj6 l0 x3_1 (Go.bits .andNot .u64 ((rd_T39 l0 x3_1).f0) 9223372036854775808) (Go.bits .andNot .u64 ((rd_T39 l0 x3_1).f1) 9223372036854775808) t188 ((Go.bits .and .u64 t188 9223372036854775808) != 0))))) = some r := by rw [if_neg (show ¬ (false = true) by decide)] at H; exact H
                      clear H
                      have H := H1
                      clear H1
                      replace H := Option.bind_eq_some_iff.mp H
                      obtain ⟨t188, A140, H⟩ := H
                      replace H : ((fathomlaw3_nan.f t188).bind fun t189 => (if t189 = true then (fathomlaw3_FloatQuotients.j3 kj6 l0 x3_1 (Go.bits .andNot .u64 ((rd_T39 l0 x3_1).f0) 9223372036854775808) (Go.bits .andNot .u64 ((rd_T39 l0 x3_1).f1) 9223372036854775808) t188 true) else (fathomlaw3_FloatQuotients.j3 kj6 l0 x3_1 (Go.bits .andNot .u64 ((rd_T39 l0 x3_1).f0) 9223372036854775808) (Go.bits .andNot .u64 ((rd_T39 l0 x3_1).f1) 9223372036854775808) t188 ((Go.bits .and .u64 t188 9223372036854775808) != 0)))) = some r := H
                      have A14 := Aside0.mk A140
                      clear A140
                      have HC15 := Aside0.mk H
                      clear H
                      go_upto_region 8 with (first | ((with_reducible refine gate_callee (f := 25) rfl ?_); refine goesL_ (some 49) rfl rfl Try.func25 (by kernel_rfl) rfl #[.int .u64 (Go.bits .andNot .u64 ((rd_T39 l0 x3_1).f0) 9223372036854775808), .int .u64 (Go.bits .andNot .u64 ((rd_T39 l0 x3_1).f1) 9223372036854775808)] rfl (by (try simp only [List.map_toArray, List.map_cons, List.map_nil]); first | done | rfl | (simp only [List.length_drop, List.length_take]; rfl) | (simp only [gt_iff_lt, Int.natCast_pos]; rfl)) ?_; (with_reducible refine (float_Div_uint64.calls (Go.bits .andNot .u64 ((rd_T39 l0 x3_1).f0) 9223372036854775808) (Go.bits .andNot .u64 ((rd_T39 l0 x3_1).f1) 9223372036854775808) t188 _ A14.out).mono ?_); rintro e w' ⟨rfl, ⟨nd, rfl⟩⟩; refine ⟨_, rfl, ?_⟩))
                      (try simp only [Act.put, List.setIfInBounds_toArray, List.set_cons_zero, List.set_cons_succ])
                      go_cut [56] (fun v56 wc => ∃ (kq : Nat) (x56_14 : Bool), v56 = .bool x56_14 ∧ Aside0 (fathomlaw3_FloatQuotients.j3 kq l0 x3_1 (Go.bits .andNot .u64 ((rd_T39 l0 x3_1).f0) 9223372036854775808) (Go.bits .andNot .u64 ((rd_T39 l0 x3_1).f1) 9223372036854775808) t188 x56_14 = some r) ∧ Aside0 (kq ≤ kj6) ∧ Aside0 (Below w.heap.size w wc))
                      case first =>
                        have H := HC15.out
                        clear HC15
                        replace H := Option.bind_eq_some_iff.mp H
                        obtain ⟨t189, A160, H⟩ := H
                        replace H : (if t189 = true then (fathomlaw3_FloatQuotients.j3 kj6 l0 x3_1 (Go.bits .andNot .u64 ((rd_T39 l0 x3_1).f0) 9223372036854775808) (Go.bits .andNot .u64 ((rd_T39 l0 x3_1).f1) 9223372036854775808) t188 true) else (fathomlaw3_FloatQuotients.j3 kj6 l0 x3_1 (Go.bits .andNot .u64 ((rd_T39 l0 x3_1).f0) 9223372036854775808) (Go.bits .andNot .u64 ((rd_T39 l0 x3_1).f1) 9223372036854775808) t188 ((Go.bits .and .u64 t188 9223372036854775808) != 0))) = some r := H
                        have A16 := Aside0.mk A160
                        clear A160
                        by_cases c17 : t189 = true
                        · subst c17
                          have H1 : (fathomlaw3_FloatQuotients.j3 kj6 l0 x3_1 (Go.bits .andNot .u64 ((rd_T39 l0 x3_1).f0) 9223372036854775808) (Go.bits .andNot .u64 ((rd_T39 l0 x3_1).f1) 9223372036854775808) t188 true) = some r := by rw [if_pos rfl] at H; exact H
                          clear H
                          have H := H1
                          clear H1
                          have H' := Aside0.mk H
                          clear H
                          go_wp2_with (first | ((with_reducible refine gate_callee (f := 26) rfl ?_); refine goesL_ (some 51) rfl rfl Try.func26 (by kernel_rfl) rfl #[.int .u64 t188] rfl (by (try simp only [List.map_toArray, List.map_cons, List.map_nil]); first | done | rfl | (simp only [List.length_drop, List.length_take]; rfl) | (simp only [gt_iff_lt, Int.natCast_pos]; rfl)) ?_; (with_reducible refine (fathomlaw3_nan.calls t188 true _ A16.out).mono ?_); rintro e w' ⟨rfl, ⟨nd, rfl⟩⟩; refine ⟨_, rfl, ?_⟩))
                          go_meet
                          case rel => exact ⟨_, (true), (by first | rfl | (simp; done) | (simp [*]; done)), H', ⟨by have := HK1.out; have := HJ1.out; have := HJ6.out; first | omega | exact Nat.le_refl _⟩, ⟨by repeat (first | (with_reducible first | exact HB.out | apply below_alloc | apply pw_below_drewN | apply below_drew1) | exact HB.out)⟩⟩
                        · replace c17 := Bool.eq_false_iff.mpr c17
                          subst c17
                          have H1 : (fathomlaw3_FloatQuotients.j3 kj6 l0 x3_1 (Go.bits .andNot .u64 ((rd_T39 l0 x3_1).f0) 9223372036854775808) (Go.bits .andNot .u64 ((rd_T39 l0 x3_1).f1) 9223372036854775808) t188 ((Go.bits .and .u64 t188 9223372036854775808) != 0)) = some r := by rw [if_neg (show ¬ (false = true) by decide)] at H; exact H
                          clear H
                          have H := H1
                          clear H1
                          have H' := Aside0.mk H
                          clear H
                          go_wp2_with (first | ((with_reducible refine gate_callee (f := 26) rfl ?_); refine goesL_ (some 51) rfl rfl Try.func26 (by kernel_rfl) rfl #[.int .u64 t188] rfl (by (try simp only [List.map_toArray, List.map_cons, List.map_nil]); first | done | rfl | (simp only [List.length_drop, List.length_take]; rfl) | (simp only [gt_iff_lt, Int.natCast_pos]; rfl)) ?_; (with_reducible refine (fathomlaw3_nan.calls t188 false _ A16.out).mono ?_); rintro e w' ⟨rfl, ⟨nd, rfl⟩⟩; refine ⟨_, rfl, ?_⟩))
                          go_meet
                          case rel => exact ⟨_, (((Go.bits .and .u64 t188 9223372036854775808) != 0)), (by first | rfl | (simp; done) | (simp [*]; done)), H', ⟨by have := HK1.out; have := HJ1.out; have := HJ6.out; first | omega | exact Nat.le_refl _⟩, ⟨by repeat (first | (with_reducible first | exact HB.out | apply below_alloc | apply pw_below_drewN | apply below_drew1) | exact HB.out)⟩⟩
                      case rest =>
                        clear HC15
                        try clear c1
                        try clear p1
                        try clear q1
                        try clear hx1
                        try clear c2
                        try clear p2
                        try clear c3
                        try clear c3b0
                        try clear c4
                        try clear c5
                        try clear c5b0
                        try clear c6
                        try clear c6b0
                        try clear p6
                        try clear c9
                        try clear c11
                        try clear c12
                        try clear c12b0
                        try clear c12b1
                        try clear c13
                        try clear c16
                        try clear c17
                        try clear hx184_0
                        try clear hx184_1
                        try clear hx185_0
                        try clear hx185_1
                        try clear p1
                        try clear p184
                        try clear p185
                        try clear p2
                        try clear q1
                        try clear q184
                        try clear q185
                        obtain ⟨kq, x56_14, rfl, HA, HJ14, HB⟩ := hcut
                        cases kq with
                        | zero => exact absurd HA.out (by simp [fathomlaw3_FloatQuotients.j3])
                        | succ kj14 =>
                          have H := HA.out
                          clear HA
                          simp only [fathomlaw3_FloatQuotients.j3] at H
                          by_cases c18 : x56_14 = true
                          · subst c18
                            have H1 : (some false) = some r := by rw [if_pos rfl] at H; exact H
                            clear H
                            have H := H1
                            clear H1
                            obtain rfl := Option.some.inj H
                            go_wp2
                            go_ret
                            exact ⟨by first | rfl | (simp [errW_none, errW_some] <;> rfl) | (simp [*, errW_none, errW_some] <;> rfl), by repeat (first | (with_reducible first | exact HB.out | apply below_alloc | apply pw_below_drewN | apply below_drew1) | exact HB.out)⟩
                          · replace c18 := Bool.eq_false_iff.mpr c18
                            subst c18
                            have H1 : ((fathomlaw3_units.f kj14 (Go.bits .andNot .u64 ((rd_T39 l0 x3_1).f0) 9223372036854775808)).bind fun t190 => ((fathomref3_Up2.f kj14 t190 1075).bind fun t193 => ((fathomlaw3_units.f kj14 (Go.bits .andNot .u64 ((rd_T39 l0 x3_1).f1) 9223372036854775808)).bind fun t196 => (if t188 = 0 then (fathomlaw3_FloatQuotients.j4 kj14 l0 x3_1 t188 t193 t196 false) else ((fathomlaw3_top.f kj14 t188).bind fun t199 => ((fathomlaw3_top.f kj14 (IntKind.u64.wrap (t188 - 1))).bind fun t202 => ((fathomref3_Sum.f kj14 t199 t202).bind fun t205 => ((fathomref3_Times.f kj14 t205 t196).bind fun t208 => ((fathomref3_Cmp.f kj14 t208 t193).bind fun t211 => (fathomlaw3_FloatQuotients.j4 kj14 l0 x3_1 t188 t193 t196 (decide (t211 > 0)))))))))))) = some r := by rw [if_neg (show ¬ (false = true) by decide)] at H; exact H
                            clear H
                            have H := H1
                            clear H1
                            replace H := Option.bind_eq_some_iff.mp H
                            obtain ⟨t190, A190, H⟩ := H
                            replace H : ((fathomref3_Up2.f kj14 t190 1075).bind fun t193 => ((fathomlaw3_units.f kj14 (Go.bits .andNot .u64 ((rd_T39 l0 x3_1).f1) 9223372036854775808)).bind fun t196 => (if t188 = 0 then (fathomlaw3_FloatQuotients.j4 kj14 l0 x3_1 t188 t193 t196 false) else ((fathomlaw3_top.f kj14 t188).bind fun t199 => ((fathomlaw3_top.f kj14 (IntKind.u64.wrap (t188 - 1))).bind fun t202 => ((fathomref3_Sum.f kj14 t199 t202).bind fun t205 => ((fathomref3_Times.f kj14 t205 t196).bind fun t208 => ((fathomref3_Cmp.f kj14 t208 t193).bind fun t211 => (fathomlaw3_FloatQuotients.j4 kj14 l0 x3_1 t188 t193 t196 (decide (t211 > 0))))))))))) = some r := H
                            have A19 := Aside0.mk A190
                            clear A190
                            replace H := Option.bind_eq_some_iff.mp H
                            obtain ⟨t193, A200, H⟩ := H
                            replace H : ((fathomlaw3_units.f kj14 (Go.bits .andNot .u64 ((rd_T39 l0 x3_1).f1) 9223372036854775808)).bind fun t196 => (if t188 = 0 then (fathomlaw3_FloatQuotients.j4 kj14 l0 x3_1 t188 t193 t196 false) else ((fathomlaw3_top.f kj14 t188).bind fun t199 => ((fathomlaw3_top.f kj14 (IntKind.u64.wrap (t188 - 1))).bind fun t202 => ((fathomref3_Sum.f kj14 t199 t202).bind fun t205 => ((fathomref3_Times.f kj14 t205 t196).bind fun t208 => ((fathomref3_Cmp.f kj14 t208 t193).bind fun t211 => (fathomlaw3_FloatQuotients.j4 kj14 l0 x3_1 t188 t193 t196 (decide (t211 > 0)))))))))) = some r := H
                            have A20 := Aside0.mk A200
                            clear A200
                            replace H := Option.bind_eq_some_iff.mp H
                            obtain ⟨t196, A210, H⟩ := H
                            replace H : (if t188 = 0 then (fathomlaw3_FloatQuotients.j4 kj14 l0 x3_1 t188 t193 t196 false) else ((fathomlaw3_top.f kj14 t188).bind fun t199 => ((fathomlaw3_top.f kj14 (IntKind.u64.wrap (t188 - 1))).bind fun t202 => ((fathomref3_Sum.f kj14 t199 t202).bind fun t205 => ((fathomref3_Times.f kj14 t205 t196).bind fun t208 => ((fathomref3_Cmp.f kj14 t208 t193).bind fun t211 => (fathomlaw3_FloatQuotients.j4 kj14 l0 x3_1 t188 t193 t196 (decide (t211 > 0))))))))) = some r := H
                            have A21 := Aside0.mk A210
                            clear A210
                            have HC22 := Aside0.mk H
                            clear H
                            go_upto_region 12 with (first | ((with_reducible refine gate_callee (f := 20) rfl ?_); refine goesL_ (some 58) rfl rfl Try.func20 (by kernel_rfl) rfl #[.int .u64 (Go.bits .andNot .u64 ((rd_T39 l0 x3_1).f0) 9223372036854775808)] rfl (by (try simp only [List.map_toArray, List.map_cons, List.map_nil]); first | done | rfl | (simp only [List.length_drop, List.length_take]; rfl) | (simp only [gt_iff_lt, Int.natCast_pos]; rfl)) ?_; (with_reducible refine (fathomlaw3_units.calls kj14 (Go.bits .andNot .u64 ((rd_T39 l0 x3_1).f0) 9223372036854775808) t190 _ A19.out).mono ?_); rintro e w23 ⟨v191, rfl, ho0, hb⟩; refine ⟨_, rfl, ?_⟩; have n0_ := Aside0.mk (Kd.R_lower ho0 (below_size (by repeat (first | (with_reducible first | exact HB.out | apply below_alloc | apply pw_below_drewN | apply below_drew1) | exact HB.out)))); have n1_ := Aside0.mk (below_step (by repeat (first | (with_reducible first | exact HB.out | apply below_alloc | apply pw_below_drewN | apply below_drew1) | exact HB.out)) hb); clear HB; have HO192 := n0_; have HB := n1_; clear n0_ n1_; (try clear hb); (try clear hb2); (try clear hk); (try clear hi); (try clear ho0); obtain ⟨Ao24, co24, eo24⟩ := Kd.R_slice HO192.out; subst eo24) | ((with_reducible refine gate_callee (f := 19) rfl ?_); refine goesL_ (some 59) rfl rfl Try.func19 (by kernel_rfl) rfl #[.slice Ao24 t190.length co24, .int .i64 1075] rfl (by (try simp only [List.map_toArray, List.map_cons, List.map_nil]); first | done | rfl | (simp only [List.length_drop, List.length_take]; rfl) | (simp only [gt_iff_lt, Int.natCast_pos]; rfl)) ?_; (with_reducible refine (fathomref3_Up2.calls kj14 _ _ t190 1075 t193 _ ?side1 ?side2 A20.out).mono ?_); (case side1 => repeat (first | exact (Kd.R_reads' HO192.out).2.2 | (with_reducible refine Kd.C_alloc ?_ _) | (with_reducible refine Kd.C_drewN ?_ _) | (with_reducible refine Kd.C_drew ?_))); (case side2 => exact (Kd.R_reads' HO192.out).2.1); rintro e w25 ⟨v194, rfl, ho0, hb⟩; refine ⟨_, rfl, ?_⟩; have n0_ := Aside0.mk (Kd.R_elder' (by (with_reducible repeat (first | apply Kd.R_alloc | apply Kd.R_drewN | apply Kd.R_drew)); exact HO192.out) (Kd.R_base ho0) hb); have n1_ := Aside0.mk (Kd.R_lower (Kd.R_new' ho0 (Kd.R_lt (by (with_reducible repeat (first | apply Kd.R_alloc | apply Kd.R_drewN | apply Kd.R_drew)); exact HO192.out))) (below_size (by repeat (first | (with_reducible first | exact HB.out | apply below_alloc | apply pw_below_drewN | apply below_drew1) | exact HB.out)))); have n2_ := Aside0.mk (below_step (by repeat (first | (with_reducible first | exact HB.out | apply below_alloc | apply pw_below_drewN | apply below_drew1) | exact HB.out)) hb); clear HO192; clear HB; have HO192 := n0_; have HO195 := n1_; have HB := n2_; clear n0_ n1_ n2_; (try clear hb); (try clear hb2); (try clear hk); (try clear hi); (try clear ho0)) | ((with_reducible refine gate_callee (f := 20) rfl ?_); refine goesL_ (some 61) rfl rfl Try.func20 (by kernel_rfl) rfl #[.int .u64 (Go.bits .andNot .u64 ((rd_T39 l0 x3_1).f1) 9223372036854775808)] rfl (by (try simp only [List.map_toArray, List.map_cons, List.map_nil]); first | done | rfl | (simp only [List.length_drop, List.length_take]; rfl) | (simp only [gt_iff_lt, Int.natCast_pos]; rfl)) ?_; (with_reducible refine (fathomlaw3_units.calls kj14 (Go.bits .andNot .u64 ((rd_T39 l0 x3_1).f1) 9223372036854775808) t196 _ A21.out).mono ?_); rintro e w26 ⟨v197, rfl, ho0, hb⟩; refine ⟨_, rfl, ?_⟩; have n0_ := Aside0.mk (Kd.R_elder' (by (with_reducible repeat (first | apply Kd.R_alloc | apply Kd.R_drewN | apply Kd.R_drew)); exact HO192.out) (Kd.R_base ho0) hb); have n1_ := Aside0.mk (Kd.R_elder' (by (with_reducible repeat (first | apply Kd.R_alloc | apply Kd.R_drewN | apply Kd.R_drew)); exact HO195.out) (Kd.R_base ho0) hb); have n2_ := Aside0.mk (Kd.R_lower (Kd.R_new' (Kd.R_new' ho0 (Kd.R_lt (by (with_reducible repeat (first | apply Kd.R_alloc | apply Kd.R_drewN | apply Kd.R_drew)); exact HO192.out))) (Kd.R_lt (by (with_reducible repeat (first | apply Kd.R_alloc | apply Kd.R_drewN | apply Kd.R_drew)); exact HO195.out))) (below_size (by repeat (first | (with_reducible first | exact HB.out | apply below_alloc | apply pw_below_drewN | apply below_drew1) | exact HB.out)))); have n3_ := Aside0.mk (below_step (by repeat (first | (with_reducible first | exact HB.out | apply below_alloc | apply pw_below_drewN | apply below_drew1) | exact HB.out)) hb); clear HO192; clear HO195; clear HB; have HO192 := n0_; have HO195 := n1_; have HO198 := n2_; have HB := n3_; clear n0_ n1_ n2_ n3_; (try clear hb); (try clear hb2); (try clear hk); (try clear hi); (try clear ho0)))
                            (try simp only [Act.put, List.setIfInBounds_toArray, List.set_cons_zero, List.set_cons_succ])
                            go_cut [76] (fun v76 wc => ∃ (kq : Nat) (x76_21 : Bool), v76 = .bool x76_21 ∧ Aside0 (fathomlaw3_FloatQuotients.j4 kq l0 x3_1 t188 t193 t196 x76_21 = some r) ∧ Aside0 (kq ≤ kj14) ∧ Aside0 (Kd.R (Kd.int .u32) 25 wc w.heap.size (fun k_ => some k_ ≠ (v197 : Value).ownBlock) v194 t193) ∧ Aside0 (Kd.R (Kd.int .u32) 25 wc w.heap.size (fun k_ => some k_ ≠ (v194 : Value).ownBlock) v197 t196) ∧ Aside0 (Below w.heap.size w wc))
                            case first =>
                              have H := HC22.out
                              clear HC22
                              by_cases c27 : t188 = 0
                              · rw [if_pos c27] at H
                                have c27b0 : (t188 == 0) = true := beq_iff_eq.mpr c27
                                have c27b1 : (t188 != 0) = false := bne_eq_false_iff_eq.mpr c27
                                clear c27
                                (first | rw [c27b0] | (simp only [i64_w, i32_w]; rw [c27b0]) | skip)
                                have H' := Aside0.mk H
                                clear H
                                go_wp2
                                go_meet
                                case rel => exact ⟨_, (false), (by first | rfl | (simp; done) | (simp [*]; done)), H', ⟨by have := HK1.out; have := HJ1.out; have := HJ6.out; have := HJ14.out; first | omega | exact Nat.le_refl _⟩, ⟨by (with_reducible repeat (first | apply Kd.R_alloc | apply Kd.R_drewN | apply Kd.R_drew)); exact Kd.R_mono HO195.out (fun _ hk => hk.2)⟩, ⟨by (with_reducible repeat (first | apply Kd.R_alloc | apply Kd.R_drewN | apply Kd.R_drew)); exact Kd.R_mono HO198.out (fun _ hk => hk.2)⟩, ⟨by repeat (first | (with_reducible first | exact HB.out | apply below_alloc | apply pw_below_drewN | apply below_drew1) | exact HB.out)⟩⟩
                              · rw [if_neg c27] at H
                                have c27b0 : (t188 == 0) = false := beq_eq_false_iff_ne.mpr c27
                                have c27b1 : (t188 != 0) = true := bne_iff_ne.mpr c27
                                (first | rw [c27b0] | (simp only [i64_w, i32_w]; rw [c27b0]) | skip)
                                replace H := Option.bind_eq_some_iff.mp H
                                obtain ⟨t199, A280, H⟩ := H
                                replace H : ((fathomlaw3_top.f kj14 (IntKind.u64.wrap (t188 - 1))).bind fun t202 => ((fathomref3_Sum.f kj14 t199 t202).bind fun t205 => ((fathomref3_Times.f kj14 t205 t196).bind fun t208 => ((fathomref3_Cmp.f kj14 t208 t193).bind fun t211 => (fathomlaw3_FloatQuotients.j4 kj14 l0 x3_1 t188 t193 t196 (decide (t211 > 0))))))) = some r := H
                                have A28 := Aside0.mk A280
                                clear A280
                                replace H := Option.bind_eq_some_iff.mp H
                                obtain ⟨t202, A290, H⟩ := H
                                replace H : ((fathomref3_Sum.f kj14 t199 t202).bind fun t205 => ((fathomref3_Times.f kj14 t205 t196).bind fun t208 => ((fathomref3_Cmp.f kj14 t208 t193).bind fun t211 => (fathomlaw3_FloatQuotients.j4 kj14 l0 x3_1 t188 t193 t196 (decide (t211 > 0)))))) = some r := H
                                have A29 := Aside0.mk A290
                                clear A290
                                replace H := Option.bind_eq_some_iff.mp H
                                obtain ⟨t205, A300, H⟩ := H
                                replace H : ((fathomref3_Times.f kj14 t205 t196).bind fun t208 => ((fathomref3_Cmp.f kj14 t208 t193).bind fun t211 => (fathomlaw3_FloatQuotients.j4 kj14 l0 x3_1 t188 t193 t196 (decide (t211 > 0))))) = some r := H
                                have A30 := Aside0.mk A300
                                clear A300
                                replace H := Option.bind_eq_some_iff.mp H
                                obtain ⟨t208, A310, H⟩ := H
                                replace H : ((fathomref3_Cmp.f kj14 t208 t193).bind fun t211 => (fathomlaw3_FloatQuotients.j4 kj14 l0 x3_1 t188 t193 t196 (decide (t211 > 0)))) = some r := H
                                have A31 := Aside0.mk A310
                                clear A310
                                replace H := Option.bind_eq_some_iff.mp H
                                obtain ⟨t211, A320, H⟩ := H
                                replace H : (fathomlaw3_FloatQuotients.j4 kj14 l0 x3_1 t188 t193 t196 (decide (t211 > 0))) = some r := H
                                have A32 := Aside0.mk A320
                                clear A320
                                have H' := Aside0.mk H
                                clear H
                                go_wp2_with (first | (go_at_call 28; (with_reducible refine (fathomlaw3_top.calls kj14 t188 t199 _ A28.out).mono ?_); rintro e w33 ⟨v200, rfl, ho0, hb⟩; have n0_ := Aside0.mk (Kd.R_elder' (by (with_reducible repeat (first | apply Kd.R_alloc | apply Kd.R_drewN | apply Kd.R_drew)); exact HO192.out) (Kd.R_base ho0) hb); have n1_ := Aside0.mk (Kd.R_elder' (by (with_reducible repeat (first | apply Kd.R_alloc | apply Kd.R_drewN | apply Kd.R_drew)); exact HO195.out) (Kd.R_base ho0) hb); have n2_ := Aside0.mk (Kd.R_elder' (by (with_reducible repeat (first | apply Kd.R_alloc | apply Kd.R_drewN | apply Kd.R_drew)); exact HO198.out) (Kd.R_base ho0) hb); have n3_ := Aside0.mk (Kd.R_lower (Kd.R_new' (Kd.R_new' (Kd.R_new' ho0 (Kd.R_lt (by (with_reducible repeat (first | apply Kd.R_alloc | apply Kd.R_drewN | apply Kd.R_drew)); exact HO192.out))) (Kd.R_lt (by (with_reducible repeat (first | apply Kd.R_alloc | apply Kd.R_drewN | apply Kd.R_drew)); exact HO195.out))) (Kd.R_lt (by (with_reducible repeat (first | apply Kd.R_alloc | apply Kd.R_drewN | apply Kd.R_drew)); exact HO198.out))) (below_size (by repeat (first | (with_reducible first | exact HB.out | apply below_alloc | apply pw_below_drewN | apply below_drew1) | exact HB.out)))); have n4_ := Aside0.mk (below_step (by repeat (first | (with_reducible first | exact HB.out | apply below_alloc | apply pw_below_drewN | apply below_drew1) | exact HB.out)) hb); clear HO192; clear HO195; clear HO198; clear HB; have HO192 := n0_; have HO195 := n1_; have HO198 := n2_; have HO201 := n3_; have HB := n4_; clear n0_ n1_ n2_ n3_ n4_; (try clear hb); (try clear hb2); (try clear hk); (try clear hi); (try clear ho0)) | (go_at_call 28; (with_reducible refine (fathomlaw3_top.calls kj14 (IntKind.u64.wrap (t188 - 1)) t202 _ A29.out).mono ?_); rintro e w34 ⟨v203, rfl, ho0, hb⟩; have n0_ := Aside0.mk (Kd.R_elder' (by (with_reducible repeat (first | apply Kd.R_alloc | apply Kd.R_drewN | apply Kd.R_drew)); exact HO192.out) (Kd.R_base ho0) hb); have n1_ := Aside0.mk (Kd.R_elder' (by (with_reducible repeat (first | apply Kd.R_alloc | apply Kd.R_drewN | apply Kd.R_drew)); exact HO195.out) (Kd.R_base ho0) hb); have n2_ := Aside0.mk (Kd.R_elder' (by (with_reducible repeat (first | apply Kd.R_alloc | apply Kd.R_drewN | apply Kd.R_drew)); exact HO198.out) (Kd.R_base ho0) hb); have n3_ := Aside0.mk (Kd.R_elder' (by (with_reducible repeat (first | apply Kd.R_alloc | apply Kd.R_drewN | apply Kd.R_drew)); exact HO201.out) (Kd.R_base ho0) hb); have n4_ := Aside0.mk (Kd.R_lower (Kd.R_new' (Kd.R_new' (Kd.R_new' (Kd.R_new' ho0 (Kd.R_lt (by (with_reducible repeat (first | apply Kd.R_alloc | apply Kd.R_drewN | apply Kd.R_drew)); exact HO192.out))) (Kd.R_lt (by (with_reducible repeat (first | apply Kd.R_alloc | apply Kd.R_drewN | apply Kd.R_drew)); exact HO195.out))) (Kd.R_lt (by (with_reducible repeat (first | apply Kd.R_alloc | apply Kd.R_drewN | apply Kd.R_drew)); exact HO198.out))) (Kd.R_lt (by (with_reducible repeat (first | apply Kd.R_alloc | apply Kd.R_drewN | apply Kd.R_drew)); exact HO201.out))) (below_size (by repeat (first | (with_reducible first | exact HB.out | apply below_alloc | apply pw_below_drewN | apply below_drew1) | exact HB.out)))); have n5_ := Aside0.mk (below_step (by repeat (first | (with_reducible first | exact HB.out | apply below_alloc | apply pw_below_drewN | apply below_drew1) | exact HB.out)) hb); clear HO192; clear HO195; clear HO198; clear HO201; clear HB; have HO192 := n0_; have HO195 := n1_; have HO198 := n2_; have HO201 := n3_; have HO204 := n4_; have HB := n5_; clear n0_ n1_ n2_ n3_ n4_ n5_; (try clear hb); (try clear hb2); (try clear hk); (try clear hi); (try clear ho0); obtain ⟨Ao35, co35, eo35⟩ := Kd.R_slice HO201.out; subst eo35; obtain ⟨Ao36, co36, eo36⟩ := Kd.R_slice HO204.out; subst eo36) | (go_at_call 22; (with_reducible refine (fathomref3_Sum.calls kj14 _ _ t199 _ _ t202 t205 _ ?side1 ?side2 ?side3 ?side4 A30.out).mono ?_); (case side1 => repeat (first | exact (Kd.R_reads' HO201.out).2.2 | (with_reducible refine Kd.C_alloc ?_ _) | (with_reducible refine Kd.C_drewN ?_ _) | (with_reducible refine Kd.C_drew ?_))); (case side2 => exact (Kd.R_reads' HO201.out).2.1); (case side3 => repeat (first | exact (Kd.R_reads' HO204.out).2.2 | (with_reducible refine Kd.C_alloc ?_ _) | (with_reducible refine Kd.C_drewN ?_ _) | (with_reducible refine Kd.C_drew ?_))); (case side4 => exact (Kd.R_reads' HO204.out).2.1); rintro e w37 ⟨v206, rfl, ho0, hb⟩; have n0_ := Aside0.mk (Kd.R_elder' (by (with_reducible repeat (first | apply Kd.R_alloc | apply Kd.R_drewN | apply Kd.R_drew)); exact HO192.out) (Kd.R_base ho0) hb); have n1_ := Aside0.mk (Kd.R_elder' (by (with_reducible repeat (first | apply Kd.R_alloc | apply Kd.R_drewN | apply Kd.R_drew)); exact HO195.out) (Kd.R_base ho0) hb); have n2_ := Aside0.mk (Kd.R_elder' (by (with_reducible repeat (first | apply Kd.R_alloc | apply Kd.R_drewN | apply Kd.R_drew)); exact HO198.out) (Kd.R_base ho0) hb); have n3_ := Aside0.mk (Kd.R_elder' (by (with_reducible repeat (first | apply Kd.R_alloc | apply Kd.R_drewN | apply Kd.R_drew)); exact HO201.out) (Kd.R_base ho0) hb); have n4_ := Aside0.mk (Kd.R_elder' (by (with_reducible repeat (first | apply Kd.R_alloc | apply Kd.R_drewN | apply Kd.R_drew)); exact HO204.out) (Kd.R_base ho0) hb); have n5_ := Aside0.mk (Kd.R_lower (Kd.R_new' (Kd.R_new' (Kd.R_new' (Kd.R_new' (Kd.R_new' ho0 (Kd.R_lt (by (with_reducible repeat (first | apply Kd.R_alloc | apply Kd.R_drewN | apply Kd.R_drew)); exact HO192.out))) (Kd.R_lt (by (with_reducible repeat (first | apply Kd.R_alloc | apply Kd.R_drewN | apply Kd.R_drew)); exact HO195.out))) (Kd.R_lt (by (with_reducible repeat (first | apply Kd.R_alloc | apply Kd.R_drewN | apply Kd.R_drew)); exact HO198.out))) (Kd.R_lt (by (with_reducible repeat (first | apply Kd.R_alloc | apply Kd.R_drewN | apply Kd.R_drew)); exact HO201.out))) (Kd.R_lt (by (with_reducible repeat (first | apply Kd.R_alloc | apply Kd.R_drewN | apply Kd.R_drew)); exact HO204.out))) (below_size (by repeat (first | (with_reducible first | exact HB.out | apply below_alloc | apply pw_below_drewN | apply below_drew1) | exact HB.out)))); have n6_ := Aside0.mk (below_step (by repeat (first | (with_reducible first | exact HB.out | apply below_alloc | apply pw_below_drewN | apply below_drew1) | exact HB.out)) hb); clear HO192; clear HO195; clear HO198; clear HO201; clear HO204; clear HB; have HO192 := n0_; have HO195 := n1_; have HO198 := n2_; have HO201 := n3_; have HO204 := n4_; have HO207 := n5_; have HB := n6_; clear n0_ n1_ n2_ n3_ n4_ n5_ n6_; (try clear hb); (try clear hb2); (try clear hk); (try clear hi); (try clear ho0); obtain ⟨Ao38, co38, eo38⟩ := Kd.R_slice HO207.out; subst eo38; obtain ⟨Ao39, co39, eo39⟩ := Kd.R_slice HO198.out; subst eo39) | (go_at_call 27; (with_reducible refine (fathomref3_Times.calls kj14 _ _ t205 _ _ t196 t208 _ ?side1 ?side2 ?side3 ?side4 A31.out).mono ?_); (case side1 => repeat (first | exact (Kd.R_reads' HO207.out).2.2 | (with_reducible refine Kd.C_alloc ?_ _) | (with_reducible refine Kd.C_drewN ?_ _) | (with_reducible refine Kd.C_drew ?_))); (case side2 => exact (Kd.R_reads' HO207.out).2.1); (case side3 => repeat (first | exact (Kd.R_reads' HO198.out).2.2 | (with_reducible refine Kd.C_alloc ?_ _) | (with_reducible refine Kd.C_drewN ?_ _) | (with_reducible refine Kd.C_drew ?_))); (case side4 => exact (Kd.R_reads' HO198.out).2.1); rintro e w40 ⟨v209, rfl, ho0, hb⟩; have n0_ := Aside0.mk (Kd.R_elder' (by (with_reducible repeat (first | apply Kd.R_alloc | apply Kd.R_drewN | apply Kd.R_drew)); exact HO192.out) (Kd.R_base ho0) hb); have n1_ := Aside0.mk (Kd.R_elder' (by (with_reducible repeat (first | apply Kd.R_alloc | apply Kd.R_drewN | apply Kd.R_drew)); exact HO195.out) (Kd.R_base ho0) hb); have n2_ := Aside0.mk (Kd.R_elder' (by (with_reducible repeat (first | apply Kd.R_alloc | apply Kd.R_drewN | apply Kd.R_drew)); exact HO198.out) (Kd.R_base ho0) hb); have n3_ := Aside0.mk (Kd.R_elder' (by (with_reducible repeat (first | apply Kd.R_alloc | apply Kd.R_drewN | apply Kd.R_drew)); exact HO201.out) (Kd.R_base ho0) hb); have n4_ := Aside0.mk (Kd.R_elder' (by (with_reducible repeat (first | apply Kd.R_alloc | apply Kd.R_drewN | apply Kd.R_drew)); exact HO204.out) (Kd.R_base ho0) hb); have n5_ := Aside0.mk (Kd.R_elder' (by (with_reducible repeat (first | apply Kd.R_alloc | apply Kd.R_drewN | apply Kd.R_drew)); exact HO207.out) (Kd.R_base ho0) hb); have n6_ := Aside0.mk (Kd.R_lower (Kd.R_new' (Kd.R_new' (Kd.R_new' (Kd.R_new' (Kd.R_new' (Kd.R_new' ho0 (Kd.R_lt (by (with_reducible repeat (first | apply Kd.R_alloc | apply Kd.R_drewN | apply Kd.R_drew)); exact HO192.out))) (Kd.R_lt (by (with_reducible repeat (first | apply Kd.R_alloc | apply Kd.R_drewN | apply Kd.R_drew)); exact HO195.out))) (Kd.R_lt (by (with_reducible repeat (first | apply Kd.R_alloc | apply Kd.R_drewN | apply Kd.R_drew)); exact HO198.out))) (Kd.R_lt (by (with_reducible repeat (first | apply Kd.R_alloc | apply Kd.R_drewN | apply Kd.R_drew)); exact HO201.out))) (Kd.R_lt (by (with_reducible repeat (first | apply Kd.R_alloc | apply Kd.R_drewN | apply Kd.R_drew)); exact HO204.out))) (Kd.R_lt (by (with_reducible repeat (first | apply Kd.R_alloc | apply Kd.R_drewN | apply Kd.R_drew)); exact HO207.out))) (below_size (by repeat (first | (with_reducible first | exact HB.out | apply below_alloc | apply pw_below_drewN | apply below_drew1) | exact HB.out)))); have n7_ := Aside0.mk (below_step (by repeat (first | (with_reducible first | exact HB.out | apply below_alloc | apply pw_below_drewN | apply below_drew1) | exact HB.out)) hb); clear HO192; clear HO195; clear HO198; clear HO201; clear HO204; clear HO207; clear HB; have HO192 := n0_; have HO195 := n1_; have HO198 := n2_; have HO201 := n3_; have HO204 := n4_; have HO207 := n5_; have HO210 := n6_; have HB := n7_; clear n0_ n1_ n2_ n3_ n4_ n5_ n6_ n7_; (try clear hb); (try clear hb2); (try clear hk); (try clear hi); (try clear ho0); obtain ⟨Ao41, co41, eo41⟩ := Kd.R_slice HO210.out; subst eo41; obtain ⟨Ao42, co42, eo42⟩ := Kd.R_slice HO195.out; subst eo42) | (go_at_call 21; (with_reducible refine (fathomref3_Cmp.calls kj14 _ _ t208 _ _ t193 t211 _ ?side1 ?side2 ?side3 ?side4 A32.out).mono ?_); (case side1 => repeat (first | exact (Kd.R_reads' HO210.out).2.2 | (with_reducible refine Kd.C_alloc ?_ _) | (with_reducible refine Kd.C_drewN ?_ _) | (with_reducible refine Kd.C_drew ?_))); (case side2 => exact (Kd.R_reads' HO210.out).2.1); (case side3 => repeat (first | exact (Kd.R_reads' HO195.out).2.2 | (with_reducible refine Kd.C_alloc ?_ _) | (with_reducible refine Kd.C_drewN ?_ _) | (with_reducible refine Kd.C_drew ?_))); (case side4 => exact (Kd.R_reads' HO195.out).2.1); rintro e w' ⟨rfl, ⟨nd, rfl⟩⟩))
                                go_meet
                                case rel => exact ⟨_, (decide (t211 > 0)), (by first | rfl | (simp; done) | (simp [*]; done)), H', ⟨by have := HK1.out; have := HJ1.out; have := HJ6.out; have := HJ14.out; first | omega | exact Nat.le_refl _⟩, ⟨by (with_reducible repeat (first | apply Kd.R_alloc | apply Kd.R_drewN | apply Kd.R_drew)); exact Kd.R_mono HO195.out (fun _ hk => hk.1.1.1.1.2)⟩, ⟨by (with_reducible repeat (first | apply Kd.R_alloc | apply Kd.R_drewN | apply Kd.R_drew)); exact Kd.R_mono HO198.out (fun _ hk => hk.1.1.1.1.2)⟩, ⟨by repeat (first | (with_reducible first | exact HB.out | apply below_alloc | apply pw_below_drewN | apply below_drew1) | exact HB.out)⟩⟩
                            case rest =>
                              clear HC22
                              try clear c1
                              try clear p1
                              try clear q1
                              try clear hx1
                              try clear c2
                              try clear p2
                              try clear c3
                              try clear c3b0
                              try clear c4
                              try clear c5
                              try clear c5b0
                              try clear c6
                              try clear c6b0
                              try clear p6
                              try clear c9
                              try clear c11
                              try clear c12
                              try clear c12b0
                              try clear c12b1
                              try clear c13
                              try clear c16
                              try clear c17
                              try clear c18
                              try clear p18
                              try clear q18
                              try clear hx18
                              try clear c19
                              try clear c20
                              try clear c25
                              try clear c26
                              try clear c27
                              try clear c27b0
                              try clear c27b1
                              try clear hx184_0
                              try clear hx184_1
                              try clear hx185_0
                              try clear hx185_1
                              try clear p1
                              try clear p184
                              try clear p185
                              try clear p2
                              try clear p6
                              try clear q1
                              try clear q184
                              try clear q185
                              obtain ⟨kq, x76_21, rfl, HA, HJ21, HO_7, HO_8, HB⟩ := hcut
                              cases kq with
                              | zero => exact absurd HA.out (by simp [fathomlaw3_FloatQuotients.j4])
                              | succ kj21 =>
                                have H := HA.out
                                clear HA
                                simp only [fathomlaw3_FloatQuotients.j4] at H
                                by_cases c43 : x76_21 = true
                                · subst c43
                                  have H1 : (some false) = some r := by rw [if_pos rfl] at H; exact H
                                  clear H
                                  have H := H1
                                  clear H1
                                  obtain rfl := Option.some.inj H
                                  go_wp2
                                  go_ret
                                  exact ⟨by first | rfl | (simp [errW_none, errW_some] <;> rfl) | (simp [*, errW_none, errW_some] <;> rfl), by repeat (first | (with_reducible first | exact HB.out | apply below_alloc | apply pw_below_drewN | apply below_drew1) | exact HB.out)⟩
                                · replace c43 := Bool.eq_false_iff.mpr c43
                                  subst c43
                                  have H1 : (if t188 = 9218868437227405312 then (fathomlaw3_FloatQuotients.l0 kj21 l0 (wrap64 (x3_1 + 1))) else ((fathomlaw3_top.f kj21 t188).bind fun t212 => ((fathomlaw3_top.f kj21 (IntKind.u64.wrap (t188 + 1))).bind fun t215 => ((fathomref3_Sum.f kj21 t212 t215).bind fun t218 => ((fathomref3_Times.f kj21 t218 t196).bind fun t221 => ((fathomref3_Cmp.f kj21 t193 t221).bind fun t224 => (if t224 > 0 then (some false) else (fathomlaw3_FloatQuotients.l0 kj21 l0 (wrap64 (x3_1 + 1)))))))))) = some r := by rw [if_neg (show ¬ (false = true) by decide)] at H; exact H
                                  clear H
                                  have H := H1
                                  clear H1
                                  by_cases c44 : t188 = 9218868437227405312
                                  · rw [if_pos c44] at H
                                    have c44b0 : (t188 == 9218868437227405312) = true := beq_iff_eq.mpr c44
                                    have c44b1 : (t188 != 9218868437227405312) = false := bne_eq_false_iff_eq.mpr c44
                                    clear c44
                                    have H' := Aside0.mk H
                                    clear H
                                    go_wp2
                                    go_roundg kj21
                                    case measure => have := HK1.out; have := HJ1.out; have := HJ6.out; have := HJ14.out; have := HJ21.out; omega
                                    case rel => exact ⟨(wrap64 (x3_1 + 1)), (by first | rfl | (simp; done) | (simp [*]; done)), H', ⟨by have := HK1.out; have := HJ1.out; have := HJ6.out; have := HJ14.out; have := HJ21.out; omega⟩, ⟨by repeat (first | (with_reducible first | exact HB.out | apply below_alloc | apply pw_below_drewN | apply below_drew1) | exact HB.out)⟩⟩
                                  · rw [if_neg c44] at H
                                    have c44b0 : (t188 == 9218868437227405312) = false := beq_eq_false_iff_ne.mpr c44
                                    have c44b1 : (t188 != 9218868437227405312) = true := bne_iff_ne.mpr c44
                                    replace H := Option.bind_eq_some_iff.mp H
                                    obtain ⟨t212, A450, H⟩ := H
                                    replace H : ((fathomlaw3_top.f kj21 (IntKind.u64.wrap (t188 + 1))).bind fun t215 => ((fathomref3_Sum.f kj21 t212 t215).bind fun t218 => ((fathomref3_Times.f kj21 t218 t196).bind fun t221 => ((fathomref3_Cmp.f kj21 t193 t221).bind fun t224 => (if t224 > 0 then (some false) else (fathomlaw3_FloatQuotients.l0 kj21 l0 (wrap64 (x3_1 + 1)))))))) = some r := H
                                    have A45 := Aside0.mk A450
                                    clear A450
                                    replace H := Option.bind_eq_some_iff.mp H
                                    obtain ⟨t215, A460, H⟩ := H
                                    replace H : ((fathomref3_Sum.f kj21 t212 t215).bind fun t218 => ((fathomref3_Times.f kj21 t218 t196).bind fun t221 => ((fathomref3_Cmp.f kj21 t193 t221).bind fun t224 => (if t224 > 0 then (some false) else (fathomlaw3_FloatQuotients.l0 kj21 l0 (wrap64 (x3_1 + 1))))))) = some r := H
                                    have A46 := Aside0.mk A460
                                    clear A460
                                    replace H := Option.bind_eq_some_iff.mp H
                                    obtain ⟨t218, A470, H⟩ := H
                                    replace H : ((fathomref3_Times.f kj21 t218 t196).bind fun t221 => ((fathomref3_Cmp.f kj21 t193 t221).bind fun t224 => (if t224 > 0 then (some false) else (fathomlaw3_FloatQuotients.l0 kj21 l0 (wrap64 (x3_1 + 1)))))) = some r := H
                                    have A47 := Aside0.mk A470
                                    clear A470
                                    replace H := Option.bind_eq_some_iff.mp H
                                    obtain ⟨t221, A480, H⟩ := H
                                    replace H : ((fathomref3_Cmp.f kj21 t193 t221).bind fun t224 => (if t224 > 0 then (some false) else (fathomlaw3_FloatQuotients.l0 kj21 l0 (wrap64 (x3_1 + 1))))) = some r := H
                                    have A48 := Aside0.mk A480
                                    clear A480
                                    replace H := Option.bind_eq_some_iff.mp H
                                    obtain ⟨t224, A490, H⟩ := H
                                    replace H : (if t224 > 0 then (some false) else (fathomlaw3_FloatQuotients.l0 kj21 l0 (wrap64 (x3_1 + 1)))) = some r := H
                                    have A49 := Aside0.mk A490
                                    clear A490
                                    by_cases c50 : t224 > 0
                                    · rw [if_pos c50] at H
                                      have c50b0 : decide (0 < t224) = true := decide_eq_true c50
                                      clear c50
                                      obtain rfl := Option.some.inj H
                                      go_wp2_with (first | (go_at_call 28; (with_reducible refine (fathomlaw3_top.calls kj21 t188 t212 _ A45.out).mono ?_); rintro e w51 ⟨v213, rfl, ho0, hb⟩; have n0_ := Aside0.mk (Kd.R_elder' (by (with_reducible repeat (first | apply Kd.R_alloc | apply Kd.R_drewN | apply Kd.R_drew)); exact HO_7.out) (Kd.R_base ho0) hb); have n1_ := Aside0.mk (Kd.R_elder' (by (with_reducible repeat (first | apply Kd.R_alloc | apply Kd.R_drewN | apply Kd.R_drew)); exact HO_8.out) (Kd.R_base ho0) hb); have n2_ := Aside0.mk (Kd.R_lower (Kd.R_new' (Kd.R_new' ho0 (Kd.R_lt (by (with_reducible repeat (first | apply Kd.R_alloc | apply Kd.R_drewN | apply Kd.R_drew)); exact HO_7.out))) (Kd.R_lt (by (with_reducible repeat (first | apply Kd.R_alloc | apply Kd.R_drewN | apply Kd.R_drew)); exact HO_8.out))) (below_size (by repeat (first | (with_reducible first | exact HB.out | apply below_alloc | apply pw_below_drewN | apply below_drew1) | exact HB.out)))); have n3_ := Aside0.mk (below_step (by repeat (first | (with_reducible first | exact HB.out | apply below_alloc | apply pw_below_drewN | apply below_drew1) | exact HB.out)) hb); clear HO_7; clear HO_8; clear HB; have HO_7 := n0_; have HO_8 := n1_; have HO214 := n2_; have HB := n3_; clear n0_ n1_ n2_ n3_; (try clear hb); (try clear hb2); (try clear hk); (try clear hi); (try clear ho0)) | (go_at_call 28; (with_reducible refine (fathomlaw3_top.calls kj21 (IntKind.u64.wrap (t188 + 1)) t215 _ A46.out).mono ?_); rintro e w52 ⟨v216, rfl, ho0, hb⟩; have n0_ := Aside0.mk (Kd.R_elder' (by (with_reducible repeat (first | apply Kd.R_alloc | apply Kd.R_drewN | apply Kd.R_drew)); exact HO_7.out) (Kd.R_base ho0) hb); have n1_ := Aside0.mk (Kd.R_elder' (by (with_reducible repeat (first | apply Kd.R_alloc | apply Kd.R_drewN | apply Kd.R_drew)); exact HO_8.out) (Kd.R_base ho0) hb); have n2_ := Aside0.mk (Kd.R_elder' (by (with_reducible repeat (first | apply Kd.R_alloc | apply Kd.R_drewN | apply Kd.R_drew)); exact HO214.out) (Kd.R_base ho0) hb); have n3_ := Aside0.mk (Kd.R_lower (Kd.R_new' (Kd.R_new' (Kd.R_new' ho0 (Kd.R_lt (by (with_reducible repeat (first | apply Kd.R_alloc | apply Kd.R_drewN | apply Kd.R_drew)); exact HO_7.out))) (Kd.R_lt (by (with_reducible repeat (first | apply Kd.R_alloc | apply Kd.R_drewN | apply Kd.R_drew)); exact HO_8.out))) (Kd.R_lt (by (with_reducible repeat (first | apply Kd.R_alloc | apply Kd.R_drewN | apply Kd.R_drew)); exact HO214.out))) (below_size (by repeat (first | (with_reducible first | exact HB.out | apply below_alloc | apply pw_below_drewN | apply below_drew1) | exact HB.out)))); have n4_ := Aside0.mk (below_step (by repeat (first | (with_reducible first | exact HB.out | apply below_alloc | apply pw_below_drewN | apply below_drew1) | exact HB.out)) hb); clear HO_7; clear HO_8; clear HO214; clear HB; have HO_7 := n0_; have HO_8 := n1_; have HO214 := n2_; have HO217 := n3_; have HB := n4_; clear n0_ n1_ n2_ n3_ n4_; (try clear hb); (try clear hb2); (try clear hk); (try clear hi); (try clear ho0); obtain ⟨Ao53, co53, eo53⟩ := Kd.R_slice HO214.out; subst eo53; obtain ⟨Ao54, co54, eo54⟩ := Kd.R_slice HO217.out; subst eo54) | (go_at_call 22; (with_reducible refine (fathomref3_Sum.calls kj21 _ _ t212 _ _ t215 t218 _ ?side1 ?side2 ?side3 ?side4 A47.out).mono ?_); (case side1 => repeat (first | exact (Kd.R_reads' HO214.out).2.2 | (with_reducible refine Kd.C_alloc ?_ _) | (with_reducible refine Kd.C_drewN ?_ _) | (with_reducible refine Kd.C_drew ?_))); (case side2 => exact (Kd.R_reads' HO214.out).2.1); (case side3 => repeat (first | exact (Kd.R_reads' HO217.out).2.2 | (with_reducible refine Kd.C_alloc ?_ _) | (with_reducible refine Kd.C_drewN ?_ _) | (with_reducible refine Kd.C_drew ?_))); (case side4 => exact (Kd.R_reads' HO217.out).2.1); rintro e w55 ⟨v219, rfl, ho0, hb⟩; have n0_ := Aside0.mk (Kd.R_elder' (by (with_reducible repeat (first | apply Kd.R_alloc | apply Kd.R_drewN | apply Kd.R_drew)); exact HO_7.out) (Kd.R_base ho0) hb); have n1_ := Aside0.mk (Kd.R_elder' (by (with_reducible repeat (first | apply Kd.R_alloc | apply Kd.R_drewN | apply Kd.R_drew)); exact HO_8.out) (Kd.R_base ho0) hb); have n2_ := Aside0.mk (Kd.R_elder' (by (with_reducible repeat (first | apply Kd.R_alloc | apply Kd.R_drewN | apply Kd.R_drew)); exact HO214.out) (Kd.R_base ho0) hb); have n3_ := Aside0.mk (Kd.R_elder' (by (with_reducible repeat (first | apply Kd.R_alloc | apply Kd.R_drewN | apply Kd.R_drew)); exact HO217.out) (Kd.R_base ho0) hb); have n4_ := Aside0.mk (Kd.R_lower (Kd.R_new' (Kd.R_new' (Kd.R_new' (Kd.R_new' ho0 (Kd.R_lt (by (with_reducible repeat (first | apply Kd.R_alloc | apply Kd.R_drewN | apply Kd.R_drew)); exact HO_7.out))) (Kd.R_lt (by (with_reducible repeat (first | apply Kd.R_alloc | apply Kd.R_drewN | apply Kd.R_drew)); exact HO_8.out))) (Kd.R_lt (by (with_reducible repeat (first | apply Kd.R_alloc | apply Kd.R_drewN | apply Kd.R_drew)); exact HO214.out))) (Kd.R_lt (by (with_reducible repeat (first | apply Kd.R_alloc | apply Kd.R_drewN | apply Kd.R_drew)); exact HO217.out))) (below_size (by repeat (first | (with_reducible first | exact HB.out | apply below_alloc | apply pw_below_drewN | apply below_drew1) | exact HB.out)))); have n5_ := Aside0.mk (below_step (by repeat (first | (with_reducible first | exact HB.out | apply below_alloc | apply pw_below_drewN | apply below_drew1) | exact HB.out)) hb); clear HO_7; clear HO_8; clear HO214; clear HO217; clear HB; have HO_7 := n0_; have HO_8 := n1_; have HO214 := n2_; have HO217 := n3_; have HO220 := n4_; have HB := n5_; clear n0_ n1_ n2_ n3_ n4_ n5_; (try clear hb); (try clear hb2); (try clear hk); (try clear hi); (try clear ho0); obtain ⟨Ao56, co56, eo56⟩ := Kd.R_slice HO220.out; subst eo56; obtain ⟨Ao57, co57, eo57⟩ := Kd.R_slice HO_8.out; subst eo57) | (go_at_call 27; (with_reducible refine (fathomref3_Times.calls kj21 _ _ t218 _ _ t196 t221 _ ?side1 ?side2 ?side3 ?side4 A48.out).mono ?_); (case side1 => repeat (first | exact (Kd.R_reads' HO220.out).2.2 | (with_reducible refine Kd.C_alloc ?_ _) | (with_reducible refine Kd.C_drewN ?_ _) | (with_reducible refine Kd.C_drew ?_))); (case side2 => exact (Kd.R_reads' HO220.out).2.1); (case side3 => repeat (first | exact (Kd.R_reads' HO_8.out).2.2 | (with_reducible refine Kd.C_alloc ?_ _) | (with_reducible refine Kd.C_drewN ?_ _) | (with_reducible refine Kd.C_drew ?_))); (case side4 => exact (Kd.R_reads' HO_8.out).2.1); rintro e w58 ⟨v222, rfl, ho0, hb⟩; have n0_ := Aside0.mk (Kd.R_elder' (by (with_reducible repeat (first | apply Kd.R_alloc | apply Kd.R_drewN | apply Kd.R_drew)); exact HO_7.out) (Kd.R_base ho0) hb); have n1_ := Aside0.mk (Kd.R_elder' (by (with_reducible repeat (first | apply Kd.R_alloc | apply Kd.R_drewN | apply Kd.R_drew)); exact HO_8.out) (Kd.R_base ho0) hb); have n2_ := Aside0.mk (Kd.R_elder' (by (with_reducible repeat (first | apply Kd.R_alloc | apply Kd.R_drewN | apply Kd.R_drew)); exact HO214.out) (Kd.R_base ho0) hb); have n3_ := Aside0.mk (Kd.R_elder' (by (with_reducible repeat (first | apply Kd.R_alloc | apply Kd.R_drewN | apply Kd.R_drew)); exact HO217.out) (Kd.R_base ho0) hb); have n4_ := Aside0.mk (Kd.R_elder' (by (with_reducible repeat (first | apply Kd.R_alloc | apply Kd.R_drewN | apply Kd.R_drew)); exact HO220.out) (Kd.R_base ho0) hb); have n5_ := Aside0.mk (Kd.R_lower (Kd.R_new' (Kd.R_new' (Kd.R_new' (Kd.R_new' (Kd.R_new' ho0 (Kd.R_lt (by (with_reducible repeat (first | apply Kd.R_alloc | apply Kd.R_drewN | apply Kd.R_drew)); exact HO_7.out))) (Kd.R_lt (by (with_reducible repeat (first | apply Kd.R_alloc | apply Kd.R_drewN | apply Kd.R_drew)); exact HO_8.out))) (Kd.R_lt (by (with_reducible repeat (first | apply Kd.R_alloc | apply Kd.R_drewN | apply Kd.R_drew)); exact HO214.out))) (Kd.R_lt (by (with_reducible repeat (first | apply Kd.R_alloc | apply Kd.R_drewN | apply Kd.R_drew)); exact HO217.out))) (Kd.R_lt (by (with_reducible repeat (first | apply Kd.R_alloc | apply Kd.R_drewN | apply Kd.R_drew)); exact HO220.out))) (below_size (by repeat (first | (with_reducible first | exact HB.out | apply below_alloc | apply pw_below_drewN | apply below_drew1) | exact HB.out)))); have n6_ := Aside0.mk (below_step (by repeat (first | (with_reducible first | exact HB.out | apply below_alloc | apply pw_below_drewN | apply below_drew1) | exact HB.out)) hb); clear HO_7; clear HO_8; clear HO214; clear HO217; clear HO220; clear HB; have HO_7 := n0_; have HO_8 := n1_; have HO214 := n2_; have HO217 := n3_; have HO220 := n4_; have HO223 := n5_; have HB := n6_; clear n0_ n1_ n2_ n3_ n4_ n5_ n6_; (try clear hb); (try clear hb2); (try clear hk); (try clear hi); (try clear ho0); obtain ⟨Ao59, co59, eo59⟩ := Kd.R_slice HO_7.out; subst eo59; obtain ⟨Ao60, co60, eo60⟩ := Kd.R_slice HO223.out; subst eo60) | (go_at_call 21; (with_reducible refine (fathomref3_Cmp.calls kj21 _ _ t193 _ _ t221 t224 _ ?side1 ?side2 ?side3 ?side4 A49.out).mono ?_); (case side1 => repeat (first | exact (Kd.R_reads' HO_7.out).2.2 | (with_reducible refine Kd.C_alloc ?_ _) | (with_reducible refine Kd.C_drewN ?_ _) | (with_reducible refine Kd.C_drew ?_))); (case side2 => exact (Kd.R_reads' HO_7.out).2.1); (case side3 => repeat (first | exact (Kd.R_reads' HO223.out).2.2 | (with_reducible refine Kd.C_alloc ?_ _) | (with_reducible refine Kd.C_drewN ?_ _) | (with_reducible refine Kd.C_drew ?_))); (case side4 => exact (Kd.R_reads' HO223.out).2.1); rintro e w' ⟨rfl, ⟨nd, rfl⟩⟩))
                                      go_ret
                                      exact ⟨by first | rfl | (simp [errW_none, errW_some] <;> rfl) | (simp [*, errW_none, errW_some] <;> rfl), by repeat (first | (with_reducible first | exact HB.out | apply below_alloc | apply pw_below_drewN | apply below_drew1) | exact HB.out)⟩
                                    · rw [if_neg c50] at H
                                      have c50b0 : decide (0 < t224) = false := decide_eq_false c50
                                      clear c50
                                      have H' := Aside0.mk H
                                      clear H
                                      go_wp2_with (first | (go_at_call 28; (with_reducible refine (fathomlaw3_top.calls kj21 t188 t212 _ A45.out).mono ?_); rintro e w61 ⟨v213, rfl, ho0, hb⟩; have n0_ := Aside0.mk (Kd.R_elder' (by (with_reducible repeat (first | apply Kd.R_alloc | apply Kd.R_drewN | apply Kd.R_drew)); exact HO_7.out) (Kd.R_base ho0) hb); have n1_ := Aside0.mk (Kd.R_elder' (by (with_reducible repeat (first | apply Kd.R_alloc | apply Kd.R_drewN | apply Kd.R_drew)); exact HO_8.out) (Kd.R_base ho0) hb); have n2_ := Aside0.mk (Kd.R_lower (Kd.R_new' (Kd.R_new' ho0 (Kd.R_lt (by (with_reducible repeat (first | apply Kd.R_alloc | apply Kd.R_drewN | apply Kd.R_drew)); exact HO_7.out))) (Kd.R_lt (by (with_reducible repeat (first | apply Kd.R_alloc | apply Kd.R_drewN | apply Kd.R_drew)); exact HO_8.out))) (below_size (by repeat (first | (with_reducible first | exact HB.out | apply below_alloc | apply pw_below_drewN | apply below_drew1) | exact HB.out)))); have n3_ := Aside0.mk (below_step (by repeat (first | (with_reducible first | exact HB.out | apply below_alloc | apply pw_below_drewN | apply below_drew1) | exact HB.out)) hb); clear HO_7; clear HO_8; clear HB; have HO_7 := n0_; have HO_8 := n1_; have HO214 := n2_; have HB := n3_; clear n0_ n1_ n2_ n3_; (try clear hb); (try clear hb2); (try clear hk); (try clear hi); (try clear ho0)) | (go_at_call 28; (with_reducible refine (fathomlaw3_top.calls kj21 (IntKind.u64.wrap (t188 + 1)) t215 _ A46.out).mono ?_); rintro e w62 ⟨v216, rfl, ho0, hb⟩; have n0_ := Aside0.mk (Kd.R_elder' (by (with_reducible repeat (first | apply Kd.R_alloc | apply Kd.R_drewN | apply Kd.R_drew)); exact HO_7.out) (Kd.R_base ho0) hb); have n1_ := Aside0.mk (Kd.R_elder' (by (with_reducible repeat (first | apply Kd.R_alloc | apply Kd.R_drewN | apply Kd.R_drew)); exact HO_8.out) (Kd.R_base ho0) hb); have n2_ := Aside0.mk (Kd.R_elder' (by (with_reducible repeat (first | apply Kd.R_alloc | apply Kd.R_drewN | apply Kd.R_drew)); exact HO214.out) (Kd.R_base ho0) hb); have n3_ := Aside0.mk (Kd.R_lower (Kd.R_new' (Kd.R_new' (Kd.R_new' ho0 (Kd.R_lt (by (with_reducible repeat (first | apply Kd.R_alloc | apply Kd.R_drewN | apply Kd.R_drew)); exact HO_7.out))) (Kd.R_lt (by (with_reducible repeat (first | apply Kd.R_alloc | apply Kd.R_drewN | apply Kd.R_drew)); exact HO_8.out))) (Kd.R_lt (by (with_reducible repeat (first | apply Kd.R_alloc | apply Kd.R_drewN | apply Kd.R_drew)); exact HO214.out))) (below_size (by repeat (first | (with_reducible first | exact HB.out | apply below_alloc | apply pw_below_drewN | apply below_drew1) | exact HB.out)))); have n4_ := Aside0.mk (below_step (by repeat (first | (with_reducible first | exact HB.out | apply below_alloc | apply pw_below_drewN | apply below_drew1) | exact HB.out)) hb); clear HO_7; clear HO_8; clear HO214; clear HB; have HO_7 := n0_; have HO_8 := n1_; have HO214 := n2_; have HO217 := n3_; have HB := n4_; clear n0_ n1_ n2_ n3_ n4_; (try clear hb); (try clear hb2); (try clear hk); (try clear hi); (try clear ho0); obtain ⟨Ao63, co63, eo63⟩ := Kd.R_slice HO214.out; subst eo63; obtain ⟨Ao64, co64, eo64⟩ := Kd.R_slice HO217.out; subst eo64) | (go_at_call 22; (with_reducible refine (fathomref3_Sum.calls kj21 _ _ t212 _ _ t215 t218 _ ?side1 ?side2 ?side3 ?side4 A47.out).mono ?_); (case side1 => repeat (first | exact (Kd.R_reads' HO214.out).2.2 | (with_reducible refine Kd.C_alloc ?_ _) | (with_reducible refine Kd.C_drewN ?_ _) | (with_reducible refine Kd.C_drew ?_))); (case side2 => exact (Kd.R_reads' HO214.out).2.1); (case side3 => repeat (first | exact (Kd.R_reads' HO217.out).2.2 | (with_reducible refine Kd.C_alloc ?_ _) | (with_reducible refine Kd.C_drewN ?_ _) | (with_reducible refine Kd.C_drew ?_))); (case side4 => exact (Kd.R_reads' HO217.out).2.1); rintro e w65 ⟨v219, rfl, ho0, hb⟩; have n0_ := Aside0.mk (Kd.R_elder' (by (with_reducible repeat (first | apply Kd.R_alloc | apply Kd.R_drewN | apply Kd.R_drew)); exact HO_7.out) (Kd.R_base ho0) hb); have n1_ := Aside0.mk (Kd.R_elder' (by (with_reducible repeat (first | apply Kd.R_alloc | apply Kd.R_drewN | apply Kd.R_drew)); exact HO_8.out) (Kd.R_base ho0) hb); have n2_ := Aside0.mk (Kd.R_elder' (by (with_reducible repeat (first | apply Kd.R_alloc | apply Kd.R_drewN | apply Kd.R_drew)); exact HO214.out) (Kd.R_base ho0) hb); have n3_ := Aside0.mk (Kd.R_elder' (by (with_reducible repeat (first | apply Kd.R_alloc | apply Kd.R_drewN | apply Kd.R_drew)); exact HO217.out) (Kd.R_base ho0) hb); have n4_ := Aside0.mk (Kd.R_lower (Kd.R_new' (Kd.R_new' (Kd.R_new' (Kd.R_new' ho0 (Kd.R_lt (by (with_reducible repeat (first | apply Kd.R_alloc | apply Kd.R_drewN | apply Kd.R_drew)); exact HO_7.out))) (Kd.R_lt (by (with_reducible repeat (first | apply Kd.R_alloc | apply Kd.R_drewN | apply Kd.R_drew)); exact HO_8.out))) (Kd.R_lt (by (with_reducible repeat (first | apply Kd.R_alloc | apply Kd.R_drewN | apply Kd.R_drew)); exact HO214.out))) (Kd.R_lt (by (with_reducible repeat (first | apply Kd.R_alloc | apply Kd.R_drewN | apply Kd.R_drew)); exact HO217.out))) (below_size (by repeat (first | (with_reducible first | exact HB.out | apply below_alloc | apply pw_below_drewN | apply below_drew1) | exact HB.out)))); have n5_ := Aside0.mk (below_step (by repeat (first | (with_reducible first | exact HB.out | apply below_alloc | apply pw_below_drewN | apply below_drew1) | exact HB.out)) hb); clear HO_7; clear HO_8; clear HO214; clear HO217; clear HB; have HO_7 := n0_; have HO_8 := n1_; have HO214 := n2_; have HO217 := n3_; have HO220 := n4_; have HB := n5_; clear n0_ n1_ n2_ n3_ n4_ n5_; (try clear hb); (try clear hb2); (try clear hk); (try clear hi); (try clear ho0); obtain ⟨Ao66, co66, eo66⟩ := Kd.R_slice HO220.out; subst eo66; obtain ⟨Ao67, co67, eo67⟩ := Kd.R_slice HO_8.out; subst eo67) | (go_at_call 27; (with_reducible refine (fathomref3_Times.calls kj21 _ _ t218 _ _ t196 t221 _ ?side1 ?side2 ?side3 ?side4 A48.out).mono ?_); (case side1 => repeat (first | exact (Kd.R_reads' HO220.out).2.2 | (with_reducible refine Kd.C_alloc ?_ _) | (with_reducible refine Kd.C_drewN ?_ _) | (with_reducible refine Kd.C_drew ?_))); (case side2 => exact (Kd.R_reads' HO220.out).2.1); (case side3 => repeat (first | exact (Kd.R_reads' HO_8.out).2.2 | (with_reducible refine Kd.C_alloc ?_ _) | (with_reducible refine Kd.C_drewN ?_ _) | (with_reducible refine Kd.C_drew ?_))); (case side4 => exact (Kd.R_reads' HO_8.out).2.1); rintro e w68 ⟨v222, rfl, ho0, hb⟩; have n0_ := Aside0.mk (Kd.R_elder' (by (with_reducible repeat (first | apply Kd.R_alloc | apply Kd.R_drewN | apply Kd.R_drew)); exact HO_7.out) (Kd.R_base ho0) hb); have n1_ := Aside0.mk (Kd.R_elder' (by (with_reducible repeat (first | apply Kd.R_alloc | apply Kd.R_drewN | apply Kd.R_drew)); exact HO_8.out) (Kd.R_base ho0) hb); have n2_ := Aside0.mk (Kd.R_elder' (by (with_reducible repeat (first | apply Kd.R_alloc | apply Kd.R_drewN | apply Kd.R_drew)); exact HO214.out) (Kd.R_base ho0) hb); have n3_ := Aside0.mk (Kd.R_elder' (by (with_reducible repeat (first | apply Kd.R_alloc | apply Kd.R_drewN | apply Kd.R_drew)); exact HO217.out) (Kd.R_base ho0) hb); have n4_ := Aside0.mk (Kd.R_elder' (by (with_reducible repeat (first | apply Kd.R_alloc | apply Kd.R_drewN | apply Kd.R_drew)); exact HO220.out) (Kd.R_base ho0) hb); have n5_ := Aside0.mk (Kd.R_lower (Kd.R_new' (Kd.R_new' (Kd.R_new' (Kd.R_new' (Kd.R_new' ho0 (Kd.R_lt (by (with_reducible repeat (first | apply Kd.R_alloc | apply Kd.R_drewN | apply Kd.R_drew)); exact HO_7.out))) (Kd.R_lt (by (with_reducible repeat (first | apply Kd.R_alloc | apply Kd.R_drewN | apply Kd.R_drew)); exact HO_8.out))) (Kd.R_lt (by (with_reducible repeat (first | apply Kd.R_alloc | apply Kd.R_drewN | apply Kd.R_drew)); exact HO214.out))) (Kd.R_lt (by (with_reducible repeat (first | apply Kd.R_alloc | apply Kd.R_drewN | apply Kd.R_drew)); exact HO217.out))) (Kd.R_lt (by (with_reducible repeat (first | apply Kd.R_alloc | apply Kd.R_drewN | apply Kd.R_drew)); exact HO220.out))) (below_size (by repeat (first | (with_reducible first | exact HB.out | apply below_alloc | apply pw_below_drewN | apply below_drew1) | exact HB.out)))); have n6_ := Aside0.mk (below_step (by repeat (first | (with_reducible first | exact HB.out | apply below_alloc | apply pw_below_drewN | apply below_drew1) | exact HB.out)) hb); clear HO_7; clear HO_8; clear HO214; clear HO217; clear HO220; clear HB; have HO_7 := n0_; have HO_8 := n1_; have HO214 := n2_; have HO217 := n3_; have HO220 := n4_; have HO223 := n5_; have HB := n6_; clear n0_ n1_ n2_ n3_ n4_ n5_ n6_; (try clear hb); (try clear hb2); (try clear hk); (try clear hi); (try clear ho0); obtain ⟨Ao69, co69, eo69⟩ := Kd.R_slice HO_7.out; subst eo69; obtain ⟨Ao70, co70, eo70⟩ := Kd.R_slice HO223.out; subst eo70) | (go_at_call 21; (with_reducible refine (fathomref3_Cmp.calls kj21 _ _ t193 _ _ t221 t224 _ ?side1 ?side2 ?side3 ?side4 A49.out).mono ?_); (case side1 => repeat (first | exact (Kd.R_reads' HO_7.out).2.2 | (with_reducible refine Kd.C_alloc ?_ _) | (with_reducible refine Kd.C_drewN ?_ _) | (with_reducible refine Kd.C_drew ?_))); (case side2 => exact (Kd.R_reads' HO_7.out).2.1); (case side3 => repeat (first | exact (Kd.R_reads' HO223.out).2.2 | (with_reducible refine Kd.C_alloc ?_ _) | (with_reducible refine Kd.C_drewN ?_ _) | (with_reducible refine Kd.C_drew ?_))); (case side4 => exact (Kd.R_reads' HO223.out).2.1); rintro e w' ⟨rfl, ⟨nd, rfl⟩⟩))
                                      go_roundg kj21
                                      case measure => have := HK1.out; have := HJ1.out; have := HJ6.out; have := HJ14.out; have := HJ21.out; omega
                                      case rel => exact ⟨(wrap64 (x3_1 + 1)), (by first | rfl | (simp; done) | (simp [*]; done)), H', ⟨by have := HK1.out; have := HJ1.out; have := HJ6.out; have := HJ14.out; have := HJ21.out; omega⟩, ⟨by repeat (first | (with_reducible first | exact HB.out | apply below_alloc | apply pw_below_drewN | apply below_drew1) | exact HB.out)⟩⟩
              · rw [if_neg c6] at H
                exact absurd H (by simp)
            · rw [if_neg c5] at H
              exact absurd H (by simp)
          · replace c4 := Bool.eq_false_iff.mpr c4
            subst c4
            have H1 : ((fathomlaw3_wakes.f).bind fun t183 => (some t183)) = some r := by rw [if_neg (show ¬ (false = true) by decide)] at H; exact H
            clear H
            have H := H1
            clear H1
            replace H := Option.bind_eq_some_iff.mp H
            obtain ⟨t183, A710, H⟩ := H
            replace H : (some t183) = some r := H
            have A71 := Aside0.mk A710
            clear A710
            obtain rfl := Option.some.inj H
            go_wp2_with (first | ((with_reducible refine gate_callee (f := 24) rfl ?_); refine goesL_ (some 92) rfl rfl Try.func24 (by kernel_rfl) rfl #[] rfl (by (try simp only [List.map_toArray, List.map_cons, List.map_nil]); first | done | rfl | (simp only [List.length_drop, List.length_take]; rfl) | (simp only [gt_iff_lt, Int.natCast_pos]; rfl)) ?_; (with_reducible refine (fathomlaw3_wakes.calls  t183 _ A71.out).mono ?_); rintro e w72 ⟨rfl, hb⟩; refine ⟨_, rfl, ?_⟩; have n0_ := Aside0.mk (below_step (by repeat (first | (with_reducible first | exact HB.out | apply below_alloc | apply pw_below_drewN | apply below_drew1) | exact HB.out)) hb); clear HB; have HB := n0_; clear n0_; (try clear hb); (try clear hb2); (try clear hk); (try clear hi)))
            go_ret
            exact ⟨by first | rfl | (simp [errW_none, errW_some] <;> rfl) | (simp [*, errW_none, errW_some] <;> rfl), by repeat (first | (with_reducible first | exact HB.out | apply below_alloc | apply pw_below_drewN | apply below_drew1) | exact HB.out)⟩
end Go.Proofs.Ytfloeiagdegpjaa.LQuotients
