/- The reference's functions (Down2, laid, rounded): what each call comes to, as a Lean function over lists of whole numbers. The walks began as print.sh's text for these functions. -/
import Derived.Test.YtfloeiagdegpjaaR1
namespace Go.Proofs.Ytfloeiagdegpjaa.Rf
open Go.RowKit Go.Proofs.YtfloeiagdegpjaaW.PrintWords Go.Proofs.YtfloeiagdegpjaaW.PrintLast Go.Proofs.YtfloeiagdegpjaaW.PrintMore
attribute [local go_sem] max2_int min2_int max_two min_two max_three min_three max_four min_four
set_option linter.unusedVariables false
set_option linter.unusedSimpArgs false
/-! ### fathomref3_Down2: function 139 -/
mutual
def fathomref3_Down2.l0 : Nat → List Int → Int → Bool → Int → Option (List Int × Bool)
  | 0, _, _, _, _ => none
  | k + 1, x0, x1, x6, x7 => if x7 < (wrap64 (Int.tdiv x1 32)) then (if x6 = true then (fathomref3_Down2.l0 k x0 x1 true (wrap64 (x7 + 1))) else (if 0 ≤ x7 then (if x7 < (x0.length : Int) then (fathomref3_Down2.l0 k x0 x1 ((rd x0 x7) != 0) (wrap64 (x7 + 1))) else (none)) else (none))) else (if x6 = true then (fathomref3_Down2.j1 k x0 x1 true) else (if 0 ≤ (wrap64 (Int.tdiv x1 32)) then (if (wrap64 (Int.tdiv x1 32)) < (x0.length : Int) then (if 0 ≤ (IntKind.u64.wrap (Int.tmod x1 32)) then (fathomref3_Down2.j1 k x0 x1 ((Go.bits .and .u32 (rd x0 (wrap64 (Int.tdiv x1 32))) (((shl .u32 1 (IntKind.u64.wrap (Int.tmod x1 32))) - 1) % 4294967296)) != 0)) else (none)) else (none)) else (none)))
def fathomref3_Down2.j1 : Nat → List Int → Int → Bool → Option (List Int × Bool)
  | 0, _, _, _ => none
  | k + 1, x0, x1, x6 => fathomref3_Down2.l1 k x0 x1 x6 ([] : List Int) (wrap64 (Int.tdiv x1 32))
def fathomref3_Down2.l1 : Nat → List Int → Int → Bool → List Int → Int → Option (List Int × Bool)
  | 0, _, _, _, _, _ => none
  | k + 1, x0, x1, x6, x8, x9 => if x9 < (x0.length : Int) then (if 0 ≤ x9 then (if (wrap64 (x9 + 1)) < (x0.length : Int) then (if 0 ≤ (wrap64 (x9 + 1)) then (if 0 ≤ (IntKind.u64.wrap (Int.tmod x1 32)) then (if x8.length < 35184372088832 then (fathomref3_Down2.l1 k x0 x1 x6 (x8 ++ [(shr .u64 (Go.bits .or .u64 (IntKind.u64.wrap (rd x0 x9)) (IntKind.u64.wrap ((IntKind.u64.wrap (rd x0 (wrap64 (x9 + 1)))) * 4294967296))) (IntKind.u64.wrap (Int.tmod x1 32))) % 4294967296]) (wrap64 (x9 + 1))) else (none)) else (none)) else (none)) else (if 0 ≤ (IntKind.u64.wrap (Int.tmod x1 32)) then (if x8.length < 35184372088832 then (fathomref3_Down2.l1 k x0 x1 x6 (x8 ++ [(shr .u64 (IntKind.u64.wrap (rd x0 x9)) (IntKind.u64.wrap (Int.tmod x1 32))) % 4294967296]) (wrap64 (x9 + 1))) else (none)) else (none))) else (none)) else ((fathomref3_Trim.f k x8).bind fun t195 => (some (t195, x6)))
end
def fathomref3_Down2.f (k : Nat) (l0 : List Int) (a1 : Int) : Option (List Int × Bool) := (fathomref3_Len.f k l0).bind fun t184 => (if a1 ≥ t184 then (some (([] : List Int), decide ((l0.length : Int) > 0))) else (fathomref3_Down2.l0 k l0 a1 false 0))
theorem fathomref3_Down2.mono_l : ∀ k, (∀ y0 y1 y2 y3, LeO (fathomref3_Down2.l0 k y0 y1 y2 y3) (fathomref3_Down2.l0 (k + 1) y0 y1 y2 y3)) ∧ (∀ y0 y1 y2, LeO (fathomref3_Down2.j1 k y0 y1 y2) (fathomref3_Down2.j1 (k + 1) y0 y1 y2)) ∧ (∀ y0 y1 y2 y3 y4, LeO (fathomref3_Down2.l1 k y0 y1 y2 y3 y4) (fathomref3_Down2.l1 (k + 1) y0 y1 y2 y3 y4))
  | 0 => ⟨fun _ _ _ _ r h => by simp [fathomref3_Down2.l0] at h, fun _ _ _ r h => by simp [fathomref3_Down2.j1] at h, fun _ _ _ _ _ r h => by simp [fathomref3_Down2.l1] at h⟩
  | k + 1 => by
    obtain ⟨ih0, ih1, ih2⟩ := fathomref3_Down2.mono_l k
    refine ⟨?_, ?_, ?_⟩
    · intro y0 y1 y2 y3
      unfold fathomref3_Down2.l0
      repeat' first
      | (with_reducible exact ih0 _ _ _ _)
      | (with_reducible exact ih1 _ _ _)
      | (with_reducible exact ih2 _ _ _ _ _)
      | (with_reducible exact fathomref3_Len.mono _ _)
      | (with_reducible exact fathomref3_Trim.mono _ _)
      | (with_reducible exact LeO.refl _)
      | (with_reducible exact LeO.none _)
      | (with_reducible refine LeO.ite ?_ ?_)
      | (with_reducible refine LeO.bind ?_ (fun _ => ?_))
      | exact ih0 _ _ _ _
      | exact ih1 _ _ _
      | exact ih2 _ _ _ _ _
      | exact fathomref3_Len.mono _ _
      | exact fathomref3_Trim.mono _ _
      | exact LeO.none _
      | refine LeO.ite ?_ ?_
      | refine LeO.bind ?_ (fun _ => ?_)
    · intro y0 y1 y2
      unfold fathomref3_Down2.j1
      repeat' first
      | (with_reducible exact ih0 _ _ _ _)
      | (with_reducible exact ih1 _ _ _)
      | (with_reducible exact ih2 _ _ _ _ _)
      | (with_reducible exact fathomref3_Len.mono _ _)
      | (with_reducible exact fathomref3_Trim.mono _ _)
      | (with_reducible exact LeO.refl _)
      | (with_reducible exact LeO.none _)
      | (with_reducible refine LeO.ite ?_ ?_)
      | (with_reducible refine LeO.bind ?_ (fun _ => ?_))
      | exact ih0 _ _ _ _
      | exact ih1 _ _ _
      | exact ih2 _ _ _ _ _
      | exact fathomref3_Len.mono _ _
      | exact fathomref3_Trim.mono _ _
      | exact LeO.none _
      | refine LeO.ite ?_ ?_
      | refine LeO.bind ?_ (fun _ => ?_)
    · intro y0 y1 y2 y3 y4
      unfold fathomref3_Down2.l1
      repeat' first
      | (with_reducible exact ih0 _ _ _ _)
      | (with_reducible exact ih1 _ _ _)
      | (with_reducible exact ih2 _ _ _ _ _)
      | (with_reducible exact fathomref3_Len.mono _ _)
      | (with_reducible exact fathomref3_Trim.mono _ _)
      | (with_reducible exact LeO.refl _)
      | (with_reducible exact LeO.none _)
      | (with_reducible refine LeO.ite ?_ ?_)
      | (with_reducible refine LeO.bind ?_ (fun _ => ?_))
      | exact ih0 _ _ _ _
      | exact ih1 _ _ _
      | exact ih2 _ _ _ _ _
      | exact fathomref3_Len.mono _ _
      | exact fathomref3_Trim.mono _ _
      | exact LeO.none _
      | refine LeO.ite ?_ ?_
      | refine LeO.bind ?_ (fun _ => ?_)
theorem fathomref3_Down2.mono : ∀ a0 a1 k, LeO (fathomref3_Down2.f k a0 a1) (fathomref3_Down2.f (k + 1) a0 a1) := by
  intro a0 a1 k
  obtain ⟨ih0, ih1, ih2⟩ := fathomref3_Down2.mono_l k
  unfold fathomref3_Down2.f
  repeat' first
      | (with_reducible exact ih0 _ _ _ _)
      | (with_reducible exact ih1 _ _ _)
      | (with_reducible exact ih2 _ _ _ _ _)
      | (with_reducible exact fathomref3_Len.mono _ _)
      | (with_reducible exact fathomref3_Trim.mono _ _)
      | (with_reducible exact LeO.refl _)
      | (with_reducible exact LeO.none _)
      | (with_reducible refine LeO.ite ?_ ?_)
      | (with_reducible refine LeO.bind ?_ (fun _ => ?_))
      | exact ih0 _ _ _ _
      | exact ih1 _ _ _
      | exact ih2 _ _ _ _ _
      | exact fathomref3_Len.mono _ _
      | exact fathomref3_Trim.mono _ _
      | exact LeO.none _
      | refine LeO.ite ?_ ?_
      | refine LeO.bind ?_ (fun _ => ?_)
set_option maxHeartbeats 8000000 in
set_option maxRecDepth 100000 in
theorem fathomref3_Down2.calls (k : Nat) (A0 : Option Addr) (c0 : Nat) (l0 : List Int) (a1 : Int) (r1 : List Int) (r2 : Bool) (w : World) (hr0 : Kd.C (Kd.int .u32) w A0 l0.length l0) (hc0 : l0.length ≤ c0) (h : fathomref3_Down2.f k l0 a1 = some (r1, r2)) :
    Calls Try.prog 139 #[.slice A0 l0.length c0, .int .i64 a1] w fun e w' => ∃ v0_ : Value, e = .returned (.tuple #[v0_, .bool r2]) ∧ Kd.R (Kd.int .u32) 25 w' w.heap.size (fun _ => True) v0_ r1 ∧ Below w.heap.size w w' := by
  have HR0 := Aside0.mk hr0
  have HC0 := Aside0.mk hc0
  clear hr0 hc0
  have HB := Aside0.mk (Below.refl w.heap.size w)
  have H : ((fathomref3_Len.f k l0).bind fun t184 => (if a1 ≥ t184 then (some (([] : List Int), decide ((l0.length : Int) > 0))) else (fathomref3_Down2.l0 k l0 a1 false 0))) = some (r1, r2) := h
  clear h
  replace H := Option.bind_eq_some_iff.mp H
  obtain ⟨t184, A30, H⟩ := H
  replace H : (if a1 ≥ t184 then (some (([] : List Int), decide ((l0.length : Int) > 0))) else (fathomref3_Down2.l0 k l0 a1 false 0)) = some (r1, r2) := H
  have A3 := Aside0.mk A30
  clear A30
  by_cases c4 : a1 ≥ t184
  · rw [if_pos c4] at H
    have c4b0 : decide (t184 ≤ a1) = true := decide_eq_true c4
    clear c4
    simp only [Option.some.injEq, Prod.mk.injEq] at H
    obtain ⟨rfl, rfl⟩ := H
    go_enter Try.func139, Try.ntmps139
    go_wp2_with (first | ((with_reducible refine gate_callee (f := 136) rfl ?_); refine goesL_ (some 13) rfl rfl Try.func136 (by kernel_rfl) rfl #[.slice A0 l0.length c0] rfl (by (try simp only [List.map_toArray, List.map_cons, List.map_nil]); first | done | rfl | (simp only [List.length_drop, List.length_take]; rfl) | (simp only [gt_iff_lt, Int.natCast_pos]; rfl)) ?_; (with_reducible refine (fathomref3_Len.calls k _ _ l0 t184 _ ?side1 ?side2 A3.out).mono ?_); (case side1 => repeat (first | exact HR0.out | (with_reducible refine Kd.C_alloc ?_ _) | (with_reducible refine Kd.C_drewN ?_ _) | (with_reducible refine Kd.C_drew ?_))); (case side2 => exact HC0.out); rintro e w' ⟨rfl, ⟨nd, rfl⟩⟩; refine ⟨_, rfl, ?_⟩))
    go_ret2
    exact ⟨_, by first | rfl | (simp [errW_none, errW_some] <;> rfl) | (simp [*, errW_none, errW_some] <;> rfl), by first | exact Kd.R_nil _ _ _ _ _ | exact Kd.N_nil _ _ _ _ _ | exact Kd.V_nil _ _ _ _ _ | exact Kd.Q_nil _ _ _ _ _ | exact Kd.S_nil _ _ _ _ _, by repeat (first | (with_reducible first | exact HB.out | apply below_alloc | apply pw_below_drewN | apply below_drew1) | exact HB.out)⟩
  · rw [if_neg c4] at H
    have c4b0 : decide (t184 ≤ a1) = false := decide_eq_false c4
    clear c4
    have H' := Aside0.mk H
    clear H
    go_enter Try.func139, Try.ntmps139
    go_wp2_with (first | ((with_reducible refine gate_callee (f := 136) rfl ?_); refine goesL_ (some 13) rfl rfl Try.func136 (by kernel_rfl) rfl #[.slice A0 l0.length c0] rfl (by (try simp only [List.map_toArray, List.map_cons, List.map_nil]); first | done | rfl | (simp only [List.length_drop, List.length_take]; rfl) | (simp only [gt_iff_lt, Int.natCast_pos]; rfl)) ?_; (with_reducible refine (fathomref3_Len.calls k _ _ l0 t184 _ ?side1 ?side2 A3.out).mono ?_); (case side1 => repeat (first | exact HR0.out | (with_reducible refine Kd.C_alloc ?_ _) | (with_reducible refine Kd.C_drewN ?_ _) | (with_reducible refine Kd.C_drew ?_))); (case side2 => exact HC0.out); rintro e w' ⟨rfl, ⟨nd, rfl⟩⟩; refine ⟨_, rfl, ?_⟩))
    go_loopg [6, 7] k (fun kq v6 v7 w' => ∃ (x6_1 : Bool) (x7_1 : Int), v6 = .bool x6_1 ∧ v7 = .int .i64 x7_1 ∧ Aside0 (fathomref3_Down2.l0 kq l0 a1 x6_1 x7_1 = some (r1, r2)) ∧ Aside0 (kq ≤ k) ∧ Aside0 (Below w.heap.size w w'))
    case atStart => exact ⟨(false), (0), (by first | rfl | (simp; done) | (simp [*]; done)), (by first | rfl | (simp; done) | (simp [*]; done)), H', ⟨Nat.le_refl _⟩, ⟨by repeat (first | (with_reducible first | exact HB.out | apply below_alloc | apply pw_below_drewN | apply below_drew1) | exact HB.out)⟩⟩
    case round =>
      clear H'
      try clear c1
      try clear p2
      try clear c4
      try clear c4b0
      obtain ⟨x6_1, x7_1, rfl, rfl, HA, HK1, HB⟩ := hrel
      cases gk with
      | zero => exact absurd HA.out (by simp [fathomref3_Down2.l0])
      | succ k1 =>
        have H := HA.out
        clear HA
        simp only [fathomref3_Down2.l0] at H
        by_cases c5 : x7_1 < (wrap64 (Int.tdiv a1 32))
        · rw [if_pos c5] at H
          have c5b0 : decide (x7_1 < (wrap64 (Int.tdiv a1 32))) = true := decide_eq_true c5
          clear c5
          by_cases c6 : x6_1 = true
          · subst c6
            have H1 : (fathomref3_Down2.l0 k1 l0 a1 true (wrap64 (x7_1 + 1))) = some (r1, r2) := by rw [if_pos rfl] at H; exact H
            clear H
            have H := H1
            clear H1
            have H' := Aside0.mk H
            clear H
            go_wp2
            go_roundg k1
            case measure => have := HK1.out; omega
            case rel => exact ⟨(true), (wrap64 (x7_1 + 1)), (by first | rfl | (simp; done) | (simp [*]; done)), (by first | rfl | (simp; done) | (simp [*]; done)), H', ⟨by have := HK1.out; omega⟩, ⟨by repeat (first | (with_reducible first | exact HB.out | apply below_alloc | apply pw_below_drewN | apply below_drew1) | exact HB.out)⟩⟩
          · replace c6 := Bool.eq_false_iff.mpr c6
            subst c6
            have H1 : (if 0 ≤ x7_1 then (if x7_1 < (l0.length : Int) then (fathomref3_Down2.l0 k1 l0 a1 ((rd l0 x7_1) != 0) (wrap64 (x7_1 + 1))) else (none)) else (none)) = some (r1, r2) := by rw [if_neg (show ¬ (false = true) by decide)] at H; exact H
            clear H
            have H := H1
            clear H1
            by_cases c7 : 0 ≤ x7_1
            · rw [if_pos c7] at H
              have c7b0 : decide (0 ≤ x7_1) = true := decide_eq_true c7
              clear c7
              by_cases c8 : x7_1 < (l0.length : Int)
              · rw [if_pos c8] at H
                have c8b0 : decide (x7_1 < (l0.length : Int)) = true := decide_eq_true c8
                clear c8
                have H' := Aside0.mk H
                clear H
                have p185 : 0 ≤ (x7_1 : Int) := of_decide_eq_true (by first | (with_reducible assumption) | assumption)
                have q185 : x7_1 < (l0.length : Int) := of_decide_eq_true (by first | (with_reducible assumption) | assumption)
                obtain ⟨ad185, e185, hx185_0⟩ := Kd.at_int HR0.out x7_1 p185 q185
                cases e185
                replace hx185_0 := (HB.out.cell (World.block_lt_of_cell? w _ hx185_0)).trans hx185_0
                replace p185 := eq_true p185
                replace q185 := eq_true q185
                go_wp2
                go_roundg k1
                case measure => have := HK1.out; omega
                case rel => exact ⟨(((rd l0 x7_1) != 0)), (wrap64 (x7_1 + 1)), (by first | rfl | (simp; done) | (simp [*]; done)), (by first | rfl | (simp; done) | (simp [*]; done)), H', ⟨by have := HK1.out; omega⟩, ⟨by repeat (first | (with_reducible first | exact HB.out | apply below_alloc | apply pw_below_drewN | apply below_drew1) | exact HB.out)⟩⟩
              · rw [if_neg c8] at H
                exact absurd H (by simp)
            · rw [if_neg c7] at H
              exact absurd H (by simp)
        · rw [if_neg c5] at H
          have c5b0 : decide (x7_1 < (wrap64 (Int.tdiv a1 32))) = false := decide_eq_false c5
          clear c5
          have HC9 := Aside0.mk H
          clear H
          go_upto_region 8 with (fail)
          go_cut [6] (fun v6 wc => ∃ (kq : Nat) (x6_8 : Bool), v6 = .bool x6_8 ∧ Aside0 (fathomref3_Down2.j1 kq l0 a1 x6_8 = some (r1, r2)) ∧ Aside0 (kq ≤ k1) ∧ Aside0 (Below w.heap.size w wc))
          case first =>
            have H := HC9.out
            clear HC9
            by_cases c10 : x6_1 = true
            · subst c10
              have H1 : (fathomref3_Down2.j1 k1 l0 a1 true) = some (r1, r2) := by rw [if_pos rfl] at H; exact H
              clear H
              have H := H1
              clear H1
              have H' := Aside0.mk H
              clear H
              go_wp2
              go_meet
              case rel => exact ⟨_, (true), (by first | rfl | (simp; done) | (simp [*]; done)), H', ⟨by have := HK1.out; first | omega | exact Nat.le_refl _⟩, ⟨by repeat (first | (with_reducible first | exact HB.out | apply below_alloc | apply pw_below_drewN | apply below_drew1) | exact HB.out)⟩⟩
            · replace c10 := Bool.eq_false_iff.mpr c10
              subst c10
              have H1 : (if 0 ≤ (wrap64 (Int.tdiv a1 32)) then (if (wrap64 (Int.tdiv a1 32)) < (l0.length : Int) then (if 0 ≤ (IntKind.u64.wrap (Int.tmod a1 32)) then (fathomref3_Down2.j1 k1 l0 a1 ((Go.bits .and .u32 (rd l0 (wrap64 (Int.tdiv a1 32))) (((shl .u32 1 (IntKind.u64.wrap (Int.tmod a1 32))) - 1) % 4294967296)) != 0)) else (none)) else (none)) else (none)) = some (r1, r2) := by rw [if_neg (show ¬ (false = true) by decide)] at H; exact H
              clear H
              have H := H1
              clear H1
              obtain ⟨ji11, hji11⟩ : ∃ j_ : Int, (wrap64 (Int.tdiv a1 32)) = j_ := ⟨_, rfl⟩
              replace H : (if 0 ≤ (ji11) then (if (ji11) < (l0.length : Int) then (if 0 ≤ (IntKind.u64.wrap (Int.tmod a1 32)) then (fathomref3_Down2.j1 k1 l0 a1 ((Go.bits .and .u32 (rd l0 (ji11)) (((shl .u32 1 (IntKind.u64.wrap (Int.tmod a1 32))) - 1) % 4294967296)) != 0)) else (none)) else (none)) else (none)) = some (r1, r2) := by first | (rw [hji11] at H; exact H) | (simp only [hji11] at H ⊢; exact H)
              (try rw [hji11] at c5b0)
              have hji11w : (IntKind.i64.wrap (Int.tdiv a1 32)) = ji11 := (i64_w _).trans hji11
              by_cases c12 : 0 ≤ (ji11)
              · rw [if_pos c12] at H
                have c12b0 : decide (0 ≤ (ji11)) = true := decide_eq_true c12
                clear c12
                (first | rw [c12b0] | (simp only [i64_w, i32_w]; rw [c12b0]) | skip)
                by_cases c13 : (ji11) < (l0.length : Int)
                · rw [if_pos c13] at H
                  have c13b0 : decide ((ji11) < (l0.length : Int)) = true := decide_eq_true c13
                  clear c13
                  obtain ⟨ji14, hji14⟩ : ∃ j_ : Int, (IntKind.u64.wrap (Int.tmod a1 32)) = j_ := ⟨_, rfl⟩
                  replace H : (if 0 ≤ (ji14) then (fathomref3_Down2.j1 k1 l0 a1 ((Go.bits .and .u32 (rd l0 (ji11)) (((shl .u32 1 (ji14)) - 1) % 4294967296)) != 0)) else (none)) = some (r1, r2) := by first | (rw [hji14] at H; exact H) | (simp only [hji14] at H ⊢; exact H)
                  by_cases c15 : 0 ≤ (ji14)
                  · rw [if_pos c15] at H
                    have c15b0 := eq_true c15
                    have c15b1 : decide (0 ≤ (ji14)) = true := decide_eq_true c15
                    clear c15
                    obtain ⟨ji16, hji16⟩ : ∃ j_ : Int, (shl .u32 1 (ji14)) = j_ := ⟨_, rfl⟩
                    replace H : (fathomref3_Down2.j1 k1 l0 a1 ((Go.bits .and .u32 (rd l0 (ji11)) (((ji16) - 1) % 4294967296)) != 0)) = some (r1, r2) := by first | (rw [hji16] at H; exact H) | (simp only [hji16] at H ⊢; exact H)
                    have hji16_ : (IntKind.u32.wrap (1 * 2 ^ min (ji14).toNat 32)) = ji16 := hji16
                    have hji16z : (ji14) ≤ 32 → (IntKind.u32.wrap (1 * 2 ^ (ji14).toNat)) = ji16 := shl_small hji16
                    have hji16u : (IntKind.u32.wrap (2 ^ min (ji14).toNat 32)) = ji16 := by have h_ := hji16_; rw [Int.one_mul] at h_; exact h_
                    have hji16v : (ji14) ≤ 32 → (IntKind.u32.wrap (2 ^ (ji14).toNat)) = ji16 := fun hle_ => by have h_ := hji16z hle_; rw [Int.one_mul] at h_; exact h_
                    have H' := Aside0.mk H
                    clear H
                    have p186 : 0 ≤ ((ji11) : Int) := of_decide_eq_true (by first | (with_reducible assumption) | assumption)
                    have q186 : (ji11) < (l0.length : Int) := of_decide_eq_true (by first | (with_reducible assumption) | assumption)
                    obtain ⟨ad186, e186, hx186_0⟩ := Kd.at_int HR0.out (ji11) p186 q186
                    cases e186
                    replace hx186_0 := (HB.out.cell (World.block_lt_of_cell? w _ hx186_0)).trans hx186_0
                    replace p186 := eq_true p186
                    replace q186 := eq_true q186
                    go_wp2
                    go_meet
                    case rel => exact ⟨_, (((Go.bits .and .u32 (rd l0 (ji11)) (((ji16) - 1) % 4294967296)) != 0)), (by first | rfl | (simp; done) | (simp only [← hji11, ← hji16] <;> (first | rfl | simp)) | (simp [*]; done)), H', ⟨by have := HK1.out; first | omega | exact Nat.le_refl _⟩, ⟨by repeat (first | (with_reducible first | exact HB.out | apply below_alloc | apply pw_below_drewN | apply below_drew1) | exact HB.out)⟩⟩
                  · rw [if_neg c15] at H
                    exact absurd H (by simp)
                · rw [if_neg c13] at H
                  exact absurd H (by simp)
              · rw [if_neg c12] at H
                exact absurd H (by simp)
          case rest =>
            clear HC9
            try clear c1
            try clear p1
            try clear q1
            try clear hx1
            try clear p2
            try clear c4
            try clear c4b0
            try clear c5
            try clear c5b0
            try clear c6
            try clear p6
            try clear c7
            try clear c7b0
            try clear c8
            try clear c8b0
            try clear c10
            try clear c12
            try clear c12b0
            try clear c13
            try clear c13b0
            try clear c15
            try clear c15b0
            try clear c15b1
            try clear hx185_0
            try clear hx186_0
            try clear p185
            try clear p186
            try clear p2
            try clear q185
            try clear q186
            obtain ⟨kq, x6_8, rfl, HA, HJ8, HB⟩ := hcut
            cases kq with
            | zero => exact absurd HA.out (by simp [fathomref3_Down2.j1])
            | succ kj8 =>
              have H := HA.out
              clear HA
              simp only [fathomref3_Down2.j1] at H
              have H' := Aside0.mk H
              clear H
              go_wp2
              go_loopg [8, 9] kj8 (fun kq v8 v9 w' => ∃ (x8_3 : List Int) (x9_3 : Int), v9 = .int .i64 x9_3 ∧ Aside0 (fathomref3_Down2.l1 kq l0 a1 x6_8 x8_3 x9_3 = some (r1, r2)) ∧ Aside0 (kq ≤ kj8) ∧ Aside0 (Kd.R (Kd.int .u32) 25 w' w.heap.size (fun _ => True) v8 x8_3) ∧ Aside0 (Below w.heap.size w w'))
              case atStart => exact ⟨(([] : List Int)), (wrap64 (Int.tdiv a1 32)), (by first | rfl | (simp; done) | (simp [*]; done)), H', ⟨Nat.le_refl _⟩, ⟨by first | exact Kd.R_nil _ _ _ _ _ | exact Kd.N_nil _ _ _ _ _ | exact Kd.V_nil _ _ _ _ _ | exact Kd.Q_nil _ _ _ _ _ | exact Kd.S_nil _ _ _ _ _⟩, ⟨by repeat (first | (with_reducible first | exact HB.out | apply below_alloc | apply pw_below_drewN | apply below_drew1) | exact HB.out)⟩⟩
              case round =>
                clear H'
                try clear c1
                try clear p1
                try clear q1
                try clear hx1
                try clear p2
                try clear c4
                try clear c4b0
                try clear c5
                try clear c5b0
                try clear c6
                try clear p6
                try clear c7
                try clear c7b0
                try clear c8
                try clear c8b0
                try clear c10
                try clear c12
                try clear c12b0
                try clear c13
                try clear c13b0
                try clear c15
                try clear c15b0
                try clear c15b1
                try clear hx185_0
                try clear hx186_0
                try clear p1
                try clear p185
                try clear p186
                try clear p2
                try clear p6
                try clear q1
                try clear q185
                try clear q186
                obtain ⟨x8_3, x9_3, rfl, HA, HK3, HO_8, HB⟩ := hrel
                cases gk with
                | zero => exact absurd HA.out (by simp [fathomref3_Down2.l1])
                | succ k3 =>
                  have H := HA.out
                  clear HA
                  simp only [fathomref3_Down2.l1] at H
                  by_cases c17 : x9_3 < (l0.length : Int)
                  · rw [if_pos c17] at H
                    have c17b0 : decide (x9_3 < (l0.length : Int)) = true := decide_eq_true c17
                    clear c17
                    by_cases c18 : 0 ≤ x9_3
                    · rw [if_pos c18] at H
                      have c18b0 : decide (0 ≤ x9_3) = true := decide_eq_true c18
                      clear c18
                      by_cases c19 : (wrap64 (x9_3 + 1)) < (l0.length : Int)
                      · rw [if_pos c19] at H
                        have c19b0 : decide ((wrap64 (x9_3 + 1)) < (l0.length : Int)) = true := decide_eq_true c19
                        clear c19
                        obtain ⟨ji20, hji20⟩ : ∃ j_ : Int, (wrap64 (x9_3 + 1)) = j_ := ⟨_, rfl⟩
                        replace H : (if 0 ≤ (ji20) then (if 0 ≤ (IntKind.u64.wrap (Int.tmod a1 32)) then (if x8_3.length < 35184372088832 then (fathomref3_Down2.l1 k3 l0 a1 x6_8 (x8_3 ++ [(shr .u64 (Go.bits .or .u64 (IntKind.u64.wrap (rd l0 x9_3)) (IntKind.u64.wrap ((IntKind.u64.wrap (rd l0 (ji20))) * 4294967296))) (IntKind.u64.wrap (Int.tmod a1 32))) % 4294967296]) ji20) else (none)) else (none)) else (none)) = some (r1, r2) := by first | (rw [hji20] at H; exact H) | (simp only [hji20] at H ⊢; exact H)
                        (try rw [hji20] at c19b0)
                        have hji20w : (IntKind.i64.wrap (x9_3 + 1)) = ji20 := (i64_w _).trans hji20
                        by_cases c21 : 0 ≤ (ji20)
                        · rw [if_pos c21] at H
                          have c21b0 : decide (0 ≤ (ji20)) = true := decide_eq_true c21
                          clear c21
                          obtain ⟨ji22, hji22⟩ : ∃ j_ : Int, (IntKind.u64.wrap (Int.tmod a1 32)) = j_ := ⟨_, rfl⟩
                          replace H : (if 0 ≤ (ji22) then (if x8_3.length < 35184372088832 then (fathomref3_Down2.l1 k3 l0 a1 x6_8 (x8_3 ++ [(shr .u64 (Go.bits .or .u64 (IntKind.u64.wrap (rd l0 x9_3)) (IntKind.u64.wrap ((IntKind.u64.wrap (rd l0 (ji20))) * 4294967296))) (ji22)) % 4294967296]) ji20) else (none)) else (none)) = some (r1, r2) := by first | (rw [hji22] at H; exact H) | (simp only [hji22] at H ⊢; exact H)
                          by_cases c23 : 0 ≤ (ji22)
                          · rw [if_pos c23] at H
                            have c23b0 := eq_true c23
                            have c23b1 : decide (0 ≤ (ji22)) = true := decide_eq_true c23
                            clear c23
                            obtain ⟨ji24, hji24⟩ : ∃ j_ : Int, (shr .u64 (Go.bits .or .u64 (IntKind.u64.wrap (rd l0 x9_3)) (IntKind.u64.wrap ((IntKind.u64.wrap (rd l0 (ji20))) * 4294967296))) (ji22)) = j_ := ⟨_, rfl⟩
                            replace H : (if x8_3.length < 35184372088832 then (fathomref3_Down2.l1 k3 l0 a1 x6_8 (x8_3 ++ [(ji24) % 4294967296]) ji20) else (none)) = some (r1, r2) := by first | (rw [hji24] at H; exact H) | (simp only [hji24] at H ⊢; exact H)
                            have hji24_ : ((Go.bits .or .u64 (IntKind.u64.wrap (rd l0 x9_3)) (IntKind.u64.wrap ((IntKind.u64.wrap (rd l0 (ji20))) * 4294967296))) / 2 ^ min (ji22).toNat 64) = ji24 := hji24
                            have hji24z : (ji22) ≤ 64 → ((Go.bits .or .u64 (IntKind.u64.wrap (rd l0 x9_3)) (IntKind.u64.wrap ((IntKind.u64.wrap (rd l0 (ji20))) * 4294967296))) / 2 ^ (ji22).toNat) = ji24 := shr_small hji24
                            by_cases c25 : x8_3.length < 35184372088832
                            · rw [if_pos c25] at H
                              have LMc25 := Aside0.mk c25
                              clear c25
                              obtain ⟨y189, hy189⟩ : ∃ y_ : List Int, y_ = (x8_3 ++ [(ji24) % 4294967296]) := ⟨_, rfl⟩
                              replace H : (fathomref3_Down2.l1 k3 l0 a1 x6_8 y189 ji20) = some (r1, r2) := by first | (rw [hy189]; with_reducible exact H) | (have H2_ := (Option.bind_some _ _).symm.trans H; rw [hy189]; with_reducible exact H2_) | (have H2_ := (Option.bind_some _ _).symm.trans H; with_reducible exact H2_) | with_reducible exact H | (rw [hy189]; exact H) | exact H
                              have Ny189 := Aside0.mk hy189
                              clear hy189
                              have H' := Aside0.mk H
                              clear H
                              have p187 : 0 ≤ (x9_3 : Int) := of_decide_eq_true (by first | (with_reducible assumption) | assumption)
                              have q187 : x9_3 < (l0.length : Int) := of_decide_eq_true (by first | (with_reducible assumption) | assumption)
                              obtain ⟨ad187, e187, hx187_0⟩ := Kd.at_int HR0.out x9_3 p187 q187
                              cases e187
                              replace hx187_0 := (HB.out.cell (World.block_lt_of_cell? w _ hx187_0)).trans hx187_0
                              replace p187 := eq_true p187
                              replace q187 := eq_true q187
                              have p188 : 0 ≤ ((ji20) : Int) := of_decide_eq_true (by first | (with_reducible assumption) | assumption)
                              have q188 : (ji20) < (l0.length : Int) := of_decide_eq_true (by first | (with_reducible assumption) | assumption)
                              obtain ⟨ad188, e188, hx188_0⟩ := Kd.at_int HR0.out (ji20) p188 q188
                              obtain rfl : ad187 = ad188 := (by injection e188)
                              replace hx188_0 := (HB.out.cell (World.block_lt_of_cell? w _ hx188_0)).trans hx188_0
                              replace p188 := eq_true p188
                              replace q188 := eq_true q188
                              go_wp2_with (first | ((with_reducible refine gate_builtin (b := .append) (xs := #[.tmp 74, .tmp 81]) rfl ?_); at_builtin; refine Kd.R_append (Kd.int .u32) (w0 := w) w.heap.size rfl (.tmp 74) (.tmp 81) 29 25 (.int .u32 0) 4 rfl Try.underlying29 info25 rfl (by decide) (by omega) u8 x8_3 ((ji24) % 4294967296) [.int .u32 ((ji24) % 4294967296)] (fun _ => True) (fun _ => False) rfl rfl ?aP (fun _ hk => hk.elim) ?aF ?aO ?aB ?aS ?aL ?_; (case aP => exact rfl); (case aB => exact (by repeat (first | (with_reducible first | exact HB.out | apply below_alloc | apply pw_below_drewN | apply below_drew1) | exact HB.out))); (case aF => exact (fun _ _ => trivial)); (case aO => exact (by (with_reducible repeat (first | apply Kd.R_alloc | apply Kd.R_drewN | apply Kd.R_drew)); exact HO_8.out)); (case aS => exact (below_size (by repeat (first | (with_reducible first | exact HB.out | apply below_alloc | apply pw_below_drewN | apply below_drew1) | exact HB.out)))); (case aL => have := LMc25.out; omega); intro v190 w26 ho hb hg hat; rw [← Ny189.out] at ho; have n0_ := Aside0.mk (hb); have n1_ := Aside0.mk (ho); clear HB; clear HO_8; have HB := n0_; have HO191 := n1_; clear n0_ n1_; clear ho hb hg hat))
                              go_roundg k3
                              case measure => have := HK1.out; have := HJ8.out; have := HK3.out; omega
                              case rel => exact ⟨(y189), (ji20), (by first | rfl | (simp; done) | (simp only [← hji20] <;> (first | rfl | simp)) | (simp [*]; done)), H', ⟨by have := HK1.out; have := HJ8.out; have := HK3.out; omega⟩, ⟨by (with_reducible repeat (first | apply Kd.R_alloc | apply Kd.R_drewN | apply Kd.R_drew)); exact HO191.out⟩, ⟨by repeat (first | (with_reducible first | exact HB.out | apply below_alloc | apply pw_below_drewN | apply below_drew1) | exact HB.out)⟩⟩
                            · rw [if_neg c25] at H
                              exact absurd H (by simp)
                          · rw [if_neg c23] at H
                            exact absurd H (by simp)
                        · rw [if_neg c21] at H
                          exact absurd H (by simp)
                      · rw [if_neg c19] at H
                        have c19b0 : decide ((wrap64 (x9_3 + 1)) < (l0.length : Int)) = false := decide_eq_false c19
                        clear c19
                        obtain ⟨ji27, hji27⟩ : ∃ j_ : Int, (IntKind.u64.wrap (Int.tmod a1 32)) = j_ := ⟨_, rfl⟩
                        replace H : (if 0 ≤ (ji27) then (if x8_3.length < 35184372088832 then (fathomref3_Down2.l1 k3 l0 a1 x6_8 (x8_3 ++ [(shr .u64 (IntKind.u64.wrap (rd l0 x9_3)) (ji27)) % 4294967296]) (wrap64 (x9_3 + 1))) else (none)) else (none)) = some (r1, r2) := by first | (rw [hji27] at H; exact H) | (simp only [hji27] at H ⊢; exact H)
                        by_cases c28 : 0 ≤ (ji27)
                        · rw [if_pos c28] at H
                          have c28b0 := eq_true c28
                          have c28b1 : decide (0 ≤ (ji27)) = true := decide_eq_true c28
                          clear c28
                          obtain ⟨ji29, hji29⟩ : ∃ j_ : Int, (shr .u64 (IntKind.u64.wrap (rd l0 x9_3)) (ji27)) = j_ := ⟨_, rfl⟩
                          replace H : (if x8_3.length < 35184372088832 then (fathomref3_Down2.l1 k3 l0 a1 x6_8 (x8_3 ++ [(ji29) % 4294967296]) (wrap64 (x9_3 + 1))) else (none)) = some (r1, r2) := by first | (rw [hji29] at H; exact H) | (simp only [hji29] at H ⊢; exact H)
                          have hji29_ : ((IntKind.u64.wrap (rd l0 x9_3)) / 2 ^ min (ji27).toNat 64) = ji29 := hji29
                          have hji29z : (ji27) ≤ 64 → ((IntKind.u64.wrap (rd l0 x9_3)) / 2 ^ (ji27).toNat) = ji29 := shr_small hji29
                          by_cases c30 : x8_3.length < 35184372088832
                          · rw [if_pos c30] at H
                            have LMc30 := Aside0.mk c30
                            clear c30
                            obtain ⟨y192, hy192⟩ : ∃ y_ : List Int, y_ = (x8_3 ++ [(ji29) % 4294967296]) := ⟨_, rfl⟩
                            replace H : (fathomref3_Down2.l1 k3 l0 a1 x6_8 y192 (wrap64 (x9_3 + 1))) = some (r1, r2) := by first | (rw [hy192]; with_reducible exact H) | (have H2_ := (Option.bind_some _ _).symm.trans H; rw [hy192]; with_reducible exact H2_) | (have H2_ := (Option.bind_some _ _).symm.trans H; with_reducible exact H2_) | with_reducible exact H | (rw [hy192]; exact H) | exact H
                            have Ny192 := Aside0.mk hy192
                            clear hy192
                            have H' := Aside0.mk H
                            clear H
                            have p187 : 0 ≤ (x9_3 : Int) := of_decide_eq_true (by first | (with_reducible assumption) | assumption)
                            have q187 : x9_3 < (l0.length : Int) := of_decide_eq_true (by first | (with_reducible assumption) | assumption)
                            obtain ⟨ad187, e187, hx187_0⟩ := Kd.at_int HR0.out x9_3 p187 q187
                            cases e187
                            replace hx187_0 := (HB.out.cell (World.block_lt_of_cell? w _ hx187_0)).trans hx187_0
                            replace p187 := eq_true p187
                            replace q187 := eq_true q187
                            go_wp2_with (first | ((with_reducible refine gate_builtin (b := .append) (xs := #[.tmp 74, .tmp 81]) rfl ?_); at_builtin; refine Kd.R_append (Kd.int .u32) (w0 := w) w.heap.size rfl (.tmp 74) (.tmp 81) 29 25 (.int .u32 0) 4 rfl Try.underlying29 info25 rfl (by decide) (by omega) u8 x8_3 ((ji29) % 4294967296) [.int .u32 ((ji29) % 4294967296)] (fun _ => True) (fun _ => False) rfl rfl ?aP (fun _ hk => hk.elim) ?aF ?aO ?aB ?aS ?aL ?_; (case aP => exact rfl); (case aB => exact (by repeat (first | (with_reducible first | exact HB.out | apply below_alloc | apply pw_below_drewN | apply below_drew1) | exact HB.out))); (case aF => exact (fun _ _ => trivial)); (case aO => exact (by (with_reducible repeat (first | apply Kd.R_alloc | apply Kd.R_drewN | apply Kd.R_drew)); exact HO_8.out)); (case aS => exact (below_size (by repeat (first | (with_reducible first | exact HB.out | apply below_alloc | apply pw_below_drewN | apply below_drew1) | exact HB.out)))); (case aL => have := LMc30.out; omega); intro v193 w31 ho hb hg hat; rw [← Ny192.out] at ho; have n0_ := Aside0.mk (hb); have n1_ := Aside0.mk (ho); clear HB; clear HO_8; have HB := n0_; have HO194 := n1_; clear n0_ n1_; clear ho hb hg hat))
                            go_roundg k3
                            case measure => have := HK1.out; have := HJ8.out; have := HK3.out; omega
                            case rel => exact ⟨(y192), (wrap64 (x9_3 + 1)), (by first | rfl | (simp; done) | (simp [*]; done)), H', ⟨by have := HK1.out; have := HJ8.out; have := HK3.out; omega⟩, ⟨by (with_reducible repeat (first | apply Kd.R_alloc | apply Kd.R_drewN | apply Kd.R_drew)); exact HO194.out⟩, ⟨by repeat (first | (with_reducible first | exact HB.out | apply below_alloc | apply pw_below_drewN | apply below_drew1) | exact HB.out)⟩⟩
                          · rw [if_neg c30] at H
                            exact absurd H (by simp)
                        · rw [if_neg c28] at H
                          exact absurd H (by simp)
                    · rw [if_neg c18] at H
                      exact absurd H (by simp)
                  · rw [if_neg c17] at H
                    have c17b0 : decide (x9_3 < (l0.length : Int)) = false := decide_eq_false c17
                    clear c17
                    replace H := Option.bind_eq_some_iff.mp H
                    obtain ⟨t195, A320, H⟩ := H
                    replace H : (some (t195, x6_8)) = some (r1, r2) := H
                    have A32 := Aside0.mk A320
                    clear A320
                    simp only [Option.some.injEq, Prod.mk.injEq] at H
                    obtain ⟨rfl, rfl⟩ := H
                    obtain ⟨Ao33, co33, eo33⟩ := Kd.R_slice HO_8.out
                    subst eo33
                    go_wp2_with (first | ((with_reducible refine gate_callee (f := 88) rfl ?_); refine goesL_ (some 84) rfl rfl Try.func88 (by kernel_rfl) rfl #[.slice Ao33 x8_3.length co33] rfl (by (try simp only [List.map_toArray, List.map_cons, List.map_nil]); first | done | rfl | (simp only [List.length_drop, List.length_take]; rfl) | (simp only [gt_iff_lt, Int.natCast_pos]; rfl)) ?_; (with_reducible refine (fathomref3_Trim.calls k3 (fun k_ => some k_ = (.slice Ao33 x8_3.length co33 : Value).ownBlock) (.slice Ao33 x8_3.length co33) x8_3 t195 w _ ?side1 ?side2 A32.out).mono ?_); (case side1 => repeat (first | (with_reducible first | exact HB.out | apply below_alloc | apply pw_below_drewN | apply below_drew1) | exact HB.out)); (case side2 => exact Kd.R_tight rfl HO_8.out); rintro e w34 ⟨v196, rfl, ho0, hb, hkp⟩; refine ⟨_, rfl, ?_⟩; have n0_ := Aside0.mk (Kd.R_mono (ok' := fun k_ => True) ho0 (fun k_ hk_ => trivial)); have n1_ := Aside0.mk (hb); clear HB; clear HO_8; have HO197 := n0_; have HB := n1_; clear n0_ n1_; (try clear hb); (try clear hkp); (try clear ho0)))
                    go_ret2
                    exact ⟨_, by first | rfl | (simp [errW_none, errW_some] <;> rfl) | (simp [*, errW_none, errW_some] <;> rfl), by (with_reducible repeat (first | apply Kd.R_alloc | apply Kd.R_drewN | apply Kd.R_drew)); exact HO197.out, by repeat (first | (with_reducible first | exact HB.out | apply below_alloc | apply pw_below_drewN | apply below_drew1) | exact HB.out)⟩

/-! ### fathomref3_laid: function 150 -/
mutual
def fathomref3_laid.j0 : Nat → Bool → Int → Int → Int → Int → Option (Int)
  | 0, _, _, _, _, _ => none
  | k + 1, x0, x1, x2, x3, x9 => if 0 ≤ x9 then (if (shr .u64 x1 x9) = 1 then ((fathomref3_least.f x3).bind fun t199 => (fathomref3_laid.j1 k x0 x3 (IntKind.u64.wrap ((shl .u64 (IntKind.u64.wrap (wrap64 (x2 - t199))) x9) + x1)))) else (fathomref3_laid.j1 k x0 x3 x1)) else (none)
def fathomref3_laid.j1 : Nat → Bool → Int → Int → Option (Int)
  | 0, _, _, _ => none
  | k + 1, x0, x3, x10 => (fathomref3_Inf.f x3).bind fun t200 => (if x10 ≥ t200 then ((fathomref3_Inf.f x3).bind fun t201 => ((fathomref3_signed.f x0 t201 x3).bind fun t202 => (some t202))) else ((fathomref3_signed.f x0 x10 x3).bind fun t203 => (some t203)))
end
def fathomref3_laid.f (k : Nat) (a0 : Bool) (a1 : Int) (a2 : Int) (a3 : Int) : Option (Int) := (fathomref3_digits.f a3).bind fun t198 => (if 0 ≤ (IntKind.u64.wrap (wrap64 (t198 - 1))) then (if (shr .u64 a1 (IntKind.u64.wrap (wrap64 (t198 - 1)))) > 1 then (fathomref3_laid.j0 k a0 (a1 / 2) (wrap64 (a2 + 1)) a3 (IntKind.u64.wrap (wrap64 (t198 - 1)))) else (fathomref3_laid.j0 k a0 a1 a2 a3 (IntKind.u64.wrap (wrap64 (t198 - 1))))) else (none))
theorem fathomref3_laid.mono_l : ∀ k, (∀ y0 y1 y2 y3 y4, LeO (fathomref3_laid.j0 k y0 y1 y2 y3 y4) (fathomref3_laid.j0 (k + 1) y0 y1 y2 y3 y4)) ∧ (∀ y0 y1 y2, LeO (fathomref3_laid.j1 k y0 y1 y2) (fathomref3_laid.j1 (k + 1) y0 y1 y2))
  | 0 => ⟨fun _ _ _ _ _ r h => by simp [fathomref3_laid.j0] at h, fun _ _ _ r h => by simp [fathomref3_laid.j1] at h⟩
  | k + 1 => by
    obtain ⟨ih0, ih1⟩ := fathomref3_laid.mono_l k
    refine ⟨?_, ?_⟩
    · intro y0 y1 y2 y3 y4
      unfold fathomref3_laid.j0
      repeat' first
      | (with_reducible exact ih0 _ _ _ _ _)
      | (with_reducible exact ih1 _ _ _)
      | (with_reducible exact LeO.refl _)
      | (with_reducible exact LeO.none _)
      | (with_reducible refine LeO.ite ?_ ?_)
      | (with_reducible refine LeO.bind ?_ (fun _ => ?_))
      | exact ih0 _ _ _ _ _
      | exact ih1 _ _ _
      | exact LeO.none _
      | refine LeO.ite ?_ ?_
      | refine LeO.bind ?_ (fun _ => ?_)
    · intro y0 y1 y2
      unfold fathomref3_laid.j1
      repeat' first
      | (with_reducible exact ih0 _ _ _ _ _)
      | (with_reducible exact ih1 _ _ _)
      | (with_reducible exact LeO.refl _)
      | (with_reducible exact LeO.none _)
      | (with_reducible refine LeO.ite ?_ ?_)
      | (with_reducible refine LeO.bind ?_ (fun _ => ?_))
      | exact ih0 _ _ _ _ _
      | exact ih1 _ _ _
      | exact LeO.none _
      | refine LeO.ite ?_ ?_
      | refine LeO.bind ?_ (fun _ => ?_)
theorem fathomref3_laid.mono : ∀ a0 a1 a2 a3 k, LeO (fathomref3_laid.f k a0 a1 a2 a3) (fathomref3_laid.f (k + 1) a0 a1 a2 a3) := by
  intro a0 a1 a2 a3 k
  obtain ⟨ih0, ih1⟩ := fathomref3_laid.mono_l k
  unfold fathomref3_laid.f
  repeat' first
      | (with_reducible exact ih0 _ _ _ _ _)
      | (with_reducible exact ih1 _ _ _)
      | (with_reducible exact LeO.refl _)
      | (with_reducible exact LeO.none _)
      | (with_reducible refine LeO.ite ?_ ?_)
      | (with_reducible refine LeO.bind ?_ (fun _ => ?_))
      | exact ih0 _ _ _ _ _
      | exact ih1 _ _ _
      | exact LeO.none _
      | refine LeO.ite ?_ ?_
      | refine LeO.bind ?_ (fun _ => ?_)
set_option maxHeartbeats 8000000 in
set_option maxRecDepth 100000 in
theorem fathomref3_laid.calls (k : Nat) (a0 : Bool) (a1 : Int) (a2 : Int) (a3 : Int) (r : Int) (w : World) (h : fathomref3_laid.f k a0 a1 a2 a3 = some r) :
    Calls Try.prog 150 #[.bool a0, .int .u64 a1, .int .i64 a2, .int .i64 a3] w fun e w' => e = .returned (.int .u64 r) ∧ Drawn0 w w' := by
  have H : ((fathomref3_digits.f a3).bind fun t198 => (if 0 ≤ (IntKind.u64.wrap (wrap64 (t198 - 1))) then (if (shr .u64 a1 (IntKind.u64.wrap (wrap64 (t198 - 1)))) > 1 then (fathomref3_laid.j0 k a0 (a1 / 2) (wrap64 (a2 + 1)) a3 (IntKind.u64.wrap (wrap64 (t198 - 1)))) else (fathomref3_laid.j0 k a0 a1 a2 a3 (IntKind.u64.wrap (wrap64 (t198 - 1))))) else (none))) = some r := h
  clear h
  replace H := Option.bind_eq_some_iff.mp H
  obtain ⟨t198, A50, H⟩ := H
  replace H : (if 0 ≤ (IntKind.u64.wrap (wrap64 (t198 - 1))) then (if (shr .u64 a1 (IntKind.u64.wrap (wrap64 (t198 - 1)))) > 1 then (fathomref3_laid.j0 k a0 (a1 / 2) (wrap64 (a2 + 1)) a3 (IntKind.u64.wrap (wrap64 (t198 - 1)))) else (fathomref3_laid.j0 k a0 a1 a2 a3 (IntKind.u64.wrap (wrap64 (t198 - 1))))) else (none)) = some r := H
  have A5 := Aside0.mk A50
  clear A50
  obtain ⟨ji6, hji6⟩ : ∃ j_ : Int, (IntKind.u64.wrap (wrap64 (t198 - 1))) = j_ := ⟨_, rfl⟩
  replace H : (if 0 ≤ (ji6) then (if (shr .u64 a1 (ji6)) > 1 then (fathomref3_laid.j0 k a0 (a1 / 2) (wrap64 (a2 + 1)) a3 ji6) else (fathomref3_laid.j0 k a0 a1 a2 a3 ji6)) else (none)) = some r := by first | (rw [hji6] at H; exact H) | (simp only [hji6] at H ⊢; exact H)
  (try rw [hji6] at A5)
  by_cases c7 : 0 ≤ (ji6)
  · rw [if_pos c7] at H
    have c7b0 := eq_true c7
    have c7b1 : decide (0 ≤ (ji6)) = true := decide_eq_true c7
    clear c7
    obtain ⟨ji8, hji8⟩ : ∃ j_ : Int, (shr .u64 a1 (ji6)) = j_ := ⟨_, rfl⟩
    replace H : (if (ji8) > 1 then (fathomref3_laid.j0 k a0 (a1 / 2) (wrap64 (a2 + 1)) a3 ji6) else (fathomref3_laid.j0 k a0 a1 a2 a3 ji6)) = some r := by first | (rw [hji8] at H; exact H) | (simp only [hji8] at H ⊢; exact H)
    (try rw [hji8] at A5)
    have hji8_ : (a1 / 2 ^ min (ji6).toNat 64) = ji8 := hji8
    have hji8z : (ji6) ≤ 64 → (a1 / 2 ^ (ji6).toNat) = ji8 := shr_small hji8
    have HC9 := Aside0.mk H
    clear H
    go_enter Try.func150, Try.ntmps150
    go_upto_if 18 with (first | ((with_reducible refine gate_callee (f := 116) rfl ?_); refine goesL_ (some 12) rfl rfl Try.func116 (by kernel_rfl) rfl #[.int .i64 a3] rfl (by (try simp only [List.map_toArray, List.map_cons, List.map_nil]); first | done | rfl | (simp only [List.length_drop, List.length_take]; rfl) | (simp only [gt_iff_lt, Int.natCast_pos]; rfl)) ?_; (with_reducible refine (fathomref3_digits.calls a3 t198 _ A5.out).mono ?_); rintro e w' ⟨rfl, ⟨nd, rfl⟩⟩; refine ⟨_, rfl, ?_⟩))
    (try simp only [Act.put, List.setIfInBounds_toArray, List.set_cons_zero, List.set_cons_succ])
    go_cut [1, 2] (fun v1 v2 wc => ∃ (kq : Nat) (x1_8 : Int) (x2_8 : Int), v1 = .int .u64 x1_8 ∧ v2 = .int .i64 x2_8 ∧ Aside0 (fathomref3_laid.j0 kq a0 x1_8 x2_8 a3 ji6 = some r) ∧ Aside0 (kq ≤ k) ∧ Drawn0 w wc)
    case first =>
      have H := HC9.out
      clear HC9
      by_cases c10 : (ji8) > 1
      · rw [if_pos c10] at H
        have c10b0 : decide (1 < (ji8)) = true := decide_eq_true c10
        clear c10
        (first | rw [c10b0] | (simp only [i64_w, i32_w]; rw [c10b0]) | skip)
        have H' := Aside0.mk H
        clear H
        go_wp2
        go_meet
        case rel => exact ⟨_, (a1 / 2), (wrap64 (a2 + 1)), (by first | rfl | (simp; done) | (simp [*]; done)), (by first | rfl | (simp; done) | (simp [*]; done)), H', ⟨by first | omega | exact Nat.le_refl _⟩, by repeat (first | exact Drawn0.refl _ | apply Drawn0.step)⟩
      · rw [if_neg c10] at H
        have c10b0 : decide (1 < (ji8)) = false := decide_eq_false c10
        clear c10
        (first | rw [c10b0] | (simp only [i64_w, i32_w]; rw [c10b0]) | skip)
        have H' := Aside0.mk H
        clear H
        go_wp2
        go_meet
        case rel => exact ⟨_, (a1), (a2), (by first | rfl | (simp; done) | (simp [*]; done)), (by first | rfl | (simp; done) | (simp [*]; done)), H', ⟨by first | omega | exact Nat.le_refl _⟩, by repeat (first | exact Drawn0.refl _ | apply Drawn0.step)⟩
    case rest =>
      clear HC9
      try clear c1
      try clear p2
      try clear p6
      try clear c7
      try clear c7b0
      try clear c7b1
      try clear c10
      try clear c10b0
      obtain ⟨kq, x1_8, x2_8, rfl, rfl, HA, HJ8, ⟨mc8, rfl⟩⟩ := hcut
      cases kq with
      | zero => exact absurd HA.out (by simp [fathomref3_laid.j0])
      | succ kj8 =>
        have H := HA.out
        clear HA
        simp only [fathomref3_laid.j0] at H
        by_cases c11 : 0 ≤ ji6
        · rw [if_pos c11] at H
          have c11b0 := eq_true c11
          have c11b1 : decide (0 ≤ ji6) = true := decide_eq_true c11
          clear c11
          obtain ⟨ji12, hji12⟩ : ∃ j_ : Int, (shr .u64 x1_8 ji6) = j_ := ⟨_, rfl⟩
          replace H : (if (ji12) = 1 then ((fathomref3_least.f a3).bind fun t199 => (fathomref3_laid.j1 kj8 a0 a3 (IntKind.u64.wrap ((shl .u64 (IntKind.u64.wrap (wrap64 (x2_8 - t199))) ji6) + x1_8)))) else (fathomref3_laid.j1 kj8 a0 a3 x1_8)) = some r := by first | (rw [hji12] at H; exact H) | (simp only [hji12] at H ⊢; exact H)
          have hji12_ : (x1_8 / 2 ^ min ji6.toNat 64) = ji12 := hji12
          have hji12z : ji6 ≤ 64 → (x1_8 / 2 ^ ji6.toNat) = ji12 := shr_small hji12
          have HC13 := Aside0.mk H
          clear H
          go_upto_if 27 with (fail)
          go_cut [10] (fun v10 wc => ∃ (kq : Nat) (x10_12 : Int), v10 = .int .u64 x10_12 ∧ Aside0 (fathomref3_laid.j1 kq a0 a3 x10_12 = some r) ∧ Aside0 (kq ≤ kj8) ∧ Drawn0 w wc)
          case first =>
            have H := HC13.out
            clear HC13
            by_cases c14 : (ji12) = 1
            · rw [if_pos c14] at H
              have c14b0 : ((ji12) == 1) = true := beq_iff_eq.mpr c14
              have c14b1 : ((ji12) != 1) = false := bne_eq_false_iff_eq.mpr c14
              clear c14
              (first | rw [c14b0] | (simp only [i64_w, i32_w]; rw [c14b0]) | skip)
              replace H := Option.bind_eq_some_iff.mp H
              obtain ⟨t199, A150, H⟩ := H
              replace H : (fathomref3_laid.j1 kj8 a0 a3 (IntKind.u64.wrap ((shl .u64 (IntKind.u64.wrap (wrap64 (x2_8 - t199))) ji6) + x1_8))) = some r := H
              have A15 := Aside0.mk A150
              clear A150
              have c16b0 := eq_true (of_decide_eq_true (by first | (with_reducible assumption) | assumption) : 0 ≤ ji6)
              obtain ⟨ji17, hji17⟩ : ∃ j_ : Int, (shl .u64 (IntKind.u64.wrap (wrap64 (x2_8 - t199))) ji6) = j_ := ⟨_, rfl⟩
              replace H : (fathomref3_laid.j1 kj8 a0 a3 (IntKind.u64.wrap ((ji17) + x1_8))) = some r := by first | (rw [hji17] at H; exact H) | (simp only [hji17] at H ⊢; exact H)
              (try rw [hji17] at A15)
              have hji17_ : (IntKind.u64.wrap ((IntKind.u64.wrap (wrap64 (x2_8 - t199))) * 2 ^ min ji6.toNat 64)) = ji17 := hji17
              have hji17z : ji6 ≤ 64 → (IntKind.u64.wrap ((IntKind.u64.wrap (wrap64 (x2_8 - t199))) * 2 ^ ji6.toNat)) = ji17 := shl_small hji17
              have H' := Aside0.mk H
              clear H
              go_wp2_with (first | ((with_reducible refine gate_callee (f := 146) rfl ?_); refine goesL_ (some 30) rfl rfl Try.func146 (by kernel_rfl) rfl #[.int .i64 a3] rfl (by (try simp only [List.map_toArray, List.map_cons, List.map_nil]); first | done | rfl | (simp only [List.length_drop, List.length_take]; rfl) | (simp only [gt_iff_lt, Int.natCast_pos]; rfl)) ?_; (with_reducible refine (fathomref3_least.calls a3 t199 _ A15.out).mono ?_); rintro e w' ⟨rfl, ⟨nd, rfl⟩⟩; refine ⟨_, rfl, ?_⟩))
              go_meet
              case rel => exact ⟨_, (IntKind.u64.wrap ((ji17) + x1_8)), (by first | rfl | (simp; done) | (simp only [← hji17] <;> (first | rfl | simp)) | (simp [*]; done)), H', ⟨by have := HJ8.out; first | omega | exact Nat.le_refl _⟩, by repeat (first | exact Drawn0.refl _ | apply Drawn0.step)⟩
            · rw [if_neg c14] at H
              have c14b0 : ((ji12) == 1) = false := beq_eq_false_iff_ne.mpr c14
              have c14b1 : ((ji12) != 1) = true := bne_iff_ne.mpr c14
              (first | rw [c14b0] | (simp only [i64_w, i32_w]; rw [c14b0]) | skip)
              have H' := Aside0.mk H
              clear H
              go_wp2
              go_meet
              case rel => exact ⟨_, (x1_8), (by first | rfl | (simp; done) | (simp [*]; done)), H', ⟨by have := HJ8.out; first | omega | exact Nat.le_refl _⟩, by repeat (first | exact Drawn0.refl _ | apply Drawn0.step)⟩
          case rest =>
            clear HC13
            try clear c1
            try clear p2
            try clear p6
            try clear c7
            try clear c7b0
            try clear c7b1
            try clear c8
            try clear c10
            try clear c10b0
            try clear c11
            try clear c11b0
            try clear c11b1
            try clear c14
            try clear c14b0
            try clear c14b1
            try clear c15
            try clear c16
            try clear c16b0
            try clear p2
            try clear p6
            obtain ⟨kq, x10_12, rfl, HA, HJ12, ⟨mc12, rfl⟩⟩ := hcut
            cases kq with
            | zero => exact absurd HA.out (by simp [fathomref3_laid.j1])
            | succ kj12 =>
              have H := HA.out
              clear HA
              simp only [fathomref3_laid.j1] at H
              replace H := Option.bind_eq_some_iff.mp H
              obtain ⟨t200, A180, H⟩ := H
              replace H : (if x10_12 ≥ t200 then ((fathomref3_Inf.f a3).bind fun t201 => ((fathomref3_signed.f a0 t201 a3).bind fun t202 => (some t202))) else ((fathomref3_signed.f a0 x10_12 a3).bind fun t203 => (some t203))) = some r := H
              have A18 := Aside0.mk A180
              clear A180
              by_cases c19 : x10_12 ≥ t200
              · rw [if_pos c19] at H
                have c19b0 : decide (t200 ≤ x10_12) = true := decide_eq_true c19
                clear c19
                replace H := Option.bind_eq_some_iff.mp H
                obtain ⟨t201, A200, H⟩ := H
                replace H : ((fathomref3_signed.f a0 t201 a3).bind fun t202 => (some t202)) = some r := H
                have A20 := Aside0.mk A200
                clear A200
                replace H := Option.bind_eq_some_iff.mp H
                obtain ⟨t202, A210, H⟩ := H
                replace H : (some t202) = some r := H
                have A21 := Aside0.mk A210
                clear A210
                obtain rfl := Option.some.inj H
                go_wp2_with (first | ((with_reducible refine gate_callee (f := 117) rfl ?_); refine goesL_ (some 39) rfl rfl Try.func117 (by kernel_rfl) rfl #[.int .i64 a3] rfl (by (try simp only [List.map_toArray, List.map_cons, List.map_nil]); first | done | rfl | (simp only [List.length_drop, List.length_take]; rfl) | (simp only [gt_iff_lt, Int.natCast_pos]; rfl)) ?_; (with_reducible refine (fathomref3_Inf.calls a3 t200 _ A18.out).mono ?_); rintro e w' ⟨rfl, ⟨nd, rfl⟩⟩; refine ⟨_, rfl, ?_⟩) | ((with_reducible refine gate_callee (f := 117) rfl ?_); refine goesL_ (some 42) rfl rfl Try.func117 (by kernel_rfl) rfl #[.int .i64 a3] rfl (by (try simp only [List.map_toArray, List.map_cons, List.map_nil]); first | done | rfl | (simp only [List.length_drop, List.length_take]; rfl) | (simp only [gt_iff_lt, Int.natCast_pos]; rfl)) ?_; (with_reducible refine (fathomref3_Inf.calls a3 t201 _ A20.out).mono ?_); rintro e w' ⟨rfl, ⟨nd, rfl⟩⟩; refine ⟨_, rfl, ?_⟩) | ((with_reducible refine gate_callee (f := 107) rfl ?_); refine goesL_ (some 46) rfl rfl Try.func107 (by kernel_rfl) rfl #[.bool a0, .int .u64 t201, .int .i64 a3] rfl (by (try simp only [List.map_toArray, List.map_cons, List.map_nil]); first | done | rfl | (simp only [List.length_drop, List.length_take]; rfl) | (simp only [gt_iff_lt, Int.natCast_pos]; rfl)) ?_; (with_reducible refine (fathomref3_signed.calls a0 t201 a3 t202 _ A21.out).mono ?_); rintro e w' ⟨rfl, ⟨nd, rfl⟩⟩; refine ⟨_, rfl, ?_⟩))
                go_ret
                exact ⟨by first | rfl | (simp; done) | (simp only [← hji6, ← hji8, ← hji12] <;> (first | rfl | simp)) | (simp [*]; done), by repeat (first | exact Drawn0.refl _ | apply Drawn0.step)⟩
              · rw [if_neg c19] at H
                have c19b0 : decide (t200 ≤ x10_12) = false := decide_eq_false c19
                clear c19
                replace H := Option.bind_eq_some_iff.mp H
                obtain ⟨t203, A220, H⟩ := H
                replace H : (some t203) = some r := H
                have A22 := Aside0.mk A220
                clear A220
                obtain rfl := Option.some.inj H
                go_wp2_with (first | ((with_reducible refine gate_callee (f := 117) rfl ?_); refine goesL_ (some 39) rfl rfl Try.func117 (by kernel_rfl) rfl #[.int .i64 a3] rfl (by (try simp only [List.map_toArray, List.map_cons, List.map_nil]); first | done | rfl | (simp only [List.length_drop, List.length_take]; rfl) | (simp only [gt_iff_lt, Int.natCast_pos]; rfl)) ?_; (with_reducible refine (fathomref3_Inf.calls a3 t200 _ A18.out).mono ?_); rintro e w' ⟨rfl, ⟨nd, rfl⟩⟩; refine ⟨_, rfl, ?_⟩) | ((with_reducible refine gate_callee (f := 107) rfl ?_); refine goesL_ (some 46) rfl rfl Try.func107 (by kernel_rfl) rfl #[.bool a0, .int .u64 x10_12, .int .i64 a3] rfl (by (try simp only [List.map_toArray, List.map_cons, List.map_nil]); first | done | rfl | (simp only [List.length_drop, List.length_take]; rfl) | (simp only [gt_iff_lt, Int.natCast_pos]; rfl)) ?_; (with_reducible refine (fathomref3_signed.calls a0 x10_12 a3 t203 _ A22.out).mono ?_); rintro e w' ⟨rfl, ⟨nd, rfl⟩⟩; refine ⟨_, rfl, ?_⟩))
                go_ret
                exact ⟨by first | rfl | (simp; done) | (simp only [← hji6, ← hji8, ← hji12] <;> (first | rfl | simp)) | (simp [*]; done), by repeat (first | exact Drawn0.refl _ | apply Drawn0.step)⟩
        · rw [if_neg c11] at H
          exact absurd H (by simp)
  · rw [if_neg c7] at H
    exact absurd H (by simp)

/-! ### fathomref3_rounded: function 138 -/
mutual
def fathomref3_rounded.j0 : Nat → Bool → List Int → Int → Bool → Int → Int → Option (Int)
  | 0, _, _, _, _, _, _ => none
  | k + 1, x0, x1, x2, x3, x4, x11 => if x11 > 2000 then ((fathomref3_Inf.f x4).bind fun t208 => ((fathomref3_signed.f x0 t208 x4).bind fun t209 => (some t209))) else (if x11 ≤ x2 then ((fathomref3_Up2.f k x1 (wrap64 (x2 - x11))).bind fun t210 => ((fathomref3_Low64.f t210).bind fun t213 => ((fathomref3_laid.f k x0 t213 x11 x4).bind fun t214 => (some t214)))) else ((fathomref3_Down2.f k x1 (wrap64 ((wrap64 (x11 - x2)) - 1))).bind fun bt215 => (if x3 = true then (fathomref3_rounded.j1 k x0 true x4 x11 bt215.1) else (fathomref3_rounded.j1 k x0 bt215.2 x4 x11 bt215.1))))
def fathomref3_rounded.j1 : Nat → Bool → Bool → Int → Int → List Int → Option (Int)
  | 0, _, _, _, _, _ => none
  | k + 1, x0, x3, x4, x11, x12 => (fathomref3_Low64.f x12).bind fun t219 => (if (Go.bits .and .u64 t219 1) = 1 then (if x3 = true then ((fathomref3_laid.f k x0 (IntKind.u64.wrap ((t219 / 2) + 1)) x11 x4).bind fun t220 => (some t220)) else (if (Go.bits .and .u64 (t219 / 2) 1) = 1 then ((fathomref3_laid.f k x0 (IntKind.u64.wrap ((t219 / 2) + 1)) x11 x4).bind fun t221 => (some t221)) else ((fathomref3_laid.f k x0 (t219 / 2) x11 x4).bind fun t222 => (some t222)))) else ((fathomref3_laid.f k x0 (t219 / 2) x11 x4).bind fun t223 => (some t223)))
end
def fathomref3_rounded.f (k : Nat) (a0 : Bool) (l1 : List Int) (a2 : Int) (a3 : Bool) (a4 : Int) : Option (Int) := (fathomref3_Len.f k l1).bind fun t204 => ((fathomref3_digits.f a4).bind fun t205 => ((fathomref3_least.f a4).bind fun t206 => (if (wrap64 ((wrap64 (t204 + a2)) - t205)) < t206 then ((fathomref3_least.f a4).bind fun t207 => (fathomref3_rounded.j0 k a0 l1 a2 a3 a4 t207)) else (fathomref3_rounded.j0 k a0 l1 a2 a3 a4 (wrap64 ((wrap64 (t204 + a2)) - t205))))))
theorem fathomref3_rounded.mono_l : ∀ k, (∀ y0 y1 y2 y3 y4 y5, LeO (fathomref3_rounded.j0 k y0 y1 y2 y3 y4 y5) (fathomref3_rounded.j0 (k + 1) y0 y1 y2 y3 y4 y5)) ∧ (∀ y0 y1 y2 y3 y4, LeO (fathomref3_rounded.j1 k y0 y1 y2 y3 y4) (fathomref3_rounded.j1 (k + 1) y0 y1 y2 y3 y4))
  | 0 => ⟨fun _ _ _ _ _ _ r h => by simp [fathomref3_rounded.j0] at h, fun _ _ _ _ _ r h => by simp [fathomref3_rounded.j1] at h⟩
  | k + 1 => by
    obtain ⟨ih0, ih1⟩ := fathomref3_rounded.mono_l k
    refine ⟨?_, ?_⟩
    · intro y0 y1 y2 y3 y4 y5
      unfold fathomref3_rounded.j0
      repeat' first
      | (with_reducible exact ih0 _ _ _ _ _ _)
      | (with_reducible exact ih1 _ _ _ _ _)
      | (with_reducible exact fathomref3_Down2.mono _ _ _)
      | (with_reducible exact fathomref3_Len.mono _ _)
      | (with_reducible exact fathomref3_Up2.mono _ _ _)
      | (with_reducible exact fathomref3_laid.mono _ _ _ _ _)
      | (with_reducible exact LeO.refl _)
      | (with_reducible exact LeO.none _)
      | (with_reducible refine LeO.ite ?_ ?_)
      | (with_reducible refine LeO.bind ?_ (fun _ => ?_))
      | exact ih0 _ _ _ _ _ _
      | exact ih1 _ _ _ _ _
      | exact fathomref3_Down2.mono _ _ _
      | exact fathomref3_Len.mono _ _
      | exact fathomref3_Up2.mono _ _ _
      | exact fathomref3_laid.mono _ _ _ _ _
      | exact LeO.none _
      | refine LeO.ite ?_ ?_
      | refine LeO.bind ?_ (fun _ => ?_)
    · intro y0 y1 y2 y3 y4
      unfold fathomref3_rounded.j1
      repeat' first
      | (with_reducible exact ih0 _ _ _ _ _ _)
      | (with_reducible exact ih1 _ _ _ _ _)
      | (with_reducible exact fathomref3_Down2.mono _ _ _)
      | (with_reducible exact fathomref3_Len.mono _ _)
      | (with_reducible exact fathomref3_Up2.mono _ _ _)
      | (with_reducible exact fathomref3_laid.mono _ _ _ _ _)
      | (with_reducible exact LeO.refl _)
      | (with_reducible exact LeO.none _)
      | (with_reducible refine LeO.ite ?_ ?_)
      | (with_reducible refine LeO.bind ?_ (fun _ => ?_))
      | exact ih0 _ _ _ _ _ _
      | exact ih1 _ _ _ _ _
      | exact fathomref3_Down2.mono _ _ _
      | exact fathomref3_Len.mono _ _
      | exact fathomref3_Up2.mono _ _ _
      | exact fathomref3_laid.mono _ _ _ _ _
      | exact LeO.none _
      | refine LeO.ite ?_ ?_
      | refine LeO.bind ?_ (fun _ => ?_)
theorem fathomref3_rounded.mono : ∀ a0 a1 a2 a3 a4 k, LeO (fathomref3_rounded.f k a0 a1 a2 a3 a4) (fathomref3_rounded.f (k + 1) a0 a1 a2 a3 a4) := by
  intro a0 a1 a2 a3 a4 k
  obtain ⟨ih0, ih1⟩ := fathomref3_rounded.mono_l k
  unfold fathomref3_rounded.f
  repeat' first
      | (with_reducible exact ih0 _ _ _ _ _ _)
      | (with_reducible exact ih1 _ _ _ _ _)
      | (with_reducible exact fathomref3_Down2.mono _ _ _)
      | (with_reducible exact fathomref3_Len.mono _ _)
      | (with_reducible exact fathomref3_Up2.mono _ _ _)
      | (with_reducible exact fathomref3_laid.mono _ _ _ _ _)
      | (with_reducible exact LeO.refl _)
      | (with_reducible exact LeO.none _)
      | (with_reducible refine LeO.ite ?_ ?_)
      | (with_reducible refine LeO.bind ?_ (fun _ => ?_))
      | exact ih0 _ _ _ _ _ _
      | exact ih1 _ _ _ _ _
      | exact fathomref3_Down2.mono _ _ _
      | exact fathomref3_Len.mono _ _
      | exact fathomref3_Up2.mono _ _ _
      | exact fathomref3_laid.mono _ _ _ _ _
      | exact LeO.none _
      | refine LeO.ite ?_ ?_
      | refine LeO.bind ?_ (fun _ => ?_)
set_option maxHeartbeats 8000000 in
set_option maxRecDepth 100000 in
theorem fathomref3_rounded.calls (k : Nat) (a0 : Bool) (A1 : Option Addr) (c1 : Nat) (l1 : List Int) (a2 : Int) (a3 : Bool) (a4 : Int) (r : Int) (w : World) (hr1 : Kd.C (Kd.int .u32) w A1 l1.length l1) (hc1 : l1.length ≤ c1) (h : fathomref3_rounded.f k a0 l1 a2 a3 a4 = some r) :
    Calls Try.prog 138 #[.bool a0, .slice A1 l1.length c1, .int .i64 a2, .bool a3, .int .i64 a4] w fun e w' => e = .returned (.int .u64 r) ∧ Below w.heap.size w w' := by
  have HR1 := Aside0.mk hr1
  have HC1 := Aside0.mk hc1
  clear hr1 hc1
  have HB := Aside0.mk (Below.refl w.heap.size w)
  have H : ((fathomref3_Len.f k l1).bind fun t204 => ((fathomref3_digits.f a4).bind fun t205 => ((fathomref3_least.f a4).bind fun t206 => (if (wrap64 ((wrap64 (t204 + a2)) - t205)) < t206 then ((fathomref3_least.f a4).bind fun t207 => (fathomref3_rounded.j0 k a0 l1 a2 a3 a4 t207)) else (fathomref3_rounded.j0 k a0 l1 a2 a3 a4 (wrap64 ((wrap64 (t204 + a2)) - t205))))))) = some r := h
  clear h
  replace H := Option.bind_eq_some_iff.mp H
  obtain ⟨t204, A60, H⟩ := H
  replace H : ((fathomref3_digits.f a4).bind fun t205 => ((fathomref3_least.f a4).bind fun t206 => (if (wrap64 ((wrap64 (t204 + a2)) - t205)) < t206 then ((fathomref3_least.f a4).bind fun t207 => (fathomref3_rounded.j0 k a0 l1 a2 a3 a4 t207)) else (fathomref3_rounded.j0 k a0 l1 a2 a3 a4 (wrap64 ((wrap64 (t204 + a2)) - t205)))))) = some r := H
  have A6 := Aside0.mk A60
  clear A60
  replace H := Option.bind_eq_some_iff.mp H
  obtain ⟨t205, A70, H⟩ := H
  replace H : ((fathomref3_least.f a4).bind fun t206 => (if (wrap64 ((wrap64 (t204 + a2)) - t205)) < t206 then ((fathomref3_least.f a4).bind fun t207 => (fathomref3_rounded.j0 k a0 l1 a2 a3 a4 t207)) else (fathomref3_rounded.j0 k a0 l1 a2 a3 a4 (wrap64 ((wrap64 (t204 + a2)) - t205))))) = some r := H
  have A7 := Aside0.mk A70
  clear A70
  replace H := Option.bind_eq_some_iff.mp H
  obtain ⟨t206, A80, H⟩ := H
  replace H : (if (wrap64 ((wrap64 (t204 + a2)) - t205)) < t206 then ((fathomref3_least.f a4).bind fun t207 => (fathomref3_rounded.j0 k a0 l1 a2 a3 a4 t207)) else (fathomref3_rounded.j0 k a0 l1 a2 a3 a4 (wrap64 ((wrap64 (t204 + a2)) - t205)))) = some r := H
  have A8 := Aside0.mk A80
  clear A80
  have HC9 := Aside0.mk H
  clear H
  go_enter Try.func138, Try.ntmps138
  go_upto_if 26 with (first | ((with_reducible refine gate_callee (f := 136) rfl ?_); refine goesL_ (some 17) rfl rfl Try.func136 (by kernel_rfl) rfl #[.slice A1 l1.length c1] rfl (by (try simp only [List.map_toArray, List.map_cons, List.map_nil]); first | done | rfl | (simp only [List.length_drop, List.length_take]; rfl) | (simp only [gt_iff_lt, Int.natCast_pos]; rfl)) ?_; (with_reducible refine (fathomref3_Len.calls k _ _ l1 t204 _ ?side1 ?side2 A6.out).mono ?_); (case side1 => repeat (first | exact HR1.out | (with_reducible refine Kd.C_alloc ?_ _) | (with_reducible refine Kd.C_drewN ?_ _) | (with_reducible refine Kd.C_drew ?_))); (case side2 => exact HC1.out); rintro e w' ⟨rfl, ⟨nd, rfl⟩⟩; refine ⟨_, rfl, ?_⟩) | ((with_reducible refine gate_callee (f := 116) rfl ?_); refine goesL_ (some 21) rfl rfl Try.func116 (by kernel_rfl) rfl #[.int .i64 a4] rfl (by (try simp only [List.map_toArray, List.map_cons, List.map_nil]); first | done | rfl | (simp only [List.length_drop, List.length_take]; rfl) | (simp only [gt_iff_lt, Int.natCast_pos]; rfl)) ?_; (with_reducible refine (fathomref3_digits.calls a4 t205 _ A7.out).mono ?_); rintro e w' ⟨rfl, ⟨nd, rfl⟩⟩; refine ⟨_, rfl, ?_⟩) | ((with_reducible refine gate_callee (f := 146) rfl ?_); refine goesL_ (some 25) rfl rfl Try.func146 (by kernel_rfl) rfl #[.int .i64 a4] rfl (by (try simp only [List.map_toArray, List.map_cons, List.map_nil]); first | done | rfl | (simp only [List.length_drop, List.length_take]; rfl) | (simp only [gt_iff_lt, Int.natCast_pos]; rfl)) ?_; (with_reducible refine (fathomref3_least.calls a4 t206 _ A8.out).mono ?_); rintro e w' ⟨rfl, ⟨nd, rfl⟩⟩; refine ⟨_, rfl, ?_⟩))
  (try simp only [Act.put, List.setIfInBounds_toArray, List.set_cons_zero, List.set_cons_succ])
  go_cut [11] (fun v11 wc => ∃ (kq : Nat) (x11_8 : Int), v11 = .int .i64 x11_8 ∧ Aside0 (fathomref3_rounded.j0 kq a0 l1 a2 a3 a4 x11_8 = some r) ∧ Aside0 (kq ≤ k) ∧ Aside0 (Below w.heap.size w wc))
  case first =>
    have H := HC9.out
    clear HC9
    by_cases c10 : (wrap64 ((wrap64 (t204 + a2)) - t205)) < t206
    · rw [if_pos c10] at H
      have c10b0 : decide ((wrap64 ((wrap64 (t204 + a2)) - t205)) < t206) = true := decide_eq_true c10
      clear c10
      (first | rw [c10b0] | (simp only [i64_w, i32_w]; rw [c10b0]) | skip)
      replace H := Option.bind_eq_some_iff.mp H
      obtain ⟨t207, A110, H⟩ := H
      replace H : (fathomref3_rounded.j0 k a0 l1 a2 a3 a4 t207) = some r := H
      have A11 := Aside0.mk A110
      clear A110
      have H' := Aside0.mk H
      clear H
      go_wp2_with (first | ((with_reducible refine gate_callee (f := 146) rfl ?_); refine goesL_ (some 28) rfl rfl Try.func146 (by kernel_rfl) rfl #[.int .i64 a4] rfl (by (try simp only [List.map_toArray, List.map_cons, List.map_nil]); first | done | rfl | (simp only [List.length_drop, List.length_take]; rfl) | (simp only [gt_iff_lt, Int.natCast_pos]; rfl)) ?_; (with_reducible refine (fathomref3_least.calls a4 t207 _ A11.out).mono ?_); rintro e w' ⟨rfl, ⟨nd, rfl⟩⟩; refine ⟨_, rfl, ?_⟩))
      go_meet
      case rel => exact ⟨_, (t207), (by first | rfl | (simp; done) | (simp [*]; done)), H', ⟨by first | omega | exact Nat.le_refl _⟩, ⟨by repeat (first | (with_reducible first | exact HB.out | apply below_alloc | apply pw_below_drewN | apply below_drew1) | exact HB.out)⟩⟩
    · rw [if_neg c10] at H
      have c10b0 : decide ((wrap64 ((wrap64 (t204 + a2)) - t205)) < t206) = false := decide_eq_false c10
      clear c10
      (first | rw [c10b0] | (simp only [i64_w, i32_w]; rw [c10b0]) | skip)
      have H' := Aside0.mk H
      clear H
      go_wp2
      go_meet
      case rel => exact ⟨_, (wrap64 ((wrap64 (t204 + a2)) - t205)), (by first | rfl | (simp; done) | (simp [*]; done)), H', ⟨by first | omega | exact Nat.le_refl _⟩, ⟨by repeat (first | (with_reducible first | exact HB.out | apply below_alloc | apply pw_below_drewN | apply below_drew1) | exact HB.out)⟩⟩
  case rest =>
    clear HC9
    try clear c1
    try clear p2
    try clear p6
    try clear c10
    try clear c10b0
    try clear c11
    obtain ⟨kq, x11_8, rfl, HA, HJ8, HB⟩ := hcut
    cases kq with
    | zero => exact absurd HA.out (by simp [fathomref3_rounded.j0])
    | succ kj8 =>
      have H := HA.out
      clear HA
      simp only [fathomref3_rounded.j0] at H
      by_cases c12 : x11_8 > 2000
      · rw [if_pos c12] at H
        have c12b0 : decide (2000 < x11_8) = true := decide_eq_true c12
        clear c12
        replace H := Option.bind_eq_some_iff.mp H
        obtain ⟨t208, A130, H⟩ := H
        replace H : ((fathomref3_signed.f a0 t208 a4).bind fun t209 => (some t209)) = some r := H
        have A13 := Aside0.mk A130
        clear A130
        replace H := Option.bind_eq_some_iff.mp H
        obtain ⟨t209, A140, H⟩ := H
        replace H : (some t209) = some r := H
        have A14 := Aside0.mk A140
        clear A140
        obtain rfl := Option.some.inj H
        go_wp2_with (first | ((with_reducible refine gate_callee (f := 117) rfl ?_); refine goesL_ (some 33) rfl rfl Try.func117 (by kernel_rfl) rfl #[.int .i64 a4] rfl (by (try simp only [List.map_toArray, List.map_cons, List.map_nil]); first | done | rfl | (simp only [List.length_drop, List.length_take]; rfl) | (simp only [gt_iff_lt, Int.natCast_pos]; rfl)) ?_; (with_reducible refine (fathomref3_Inf.calls a4 t208 _ A13.out).mono ?_); rintro e w' ⟨rfl, ⟨nd, rfl⟩⟩; refine ⟨_, rfl, ?_⟩) | ((with_reducible refine gate_callee (f := 107) rfl ?_); refine goesL_ (some 35) rfl rfl Try.func107 (by kernel_rfl) rfl #[.bool a0, .int .u64 t208, .int .i64 a4] rfl (by (try simp only [List.map_toArray, List.map_cons, List.map_nil]); first | done | rfl | (simp only [List.length_drop, List.length_take]; rfl) | (simp only [gt_iff_lt, Int.natCast_pos]; rfl)) ?_; (with_reducible refine (fathomref3_signed.calls a0 t208 a4 t209 _ A14.out).mono ?_); rintro e w' ⟨rfl, ⟨nd, rfl⟩⟩; refine ⟨_, rfl, ?_⟩))
        go_ret
        exact ⟨by first | rfl | (simp [errW_none, errW_some] <;> rfl) | (simp [*, errW_none, errW_some] <;> rfl), by repeat (first | (with_reducible first | exact HB.out | apply below_alloc | apply pw_below_drewN | apply below_drew1) | exact HB.out)⟩
      · rw [if_neg c12] at H
        have c12b0 : decide (2000 < x11_8) = false := decide_eq_false c12
        clear c12
        by_cases c15 : x11_8 ≤ a2
        · rw [if_pos c15] at H
          have c15b0 : decide (x11_8 ≤ a2) = true := decide_eq_true c15
          clear c15
          replace H := Option.bind_eq_some_iff.mp H
          obtain ⟨t210, A160, H⟩ := H
          replace H : ((fathomref3_Low64.f t210).bind fun t213 => ((fathomref3_laid.f kj8 a0 t213 x11_8 a4).bind fun t214 => (some t214))) = some r := H
          have A16 := Aside0.mk A160
          clear A160
          replace H := Option.bind_eq_some_iff.mp H
          obtain ⟨t213, A170, H⟩ := H
          replace H : ((fathomref3_laid.f kj8 a0 t213 x11_8 a4).bind fun t214 => (some t214)) = some r := H
          have A17 := Aside0.mk A170
          clear A170
          replace H := Option.bind_eq_some_iff.mp H
          obtain ⟨t214, A180, H⟩ := H
          replace H : (some t214) = some r := H
          have A18 := Aside0.mk A180
          clear A180
          obtain rfl := Option.some.inj H
          go_wp2_with (first | ((with_reducible refine gate_callee (f := 19) rfl ?_); refine goesL_ (some 43) rfl rfl Try.func19 (by kernel_rfl) rfl #[.slice A1 l1.length c1, .int .i64 (wrap64 (a2 - x11_8))] rfl (by (try simp only [List.map_toArray, List.map_cons, List.map_nil]); first | done | rfl | (simp only [List.length_drop, List.length_take]; rfl) | (simp only [gt_iff_lt, Int.natCast_pos]; rfl)) ?_; (with_reducible refine (fathomref3_Up2.calls kj8 _ _ l1 (wrap64 (a2 - x11_8)) t210 _ ?side1 ?side2 A16.out).mono ?_); (case side1 => repeat (first | exact (Kd.C_below HR1.out HB.out) | (with_reducible refine Kd.C_alloc ?_ _) | (with_reducible refine Kd.C_drewN ?_ _) | (with_reducible refine Kd.C_drew ?_))); (case side2 => exact HC1.out); rintro e w19 ⟨v211, rfl, ho0, hb⟩; refine ⟨_, rfl, ?_⟩; have n0_ := Aside0.mk (Kd.R_lower ho0 (below_size (by repeat (first | (with_reducible first | exact HB.out | apply below_alloc | apply pw_below_drewN | apply below_drew1) | exact HB.out)))); have n1_ := Aside0.mk (below_step (by repeat (first | (with_reducible first | exact HB.out | apply below_alloc | apply pw_below_drewN | apply below_drew1) | exact HB.out)) hb); clear HB; have HO212 := n0_; have HB := n1_; clear n0_ n1_; (try clear hb); (try clear hb2); (try clear hk); (try clear hi); (try clear ho0); obtain ⟨Ao20, co20, eo20⟩ := Kd.R_slice HO212.out; subst eo20) | ((with_reducible refine gate_callee (f := 99) rfl ?_); refine goesL_ (some 46) rfl rfl Try.func99 (by kernel_rfl) rfl #[.slice Ao20 t210.length co20] rfl (by (try simp only [List.map_toArray, List.map_cons, List.map_nil]); first | done | rfl | (simp only [List.length_drop, List.length_take]; rfl) | (simp only [gt_iff_lt, Int.natCast_pos]; rfl)) ?_; (with_reducible refine (fathomref3_Low64.calls _ _ t210 t213 _ ?side1 ?side2 A17.out).mono ?_); (case side1 => repeat (first | exact (Kd.R_reads' HO212.out).2.2 | (with_reducible refine Kd.C_alloc ?_ _) | (with_reducible refine Kd.C_drewN ?_ _) | (with_reducible refine Kd.C_drew ?_))); (case side2 => exact (Kd.R_reads' HO212.out).2.1); rintro e w' ⟨rfl, ⟨nd, rfl⟩⟩; refine ⟨_, rfl, ?_⟩) | ((with_reducible refine gate_callee (f := 150) rfl ?_); refine goesL_ (some 49) rfl rfl Try.func150 (by kernel_rfl) rfl #[.bool a0, .int .u64 t213, .int .i64 x11_8, .int .i64 a4] rfl (by (try simp only [List.map_toArray, List.map_cons, List.map_nil]); first | done | rfl | (simp only [List.length_drop, List.length_take]; rfl) | (simp only [gt_iff_lt, Int.natCast_pos]; rfl)) ?_; (with_reducible refine (fathomref3_laid.calls kj8 a0 t213 x11_8 a4 t214 _ A18.out).mono ?_); rintro e w' ⟨rfl, ⟨nd, rfl⟩⟩; refine ⟨_, rfl, ?_⟩))
          go_ret
          exact ⟨by first | rfl | (simp [errW_none, errW_some] <;> rfl) | (simp [*, errW_none, errW_some] <;> rfl), by repeat (first | (with_reducible first | exact HB.out | apply below_alloc | apply pw_below_drewN | apply below_drew1) | exact HB.out)⟩
        · rw [if_neg c15] at H
          have c15b0 : decide (x11_8 ≤ a2) = false := decide_eq_false c15
          clear c15
          replace H := Option.bind_eq_some_iff.mp H
          obtain ⟨⟨t215, t216⟩, A210, H⟩ := H
          replace H : (if a3 = true then (fathomref3_rounded.j1 kj8 a0 true a4 x11_8 t215) else (fathomref3_rounded.j1 kj8 a0 t216 a4 x11_8 t215)) = some r := H
          have A21 := Aside0.mk A210
          clear A210
          have HC22 := Aside0.mk H
          clear H
          go_upto_region 10 with (first | ((with_reducible refine gate_callee (f := 139) rfl ?_); refine goesL_ (some 56) rfl rfl Try.func139 (by kernel_rfl) rfl #[.slice A1 l1.length c1, .int .i64 (wrap64 ((wrap64 (x11_8 - a2)) - 1))] rfl (by (try simp only [List.map_toArray, List.map_cons, List.map_nil]); first | done | rfl | (simp only [List.length_drop, List.length_take]; rfl) | (simp only [gt_iff_lt, Int.natCast_pos]; rfl)) ?_; (with_reducible refine (fathomref3_Down2.calls kj8 _ _ l1 (wrap64 ((wrap64 (x11_8 - a2)) - 1)) t215 t216 _ ?side1 ?side2 A21.out).mono ?_); (case side1 => repeat (first | exact (Kd.C_below HR1.out HB.out) | (with_reducible refine Kd.C_alloc ?_ _) | (with_reducible refine Kd.C_drewN ?_ _) | (with_reducible refine Kd.C_drew ?_))); (case side2 => exact HC1.out); rintro e w23 ⟨v217, rfl, ho0, hb⟩; refine ⟨_, rfl, ?_⟩; have n0_ := Aside0.mk (Kd.R_lower ho0 (below_size (by repeat (first | (with_reducible first | exact HB.out | apply below_alloc | apply pw_below_drewN | apply below_drew1) | exact HB.out)))); have n1_ := Aside0.mk (below_step (by repeat (first | (with_reducible first | exact HB.out | apply below_alloc | apply pw_below_drewN | apply below_drew1) | exact HB.out)) hb); clear HB; have HO218 := n0_; have HB := n1_; clear n0_ n1_; (try clear hb); (try clear hb2); (try clear hk); (try clear hi); (try clear ho0)))
          (try simp only [Act.put, List.setIfInBounds_toArray, List.set_cons_zero, List.set_cons_succ])
          go_cut [3] (fun v3 wc => ∃ (kq : Nat) (x3_21 : Bool), v3 = .bool x3_21 ∧ Aside0 (fathomref3_rounded.j1 kq a0 x3_21 a4 x11_8 t215 = some r) ∧ Aside0 (kq ≤ kj8) ∧ Aside0 (Kd.R (Kd.int .u32) 25 wc w.heap.size (fun _ => True) v217 t215) ∧ Aside0 (Below w.heap.size w wc))
          case first =>
            have H := HC22.out
            clear HC22
            by_cases c24 : a3 = true
            · subst c24
              have H1 : (fathomref3_rounded.j1 kj8 a0 true a4 x11_8 t215) = some r := by rw [if_pos rfl] at H; exact H
              clear H
              have H := H1
              clear H1
              have H' := Aside0.mk H
              clear H
              go_wp2
              go_meet
              case rel => exact ⟨_, (true), (by first | rfl | (simp; done) | (simp [*]; done)), H', ⟨by have := HJ8.out; first | omega | exact Nat.le_refl _⟩, ⟨by (with_reducible repeat (first | apply Kd.R_alloc | apply Kd.R_drewN | apply Kd.R_drew)); exact HO218.out⟩, ⟨by repeat (first | (with_reducible first | exact HB.out | apply below_alloc | apply pw_below_drewN | apply below_drew1) | exact HB.out)⟩⟩
            · replace c24 := Bool.eq_false_iff.mpr c24
              subst c24
              have H1 : (fathomref3_rounded.j1 kj8 a0 t216 a4 x11_8 t215) = some r := by rw [if_neg (show ¬ (false = true) by decide)] at H; exact H
              clear H
              have H := H1
              clear H1
              have H' := Aside0.mk H
              clear H
              go_wp2
              go_meet
              case rel => exact ⟨_, (t216), (by first | rfl | (simp; done) | (simp [*]; done)), H', ⟨by have := HJ8.out; first | omega | exact Nat.le_refl _⟩, ⟨by (with_reducible repeat (first | apply Kd.R_alloc | apply Kd.R_drewN | apply Kd.R_drew)); exact HO218.out⟩, ⟨by repeat (first | (with_reducible first | exact HB.out | apply below_alloc | apply pw_below_drewN | apply below_drew1) | exact HB.out)⟩⟩
          case rest =>
            clear HC22
            try clear c1
            try clear c2
            try clear p2
            try clear p6
            try clear c9
            try clear c10
            try clear c10b0
            try clear c11
            try clear c12
            try clear c12b0
            try clear c13
            try clear c14
            try clear c15
            try clear c15b0
            try clear c19
            try clear c24
            try clear p2
            try clear p6
            obtain ⟨kq, x3_21, rfl, HA, HJ21, HO_12, HB⟩ := hcut
            cases kq with
            | zero => exact absurd HA.out (by simp [fathomref3_rounded.j1])
            | succ kj21 =>
              have H := HA.out
              clear HA
              simp only [fathomref3_rounded.j1] at H
              replace H := Option.bind_eq_some_iff.mp H
              obtain ⟨t219, A250, H⟩ := H
              replace H : (if (Go.bits .and .u64 t219 1) = 1 then (if x3_21 = true then ((fathomref3_laid.f kj21 a0 (IntKind.u64.wrap ((t219 / 2) + 1)) x11_8 a4).bind fun t220 => (some t220)) else (if (Go.bits .and .u64 (t219 / 2) 1) = 1 then ((fathomref3_laid.f kj21 a0 (IntKind.u64.wrap ((t219 / 2) + 1)) x11_8 a4).bind fun t221 => (some t221)) else ((fathomref3_laid.f kj21 a0 (t219 / 2) x11_8 a4).bind fun t222 => (some t222)))) else ((fathomref3_laid.f kj21 a0 (t219 / 2) x11_8 a4).bind fun t223 => (some t223))) = some r := H
              have A25 := Aside0.mk A250
              clear A250
              by_cases c26 : (Go.bits .and .u64 t219 1) = 1
              · rw [if_pos c26] at H
                have c26b0 : ((Go.bits .and .u64 t219 1) == 1) = true := beq_iff_eq.mpr c26
                have c26b1 : ((Go.bits .and .u64 t219 1) != 1) = false := bne_eq_false_iff_eq.mpr c26
                clear c26
                by_cases c27 : x3_21 = true
                · subst c27
                  have H1 : ((fathomref3_laid.f kj21 a0 (IntKind.u64.wrap ((t219 / 2) + 1)) x11_8 a4).bind fun t220 => (some t220)) = some r := by rw [if_pos rfl] at H; exact H
                  clear H
                  have H := H1
                  clear H1
                  replace H := Option.bind_eq_some_iff.mp H
                  obtain ⟨t220, A280, H⟩ := H
                  replace H : (some t220) = some r := H
                  have A28 := Aside0.mk A280
                  clear A280
                  obtain rfl := Option.some.inj H
                  obtain ⟨Ao29, co29, eo29⟩ := Kd.R_slice HO_12.out
                  subst eo29
                  go_wp2_with (first | ((with_reducible refine gate_callee (f := 99) rfl ?_); refine goesL_ (some 64) rfl rfl Try.func99 (by kernel_rfl) rfl #[.slice Ao29 t215.length co29] rfl (by (try simp only [List.map_toArray, List.map_cons, List.map_nil]); first | done | rfl | (simp only [List.length_drop, List.length_take]; rfl) | (simp only [gt_iff_lt, Int.natCast_pos]; rfl)) ?_; (with_reducible refine (fathomref3_Low64.calls _ _ t215 t219 _ ?side1 ?side2 A25.out).mono ?_); (case side1 => repeat (first | exact (Kd.R_reads' HO_12.out).2.2 | (with_reducible refine Kd.C_alloc ?_ _) | (with_reducible refine Kd.C_drewN ?_ _) | (with_reducible refine Kd.C_drew ?_))); (case side2 => exact (Kd.R_reads' HO_12.out).2.1); rintro e w' ⟨rfl, ⟨nd, rfl⟩⟩; refine ⟨_, rfl, ?_⟩) | ((with_reducible refine gate_callee (f := 150) rfl ?_); refine goesL_ (some 85) rfl rfl Try.func150 (by kernel_rfl) rfl #[.bool a0, .int .u64 (IntKind.u64.wrap ((t219 / 2) + 1)), .int .i64 x11_8, .int .i64 a4] rfl (by (try simp only [List.map_toArray, List.map_cons, List.map_nil]); first | done | rfl | (simp only [List.length_drop, List.length_take]; rfl) | (simp only [gt_iff_lt, Int.natCast_pos]; rfl)) ?_; (with_reducible refine (fathomref3_laid.calls kj21 a0 (IntKind.u64.wrap ((t219 / 2) + 1)) x11_8 a4 t220 _ A28.out).mono ?_); rintro e w' ⟨rfl, ⟨nd, rfl⟩⟩; refine ⟨_, rfl, ?_⟩))
                  go_ret
                  exact ⟨by first | rfl | (simp [errW_none, errW_some] <;> rfl) | (simp [*, errW_none, errW_some] <;> rfl), by repeat (first | (with_reducible first | exact HB.out | apply below_alloc | apply pw_below_drewN | apply below_drew1) | exact HB.out)⟩
                · replace c27 := Bool.eq_false_iff.mpr c27
                  subst c27
                  have H1 : (if (Go.bits .and .u64 (t219 / 2) 1) = 1 then ((fathomref3_laid.f kj21 a0 (IntKind.u64.wrap ((t219 / 2) + 1)) x11_8 a4).bind fun t221 => (some t221)) else ((fathomref3_laid.f kj21 a0 (t219 / 2) x11_8 a4).bind fun t222 => (some t222))) = some r := by rw [if_neg (show ¬ (false = true) by decide)] at H; exact H
                  clear H
                  have H := H1
                  clear H1
                  by_cases c30 : (Go.bits .and .u64 (t219 / 2) 1) = 1
                  · rw [if_pos c30] at H
                    have c30b0 : ((Go.bits .and .u64 (t219 / 2) 1) == 1) = true := beq_iff_eq.mpr c30
                    have c30b1 : ((Go.bits .and .u64 (t219 / 2) 1) != 1) = false := bne_eq_false_iff_eq.mpr c30
                    clear c30
                    replace H := Option.bind_eq_some_iff.mp H
                    obtain ⟨t221, A310, H⟩ := H
                    replace H : (some t221) = some r := H
                    have A31 := Aside0.mk A310
                    clear A310
                    obtain rfl := Option.some.inj H
                    obtain ⟨Ao32, co32, eo32⟩ := Kd.R_slice HO_12.out
                    subst eo32
                    go_wp2_with (first | ((with_reducible refine gate_callee (f := 99) rfl ?_); refine goesL_ (some 64) rfl rfl Try.func99 (by kernel_rfl) rfl #[.slice Ao32 t215.length co32] rfl (by (try simp only [List.map_toArray, List.map_cons, List.map_nil]); first | done | rfl | (simp only [List.length_drop, List.length_take]; rfl) | (simp only [gt_iff_lt, Int.natCast_pos]; rfl)) ?_; (with_reducible refine (fathomref3_Low64.calls _ _ t215 t219 _ ?side1 ?side2 A25.out).mono ?_); (case side1 => repeat (first | exact (Kd.R_reads' HO_12.out).2.2 | (with_reducible refine Kd.C_alloc ?_ _) | (with_reducible refine Kd.C_drewN ?_ _) | (with_reducible refine Kd.C_drew ?_))); (case side2 => exact (Kd.R_reads' HO_12.out).2.1); rintro e w' ⟨rfl, ⟨nd, rfl⟩⟩; refine ⟨_, rfl, ?_⟩) | ((with_reducible refine gate_callee (f := 150) rfl ?_); refine goesL_ (some 85) rfl rfl Try.func150 (by kernel_rfl) rfl #[.bool a0, .int .u64 (IntKind.u64.wrap ((t219 / 2) + 1)), .int .i64 x11_8, .int .i64 a4] rfl (by (try simp only [List.map_toArray, List.map_cons, List.map_nil]); first | done | rfl | (simp only [List.length_drop, List.length_take]; rfl) | (simp only [gt_iff_lt, Int.natCast_pos]; rfl)) ?_; (with_reducible refine (fathomref3_laid.calls kj21 a0 (IntKind.u64.wrap ((t219 / 2) + 1)) x11_8 a4 t221 _ A31.out).mono ?_); rintro e w' ⟨rfl, ⟨nd, rfl⟩⟩; refine ⟨_, rfl, ?_⟩))
                    go_ret
                    exact ⟨by first | rfl | (simp [errW_none, errW_some] <;> rfl) | (simp [*, errW_none, errW_some] <;> rfl), by repeat (first | (with_reducible first | exact HB.out | apply below_alloc | apply pw_below_drewN | apply below_drew1) | exact HB.out)⟩
                  · rw [if_neg c30] at H
                    have c30b0 : ((Go.bits .and .u64 (t219 / 2) 1) == 1) = false := beq_eq_false_iff_ne.mpr c30
                    have c30b1 : ((Go.bits .and .u64 (t219 / 2) 1) != 1) = true := bne_iff_ne.mpr c30
                    replace H := Option.bind_eq_some_iff.mp H
                    obtain ⟨t222, A330, H⟩ := H
                    replace H : (some t222) = some r := H
                    have A33 := Aside0.mk A330
                    clear A330
                    obtain rfl := Option.some.inj H
                    obtain ⟨Ao34, co34, eo34⟩ := Kd.R_slice HO_12.out
                    subst eo34
                    go_wp2_with (first | ((with_reducible refine gate_callee (f := 99) rfl ?_); refine goesL_ (some 64) rfl rfl Try.func99 (by kernel_rfl) rfl #[.slice Ao34 t215.length co34] rfl (by (try simp only [List.map_toArray, List.map_cons, List.map_nil]); first | done | rfl | (simp only [List.length_drop, List.length_take]; rfl) | (simp only [gt_iff_lt, Int.natCast_pos]; rfl)) ?_; (with_reducible refine (fathomref3_Low64.calls _ _ t215 t219 _ ?side1 ?side2 A25.out).mono ?_); (case side1 => repeat (first | exact (Kd.R_reads' HO_12.out).2.2 | (with_reducible refine Kd.C_alloc ?_ _) | (with_reducible refine Kd.C_drewN ?_ _) | (with_reducible refine Kd.C_drew ?_))); (case side2 => exact (Kd.R_reads' HO_12.out).2.1); rintro e w' ⟨rfl, ⟨nd, rfl⟩⟩; refine ⟨_, rfl, ?_⟩) | ((with_reducible refine gate_callee (f := 150) rfl ?_); refine goesL_ (some 85) rfl rfl Try.func150 (by kernel_rfl) rfl #[.bool a0, .int .u64 (t219 / 2), .int .i64 x11_8, .int .i64 a4] rfl (by (try simp only [List.map_toArray, List.map_cons, List.map_nil]); first | done | rfl | (simp only [List.length_drop, List.length_take]; rfl) | (simp only [gt_iff_lt, Int.natCast_pos]; rfl)) ?_; (with_reducible refine (fathomref3_laid.calls kj21 a0 (t219 / 2) x11_8 a4 t222 _ A33.out).mono ?_); rintro e w' ⟨rfl, ⟨nd, rfl⟩⟩; refine ⟨_, rfl, ?_⟩))
                    go_ret
                    exact ⟨by first | rfl | (simp [errW_none, errW_some] <;> rfl) | (simp [*, errW_none, errW_some] <;> rfl), by repeat (first | (with_reducible first | exact HB.out | apply below_alloc | apply pw_below_drewN | apply below_drew1) | exact HB.out)⟩
              · rw [if_neg c26] at H
                have c26b0 : ((Go.bits .and .u64 t219 1) == 1) = false := beq_eq_false_iff_ne.mpr c26
                have c26b1 : ((Go.bits .and .u64 t219 1) != 1) = true := bne_iff_ne.mpr c26
                replace H := Option.bind_eq_some_iff.mp H
                obtain ⟨t223, A350, H⟩ := H
                replace H : (some t223) = some r := H
                have A35 := Aside0.mk A350
                clear A350
                obtain rfl := Option.some.inj H
                obtain ⟨Ao36, co36, eo36⟩ := Kd.R_slice HO_12.out
                subst eo36
                go_wp2_with (first | ((with_reducible refine gate_callee (f := 99) rfl ?_); refine goesL_ (some 64) rfl rfl Try.func99 (by kernel_rfl) rfl #[.slice Ao36 t215.length co36] rfl (by (try simp only [List.map_toArray, List.map_cons, List.map_nil]); first | done | rfl | (simp only [List.length_drop, List.length_take]; rfl) | (simp only [gt_iff_lt, Int.natCast_pos]; rfl)) ?_; (with_reducible refine (fathomref3_Low64.calls _ _ t215 t219 _ ?side1 ?side2 A25.out).mono ?_); (case side1 => repeat (first | exact (Kd.R_reads' HO_12.out).2.2 | (with_reducible refine Kd.C_alloc ?_ _) | (with_reducible refine Kd.C_drewN ?_ _) | (with_reducible refine Kd.C_drew ?_))); (case side2 => exact (Kd.R_reads' HO_12.out).2.1); rintro e w' ⟨rfl, ⟨nd, rfl⟩⟩; refine ⟨_, rfl, ?_⟩) | ((with_reducible refine gate_callee (f := 150) rfl ?_); refine goesL_ (some 85) rfl rfl Try.func150 (by kernel_rfl) rfl #[.bool a0, .int .u64 (t219 / 2), .int .i64 x11_8, .int .i64 a4] rfl (by (try simp only [List.map_toArray, List.map_cons, List.map_nil]); first | done | rfl | (simp only [List.length_drop, List.length_take]; rfl) | (simp only [gt_iff_lt, Int.natCast_pos]; rfl)) ?_; (with_reducible refine (fathomref3_laid.calls kj21 a0 (t219 / 2) x11_8 a4 t223 _ A35.out).mono ?_); rintro e w' ⟨rfl, ⟨nd, rfl⟩⟩; refine ⟨_, rfl, ?_⟩))
                go_ret
                exact ⟨by first | rfl | (simp [errW_none, errW_some] <;> rfl) | (simp [*, errW_none, errW_some] <;> rfl), by repeat (first | (with_reducible first | exact HB.out | apply below_alloc | apply pw_below_drewN | apply below_drew1) | exact HB.out)⟩

end Go.Proofs.Ytfloeiagdegpjaa.Rf
