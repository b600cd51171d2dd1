/- The reference's functions (Fma): what each call comes to, as a Lean function over lists of whole numbers. The walks began as print.sh's text for these functions. -/
import Derived.Test.YtfloeiagdegpjaaR7
import Derived.Test.YtfloeiagdegpjaaR6
namespace Go.Proofs.Ytfloeiagdegpjaa.Rf
open Go.RowKit Go.Proofs.YtfloeiagdegpjaaW.PrintWords Go.Proofs.YtfloeiagdegpjaaW.PrintLast Go.Proofs.YtfloeiagdegpjaaW.PrintMore
attribute [local go_sem] max2_int min2_int max_two min_two max_three min_three max_four min_four
set_option linter.unusedVariables false
set_option linter.unusedSimpArgs false
/-! ### fathomref3_Fma: function 83 -/
mutual
def fathomref3_Fma.j0 : Nat → Int → Int → Int → Bool → Bool → Option (Int)
  | 0, _, _, _, _, _ => none
  | k + 1, x0, x1, x2, x7, x51 => if x51 = true then (some 9221120237041090560) else ((fathomref3_IsInf.f x0 64).bind fun t458 => (if t458 = true then (fathomref3_Fma.j1 k x0 x1 x2 x7 true) else ((fathomref3_IsInf.f x1 64).bind fun t459 => (fathomref3_Fma.j1 k x0 x1 x2 x7 t459))))
def fathomref3_Fma.j1 : Nat → Int → Int → Int → Bool → Bool → Option (Int)
  | 0, _, _, _, _, _ => none
  | k + 1, x0, x1, x2, x7, x57 => if x57 = true then ((fathomref3_signed.f x7 9218868437227405312 64).bind fun t460 => ((fathomref3_Add.f k t460 x2 64).bind fun t461 => (some t461))) else ((fathomref3_IsInf.f x2 64).bind fun t462 => (if t462 = true then (some x2) else ((fathomref3_Parts.f k x0 64).bind fun bt463 => ((fathomref3_Parts.f k x1 64).bind fun bt468 => ((fathomref3_Parts.f k x2 64).bind fun bt473 => ((fathomref3_Times.f k bt463.2.1 bt468.2.1).bind fun t478 => ((fathomref3_together.f k x7 t478 (wrap64 (bt463.2.2 + bt468.2.2)) bt473.1 bt473.2.1 bt473.2.2).bind fun bt481 => (if (bt481.2.1.length : Int) = 0 then (if x7 = true then ((fathomref3_signed.f bt473.1 0 64).bind fun t486 => (some t486)) else ((fathomref3_signed.f false 0 64).bind fun t487 => (some t487))) else ((fathomref3_Of.f k 1).bind fun t488 => ((fathomref3_Nearest.f k bt481.1 bt481.2.1 t488 bt481.2.2 64).bind fun t491 => (some t491)))))))))))
end
def fathomref3_Fma.f (k : Nat) (a0 : Int) (a1 : Int) (a2 : Int) : Option (Int) := (fathomref3_Neg.f a0 64).bind fun t447 => ((fathomref3_Neg.f a1 64).bind fun t448 => ((fathomref3_IsNan.f a0 64).bind fun t449 => (if t449 = true then (fathomref3_Fma.j0 k a0 a1 a2 (t447 != t448) true) else ((fathomref3_IsNan.f a1 64).bind fun t450 => (if t450 = true then (fathomref3_Fma.j0 k a0 a1 a2 (t447 != t448) true) else ((fathomref3_IsNan.f a2 64).bind fun t451 => (if t451 = true then (fathomref3_Fma.j0 k a0 a1 a2 (t447 != t448) true) else ((fathomref3_IsInf.f a0 64).bind fun t452 => (if t452 = true then ((fathomref3_IsZero.f a1 64).bind fun t453 => (if t453 = true then (fathomref3_Fma.j0 k a0 a1 a2 (t447 != t448) true) else ((fathomref3_IsZero.f a0 64).bind fun t454 => (if t454 = true then ((fathomref3_IsInf.f a1 64).bind fun t455 => (fathomref3_Fma.j0 k a0 a1 a2 (t447 != t448) t455)) else (fathomref3_Fma.j0 k a0 a1 a2 (t447 != t448) false))))) else ((fathomref3_IsZero.f a0 64).bind fun t456 => (if t456 = true then ((fathomref3_IsInf.f a1 64).bind fun t457 => (fathomref3_Fma.j0 k a0 a1 a2 (t447 != t448) t457)) else (fathomref3_Fma.j0 k a0 a1 a2 (t447 != t448) false))))))))))))
theorem fathomref3_Fma.mono_l : ∀ k, (∀ y0 y1 y2 y3 y4, LeO (fathomref3_Fma.j0 k y0 y1 y2 y3 y4) (fathomref3_Fma.j0 (k + 1) y0 y1 y2 y3 y4)) ∧ (∀ y0 y1 y2 y3 y4, LeO (fathomref3_Fma.j1 k y0 y1 y2 y3 y4) (fathomref3_Fma.j1 (k + 1) y0 y1 y2 y3 y4))
  | 0 => ⟨fun _ _ _ _ _ r h => by simp [fathomref3_Fma.j0] at h, fun _ _ _ _ _ r h => by simp [fathomref3_Fma.j1] at h⟩
  | k + 1 => by
    obtain ⟨ih0, ih1⟩ := fathomref3_Fma.mono_l k
    refine ⟨?_, ?_⟩
    · intro y0 y1 y2 y3 y4
      unfold fathomref3_Fma.j0
      repeat' first
      | (with_reducible exact ih0 _ _ _ _ _)
      | (with_reducible exact ih1 _ _ _ _ _)
      | (with_reducible exact fathomref3_Add.mono _ _ _ _)
      | (with_reducible exact fathomref3_Nearest.mono _ _ _ _ _ _)
      | (with_reducible exact fathomref3_Of.mono _ _)
      | (with_reducible exact fathomref3_Parts.mono _ _ _)
      | (with_reducible exact fathomref3_Times.mono _ _ _)
      | (with_reducible exact fathomref3_together.mono _ _ _ _ _ _ _)
      | (with_reducible exact LeO.refl _)
      | (with_reducible exact LeO.none _)
      | (with_reducible refine LeO.ite ?_ ?_)
      | (with_reducible refine LeO.bind ?_ (fun _ => ?_))
      | exact ih0 _ _ _ _ _
      | exact ih1 _ _ _ _ _
      | exact fathomref3_Add.mono _ _ _ _
      | exact fathomref3_Nearest.mono _ _ _ _ _ _
      | exact fathomref3_Of.mono _ _
      | exact fathomref3_Parts.mono _ _ _
      | exact fathomref3_Times.mono _ _ _
      | exact fathomref3_together.mono _ _ _ _ _ _ _
      | exact LeO.none _
      | refine LeO.ite ?_ ?_
      | refine LeO.bind ?_ (fun _ => ?_)
    · intro y0 y1 y2 y3 y4
      unfold fathomref3_Fma.j1
      repeat' first
      | (with_reducible exact ih0 _ _ _ _ _)
      | (with_reducible exact ih1 _ _ _ _ _)
      | (with_reducible exact fathomref3_Add.mono _ _ _ _)
      | (with_reducible exact fathomref3_Nearest.mono _ _ _ _ _ _)
      | (with_reducible exact fathomref3_Of.mono _ _)
      | (with_reducible exact fathomref3_Parts.mono _ _ _)
      | (with_reducible exact fathomref3_Times.mono _ _ _)
      | (with_reducible exact fathomref3_together.mono _ _ _ _ _ _ _)
      | (with_reducible exact LeO.refl _)
      | (with_reducible exact LeO.none _)
      | (with_reducible refine LeO.ite ?_ ?_)
      | (with_reducible refine LeO.bind ?_ (fun _ => ?_))
      | exact ih0 _ _ _ _ _
      | exact ih1 _ _ _ _ _
      | exact fathomref3_Add.mono _ _ _ _
      | exact fathomref3_Nearest.mono _ _ _ _ _ _
      | exact fathomref3_Of.mono _ _
      | exact fathomref3_Parts.mono _ _ _
      | exact fathomref3_Times.mono _ _ _
      | exact fathomref3_together.mono _ _ _ _ _ _ _
      | exact LeO.none _
      | refine LeO.ite ?_ ?_
      | refine LeO.bind ?_ (fun _ => ?_)
theorem fathomref3_Fma.mono : ∀ a0 a1 a2 k, LeO (fathomref3_Fma.f k a0 a1 a2) (fathomref3_Fma.f (k + 1) a0 a1 a2) := by
  intro a0 a1 a2 k
  obtain ⟨ih0, ih1⟩ := fathomref3_Fma.mono_l k
  unfold fathomref3_Fma.f
  repeat' first
      | (with_reducible exact ih0 _ _ _ _ _)
      | (with_reducible exact ih1 _ _ _ _ _)
      | (with_reducible exact fathomref3_Add.mono _ _ _ _)
      | (with_reducible exact fathomref3_Nearest.mono _ _ _ _ _ _)
      | (with_reducible exact fathomref3_Of.mono _ _)
      | (with_reducible exact fathomref3_Parts.mono _ _ _)
      | (with_reducible exact fathomref3_Times.mono _ _ _)
      | (with_reducible exact fathomref3_together.mono _ _ _ _ _ _ _)
      | (with_reducible exact LeO.refl _)
      | (with_reducible exact LeO.none _)
      | (with_reducible refine LeO.ite ?_ ?_)
      | (with_reducible refine LeO.bind ?_ (fun _ => ?_))
      | exact ih0 _ _ _ _ _
      | exact ih1 _ _ _ _ _
      | exact fathomref3_Add.mono _ _ _ _
      | exact fathomref3_Nearest.mono _ _ _ _ _ _
      | exact fathomref3_Of.mono _ _
      | exact fathomref3_Parts.mono _ _ _
      | exact fathomref3_Times.mono _ _ _
      | exact fathomref3_together.mono _ _ _ _ _ _ _
      | exact LeO.none _
      | refine LeO.ite ?_ ?_
      | refine LeO.bind ?_ (fun _ => ?_)
set_option maxHeartbeats 8000000 in
set_option maxRecDepth 100000 in
theorem fathomref3_Fma.calls (k : Nat) (a0 : Int) (a1 : Int) (a2 : Int) (r : Int) (w : World) (h : fathomref3_Fma.f k a0 a1 a2 = some r) :
    Calls Try.prog 83 #[.int .u64 a0, .int .u64 a1, .int .u64 a2] w fun e w' => e = .returned (.int .u64 r) ∧ Below w.heap.size w w' := by
  have HB := Aside0.mk (Below.refl w.heap.size w)
  have H : ((fathomref3_Neg.f a0 64).bind fun t447 => ((fathomref3_Neg.f a1 64).bind fun t448 => ((fathomref3_IsNan.f a0 64).bind fun t449 => (if t449 = true then (fathomref3_Fma.j0 k a0 a1 a2 (t447 != t448) true) else ((fathomref3_IsNan.f a1 64).bind fun t450 => (if t450 = true then (fathomref3_Fma.j0 k a0 a1 a2 (t447 != t448) true) else ((fathomref3_IsNan.f a2 64).bind fun t451 => (if t451 = true then (fathomref3_Fma.j0 k a0 a1 a2 (t447 != t448) true) else ((fathomref3_IsInf.f a0 64).bind fun t452 => (if t452 = true then ((fathomref3_IsZero.f a1 64).bind fun t453 => (if t453 = true then (fathomref3_Fma.j0 k a0 a1 a2 (t447 != t448) true) else ((fathomref3_IsZero.f a0 64).bind fun t454 => (if t454 = true then ((fathomref3_IsInf.f a1 64).bind fun t455 => (fathomref3_Fma.j0 k a0 a1 a2 (t447 != t448) t455)) else (fathomref3_Fma.j0 k a0 a1 a2 (t447 != t448) false))))) else ((fathomref3_IsZero.f a0 64).bind fun t456 => (if t456 = true then ((fathomref3_IsInf.f a1 64).bind fun t457 => (fathomref3_Fma.j0 k a0 a1 a2 (t447 != t448) t457)) else (fathomref3_Fma.j0 k a0 a1 a2 (t447 != t448) false))))))))))))) = some r := h
  clear h
  replace H := Option.bind_eq_some_iff.mp H
  obtain ⟨t447, A40, H⟩ := H
  replace H : ((fathomref3_Neg.f a1 64).bind fun t448 => ((fathomref3_IsNan.f a0 64).bind fun t449 => (if t449 = true then (fathomref3_Fma.j0 k a0 a1 a2 (t447 != t448) true) else ((fathomref3_IsNan.f a1 64).bind fun t450 => (if t450 = true then (fathomref3_Fma.j0 k a0 a1 a2 (t447 != t448) true) else ((fathomref3_IsNan.f a2 64).bind fun t451 => (if t451 = true then (fathomref3_Fma.j0 k a0 a1 a2 (t447 != t448) true) else ((fathomref3_IsInf.f a0 64).bind fun t452 => (if t452 = true then ((fathomref3_IsZero.f a1 64).bind fun t453 => (if t453 = true then (fathomref3_Fma.j0 k a0 a1 a2 (t447 != t448) true) else ((fathomref3_IsZero.f a0 64).bind fun t454 => (if t454 = true then ((fathomref3_IsInf.f a1 64).bind fun t455 => (fathomref3_Fma.j0 k a0 a1 a2 (t447 != t448) t455)) else (fathomref3_Fma.j0 k a0 a1 a2 (t447 != t448) false))))) else ((fathomref3_IsZero.f a0 64).bind fun t456 => (if t456 = true then ((fathomref3_IsInf.f a1 64).bind fun t457 => (fathomref3_Fma.j0 k a0 a1 a2 (t447 != t448) t457)) else (fathomref3_Fma.j0 k a0 a1 a2 (t447 != t448) false)))))))))))) = some r := H
  have A4 := Aside0.mk A40
  clear A40
  replace H := Option.bind_eq_some_iff.mp H
  obtain ⟨t448, A50, H⟩ := H
  replace H : ((fathomref3_IsNan.f a0 64).bind fun t449 => (if t449 = true then (fathomref3_Fma.j0 k a0 a1 a2 (t447 != t448) true) else ((fathomref3_IsNan.f a1 64).bind fun t450 => (if t450 = true then (fathomref3_Fma.j0 k a0 a1 a2 (t447 != t448) true) else ((fathomref3_IsNan.f a2 64).bind fun t451 => (if t451 = true then (fathomref3_Fma.j0 k a0 a1 a2 (t447 != t448) true) else ((fathomref3_IsInf.f a0 64).bind fun t452 => (if t452 = true then ((fathomref3_IsZero.f a1 64).bind fun t453 => (if t453 = true then (fathomref3_Fma.j0 k a0 a1 a2 (t447 != t448) true) else ((fathomref3_IsZero.f a0 64).bind fun t454 => (if t454 = true then ((fathomref3_IsInf.f a1 64).bind fun t455 => (fathomref3_Fma.j0 k a0 a1 a2 (t447 != t448) t455)) else (fathomref3_Fma.j0 k a0 a1 a2 (t447 != t448) false))))) else ((fathomref3_IsZero.f a0 64).bind fun t456 => (if t456 = true then ((fathomref3_IsInf.f a1 64).bind fun t457 => (fathomref3_Fma.j0 k a0 a1 a2 (t447 != t448) t457)) else (fathomref3_Fma.j0 k a0 a1 a2 (t447 != t448) false))))))))))) = some r := H
  have A5 := Aside0.mk A50
  clear A50
  have HC6 := Aside0.mk H
  clear H
  go_enter Try.func83, Try.ntmps83
  go_upto_region 2 with (first | ((with_reducible refine gate_callee (f := 98) rfl ?_); refine goesL_ (some 22) rfl rfl Try.func98 (by kernel_rfl) rfl #[.int .u64 a0, .int .i64 64] rfl (by (try simp only [List.map_toArray, List.map_cons, List.map_nil]); first | done | rfl | (simp only [List.length_drop, List.length_take]; rfl) | (simp only [gt_iff_lt, Int.natCast_pos]; rfl) | (rw [c40b0]; rfl)) ?_; (with_reducible refine (fathomref3_Neg.calls a0 64 t447 _ A4.out).mono ?_); rintro e w' ⟨rfl, ⟨nd, rfl⟩⟩; refine ⟨_, rfl, ?_⟩) | ((with_reducible refine gate_callee (f := 98) rfl ?_); refine goesL_ (some 24) rfl rfl Try.func98 (by kernel_rfl) rfl #[.int .u64 a1, .int .i64 64] rfl (by (try simp only [List.map_toArray, List.map_cons, List.map_nil]); first | done | rfl | (simp only [List.length_drop, List.length_take]; rfl) | (simp only [gt_iff_lt, Int.natCast_pos]; rfl) | (rw [c40b0]; rfl)) ?_; (with_reducible refine (fathomref3_Neg.calls a1 64 t448 _ A5.out).mono ?_); rintro e w' ⟨rfl, ⟨nd, rfl⟩⟩; refine ⟨_, rfl, ?_⟩))
  (try simp only [Act.put, List.setIfInBounds_toArray, List.set_cons_zero, List.set_cons_succ])
  go_cut [51] (fun v51 wc => ∃ (kq : Nat) (x51_5 : Bool), v51 = .bool x51_5 ∧ Aside0 (fathomref3_Fma.j0 kq a0 a1 a2 (t447 != t448) x51_5 = some r) ∧ Aside0 (kq ≤ k) ∧ Aside0 (Below w.heap.size w wc))
  case first =>
    have H := HC6.out
    clear HC6
    replace H := Option.bind_eq_some_iff.mp H
    obtain ⟨t449, A70, H⟩ := H
    replace H : (if t449 = true then (fathomref3_Fma.j0 k a0 a1 a2 (t447 != t448) true) else ((fathomref3_IsNan.f a1 64).bind fun t450 => (if t450 = true then (fathomref3_Fma.j0 k a0 a1 a2 (t447 != t448) true) else ((fathomref3_IsNan.f a2 64).bind fun t451 => (if t451 = true then (fathomref3_Fma.j0 k a0 a1 a2 (t447 != t448) true) else ((fathomref3_IsInf.f a0 64).bind fun t452 => (if t452 = true then ((fathomref3_IsZero.f a1 64).bind fun t453 => (if t453 = true then (fathomref3_Fma.j0 k a0 a1 a2 (t447 != t448) true) else ((fathomref3_IsZero.f a0 64).bind fun t454 => (if t454 = true then ((fathomref3_IsInf.f a1 64).bind fun t455 => (fathomref3_Fma.j0 k a0 a1 a2 (t447 != t448) t455)) else (fathomref3_Fma.j0 k a0 a1 a2 (t447 != t448) false))))) else ((fathomref3_IsZero.f a0 64).bind fun t456 => (if t456 = true then ((fathomref3_IsInf.f a1 64).bind fun t457 => (fathomref3_Fma.j0 k a0 a1 a2 (t447 != t448) t457)) else (fathomref3_Fma.j0 k a0 a1 a2 (t447 != t448) false)))))))))) = some r := H
    have A7 := Aside0.mk A70
    clear A70
    by_cases c8 : t449 = true
    · subst c8
      have H1 : (fathomref3_Fma.j0 k a0 a1 a2 (t447 != t448) true) = some r := by rw [if_pos rfl] at H; exact H
      clear H
      have H := H1
      clear H1
      have H' := Aside0.mk H
      clear H
      go_wp2_with (first | ((with_reducible refine gate_callee (f := 105) rfl ?_); refine goesL_ (some 27) rfl rfl Try.func105 (by kernel_rfl) rfl #[.int .u64 a0, .int .i64 64] rfl (by (try simp only [List.map_toArray, List.map_cons, List.map_nil]); first | done | rfl | (simp only [List.length_drop, List.length_take]; rfl) | (simp only [gt_iff_lt, Int.natCast_pos]; rfl) | (rw [c40b0]; rfl)) ?_; (with_reducible refine (fathomref3_IsNan.calls a0 64 true _ A7.out).mono ?_); rintro e w' ⟨rfl, ⟨nd, rfl⟩⟩; refine ⟨_, rfl, ?_⟩))
      go_meet
      case rel => exact ⟨_, (true), (by first | rfl | (simp; done) | (simp [*]; done)), H', ⟨by first | omega | exact Nat.le_refl _⟩, ⟨by repeat (first | (with_reducible first | exact HB.out | apply below_alloc | apply pw_below_drewN | apply below_drew1) | exact HB.out)⟩⟩
    · replace c8 := Bool.eq_false_iff.mpr c8
      subst c8
      have H1 : ((fathomref3_IsNan.f a1 64).bind fun t450 => (if t450 = true then (fathomref3_Fma.j0 k a0 a1 a2 (t447 != t448) true) else ((fathomref3_IsNan.f a2 64).bind fun t451 => (if t451 = true then (fathomref3_Fma.j0 k a0 a1 a2 (t447 != t448) true) else ((fathomref3_IsInf.f a0 64).bind fun t452 => (if t452 = true then ((fathomref3_IsZero.f a1 64).bind fun t453 => (if t453 = true then (fathomref3_Fma.j0 k a0 a1 a2 (t447 != t448) true) else ((fathomref3_IsZero.f a0 64).bind fun t454 => (if t454 = true then ((fathomref3_IsInf.f a1 64).bind fun t455 => (fathomref3_Fma.j0 k a0 a1 a2 (t447 != t448) t455)) else (fathomref3_Fma.j0 k a0 a1 a2 (t447 != t448) false))))) else ((fathomref3_IsZero.f a0 64).bind fun t456 => (if t456 = true then ((fathomref3_IsInf.f a1 64).bind fun t457 => (fathomref3_Fma.j0 k a0 a1 a2 (t447 != t448) t457)) else (fathomref3_Fma.j0 k a0 a1 a2 (t447 != t448) false))))))))) = some r := by rw [if_neg (show ¬ (false = true) by decide)] at H; exact H
      clear H
      have H := H1
      clear H1
      replace H := Option.bind_eq_some_iff.mp H
      obtain ⟨t450, A90, H⟩ := H
      replace H : (if t450 = true then (fathomref3_Fma.j0 k a0 a1 a2 (t447 != t448) true) else ((fathomref3_IsNan.f a2 64).bind fun t451 => (if t451 = true then (fathomref3_Fma.j0 k a0 a1 a2 (t447 != t448) true) else ((fathomref3_IsInf.f a0 64).bind fun t452 => (if t452 = true then ((fathomref3_IsZero.f a1 64).bind fun t453 => (if t453 = true then (fathomref3_Fma.j0 k a0 a1 a2 (t447 != t448) true) else ((fathomref3_IsZero.f a0 64).bind fun t454 => (if t454 = true then ((fathomref3_IsInf.f a1 64).bind fun t455 => (fathomref3_Fma.j0 k a0 a1 a2 (t447 != t448) t455)) else (fathomref3_Fma.j0 k a0 a1 a2 (t447 != t448) false))))) else ((fathomref3_IsZero.f a0 64).bind fun t456 => (if t456 = true then ((fathomref3_IsInf.f a1 64).bind fun t457 => (fathomref3_Fma.j0 k a0 a1 a2 (t447 != t448) t457)) else (fathomref3_Fma.j0 k a0 a1 a2 (t447 != t448) false)))))))) = some r := H
      have A9 := Aside0.mk A90
      clear A90
      by_cases c10 : t450 = true
      · subst c10
        have H1 : (fathomref3_Fma.j0 k a0 a1 a2 (t447 != t448) true) = some r := by rw [if_pos rfl] at H; exact H
        clear H
        have H := H1
        clear H1
        have H' := Aside0.mk H
        clear H
        go_wp2_with (first | ((with_reducible refine gate_callee (f := 105) rfl ?_); refine goesL_ (some 27) rfl rfl Try.func105 (by kernel_rfl) rfl #[.int .u64 a0, .int .i64 64] rfl (by (try simp only [List.map_toArray, List.map_cons, List.map_nil]); first | done | rfl | (simp only [List.length_drop, List.length_take]; rfl) | (simp only [gt_iff_lt, Int.natCast_pos]; rfl) | (rw [c40b0]; rfl)) ?_; (with_reducible refine (fathomref3_IsNan.calls a0 64 false _ A7.out).mono ?_); rintro e w' ⟨rfl, ⟨nd, rfl⟩⟩; refine ⟨_, rfl, ?_⟩) | (go_at_call 105; (with_reducible refine (fathomref3_IsNan.calls a1 64 true _ A9.out).mono ?_); rintro e w' ⟨rfl, ⟨nd, rfl⟩⟩))
        go_meet
        case rel => exact ⟨_, (true), (by first | rfl | (simp; done) | (simp [*]; done)), H', ⟨by first | omega | exact Nat.le_refl _⟩, ⟨by repeat (first | (with_reducible first | exact HB.out | apply below_alloc | apply pw_below_drewN | apply below_drew1) | exact HB.out)⟩⟩
      · replace c10 := Bool.eq_false_iff.mpr c10
        subst c10
        have H1 : ((fathomref3_IsNan.f a2 64).bind fun t451 => (if t451 = true then (fathomref3_Fma.j0 k a0 a1 a2 (t447 != t448) true) else ((fathomref3_IsInf.f a0 64).bind fun t452 => (if t452 = true then ((fathomref3_IsZero.f a1 64).bind fun t453 => (if t453 = true then (fathomref3_Fma.j0 k a0 a1 a2 (t447 != t448) true) else ((fathomref3_IsZero.f a0 64).bind fun t454 => (if t454 = true then ((fathomref3_IsInf.f a1 64).bind fun t455 => (fathomref3_Fma.j0 k a0 a1 a2 (t447 != t448) t455)) else (fathomref3_Fma.j0 k a0 a1 a2 (t447 != t448) false))))) else ((fathomref3_IsZero.f a0 64).bind fun t456 => (if t456 = true then ((fathomref3_IsInf.f a1 64).bind fun t457 => (fathomref3_Fma.j0 k a0 a1 a2 (t447 != t448) t457)) else (fathomref3_Fma.j0 k a0 a1 a2 (t447 != t448) false))))))) = some r := by rw [if_neg (show ¬ (false = true) by decide)] at H; exact H
        clear H
        have H := H1
        clear H1
        replace H := Option.bind_eq_some_iff.mp H
        obtain ⟨t451, A110, H⟩ := H
        replace H : (if t451 = true then (fathomref3_Fma.j0 k a0 a1 a2 (t447 != t448) true) else ((fathomref3_IsInf.f a0 64).bind fun t452 => (if t452 = true then ((fathomref3_IsZero.f a1 64).bind fun t453 => (if t453 = true then (fathomref3_Fma.j0 k a0 a1 a2 (t447 != t448) true) else ((fathomref3_IsZero.f a0 64).bind fun t454 => (if t454 = true then ((fathomref3_IsInf.f a1 64).bind fun t455 => (fathomref3_Fma.j0 k a0 a1 a2 (t447 != t448) t455)) else (fathomref3_Fma.j0 k a0 a1 a2 (t447 != t448) false))))) else ((fathomref3_IsZero.f a0 64).bind fun t456 => (if t456 = true then ((fathomref3_IsInf.f a1 64).bind fun t457 => (fathomref3_Fma.j0 k a0 a1 a2 (t447 != t448) t457)) else (fathomref3_Fma.j0 k a0 a1 a2 (t447 != t448) false)))))) = some r := H
        have A11 := Aside0.mk A110
        clear A110
        by_cases c12 : t451 = true
        · subst c12
          have H1 : (fathomref3_Fma.j0 k a0 a1 a2 (t447 != t448) true) = some r := by rw [if_pos rfl] at H; exact H
          clear H
          have H := H1
          clear H1
          have H' := Aside0.mk H
          clear H
          go_wp2_with (first | ((with_reducible refine gate_callee (f := 105) rfl ?_); refine goesL_ (some 27) rfl rfl Try.func105 (by kernel_rfl) rfl #[.int .u64 a0, .int .i64 64] rfl (by (try simp only [List.map_toArray, List.map_cons, List.map_nil]); first | done | rfl | (simp only [List.length_drop, List.length_take]; rfl) | (simp only [gt_iff_lt, Int.natCast_pos]; rfl) | (rw [c40b0]; rfl)) ?_; (with_reducible refine (fathomref3_IsNan.calls a0 64 false _ A7.out).mono ?_); rintro e w' ⟨rfl, ⟨nd, rfl⟩⟩; refine ⟨_, rfl, ?_⟩) | (go_at_call 105; (with_reducible refine (fathomref3_IsNan.calls a1 64 false _ A9.out).mono ?_); rintro e w' ⟨rfl, ⟨nd, rfl⟩⟩) | (go_at_call 105; (with_reducible refine (fathomref3_IsNan.calls a2 64 true _ A11.out).mono ?_); rintro e w' ⟨rfl, ⟨nd, rfl⟩⟩))
          go_meet
          case rel => exact ⟨_, (true), (by first | rfl | (simp; done) | (simp [*]; done)), H', ⟨by first | omega | exact Nat.le_refl _⟩, ⟨by repeat (first | (with_reducible first | exact HB.out | apply below_alloc | apply pw_below_drewN | apply below_drew1) | exact HB.out)⟩⟩
        · replace c12 := Bool.eq_false_iff.mpr c12
          subst c12
          have H1 : ((fathomref3_IsInf.f a0 64).bind fun t452 => (if t452 = true then ((fathomref3_IsZero.f a1 64).bind fun t453 => (if t453 = true then (fathomref3_Fma.j0 k a0 a1 a2 (t447 != t448) true) else ((fathomref3_IsZero.f a0 64).bind fun t454 => (if t454 = true then ((fathomref3_IsInf.f a1 64).bind fun t455 => (fathomref3_Fma.j0 k a0 a1 a2 (t447 != t448) t455)) else (fathomref3_Fma.j0 k a0 a1 a2 (t447 != t448) false))))) else ((fathomref3_IsZero.f a0 64).bind fun t456 => (if t456 = true then ((fathomref3_IsInf.f a1 64).bind fun t457 => (fathomref3_Fma.j0 k a0 a1 a2 (t447 != t448) t457)) else (fathomref3_Fma.j0 k a0 a1 a2 (t447 != t448) false))))) = some r := by rw [if_neg (show ¬ (false = true) by decide)] at H; exact H
          clear H
          have H := H1
          clear H1
          replace H := Option.bind_eq_some_iff.mp H
          obtain ⟨t452, A130, H⟩ := H
          replace H : (if t452 = true then ((fathomref3_IsZero.f a1 64).bind fun t453 => (if t453 = true then (fathomref3_Fma.j0 k a0 a1 a2 (t447 != t448) true) else ((fathomref3_IsZero.f a0 64).bind fun t454 => (if t454 = true then ((fathomref3_IsInf.f a1 64).bind fun t455 => (fathomref3_Fma.j0 k a0 a1 a2 (t447 != t448) t455)) else (fathomref3_Fma.j0 k a0 a1 a2 (t447 != t448) false))))) else ((fathomref3_IsZero.f a0 64).bind fun t456 => (if t456 = true then ((fathomref3_IsInf.f a1 64).bind fun t457 => (fathomref3_Fma.j0 k a0 a1 a2 (t447 != t448) t457)) else (fathomref3_Fma.j0 k a0 a1 a2 (t447 != t448) false)))) = some r := H
          have A13 := Aside0.mk A130
          clear A130
          by_cases c14 : t452 = true
          · subst c14
            have H1 : ((fathomref3_IsZero.f a1 64).bind fun t453 => (if t453 = true then (fathomref3_Fma.j0 k a0 a1 a2 (t447 != t448) true) else ((fathomref3_IsZero.f a0 64).bind fun t454 => (if t454 = true then ((fathomref3_IsInf.f a1 64).bind fun t455 => (fathomref3_Fma.j0 k a0 a1 a2 (t447 != t448) t455)) else (fathomref3_Fma.j0 k a0 a1 a2 (t447 != t448) false))))) = some r := by rw [if_pos rfl] at H; exact H
            clear H
            have H := H1
            clear H1
            replace H := Option.bind_eq_some_iff.mp H
            obtain ⟨t453, A150, H⟩ := H
            replace H : (if t453 = true then (fathomref3_Fma.j0 k a0 a1 a2 (t447 != t448) true) else ((fathomref3_IsZero.f a0 64).bind fun t454 => (if t454 = true then ((fathomref3_IsInf.f a1 64).bind fun t455 => (fathomref3_Fma.j0 k a0 a1 a2 (t447 != t448) t455)) else (fathomref3_Fma.j0 k a0 a1 a2 (t447 != t448) false)))) = some r := H
            have A15 := Aside0.mk A150
            clear A150
            by_cases c16 : t453 = true
            · subst c16
              have H1 : (fathomref3_Fma.j0 k a0 a1 a2 (t447 != t448) true) = some r := by rw [if_pos rfl] at H; exact H
              clear H
              have H := H1
              clear H1
              have H' := Aside0.mk H
              clear H
              go_wp2_with (first | ((with_reducible refine gate_callee (f := 105) rfl ?_); refine goesL_ (some 27) rfl rfl Try.func105 (by kernel_rfl) rfl #[.int .u64 a0, .int .i64 64] rfl (by (try simp only [List.map_toArray, List.map_cons, List.map_nil]); first | done | rfl | (simp only [List.length_drop, List.length_take]; rfl) | (simp only [gt_iff_lt, Int.natCast_pos]; rfl) | (rw [c40b0]; rfl)) ?_; (with_reducible refine (fathomref3_IsNan.calls a0 64 false _ A7.out).mono ?_); rintro e w' ⟨rfl, ⟨nd, rfl⟩⟩; refine ⟨_, rfl, ?_⟩) | (go_at_call 105; (with_reducible refine (fathomref3_IsNan.calls a1 64 false _ A9.out).mono ?_); rintro e w' ⟨rfl, ⟨nd, rfl⟩⟩) | (go_at_call 105; (with_reducible refine (fathomref3_IsNan.calls a2 64 false _ A11.out).mono ?_); rintro e w' ⟨rfl, ⟨nd, rfl⟩⟩) | (go_at_call 106; (with_reducible refine (fathomref3_IsInf.calls a0 64 true _ A13.out).mono ?_); rintro e w' ⟨rfl, ⟨nd, rfl⟩⟩) | (go_at_call 112; (with_reducible refine (fathomref3_IsZero.calls a1 64 true _ A15.out).mono ?_); rintro e w' ⟨rfl, ⟨nd, rfl⟩⟩))
              go_meet
              case rel => exact ⟨_, (true), (by first | rfl | (simp; done) | (simp [*]; done)), H', ⟨by first | omega | exact Nat.le_refl _⟩, ⟨by repeat (first | (with_reducible first | exact HB.out | apply below_alloc | apply pw_below_drewN | apply below_drew1) | exact HB.out)⟩⟩
            · replace c16 := Bool.eq_false_iff.mpr c16
              subst c16
              have H1 : ((fathomref3_IsZero.f a0 64).bind fun t454 => (if t454 = true then ((fathomref3_IsInf.f a1 64).bind fun t455 => (fathomref3_Fma.j0 k a0 a1 a2 (t447 != t448) t455)) else (fathomref3_Fma.j0 k a0 a1 a2 (t447 != t448) false))) = some r := by rw [if_neg (show ¬ (false = true) by decide)] at H; exact H
              clear H
              have H := H1
              clear H1
              replace H := Option.bind_eq_some_iff.mp H
              obtain ⟨t454, A170, H⟩ := H
              replace H : (if t454 = true then ((fathomref3_IsInf.f a1 64).bind fun t455 => (fathomref3_Fma.j0 k a0 a1 a2 (t447 != t448) t455)) else (fathomref3_Fma.j0 k a0 a1 a2 (t447 != t448) false)) = some r := H
              have A17 := Aside0.mk A170
              clear A170
              by_cases c18 : t454 = true
              · subst c18
                have H1 : ((fathomref3_IsInf.f a1 64).bind fun t455 => (fathomref3_Fma.j0 k a0 a1 a2 (t447 != t448) t455)) = some r := by rw [if_pos rfl] at H; exact H
                clear H
                have H := H1
                clear H1
                replace H := Option.bind_eq_some_iff.mp H
                obtain ⟨t455, A190, H⟩ := H
                replace H : (fathomref3_Fma.j0 k a0 a1 a2 (t447 != t448) t455) = some r := H
                have A19 := Aside0.mk A190
                clear A190
                have H' := Aside0.mk H
                clear H
                go_wp2_with (first | ((with_reducible refine gate_callee (f := 105) rfl ?_); refine goesL_ (some 27) rfl rfl Try.func105 (by kernel_rfl) rfl #[.int .u64 a0, .int .i64 64] rfl (by (try simp only [List.map_toArray, List.map_cons, List.map_nil]); first | done | rfl | (simp only [List.length_drop, List.length_take]; rfl) | (simp only [gt_iff_lt, Int.natCast_pos]; rfl) | (rw [c40b0]; rfl)) ?_; (with_reducible refine (fathomref3_IsNan.calls a0 64 false _ A7.out).mono ?_); rintro e w' ⟨rfl, ⟨nd, rfl⟩⟩; refine ⟨_, rfl, ?_⟩) | (go_at_call 105; (with_reducible refine (fathomref3_IsNan.calls a1 64 false _ A9.out).mono ?_); rintro e w' ⟨rfl, ⟨nd, rfl⟩⟩) | (go_at_call 105; (with_reducible refine (fathomref3_IsNan.calls a2 64 false _ A11.out).mono ?_); rintro e w' ⟨rfl, ⟨nd, rfl⟩⟩) | (go_at_call 106; (with_reducible refine (fathomref3_IsInf.calls a0 64 true _ A13.out).mono ?_); rintro e w' ⟨rfl, ⟨nd, rfl⟩⟩) | (go_at_call 112; (with_reducible refine (fathomref3_IsZero.calls a1 64 false _ A15.out).mono ?_); rintro e w' ⟨rfl, ⟨nd, rfl⟩⟩) | (go_at_call 112; (with_reducible refine (fathomref3_IsZero.calls a0 64 true _ A17.out).mono ?_); rintro e w' ⟨rfl, ⟨nd, rfl⟩⟩) | (go_at_call 106; (with_reducible refine (fathomref3_IsInf.calls a1 64 t455 _ A19.out).mono ?_); rintro e w' ⟨rfl, ⟨nd, rfl⟩⟩))
                go_meet
                case rel => exact ⟨_, (t455), (by first | rfl | (simp; done) | (simp [*]; done)), H', ⟨by first | omega | exact Nat.le_refl _⟩, ⟨by repeat (first | (with_reducible first | exact HB.out | apply below_alloc | apply pw_below_drewN | apply below_drew1) | exact HB.out)⟩⟩
              · replace c18 := Bool.eq_false_iff.mpr c18
                subst c18
                have H1 : (fathomref3_Fma.j0 k a0 a1 a2 (t447 != t448) false) = some r := by rw [if_neg (show ¬ (false = true) by decide)] at H; exact H
                clear H
                have H := H1
                clear H1
                have H' := Aside0.mk H
                clear H
                go_wp2_with (first | ((with_reducible refine gate_callee (f := 105) rfl ?_); refine goesL_ (some 27) rfl rfl Try.func105 (by kernel_rfl) rfl #[.int .u64 a0, .int .i64 64] rfl (by (try simp only [List.map_toArray, List.map_cons, List.map_nil]); first | done | rfl | (simp only [List.length_drop, List.length_take]; rfl) | (simp only [gt_iff_lt, Int.natCast_pos]; rfl) | (rw [c40b0]; rfl)) ?_; (with_reducible refine (fathomref3_IsNan.calls a0 64 false _ A7.out).mono ?_); rintro e w' ⟨rfl, ⟨nd, rfl⟩⟩; refine ⟨_, rfl, ?_⟩) | (go_at_call 105; (with_reducible refine (fathomref3_IsNan.calls a1 64 false _ A9.out).mono ?_); rintro e w' ⟨rfl, ⟨nd, rfl⟩⟩) | (go_at_call 105; (with_reducible refine (fathomref3_IsNan.calls a2 64 false _ A11.out).mono ?_); rintro e w' ⟨rfl, ⟨nd, rfl⟩⟩) | (go_at_call 106; (with_reducible refine (fathomref3_IsInf.calls a0 64 true _ A13.out).mono ?_); rintro e w' ⟨rfl, ⟨nd, rfl⟩⟩) | (go_at_call 112; (with_reducible refine (fathomref3_IsZero.calls a1 64 false _ A15.out).mono ?_); rintro e w' ⟨rfl, ⟨nd, rfl⟩⟩) | (go_at_call 112; (with_reducible refine (fathomref3_IsZero.calls a0 64 false _ A17.out).mono ?_); rintro e w' ⟨rfl, ⟨nd, rfl⟩⟩))
                go_meet
                case rel => exact ⟨_, (false), (by first | rfl | (simp; done) | (simp [*]; done)), H', ⟨by first | omega | exact Nat.le_refl _⟩, ⟨by repeat (first | (with_reducible first | exact HB.out | apply below_alloc | apply pw_below_drewN | apply below_drew1) | exact HB.out)⟩⟩
          · replace c14 := Bool.eq_false_iff.mpr c14
            subst c14
            have H1 : ((fathomref3_IsZero.f a0 64).bind fun t456 => (if t456 = true then ((fathomref3_IsInf.f a1 64).bind fun t457 => (fathomref3_Fma.j0 k a0 a1 a2 (t447 != t448) t457)) else (fathomref3_Fma.j0 k a0 a1 a2 (t447 != t448) false))) = some r := by rw [if_neg (show ¬ (false = true) by decide)] at H; exact H
            clear H
            have H := H1
            clear H1
            replace H := Option.bind_eq_some_iff.mp H
            obtain ⟨t456, A200, H⟩ := H
            replace H : (if t456 = true then ((fathomref3_IsInf.f a1 64).bind fun t457 => (fathomref3_Fma.j0 k a0 a1 a2 (t447 != t448) t457)) else (fathomref3_Fma.j0 k a0 a1 a2 (t447 != t448) false)) = some r := H
            have A20 := Aside0.mk A200
            clear A200
            by_cases c21 : t456 = true
            · subst c21
              have H1 : ((fathomref3_IsInf.f a1 64).bind fun t457 => (fathomref3_Fma.j0 k a0 a1 a2 (t447 != t448) t457)) = some r := by rw [if_pos rfl] at H; exact H
              clear H
              have H := H1
              clear H1
              replace H := Option.bind_eq_some_iff.mp H
              obtain ⟨t457, A220, H⟩ := H
              replace H : (fathomref3_Fma.j0 k a0 a1 a2 (t447 != t448) t457) = some r := H
              have A22 := Aside0.mk A220
              clear A220
              have H' := Aside0.mk H
              clear H
              go_wp2_with (first | ((with_reducible refine gate_callee (f := 105) rfl ?_); refine goesL_ (some 27) rfl rfl Try.func105 (by kernel_rfl) rfl #[.int .u64 a0, .int .i64 64] rfl (by (try simp only [List.map_toArray, List.map_cons, List.map_nil]); first | done | rfl | (simp only [List.length_drop, List.length_take]; rfl) | (simp only [gt_iff_lt, Int.natCast_pos]; rfl) | (rw [c40b0]; rfl)) ?_; (with_reducible refine (fathomref3_IsNan.calls a0 64 false _ A7.out).mono ?_); rintro e w' ⟨rfl, ⟨nd, rfl⟩⟩; refine ⟨_, rfl, ?_⟩) | (go_at_call 105; (with_reducible refine (fathomref3_IsNan.calls a1 64 false _ A9.out).mono ?_); rintro e w' ⟨rfl, ⟨nd, rfl⟩⟩) | (go_at_call 105; (with_reducible refine (fathomref3_IsNan.calls a2 64 false _ A11.out).mono ?_); rintro e w' ⟨rfl, ⟨nd, rfl⟩⟩) | (go_at_call 106; (with_reducible refine (fathomref3_IsInf.calls a0 64 false _ A13.out).mono ?_); rintro e w' ⟨rfl, ⟨nd, rfl⟩⟩) | (go_at_call 112; (with_reducible refine (fathomref3_IsZero.calls a0 64 true _ A20.out).mono ?_); rintro e w' ⟨rfl, ⟨nd, rfl⟩⟩) | (go_at_call 106; (with_reducible refine (fathomref3_IsInf.calls a1 64 t457 _ A22.out).mono ?_); rintro e w' ⟨rfl, ⟨nd, rfl⟩⟩))
              go_meet
              case rel => exact ⟨_, (t457), (by first | rfl | (simp; done) | (simp [*]; done)), H', ⟨by first | omega | exact Nat.le_refl _⟩, ⟨by repeat (first | (with_reducible first | exact HB.out | apply below_alloc | apply pw_below_drewN | apply below_drew1) | exact HB.out)⟩⟩
            · replace c21 := Bool.eq_false_iff.mpr c21
              subst c21
              have H1 : (fathomref3_Fma.j0 k a0 a1 a2 (t447 != t448) false) = some r := by rw [if_neg (show ¬ (false = true) by decide)] at H; exact H
              clear H
              have H := H1
              clear H1
              have H' := Aside0.mk H
              clear H
              go_wp2_with (first | ((with_reducible refine gate_callee (f := 105) rfl ?_); refine goesL_ (some 27) rfl rfl Try.func105 (by kernel_rfl) rfl #[.int .u64 a0, .int .i64 64] rfl (by (try simp only [List.map_toArray, List.map_cons, List.map_nil]); first | done | rfl | (simp only [List.length_drop, List.length_take]; rfl) | (simp only [gt_iff_lt, Int.natCast_pos]; rfl) | (rw [c40b0]; rfl)) ?_; (with_reducible refine (fathomref3_IsNan.calls a0 64 false _ A7.out).mono ?_); rintro e w' ⟨rfl, ⟨nd, rfl⟩⟩; refine ⟨_, rfl, ?_⟩) | (go_at_call 105; (with_reducible refine (fathomref3_IsNan.calls a1 64 false _ A9.out).mono ?_); rintro e w' ⟨rfl, ⟨nd, rfl⟩⟩) | (go_at_call 105; (with_reducible refine (fathomref3_IsNan.calls a2 64 false _ A11.out).mono ?_); rintro e w' ⟨rfl, ⟨nd, rfl⟩⟩) | (go_at_call 106; (with_reducible refine (fathomref3_IsInf.calls a0 64 false _ A13.out).mono ?_); rintro e w' ⟨rfl, ⟨nd, rfl⟩⟩) | (go_at_call 112; (with_reducible refine (fathomref3_IsZero.calls a0 64 false _ A20.out).mono ?_); rintro e w' ⟨rfl, ⟨nd, rfl⟩⟩))
              go_meet
              case rel => exact ⟨_, (false), (by first | rfl | (simp; done) | (simp [*]; done)), H', ⟨by first | omega | exact Nat.le_refl _⟩, ⟨by repeat (first | (with_reducible first | exact HB.out | apply below_alloc | apply pw_below_drewN | apply below_drew1) | exact HB.out)⟩⟩
  case rest =>
    clear HC6
    try clear c1
    try clear c2
    try clear p2
    try clear c8
    try clear c9
    try clear c10
    try clear c12
    try clear c14
    try clear c16
    try clear c18
    try clear c21
    obtain ⟨kq, x51_5, rfl, HA, HJ5, HB⟩ := hcut
    cases kq with
    | zero => exact absurd HA.out (by simp [fathomref3_Fma.j0])
    | succ kj5 =>
      have H := HA.out
      clear HA
      simp only [fathomref3_Fma.j0] at H
      by_cases c23 : x51_5 = true
      · subst c23
        have H1 : (some 9221120237041090560) = some r := by rw [if_pos rfl] at H; exact H
        clear H
        have H := H1
        clear H1
        obtain rfl := Option.some.inj H
        go_wp2
        go_ret
        exact ⟨by first | rfl | (simp [errW_none, errW_some] <;> rfl) | (simp [*, errW_none, errW_some] <;> rfl), by repeat (first | (with_reducible first | exact HB.out | apply below_alloc | apply pw_below_drewN | apply below_drew1) | exact HB.out)⟩
      · replace c23 := Bool.eq_false_iff.mpr c23
        subst c23
        have H1 : ((fathomref3_IsInf.f a0 64).bind fun t458 => (if t458 = true then (fathomref3_Fma.j1 kj5 a0 a1 a2 (t447 != t448) true) else ((fathomref3_IsInf.f a1 64).bind fun t459 => (fathomref3_Fma.j1 kj5 a0 a1 a2 (t447 != t448) t459)))) = some r := by rw [if_neg (show ¬ (false = true) by decide)] at H; exact H
        clear H
        have H := H1
        clear H1
        have HC24 := Aside0.mk H
        clear H
        go_upto_region 4 with (fail)
        go_cut [57] (fun v57 wc => ∃ (kq : Nat) (x57_23 : Bool), v57 = .bool x57_23 ∧ Aside0 (fathomref3_Fma.j1 kq a0 a1 a2 (t447 != t448) x57_23 = some r) ∧ Aside0 (kq ≤ kj5) ∧ Aside0 (Below w.heap.size w wc))
        case first =>
          have H := HC24.out
          clear HC24
          replace H := Option.bind_eq_some_iff.mp H
          obtain ⟨t458, A250, H⟩ := H
          replace H : (if t458 = true then (fathomref3_Fma.j1 kj5 a0 a1 a2 (t447 != t448) true) else ((fathomref3_IsInf.f a1 64).bind fun t459 => (fathomref3_Fma.j1 kj5 a0 a1 a2 (t447 != t448) t459))) = some r := H
          have A25 := Aside0.mk A250
          clear A250
          by_cases c26 : t458 = true
          · subst c26
            have H1 : (fathomref3_Fma.j1 kj5 a0 a1 a2 (t447 != t448) true) = some r := by rw [if_pos rfl] at H; exact H
            clear H
            have H := H1
            clear H1
            have H' := Aside0.mk H
            clear H
            go_wp2_with (first | ((with_reducible refine gate_callee (f := 106) rfl ?_); refine goesL_ (some 53) rfl rfl Try.func106 (by kernel_rfl) rfl #[.int .u64 a0, .int .i64 64] rfl (by (try simp only [List.map_toArray, List.map_cons, List.map_nil]); first | done | rfl | (simp only [List.length_drop, List.length_take]; rfl) | (simp only [gt_iff_lt, Int.natCast_pos]; rfl) | (rw [c40b0]; rfl)) ?_; (with_reducible refine (fathomref3_IsInf.calls a0 64 true _ A25.out).mono ?_); rintro e w' ⟨rfl, ⟨nd, rfl⟩⟩; refine ⟨_, rfl, ?_⟩))
            go_meet
            case rel => exact ⟨_, (true), (by first | rfl | (simp; done) | (simp [*]; done)), H', ⟨by have := HJ5.out; first | omega | exact Nat.le_refl _⟩, ⟨by repeat (first | (with_reducible first | exact HB.out | apply below_alloc | apply pw_below_drewN | apply below_drew1) | exact HB.out)⟩⟩
          · replace c26 := Bool.eq_false_iff.mpr c26
            subst c26
            have H1 : ((fathomref3_IsInf.f a1 64).bind fun t459 => (fathomref3_Fma.j1 kj5 a0 a1 a2 (t447 != t448) t459)) = some r := by rw [if_neg (show ¬ (false = true) by decide)] at H; exact H
            clear H
            have H := H1
            clear H1
            replace H := Option.bind_eq_some_iff.mp H
            obtain ⟨t459, A270, H⟩ := H
            replace H : (fathomref3_Fma.j1 kj5 a0 a1 a2 (t447 != t448) t459) = some r := H
            have A27 := Aside0.mk A270
            clear A270
            have H' := Aside0.mk H
            clear H
            go_wp2_with (first | ((with_reducible refine gate_callee (f := 106) rfl ?_); refine goesL_ (some 53) rfl rfl Try.func106 (by kernel_rfl) rfl #[.int .u64 a0, .int .i64 64] rfl (by (try simp only [List.map_toArray, List.map_cons, List.map_nil]); first | done | rfl | (simp only [List.length_drop, List.length_take]; rfl) | (simp only [gt_iff_lt, Int.natCast_pos]; rfl) | (rw [c40b0]; rfl)) ?_; (with_reducible refine (fathomref3_IsInf.calls a0 64 false _ A25.out).mono ?_); rintro e w' ⟨rfl, ⟨nd, rfl⟩⟩; refine ⟨_, rfl, ?_⟩) | (go_at_call 106; (with_reducible refine (fathomref3_IsInf.calls a1 64 t459 _ A27.out).mono ?_); rintro e w' ⟨rfl, ⟨nd, rfl⟩⟩))
            go_meet
            case rel => exact ⟨_, (t459), (by first | rfl | (simp; done) | (simp [*]; done)), H', ⟨by have := HJ5.out; first | omega | exact Nat.le_refl _⟩, ⟨by repeat (first | (with_reducible first | exact HB.out | apply below_alloc | apply pw_below_drewN | apply below_drew1) | exact HB.out)⟩⟩
        case rest =>
          clear HC24
          try clear c1
          try clear c2
          try clear p2
          try clear c8
          try clear c9
          try clear c10
          try clear c12
          try clear c14
          try clear c16
          try clear c18
          try clear c21
          try clear c23
          try clear c26
          try clear p2
          obtain ⟨kq, x57_23, rfl, HA, HJ23, HB⟩ := hcut
          cases kq with
          | zero => exact absurd HA.out (by simp [fathomref3_Fma.j1])
          | succ kj23 =>
            have H := HA.out
            clear HA
            simp only [fathomref3_Fma.j1] at H
            by_cases c28 : x57_23 = true
            · subst c28
              have H1 : ((fathomref3_signed.f (t447 != t448) 9218868437227405312 64).bind fun t460 => ((fathomref3_Add.f kj23 t460 a2 64).bind fun t461 => (some t461))) = some r := by rw [if_pos rfl] at H; exact H
              clear H
              have H := H1
              clear H1
              replace H := Option.bind_eq_some_iff.mp H
              obtain ⟨t460, A290, H⟩ := H
              replace H : ((fathomref3_Add.f kj23 t460 a2 64).bind fun t461 => (some t461)) = some r := H
              have A29 := Aside0.mk A290
              clear A290
              replace H := Option.bind_eq_some_iff.mp H
              obtain ⟨t461, A300, H⟩ := H
              replace H : (some t461) = some r := H
              have A30 := Aside0.mk A300
              clear A300
              obtain rfl := Option.some.inj H
              go_wp2_with (first | ((with_reducible refine gate_callee (f := 107) rfl ?_); refine goesL_ (some 59) rfl rfl Try.func107 (by kernel_rfl) rfl #[.bool (t447 != t448), .int .u64 9218868437227405312, .int .i64 64] rfl (by (try simp only [List.map_toArray, List.map_cons, List.map_nil]); first | done | rfl | (simp only [List.length_drop, List.length_take]; rfl) | (simp only [gt_iff_lt, Int.natCast_pos]; rfl) | (rw [c40b0]; rfl)) ?_; (with_reducible refine (fathomref3_signed.calls (t447 != t448) 9218868437227405312 64 t460 _ A29.out).mono ?_); rintro e w' ⟨rfl, ⟨nd, rfl⟩⟩; refine ⟨_, rfl, ?_⟩) | ((with_reducible refine gate_callee (f := 65) rfl ?_); refine goesL_ (some 61) rfl rfl Try.func65 (by kernel_rfl) rfl #[.int .u64 t460, .int .u64 a2, .int .i64 64] rfl (by (try simp only [List.map_toArray, List.map_cons, List.map_nil]); first | done | rfl | (simp only [List.length_drop, List.length_take]; rfl) | (simp only [gt_iff_lt, Int.natCast_pos]; rfl) | (rw [c40b0]; rfl)) ?_; (with_reducible refine (fathomref3_Add.calls kj23 t460 a2 64 t461 _ A30.out).mono ?_); rintro e w31 ⟨rfl, hb⟩; refine ⟨_, rfl, ?_⟩; have n0_ := Aside0.mk (below_step (by repeat (first | (with_reducible first | exact HB.out | apply below_alloc | apply pw_below_drewN | apply below_drew1) | exact HB.out)) hb); clear HB; have HB := n0_; clear n0_; (try clear hb); (try clear hb2); (try clear hk); (try clear hi)))
              go_ret
              exact ⟨by first | rfl | (simp [errW_none, errW_some] <;> rfl) | (simp [*, errW_none, errW_some] <;> rfl), by repeat (first | (with_reducible first | exact HB.out | apply below_alloc | apply pw_below_drewN | apply below_drew1) | exact HB.out)⟩
            · replace c28 := Bool.eq_false_iff.mpr c28
              subst c28
              have H1 : ((fathomref3_IsInf.f a2 64).bind fun t462 => (if t462 = true then (some a2) else ((fathomref3_Parts.f kj23 a0 64).bind fun bt463 => ((fathomref3_Parts.f kj23 a1 64).bind fun bt468 => ((fathomref3_Parts.f kj23 a2 64).bind fun bt473 => ((fathomref3_Times.f kj23 bt463.2.1 bt468.2.1).bind fun t478 => ((fathomref3_together.f kj23 (t447 != t448) t478 (wrap64 (bt463.2.2 + bt468.2.2)) bt473.1 bt473.2.1 bt473.2.2).bind fun bt481 => (if (bt481.2.1.length : Int) = 0 then (if (t447 != t448) = true then ((fathomref3_signed.f bt473.1 0 64).bind fun t486 => (some t486)) else ((fathomref3_signed.f false 0 64).bind fun t487 => (some t487))) else ((fathomref3_Of.f kj23 1).bind fun t488 => ((fathomref3_Nearest.f kj23 bt481.1 bt481.2.1 t488 bt481.2.2 64).bind fun t491 => (some t491))))))))))) = some r := by rw [if_neg (show ¬ (false = true) by decide)] at H; exact H
              clear H
              have H := H1
              clear H1
              replace H := Option.bind_eq_some_iff.mp H
              obtain ⟨t462, A320, H⟩ := H
              replace H : (if t462 = true then (some a2) else ((fathomref3_Parts.f kj23 a0 64).bind fun bt463 => ((fathomref3_Parts.f kj23 a1 64).bind fun bt468 => ((fathomref3_Parts.f kj23 a2 64).bind fun bt473 => ((fathomref3_Times.f kj23 bt463.2.1 bt468.2.1).bind fun t478 => ((fathomref3_together.f kj23 (t447 != t448) t478 (wrap64 (bt463.2.2 + bt468.2.2)) bt473.1 bt473.2.1 bt473.2.2).bind fun bt481 => (if (bt481.2.1.length : Int) = 0 then (if (t447 != t448) = true then ((fathomref3_signed.f bt473.1 0 64).bind fun t486 => (some t486)) else ((fathomref3_signed.f false 0 64).bind fun t487 => (some t487))) else ((fathomref3_Of.f kj23 1).bind fun t488 => ((fathomref3_Nearest.f kj23 bt481.1 bt481.2.1 t488 bt481.2.2 64).bind fun t491 => (some t491)))))))))) = some r := H
              have A32 := Aside0.mk A320
              clear A320
              by_cases c33 : t462 = true
              · subst c33
                have H1 : (some a2) = some r := by rw [if_pos rfl] at H; exact H
                clear H
                have H := H1
                clear H1
                obtain rfl := Option.some.inj H
                go_wp2_with (first | ((with_reducible refine gate_callee (f := 106) rfl ?_); refine goesL_ (some 63) rfl rfl Try.func106 (by kernel_rfl) rfl #[.int .u64 a2, .int .i64 64] rfl (by (try simp only [List.map_toArray, List.map_cons, List.map_nil]); first | done | rfl | (simp only [List.length_drop, List.length_take]; rfl) | (simp only [gt_iff_lt, Int.natCast_pos]; rfl) | (rw [c40b0]; rfl)) ?_; (with_reducible refine (fathomref3_IsInf.calls a2 64 true _ A32.out).mono ?_); rintro e w' ⟨rfl, ⟨nd, rfl⟩⟩; refine ⟨_, rfl, ?_⟩))
                go_ret
                exact ⟨by first | rfl | (simp [errW_none, errW_some] <;> rfl) | (simp [*, errW_none, errW_some] <;> rfl), by repeat (first | (with_reducible first | exact HB.out | apply below_alloc | apply pw_below_drewN | apply below_drew1) | exact HB.out)⟩
              · replace c33 := Bool.eq_false_iff.mpr c33
                subst c33
                have H1 : ((fathomref3_Parts.f kj23 a0 64).bind fun bt463 => ((fathomref3_Parts.f kj23 a1 64).bind fun bt468 => ((fathomref3_Parts.f kj23 a2 64).bind fun bt473 => ((fathomref3_Times.f kj23 bt463.2.1 bt468.2.1).bind fun t478 => ((fathomref3_together.f kj23 (t447 != t448) t478 (wrap64 (bt463.2.2 + bt468.2.2)) bt473.1 bt473.2.1 bt473.2.2).bind fun bt481 => (if (bt481.2.1.length : Int) = 0 then (if (t447 != t448) = true then ((fathomref3_signed.f bt473.1 0 64).bind fun t486 => (some t486)) else ((fathomref3_signed.f false 0 64).bind fun t487 => (some t487))) else ((fathomref3_Of.f kj23 1).bind fun t488 => ((fathomref3_Nearest.f kj23 bt481.1 bt481.2.1 t488 bt481.2.2 64).bind fun t491 => (some t491))))))))) = some r := by rw [if_neg (show ¬ (false = true) by decide)] at H; exact H
                clear H
                have H := H1
                clear H1
                replace H := Option.bind_eq_some_iff.mp H
                obtain ⟨⟨t463, t464, t465⟩, A340, H⟩ := H
                replace H : ((fathomref3_Parts.f kj23 a1 64).bind fun bt468 => ((fathomref3_Parts.f kj23 a2 64).bind fun bt473 => ((fathomref3_Times.f kj23 t464 bt468.2.1).bind fun t478 => ((fathomref3_together.f kj23 (t447 != t448) t478 (wrap64 (t465 + bt468.2.2)) bt473.1 bt473.2.1 bt473.2.2).bind fun bt481 => (if (bt481.2.1.length : Int) = 0 then (if (t447 != t448) = true then ((fathomref3_signed.f bt473.1 0 64).bind fun t486 => (some t486)) else ((fathomref3_signed.f false 0 64).bind fun t487 => (some t487))) else ((fathomref3_Of.f kj23 1).bind fun t488 => ((fathomref3_Nearest.f kj23 bt481.1 bt481.2.1 t488 bt481.2.2 64).bind fun t491 => (some t491)))))))) = some r := H
                have A34 := Aside0.mk A340
                clear A340
                replace H := Option.bind_eq_some_iff.mp H
                obtain ⟨⟨t468, t469, t470⟩, A350, H⟩ := H
                replace H : ((fathomref3_Parts.f kj23 a2 64).bind fun bt473 => ((fathomref3_Times.f kj23 t464 t469).bind fun t478 => ((fathomref3_together.f kj23 (t447 != t448) t478 (wrap64 (t465 + t470)) bt473.1 bt473.2.1 bt473.2.2).bind fun bt481 => (if (bt481.2.1.length : Int) = 0 then (if (t447 != t448) = true then ((fathomref3_signed.f bt473.1 0 64).bind fun t486 => (some t486)) else ((fathomref3_signed.f false 0 64).bind fun t487 => (some t487))) else ((fathomref3_Of.f kj23 1).bind fun t488 => ((fathomref3_Nearest.f kj23 bt481.1 bt481.2.1 t488 bt481.2.2 64).bind fun t491 => (some t491))))))) = some r := H
                have A35 := Aside0.mk A350
                clear A350
                replace H := Option.bind_eq_some_iff.mp H
                obtain ⟨⟨t473, t474, t475⟩, A360, H⟩ := H
                replace H : ((fathomref3_Times.f kj23 t464 t469).bind fun t478 => ((fathomref3_together.f kj23 (t447 != t448) t478 (wrap64 (t465 + t470)) t473 t474 t475).bind fun bt481 => (if (bt481.2.1.length : Int) = 0 then (if (t447 != t448) = true then ((fathomref3_signed.f t473 0 64).bind fun t486 => (some t486)) else ((fathomref3_signed.f false 0 64).bind fun t487 => (some t487))) else ((fathomref3_Of.f kj23 1).bind fun t488 => ((fathomref3_Nearest.f kj23 bt481.1 bt481.2.1 t488 bt481.2.2 64).bind fun t491 => (some t491)))))) = some r := H
                have A36 := Aside0.mk A360
                clear A360
                replace H := Option.bind_eq_some_iff.mp H
                obtain ⟨t478, A370, H⟩ := H
                replace H : ((fathomref3_together.f kj23 (t447 != t448) t478 (wrap64 (t465 + t470)) t473 t474 t475).bind fun bt481 => (if (bt481.2.1.length : Int) = 0 then (if (t447 != t448) = true then ((fathomref3_signed.f t473 0 64).bind fun t486 => (some t486)) else ((fathomref3_signed.f false 0 64).bind fun t487 => (some t487))) else ((fathomref3_Of.f kj23 1).bind fun t488 => ((fathomref3_Nearest.f kj23 bt481.1 bt481.2.1 t488 bt481.2.2 64).bind fun t491 => (some t491))))) = some r := H
                have A37 := Aside0.mk A370
                clear A370
                replace H := Option.bind_eq_some_iff.mp H
                obtain ⟨⟨t481, t482, t485⟩, A380, H⟩ := H
                replace H : (if (t482.length : Int) = 0 then (if (t447 != t448) = true then ((fathomref3_signed.f t473 0 64).bind fun t486 => (some t486)) else ((fathomref3_signed.f false 0 64).bind fun t487 => (some t487))) else ((fathomref3_Of.f kj23 1).bind fun t488 => ((fathomref3_Nearest.f kj23 t481 t482 t488 t485 64).bind fun t491 => (some t491)))) = some r := H
                have A38 := Aside0.mk A380
                clear A380
                by_cases c39 : (t482.length : Int) = 0
                · rw [if_pos c39] at H
                  have c39b0 : ((t482.length : Int) == 0) = true := beq_iff_eq.mpr c39
                  have c39b1 : ((t482.length : Int) != 0) = false := bne_eq_false_iff_eq.mpr c39
                  clear c39
                  by_cases c40 : (t447 != t448) = true
                  · rw [if_pos c40] at H
                    have c40b0 : (t447 != t448) = true := c40
                    (try (have c40b1 : decide (t447 = t448) = false := by simpa using c40))
                    (try (have c40b2 : (t447 == t448) = false := by simpa using c40))
                    (try (have c40b3 : ¬ (t447 = t448) := by simpa using c40))
                    clear c40
                    replace H := Option.bind_eq_some_iff.mp H
                    obtain ⟨t486, A410, H⟩ := H
                    replace H : (some t486) = some r := H
                    have A41 := Aside0.mk A410
                    clear A410
                    obtain rfl := Option.some.inj H
                    go_wp2_with (first | ((with_reducible refine gate_callee (f := 106) rfl ?_); refine goesL_ (some 63) rfl rfl Try.func106 (by kernel_rfl) rfl #[.int .u64 a2, .int .i64 64] rfl (by (try simp only [List.map_toArray, List.map_cons, List.map_nil]); first | done | rfl | (simp only [List.length_drop, List.length_take]; rfl) | (simp only [gt_iff_lt, Int.natCast_pos]; rfl) | (rw [c40b0]; rfl)) ?_; (with_reducible refine (fathomref3_IsInf.calls a2 64 false _ A32.out).mono ?_); rintro e w' ⟨rfl, ⟨nd, rfl⟩⟩; refine ⟨_, rfl, ?_⟩) | ((with_reducible refine gate_callee (f := 108) rfl ?_); refine goesL_ (some 67) rfl rfl Try.func108 (by kernel_rfl) rfl #[.int .u64 a0, .int .i64 64] rfl (by (try simp only [List.map_toArray, List.map_cons, List.map_nil]); first | done | rfl | (simp only [List.length_drop, List.length_take]; rfl) | (simp only [gt_iff_lt, Int.natCast_pos]; rfl) | (rw [c40b0]; rfl)) ?_; (with_reducible refine (fathomref3_Parts.calls kj23 a0 64 t463 t464 t465 _ A34.out).mono ?_); rintro e w42 ⟨v466, rfl, ho0, hb⟩; refine ⟨_, rfl, ?_⟩; have n0_ := Aside0.mk (Kd.R_lower ho0 (below_size (by repeat (first | (with_reducible first | exact HB.out | apply below_alloc | apply pw_below_drewN | apply below_drew1) | exact HB.out)))); have n1_ := Aside0.mk (below_step (by repeat (first | (with_reducible first | exact HB.out | apply below_alloc | apply pw_below_drewN | apply below_drew1) | exact HB.out)) hb); clear HB; have HO467 := n0_; have HB := n1_; clear n0_ n1_; (try clear hb); (try clear hb2); (try clear hk); (try clear hi); (try clear ho0)) | ((with_reducible refine gate_callee (f := 108) rfl ?_); refine goesL_ (some 73) rfl rfl Try.func108 (by kernel_rfl) rfl #[.int .u64 a1, .int .i64 64] rfl (by (try simp only [List.map_toArray, List.map_cons, List.map_nil]); first | done | rfl | (simp only [List.length_drop, List.length_take]; rfl) | (simp only [gt_iff_lt, Int.natCast_pos]; rfl) | (rw [c40b0]; rfl)) ?_; (with_reducible refine (fathomref3_Parts.calls kj23 a1 64 t468 t469 t470 _ A35.out).mono ?_); rintro e w43 ⟨v471, rfl, ho0, hb⟩; refine ⟨_, rfl, ?_⟩; have n0_ := Aside0.mk (Kd.R_elder' (by (with_reducible repeat (first | apply Kd.R_alloc | apply Kd.R_drewN | apply Kd.R_drew)); exact HO467.out) (Kd.R_base ho0) hb); have n1_ := Aside0.mk (Kd.R_lower (Kd.R_new' ho0 (Kd.R_lt (by (with_reducible repeat (first | apply Kd.R_alloc | apply Kd.R_drewN | apply Kd.R_drew)); exact HO467.out))) (below_size (by repeat (first | (with_reducible first | exact HB.out | apply below_alloc | apply pw_below_drewN | apply below_drew1) | exact HB.out)))); have n2_ := Aside0.mk (below_step (by repeat (first | (with_reducible first | exact HB.out | apply below_alloc | apply pw_below_drewN | apply below_drew1) | exact HB.out)) hb); clear HO467; clear HB; have HO467 := n0_; have HO472 := n1_; have HB := n2_; clear n0_ n1_ n2_; (try clear hb); (try clear hb2); (try clear hk); (try clear hi); (try clear ho0)) | ((with_reducible refine gate_callee (f := 108) rfl ?_); refine goesL_ (some 79) rfl rfl Try.func108 (by kernel_rfl) rfl #[.int .u64 a2, .int .i64 64] rfl (by (try simp only [List.map_toArray, List.map_cons, List.map_nil]); first | done | rfl | (simp only [List.length_drop, List.length_take]; rfl) | (simp only [gt_iff_lt, Int.natCast_pos]; rfl) | (rw [c40b0]; rfl)) ?_; (with_reducible refine (fathomref3_Parts.calls kj23 a2 64 t473 t474 t475 _ A36.out).mono ?_); rintro e w44 ⟨v476, rfl, ho0, hb⟩; refine ⟨_, rfl, ?_⟩; have n0_ := Aside0.mk (Kd.R_elder' (by (with_reducible repeat (first | apply Kd.R_alloc | apply Kd.R_drewN | apply Kd.R_drew)); exact HO467.out) (Kd.R_base ho0) hb); have n1_ := Aside0.mk (Kd.R_elder' (by (with_reducible repeat (first | apply Kd.R_alloc | apply Kd.R_drewN | apply Kd.R_drew)); exact HO472.out) (Kd.R_base ho0) hb); have n2_ := Aside0.mk (Kd.R_lower (Kd.R_new' (Kd.R_new' ho0 (Kd.R_lt (by (with_reducible repeat (first | apply Kd.R_alloc | apply Kd.R_drewN | apply Kd.R_drew)); exact HO467.out))) (Kd.R_lt (by (with_reducible repeat (first | apply Kd.R_alloc | apply Kd.R_drewN | apply Kd.R_drew)); exact HO472.out))) (below_size (by repeat (first | (with_reducible first | exact HB.out | apply below_alloc | apply pw_below_drewN | apply below_drew1) | exact HB.out)))); have n3_ := Aside0.mk (below_step (by repeat (first | (with_reducible first | exact HB.out | apply below_alloc | apply pw_below_drewN | apply below_drew1) | exact HB.out)) hb); clear HO467; clear HO472; clear HB; have HO467 := n0_; have HO472 := n1_; have HO477 := n2_; have HB := n3_; clear n0_ n1_ n2_ n3_; (try clear hb); (try clear hb2); (try clear hk); (try clear hi); (try clear ho0); obtain ⟨Ao45, co45, eo45⟩ := Kd.R_slice HO467.out; subst eo45; obtain ⟨Ao46, co46, eo46⟩ := Kd.R_slice HO472.out; subst eo46) | ((with_reducible refine gate_callee (f := 27) rfl ?_); refine goesL_ (some 85) rfl rfl Try.func27 (by kernel_rfl) rfl #[.slice Ao45 t464.length co45, .slice Ao46 t469.length co46] rfl (by (try simp only [List.map_toArray, List.map_cons, List.map_nil]); first | done | rfl | (simp only [List.length_drop, List.length_take]; rfl) | (simp only [gt_iff_lt, Int.natCast_pos]; rfl) | (rw [c40b0]; rfl)) ?_; (with_reducible refine (fathomref3_Times.calls kj23 _ _ t464 _ _ t469 t478 _ ?side1 ?side2 ?side3 ?side4 A37.out).mono ?_); (case side1 => repeat (first | exact (Kd.R_reads' HO467.out).2.2 | (with_reducible refine Kd.C_alloc ?_ _) | (with_reducible refine Kd.C_drewN ?_ _) | (with_reducible refine Kd.C_drew ?_))); (case side2 => exact (Kd.R_reads' HO467.out).2.1); (case side3 => repeat (first | exact (Kd.R_reads' HO472.out).2.2 | (with_reducible refine Kd.C_alloc ?_ _) | (with_reducible refine Kd.C_drewN ?_ _) | (with_reducible refine Kd.C_drew ?_))); (case side4 => exact (Kd.R_reads' HO472.out).2.1); rintro e w47 ⟨v479, rfl, ho0, hb⟩; refine ⟨_, rfl, ?_⟩; have n0_ := Aside0.mk (Kd.R_elder' (by (with_reducible repeat (first | apply Kd.R_alloc | apply Kd.R_drewN | apply Kd.R_drew)); exact HO467.out) (Kd.R_base ho0) hb); have n1_ := Aside0.mk (Kd.R_elder' (by (with_reducible repeat (first | apply Kd.R_alloc | apply Kd.R_drewN | apply Kd.R_drew)); exact HO472.out) (Kd.R_base ho0) hb); have n2_ := Aside0.mk (Kd.R_elder' (by (with_reducible repeat (first | apply Kd.R_alloc | apply Kd.R_drewN | apply Kd.R_drew)); exact HO477.out) (Kd.R_base ho0) hb); have n3_ := Aside0.mk (Kd.R_lower (Kd.R_new' (Kd.R_new' (Kd.R_new' ho0 (Kd.R_lt (by (with_reducible repeat (first | apply Kd.R_alloc | apply Kd.R_drewN | apply Kd.R_drew)); exact HO467.out))) (Kd.R_lt (by (with_reducible repeat (first | apply Kd.R_alloc | apply Kd.R_drewN | apply Kd.R_drew)); exact HO472.out))) (Kd.R_lt (by (with_reducible repeat (first | apply Kd.R_alloc | apply Kd.R_drewN | apply Kd.R_drew)); exact HO477.out))) (below_size (by repeat (first | (with_reducible first | exact HB.out | apply below_alloc | apply pw_below_drewN | apply below_drew1) | exact HB.out)))); have n4_ := Aside0.mk (below_step (by repeat (first | (with_reducible first | exact HB.out | apply below_alloc | apply pw_below_drewN | apply below_drew1) | exact HB.out)) hb); clear HO467; clear HO472; clear HO477; clear HB; have HO467 := n0_; have HO472 := n1_; have HO477 := n2_; have HO480 := n3_; have HB := n4_; clear n0_ n1_ n2_ n3_ n4_; (try clear hb); (try clear hb2); (try clear hk); (try clear hi); (try clear ho0); obtain ⟨Ao48, co48, eo48⟩ := Kd.R_slice HO480.out; subst eo48; obtain ⟨Ao49, co49, eo49⟩ := Kd.R_slice HO477.out; subst eo49) | ((with_reducible refine gate_callee (f := 127) rfl ?_); refine goesL_ (some 95) rfl rfl Try.func127 (by kernel_rfl) rfl #[.bool (t447 != t448), .slice Ao48 t478.length co48, .int .i64 (wrap64 (t465 + t470)), .bool t473, .slice Ao49 t474.length co49, .int .i64 t475] rfl (by (try simp only [List.map_toArray, List.map_cons, List.map_nil]); first | done | rfl | (simp only [List.length_drop, List.length_take]; rfl) | (simp only [gt_iff_lt, Int.natCast_pos]; rfl) | (rw [c40b0]; rfl)) ?_; (with_reducible refine (fathomref3_together.calls kj23 (t447 != t448) (fun k_ => some k_ = (.slice Ao48 t478.length co48 : Value).ownBlock) (.slice Ao48 t478.length co48) t478 (wrap64 (t465 + t470)) t473 _ _ t474 t475 t481 t482 t485 w _ ?side1 ?side2 ?side3 ?side4 A38.out).mono ?_); (case side1 => repeat (first | (with_reducible first | exact HB.out | apply below_alloc | apply pw_below_drewN | apply below_drew1) | exact HB.out)); (case side2 => exact Kd.R_tight rfl HO480.out); (case side3 => exact Kd.C_kept_own (HO477.out) (fun k_ hk_ hs_ => (hk_.2) hs_)); (case side4 => exact (Kd.R_reads' HO477.out).2.1); rintro e w50 ⟨v483, rfl, ho0, hb, hkp⟩; refine ⟨_, rfl, ?_⟩; have n0_ := Aside0.mk (Kd.R_mono (ok' := fun k_ => some k_ ≠ (.slice Ao46 t469.length co46 : Value).ownBlock ∧ some k_ ≠ (.slice Ao49 t474.length co49 : Value).ownBlock ∧ some k_ ≠ (v483 : Value).ownBlock) (Kd.R_keptB (HO467.out) hkp (fun k_ hk_ hs_ => (hk_.2) hs_)) (fun k_ hk_ => ⟨hk_.1.1.1.2, hk_.1.1.2, fun e_ => Or.elim (ho0.1 k_ e_.symm) (fun hs_ => hk_.2.1 hs_) (fun hn_ => Nat.not_le.2 hk_.2.2 hn_)⟩)); have n1_ := Aside0.mk (Kd.R_mono (ok' := fun k_ => some k_ ≠ (.slice Ao45 t464.length co45 : Value).ownBlock ∧ some k_ ≠ (.slice Ao49 t474.length co49 : Value).ownBlock ∧ some k_ ≠ (v483 : Value).ownBlock) (Kd.R_keptB (HO472.out) hkp (fun k_ hk_ hs_ => (hk_.2) hs_)) (fun k_ hk_ => ⟨hk_.1.1.1.2, hk_.1.1.2, fun e_ => Or.elim (ho0.1 k_ e_.symm) (fun hs_ => hk_.2.1 hs_) (fun hn_ => Nat.not_le.2 hk_.2.2 hn_)⟩)); have n2_ := Aside0.mk (Kd.R_mono (ok' := fun k_ => some k_ ≠ (.slice Ao45 t464.length co45 : Value).ownBlock ∧ some k_ ≠ (.slice Ao46 t469.length co46 : Value).ownBlock ∧ some k_ ≠ (v483 : Value).ownBlock) (Kd.R_keptB (HO477.out) hkp (fun k_ hk_ hs_ => (hk_.2) hs_)) (fun k_ hk_ => ⟨hk_.1.1.1.2, hk_.1.1.2, fun e_ => Or.elim (ho0.1 k_ e_.symm) (fun hs_ => hk_.2.1 hs_) (fun hn_ => Nat.not_le.2 hk_.2.2 hn_)⟩)); have n3_ := Aside0.mk (Kd.R_mono (ok' := fun k_ => some k_ ≠ (.slice Ao45 t464.length co45 : Value).ownBlock ∧ some k_ ≠ (.slice Ao46 t469.length co46 : Value).ownBlock ∧ some k_ ≠ (.slice Ao49 t474.length co49 : Value).ownBlock) ho0 (fun k_ hk_ => ⟨Or.elim hk_ (fun hs_ => fun e_ => (((HO467.out).1 k_ e_.symm).2) hs_) (fun hn_ => (Kd.fresh' (Kd.R_lt (by (with_reducible repeat (first | apply Kd.R_alloc | apply Kd.R_drewN | apply Kd.R_drew)); exact HO467.out)) k_ hn_)), Or.elim hk_ (fun hs_ => fun e_ => (((HO472.out).1 k_ e_.symm).2) hs_) (fun hn_ => (Kd.fresh' (Kd.R_lt (by (with_reducible repeat (first | apply Kd.R_alloc | apply Kd.R_drewN | apply Kd.R_drew)); exact HO472.out)) k_ hn_)), Or.elim hk_ (fun hs_ => fun e_ => (((HO477.out).1 k_ e_.symm).2) hs_) (fun hn_ => (Kd.fresh' (Kd.R_lt (by (with_reducible repeat (first | apply Kd.R_alloc | apply Kd.R_drewN | apply Kd.R_drew)); exact HO477.out)) k_ hn_))⟩)); have n4_ := Aside0.mk (hb); clear HO467; clear HO472; clear HO477; clear HB; clear HO480; have HO467 := n0_; have HO472 := n1_; have HO477 := n2_; have HO484 := n3_; have HB := n4_; clear n0_ n1_ n2_ n3_ n4_; (try clear hb); (try clear hkp); (try clear ho0); obtain ⟨Ao51, co51, eo51⟩ := Kd.R_slice HO484.out; subst eo51) | ((with_reducible refine gate_callee (f := 107) rfl ?_); refine goesL_ (some 106) rfl rfl Try.func107 (by kernel_rfl) rfl #[.bool t473, .int .u64 0, .int .i64 64] rfl (by (try simp only [List.map_toArray, List.map_cons, List.map_nil]); first | done | rfl | (simp only [List.length_drop, List.length_take]; rfl) | (simp only [gt_iff_lt, Int.natCast_pos]; rfl) | (rw [c40b0]; rfl)) ?_; (with_reducible refine (fathomref3_signed.calls t473 0 64 t486 _ A41.out).mono ?_); rintro e w' ⟨rfl, ⟨nd, rfl⟩⟩; refine ⟨_, rfl, ?_⟩))
                    go_ret
                    exact ⟨by first | rfl | (simp [errW_none, errW_some] <;> rfl) | (simp [*, errW_none, errW_some] <;> rfl), by repeat (first | (with_reducible first | exact HB.out | apply below_alloc | apply pw_below_drewN | apply below_drew1) | exact HB.out)⟩
                  · rw [if_neg c40] at H
                    have c40b0 : (t447 != t448) = false := by simpa using c40
                    (try (have c40b1 : decide (t447 = t448) = true := by simpa using c40))
                    (try (have c40b2 : (t447 == t448) = true := by simpa using c40))
                    clear c40
                    replace H := Option.bind_eq_some_iff.mp H
                    obtain ⟨t487, A520, H⟩ := H
                    replace H : (some t487) = some r := H
                    have A52 := Aside0.mk A520
                    clear A520
                    obtain rfl := Option.some.inj H
                    go_wp2_with (first | ((with_reducible refine gate_callee (f := 106) rfl ?_); refine goesL_ (some 63) rfl rfl Try.func106 (by kernel_rfl) rfl #[.int .u64 a2, .int .i64 64] rfl (by (try simp only [List.map_toArray, List.map_cons, List.map_nil]); first | done | rfl | (simp only [List.length_drop, List.length_take]; rfl) | (simp only [gt_iff_lt, Int.natCast_pos]; rfl) | (rw [c40b0]; rfl)) ?_; (with_reducible refine (fathomref3_IsInf.calls a2 64 false _ A32.out).mono ?_); rintro e w' ⟨rfl, ⟨nd, rfl⟩⟩; refine ⟨_, rfl, ?_⟩) | ((with_reducible refine gate_callee (f := 108) rfl ?_); refine goesL_ (some 67) rfl rfl Try.func108 (by kernel_rfl) rfl #[.int .u64 a0, .int .i64 64] rfl (by (try simp only [List.map_toArray, List.map_cons, List.map_nil]); first | done | rfl | (simp only [List.length_drop, List.length_take]; rfl) | (simp only [gt_iff_lt, Int.natCast_pos]; rfl) | (rw [c40b0]; rfl)) ?_; (with_reducible refine (fathomref3_Parts.calls kj23 a0 64 t463 t464 t465 _ A34.out).mono ?_); rintro e w53 ⟨v466, rfl, ho0, hb⟩; refine ⟨_, rfl, ?_⟩; have n0_ := Aside0.mk (Kd.R_lower ho0 (below_size (by repeat (first | (with_reducible first | exact HB.out | apply below_alloc | apply pw_below_drewN | apply below_drew1) | exact HB.out)))); have n1_ := Aside0.mk (below_step (by repeat (first | (with_reducible first | exact HB.out | apply below_alloc | apply pw_below_drewN | apply below_drew1) | exact HB.out)) hb); clear HB; have HO467 := n0_; have HB := n1_; clear n0_ n1_; (try clear hb); (try clear hb2); (try clear hk); (try clear hi); (try clear ho0)) | ((with_reducible refine gate_callee (f := 108) rfl ?_); refine goesL_ (some 73) rfl rfl Try.func108 (by kernel_rfl) rfl #[.int .u64 a1, .int .i64 64] rfl (by (try simp only [List.map_toArray, List.map_cons, List.map_nil]); first | done | rfl | (simp only [List.length_drop, List.length_take]; rfl) | (simp only [gt_iff_lt, Int.natCast_pos]; rfl) | (rw [c40b0]; rfl)) ?_; (with_reducible refine (fathomref3_Parts.calls kj23 a1 64 t468 t469 t470 _ A35.out).mono ?_); rintro e w54 ⟨v471, rfl, ho0, hb⟩; refine ⟨_, rfl, ?_⟩; have n0_ := Aside0.mk (Kd.R_elder' (by (with_reducible repeat (first | apply Kd.R_alloc | apply Kd.R_drewN | apply Kd.R_drew)); exact HO467.out) (Kd.R_base ho0) hb); have n1_ := Aside0.mk (Kd.R_lower (Kd.R_new' ho0 (Kd.R_lt (by (with_reducible repeat (first | apply Kd.R_alloc | apply Kd.R_drewN | apply Kd.R_drew)); exact HO467.out))) (below_size (by repeat (first | (with_reducible first | exact HB.out | apply below_alloc | apply pw_below_drewN | apply below_drew1) | exact HB.out)))); have n2_ := Aside0.mk (below_step (by repeat (first | (with_reducible first | exact HB.out | apply below_alloc | apply pw_below_drewN | apply below_drew1) | exact HB.out)) hb); clear HO467; clear HB; have HO467 := n0_; have HO472 := n1_; have HB := n2_; clear n0_ n1_ n2_; (try clear hb); (try clear hb2); (try clear hk); (try clear hi); (try clear ho0)) | ((with_reducible refine gate_callee (f := 108) rfl ?_); refine goesL_ (some 79) rfl rfl Try.func108 (by kernel_rfl) rfl #[.int .u64 a2, .int .i64 64] rfl (by (try simp only [List.map_toArray, List.map_cons, List.map_nil]); first | done | rfl | (simp only [List.length_drop, List.length_take]; rfl) | (simp only [gt_iff_lt, Int.natCast_pos]; rfl) | (rw [c40b0]; rfl)) ?_; (with_reducible refine (fathomref3_Parts.calls kj23 a2 64 t473 t474 t475 _ A36.out).mono ?_); rintro e w55 ⟨v476, rfl, ho0, hb⟩; refine ⟨_, rfl, ?_⟩; have n0_ := Aside0.mk (Kd.R_elder' (by (with_reducible repeat (first | apply Kd.R_alloc | apply Kd.R_drewN | apply Kd.R_drew)); exact HO467.out) (Kd.R_base ho0) hb); have n1_ := Aside0.mk (Kd.R_elder' (by (with_reducible repeat (first | apply Kd.R_alloc | apply Kd.R_drewN | apply Kd.R_drew)); exact HO472.out) (Kd.R_base ho0) hb); have n2_ := Aside0.mk (Kd.R_lower (Kd.R_new' (Kd.R_new' ho0 (Kd.R_lt (by (with_reducible repeat (first | apply Kd.R_alloc | apply Kd.R_drewN | apply Kd.R_drew)); exact HO467.out))) (Kd.R_lt (by (with_reducible repeat (first | apply Kd.R_alloc | apply Kd.R_drewN | apply Kd.R_drew)); exact HO472.out))) (below_size (by repeat (first | (with_reducible first | exact HB.out | apply below_alloc | apply pw_below_drewN | apply below_drew1) | exact HB.out)))); have n3_ := Aside0.mk (below_step (by repeat (first | (with_reducible first | exact HB.out | apply below_alloc | apply pw_below_drewN | apply below_drew1) | exact HB.out)) hb); clear HO467; clear HO472; clear HB; have HO467 := n0_; have HO472 := n1_; have HO477 := n2_; have HB := n3_; clear n0_ n1_ n2_ n3_; (try clear hb); (try clear hb2); (try clear hk); (try clear hi); (try clear ho0); obtain ⟨Ao56, co56, eo56⟩ := Kd.R_slice HO467.out; subst eo56; obtain ⟨Ao57, co57, eo57⟩ := Kd.R_slice HO472.out; subst eo57) | ((with_reducible refine gate_callee (f := 27) rfl ?_); refine goesL_ (some 85) rfl rfl Try.func27 (by kernel_rfl) rfl #[.slice Ao56 t464.length co56, .slice Ao57 t469.length co57] rfl (by (try simp only [List.map_toArray, List.map_cons, List.map_nil]); first | done | rfl | (simp only [List.length_drop, List.length_take]; rfl) | (simp only [gt_iff_lt, Int.natCast_pos]; rfl) | (rw [c40b0]; rfl)) ?_; (with_reducible refine (fathomref3_Times.calls kj23 _ _ t464 _ _ t469 t478 _ ?side1 ?side2 ?side3 ?side4 A37.out).mono ?_); (case side1 => repeat (first | exact (Kd.R_reads' HO467.out).2.2 | (with_reducible refine Kd.C_alloc ?_ _) | (with_reducible refine Kd.C_drewN ?_ _) | (with_reducible refine Kd.C_drew ?_))); (case side2 => exact (Kd.R_reads' HO467.out).2.1); (case side3 => repeat (first | exact (Kd.R_reads' HO472.out).2.2 | (with_reducible refine Kd.C_alloc ?_ _) | (with_reducible refine Kd.C_drewN ?_ _) | (with_reducible refine Kd.C_drew ?_))); (case side4 => exact (Kd.R_reads' HO472.out).2.1); rintro e w58 ⟨v479, rfl, ho0, hb⟩; refine ⟨_, rfl, ?_⟩; have n0_ := Aside0.mk (Kd.R_elder' (by (with_reducible repeat (first | apply Kd.R_alloc | apply Kd.R_drewN | apply Kd.R_drew)); exact HO467.out) (Kd.R_base ho0) hb); have n1_ := Aside0.mk (Kd.R_elder' (by (with_reducible repeat (first | apply Kd.R_alloc | apply Kd.R_drewN | apply Kd.R_drew)); exact HO472.out) (Kd.R_base ho0) hb); have n2_ := Aside0.mk (Kd.R_elder' (by (with_reducible repeat (first | apply Kd.R_alloc | apply Kd.R_drewN | apply Kd.R_drew)); exact HO477.out) (Kd.R_base ho0) hb); have n3_ := Aside0.mk (Kd.R_lower (Kd.R_new' (Kd.R_new' (Kd.R_new' ho0 (Kd.R_lt (by (with_reducible repeat (first | apply Kd.R_alloc | apply Kd.R_drewN | apply Kd.R_drew)); exact HO467.out))) (Kd.R_lt (by (with_reducible repeat (first | apply Kd.R_alloc | apply Kd.R_drewN | apply Kd.R_drew)); exact HO472.out))) (Kd.R_lt (by (with_reducible repeat (first | apply Kd.R_alloc | apply Kd.R_drewN | apply Kd.R_drew)); exact HO477.out))) (below_size (by repeat (first | (with_reducible first | exact HB.out | apply below_alloc | apply pw_below_drewN | apply below_drew1) | exact HB.out)))); have n4_ := Aside0.mk (below_step (by repeat (first | (with_reducible first | exact HB.out | apply below_alloc | apply pw_below_drewN | apply below_drew1) | exact HB.out)) hb); clear HO467; clear HO472; clear HO477; clear HB; have HO467 := n0_; have HO472 := n1_; have HO477 := n2_; have HO480 := n3_; have HB := n4_; clear n0_ n1_ n2_ n3_ n4_; (try clear hb); (try clear hb2); (try clear hk); (try clear hi); (try clear ho0); obtain ⟨Ao59, co59, eo59⟩ := Kd.R_slice HO480.out; subst eo59; obtain ⟨Ao60, co60, eo60⟩ := Kd.R_slice HO477.out; subst eo60) | ((with_reducible refine gate_callee (f := 127) rfl ?_); refine goesL_ (some 95) rfl rfl Try.func127 (by kernel_rfl) rfl #[.bool (t447 != t448), .slice Ao59 t478.length co59, .int .i64 (wrap64 (t465 + t470)), .bool t473, .slice Ao60 t474.length co60, .int .i64 t475] rfl (by (try simp only [List.map_toArray, List.map_cons, List.map_nil]); first | done | rfl | (simp only [List.length_drop, List.length_take]; rfl) | (simp only [gt_iff_lt, Int.natCast_pos]; rfl) | (rw [c40b0]; rfl)) ?_; (with_reducible refine (fathomref3_together.calls kj23 (t447 != t448) (fun k_ => some k_ = (.slice Ao59 t478.length co59 : Value).ownBlock) (.slice Ao59 t478.length co59) t478 (wrap64 (t465 + t470)) t473 _ _ t474 t475 t481 t482 t485 w _ ?side1 ?side2 ?side3 ?side4 A38.out).mono ?_); (case side1 => repeat (first | (with_reducible first | exact HB.out | apply below_alloc | apply pw_below_drewN | apply below_drew1) | exact HB.out)); (case side2 => exact Kd.R_tight rfl HO480.out); (case side3 => exact Kd.C_kept_own (HO477.out) (fun k_ hk_ hs_ => (hk_.2) hs_)); (case side4 => exact (Kd.R_reads' HO477.out).2.1); rintro e w61 ⟨v483, rfl, ho0, hb, hkp⟩; refine ⟨_, rfl, ?_⟩; have n0_ := Aside0.mk (Kd.R_mono (ok' := fun k_ => some k_ ≠ (.slice Ao57 t469.length co57 : Value).ownBlock ∧ some k_ ≠ (.slice Ao60 t474.length co60 : Value).ownBlock ∧ some k_ ≠ (v483 : Value).ownBlock) (Kd.R_keptB (HO467.out) hkp (fun k_ hk_ hs_ => (hk_.2) hs_)) (fun k_ hk_ => ⟨hk_.1.1.1.2, hk_.1.1.2, fun e_ => Or.elim (ho0.1 k_ e_.symm) (fun hs_ => hk_.2.1 hs_) (fun hn_ => Nat.not_le.2 hk_.2.2 hn_)⟩)); have n1_ := Aside0.mk (Kd.R_mono (ok' := fun k_ => some k_ ≠ (.slice Ao56 t464.length co56 : Value).ownBlock ∧ some k_ ≠ (.slice Ao60 t474.length co60 : Value).ownBlock ∧ some k_ ≠ (v483 : Value).ownBlock) (Kd.R_keptB (HO472.out) hkp (fun k_ hk_ hs_ => (hk_.2) hs_)) (fun k_ hk_ => ⟨hk_.1.1.1.2, hk_.1.1.2, fun e_ => Or.elim (ho0.1 k_ e_.symm) (fun hs_ => hk_.2.1 hs_) (fun hn_ => Nat.not_le.2 hk_.2.2 hn_)⟩)); have n2_ := Aside0.mk (Kd.R_mono (ok' := fun k_ => some k_ ≠ (.slice Ao56 t464.length co56 : Value).ownBlock ∧ some k_ ≠ (.slice Ao57 t469.length co57 : Value).ownBlock ∧ some k_ ≠ (v483 : Value).ownBlock) (Kd.R_keptB (HO477.out) hkp (fun k_ hk_ hs_ => (hk_.2) hs_)) (fun k_ hk_ => ⟨hk_.1.1.1.2, hk_.1.1.2, fun e_ => Or.elim (ho0.1 k_ e_.symm) (fun hs_ => hk_.2.1 hs_) (fun hn_ => Nat.not_le.2 hk_.2.2 hn_)⟩)); have n3_ := Aside0.mk (Kd.R_mono (ok' := fun k_ => some k_ ≠ (.slice Ao56 t464.length co56 : Value).ownBlock ∧ some k_ ≠ (.slice Ao57 t469.length co57 : Value).ownBlock ∧ some k_ ≠ (.slice Ao60 t474.length co60 : Value).ownBlock) ho0 (fun k_ hk_ => ⟨Or.elim hk_ (fun hs_ => fun e_ => (((HO467.out).1 k_ e_.symm).2) hs_) (fun hn_ => (Kd.fresh' (Kd.R_lt (by (with_reducible repeat (first | apply Kd.R_alloc | apply Kd.R_drewN | apply Kd.R_drew)); exact HO467.out)) k_ hn_)), Or.elim hk_ (fun hs_ => fun e_ => (((HO472.out).1 k_ e_.symm).2) hs_) (fun hn_ => (Kd.fresh' (Kd.R_lt (by (with_reducible repeat (first | apply Kd.R_alloc | apply Kd.R_drewN | apply Kd.R_drew)); exact HO472.out)) k_ hn_)), Or.elim hk_ (fun hs_ => fun e_ => (((HO477.out).1 k_ e_.symm).2) hs_) (fun hn_ => (Kd.fresh' (Kd.R_lt (by (with_reducible repeat (first | apply Kd.R_alloc | apply Kd.R_drewN | apply Kd.R_drew)); exact HO477.out)) k_ hn_))⟩)); have n4_ := Aside0.mk (hb); clear HO467; clear HO472; clear HO477; clear HB; clear HO480; have HO467 := n0_; have HO472 := n1_; have HO477 := n2_; have HO484 := n3_; have HB := n4_; clear n0_ n1_ n2_ n3_ n4_; (try clear hb); (try clear hkp); (try clear ho0); obtain ⟨Ao62, co62, eo62⟩ := Kd.R_slice HO484.out; subst eo62) | ((with_reducible refine gate_callee (f := 107) rfl ?_); refine goesL_ (some 106) rfl rfl Try.func107 (by kernel_rfl) rfl #[.bool false, .int .u64 0, .int .i64 64] rfl (by (try simp only [List.map_toArray, List.map_cons, List.map_nil]); first | done | rfl | (simp only [List.length_drop, List.length_take]; rfl) | (simp only [gt_iff_lt, Int.natCast_pos]; rfl) | (rw [c40b0]; rfl)) ?_; (with_reducible refine (fathomref3_signed.calls false 0 64 t487 _ A52.out).mono ?_); rintro e w' ⟨rfl, ⟨nd, rfl⟩⟩; refine ⟨_, rfl, ?_⟩))
                    go_ret
                    exact ⟨by first | rfl | (simp [errW_none, errW_some] <;> rfl) | (simp [*, errW_none, errW_some] <;> rfl), by repeat (first | (with_reducible first | exact HB.out | apply below_alloc | apply pw_below_drewN | apply below_drew1) | exact HB.out)⟩
                · rw [if_neg c39] at H
                  have c39b0 : ((t482.length : Int) == 0) = false := beq_eq_false_iff_ne.mpr c39
                  have c39b1 : ((t482.length : Int) != 0) = true := bne_iff_ne.mpr c39
                  have c39b2 : ¬ (t482 = []) := fun h_ => c39 (by rw [h_]; rfl)
                  replace H := Option.bind_eq_some_iff.mp H
                  obtain ⟨t488, A630, H⟩ := H
                  replace H : ((fathomref3_Nearest.f kj23 t481 t482 t488 t485 64).bind fun t491 => (some t491)) = some r := H
                  have A63 := Aside0.mk A630
                  clear A630
                  replace H := Option.bind_eq_some_iff.mp H
                  obtain ⟨t491, A640, H⟩ := H
                  replace H : (some t491) = some r := H
                  have A64 := Aside0.mk A640
                  clear A640
                  obtain rfl := Option.some.inj H
                  go_wp2_with (first | ((with_reducible refine gate_callee (f := 106) rfl ?_); refine goesL_ (some 63) rfl rfl Try.func106 (by kernel_rfl) rfl #[.int .u64 a2, .int .i64 64] rfl (by (try simp only [List.map_toArray, List.map_cons, List.map_nil]); first | done | rfl | (simp only [List.length_drop, List.length_take]; rfl) | (simp only [gt_iff_lt, Int.natCast_pos]; rfl) | (rw [c40b0]; rfl)) ?_; (with_reducible refine (fathomref3_IsInf.calls a2 64 false _ A32.out).mono ?_); rintro e w' ⟨rfl, ⟨nd, rfl⟩⟩; refine ⟨_, rfl, ?_⟩) | ((with_reducible refine gate_callee (f := 108) rfl ?_); refine goesL_ (some 67) rfl rfl Try.func108 (by kernel_rfl) rfl #[.int .u64 a0, .int .i64 64] rfl (by (try simp only [List.map_toArray, List.map_cons, List.map_nil]); first | done | rfl | (simp only [List.length_drop, List.length_take]; rfl) | (simp only [gt_iff_lt, Int.natCast_pos]; rfl) | (rw [c40b0]; rfl)) ?_; (with_reducible refine (fathomref3_Parts.calls kj23 a0 64 t463 t464 t465 _ A34.out).mono ?_); rintro e w65 ⟨v466, rfl, ho0, hb⟩; refine ⟨_, rfl, ?_⟩; have n0_ := Aside0.mk (Kd.R_lower ho0 (below_size (by repeat (first | (with_reducible first | exact HB.out | apply below_alloc | apply pw_below_drewN | apply below_drew1) | exact HB.out)))); have n1_ := Aside0.mk (below_step (by repeat (first | (with_reducible first | exact HB.out | apply below_alloc | apply pw_below_drewN | apply below_drew1) | exact HB.out)) hb); clear HB; have HO467 := n0_; have HB := n1_; clear n0_ n1_; (try clear hb); (try clear hb2); (try clear hk); (try clear hi); (try clear ho0)) | ((with_reducible refine gate_callee (f := 108) rfl ?_); refine goesL_ (some 73) rfl rfl Try.func108 (by kernel_rfl) rfl #[.int .u64 a1, .int .i64 64] rfl (by (try simp only [List.map_toArray, List.map_cons, List.map_nil]); first | done | rfl | (simp only [List.length_drop, List.length_take]; rfl) | (simp only [gt_iff_lt, Int.natCast_pos]; rfl) | (rw [c40b0]; rfl)) ?_; (with_reducible refine (fathomref3_Parts.calls kj23 a1 64 t468 t469 t470 _ A35.out).mono ?_); rintro e w66 ⟨v471, rfl, ho0, hb⟩; refine ⟨_, rfl, ?_⟩; have n0_ := Aside0.mk (Kd.R_elder' (by (with_reducible repeat (first | apply Kd.R_alloc | apply Kd.R_drewN | apply Kd.R_drew)); exact HO467.out) (Kd.R_base ho0) hb); have n1_ := Aside0.mk (Kd.R_lower (Kd.R_new' ho0 (Kd.R_lt (by (with_reducible repeat (first | apply Kd.R_alloc | apply Kd.R_drewN | apply Kd.R_drew)); exact HO467.out))) (below_size (by repeat (first | (with_reducible first | exact HB.out | apply below_alloc | apply pw_below_drewN | apply below_drew1) | exact HB.out)))); have n2_ := Aside0.mk (below_step (by repeat (first | (with_reducible first | exact HB.out | apply below_alloc | apply pw_below_drewN | apply below_drew1) | exact HB.out)) hb); clear HO467; clear HB; have HO467 := n0_; have HO472 := n1_; have HB := n2_; clear n0_ n1_ n2_; (try clear hb); (try clear hb2); (try clear hk); (try clear hi); (try clear ho0)) | ((with_reducible refine gate_callee (f := 108) rfl ?_); refine goesL_ (some 79) rfl rfl Try.func108 (by kernel_rfl) rfl #[.int .u64 a2, .int .i64 64] rfl (by (try simp only [List.map_toArray, List.map_cons, List.map_nil]); first | done | rfl | (simp only [List.length_drop, List.length_take]; rfl) | (simp only [gt_iff_lt, Int.natCast_pos]; rfl) | (rw [c40b0]; rfl)) ?_; (with_reducible refine (fathomref3_Parts.calls kj23 a2 64 t473 t474 t475 _ A36.out).mono ?_); rintro e w67 ⟨v476, rfl, ho0, hb⟩; refine ⟨_, rfl, ?_⟩; have n0_ := Aside0.mk (Kd.R_elder' (by (with_reducible repeat (first | apply Kd.R_alloc | apply Kd.R_drewN | apply Kd.R_drew)); exact HO467.out) (Kd.R_base ho0) hb); have n1_ := Aside0.mk (Kd.R_elder' (by (with_reducible repeat (first | apply Kd.R_alloc | apply Kd.R_drewN | apply Kd.R_drew)); exact HO472.out) (Kd.R_base ho0) hb); have n2_ := Aside0.mk (Kd.R_lower (Kd.R_new' (Kd.R_new' ho0 (Kd.R_lt (by (with_reducible repeat (first | apply Kd.R_alloc | apply Kd.R_drewN | apply Kd.R_drew)); exact HO467.out))) (Kd.R_lt (by (with_reducible repeat (first | apply Kd.R_alloc | apply Kd.R_drewN | apply Kd.R_drew)); exact HO472.out))) (below_size (by repeat (first | (with_reducible first | exact HB.out | apply below_alloc | apply pw_below_drewN | apply below_drew1) | exact HB.out)))); have n3_ := Aside0.mk (below_step (by repeat (first | (with_reducible first | exact HB.out | apply below_alloc | apply pw_below_drewN | apply below_drew1) | exact HB.out)) hb); clear HO467; clear HO472; clear HB; have HO467 := n0_; have HO472 := n1_; have HO477 := n2_; have HB := n3_; clear n0_ n1_ n2_ n3_; (try clear hb); (try clear hb2); (try clear hk); (try clear hi); (try clear ho0); obtain ⟨Ao68, co68, eo68⟩ := Kd.R_slice HO467.out; subst eo68; obtain ⟨Ao69, co69, eo69⟩ := Kd.R_slice HO472.out; subst eo69) | ((with_reducible refine gate_callee (f := 27) rfl ?_); refine goesL_ (some 85) rfl rfl Try.func27 (by kernel_rfl) rfl #[.slice Ao68 t464.length co68, .slice Ao69 t469.length co69] rfl (by (try simp only [List.map_toArray, List.map_cons, List.map_nil]); first | done | rfl | (simp only [List.length_drop, List.length_take]; rfl) | (simp only [gt_iff_lt, Int.natCast_pos]; rfl) | (rw [c40b0]; rfl)) ?_; (with_reducible refine (fathomref3_Times.calls kj23 _ _ t464 _ _ t469 t478 _ ?side1 ?side2 ?side3 ?side4 A37.out).mono ?_); (case side1 => repeat (first | exact (Kd.R_reads' HO467.out).2.2 | (with_reducible refine Kd.C_alloc ?_ _) | (with_reducible refine Kd.C_drewN ?_ _) | (with_reducible refine Kd.C_drew ?_))); (case side2 => exact (Kd.R_reads' HO467.out).2.1); (case side3 => repeat (first | exact (Kd.R_reads' HO472.out).2.2 | (with_reducible refine Kd.C_alloc ?_ _) | (with_reducible refine Kd.C_drewN ?_ _) | (with_reducible refine Kd.C_drew ?_))); (case side4 => exact (Kd.R_reads' HO472.out).2.1); rintro e w70 ⟨v479, rfl, ho0, hb⟩; refine ⟨_, rfl, ?_⟩; have n0_ := Aside0.mk (Kd.R_elder' (by (with_reducible repeat (first | apply Kd.R_alloc | apply Kd.R_drewN | apply Kd.R_drew)); exact HO467.out) (Kd.R_base ho0) hb); have n1_ := Aside0.mk (Kd.R_elder' (by (with_reducible repeat (first | apply Kd.R_alloc | apply Kd.R_drewN | apply Kd.R_drew)); exact HO472.out) (Kd.R_base ho0) hb); have n2_ := Aside0.mk (Kd.R_elder' (by (with_reducible repeat (first | apply Kd.R_alloc | apply Kd.R_drewN | apply Kd.R_drew)); exact HO477.out) (Kd.R_base ho0) hb); have n3_ := Aside0.mk (Kd.R_lower (Kd.R_new' (Kd.R_new' (Kd.R_new' ho0 (Kd.R_lt (by (with_reducible repeat (first | apply Kd.R_alloc | apply Kd.R_drewN | apply Kd.R_drew)); exact HO467.out))) (Kd.R_lt (by (with_reducible repeat (first | apply Kd.R_alloc | apply Kd.R_drewN | apply Kd.R_drew)); exact HO472.out))) (Kd.R_lt (by (with_reducible repeat (first | apply Kd.R_alloc | apply Kd.R_drewN | apply Kd.R_drew)); exact HO477.out))) (below_size (by repeat (first | (with_reducible first | exact HB.out | apply below_alloc | apply pw_below_drewN | apply below_drew1) | exact HB.out)))); have n4_ := Aside0.mk (below_step (by repeat (first | (with_reducible first | exact HB.out | apply below_alloc | apply pw_below_drewN | apply below_drew1) | exact HB.out)) hb); clear HO467; clear HO472; clear HO477; clear HB; have HO467 := n0_; have HO472 := n1_; have HO477 := n2_; have HO480 := n3_; have HB := n4_; clear n0_ n1_ n2_ n3_ n4_; (try clear hb); (try clear hb2); (try clear hk); (try clear hi); (try clear ho0); obtain ⟨Ao71, co71, eo71⟩ := Kd.R_slice HO480.out; subst eo71; obtain ⟨Ao72, co72, eo72⟩ := Kd.R_slice HO477.out; subst eo72) | ((with_reducible refine gate_callee (f := 127) rfl ?_); refine goesL_ (some 95) rfl rfl Try.func127 (by kernel_rfl) rfl #[.bool (t447 != t448), .slice Ao71 t478.length co71, .int .i64 (wrap64 (t465 + t470)), .bool t473, .slice Ao72 t474.length co72, .int .i64 t475] rfl (by (try simp only [List.map_toArray, List.map_cons, List.map_nil]); first | done | rfl | (simp only [List.length_drop, List.length_take]; rfl) | (simp only [gt_iff_lt, Int.natCast_pos]; rfl) | (rw [c40b0]; rfl)) ?_; (with_reducible refine (fathomref3_together.calls kj23 (t447 != t448) (fun k_ => some k_ = (.slice Ao71 t478.length co71 : Value).ownBlock) (.slice Ao71 t478.length co71) t478 (wrap64 (t465 + t470)) t473 _ _ t474 t475 t481 t482 t485 w _ ?side1 ?side2 ?side3 ?side4 A38.out).mono ?_); (case side1 => repeat (first | (with_reducible first | exact HB.out | apply below_alloc | apply pw_below_drewN | apply below_drew1) | exact HB.out)); (case side2 => exact Kd.R_tight rfl HO480.out); (case side3 => exact Kd.C_kept_own (HO477.out) (fun k_ hk_ hs_ => (hk_.2) hs_)); (case side4 => exact (Kd.R_reads' HO477.out).2.1); rintro e w73 ⟨v483, rfl, ho0, hb, hkp⟩; refine ⟨_, rfl, ?_⟩; have n0_ := Aside0.mk (Kd.R_mono (ok' := fun k_ => some k_ ≠ (.slice Ao69 t469.length co69 : Value).ownBlock ∧ some k_ ≠ (.slice Ao72 t474.length co72 : Value).ownBlock ∧ some k_ ≠ (v483 : Value).ownBlock) (Kd.R_keptB (HO467.out) hkp (fun k_ hk_ hs_ => (hk_.2) hs_)) (fun k_ hk_ => ⟨hk_.1.1.1.2, hk_.1.1.2, fun e_ => Or.elim (ho0.1 k_ e_.symm) (fun hs_ => hk_.2.1 hs_) (fun hn_ => Nat.not_le.2 hk_.2.2 hn_)⟩)); have n1_ := Aside0.mk (Kd.R_mono (ok' := fun k_ => some k_ ≠ (.slice Ao68 t464.length co68 : Value).ownBlock ∧ some k_ ≠ (.slice Ao72 t474.length co72 : Value).ownBlock ∧ some k_ ≠ (v483 : Value).ownBlock) (Kd.R_keptB (HO472.out) hkp (fun k_ hk_ hs_ => (hk_.2) hs_)) (fun k_ hk_ => ⟨hk_.1.1.1.2, hk_.1.1.2, fun e_ => Or.elim (ho0.1 k_ e_.symm) (fun hs_ => hk_.2.1 hs_) (fun hn_ => Nat.not_le.2 hk_.2.2 hn_)⟩)); have n2_ := Aside0.mk (Kd.R_mono (ok' := fun k_ => some k_ ≠ (.slice Ao68 t464.length co68 : Value).ownBlock ∧ some k_ ≠ (.slice Ao69 t469.length co69 : Value).ownBlock ∧ some k_ ≠ (v483 : Value).ownBlock) (Kd.R_keptB (HO477.out) hkp (fun k_ hk_ hs_ => (hk_.2) hs_)) (fun k_ hk_ => ⟨hk_.1.1.1.2, hk_.1.1.2, fun e_ => Or.elim (ho0.1 k_ e_.symm) (fun hs_ => hk_.2.1 hs_) (fun hn_ => Nat.not_le.2 hk_.2.2 hn_)⟩)); have n3_ := Aside0.mk (Kd.R_mono (ok' := fun k_ => some k_ ≠ (.slice Ao68 t464.length co68 : Value).ownBlock ∧ some k_ ≠ (.slice Ao69 t469.length co69 : Value).ownBlock ∧ some k_ ≠ (.slice Ao72 t474.length co72 : Value).ownBlock) ho0 (fun k_ hk_ => ⟨Or.elim hk_ (fun hs_ => fun e_ => (((HO467.out).1 k_ e_.symm).2) hs_) (fun hn_ => (Kd.fresh' (Kd.R_lt (by (with_reducible repeat (first | apply Kd.R_alloc | apply Kd.R_drewN | apply Kd.R_drew)); exact HO467.out)) k_ hn_)), Or.elim hk_ (fun hs_ => fun e_ => (((HO472.out).1 k_ e_.symm).2) hs_) (fun hn_ => (Kd.fresh' (Kd.R_lt (by (with_reducible repeat (first | apply Kd.R_alloc | apply Kd.R_drewN | apply Kd.R_drew)); exact HO472.out)) k_ hn_)), Or.elim hk_ (fun hs_ => fun e_ => (((HO477.out).1 k_ e_.symm).2) hs_) (fun hn_ => (Kd.fresh' (Kd.R_lt (by (with_reducible repeat (first | apply Kd.R_alloc | apply Kd.R_drewN | apply Kd.R_drew)); exact HO477.out)) k_ hn_))⟩)); have n4_ := Aside0.mk (hb); clear HO467; clear HO472; clear HO477; clear HB; clear HO480; have HO467 := n0_; have HO472 := n1_; have HO477 := n2_; have HO484 := n3_; have HB := n4_; clear n0_ n1_ n2_ n3_ n4_; (try clear hb); (try clear hkp); (try clear ho0); obtain ⟨Ao74, co74, eo74⟩ := Kd.R_slice HO484.out; subst eo74) | ((with_reducible refine gate_callee (f := 89) rfl ?_); refine goesL_ (some 109) rfl rfl Try.func89 (by kernel_rfl) rfl #[.int .u64 1] rfl (by (try simp only [List.map_toArray, List.map_cons, List.map_nil]); first | done | rfl | (simp only [List.length_drop, List.length_take]; rfl) | (simp only [gt_iff_lt, Int.natCast_pos]; rfl) | (rw [c40b0]; rfl)) ?_; (with_reducible refine (fathomref3_Of.calls kj23 1 t488 _ A63.out).mono ?_); rintro e w75 ⟨v489, rfl, ho0, hb⟩; refine ⟨_, rfl, ?_⟩; have n0_ := Aside0.mk (Kd.R_elder' (by (with_reducible repeat (first | apply Kd.R_alloc | apply Kd.R_drewN | apply Kd.R_drew)); exact HO467.out) (Kd.R_base ho0) hb); have n1_ := Aside0.mk (Kd.R_elder' (by (with_reducible repeat (first | apply Kd.R_alloc | apply Kd.R_drewN | apply Kd.R_drew)); exact HO472.out) (Kd.R_base ho0) hb); have n2_ := Aside0.mk (Kd.R_elder' (by (with_reducible repeat (first | apply Kd.R_alloc | apply Kd.R_drewN | apply Kd.R_drew)); exact HO477.out) (Kd.R_base ho0) hb); have n3_ := Aside0.mk (Kd.R_elder' (by (with_reducible repeat (first | apply Kd.R_alloc | apply Kd.R_drewN | apply Kd.R_drew)); exact HO484.out) (Kd.R_base ho0) hb); have n4_ := Aside0.mk (Kd.R_lower (Kd.R_new' (Kd.R_new' (Kd.R_new' (Kd.R_new' ho0 (Kd.R_lt (by (with_reducible repeat (first | apply Kd.R_alloc | apply Kd.R_drewN | apply Kd.R_drew)); exact HO467.out))) (Kd.R_lt (by (with_reducible repeat (first | apply Kd.R_alloc | apply Kd.R_drewN | apply Kd.R_drew)); exact HO472.out))) (Kd.R_lt (by (with_reducible repeat (first | apply Kd.R_alloc | apply Kd.R_drewN | apply Kd.R_drew)); exact HO477.out))) (Kd.R_lt (by (with_reducible repeat (first | apply Kd.R_alloc | apply Kd.R_drewN | apply Kd.R_drew)); exact HO484.out))) (below_size (by repeat (first | (with_reducible first | exact HB.out | apply below_alloc | apply pw_below_drewN | apply below_drew1) | exact HB.out)))); have n5_ := Aside0.mk (below_step (by repeat (first | (with_reducible first | exact HB.out | apply below_alloc | apply pw_below_drewN | apply below_drew1) | exact HB.out)) hb); clear HO467; clear HO472; clear HO477; clear HO484; clear HB; have HO467 := n0_; have HO472 := n1_; have HO477 := n2_; have HO484 := n3_; have HO490 := n4_; have HB := n5_; clear n0_ n1_ n2_ n3_ n4_ n5_; (try clear hb); (try clear hb2); (try clear hk); (try clear hi); (try clear ho0); obtain ⟨Ao76, co76, eo76⟩ := Kd.R_slice HO490.out; subst eo76) | ((with_reducible refine gate_callee (f := 94) rfl ?_); refine goesL_ (some 111) rfl rfl Try.func94 (by kernel_rfl) rfl #[.bool t481, .slice Ao74 t482.length co74, .slice Ao76 t488.length co76, .int .i64 t485, .int .i64 64] rfl (by (try simp only [List.map_toArray, List.map_cons, List.map_nil]); first | done | rfl | (simp only [List.length_drop, List.length_take]; rfl) | (simp only [gt_iff_lt, Int.natCast_pos]; rfl) | (rw [c40b0]; rfl)) ?_; (with_reducible refine (fathomref3_Nearest.calls kj23 t481 _ _ t482 _ _ t488 t485 64 t491 _ ?side1 ?side2 ?side3 ?side4 A64.out).mono ?_); (case side1 => repeat (first | exact (Kd.R_reads' HO484.out).2.2 | (with_reducible refine Kd.C_alloc ?_ _) | (with_reducible refine Kd.C_drewN ?_ _) | (with_reducible refine Kd.C_drew ?_))); (case side2 => exact (Kd.R_reads' HO484.out).2.1); (case side3 => repeat (first | exact (Kd.R_reads' HO490.out).2.2 | (with_reducible refine Kd.C_alloc ?_ _) | (with_reducible refine Kd.C_drewN ?_ _) | (with_reducible refine Kd.C_drew ?_))); (case side4 => exact (Kd.R_reads' HO490.out).2.1); rintro e w77 ⟨rfl, hb⟩; refine ⟨_, rfl, ?_⟩; have n0_ := Aside0.mk (Kd.R_below (by (with_reducible repeat (first | apply Kd.R_alloc | apply Kd.R_drewN | apply Kd.R_drew)); exact HO467.out) hb); have n1_ := Aside0.mk (Kd.R_below (by (with_reducible repeat (first | apply Kd.R_alloc | apply Kd.R_drewN | apply Kd.R_drew)); exact HO472.out) hb); have n2_ := Aside0.mk (Kd.R_below (by (with_reducible repeat (first | apply Kd.R_alloc | apply Kd.R_drewN | apply Kd.R_drew)); exact HO477.out) hb); have n3_ := Aside0.mk (Kd.R_below (by (with_reducible repeat (first | apply Kd.R_alloc | apply Kd.R_drewN | apply Kd.R_drew)); exact HO484.out) hb); have n4_ := Aside0.mk (Kd.R_below (by (with_reducible repeat (first | apply Kd.R_alloc | apply Kd.R_drewN | apply Kd.R_drew)); exact HO490.out) hb); have n5_ := Aside0.mk (below_step (by repeat (first | (with_reducible first | exact HB.out | apply below_alloc | apply pw_below_drewN | apply below_drew1) | exact HB.out)) hb); clear HO467; clear HO472; clear HO477; clear HO484; clear HO490; clear HB; have HO467 := n0_; have HO472 := n1_; have HO477 := n2_; have HO484 := n3_; have HO490 := n4_; have HB := n5_; clear n0_ n1_ n2_ n3_ n4_ n5_; (try clear hb); (try clear hb2); (try clear hk); (try clear hi)))
                  go_ret
                  exact ⟨by first | rfl | (simp [errW_none, errW_some] <;> rfl) | (simp [*, errW_none, errW_some] <;> rfl), by repeat (first | (with_reducible first | exact HB.out | apply below_alloc | apply pw_below_drewN | apply below_drew1) | exact HB.out)⟩

end Go.Proofs.Ytfloeiagdegpjaa.Rf
