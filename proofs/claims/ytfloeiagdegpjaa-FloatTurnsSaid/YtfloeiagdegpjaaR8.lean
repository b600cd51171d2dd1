/- The reference's functions (Mul, Div): what each call comes to, as a Lean function over lists of whole numbers. The walks began as print.sh's text for these functions. -/
import Derived.Test.YtfloeiagdegpjaaR5
import Derived.Test.YtfloeiagdegpjaaR6
namespace Go.Proofs.Ytfloeiagdegpjaa.Rf
open Go.RowKit Go.Proofs.YtfloeiagdegpjaaW.PrintWords Go.Proofs.YtfloeiagdegpjaaW.PrintLast Go.Proofs.YtfloeiagdegpjaaW.PrintMore
attribute [local go_sem] max2_int min2_int max_two min_two max_three min_three max_four min_four
set_option linter.unusedVariables false
set_option linter.unusedSimpArgs false
/-! ### fathomref3_Mul: function 69 -/
mutual
def fathomref3_Mul.j0 : Nat → Int → Int → Int → Bool → Bool → Option (Int)
  | 0, _, _, _, _, _ => none
  | k + 1, x0, x1, x2, x7, x21 => if x21 = true then ((fathomref3_Nan.f x2).bind fun t348 => (some t348)) else ((fathomref3_IsInf.f x0 x2).bind fun t349 => (if t349 = true then (fathomref3_Mul.j1 k x0 x1 x2 x7 true) else ((fathomref3_IsInf.f x1 x2).bind fun t350 => (fathomref3_Mul.j1 k x0 x1 x2 x7 t350))))
def fathomref3_Mul.j1 : Nat → Int → Int → Int → Bool → Bool → Option (Int)
  | 0, _, _, _, _, _ => none
  | k + 1, x0, x1, x2, x7, x52 => if x52 = true then ((fathomref3_Inf.f x2).bind fun t351 => ((fathomref3_signed.f x7 t351 x2).bind fun t352 => (some t352))) else ((fathomref3_Parts.f k x0 x2).bind fun bt353 => ((fathomref3_Parts.f k x1 x2).bind fun bt358 => ((fathomref3_Times.f k bt353.2.1 bt358.2.1).bind fun t363 => ((fathomref3_Of.f k 1).bind fun t366 => ((fathomref3_Nearest.f k x7 t363 t366 (wrap64 (bt353.2.2 + bt358.2.2)) x2).bind fun t369 => (some t369))))))
end
def fathomref3_Mul.f (k : Nat) (a0 : Int) (a1 : Int) (a2 : Int) : Option (Int) := (fathomref3_Neg.f a0 a2).bind fun t338 => ((fathomref3_Neg.f a1 a2).bind fun t339 => ((fathomref3_IsNan.f a0 a2).bind fun t340 => (if t340 = true then (fathomref3_Mul.j0 k a0 a1 a2 (t338 != t339) true) else ((fathomref3_IsNan.f a1 a2).bind fun t341 => (if t341 = true then (fathomref3_Mul.j0 k a0 a1 a2 (t338 != t339) true) else ((fathomref3_IsInf.f a0 a2).bind fun t342 => (if t342 = true then ((fathomref3_IsZero.f a1 a2).bind fun t343 => (if t343 = true then (fathomref3_Mul.j0 k a0 a1 a2 (t338 != t339) true) else ((fathomref3_IsZero.f a0 a2).bind fun t344 => (if t344 = true then ((fathomref3_IsInf.f a1 a2).bind fun t345 => (fathomref3_Mul.j0 k a0 a1 a2 (t338 != t339) t345)) else (fathomref3_Mul.j0 k a0 a1 a2 (t338 != t339) false))))) else ((fathomref3_IsZero.f a0 a2).bind fun t346 => (if t346 = true then ((fathomref3_IsInf.f a1 a2).bind fun t347 => (fathomref3_Mul.j0 k a0 a1 a2 (t338 != t339) t347)) else (fathomref3_Mul.j0 k a0 a1 a2 (t338 != t339) false))))))))))
theorem fathomref3_Mul.mono_l : ∀ k, (∀ y0 y1 y2 y3 y4, LeO (fathomref3_Mul.j0 k y0 y1 y2 y3 y4) (fathomref3_Mul.j0 (k + 1) y0 y1 y2 y3 y4)) ∧ (∀ y0 y1 y2 y3 y4, LeO (fathomref3_Mul.j1 k y0 y1 y2 y3 y4) (fathomref3_Mul.j1 (k + 1) y0 y1 y2 y3 y4))
  | 0 => ⟨fun _ _ _ _ _ r h => by simp [fathomref3_Mul.j0] at h, fun _ _ _ _ _ r h => by simp [fathomref3_Mul.j1] at h⟩
  | k + 1 => by
    obtain ⟨ih0, ih1⟩ := fathomref3_Mul.mono_l k
    refine ⟨?_, ?_⟩
    · intro y0 y1 y2 y3 y4
      unfold fathomref3_Mul.j0
      repeat' first
      | (with_reducible exact ih0 _ _ _ _ _)
      | (with_reducible exact ih1 _ _ _ _ _)
      | (with_reducible exact fathomref3_Nearest.mono _ _ _ _ _ _)
      | (with_reducible exact fathomref3_Of.mono _ _)
      | (with_reducible exact fathomref3_Parts.mono _ _ _)
      | (with_reducible exact fathomref3_Times.mono _ _ _)
      | (with_reducible exact LeO.refl _)
      | (with_reducible exact LeO.none _)
      | (with_reducible refine LeO.ite ?_ ?_)
      | (with_reducible refine LeO.bind ?_ (fun _ => ?_))
      | exact ih0 _ _ _ _ _
      | exact ih1 _ _ _ _ _
      | exact fathomref3_Nearest.mono _ _ _ _ _ _
      | exact fathomref3_Of.mono _ _
      | exact fathomref3_Parts.mono _ _ _
      | exact fathomref3_Times.mono _ _ _
      | exact LeO.none _
      | refine LeO.ite ?_ ?_
      | refine LeO.bind ?_ (fun _ => ?_)
    · intro y0 y1 y2 y3 y4
      unfold fathomref3_Mul.j1
      repeat' first
      | (with_reducible exact ih0 _ _ _ _ _)
      | (with_reducible exact ih1 _ _ _ _ _)
      | (with_reducible exact fathomref3_Nearest.mono _ _ _ _ _ _)
      | (with_reducible exact fathomref3_Of.mono _ _)
      | (with_reducible exact fathomref3_Parts.mono _ _ _)
      | (with_reducible exact fathomref3_Times.mono _ _ _)
      | (with_reducible exact LeO.refl _)
      | (with_reducible exact LeO.none _)
      | (with_reducible refine LeO.ite ?_ ?_)
      | (with_reducible refine LeO.bind ?_ (fun _ => ?_))
      | exact ih0 _ _ _ _ _
      | exact ih1 _ _ _ _ _
      | exact fathomref3_Nearest.mono _ _ _ _ _ _
      | exact fathomref3_Of.mono _ _
      | exact fathomref3_Parts.mono _ _ _
      | exact fathomref3_Times.mono _ _ _
      | exact LeO.none _
      | refine LeO.ite ?_ ?_
      | refine LeO.bind ?_ (fun _ => ?_)
theorem fathomref3_Mul.mono : ∀ a0 a1 a2 k, LeO (fathomref3_Mul.f k a0 a1 a2) (fathomref3_Mul.f (k + 1) a0 a1 a2) := by
  intro a0 a1 a2 k
  obtain ⟨ih0, ih1⟩ := fathomref3_Mul.mono_l k
  unfold fathomref3_Mul.f
  repeat' first
      | (with_reducible exact ih0 _ _ _ _ _)
      | (with_reducible exact ih1 _ _ _ _ _)
      | (with_reducible exact fathomref3_Nearest.mono _ _ _ _ _ _)
      | (with_reducible exact fathomref3_Of.mono _ _)
      | (with_reducible exact fathomref3_Parts.mono _ _ _)
      | (with_reducible exact fathomref3_Times.mono _ _ _)
      | (with_reducible exact LeO.refl _)
      | (with_reducible exact LeO.none _)
      | (with_reducible refine LeO.ite ?_ ?_)
      | (with_reducible refine LeO.bind ?_ (fun _ => ?_))
      | exact ih0 _ _ _ _ _
      | exact ih1 _ _ _ _ _
      | exact fathomref3_Nearest.mono _ _ _ _ _ _
      | exact fathomref3_Of.mono _ _
      | exact fathomref3_Parts.mono _ _ _
      | exact fathomref3_Times.mono _ _ _
      | exact LeO.none _
      | refine LeO.ite ?_ ?_
      | refine LeO.bind ?_ (fun _ => ?_)
set_option maxHeartbeats 8000000 in
set_option maxRecDepth 100000 in
theorem fathomref3_Mul.calls (k : Nat) (a0 : Int) (a1 : Int) (a2 : Int) (r : Int) (w : World) (h : fathomref3_Mul.f k a0 a1 a2 = some r) :
    Calls Try.prog 69 #[.int .u64 a0, .int .u64 a1, .int .i64 a2] w fun e w' => e = .returned (.int .u64 r) ∧ Below w.heap.size w w' := by
  have HB := Aside0.mk (Below.refl w.heap.size w)
  have H : ((fathomref3_Neg.f a0 a2).bind fun t338 => ((fathomref3_Neg.f a1 a2).bind fun t339 => ((fathomref3_IsNan.f a0 a2).bind fun t340 => (if t340 = true then (fathomref3_Mul.j0 k a0 a1 a2 (t338 != t339) true) else ((fathomref3_IsNan.f a1 a2).bind fun t341 => (if t341 = true then (fathomref3_Mul.j0 k a0 a1 a2 (t338 != t339) true) else ((fathomref3_IsInf.f a0 a2).bind fun t342 => (if t342 = true then ((fathomref3_IsZero.f a1 a2).bind fun t343 => (if t343 = true then (fathomref3_Mul.j0 k a0 a1 a2 (t338 != t339) true) else ((fathomref3_IsZero.f a0 a2).bind fun t344 => (if t344 = true then ((fathomref3_IsInf.f a1 a2).bind fun t345 => (fathomref3_Mul.j0 k a0 a1 a2 (t338 != t339) t345)) else (fathomref3_Mul.j0 k a0 a1 a2 (t338 != t339) false))))) else ((fathomref3_IsZero.f a0 a2).bind fun t346 => (if t346 = true then ((fathomref3_IsInf.f a1 a2).bind fun t347 => (fathomref3_Mul.j0 k a0 a1 a2 (t338 != t339) t347)) else (fathomref3_Mul.j0 k a0 a1 a2 (t338 != t339) false))))))))))) = some r := h
  clear h
  replace H := Option.bind_eq_some_iff.mp H
  obtain ⟨t338, A40, H⟩ := H
  replace H : ((fathomref3_Neg.f a1 a2).bind fun t339 => ((fathomref3_IsNan.f a0 a2).bind fun t340 => (if t340 = true then (fathomref3_Mul.j0 k a0 a1 a2 (t338 != t339) true) else ((fathomref3_IsNan.f a1 a2).bind fun t341 => (if t341 = true then (fathomref3_Mul.j0 k a0 a1 a2 (t338 != t339) true) else ((fathomref3_IsInf.f a0 a2).bind fun t342 => (if t342 = true then ((fathomref3_IsZero.f a1 a2).bind fun t343 => (if t343 = true then (fathomref3_Mul.j0 k a0 a1 a2 (t338 != t339) true) else ((fathomref3_IsZero.f a0 a2).bind fun t344 => (if t344 = true then ((fathomref3_IsInf.f a1 a2).bind fun t345 => (fathomref3_Mul.j0 k a0 a1 a2 (t338 != t339) t345)) else (fathomref3_Mul.j0 k a0 a1 a2 (t338 != t339) false))))) else ((fathomref3_IsZero.f a0 a2).bind fun t346 => (if t346 = true then ((fathomref3_IsInf.f a1 a2).bind fun t347 => (fathomref3_Mul.j0 k a0 a1 a2 (t338 != t339) t347)) else (fathomref3_Mul.j0 k a0 a1 a2 (t338 != t339) false)))))))))) = some r := H
  have A4 := Aside0.mk A40
  clear A40
  replace H := Option.bind_eq_some_iff.mp H
  obtain ⟨t339, A50, H⟩ := H
  replace H : ((fathomref3_IsNan.f a0 a2).bind fun t340 => (if t340 = true then (fathomref3_Mul.j0 k a0 a1 a2 (t338 != t339) true) else ((fathomref3_IsNan.f a1 a2).bind fun t341 => (if t341 = true then (fathomref3_Mul.j0 k a0 a1 a2 (t338 != t339) true) else ((fathomref3_IsInf.f a0 a2).bind fun t342 => (if t342 = true then ((fathomref3_IsZero.f a1 a2).bind fun t343 => (if t343 = true then (fathomref3_Mul.j0 k a0 a1 a2 (t338 != t339) true) else ((fathomref3_IsZero.f a0 a2).bind fun t344 => (if t344 = true then ((fathomref3_IsInf.f a1 a2).bind fun t345 => (fathomref3_Mul.j0 k a0 a1 a2 (t338 != t339) t345)) else (fathomref3_Mul.j0 k a0 a1 a2 (t338 != t339) false))))) else ((fathomref3_IsZero.f a0 a2).bind fun t346 => (if t346 = true then ((fathomref3_IsInf.f a1 a2).bind fun t347 => (fathomref3_Mul.j0 k a0 a1 a2 (t338 != t339) t347)) else (fathomref3_Mul.j0 k a0 a1 a2 (t338 != t339) false))))))))) = some r := H
  have A5 := Aside0.mk A50
  clear A50
  have HC6 := Aside0.mk H
  clear H
  go_enter Try.func69, Try.ntmps69
  go_upto_region 2 with (first | ((with_reducible refine gate_callee (f := 98) rfl ?_); refine goesL_ (some 16) rfl rfl Try.func98 (by kernel_rfl) rfl #[.int .u64 a0, .int .i64 a2] rfl (by (try simp only [List.map_toArray, List.map_cons, List.map_nil]); first | done | rfl | (simp only [List.length_drop, List.length_take]; rfl) | (simp only [gt_iff_lt, Int.natCast_pos]; rfl)) ?_; (with_reducible refine (fathomref3_Neg.calls a0 a2 t338 _ A4.out).mono ?_); rintro e w' ⟨rfl, ⟨nd, rfl⟩⟩; refine ⟨_, rfl, ?_⟩) | ((with_reducible refine gate_callee (f := 98) rfl ?_); refine goesL_ (some 19) rfl rfl Try.func98 (by kernel_rfl) rfl #[.int .u64 a1, .int .i64 a2] rfl (by (try simp only [List.map_toArray, List.map_cons, List.map_nil]); first | done | rfl | (simp only [List.length_drop, List.length_take]; rfl) | (simp only [gt_iff_lt, Int.natCast_pos]; rfl)) ?_; (with_reducible refine (fathomref3_Neg.calls a1 a2 t339 _ A5.out).mono ?_); rintro e w' ⟨rfl, ⟨nd, rfl⟩⟩; refine ⟨_, rfl, ?_⟩))
  (try simp only [Act.put, List.setIfInBounds_toArray, List.set_cons_zero, List.set_cons_succ])
  go_cut [21] (fun v21 wc => ∃ (kq : Nat) (x21_5 : Bool), v21 = .bool x21_5 ∧ Aside0 (fathomref3_Mul.j0 kq a0 a1 a2 (t338 != t339) x21_5 = some r) ∧ Aside0 (kq ≤ k) ∧ Aside0 (Below w.heap.size w wc))
  case first =>
    have H := HC6.out
    clear HC6
    replace H := Option.bind_eq_some_iff.mp H
    obtain ⟨t340, A70, H⟩ := H
    replace H : (if t340 = true then (fathomref3_Mul.j0 k a0 a1 a2 (t338 != t339) true) else ((fathomref3_IsNan.f a1 a2).bind fun t341 => (if t341 = true then (fathomref3_Mul.j0 k a0 a1 a2 (t338 != t339) true) else ((fathomref3_IsInf.f a0 a2).bind fun t342 => (if t342 = true then ((fathomref3_IsZero.f a1 a2).bind fun t343 => (if t343 = true then (fathomref3_Mul.j0 k a0 a1 a2 (t338 != t339) true) else ((fathomref3_IsZero.f a0 a2).bind fun t344 => (if t344 = true then ((fathomref3_IsInf.f a1 a2).bind fun t345 => (fathomref3_Mul.j0 k a0 a1 a2 (t338 != t339) t345)) else (fathomref3_Mul.j0 k a0 a1 a2 (t338 != t339) false))))) else ((fathomref3_IsZero.f a0 a2).bind fun t346 => (if t346 = true then ((fathomref3_IsInf.f a1 a2).bind fun t347 => (fathomref3_Mul.j0 k a0 a1 a2 (t338 != t339) t347)) else (fathomref3_Mul.j0 k a0 a1 a2 (t338 != t339) false)))))))) = some r := H
    have A7 := Aside0.mk A70
    clear A70
    by_cases c8 : t340 = true
    · subst c8
      have H1 : (fathomref3_Mul.j0 k a0 a1 a2 (t338 != t339) true) = some r := by rw [if_pos rfl] at H; exact H
      clear H
      have H := H1
      clear H1
      have H' := Aside0.mk H
      clear H
      go_wp2_with (first | ((with_reducible refine gate_callee (f := 105) rfl ?_); refine goesL_ (some 24) rfl rfl Try.func105 (by kernel_rfl) rfl #[.int .u64 a0, .int .i64 a2] rfl (by (try simp only [List.map_toArray, List.map_cons, List.map_nil]); first | done | rfl | (simp only [List.length_drop, List.length_take]; rfl) | (simp only [gt_iff_lt, Int.natCast_pos]; rfl)) ?_; (with_reducible refine (fathomref3_IsNan.calls a0 a2 true _ A7.out).mono ?_); rintro e w' ⟨rfl, ⟨nd, rfl⟩⟩; refine ⟨_, rfl, ?_⟩))
      go_meet
      case rel => exact ⟨_, (true), (by first | rfl | (simp; done) | (simp [*]; done)), H', ⟨by first | omega | exact Nat.le_refl _⟩, ⟨by repeat (first | (with_reducible first | exact HB.out | apply below_alloc | apply pw_below_drewN | apply below_drew1) | exact HB.out)⟩⟩
    · replace c8 := Bool.eq_false_iff.mpr c8
      subst c8
      have H1 : ((fathomref3_IsNan.f a1 a2).bind fun t341 => (if t341 = true then (fathomref3_Mul.j0 k a0 a1 a2 (t338 != t339) true) else ((fathomref3_IsInf.f a0 a2).bind fun t342 => (if t342 = true then ((fathomref3_IsZero.f a1 a2).bind fun t343 => (if t343 = true then (fathomref3_Mul.j0 k a0 a1 a2 (t338 != t339) true) else ((fathomref3_IsZero.f a0 a2).bind fun t344 => (if t344 = true then ((fathomref3_IsInf.f a1 a2).bind fun t345 => (fathomref3_Mul.j0 k a0 a1 a2 (t338 != t339) t345)) else (fathomref3_Mul.j0 k a0 a1 a2 (t338 != t339) false))))) else ((fathomref3_IsZero.f a0 a2).bind fun t346 => (if t346 = true then ((fathomref3_IsInf.f a1 a2).bind fun t347 => (fathomref3_Mul.j0 k a0 a1 a2 (t338 != t339) t347)) else (fathomref3_Mul.j0 k a0 a1 a2 (t338 != t339) false))))))) = some r := by rw [if_neg (show ¬ (false = true) by decide)] at H; exact H
      clear H
      have H := H1
      clear H1
      replace H := Option.bind_eq_some_iff.mp H
      obtain ⟨t341, A90, H⟩ := H
      replace H : (if t341 = true then (fathomref3_Mul.j0 k a0 a1 a2 (t338 != t339) true) else ((fathomref3_IsInf.f a0 a2).bind fun t342 => (if t342 = true then ((fathomref3_IsZero.f a1 a2).bind fun t343 => (if t343 = true then (fathomref3_Mul.j0 k a0 a1 a2 (t338 != t339) true) else ((fathomref3_IsZero.f a0 a2).bind fun t344 => (if t344 = true then ((fathomref3_IsInf.f a1 a2).bind fun t345 => (fathomref3_Mul.j0 k a0 a1 a2 (t338 != t339) t345)) else (fathomref3_Mul.j0 k a0 a1 a2 (t338 != t339) false))))) else ((fathomref3_IsZero.f a0 a2).bind fun t346 => (if t346 = true then ((fathomref3_IsInf.f a1 a2).bind fun t347 => (fathomref3_Mul.j0 k a0 a1 a2 (t338 != t339) t347)) else (fathomref3_Mul.j0 k a0 a1 a2 (t338 != t339) false)))))) = some r := H
      have A9 := Aside0.mk A90
      clear A90
      by_cases c10 : t341 = true
      · subst c10
        have H1 : (fathomref3_Mul.j0 k a0 a1 a2 (t338 != t339) true) = some r := by rw [if_pos rfl] at H; exact H
        clear H
        have H := H1
        clear H1
        have H' := Aside0.mk H
        clear H
        go_wp2_with (first | ((with_reducible refine gate_callee (f := 105) rfl ?_); refine goesL_ (some 24) rfl rfl Try.func105 (by kernel_rfl) rfl #[.int .u64 a0, .int .i64 a2] rfl (by (try simp only [List.map_toArray, List.map_cons, List.map_nil]); first | done | rfl | (simp only [List.length_drop, List.length_take]; rfl) | (simp only [gt_iff_lt, Int.natCast_pos]; rfl)) ?_; (with_reducible refine (fathomref3_IsNan.calls a0 a2 false _ A7.out).mono ?_); rintro e w' ⟨rfl, ⟨nd, rfl⟩⟩; refine ⟨_, rfl, ?_⟩) | (go_at_call 105; (with_reducible refine (fathomref3_IsNan.calls a1 a2 true _ A9.out).mono ?_); rintro e w' ⟨rfl, ⟨nd, rfl⟩⟩))
        go_meet
        case rel => exact ⟨_, (true), (by first | rfl | (simp; done) | (simp [*]; done)), H', ⟨by first | omega | exact Nat.le_refl _⟩, ⟨by repeat (first | (with_reducible first | exact HB.out | apply below_alloc | apply pw_below_drewN | apply below_drew1) | exact HB.out)⟩⟩
      · replace c10 := Bool.eq_false_iff.mpr c10
        subst c10
        have H1 : ((fathomref3_IsInf.f a0 a2).bind fun t342 => (if t342 = true then ((fathomref3_IsZero.f a1 a2).bind fun t343 => (if t343 = true then (fathomref3_Mul.j0 k a0 a1 a2 (t338 != t339) true) else ((fathomref3_IsZero.f a0 a2).bind fun t344 => (if t344 = true then ((fathomref3_IsInf.f a1 a2).bind fun t345 => (fathomref3_Mul.j0 k a0 a1 a2 (t338 != t339) t345)) else (fathomref3_Mul.j0 k a0 a1 a2 (t338 != t339) false))))) else ((fathomref3_IsZero.f a0 a2).bind fun t346 => (if t346 = true then ((fathomref3_IsInf.f a1 a2).bind fun t347 => (fathomref3_Mul.j0 k a0 a1 a2 (t338 != t339) t347)) else (fathomref3_Mul.j0 k a0 a1 a2 (t338 != t339) false))))) = some r := by rw [if_neg (show ¬ (false = true) by decide)] at H; exact H
        clear H
        have H := H1
        clear H1
        replace H := Option.bind_eq_some_iff.mp H
        obtain ⟨t342, A110, H⟩ := H
        replace H : (if t342 = true then ((fathomref3_IsZero.f a1 a2).bind fun t343 => (if t343 = true then (fathomref3_Mul.j0 k a0 a1 a2 (t338 != t339) true) else ((fathomref3_IsZero.f a0 a2).bind fun t344 => (if t344 = true then ((fathomref3_IsInf.f a1 a2).bind fun t345 => (fathomref3_Mul.j0 k a0 a1 a2 (t338 != t339) t345)) else (fathomref3_Mul.j0 k a0 a1 a2 (t338 != t339) false))))) else ((fathomref3_IsZero.f a0 a2).bind fun t346 => (if t346 = true then ((fathomref3_IsInf.f a1 a2).bind fun t347 => (fathomref3_Mul.j0 k a0 a1 a2 (t338 != t339) t347)) else (fathomref3_Mul.j0 k a0 a1 a2 (t338 != t339) false)))) = some r := H
        have A11 := Aside0.mk A110
        clear A110
        by_cases c12 : t342 = true
        · subst c12
          have H1 : ((fathomref3_IsZero.f a1 a2).bind fun t343 => (if t343 = true then (fathomref3_Mul.j0 k a0 a1 a2 (t338 != t339) true) else ((fathomref3_IsZero.f a0 a2).bind fun t344 => (if t344 = true then ((fathomref3_IsInf.f a1 a2).bind fun t345 => (fathomref3_Mul.j0 k a0 a1 a2 (t338 != t339) t345)) else (fathomref3_Mul.j0 k a0 a1 a2 (t338 != t339) false))))) = some r := by rw [if_pos rfl] at H; exact H
          clear H
          have H := H1
          clear H1
          replace H := Option.bind_eq_some_iff.mp H
          obtain ⟨t343, A130, H⟩ := H
          replace H : (if t343 = true then (fathomref3_Mul.j0 k a0 a1 a2 (t338 != t339) true) else ((fathomref3_IsZero.f a0 a2).bind fun t344 => (if t344 = true then ((fathomref3_IsInf.f a1 a2).bind fun t345 => (fathomref3_Mul.j0 k a0 a1 a2 (t338 != t339) t345)) else (fathomref3_Mul.j0 k a0 a1 a2 (t338 != t339) false)))) = some r := H
          have A13 := Aside0.mk A130
          clear A130
          by_cases c14 : t343 = true
          · subst c14
            have H1 : (fathomref3_Mul.j0 k a0 a1 a2 (t338 != t339) true) = some r := by rw [if_pos rfl] at H; exact H
            clear H
            have H := H1
            clear H1
            have H' := Aside0.mk H
            clear H
            go_wp2_with (first | ((with_reducible refine gate_callee (f := 105) rfl ?_); refine goesL_ (some 24) rfl rfl Try.func105 (by kernel_rfl) rfl #[.int .u64 a0, .int .i64 a2] rfl (by (try simp only [List.map_toArray, List.map_cons, List.map_nil]); first | done | rfl | (simp only [List.length_drop, List.length_take]; rfl) | (simp only [gt_iff_lt, Int.natCast_pos]; rfl)) ?_; (with_reducible refine (fathomref3_IsNan.calls a0 a2 false _ A7.out).mono ?_); rintro e w' ⟨rfl, ⟨nd, rfl⟩⟩; refine ⟨_, rfl, ?_⟩) | (go_at_call 105; (with_reducible refine (fathomref3_IsNan.calls a1 a2 false _ A9.out).mono ?_); rintro e w' ⟨rfl, ⟨nd, rfl⟩⟩) | (go_at_call 106; (with_reducible refine (fathomref3_IsInf.calls a0 a2 true _ A11.out).mono ?_); rintro e w' ⟨rfl, ⟨nd, rfl⟩⟩) | (go_at_call 112; (with_reducible refine (fathomref3_IsZero.calls a1 a2 true _ A13.out).mono ?_); rintro e w' ⟨rfl, ⟨nd, rfl⟩⟩))
            go_meet
            case rel => exact ⟨_, (true), (by first | rfl | (simp; done) | (simp [*]; done)), H', ⟨by first | omega | exact Nat.le_refl _⟩, ⟨by repeat (first | (with_reducible first | exact HB.out | apply below_alloc | apply pw_below_drewN | apply below_drew1) | exact HB.out)⟩⟩
          · replace c14 := Bool.eq_false_iff.mpr c14
            subst c14
            have H1 : ((fathomref3_IsZero.f a0 a2).bind fun t344 => (if t344 = true then ((fathomref3_IsInf.f a1 a2).bind fun t345 => (fathomref3_Mul.j0 k a0 a1 a2 (t338 != t339) t345)) else (fathomref3_Mul.j0 k a0 a1 a2 (t338 != t339) false))) = some r := by rw [if_neg (show ¬ (false = true) by decide)] at H; exact H
            clear H
            have H := H1
            clear H1
            replace H := Option.bind_eq_some_iff.mp H
            obtain ⟨t344, A150, H⟩ := H
            replace H : (if t344 = true then ((fathomref3_IsInf.f a1 a2).bind fun t345 => (fathomref3_Mul.j0 k a0 a1 a2 (t338 != t339) t345)) else (fathomref3_Mul.j0 k a0 a1 a2 (t338 != t339) false)) = some r := H
            have A15 := Aside0.mk A150
            clear A150
            by_cases c16 : t344 = true
            · subst c16
              have H1 : ((fathomref3_IsInf.f a1 a2).bind fun t345 => (fathomref3_Mul.j0 k a0 a1 a2 (t338 != t339) t345)) = some r := by rw [if_pos rfl] at H; exact H
              clear H
              have H := H1
              clear H1
              replace H := Option.bind_eq_some_iff.mp H
              obtain ⟨t345, A170, H⟩ := H
              replace H : (fathomref3_Mul.j0 k a0 a1 a2 (t338 != t339) t345) = some r := H
              have A17 := Aside0.mk A170
              clear A170
              have H' := Aside0.mk H
              clear H
              go_wp2_with (first | ((with_reducible refine gate_callee (f := 105) rfl ?_); refine goesL_ (some 24) rfl rfl Try.func105 (by kernel_rfl) rfl #[.int .u64 a0, .int .i64 a2] rfl (by (try simp only [List.map_toArray, List.map_cons, List.map_nil]); first | done | rfl | (simp only [List.length_drop, List.length_take]; rfl) | (simp only [gt_iff_lt, Int.natCast_pos]; rfl)) ?_; (with_reducible refine (fathomref3_IsNan.calls a0 a2 false _ A7.out).mono ?_); rintro e w' ⟨rfl, ⟨nd, rfl⟩⟩; refine ⟨_, rfl, ?_⟩) | (go_at_call 105; (with_reducible refine (fathomref3_IsNan.calls a1 a2 false _ A9.out).mono ?_); rintro e w' ⟨rfl, ⟨nd, rfl⟩⟩) | (go_at_call 106; (with_reducible refine (fathomref3_IsInf.calls a0 a2 true _ A11.out).mono ?_); rintro e w' ⟨rfl, ⟨nd, rfl⟩⟩) | (go_at_call 112; (with_reducible refine (fathomref3_IsZero.calls a1 a2 false _ A13.out).mono ?_); rintro e w' ⟨rfl, ⟨nd, rfl⟩⟩) | (go_at_call 112; (with_reducible refine (fathomref3_IsZero.calls a0 a2 true _ A15.out).mono ?_); rintro e w' ⟨rfl, ⟨nd, rfl⟩⟩) | (go_at_call 106; (with_reducible refine (fathomref3_IsInf.calls a1 a2 t345 _ A17.out).mono ?_); rintro e w' ⟨rfl, ⟨nd, rfl⟩⟩))
              go_meet
              case rel => exact ⟨_, (t345), (by first | rfl | (simp; done) | (simp [*]; done)), H', ⟨by first | omega | exact Nat.le_refl _⟩, ⟨by repeat (first | (with_reducible first | exact HB.out | apply below_alloc | apply pw_below_drewN | apply below_drew1) | exact HB.out)⟩⟩
            · replace c16 := Bool.eq_false_iff.mpr c16
              subst c16
              have H1 : (fathomref3_Mul.j0 k a0 a1 a2 (t338 != t339) false) = some r := by rw [if_neg (show ¬ (false = true) by decide)] at H; exact H
              clear H
              have H := H1
              clear H1
              have H' := Aside0.mk H
              clear H
              go_wp2_with (first | ((with_reducible refine gate_callee (f := 105) rfl ?_); refine goesL_ (some 24) rfl rfl Try.func105 (by kernel_rfl) rfl #[.int .u64 a0, .int .i64 a2] rfl (by (try simp only [List.map_toArray, List.map_cons, List.map_nil]); first | done | rfl | (simp only [List.length_drop, List.length_take]; rfl) | (simp only [gt_iff_lt, Int.natCast_pos]; rfl)) ?_; (with_reducible refine (fathomref3_IsNan.calls a0 a2 false _ A7.out).mono ?_); rintro e w' ⟨rfl, ⟨nd, rfl⟩⟩; refine ⟨_, rfl, ?_⟩) | (go_at_call 105; (with_reducible refine (fathomref3_IsNan.calls a1 a2 false _ A9.out).mono ?_); rintro e w' ⟨rfl, ⟨nd, rfl⟩⟩) | (go_at_call 106; (with_reducible refine (fathomref3_IsInf.calls a0 a2 true _ A11.out).mono ?_); rintro e w' ⟨rfl, ⟨nd, rfl⟩⟩) | (go_at_call 112; (with_reducible refine (fathomref3_IsZero.calls a1 a2 false _ A13.out).mono ?_); rintro e w' ⟨rfl, ⟨nd, rfl⟩⟩) | (go_at_call 112; (with_reducible refine (fathomref3_IsZero.calls a0 a2 false _ A15.out).mono ?_); rintro e w' ⟨rfl, ⟨nd, rfl⟩⟩))
              go_meet
              case rel => exact ⟨_, (false), (by first | rfl | (simp; done) | (simp [*]; done)), H', ⟨by first | omega | exact Nat.le_refl _⟩, ⟨by repeat (first | (with_reducible first | exact HB.out | apply below_alloc | apply pw_below_drewN | apply below_drew1) | exact HB.out)⟩⟩
        · replace c12 := Bool.eq_false_iff.mpr c12
          subst c12
          have H1 : ((fathomref3_IsZero.f a0 a2).bind fun t346 => (if t346 = true then ((fathomref3_IsInf.f a1 a2).bind fun t347 => (fathomref3_Mul.j0 k a0 a1 a2 (t338 != t339) t347)) else (fathomref3_Mul.j0 k a0 a1 a2 (t338 != t339) false))) = some r := by rw [if_neg (show ¬ (false = true) by decide)] at H; exact H
          clear H
          have H := H1
          clear H1
          replace H := Option.bind_eq_some_iff.mp H
          obtain ⟨t346, A180, H⟩ := H
          replace H : (if t346 = true then ((fathomref3_IsInf.f a1 a2).bind fun t347 => (fathomref3_Mul.j0 k a0 a1 a2 (t338 != t339) t347)) else (fathomref3_Mul.j0 k a0 a1 a2 (t338 != t339) false)) = some r := H
          have A18 := Aside0.mk A180
          clear A180
          by_cases c19 : t346 = true
          · subst c19
            have H1 : ((fathomref3_IsInf.f a1 a2).bind fun t347 => (fathomref3_Mul.j0 k a0 a1 a2 (t338 != t339) t347)) = some r := by rw [if_pos rfl] at H; exact H
            clear H
            have H := H1
            clear H1
            replace H := Option.bind_eq_some_iff.mp H
            obtain ⟨t347, A200, H⟩ := H
            replace H : (fathomref3_Mul.j0 k a0 a1 a2 (t338 != t339) t347) = some r := H
            have A20 := Aside0.mk A200
            clear A200
            have H' := Aside0.mk H
            clear H
            go_wp2_with (first | ((with_reducible refine gate_callee (f := 105) rfl ?_); refine goesL_ (some 24) rfl rfl Try.func105 (by kernel_rfl) rfl #[.int .u64 a0, .int .i64 a2] rfl (by (try simp only [List.map_toArray, List.map_cons, List.map_nil]); first | done | rfl | (simp only [List.length_drop, List.length_take]; rfl) | (simp only [gt_iff_lt, Int.natCast_pos]; rfl)) ?_; (with_reducible refine (fathomref3_IsNan.calls a0 a2 false _ A7.out).mono ?_); rintro e w' ⟨rfl, ⟨nd, rfl⟩⟩; refine ⟨_, rfl, ?_⟩) | (go_at_call 105; (with_reducible refine (fathomref3_IsNan.calls a1 a2 false _ A9.out).mono ?_); rintro e w' ⟨rfl, ⟨nd, rfl⟩⟩) | (go_at_call 106; (with_reducible refine (fathomref3_IsInf.calls a0 a2 false _ A11.out).mono ?_); rintro e w' ⟨rfl, ⟨nd, rfl⟩⟩) | (go_at_call 112; (with_reducible refine (fathomref3_IsZero.calls a0 a2 true _ A18.out).mono ?_); rintro e w' ⟨rfl, ⟨nd, rfl⟩⟩) | (go_at_call 106; (with_reducible refine (fathomref3_IsInf.calls a1 a2 t347 _ A20.out).mono ?_); rintro e w' ⟨rfl, ⟨nd, rfl⟩⟩))
            go_meet
            case rel => exact ⟨_, (t347), (by first | rfl | (simp; done) | (simp [*]; done)), H', ⟨by first | omega | exact Nat.le_refl _⟩, ⟨by repeat (first | (with_reducible first | exact HB.out | apply below_alloc | apply pw_below_drewN | apply below_drew1) | exact HB.out)⟩⟩
          · replace c19 := Bool.eq_false_iff.mpr c19
            subst c19
            have H1 : (fathomref3_Mul.j0 k a0 a1 a2 (t338 != t339) false) = some r := by rw [if_neg (show ¬ (false = true) by decide)] at H; exact H
            clear H
            have H := H1
            clear H1
            have H' := Aside0.mk H
            clear H
            go_wp2_with (first | ((with_reducible refine gate_callee (f := 105) rfl ?_); refine goesL_ (some 24) rfl rfl Try.func105 (by kernel_rfl) rfl #[.int .u64 a0, .int .i64 a2] rfl (by (try simp only [List.map_toArray, List.map_cons, List.map_nil]); first | done | rfl | (simp only [List.length_drop, List.length_take]; rfl) | (simp only [gt_iff_lt, Int.natCast_pos]; rfl)) ?_; (with_reducible refine (fathomref3_IsNan.calls a0 a2 false _ A7.out).mono ?_); rintro e w' ⟨rfl, ⟨nd, rfl⟩⟩; refine ⟨_, rfl, ?_⟩) | (go_at_call 105; (with_reducible refine (fathomref3_IsNan.calls a1 a2 false _ A9.out).mono ?_); rintro e w' ⟨rfl, ⟨nd, rfl⟩⟩) | (go_at_call 106; (with_reducible refine (fathomref3_IsInf.calls a0 a2 false _ A11.out).mono ?_); rintro e w' ⟨rfl, ⟨nd, rfl⟩⟩) | (go_at_call 112; (with_reducible refine (fathomref3_IsZero.calls a0 a2 false _ A18.out).mono ?_); rintro e w' ⟨rfl, ⟨nd, rfl⟩⟩))
            go_meet
            case rel => exact ⟨_, (false), (by first | rfl | (simp; done) | (simp [*]; done)), H', ⟨by first | omega | exact Nat.le_refl _⟩, ⟨by repeat (first | (with_reducible first | exact HB.out | apply below_alloc | apply pw_below_drewN | apply below_drew1) | exact HB.out)⟩⟩
  case rest =>
    clear HC6
    try clear c1
    try clear p2
    try clear c6
    try clear c8
    try clear c9
    try clear c10
    try clear c12
    try clear c14
    try clear c16
    try clear c19
    obtain ⟨kq, x21_5, rfl, HA, HJ5, HB⟩ := hcut
    cases kq with
    | zero => exact absurd HA.out (by simp [fathomref3_Mul.j0])
    | succ kj5 =>
      have H := HA.out
      clear HA
      simp only [fathomref3_Mul.j0] at H
      by_cases c21 : x21_5 = true
      · subst c21
        have H1 : ((fathomref3_Nan.f a2).bind fun t348 => (some t348)) = some r := by rw [if_pos rfl] at H; exact H
        clear H
        have H := H1
        clear H1
        replace H := Option.bind_eq_some_iff.mp H
        obtain ⟨t348, A220, H⟩ := H
        replace H : (some t348) = some r := H
        have A22 := Aside0.mk A220
        clear A220
        obtain rfl := Option.some.inj H
        go_wp2_with (first | ((with_reducible refine gate_callee (f := 119) rfl ?_); refine goesL_ (some 51) rfl rfl Try.func119 (by kernel_rfl) rfl #[.int .i64 a2] rfl (by (try simp only [List.map_toArray, List.map_cons, List.map_nil]); first | done | rfl | (simp only [List.length_drop, List.length_take]; rfl) | (simp only [gt_iff_lt, Int.natCast_pos]; rfl)) ?_; (with_reducible refine (fathomref3_Nan.calls a2 t348 _ A22.out).mono ?_); rintro e w' ⟨rfl, ⟨nd, rfl⟩⟩; refine ⟨_, rfl, ?_⟩))
        go_ret
        exact ⟨by first | rfl | (simp [errW_none, errW_some] <;> rfl) | (simp [*, errW_none, errW_some] <;> rfl), by repeat (first | (with_reducible first | exact HB.out | apply below_alloc | apply pw_below_drewN | apply below_drew1) | exact HB.out)⟩
      · replace c21 := Bool.eq_false_iff.mpr c21
        subst c21
        have H1 : ((fathomref3_IsInf.f a0 a2).bind fun t349 => (if t349 = true then (fathomref3_Mul.j1 kj5 a0 a1 a2 (t338 != t339) true) else ((fathomref3_IsInf.f a1 a2).bind fun t350 => (fathomref3_Mul.j1 kj5 a0 a1 a2 (t338 != t339) t350)))) = some r := by rw [if_neg (show ¬ (false = true) by decide)] at H; exact H
        clear H
        have H := H1
        clear H1
        have HC23 := Aside0.mk H
        clear H
        go_upto_region 4 with (fail)
        go_cut [52] (fun v52 wc => ∃ (kq : Nat) (x52_22 : Bool), v52 = .bool x52_22 ∧ Aside0 (fathomref3_Mul.j1 kq a0 a1 a2 (t338 != t339) x52_22 = some r) ∧ Aside0 (kq ≤ kj5) ∧ Aside0 (Below w.heap.size w wc))
        case first =>
          have H := HC23.out
          clear HC23
          replace H := Option.bind_eq_some_iff.mp H
          obtain ⟨t349, A240, H⟩ := H
          replace H : (if t349 = true then (fathomref3_Mul.j1 kj5 a0 a1 a2 (t338 != t339) true) else ((fathomref3_IsInf.f a1 a2).bind fun t350 => (fathomref3_Mul.j1 kj5 a0 a1 a2 (t338 != t339) t350))) = some r := H
          have A24 := Aside0.mk A240
          clear A240
          by_cases c25 : t349 = true
          · subst c25
            have H1 : (fathomref3_Mul.j1 kj5 a0 a1 a2 (t338 != t339) true) = some r := by rw [if_pos rfl] at H; exact H
            clear H
            have H := H1
            clear H1
            have H' := Aside0.mk H
            clear H
            go_wp2_with (first | ((with_reducible refine gate_callee (f := 106) rfl ?_); refine goesL_ (some 55) rfl rfl Try.func106 (by kernel_rfl) rfl #[.int .u64 a0, .int .i64 a2] rfl (by (try simp only [List.map_toArray, List.map_cons, List.map_nil]); first | done | rfl | (simp only [List.length_drop, List.length_take]; rfl) | (simp only [gt_iff_lt, Int.natCast_pos]; rfl)) ?_; (with_reducible refine (fathomref3_IsInf.calls a0 a2 true _ A24.out).mono ?_); rintro e w' ⟨rfl, ⟨nd, rfl⟩⟩; refine ⟨_, rfl, ?_⟩))
            go_meet
            case rel => exact ⟨_, (true), (by first | rfl | (simp; done) | (simp [*]; done)), H', ⟨by have := HJ5.out; first | omega | exact Nat.le_refl _⟩, ⟨by repeat (first | (with_reducible first | exact HB.out | apply below_alloc | apply pw_below_drewN | apply below_drew1) | exact HB.out)⟩⟩
          · replace c25 := Bool.eq_false_iff.mpr c25
            subst c25
            have H1 : ((fathomref3_IsInf.f a1 a2).bind fun t350 => (fathomref3_Mul.j1 kj5 a0 a1 a2 (t338 != t339) t350)) = some r := by rw [if_neg (show ¬ (false = true) by decide)] at H; exact H
            clear H
            have H := H1
            clear H1
            replace H := Option.bind_eq_some_iff.mp H
            obtain ⟨t350, A260, H⟩ := H
            replace H : (fathomref3_Mul.j1 kj5 a0 a1 a2 (t338 != t339) t350) = some r := H
            have A26 := Aside0.mk A260
            clear A260
            have H' := Aside0.mk H
            clear H
            go_wp2_with (first | ((with_reducible refine gate_callee (f := 106) rfl ?_); refine goesL_ (some 55) rfl rfl Try.func106 (by kernel_rfl) rfl #[.int .u64 a0, .int .i64 a2] rfl (by (try simp only [List.map_toArray, List.map_cons, List.map_nil]); first | done | rfl | (simp only [List.length_drop, List.length_take]; rfl) | (simp only [gt_iff_lt, Int.natCast_pos]; rfl)) ?_; (with_reducible refine (fathomref3_IsInf.calls a0 a2 false _ A24.out).mono ?_); rintro e w' ⟨rfl, ⟨nd, rfl⟩⟩; refine ⟨_, rfl, ?_⟩) | (go_at_call 106; (with_reducible refine (fathomref3_IsInf.calls a1 a2 t350 _ A26.out).mono ?_); rintro e w' ⟨rfl, ⟨nd, rfl⟩⟩))
            go_meet
            case rel => exact ⟨_, (t350), (by first | rfl | (simp; done) | (simp [*]; done)), H', ⟨by have := HJ5.out; first | omega | exact Nat.le_refl _⟩, ⟨by repeat (first | (with_reducible first | exact HB.out | apply below_alloc | apply pw_below_drewN | apply below_drew1) | exact HB.out)⟩⟩
        case rest =>
          clear HC23
          try clear c1
          try clear c2
          try clear p2
          try clear c6
          try clear c8
          try clear c9
          try clear c10
          try clear c11
          try clear c12
          try clear c14
          try clear c16
          try clear c19
          try clear c21
          try clear c25
          try clear p2
          obtain ⟨kq, x52_22, rfl, HA, HJ22, HB⟩ := hcut
          cases kq with
          | zero => exact absurd HA.out (by simp [fathomref3_Mul.j1])
          | succ kj22 =>
            have H := HA.out
            clear HA
            simp only [fathomref3_Mul.j1] at H
            by_cases c27 : x52_22 = true
            · subst c27
              have H1 : ((fathomref3_Inf.f a2).bind fun t351 => ((fathomref3_signed.f (t338 != t339) t351 a2).bind fun t352 => (some t352))) = some r := by rw [if_pos rfl] at H; exact H
              clear H
              have H := H1
              clear H1
              replace H := Option.bind_eq_some_iff.mp H
              obtain ⟨t351, A280, H⟩ := H
              replace H : ((fathomref3_signed.f (t338 != t339) t351 a2).bind fun t352 => (some t352)) = some r := H
              have A28 := Aside0.mk A280
              clear A280
              replace H := Option.bind_eq_some_iff.mp H
              obtain ⟨t352, A290, H⟩ := H
              replace H : (some t352) = some r := H
              have A29 := Aside0.mk A290
              clear A290
              obtain rfl := Option.some.inj H
              go_wp2_with (first | ((with_reducible refine gate_callee (f := 117) rfl ?_); refine goesL_ (some 63) rfl rfl Try.func117 (by kernel_rfl) rfl #[.int .i64 a2] rfl (by (try simp only [List.map_toArray, List.map_cons, List.map_nil]); first | done | rfl | (simp only [List.length_drop, List.length_take]; rfl) | (simp only [gt_iff_lt, Int.natCast_pos]; rfl)) ?_; (with_reducible refine (fathomref3_Inf.calls a2 t351 _ A28.out).mono ?_); rintro e w' ⟨rfl, ⟨nd, rfl⟩⟩; refine ⟨_, rfl, ?_⟩) | ((with_reducible refine gate_callee (f := 107) rfl ?_); refine goesL_ (some 65) rfl rfl Try.func107 (by kernel_rfl) rfl #[.bool (t338 != t339), .int .u64 t351, .int .i64 a2] rfl (by (try simp only [List.map_toArray, List.map_cons, List.map_nil]); first | done | rfl | (simp only [List.length_drop, List.length_take]; rfl) | (simp only [gt_iff_lt, Int.natCast_pos]; rfl)) ?_; (with_reducible refine (fathomref3_signed.calls (t338 != t339) t351 a2 t352 _ A29.out).mono ?_); rintro e w' ⟨rfl, ⟨nd, rfl⟩⟩; refine ⟨_, rfl, ?_⟩))
              go_ret
              exact ⟨by first | rfl | (simp [errW_none, errW_some] <;> rfl) | (simp [*, errW_none, errW_some] <;> rfl), by repeat (first | (with_reducible first | exact HB.out | apply below_alloc | apply pw_below_drewN | apply below_drew1) | exact HB.out)⟩
            · replace c27 := Bool.eq_false_iff.mpr c27
              subst c27
              have H1 : ((fathomref3_Parts.f kj22 a0 a2).bind fun bt353 => ((fathomref3_Parts.f kj22 a1 a2).bind fun bt358 => ((fathomref3_Times.f kj22 bt353.2.1 bt358.2.1).bind fun t363 => ((fathomref3_Of.f kj22 1).bind fun t366 => ((fathomref3_Nearest.f kj22 (t338 != t339) t363 t366 (wrap64 (bt353.2.2 + bt358.2.2)) a2).bind fun t369 => (some t369)))))) = some r := by rw [if_neg (show ¬ (false = true) by decide)] at H; exact H
              clear H
              have H := H1
              clear H1
              replace H := Option.bind_eq_some_iff.mp H
              obtain ⟨⟨t353, t354, t355⟩, A300, H⟩ := H
              replace H : ((fathomref3_Parts.f kj22 a1 a2).bind fun bt358 => ((fathomref3_Times.f kj22 t354 bt358.2.1).bind fun t363 => ((fathomref3_Of.f kj22 1).bind fun t366 => ((fathomref3_Nearest.f kj22 (t338 != t339) t363 t366 (wrap64 (t355 + bt358.2.2)) a2).bind fun t369 => (some t369))))) = some r := H
              have A30 := Aside0.mk A300
              clear A300
              replace H := Option.bind_eq_some_iff.mp H
              obtain ⟨⟨t358, t359, t360⟩, A310, H⟩ := H
              replace H : ((fathomref3_Times.f kj22 t354 t359).bind fun t363 => ((fathomref3_Of.f kj22 1).bind fun t366 => ((fathomref3_Nearest.f kj22 (t338 != t339) t363 t366 (wrap64 (t355 + t360)) a2).bind fun t369 => (some t369)))) = some r := H
              have A31 := Aside0.mk A310
              clear A310
              replace H := Option.bind_eq_some_iff.mp H
              obtain ⟨t363, A320, H⟩ := H
              replace H : ((fathomref3_Of.f kj22 1).bind fun t366 => ((fathomref3_Nearest.f kj22 (t338 != t339) t363 t366 (wrap64 (t355 + t360)) a2).bind fun t369 => (some t369))) = some r := H
              have A32 := Aside0.mk A320
              clear A320
              replace H := Option.bind_eq_some_iff.mp H
              obtain ⟨t366, A330, H⟩ := H
              replace H : ((fathomref3_Nearest.f kj22 (t338 != t339) t363 t366 (wrap64 (t355 + t360)) a2).bind fun t369 => (some t369)) = some r := H
              have A33 := Aside0.mk A330
              clear A330
              replace H := Option.bind_eq_some_iff.mp H
              obtain ⟨t369, A340, H⟩ := H
              replace H : (some t369) = some r := H
              have A34 := Aside0.mk A340
              clear A340
              obtain rfl := Option.some.inj H
              go_wp2_with (first | ((with_reducible refine gate_callee (f := 108) rfl ?_); refine goesL_ (some 69) rfl rfl Try.func108 (by kernel_rfl) rfl #[.int .u64 a0, .int .i64 a2] rfl (by (try simp only [List.map_toArray, List.map_cons, List.map_nil]); first | done | rfl | (simp only [List.length_drop, List.length_take]; rfl) | (simp only [gt_iff_lt, Int.natCast_pos]; rfl)) ?_; (with_reducible refine (fathomref3_Parts.calls kj22 a0 a2 t353 t354 t355 _ A30.out).mono ?_); rintro e w35 ⟨v356, rfl, ho0, hb⟩; refine ⟨_, rfl, ?_⟩; have n0_ := Aside0.mk (Kd.R_lower ho0 (below_size (by repeat (first | (with_reducible first | exact HB.out | apply below_alloc | apply pw_below_drewN | apply below_drew1) | exact HB.out)))); have n1_ := Aside0.mk (below_step (by repeat (first | (with_reducible first | exact HB.out | apply below_alloc | apply pw_below_drewN | apply below_drew1) | exact HB.out)) hb); clear HB; have HO357 := n0_; have HB := n1_; clear n0_ n1_; (try clear hb); (try clear hb2); (try clear hk); (try clear hi); (try clear ho0)) | ((with_reducible refine gate_callee (f := 108) rfl ?_); refine goesL_ (some 76) rfl rfl Try.func108 (by kernel_rfl) rfl #[.int .u64 a1, .int .i64 a2] rfl (by (try simp only [List.map_toArray, List.map_cons, List.map_nil]); first | done | rfl | (simp only [List.length_drop, List.length_take]; rfl) | (simp only [gt_iff_lt, Int.natCast_pos]; rfl)) ?_; (with_reducible refine (fathomref3_Parts.calls kj22 a1 a2 t358 t359 t360 _ A31.out).mono ?_); rintro e w36 ⟨v361, rfl, ho0, hb⟩; refine ⟨_, rfl, ?_⟩; have n0_ := Aside0.mk (Kd.R_elder' (by (with_reducible repeat (first | apply Kd.R_alloc | apply Kd.R_drewN | apply Kd.R_drew)); exact HO357.out) (Kd.R_base ho0) hb); have n1_ := Aside0.mk (Kd.R_lower (Kd.R_new' ho0 (Kd.R_lt (by (with_reducible repeat (first | apply Kd.R_alloc | apply Kd.R_drewN | apply Kd.R_drew)); exact HO357.out))) (below_size (by repeat (first | (with_reducible first | exact HB.out | apply below_alloc | apply pw_below_drewN | apply below_drew1) | exact HB.out)))); have n2_ := Aside0.mk (below_step (by repeat (first | (with_reducible first | exact HB.out | apply below_alloc | apply pw_below_drewN | apply below_drew1) | exact HB.out)) hb); clear HO357; clear HB; have HO357 := n0_; have HO362 := n1_; have HB := n2_; clear n0_ n1_ n2_; (try clear hb); (try clear hb2); (try clear hk); (try clear hi); (try clear ho0); obtain ⟨Ao37, co37, eo37⟩ := Kd.R_slice HO357.out; subst eo37; obtain ⟨Ao38, co38, eo38⟩ := Kd.R_slice HO362.out; subst eo38) | ((with_reducible refine gate_callee (f := 27) rfl ?_); refine goesL_ (some 83) rfl rfl Try.func27 (by kernel_rfl) rfl #[.slice Ao37 t354.length co37, .slice Ao38 t359.length co38] rfl (by (try simp only [List.map_toArray, List.map_cons, List.map_nil]); first | done | rfl | (simp only [List.length_drop, List.length_take]; rfl) | (simp only [gt_iff_lt, Int.natCast_pos]; rfl)) ?_; (with_reducible refine (fathomref3_Times.calls kj22 _ _ t354 _ _ t359 t363 _ ?side1 ?side2 ?side3 ?side4 A32.out).mono ?_); (case side1 => repeat (first | exact (Kd.R_reads' HO357.out).2.2 | (with_reducible refine Kd.C_alloc ?_ _) | (with_reducible refine Kd.C_drewN ?_ _) | (with_reducible refine Kd.C_drew ?_))); (case side2 => exact (Kd.R_reads' HO357.out).2.1); (case side3 => repeat (first | exact (Kd.R_reads' HO362.out).2.2 | (with_reducible refine Kd.C_alloc ?_ _) | (with_reducible refine Kd.C_drewN ?_ _) | (with_reducible refine Kd.C_drew ?_))); (case side4 => exact (Kd.R_reads' HO362.out).2.1); rintro e w39 ⟨v364, rfl, ho0, hb⟩; refine ⟨_, rfl, ?_⟩; have n0_ := Aside0.mk (Kd.R_elder' (by (with_reducible repeat (first | apply Kd.R_alloc | apply Kd.R_drewN | apply Kd.R_drew)); exact HO357.out) (Kd.R_base ho0) hb); have n1_ := Aside0.mk (Kd.R_elder' (by (with_reducible repeat (first | apply Kd.R_alloc | apply Kd.R_drewN | apply Kd.R_drew)); exact HO362.out) (Kd.R_base ho0) hb); have n2_ := Aside0.mk (Kd.R_lower (Kd.R_new' (Kd.R_new' ho0 (Kd.R_lt (by (with_reducible repeat (first | apply Kd.R_alloc | apply Kd.R_drewN | apply Kd.R_drew)); exact HO357.out))) (Kd.R_lt (by (with_reducible repeat (first | apply Kd.R_alloc | apply Kd.R_drewN | apply Kd.R_drew)); exact HO362.out))) (below_size (by repeat (first | (with_reducible first | exact HB.out | apply below_alloc | apply pw_below_drewN | apply below_drew1) | exact HB.out)))); have n3_ := Aside0.mk (below_step (by repeat (first | (with_reducible first | exact HB.out | apply below_alloc | apply pw_below_drewN | apply below_drew1) | exact HB.out)) hb); clear HO357; clear HO362; clear HB; have HO357 := n0_; have HO362 := n1_; have HO365 := n2_; have HB := n3_; clear n0_ n1_ n2_ n3_; (try clear hb); (try clear hb2); (try clear hk); (try clear hi); (try clear ho0)) | ((with_reducible refine gate_callee (f := 89) rfl ?_); refine goesL_ (some 84) rfl rfl Try.func89 (by kernel_rfl) rfl #[.int .u64 1] rfl (by (try simp only [List.map_toArray, List.map_cons, List.map_nil]); first | done | rfl | (simp only [List.length_drop, List.length_take]; rfl) | (simp only [gt_iff_lt, Int.natCast_pos]; rfl)) ?_; (with_reducible refine (fathomref3_Of.calls kj22 1 t366 _ A33.out).mono ?_); rintro e w40 ⟨v367, rfl, ho0, hb⟩; refine ⟨_, rfl, ?_⟩; have n0_ := Aside0.mk (Kd.R_elder' (by (with_reducible repeat (first | apply Kd.R_alloc | apply Kd.R_drewN | apply Kd.R_drew)); exact HO357.out) (Kd.R_base ho0) hb); have n1_ := Aside0.mk (Kd.R_elder' (by (with_reducible repeat (first | apply Kd.R_alloc | apply Kd.R_drewN | apply Kd.R_drew)); exact HO362.out) (Kd.R_base ho0) hb); have n2_ := Aside0.mk (Kd.R_elder' (by (with_reducible repeat (first | apply Kd.R_alloc | apply Kd.R_drewN | apply Kd.R_drew)); exact HO365.out) (Kd.R_base ho0) hb); have n3_ := Aside0.mk (Kd.R_lower (Kd.R_new' (Kd.R_new' (Kd.R_new' ho0 (Kd.R_lt (by (with_reducible repeat (first | apply Kd.R_alloc | apply Kd.R_drewN | apply Kd.R_drew)); exact HO357.out))) (Kd.R_lt (by (with_reducible repeat (first | apply Kd.R_alloc | apply Kd.R_drewN | apply Kd.R_drew)); exact HO362.out))) (Kd.R_lt (by (with_reducible repeat (first | apply Kd.R_alloc | apply Kd.R_drewN | apply Kd.R_drew)); exact HO365.out))) (below_size (by repeat (first | (with_reducible first | exact HB.out | apply below_alloc | apply pw_below_drewN | apply below_drew1) | exact HB.out)))); have n4_ := Aside0.mk (below_step (by repeat (first | (with_reducible first | exact HB.out | apply below_alloc | apply pw_below_drewN | apply below_drew1) | exact HB.out)) hb); clear HO357; clear HO362; clear HO365; clear HB; have HO357 := n0_; have HO362 := n1_; have HO365 := n2_; have HO368 := n3_; have HB := n4_; clear n0_ n1_ n2_ n3_ n4_; (try clear hb); (try clear hb2); (try clear hk); (try clear hi); (try clear ho0); obtain ⟨Ao41, co41, eo41⟩ := Kd.R_slice HO365.out; subst eo41; obtain ⟨Ao42, co42, eo42⟩ := Kd.R_slice HO368.out; subst eo42) | ((with_reducible refine gate_callee (f := 94) rfl ?_); refine goesL_ (some 89) rfl rfl Try.func94 (by kernel_rfl) rfl #[.bool (t338 != t339), .slice Ao41 t363.length co41, .slice Ao42 t366.length co42, .int .i64 (wrap64 (t355 + t360)), .int .i64 a2] rfl (by (try simp only [List.map_toArray, List.map_cons, List.map_nil]); first | done | rfl | (simp only [List.length_drop, List.length_take]; rfl) | (simp only [gt_iff_lt, Int.natCast_pos]; rfl)) ?_; (with_reducible refine (fathomref3_Nearest.calls kj22 (t338 != t339) _ _ t363 _ _ t366 (wrap64 (t355 + t360)) a2 t369 _ ?side1 ?side2 ?side3 ?side4 A34.out).mono ?_); (case side1 => repeat (first | exact (Kd.R_reads' HO365.out).2.2 | (with_reducible refine Kd.C_alloc ?_ _) | (with_reducible refine Kd.C_drewN ?_ _) | (with_reducible refine Kd.C_drew ?_))); (case side2 => exact (Kd.R_reads' HO365.out).2.1); (case side3 => repeat (first | exact (Kd.R_reads' HO368.out).2.2 | (with_reducible refine Kd.C_alloc ?_ _) | (with_reducible refine Kd.C_drewN ?_ _) | (with_reducible refine Kd.C_drew ?_))); (case side4 => exact (Kd.R_reads' HO368.out).2.1); rintro e w43 ⟨rfl, hb⟩; refine ⟨_, rfl, ?_⟩; have n0_ := Aside0.mk (Kd.R_below (by (with_reducible repeat (first | apply Kd.R_alloc | apply Kd.R_drewN | apply Kd.R_drew)); exact HO357.out) hb); have n1_ := Aside0.mk (Kd.R_below (by (with_reducible repeat (first | apply Kd.R_alloc | apply Kd.R_drewN | apply Kd.R_drew)); exact HO362.out) hb); have n2_ := Aside0.mk (Kd.R_below (by (with_reducible repeat (first | apply Kd.R_alloc | apply Kd.R_drewN | apply Kd.R_drew)); exact HO365.out) hb); have n3_ := Aside0.mk (Kd.R_below (by (with_reducible repeat (first | apply Kd.R_alloc | apply Kd.R_drewN | apply Kd.R_drew)); exact HO368.out) hb); have n4_ := Aside0.mk (below_step (by repeat (first | (with_reducible first | exact HB.out | apply below_alloc | apply pw_below_drewN | apply below_drew1) | exact HB.out)) hb); clear HO357; clear HO362; clear HO365; clear HO368; clear HB; have HO357 := n0_; have HO362 := n1_; have HO365 := n2_; have HO368 := n3_; have HB := n4_; clear n0_ n1_ n2_ n3_ n4_; (try clear hb); (try clear hb2); (try clear hk); (try clear hi)))
              go_ret
              exact ⟨by first | rfl | (simp [errW_none, errW_some] <;> rfl) | (simp [*, errW_none, errW_some] <;> rfl), by repeat (first | (with_reducible first | exact HB.out | apply below_alloc | apply pw_below_drewN | apply below_drew1) | exact HB.out)⟩

/-! ### fathomref3_Div: function 71 -/
mutual
def fathomref3_Div.j0 : Nat → Int → Int → Int → Bool → Bool → Option (Int)
  | 0, _, _, _, _, _ => none
  | k + 1, x0, x1, x2, x7, x21 => if x21 = true then ((fathomref3_Nan.f x2).bind fun t380 => (some t380)) else ((fathomref3_IsInf.f x0 x2).bind fun t381 => (if t381 = true then (fathomref3_Div.j1 k x0 x1 x2 x7 true) else ((fathomref3_IsZero.f x1 x2).bind fun t382 => (fathomref3_Div.j1 k x0 x1 x2 x7 t382))))
def fathomref3_Div.j1 : Nat → Int → Int → Int → Bool → Bool → Option (Int)
  | 0, _, _, _, _, _ => none
  | k + 1, x0, x1, x2, x7, x52 => if x52 = true then ((fathomref3_Inf.f x2).bind fun t383 => ((fathomref3_signed.f x7 t383 x2).bind fun t384 => (some t384))) else ((fathomref3_IsInf.f x1 x2).bind fun t385 => (if t385 = true then ((fathomref3_signed.f x7 0 x2).bind fun t386 => (some t386)) else ((fathomref3_Parts.f k x0 x2).bind fun bt387 => ((fathomref3_Parts.f k x1 x2).bind fun bt392 => ((fathomref3_Nearest.f k x7 bt387.2.1 bt392.2.1 (wrap64 (bt387.2.2 - bt392.2.2)) x2).bind fun t397 => (some t397))))))
end
def fathomref3_Div.f (k : Nat) (a0 : Int) (a1 : Int) (a2 : Int) : Option (Int) := (fathomref3_Neg.f a0 a2).bind fun t370 => ((fathomref3_Neg.f a1 a2).bind fun t371 => ((fathomref3_IsNan.f a0 a2).bind fun t372 => (if t372 = true then (fathomref3_Div.j0 k a0 a1 a2 (t370 != t371) true) else ((fathomref3_IsNan.f a1 a2).bind fun t373 => (if t373 = true then (fathomref3_Div.j0 k a0 a1 a2 (t370 != t371) true) else ((fathomref3_IsInf.f a0 a2).bind fun t374 => (if t374 = true then ((fathomref3_IsInf.f a1 a2).bind fun t375 => (if t375 = true then (fathomref3_Div.j0 k a0 a1 a2 (t370 != t371) true) else ((fathomref3_IsZero.f a0 a2).bind fun t376 => (if t376 = true then ((fathomref3_IsZero.f a1 a2).bind fun t377 => (fathomref3_Div.j0 k a0 a1 a2 (t370 != t371) t377)) else (fathomref3_Div.j0 k a0 a1 a2 (t370 != t371) false))))) else ((fathomref3_IsZero.f a0 a2).bind fun t378 => (if t378 = true then ((fathomref3_IsZero.f a1 a2).bind fun t379 => (fathomref3_Div.j0 k a0 a1 a2 (t370 != t371) t379)) else (fathomref3_Div.j0 k a0 a1 a2 (t370 != t371) false))))))))))
theorem fathomref3_Div.mono_l : ∀ k, (∀ y0 y1 y2 y3 y4, LeO (fathomref3_Div.j0 k y0 y1 y2 y3 y4) (fathomref3_Div.j0 (k + 1) y0 y1 y2 y3 y4)) ∧ (∀ y0 y1 y2 y3 y4, LeO (fathomref3_Div.j1 k y0 y1 y2 y3 y4) (fathomref3_Div.j1 (k + 1) y0 y1 y2 y3 y4))
  | 0 => ⟨fun _ _ _ _ _ r h => by simp [fathomref3_Div.j0] at h, fun _ _ _ _ _ r h => by simp [fathomref3_Div.j1] at h⟩
  | k + 1 => by
    obtain ⟨ih0, ih1⟩ := fathomref3_Div.mono_l k
    refine ⟨?_, ?_⟩
    · intro y0 y1 y2 y3 y4
      unfold fathomref3_Div.j0
      repeat' first
      | (with_reducible exact ih0 _ _ _ _ _)
      | (with_reducible exact ih1 _ _ _ _ _)
      | (with_reducible exact fathomref3_Nearest.mono _ _ _ _ _ _)
      | (with_reducible exact fathomref3_Parts.mono _ _ _)
      | (with_reducible exact LeO.refl _)
      | (with_reducible exact LeO.none _)
      | (with_reducible refine LeO.ite ?_ ?_)
      | (with_reducible refine LeO.bind ?_ (fun _ => ?_))
      | exact ih0 _ _ _ _ _
      | exact ih1 _ _ _ _ _
      | exact fathomref3_Nearest.mono _ _ _ _ _ _
      | exact fathomref3_Parts.mono _ _ _
      | exact LeO.none _
      | refine LeO.ite ?_ ?_
      | refine LeO.bind ?_ (fun _ => ?_)
    · intro y0 y1 y2 y3 y4
      unfold fathomref3_Div.j1
      repeat' first
      | (with_reducible exact ih0 _ _ _ _ _)
      | (with_reducible exact ih1 _ _ _ _ _)
      | (with_reducible exact fathomref3_Nearest.mono _ _ _ _ _ _)
      | (with_reducible exact fathomref3_Parts.mono _ _ _)
      | (with_reducible exact LeO.refl _)
      | (with_reducible exact LeO.none _)
      | (with_reducible refine LeO.ite ?_ ?_)
      | (with_reducible refine LeO.bind ?_ (fun _ => ?_))
      | exact ih0 _ _ _ _ _
      | exact ih1 _ _ _ _ _
      | exact fathomref3_Nearest.mono _ _ _ _ _ _
      | exact fathomref3_Parts.mono _ _ _
      | exact LeO.none _
      | refine LeO.ite ?_ ?_
      | refine LeO.bind ?_ (fun _ => ?_)
theorem fathomref3_Div.mono : ∀ a0 a1 a2 k, LeO (fathomref3_Div.f k a0 a1 a2) (fathomref3_Div.f (k + 1) a0 a1 a2) := by
  intro a0 a1 a2 k
  obtain ⟨ih0, ih1⟩ := fathomref3_Div.mono_l k
  unfold fathomref3_Div.f
  repeat' first
      | (with_reducible exact ih0 _ _ _ _ _)
      | (with_reducible exact ih1 _ _ _ _ _)
      | (with_reducible exact fathomref3_Nearest.mono _ _ _ _ _ _)
      | (with_reducible exact fathomref3_Parts.mono _ _ _)
      | (with_reducible exact LeO.refl _)
      | (with_reducible exact LeO.none _)
      | (with_reducible refine LeO.ite ?_ ?_)
      | (with_reducible refine LeO.bind ?_ (fun _ => ?_))
      | exact ih0 _ _ _ _ _
      | exact ih1 _ _ _ _ _
      | exact fathomref3_Nearest.mono _ _ _ _ _ _
      | exact fathomref3_Parts.mono _ _ _
      | exact LeO.none _
      | refine LeO.ite ?_ ?_
      | refine LeO.bind ?_ (fun _ => ?_)
set_option maxHeartbeats 8000000 in
set_option maxRecDepth 100000 in
theorem fathomref3_Div.calls (k : Nat) (a0 : Int) (a1 : Int) (a2 : Int) (r : Int) (w : World) (h : fathomref3_Div.f k a0 a1 a2 = some r) :
    Calls Try.prog 71 #[.int .u64 a0, .int .u64 a1, .int .i64 a2] w fun e w' => e = .returned (.int .u64 r) ∧ Below w.heap.size w w' := by
  have HB := Aside0.mk (Below.refl w.heap.size w)
  have H : ((fathomref3_Neg.f a0 a2).bind fun t370 => ((fathomref3_Neg.f a1 a2).bind fun t371 => ((fathomref3_IsNan.f a0 a2).bind fun t372 => (if t372 = true then (fathomref3_Div.j0 k a0 a1 a2 (t370 != t371) true) else ((fathomref3_IsNan.f a1 a2).bind fun t373 => (if t373 = true then (fathomref3_Div.j0 k a0 a1 a2 (t370 != t371) true) else ((fathomref3_IsInf.f a0 a2).bind fun t374 => (if t374 = true then ((fathomref3_IsInf.f a1 a2).bind fun t375 => (if t375 = true then (fathomref3_Div.j0 k a0 a1 a2 (t370 != t371) true) else ((fathomref3_IsZero.f a0 a2).bind fun t376 => (if t376 = true then ((fathomref3_IsZero.f a1 a2).bind fun t377 => (fathomref3_Div.j0 k a0 a1 a2 (t370 != t371) t377)) else (fathomref3_Div.j0 k a0 a1 a2 (t370 != t371) false))))) else ((fathomref3_IsZero.f a0 a2).bind fun t378 => (if t378 = true then ((fathomref3_IsZero.f a1 a2).bind fun t379 => (fathomref3_Div.j0 k a0 a1 a2 (t370 != t371) t379)) else (fathomref3_Div.j0 k a0 a1 a2 (t370 != t371) false))))))))))) = some r := h
  clear h
  replace H := Option.bind_eq_some_iff.mp H
  obtain ⟨t370, A40, H⟩ := H
  replace H : ((fathomref3_Neg.f a1 a2).bind fun t371 => ((fathomref3_IsNan.f a0 a2).bind fun t372 => (if t372 = true then (fathomref3_Div.j0 k a0 a1 a2 (t370 != t371) true) else ((fathomref3_IsNan.f a1 a2).bind fun t373 => (if t373 = true then (fathomref3_Div.j0 k a0 a1 a2 (t370 != t371) true) else ((fathomref3_IsInf.f a0 a2).bind fun t374 => (if t374 = true then ((fathomref3_IsInf.f a1 a2).bind fun t375 => (if t375 = true then (fathomref3_Div.j0 k a0 a1 a2 (t370 != t371) true) else ((fathomref3_IsZero.f a0 a2).bind fun t376 => (if t376 = true then ((fathomref3_IsZero.f a1 a2).bind fun t377 => (fathomref3_Div.j0 k a0 a1 a2 (t370 != t371) t377)) else (fathomref3_Div.j0 k a0 a1 a2 (t370 != t371) false))))) else ((fathomref3_IsZero.f a0 a2).bind fun t378 => (if t378 = true then ((fathomref3_IsZero.f a1 a2).bind fun t379 => (fathomref3_Div.j0 k a0 a1 a2 (t370 != t371) t379)) else (fathomref3_Div.j0 k a0 a1 a2 (t370 != t371) false)))))))))) = some r := H
  have A4 := Aside0.mk A40
  clear A40
  replace H := Option.bind_eq_some_iff.mp H
  obtain ⟨t371, A50, H⟩ := H
  replace H : ((fathomref3_IsNan.f a0 a2).bind fun t372 => (if t372 = true then (fathomref3_Div.j0 k a0 a1 a2 (t370 != t371) true) else ((fathomref3_IsNan.f a1 a2).bind fun t373 => (if t373 = true then (fathomref3_Div.j0 k a0 a1 a2 (t370 != t371) true) else ((fathomref3_IsInf.f a0 a2).bind fun t374 => (if t374 = true then ((fathomref3_IsInf.f a1 a2).bind fun t375 => (if t375 = true then (fathomref3_Div.j0 k a0 a1 a2 (t370 != t371) true) else ((fathomref3_IsZero.f a0 a2).bind fun t376 => (if t376 = true then ((fathomref3_IsZero.f a1 a2).bind fun t377 => (fathomref3_Div.j0 k a0 a1 a2 (t370 != t371) t377)) else (fathomref3_Div.j0 k a0 a1 a2 (t370 != t371) false))))) else ((fathomref3_IsZero.f a0 a2).bind fun t378 => (if t378 = true then ((fathomref3_IsZero.f a1 a2).bind fun t379 => (fathomref3_Div.j0 k a0 a1 a2 (t370 != t371) t379)) else (fathomref3_Div.j0 k a0 a1 a2 (t370 != t371) false))))))))) = some r := H
  have A5 := Aside0.mk A50
  clear A50
  have HC6 := Aside0.mk H
  clear H
  go_enter Try.func71, Try.ntmps71
  go_upto_region 2 with (first | ((with_reducible refine gate_callee (f := 98) rfl ?_); refine goesL_ (some 16) rfl rfl Try.func98 (by kernel_rfl) rfl #[.int .u64 a0, .int .i64 a2] rfl (by (try simp only [List.map_toArray, List.map_cons, List.map_nil]); first | done | rfl | (simp only [List.length_drop, List.length_take]; rfl) | (simp only [gt_iff_lt, Int.natCast_pos]; rfl)) ?_; (with_reducible refine (fathomref3_Neg.calls a0 a2 t370 _ A4.out).mono ?_); rintro e w' ⟨rfl, ⟨nd, rfl⟩⟩; refine ⟨_, rfl, ?_⟩) | ((with_reducible refine gate_callee (f := 98) rfl ?_); refine goesL_ (some 19) rfl rfl Try.func98 (by kernel_rfl) rfl #[.int .u64 a1, .int .i64 a2] rfl (by (try simp only [List.map_toArray, List.map_cons, List.map_nil]); first | done | rfl | (simp only [List.length_drop, List.length_take]; rfl) | (simp only [gt_iff_lt, Int.natCast_pos]; rfl)) ?_; (with_reducible refine (fathomref3_Neg.calls a1 a2 t371 _ A5.out).mono ?_); rintro e w' ⟨rfl, ⟨nd, rfl⟩⟩; refine ⟨_, rfl, ?_⟩))
  (try simp only [Act.put, List.setIfInBounds_toArray, List.set_cons_zero, List.set_cons_succ])
  go_cut [21] (fun v21 wc => ∃ (kq : Nat) (x21_5 : Bool), v21 = .bool x21_5 ∧ Aside0 (fathomref3_Div.j0 kq a0 a1 a2 (t370 != t371) x21_5 = some r) ∧ Aside0 (kq ≤ k) ∧ Aside0 (Below w.heap.size w wc))
  case first =>
    have H := HC6.out
    clear HC6
    replace H := Option.bind_eq_some_iff.mp H
    obtain ⟨t372, A70, H⟩ := H
    replace H : (if t372 = true then (fathomref3_Div.j0 k a0 a1 a2 (t370 != t371) true) else ((fathomref3_IsNan.f a1 a2).bind fun t373 => (if t373 = true then (fathomref3_Div.j0 k a0 a1 a2 (t370 != t371) true) else ((fathomref3_IsInf.f a0 a2).bind fun t374 => (if t374 = true then ((fathomref3_IsInf.f a1 a2).bind fun t375 => (if t375 = true then (fathomref3_Div.j0 k a0 a1 a2 (t370 != t371) true) else ((fathomref3_IsZero.f a0 a2).bind fun t376 => (if t376 = true then ((fathomref3_IsZero.f a1 a2).bind fun t377 => (fathomref3_Div.j0 k a0 a1 a2 (t370 != t371) t377)) else (fathomref3_Div.j0 k a0 a1 a2 (t370 != t371) false))))) else ((fathomref3_IsZero.f a0 a2).bind fun t378 => (if t378 = true then ((fathomref3_IsZero.f a1 a2).bind fun t379 => (fathomref3_Div.j0 k a0 a1 a2 (t370 != t371) t379)) else (fathomref3_Div.j0 k a0 a1 a2 (t370 != t371) false)))))))) = some r := H
    have A7 := Aside0.mk A70
    clear A70
    by_cases c8 : t372 = true
    · subst c8
      have H1 : (fathomref3_Div.j0 k a0 a1 a2 (t370 != t371) true) = some r := by rw [if_pos rfl] at H; exact H
      clear H
      have H := H1
      clear H1
      have H' := Aside0.mk H
      clear H
      go_wp2_with (first | ((with_reducible refine gate_callee (f := 105) rfl ?_); refine goesL_ (some 24) rfl rfl Try.func105 (by kernel_rfl) rfl #[.int .u64 a0, .int .i64 a2] rfl (by (try simp only [List.map_toArray, List.map_cons, List.map_nil]); first | done | rfl | (simp only [List.length_drop, List.length_take]; rfl) | (simp only [gt_iff_lt, Int.natCast_pos]; rfl)) ?_; (with_reducible refine (fathomref3_IsNan.calls a0 a2 true _ A7.out).mono ?_); rintro e w' ⟨rfl, ⟨nd, rfl⟩⟩; refine ⟨_, rfl, ?_⟩))
      go_meet
      case rel => exact ⟨_, (true), (by first | rfl | (simp; done) | (simp [*]; done)), H', ⟨by first | omega | exact Nat.le_refl _⟩, ⟨by repeat (first | (with_reducible first | exact HB.out | apply below_alloc | apply pw_below_drewN | apply below_drew1) | exact HB.out)⟩⟩
    · replace c8 := Bool.eq_false_iff.mpr c8
      subst c8
      have H1 : ((fathomref3_IsNan.f a1 a2).bind fun t373 => (if t373 = true then (fathomref3_Div.j0 k a0 a1 a2 (t370 != t371) true) else ((fathomref3_IsInf.f a0 a2).bind fun t374 => (if t374 = true then ((fathomref3_IsInf.f a1 a2).bind fun t375 => (if t375 = true then (fathomref3_Div.j0 k a0 a1 a2 (t370 != t371) true) else ((fathomref3_IsZero.f a0 a2).bind fun t376 => (if t376 = true then ((fathomref3_IsZero.f a1 a2).bind fun t377 => (fathomref3_Div.j0 k a0 a1 a2 (t370 != t371) t377)) else (fathomref3_Div.j0 k a0 a1 a2 (t370 != t371) false))))) else ((fathomref3_IsZero.f a0 a2).bind fun t378 => (if t378 = true then ((fathomref3_IsZero.f a1 a2).bind fun t379 => (fathomref3_Div.j0 k a0 a1 a2 (t370 != t371) t379)) else (fathomref3_Div.j0 k a0 a1 a2 (t370 != t371) false))))))) = some r := by rw [if_neg (show ¬ (false = true) by decide)] at H; exact H
      clear H
      have H := H1
      clear H1
      replace H := Option.bind_eq_some_iff.mp H
      obtain ⟨t373, A90, H⟩ := H
      replace H : (if t373 = true then (fathomref3_Div.j0 k a0 a1 a2 (t370 != t371) true) else ((fathomref3_IsInf.f a0 a2).bind fun t374 => (if t374 = true then ((fathomref3_IsInf.f a1 a2).bind fun t375 => (if t375 = true then (fathomref3_Div.j0 k a0 a1 a2 (t370 != t371) true) else ((fathomref3_IsZero.f a0 a2).bind fun t376 => (if t376 = true then ((fathomref3_IsZero.f a1 a2).bind fun t377 => (fathomref3_Div.j0 k a0 a1 a2 (t370 != t371) t377)) else (fathomref3_Div.j0 k a0 a1 a2 (t370 != t371) false))))) else ((fathomref3_IsZero.f a0 a2).bind fun t378 => (if t378 = true then ((fathomref3_IsZero.f a1 a2).bind fun t379 => (fathomref3_Div.j0 k a0 a1 a2 (t370 != t371) t379)) else (fathomref3_Div.j0 k a0 a1 a2 (t370 != t371) false)))))) = some r := H
      have A9 := Aside0.mk A90
      clear A90
      by_cases c10 : t373 = true
      · subst c10
        have H1 : (fathomref3_Div.j0 k a0 a1 a2 (t370 != t371) true) = some r := by rw [if_pos rfl] at H; exact H
        clear H
        have H := H1
        clear H1
        have H' := Aside0.mk H
        clear H
        go_wp2_with (first | ((with_reducible refine gate_callee (f := 105) rfl ?_); refine goesL_ (some 24) rfl rfl Try.func105 (by kernel_rfl) rfl #[.int .u64 a0, .int .i64 a2] rfl (by (try simp only [List.map_toArray, List.map_cons, List.map_nil]); first | done | rfl | (simp only [List.length_drop, List.length_take]; rfl) | (simp only [gt_iff_lt, Int.natCast_pos]; rfl)) ?_; (with_reducible refine (fathomref3_IsNan.calls a0 a2 false _ A7.out).mono ?_); rintro e w' ⟨rfl, ⟨nd, rfl⟩⟩; refine ⟨_, rfl, ?_⟩) | (go_at_call 105; (with_reducible refine (fathomref3_IsNan.calls a1 a2 true _ A9.out).mono ?_); rintro e w' ⟨rfl, ⟨nd, rfl⟩⟩))
        go_meet
        case rel => exact ⟨_, (true), (by first | rfl | (simp; done) | (simp [*]; done)), H', ⟨by first | omega | exact Nat.le_refl _⟩, ⟨by repeat (first | (with_reducible first | exact HB.out | apply below_alloc | apply pw_below_drewN | apply below_drew1) | exact HB.out)⟩⟩
      · replace c10 := Bool.eq_false_iff.mpr c10
        subst c10
        have H1 : ((fathomref3_IsInf.f a0 a2).bind fun t374 => (if t374 = true then ((fathomref3_IsInf.f a1 a2).bind fun t375 => (if t375 = true then (fathomref3_Div.j0 k a0 a1 a2 (t370 != t371) true) else ((fathomref3_IsZero.f a0 a2).bind fun t376 => (if t376 = true then ((fathomref3_IsZero.f a1 a2).bind fun t377 => (fathomref3_Div.j0 k a0 a1 a2 (t370 != t371) t377)) else (fathomref3_Div.j0 k a0 a1 a2 (t370 != t371) false))))) else ((fathomref3_IsZero.f a0 a2).bind fun t378 => (if t378 = true then ((fathomref3_IsZero.f a1 a2).bind fun t379 => (fathomref3_Div.j0 k a0 a1 a2 (t370 != t371) t379)) else (fathomref3_Div.j0 k a0 a1 a2 (t370 != t371) false))))) = some r := by rw [if_neg (show ¬ (false = true) by decide)] at H; exact H
        clear H
        have H := H1
        clear H1
        replace H := Option.bind_eq_some_iff.mp H
        obtain ⟨t374, A110, H⟩ := H
        replace H : (if t374 = true then ((fathomref3_IsInf.f a1 a2).bind fun t375 => (if t375 = true then (fathomref3_Div.j0 k a0 a1 a2 (t370 != t371) true) else ((fathomref3_IsZero.f a0 a2).bind fun t376 => (if t376 = true then ((fathomref3_IsZero.f a1 a2).bind fun t377 => (fathomref3_Div.j0 k a0 a1 a2 (t370 != t371) t377)) else (fathomref3_Div.j0 k a0 a1 a2 (t370 != t371) false))))) else ((fathomref3_IsZero.f a0 a2).bind fun t378 => (if t378 = true then ((fathomref3_IsZero.f a1 a2).bind fun t379 => (fathomref3_Div.j0 k a0 a1 a2 (t370 != t371) t379)) else (fathomref3_Div.j0 k a0 a1 a2 (t370 != t371) false)))) = some r := H
        have A11 := Aside0.mk A110
        clear A110
        by_cases c12 : t374 = true
        · subst c12
          have H1 : ((fathomref3_IsInf.f a1 a2).bind fun t375 => (if t375 = true then (fathomref3_Div.j0 k a0 a1 a2 (t370 != t371) true) else ((fathomref3_IsZero.f a0 a2).bind fun t376 => (if t376 = true then ((fathomref3_IsZero.f a1 a2).bind fun t377 => (fathomref3_Div.j0 k a0 a1 a2 (t370 != t371) t377)) else (fathomref3_Div.j0 k a0 a1 a2 (t370 != t371) false))))) = some r := by rw [if_pos rfl] at H; exact H
          clear H
          have H := H1
          clear H1
          replace H := Option.bind_eq_some_iff.mp H
          obtain ⟨t375, A130, H⟩ := H
          replace H : (if t375 = true then (fathomref3_Div.j0 k a0 a1 a2 (t370 != t371) true) else ((fathomref3_IsZero.f a0 a2).bind fun t376 => (if t376 = true then ((fathomref3_IsZero.f a1 a2).bind fun t377 => (fathomref3_Div.j0 k a0 a1 a2 (t370 != t371) t377)) else (fathomref3_Div.j0 k a0 a1 a2 (t370 != t371) false)))) = some r := H
          have A13 := Aside0.mk A130
          clear A130
          by_cases c14 : t375 = true
          · subst c14
            have H1 : (fathomref3_Div.j0 k a0 a1 a2 (t370 != t371) true) = some r := by rw [if_pos rfl] at H; exact H
            clear H
            have H := H1
            clear H1
            have H' := Aside0.mk H
            clear H
            go_wp2_with (first | ((with_reducible refine gate_callee (f := 105) rfl ?_); refine goesL_ (some 24) rfl rfl Try.func105 (by kernel_rfl) rfl #[.int .u64 a0, .int .i64 a2] rfl (by (try simp only [List.map_toArray, List.map_cons, List.map_nil]); first | done | rfl | (simp only [List.length_drop, List.length_take]; rfl) | (simp only [gt_iff_lt, Int.natCast_pos]; rfl)) ?_; (with_reducible refine (fathomref3_IsNan.calls a0 a2 false _ A7.out).mono ?_); rintro e w' ⟨rfl, ⟨nd, rfl⟩⟩; refine ⟨_, rfl, ?_⟩) | (go_at_call 105; (with_reducible refine (fathomref3_IsNan.calls a1 a2 false _ A9.out).mono ?_); rintro e w' ⟨rfl, ⟨nd, rfl⟩⟩) | (go_at_call 106; (with_reducible refine (fathomref3_IsInf.calls a0 a2 true _ A11.out).mono ?_); rintro e w' ⟨rfl, ⟨nd, rfl⟩⟩) | (go_at_call 106; (with_reducible refine (fathomref3_IsInf.calls a1 a2 true _ A13.out).mono ?_); rintro e w' ⟨rfl, ⟨nd, rfl⟩⟩))
            go_meet
            case rel => exact ⟨_, (true), (by first | rfl | (simp; done) | (simp [*]; done)), H', ⟨by first | omega | exact Nat.le_refl _⟩, ⟨by repeat (first | (with_reducible first | exact HB.out | apply below_alloc | apply pw_below_drewN | apply below_drew1) | exact HB.out)⟩⟩
          · replace c14 := Bool.eq_false_iff.mpr c14
            subst c14
            have H1 : ((fathomref3_IsZero.f a0 a2).bind fun t376 => (if t376 = true then ((fathomref3_IsZero.f a1 a2).bind fun t377 => (fathomref3_Div.j0 k a0 a1 a2 (t370 != t371) t377)) else (fathomref3_Div.j0 k a0 a1 a2 (t370 != t371) false))) = some r := by rw [if_neg (show ¬ (false = true) by decide)] at H; exact H
            clear H
            have H := H1
            clear H1
            replace H := Option.bind_eq_some_iff.mp H
            obtain ⟨t376, A150, H⟩ := H
            replace H : (if t376 = true then ((fathomref3_IsZero.f a1 a2).bind fun t377 => (fathomref3_Div.j0 k a0 a1 a2 (t370 != t371) t377)) else (fathomref3_Div.j0 k a0 a1 a2 (t370 != t371) false)) = some r := H
            have A15 := Aside0.mk A150
            clear A150
            by_cases c16 : t376 = true
            · subst c16
              have H1 : ((fathomref3_IsZero.f a1 a2).bind fun t377 => (fathomref3_Div.j0 k a0 a1 a2 (t370 != t371) t377)) = some r := by rw [if_pos rfl] at H; exact H
              clear H
              have H := H1
              clear H1
              replace H := Option.bind_eq_some_iff.mp H
              obtain ⟨t377, A170, H⟩ := H
              replace H : (fathomref3_Div.j0 k a0 a1 a2 (t370 != t371) t377) = some r := H
              have A17 := Aside0.mk A170
              clear A170
              have H' := Aside0.mk H
              clear H
              go_wp2_with (first | ((with_reducible refine gate_callee (f := 105) rfl ?_); refine goesL_ (some 24) rfl rfl Try.func105 (by kernel_rfl) rfl #[.int .u64 a0, .int .i64 a2] rfl (by (try simp only [List.map_toArray, List.map_cons, List.map_nil]); first | done | rfl | (simp only [List.length_drop, List.length_take]; rfl) | (simp only [gt_iff_lt, Int.natCast_pos]; rfl)) ?_; (with_reducible refine (fathomref3_IsNan.calls a0 a2 false _ A7.out).mono ?_); rintro e w' ⟨rfl, ⟨nd, rfl⟩⟩; refine ⟨_, rfl, ?_⟩) | (go_at_call 105; (with_reducible refine (fathomref3_IsNan.calls a1 a2 false _ A9.out).mono ?_); rintro e w' ⟨rfl, ⟨nd, rfl⟩⟩) | (go_at_call 106; (with_reducible refine (fathomref3_IsInf.calls a0 a2 true _ A11.out).mono ?_); rintro e w' ⟨rfl, ⟨nd, rfl⟩⟩) | (go_at_call 106; (with_reducible refine (fathomref3_IsInf.calls a1 a2 false _ A13.out).mono ?_); rintro e w' ⟨rfl, ⟨nd, rfl⟩⟩) | (go_at_call 112; (with_reducible refine (fathomref3_IsZero.calls a0 a2 true _ A15.out).mono ?_); rintro e w' ⟨rfl, ⟨nd, rfl⟩⟩) | (go_at_call 112; (with_reducible refine (fathomref3_IsZero.calls a1 a2 t377 _ A17.out).mono ?_); rintro e w' ⟨rfl, ⟨nd, rfl⟩⟩))
              go_meet
              case rel => exact ⟨_, (t377), (by first | rfl | (simp; done) | (simp [*]; done)), H', ⟨by first | omega | exact Nat.le_refl _⟩, ⟨by repeat (first | (with_reducible first | exact HB.out | apply below_alloc | apply pw_below_drewN | apply below_drew1) | exact HB.out)⟩⟩
            · replace c16 := Bool.eq_false_iff.mpr c16
              subst c16
              have H1 : (fathomref3_Div.j0 k a0 a1 a2 (t370 != t371) false) = some r := by rw [if_neg (show ¬ (false = true) by decide)] at H; exact H
              clear H
              have H := H1
              clear H1
              have H' := Aside0.mk H
              clear H
              go_wp2_with (first | ((with_reducible refine gate_callee (f := 105) rfl ?_); refine goesL_ (some 24) rfl rfl Try.func105 (by kernel_rfl) rfl #[.int .u64 a0, .int .i64 a2] rfl (by (try simp only [List.map_toArray, List.map_cons, List.map_nil]); first | done | rfl | (simp only [List.length_drop, List.length_take]; rfl) | (simp only [gt_iff_lt, Int.natCast_pos]; rfl)) ?_; (with_reducible refine (fathomref3_IsNan.calls a0 a2 false _ A7.out).mono ?_); rintro e w' ⟨rfl, ⟨nd, rfl⟩⟩; refine ⟨_, rfl, ?_⟩) | (go_at_call 105; (with_reducible refine (fathomref3_IsNan.calls a1 a2 false _ A9.out).mono ?_); rintro e w' ⟨rfl, ⟨nd, rfl⟩⟩) | (go_at_call 106; (with_reducible refine (fathomref3_IsInf.calls a0 a2 true _ A11.out).mono ?_); rintro e w' ⟨rfl, ⟨nd, rfl⟩⟩) | (go_at_call 106; (with_reducible refine (fathomref3_IsInf.calls a1 a2 false _ A13.out).mono ?_); rintro e w' ⟨rfl, ⟨nd, rfl⟩⟩) | (go_at_call 112; (with_reducible refine (fathomref3_IsZero.calls a0 a2 false _ A15.out).mono ?_); rintro e w' ⟨rfl, ⟨nd, rfl⟩⟩))
              go_meet
              case rel => exact ⟨_, (false), (by first | rfl | (simp; done) | (simp [*]; done)), H', ⟨by first | omega | exact Nat.le_refl _⟩, ⟨by repeat (first | (with_reducible first | exact HB.out | apply below_alloc | apply pw_below_drewN | apply below_drew1) | exact HB.out)⟩⟩
        · replace c12 := Bool.eq_false_iff.mpr c12
          subst c12
          have H1 : ((fathomref3_IsZero.f a0 a2).bind fun t378 => (if t378 = true then ((fathomref3_IsZero.f a1 a2).bind fun t379 => (fathomref3_Div.j0 k a0 a1 a2 (t370 != t371) t379)) else (fathomref3_Div.j0 k a0 a1 a2 (t370 != t371) false))) = some r := by rw [if_neg (show ¬ (false = true) by decide)] at H; exact H
          clear H
          have H := H1
          clear H1
          replace H := Option.bind_eq_some_iff.mp H
          obtain ⟨t378, A180, H⟩ := H
          replace H : (if t378 = true then ((fathomref3_IsZero.f a1 a2).bind fun t379 => (fathomref3_Div.j0 k a0 a1 a2 (t370 != t371) t379)) else (fathomref3_Div.j0 k a0 a1 a2 (t370 != t371) false)) = some r := H
          have A18 := Aside0.mk A180
          clear A180
          by_cases c19 : t378 = true
          · subst c19
            have H1 : ((fathomref3_IsZero.f a1 a2).bind fun t379 => (fathomref3_Div.j0 k a0 a1 a2 (t370 != t371) t379)) = some r := by rw [if_pos rfl] at H; exact H
            clear H
            have H := H1
            clear H1
            replace H := Option.bind_eq_some_iff.mp H
            obtain ⟨t379, A200, H⟩ := H
            replace H : (fathomref3_Div.j0 k a0 a1 a2 (t370 != t371) t379) = some r := H
            have A20 := Aside0.mk A200
            clear A200
            have H' := Aside0.mk H
            clear H
            go_wp2_with (first | ((with_reducible refine gate_callee (f := 105) rfl ?_); refine goesL_ (some 24) rfl rfl Try.func105 (by kernel_rfl) rfl #[.int .u64 a0, .int .i64 a2] rfl (by (try simp only [List.map_toArray, List.map_cons, List.map_nil]); first | done | rfl | (simp only [List.length_drop, List.length_take]; rfl) | (simp only [gt_iff_lt, Int.natCast_pos]; rfl)) ?_; (with_reducible refine (fathomref3_IsNan.calls a0 a2 false _ A7.out).mono ?_); rintro e w' ⟨rfl, ⟨nd, rfl⟩⟩; refine ⟨_, rfl, ?_⟩) | (go_at_call 105; (with_reducible refine (fathomref3_IsNan.calls a1 a2 false _ A9.out).mono ?_); rintro e w' ⟨rfl, ⟨nd, rfl⟩⟩) | (go_at_call 106; (with_reducible refine (fathomref3_IsInf.calls a0 a2 false _ A11.out).mono ?_); rintro e w' ⟨rfl, ⟨nd, rfl⟩⟩) | (go_at_call 112; (with_reducible refine (fathomref3_IsZero.calls a0 a2 true _ A18.out).mono ?_); rintro e w' ⟨rfl, ⟨nd, rfl⟩⟩) | (go_at_call 112; (with_reducible refine (fathomref3_IsZero.calls a1 a2 t379 _ A20.out).mono ?_); rintro e w' ⟨rfl, ⟨nd, rfl⟩⟩))
            go_meet
            case rel => exact ⟨_, (t379), (by first | rfl | (simp; done) | (simp [*]; done)), H', ⟨by first | omega | exact Nat.le_refl _⟩, ⟨by repeat (first | (with_reducible first | exact HB.out | apply below_alloc | apply pw_below_drewN | apply below_drew1) | exact HB.out)⟩⟩
          · replace c19 := Bool.eq_false_iff.mpr c19
            subst c19
            have H1 : (fathomref3_Div.j0 k a0 a1 a2 (t370 != t371) false) = some r := by rw [if_neg (show ¬ (false = true) by decide)] at H; exact H
            clear H
            have H := H1
            clear H1
            have H' := Aside0.mk H
            clear H
            go_wp2_with (first | ((with_reducible refine gate_callee (f := 105) rfl ?_); refine goesL_ (some 24) rfl rfl Try.func105 (by kernel_rfl) rfl #[.int .u64 a0, .int .i64 a2] rfl (by (try simp only [List.map_toArray, List.map_cons, List.map_nil]); first | done | rfl | (simp only [List.length_drop, List.length_take]; rfl) | (simp only [gt_iff_lt, Int.natCast_pos]; rfl)) ?_; (with_reducible refine (fathomref3_IsNan.calls a0 a2 false _ A7.out).mono ?_); rintro e w' ⟨rfl, ⟨nd, rfl⟩⟩; refine ⟨_, rfl, ?_⟩) | (go_at_call 105; (with_reducible refine (fathomref3_IsNan.calls a1 a2 false _ A9.out).mono ?_); rintro e w' ⟨rfl, ⟨nd, rfl⟩⟩) | (go_at_call 106; (with_reducible refine (fathomref3_IsInf.calls a0 a2 false _ A11.out).mono ?_); rintro e w' ⟨rfl, ⟨nd, rfl⟩⟩) | (go_at_call 112; (with_reducible refine (fathomref3_IsZero.calls a0 a2 false _ A18.out).mono ?_); rintro e w' ⟨rfl, ⟨nd, rfl⟩⟩))
            go_meet
            case rel => exact ⟨_, (false), (by first | rfl | (simp; done) | (simp [*]; done)), H', ⟨by first | omega | exact Nat.le_refl _⟩, ⟨by repeat (first | (with_reducible first | exact HB.out | apply below_alloc | apply pw_below_drewN | apply below_drew1) | exact HB.out)⟩⟩
  case rest =>
    clear HC6
    try clear c1
    try clear p2
    try clear c7
    try clear c8
    try clear c9
    try clear c10
    try clear c12
    try clear c14
    try clear c16
    try clear c19
    obtain ⟨kq, x21_5, rfl, HA, HJ5, HB⟩ := hcut
    cases kq with
    | zero => exact absurd HA.out (by simp [fathomref3_Div.j0])
    | succ kj5 =>
      have H := HA.out
      clear HA
      simp only [fathomref3_Div.j0] at H
      by_cases c21 : x21_5 = true
      · subst c21
        have H1 : ((fathomref3_Nan.f a2).bind fun t380 => (some t380)) = some r := by rw [if_pos rfl] at H; exact H
        clear H
        have H := H1
        clear H1
        replace H := Option.bind_eq_some_iff.mp H
        obtain ⟨t380, A220, H⟩ := H
        replace H : (some t380) = some r := H
        have A22 := Aside0.mk A220
        clear A220
        obtain rfl := Option.some.inj H
        go_wp2_with (first | ((with_reducible refine gate_callee (f := 119) rfl ?_); refine goesL_ (some 51) rfl rfl Try.func119 (by kernel_rfl) rfl #[.int .i64 a2] rfl (by (try simp only [List.map_toArray, List.map_cons, List.map_nil]); first | done | rfl | (simp only [List.length_drop, List.length_take]; rfl) | (simp only [gt_iff_lt, Int.natCast_pos]; rfl)) ?_; (with_reducible refine (fathomref3_Nan.calls a2 t380 _ A22.out).mono ?_); rintro e w' ⟨rfl, ⟨nd, rfl⟩⟩; refine ⟨_, rfl, ?_⟩))
        go_ret
        exact ⟨by first | rfl | (simp [errW_none, errW_some] <;> rfl) | (simp [*, errW_none, errW_some] <;> rfl), by repeat (first | (with_reducible first | exact HB.out | apply below_alloc | apply pw_below_drewN | apply below_drew1) | exact HB.out)⟩
      · replace c21 := Bool.eq_false_iff.mpr c21
        subst c21
        have H1 : ((fathomref3_IsInf.f a0 a2).bind fun t381 => (if t381 = true then (fathomref3_Div.j1 kj5 a0 a1 a2 (t370 != t371) true) else ((fathomref3_IsZero.f a1 a2).bind fun t382 => (fathomref3_Div.j1 kj5 a0 a1 a2 (t370 != t371) t382)))) = some r := by rw [if_neg (show ¬ (false = true) by decide)] at H; exact H
        clear H
        have H := H1
        clear H1
        have HC23 := Aside0.mk H
        clear H
        go_upto_region 4 with (fail)
        go_cut [52] (fun v52 wc => ∃ (kq : Nat) (x52_22 : Bool), v52 = .bool x52_22 ∧ Aside0 (fathomref3_Div.j1 kq a0 a1 a2 (t370 != t371) x52_22 = some r) ∧ Aside0 (kq ≤ kj5) ∧ Aside0 (Below w.heap.size w wc))
        case first =>
          have H := HC23.out
          clear HC23
          replace H := Option.bind_eq_some_iff.mp H
          obtain ⟨t381, A240, H⟩ := H
          replace H : (if t381 = true then (fathomref3_Div.j1 kj5 a0 a1 a2 (t370 != t371) true) else ((fathomref3_IsZero.f a1 a2).bind fun t382 => (fathomref3_Div.j1 kj5 a0 a1 a2 (t370 != t371) t382))) = some r := H
          have A24 := Aside0.mk A240
          clear A240
          by_cases c25 : t381 = true
          · subst c25
            have H1 : (fathomref3_Div.j1 kj5 a0 a1 a2 (t370 != t371) true) = some r := by rw [if_pos rfl] at H; exact H
            clear H
            have H := H1
            clear H1
            have H' := Aside0.mk H
            clear H
            go_wp2_with (first | ((with_reducible refine gate_callee (f := 106) rfl ?_); refine goesL_ (some 55) rfl rfl Try.func106 (by kernel_rfl) rfl #[.int .u64 a0, .int .i64 a2] rfl (by (try simp only [List.map_toArray, List.map_cons, List.map_nil]); first | done | rfl | (simp only [List.length_drop, List.length_take]; rfl) | (simp only [gt_iff_lt, Int.natCast_pos]; rfl)) ?_; (with_reducible refine (fathomref3_IsInf.calls a0 a2 true _ A24.out).mono ?_); rintro e w' ⟨rfl, ⟨nd, rfl⟩⟩; refine ⟨_, rfl, ?_⟩))
            go_meet
            case rel => exact ⟨_, (true), (by first | rfl | (simp; done) | (simp [*]; done)), H', ⟨by have := HJ5.out; first | omega | exact Nat.le_refl _⟩, ⟨by repeat (first | (with_reducible first | exact HB.out | apply below_alloc | apply pw_below_drewN | apply below_drew1) | exact HB.out)⟩⟩
          · replace c25 := Bool.eq_false_iff.mpr c25
            subst c25
            have H1 : ((fathomref3_IsZero.f a1 a2).bind fun t382 => (fathomref3_Div.j1 kj5 a0 a1 a2 (t370 != t371) t382)) = some r := by rw [if_neg (show ¬ (false = true) by decide)] at H; exact H
            clear H
            have H := H1
            clear H1
            replace H := Option.bind_eq_some_iff.mp H
            obtain ⟨t382, A260, H⟩ := H
            replace H : (fathomref3_Div.j1 kj5 a0 a1 a2 (t370 != t371) t382) = some r := H
            have A26 := Aside0.mk A260
            clear A260
            have H' := Aside0.mk H
            clear H
            go_wp2_with (first | ((with_reducible refine gate_callee (f := 106) rfl ?_); refine goesL_ (some 55) rfl rfl Try.func106 (by kernel_rfl) rfl #[.int .u64 a0, .int .i64 a2] rfl (by (try simp only [List.map_toArray, List.map_cons, List.map_nil]); first | done | rfl | (simp only [List.length_drop, List.length_take]; rfl) | (simp only [gt_iff_lt, Int.natCast_pos]; rfl)) ?_; (with_reducible refine (fathomref3_IsInf.calls a0 a2 false _ A24.out).mono ?_); rintro e w' ⟨rfl, ⟨nd, rfl⟩⟩; refine ⟨_, rfl, ?_⟩) | (go_at_call 112; (with_reducible refine (fathomref3_IsZero.calls a1 a2 t382 _ A26.out).mono ?_); rintro e w' ⟨rfl, ⟨nd, rfl⟩⟩))
            go_meet
            case rel => exact ⟨_, (t382), (by first | rfl | (simp; done) | (simp [*]; done)), H', ⟨by have := HJ5.out; first | omega | exact Nat.le_refl _⟩, ⟨by repeat (first | (with_reducible first | exact HB.out | apply below_alloc | apply pw_below_drewN | apply below_drew1) | exact HB.out)⟩⟩
        case rest =>
          clear HC23
          try clear c1
          try clear c2
          try clear p2
          try clear c7
          try clear c8
          try clear c9
          try clear c10
          try clear c11
          try clear c12
          try clear c14
          try clear c16
          try clear c19
          try clear c21
          try clear c25
          try clear p2
          obtain ⟨kq, x52_22, rfl, HA, HJ22, HB⟩ := hcut
          cases kq with
          | zero => exact absurd HA.out (by simp [fathomref3_Div.j1])
          | succ kj22 =>
            have H := HA.out
            clear HA
            simp only [fathomref3_Div.j1] at H
            by_cases c27 : x52_22 = true
            · subst c27
              have H1 : ((fathomref3_Inf.f a2).bind fun t383 => ((fathomref3_signed.f (t370 != t371) t383 a2).bind fun t384 => (some t384))) = some r := by rw [if_pos rfl] at H; exact H
              clear H
              have H := H1
              clear H1
              replace H := Option.bind_eq_some_iff.mp H
              obtain ⟨t383, A280, H⟩ := H
              replace H : ((fathomref3_signed.f (t370 != t371) t383 a2).bind fun t384 => (some t384)) = some r := H
              have A28 := Aside0.mk A280
              clear A280
              replace H := Option.bind_eq_some_iff.mp H
              obtain ⟨t384, A290, H⟩ := H
              replace H : (some t384) = some r := H
              have A29 := Aside0.mk A290
              clear A290
              obtain rfl := Option.some.inj H
              go_wp2_with (first | ((with_reducible refine gate_callee (f := 117) rfl ?_); refine goesL_ (some 63) rfl rfl Try.func117 (by kernel_rfl) rfl #[.int .i64 a2] rfl (by (try simp only [List.map_toArray, List.map_cons, List.map_nil]); first | done | rfl | (simp only [List.length_drop, List.length_take]; rfl) | (simp only [gt_iff_lt, Int.natCast_pos]; rfl)) ?_; (with_reducible refine (fathomref3_Inf.calls a2 t383 _ A28.out).mono ?_); rintro e w' ⟨rfl, ⟨nd, rfl⟩⟩; refine ⟨_, rfl, ?_⟩) | ((with_reducible refine gate_callee (f := 107) rfl ?_); refine goesL_ (some 65) rfl rfl Try.func107 (by kernel_rfl) rfl #[.bool (t370 != t371), .int .u64 t383, .int .i64 a2] rfl (by (try simp only [List.map_toArray, List.map_cons, List.map_nil]); first | done | rfl | (simp only [List.length_drop, List.length_take]; rfl) | (simp only [gt_iff_lt, Int.natCast_pos]; rfl)) ?_; (with_reducible refine (fathomref3_signed.calls (t370 != t371) t383 a2 t384 _ A29.out).mono ?_); rintro e w' ⟨rfl, ⟨nd, rfl⟩⟩; refine ⟨_, rfl, ?_⟩))
              go_ret
              exact ⟨by first | rfl | (simp [errW_none, errW_some] <;> rfl) | (simp [*, errW_none, errW_some] <;> rfl), by repeat (first | (with_reducible first | exact HB.out | apply below_alloc | apply pw_below_drewN | apply below_drew1) | exact HB.out)⟩
            · replace c27 := Bool.eq_false_iff.mpr c27
              subst c27
              have H1 : ((fathomref3_IsInf.f a1 a2).bind fun t385 => (if t385 = true then ((fathomref3_signed.f (t370 != t371) 0 a2).bind fun t386 => (some t386)) else ((fathomref3_Parts.f kj22 a0 a2).bind fun bt387 => ((fathomref3_Parts.f kj22 a1 a2).bind fun bt392 => ((fathomref3_Nearest.f kj22 (t370 != t371) bt387.2.1 bt392.2.1 (wrap64 (bt387.2.2 - bt392.2.2)) a2).bind fun t397 => (some t397)))))) = some r := by rw [if_neg (show ¬ (false = true) by decide)] at H; exact H
              clear H
              have H := H1
              clear H1
              replace H := Option.bind_eq_some_iff.mp H
              obtain ⟨t385, A300, H⟩ := H
              replace H : (if t385 = true then ((fathomref3_signed.f (t370 != t371) 0 a2).bind fun t386 => (some t386)) else ((fathomref3_Parts.f kj22 a0 a2).bind fun bt387 => ((fathomref3_Parts.f kj22 a1 a2).bind fun bt392 => ((fathomref3_Nearest.f kj22 (t370 != t371) bt387.2.1 bt392.2.1 (wrap64 (bt387.2.2 - bt392.2.2)) a2).bind fun t397 => (some t397))))) = some r := H
              have A30 := Aside0.mk A300
              clear A300
              by_cases c31 : t385 = true
              · subst c31
                have H1 : ((fathomref3_signed.f (t370 != t371) 0 a2).bind fun t386 => (some t386)) = some r := by rw [if_pos rfl] at H; exact H
                clear H
                have H := H1
                clear H1
                replace H := Option.bind_eq_some_iff.mp H
                obtain ⟨t386, A320, H⟩ := H
                replace H : (some t386) = some r := H
                have A32 := Aside0.mk A320
                clear A320
                obtain rfl := Option.some.inj H
                go_wp2_with (first | ((with_reducible refine gate_callee (f := 106) rfl ?_); refine goesL_ (some 69) rfl rfl Try.func106 (by kernel_rfl) rfl #[.int .u64 a1, .int .i64 a2] rfl (by (try simp only [List.map_toArray, List.map_cons, List.map_nil]); first | done | rfl | (simp only [List.length_drop, List.length_take]; rfl) | (simp only [gt_iff_lt, Int.natCast_pos]; rfl)) ?_; (with_reducible refine (fathomref3_IsInf.calls a1 a2 true _ A30.out).mono ?_); rintro e w' ⟨rfl, ⟨nd, rfl⟩⟩; refine ⟨_, rfl, ?_⟩) | ((with_reducible refine gate_callee (f := 107) rfl ?_); refine goesL_ (some 72) rfl rfl Try.func107 (by kernel_rfl) rfl #[.bool (t370 != t371), .int .u64 0, .int .i64 a2] rfl (by (try simp only [List.map_toArray, List.map_cons, List.map_nil]); first | done | rfl | (simp only [List.length_drop, List.length_take]; rfl) | (simp only [gt_iff_lt, Int.natCast_pos]; rfl)) ?_; (with_reducible refine (fathomref3_signed.calls (t370 != t371) 0 a2 t386 _ A32.out).mono ?_); rintro e w' ⟨rfl, ⟨nd, rfl⟩⟩; refine ⟨_, rfl, ?_⟩))
                go_ret
                exact ⟨by first | rfl | (simp [errW_none, errW_some] <;> rfl) | (simp [*, errW_none, errW_some] <;> rfl), by repeat (first | (with_reducible first | exact HB.out | apply below_alloc | apply pw_below_drewN | apply below_drew1) | exact HB.out)⟩
              · replace c31 := Bool.eq_false_iff.mpr c31
                subst c31
                have H1 : ((fathomref3_Parts.f kj22 a0 a2).bind fun bt387 => ((fathomref3_Parts.f kj22 a1 a2).bind fun bt392 => ((fathomref3_Nearest.f kj22 (t370 != t371) bt387.2.1 bt392.2.1 (wrap64 (bt387.2.2 - bt392.2.2)) a2).bind fun t397 => (some t397)))) = some r := by rw [if_neg (show ¬ (false = true) by decide)] at H; exact H
                clear H
                have H := H1
                clear H1
                replace H := Option.bind_eq_some_iff.mp H
                obtain ⟨⟨t387, t388, t389⟩, A330, H⟩ := H
                replace H : ((fathomref3_Parts.f kj22 a1 a2).bind fun bt392 => ((fathomref3_Nearest.f kj22 (t370 != t371) t388 bt392.2.1 (wrap64 (t389 - bt392.2.2)) a2).bind fun t397 => (some t397))) = some r := H
                have A33 := Aside0.mk A330
                clear A330
                replace H := Option.bind_eq_some_iff.mp H
                obtain ⟨⟨t392, t393, t394⟩, A340, H⟩ := H
                replace H : ((fathomref3_Nearest.f kj22 (t370 != t371) t388 t393 (wrap64 (t389 - t394)) a2).bind fun t397 => (some t397)) = some r := H
                have A34 := Aside0.mk A340
                clear A340
                replace H := Option.bind_eq_some_iff.mp H
                obtain ⟨t397, A350, H⟩ := H
                replace H : (some t397) = some r := H
                have A35 := Aside0.mk A350
                clear A350
                obtain rfl := Option.some.inj H
                go_wp2_with (first | ((with_reducible refine gate_callee (f := 106) rfl ?_); refine goesL_ (some 69) rfl rfl Try.func106 (by kernel_rfl) rfl #[.int .u64 a1, .int .i64 a2] rfl (by (try simp only [List.map_toArray, List.map_cons, List.map_nil]); first | done | rfl | (simp only [List.length_drop, List.length_take]; rfl) | (simp only [gt_iff_lt, Int.natCast_pos]; rfl)) ?_; (with_reducible refine (fathomref3_IsInf.calls a1 a2 false _ A30.out).mono ?_); rintro e w' ⟨rfl, ⟨nd, rfl⟩⟩; refine ⟨_, rfl, ?_⟩) | ((with_reducible refine gate_callee (f := 108) rfl ?_); refine goesL_ (some 76) rfl rfl Try.func108 (by kernel_rfl) rfl #[.int .u64 a0, .int .i64 a2] rfl (by (try simp only [List.map_toArray, List.map_cons, List.map_nil]); first | done | rfl | (simp only [List.length_drop, List.length_take]; rfl) | (simp only [gt_iff_lt, Int.natCast_pos]; rfl)) ?_; (with_reducible refine (fathomref3_Parts.calls kj22 a0 a2 t387 t388 t389 _ A33.out).mono ?_); rintro e w36 ⟨v390, rfl, ho0, hb⟩; refine ⟨_, rfl, ?_⟩; have n0_ := Aside0.mk (Kd.R_lower ho0 (below_size (by repeat (first | (with_reducible first | exact HB.out | apply below_alloc | apply pw_below_drewN | apply below_drew1) | exact HB.out)))); have n1_ := Aside0.mk (below_step (by repeat (first | (with_reducible first | exact HB.out | apply below_alloc | apply pw_below_drewN | apply below_drew1) | exact HB.out)) hb); clear HB; have HO391 := n0_; have HB := n1_; clear n0_ n1_; (try clear hb); (try clear hb2); (try clear hk); (try clear hi); (try clear ho0)) | ((with_reducible refine gate_callee (f := 108) rfl ?_); refine goesL_ (some 83) rfl rfl Try.func108 (by kernel_rfl) rfl #[.int .u64 a1, .int .i64 a2] rfl (by (try simp only [List.map_toArray, List.map_cons, List.map_nil]); first | done | rfl | (simp only [List.length_drop, List.length_take]; rfl) | (simp only [gt_iff_lt, Int.natCast_pos]; rfl)) ?_; (with_reducible refine (fathomref3_Parts.calls kj22 a1 a2 t392 t393 t394 _ A34.out).mono ?_); rintro e w37 ⟨v395, rfl, ho0, hb⟩; refine ⟨_, rfl, ?_⟩; have n0_ := Aside0.mk (Kd.R_elder' (by (with_reducible repeat (first | apply Kd.R_alloc | apply Kd.R_drewN | apply Kd.R_drew)); exact HO391.out) (Kd.R_base ho0) hb); have n1_ := Aside0.mk (Kd.R_lower (Kd.R_new' ho0 (Kd.R_lt (by (with_reducible repeat (first | apply Kd.R_alloc | apply Kd.R_drewN | apply Kd.R_drew)); exact HO391.out))) (below_size (by repeat (first | (with_reducible first | exact HB.out | apply below_alloc | apply pw_below_drewN | apply below_drew1) | exact HB.out)))); have n2_ := Aside0.mk (below_step (by repeat (first | (with_reducible first | exact HB.out | apply below_alloc | apply pw_below_drewN | apply below_drew1) | exact HB.out)) hb); clear HO391; clear HB; have HO391 := n0_; have HO396 := n1_; have HB := n2_; clear n0_ n1_ n2_; (try clear hb); (try clear hb2); (try clear hk); (try clear hi); (try clear ho0); obtain ⟨Ao38, co38, eo38⟩ := Kd.R_slice HO391.out; subst eo38; obtain ⟨Ao39, co39, eo39⟩ := Kd.R_slice HO396.out; subst eo39) | ((with_reducible refine gate_callee (f := 94) rfl ?_); refine goesL_ (some 94) rfl rfl Try.func94 (by kernel_rfl) rfl #[.bool (t370 != t371), .slice Ao38 t388.length co38, .slice Ao39 t393.length co39, .int .i64 (wrap64 (t389 - t394)), .int .i64 a2] rfl (by (try simp only [List.map_toArray, List.map_cons, List.map_nil]); first | done | rfl | (simp only [List.length_drop, List.length_take]; rfl) | (simp only [gt_iff_lt, Int.natCast_pos]; rfl)) ?_; (with_reducible refine (fathomref3_Nearest.calls kj22 (t370 != t371) _ _ t388 _ _ t393 (wrap64 (t389 - t394)) a2 t397 _ ?side1 ?side2 ?side3 ?side4 A35.out).mono ?_); (case side1 => repeat (first | exact (Kd.R_reads' HO391.out).2.2 | (with_reducible refine Kd.C_alloc ?_ _) | (with_reducible refine Kd.C_drewN ?_ _) | (with_reducible refine Kd.C_drew ?_))); (case side2 => exact (Kd.R_reads' HO391.out).2.1); (case side3 => repeat (first | exact (Kd.R_reads' HO396.out).2.2 | (with_reducible refine Kd.C_alloc ?_ _) | (with_reducible refine Kd.C_drewN ?_ _) | (with_reducible refine Kd.C_drew ?_))); (case side4 => exact (Kd.R_reads' HO396.out).2.1); rintro e w40 ⟨rfl, hb⟩; refine ⟨_, rfl, ?_⟩; have n0_ := Aside0.mk (Kd.R_below (by (with_reducible repeat (first | apply Kd.R_alloc | apply Kd.R_drewN | apply Kd.R_drew)); exact HO391.out) hb); have n1_ := Aside0.mk (Kd.R_below (by (with_reducible repeat (first | apply Kd.R_alloc | apply Kd.R_drewN | apply Kd.R_drew)); exact HO396.out) hb); have n2_ := Aside0.mk (below_step (by repeat (first | (with_reducible first | exact HB.out | apply below_alloc | apply pw_below_drewN | apply below_drew1) | exact HB.out)) hb); clear HO391; clear HO396; clear HB; have HO391 := n0_; have HO396 := n1_; have HB := n2_; clear n0_ n1_ n2_; (try clear hb); (try clear hb2); (try clear hk); (try clear hi)))
                go_ret
                exact ⟨by first | rfl | (simp [errW_none, errW_some] <;> rfl) | (simp [*, errW_none, errW_some] <;> rfl), by repeat (first | (with_reducible first | exact HB.out | apply below_alloc | apply pw_below_drewN | apply below_drew1) | exact HB.out)⟩

end Go.Proofs.Ytfloeiagdegpjaa.Rf
