/- The reference's functions (SquareRoot, NearestRoot, Root): what each call comes to, as a Lean function over lists of whole numbers. The walks began as print.sh's text for these functions. -/
import Derived.Test.YtfloeiagdegpjaaDoorR5
import Derived.Test.YtfloeiagdegpjaaDoorR6
namespace Go.Proofs.YtfloeiagdegpjaaDoor.Rf
open Go.RowKit Go.Proofs.YtfloeiagdegpjaaDoorW.PrintWords Go.Proofs.YtfloeiagdegpjaaDoorW.PrintLast Go.Proofs.YtfloeiagdegpjaaDoorW.PrintMore
attribute [local go_sem] max2_int min2_int max_two min_two max_three min_three max_four min_four
set_option linter.unusedVariables false
set_option linter.unusedSimpArgs false
-- left out: f148 fathom/fathomref3.SquareRoot
def fathomref3_SquareRoot.l0 : Nat → List Int → List Int → Int → Option (List Int × Bool)
  | 0, _, _, _ => none
  | k + 1, x0, x4, x5 => if x5 ≥ 0 then ((fathomref3_Of.f k 1).bind fun t403 => ((fathomref3_Up2.f k t403 x5).bind fun t406 => ((fathomref3_Sum.f k x4 t406).bind fun t409 => ((fathomref3_Times.f k t409 t409).bind fun t412 => ((fathomref3_Cmp.f k t412 x0).bind fun t415 => (if t415 ≤ 0 then (fathomref3_SquareRoot.l0 k x0 t409 (wrap64 (x5 - 1))) else (fathomref3_SquareRoot.l0 k x0 x4 (wrap64 (x5 - 1))))))))) else ((fathomref3_Times.f k x4 x4).bind fun t399 => ((fathomref3_Cmp.f k t399 x0).bind fun t402 => (some (x4, (t402 == 0)))))
def fathomref3_SquareRoot.f (k : Nat) (l0 : List Int) : Option (List Int × Bool) := (fathomref3_Len.f k l0).bind fun t398 => (fathomref3_SquareRoot.l0 k l0 ([] : List Int) (wrap64 (Int.tdiv (wrap64 (t398 + 1)) 2)))
theorem fathomref3_SquareRoot.mono_l : ∀ k, (∀ y0 y1 y2, LeO (fathomref3_SquareRoot.l0 k y0 y1 y2) (fathomref3_SquareRoot.l0 (k + 1) y0 y1 y2))
  | 0 => fun _ _ _ r h => by simp [fathomref3_SquareRoot.l0] at h
  | k + 1 => by
    have ih0 := fathomref3_SquareRoot.mono_l k
    · intro y0 y1 y2
      unfold fathomref3_SquareRoot.l0
      repeat' first
      | (with_reducible exact ih0 _ _ _)
      | (with_reducible exact fathomref3_Cmp.mono _ _ _)
      | (with_reducible exact fathomref3_Len.mono _ _)
      | (with_reducible exact fathomref3_Of.mono _ _)
      | (with_reducible exact fathomref3_Sum.mono _ _ _)
      | (with_reducible exact fathomref3_Times.mono _ _ _)
      | (with_reducible exact fathomref3_Up2.mono _ _ _)
      | (with_reducible exact LeO.refl _)
      | (with_reducible exact LeO.none _)
      | (with_reducible refine LeO.ite ?_ ?_)
      | (with_reducible refine LeO.bind ?_ (fun _ => ?_))
      | exact ih0 _ _ _
      | exact fathomref3_Cmp.mono _ _ _
      | exact fathomref3_Len.mono _ _
      | exact fathomref3_Of.mono _ _
      | exact fathomref3_Sum.mono _ _ _
      | exact fathomref3_Times.mono _ _ _
      | exact fathomref3_Up2.mono _ _ _
      | exact LeO.none _
      | refine LeO.ite ?_ ?_
      | refine LeO.bind ?_ (fun _ => ?_)
theorem fathomref3_SquareRoot.mono : ∀ a0 k, LeO (fathomref3_SquareRoot.f k a0) (fathomref3_SquareRoot.f (k + 1) a0) := by
  intro a0 k
  have ih0 := fathomref3_SquareRoot.mono_l k
  unfold fathomref3_SquareRoot.f
  repeat' first
      | (with_reducible exact ih0 _ _ _)
      | (with_reducible exact fathomref3_Cmp.mono _ _ _)
      | (with_reducible exact fathomref3_Len.mono _ _)
      | (with_reducible exact fathomref3_Of.mono _ _)
      | (with_reducible exact fathomref3_Sum.mono _ _ _)
      | (with_reducible exact fathomref3_Times.mono _ _ _)
      | (with_reducible exact fathomref3_Up2.mono _ _ _)
      | (with_reducible exact LeO.refl _)
      | (with_reducible exact LeO.none _)
      | (with_reducible refine LeO.ite ?_ ?_)
      | (with_reducible refine LeO.bind ?_ (fun _ => ?_))
      | exact ih0 _ _ _
      | exact fathomref3_Cmp.mono _ _ _
      | exact fathomref3_Len.mono _ _
      | exact fathomref3_Of.mono _ _
      | exact fathomref3_Sum.mono _ _ _
      | exact fathomref3_Times.mono _ _ _
      | exact fathomref3_Up2.mono _ _ _
      | exact LeO.none _
      | refine LeO.ite ?_ ?_
      | refine LeO.bind ?_ (fun _ => ?_)
-- left out: f133 fathom/fathomref3.NearestRoot
def fathomref3_NearestRoot.f (k : Nat) (l0 : List Int) (l1 : List Int) (a2 : Int) (a3 : Int) : Option (Int) := if (l0.length : Int) = 0 then (some 0) else (if a2 > 2097152 then ((fathomref3_Inf.f a3).bind fun t416 => (some t416)) else (if a2 < (-2097152) then (some 0) else ((fathomref3_Len.f k l0).bind fun t417 => ((fathomref3_Len.f k l1).bind fun t418 => ((fathomref3_digits.f a3).bind fun t419 => ((fathomref3_quotient.f k l0 l1 (wrap64 (a2 - (wrap64 (2 * (wrap64 ((wrap64 ((wrap64 ((wrap64 (Int.tdiv (wrap64 ((wrap64 ((wrap64 (t417 - t418)) + a2)) + 4194304)) 2)) - 2097152)) - t419)) - 4))))))).bind fun bt420 => ((fathomref3_SquareRoot.f k bt420.1).bind fun bt426 => (if bt426.2 = true then ((fathomref3_rounded.f k false bt426.1 (wrap64 ((wrap64 ((wrap64 ((wrap64 (Int.tdiv (wrap64 ((wrap64 ((wrap64 (t417 - t418)) + a2)) + 4194304)) 2)) - 2097152)) - t419)) - 4)) (decide ((bt420.2.length : Int) > 0)) a3).bind fun t430 => (some t430)) else ((fathomref3_rounded.f k false bt426.1 (wrap64 ((wrap64 ((wrap64 ((wrap64 (Int.tdiv (wrap64 ((wrap64 ((wrap64 (t417 - t418)) + a2)) + 4194304)) 2)) - 2097152)) - t419)) - 4)) true a3).bind fun t431 => (some t431))))))))))
theorem fathomref3_NearestRoot.mono : ∀ a0 a1 a2 a3 k, LeO (fathomref3_NearestRoot.f k a0 a1 a2 a3) (fathomref3_NearestRoot.f (k + 1) a0 a1 a2 a3) := by
  intro a0 a1 a2 a3 k
  unfold fathomref3_NearestRoot.f
  repeat' first
      | (with_reducible exact fathomref3_Len.mono _ _)
      | (with_reducible exact fathomref3_SquareRoot.mono _ _)
      | (with_reducible exact fathomref3_quotient.mono _ _ _ _)
      | (with_reducible exact fathomref3_rounded.mono _ _ _ _ _ _)
      | (with_reducible exact LeO.refl _)
      | (with_reducible exact LeO.none _)
      | (with_reducible refine LeO.ite ?_ ?_)
      | (with_reducible refine LeO.bind ?_ (fun _ => ?_))
      | exact fathomref3_Len.mono _ _
      | exact fathomref3_SquareRoot.mono _ _
      | exact fathomref3_quotient.mono _ _ _ _
      | exact fathomref3_rounded.mono _ _ _ _ _ _
      | exact LeO.none _
      | refine LeO.ite ?_ ?_
      | refine LeO.bind ?_ (fun _ => ?_)
-- left out: f73 fathom/fathomref3.Root
def fathomref3_Root.f (k : Nat) (a0 : Int) (a1 : Int) : Option (Int) := (fathomref3_IsNan.f a0 a1).bind fun t432 => (if t432 = true then ((fathomref3_Nan.f a1).bind fun t433 => (some t433)) else ((fathomref3_IsZero.f a0 a1).bind fun t434 => (if t434 = true then (some a0) else ((fathomref3_Neg.f a0 a1).bind fun t435 => (if t435 = true then ((fathomref3_Nan.f a1).bind fun t436 => (some t436)) else ((fathomref3_IsInf.f a0 a1).bind fun t437 => (if t437 = true then (some a0) else ((fathomref3_Parts.f k a0 a1).bind fun bt438 => ((fathomref3_Of.f k 1).bind fun t443 => ((fathomref3_NearestRoot.f k bt438.2.1 t443 bt438.2.2 a1).bind fun t446 => (some t446)))))))))))
theorem fathomref3_Root.mono : ∀ a0 a1 k, LeO (fathomref3_Root.f k a0 a1) (fathomref3_Root.f (k + 1) a0 a1) := by
  intro a0 a1 k
  unfold fathomref3_Root.f
  repeat' first
      | (with_reducible exact fathomref3_NearestRoot.mono _ _ _ _ _)
      | (with_reducible exact fathomref3_Of.mono _ _)
      | (with_reducible exact fathomref3_Parts.mono _ _ _)
      | (with_reducible exact LeO.refl _)
      | (with_reducible exact LeO.none _)
      | (with_reducible refine LeO.ite ?_ ?_)
      | (with_reducible refine LeO.bind ?_ (fun _ => ?_))
      | exact fathomref3_NearestRoot.mono _ _ _ _ _
      | exact fathomref3_Of.mono _ _
      | exact fathomref3_Parts.mono _ _ _
      | exact LeO.none _
      | refine LeO.ite ?_ ?_
      | refine LeO.bind ?_ (fun _ => ?_)
end Go.Proofs.YtfloeiagdegpjaaDoor.Rf
