/- The reference's functions (Mul, Div): what each call comes to, as a Lean function over lists of whole numbers. The walks began as print.sh's text for these functions. -/
import Derived.Test.YtfloeiagdegpjaaDoorR5
import Derived.Test.YtfloeiagdegpjaaDoorR6
namespace Go.Proofs.YtfloeiagdegpjaaDoor.Rf
open Go.RowKit Go.Proofs.YtfloeiagdegpjaaDoorW.PrintWords Go.Proofs.YtfloeiagdegpjaaDoorW.PrintLast Go.Proofs.YtfloeiagdegpjaaDoorW.PrintMore
attribute [local go_sem] max2_int min2_int max_two min_two max_three min_three max_four min_four
set_option linter.unusedVariables false
set_option linter.unusedSimpArgs false
-- left out: f69 fathom/fathomref3.Mul
mutual
def fathomref3_Mul.j0 : Nat → Int → Int → Int → Bool → Bool → Option (Int)
  | 0, _, _, _, _, _ => none
  | k + 1, x0, x1, x2, x7, x21 => if x21 = true then ((fathomref3_Nan.f x2).bind fun t348 => (some t348)) else ((fathomref3_IsInf.f x0 x2).bind fun t349 => (if t349 = true then (fathomref3_Mul.j1 k x0 x1 x2 x7 true) else ((fathomref3_IsInf.f x1 x2).bind fun t350 => (fathomref3_Mul.j1 k x0 x1 x2 x7 t350))))
def fathomref3_Mul.j1 : Nat → Int → Int → Int → Bool → Bool → Option (Int)
  | 0, _, _, _, _, _ => none
  | k + 1, x0, x1, x2, x7, x52 => if x52 = true then ((fathomref3_Inf.f x2).bind fun t351 => ((fathomref3_signed.f x7 t351 x2).bind fun t352 => (some t352))) else ((fathomref3_Parts.f k x0 x2).bind fun bt353 => ((fathomref3_Parts.f k x1 x2).bind fun bt358 => ((fathomref3_Times.f k bt353.2.1 bt358.2.1).bind fun t363 => ((fathomref3_Of.f k 1).bind fun t366 => ((fathomref3_Nearest.f k x7 t363 t366 (wrap64 (bt353.2.2 + bt358.2.2)) x2).bind fun t369 => (some t369))))))
end
def fathomref3_Mul.f (k : Nat) (a0 : Int) (a1 : Int) (a2 : Int) : Option (Int) := (fathomref3_Neg.f a0 a2).bind fun t338 => ((fathomref3_Neg.f a1 a2).bind fun t339 => ((fathomref3_IsNan.f a0 a2).bind fun t340 => (if t340 = true then (fathomref3_Mul.j0 k a0 a1 a2 (t338 != t339) true) else ((fathomref3_IsNan.f a1 a2).bind fun t341 => (if t341 = true then (fathomref3_Mul.j0 k a0 a1 a2 (t338 != t339) true) else ((fathomref3_IsInf.f a0 a2).bind fun t342 => (if t342 = true then ((fathomref3_IsZero.f a1 a2).bind fun t343 => (if t343 = true then (fathomref3_Mul.j0 k a0 a1 a2 (t338 != t339) true) else ((fathomref3_IsZero.f a0 a2).bind fun t344 => (if t344 = true then ((fathomref3_IsInf.f a1 a2).bind fun t345 => (fathomref3_Mul.j0 k a0 a1 a2 (t338 != t339) t345)) else (fathomref3_Mul.j0 k a0 a1 a2 (t338 != t339) false))))) else ((fathomref3_IsZero.f a0 a2).bind fun t346 => (if t346 = true then ((fathomref3_IsInf.f a1 a2).bind fun t347 => (fathomref3_Mul.j0 k a0 a1 a2 (t338 != t339) t347)) else (fathomref3_Mul.j0 k a0 a1 a2 (t338 != t339) false))))))))))
theorem fathomref3_Mul.mono_l : ∀ k, (∀ y0 y1 y2 y3 y4, LeO (fathomref3_Mul.j0 k y0 y1 y2 y3 y4) (fathomref3_Mul.j0 (k + 1) y0 y1 y2 y3 y4)) ∧ (∀ y0 y1 y2 y3 y4, LeO (fathomref3_Mul.j1 k y0 y1 y2 y3 y4) (fathomref3_Mul.j1 (k + 1) y0 y1 y2 y3 y4))
  | 0 => ⟨fun _ _ _ _ _ r h => by simp [fathomref3_Mul.j0] at h, fun _ _ _ _ _ r h => by simp [fathomref3_Mul.j1] at h⟩
  | k + 1 => by
    obtain ⟨ih0, ih1⟩ := fathomref3_Mul.mono_l k
    refine ⟨?_, ?_⟩
    · intro y0 y1 y2 y3 y4
      unfold fathomref3_Mul.j0
      repeat' first
      | (with_reducible exact ih0 _ _ _ _ _)
      | (with_reducible exact ih1 _ _ _ _ _)
      | (with_reducible exact fathomref3_Nearest.mono _ _ _ _ _ _)
      | (with_reducible exact fathomref3_Of.mono _ _)
      | (with_reducible exact fathomref3_Parts.mono _ _ _)
      | (with_reducible exact fathomref3_Times.mono _ _ _)
      | (with_reducible exact LeO.refl _)
      | (with_reducible exact LeO.none _)
      | (with_reducible refine LeO.ite ?_ ?_)
      | (with_reducible refine LeO.bind ?_ (fun _ => ?_))
      | exact ih0 _ _ _ _ _
      | exact ih1 _ _ _ _ _
      | exact fathomref3_Nearest.mono _ _ _ _ _ _
      | exact fathomref3_Of.mono _ _
      | exact fathomref3_Parts.mono _ _ _
      | exact fathomref3_Times.mono _ _ _
      | exact LeO.none _
      | refine LeO.ite ?_ ?_
      | refine LeO.bind ?_ (fun _ => ?_)
    · intro y0 y1 y2 y3 y4
      unfold fathomref3_Mul.j1
      repeat' first
      | (with_reducible exact ih0 _ _ _ _ _)
      | (with_reducible exact ih1 _ _ _ _ _)
      | (with_reducible exact fathomref3_Nearest.mono _ _ _ _ _ _)
      | (with_reducible exact fathomref3_Of.mono _ _)
      | (with_reducible exact fathomref3_Parts.mono _ _ _)
      | (with_reducible exact fathomref3_Times.mono _ _ _)
      | (with_reducible exact LeO.refl _)
      | (with_reducible exact LeO.none _)
      | (with_reducible refine LeO.ite ?_ ?_)
      | (with_reducible refine LeO.bind ?_ (fun _ => ?_))
      | exact ih0 _ _ _ _ _
      | exact ih1 _ _ _ _ _
      | exact fathomref3_Nearest.mono _ _ _ _ _ _
      | exact fathomref3_Of.mono _ _
      | exact fathomref3_Parts.mono _ _ _
      | exact fathomref3_Times.mono _ _ _
      | exact LeO.none _
      | refine LeO.ite ?_ ?_
      | refine LeO.bind ?_ (fun _ => ?_)
theorem fathomref3_Mul.mono : ∀ a0 a1 a2 k, LeO (fathomref3_Mul.f k a0 a1 a2) (fathomref3_Mul.f (k + 1) a0 a1 a2) := by
  intro a0 a1 a2 k
  obtain ⟨ih0, ih1⟩ := fathomref3_Mul.mono_l k
  unfold fathomref3_Mul.f
  repeat' first
      | (with_reducible exact ih0 _ _ _ _ _)
      | (with_reducible exact ih1 _ _ _ _ _)
      | (with_reducible exact fathomref3_Nearest.mono _ _ _ _ _ _)
      | (with_reducible exact fathomref3_Of.mono _ _)
      | (with_reducible exact fathomref3_Parts.mono _ _ _)
      | (with_reducible exact fathomref3_Times.mono _ _ _)
      | (with_reducible exact LeO.refl _)
      | (with_reducible exact LeO.none _)
      | (with_reducible refine LeO.ite ?_ ?_)
      | (with_reducible refine LeO.bind ?_ (fun _ => ?_))
      | exact ih0 _ _ _ _ _
      | exact ih1 _ _ _ _ _
      | exact fathomref3_Nearest.mono _ _ _ _ _ _
      | exact fathomref3_Of.mono _ _
      | exact fathomref3_Parts.mono _ _ _
      | exact fathomref3_Times.mono _ _ _
      | exact LeO.none _
      | refine LeO.ite ?_ ?_
      | refine LeO.bind ?_ (fun _ => ?_)
-- left out: f71 fathom/fathomref3.Div
mutual
def fathomref3_Div.j0 : Nat → Int → Int → Int → Bool → Bool → Option (Int)
  | 0, _, _, _, _, _ => none
  | k + 1, x0, x1, x2, x7, x21 => if x21 = true then ((fathomref3_Nan.f x2).bind fun t380 => (some t380)) else ((fathomref3_IsInf.f x0 x2).bind fun t381 => (if t381 = true then (fathomref3_Div.j1 k x0 x1 x2 x7 true) else ((fathomref3_IsZero.f x1 x2).bind fun t382 => (fathomref3_Div.j1 k x0 x1 x2 x7 t382))))
def fathomref3_Div.j1 : Nat → Int → Int → Int → Bool → Bool → Option (Int)
  | 0, _, _, _, _, _ => none
  | k + 1, x0, x1, x2, x7, x52 => if x52 = true then ((fathomref3_Inf.f x2).bind fun t383 => ((fathomref3_signed.f x7 t383 x2).bind fun t384 => (some t384))) else ((fathomref3_IsInf.f x1 x2).bind fun t385 => (if t385 = true then ((fathomref3_signed.f x7 0 x2).bind fun t386 => (some t386)) else ((fathomref3_Parts.f k x0 x2).bind fun bt387 => ((fathomref3_Parts.f k x1 x2).bind fun bt392 => ((fathomref3_Nearest.f k x7 bt387.2.1 bt392.2.1 (wrap64 (bt387.2.2 - bt392.2.2)) x2).bind fun t397 => (some t397))))))
end
def fathomref3_Div.f (k : Nat) (a0 : Int) (a1 : Int) (a2 : Int) : Option (Int) := (fathomref3_Neg.f a0 a2).bind fun t370 => ((fathomref3_Neg.f a1 a2).bind fun t371 => ((fathomref3_IsNan.f a0 a2).bind fun t372 => (if t372 = true then (fathomref3_Div.j0 k a0 a1 a2 (t370 != t371) true) else ((fathomref3_IsNan.f a1 a2).bind fun t373 => (if t373 = true then (fathomref3_Div.j0 k a0 a1 a2 (t370 != t371) true) else ((fathomref3_IsInf.f a0 a2).bind fun t374 => (if t374 = true then ((fathomref3_IsInf.f a1 a2).bind fun t375 => (if t375 = true then (fathomref3_Div.j0 k a0 a1 a2 (t370 != t371) true) else ((fathomref3_IsZero.f a0 a2).bind fun t376 => (if t376 = true then ((fathomref3_IsZero.f a1 a2).bind fun t377 => (fathomref3_Div.j0 k a0 a1 a2 (t370 != t371) t377)) else (fathomref3_Div.j0 k a0 a1 a2 (t370 != t371) false))))) else ((fathomref3_IsZero.f a0 a2).bind fun t378 => (if t378 = true then ((fathomref3_IsZero.f a1 a2).bind fun t379 => (fathomref3_Div.j0 k a0 a1 a2 (t370 != t371) t379)) else (fathomref3_Div.j0 k a0 a1 a2 (t370 != t371) false))))))))))
theorem fathomref3_Div.mono_l : ∀ k, (∀ y0 y1 y2 y3 y4, LeO (fathomref3_Div.j0 k y0 y1 y2 y3 y4) (fathomref3_Div.j0 (k + 1) y0 y1 y2 y3 y4)) ∧ (∀ y0 y1 y2 y3 y4, LeO (fathomref3_Div.j1 k y0 y1 y2 y3 y4) (fathomref3_Div.j1 (k + 1) y0 y1 y2 y3 y4))
  | 0 => ⟨fun _ _ _ _ _ r h => by simp [fathomref3_Div.j0] at h, fun _ _ _ _ _ r h => by simp [fathomref3_Div.j1] at h⟩
  | k + 1 => by
    obtain ⟨ih0, ih1⟩ := fathomref3_Div.mono_l k
    refine ⟨?_, ?_⟩
    · intro y0 y1 y2 y3 y4
      unfold fathomref3_Div.j0
      repeat' first
      | (with_reducible exact ih0 _ _ _ _ _)
      | (with_reducible exact ih1 _ _ _ _ _)
      | (with_reducible exact fathomref3_Nearest.mono _ _ _ _ _ _)
      | (with_reducible exact fathomref3_Parts.mono _ _ _)
      | (with_reducible exact LeO.refl _)
      | (with_reducible exact LeO.none _)
      | (with_reducible refine LeO.ite ?_ ?_)
      | (with_reducible refine LeO.bind ?_ (fun _ => ?_))
      | exact ih0 _ _ _ _ _
      | exact ih1 _ _ _ _ _
      | exact fathomref3_Nearest.mono _ _ _ _ _ _
      | exact fathomref3_Parts.mono _ _ _
      | exact LeO.none _
      | refine LeO.ite ?_ ?_
      | refine LeO.bind ?_ (fun _ => ?_)
    · intro y0 y1 y2 y3 y4
      unfold fathomref3_Div.j1
      repeat' first
      | (with_reducible exact ih0 _ _ _ _ _)
      | (with_reducible exact ih1 _ _ _ _ _)
      | (with_reducible exact fathomref3_Nearest.mono _ _ _ _ _ _)
      | (with_reducible exact fathomref3_Parts.mono _ _ _)
      | (with_reducible exact LeO.refl _)
      | (with_reducible exact LeO.none _)
      | (with_reducible refine LeO.ite ?_ ?_)
      | (with_reducible refine LeO.bind ?_ (fun _ => ?_))
      | exact ih0 _ _ _ _ _
      | exact ih1 _ _ _ _ _
      | exact fathomref3_Nearest.mono _ _ _ _ _ _
      | exact fathomref3_Parts.mono _ _ _
      | exact LeO.none _
      | refine LeO.ite ?_ ?_
      | refine LeO.bind ?_ (fun _ => ?_)
theorem fathomref3_Div.mono : ∀ a0 a1 a2 k, LeO (fathomref3_Div.f k a0 a1 a2) (fathomref3_Div.f (k + 1) a0 a1 a2) := by
  intro a0 a1 a2 k
  obtain ⟨ih0, ih1⟩ := fathomref3_Div.mono_l k
  unfold fathomref3_Div.f
  repeat' first
      | (with_reducible exact ih0 _ _ _ _ _)
      | (with_reducible exact ih1 _ _ _ _ _)
      | (with_reducible exact fathomref3_Nearest.mono _ _ _ _ _ _)
      | (with_reducible exact fathomref3_Parts.mono _ _ _)
      | (with_reducible exact LeO.refl _)
      | (with_reducible exact LeO.none _)
      | (with_reducible refine LeO.ite ?_ ?_)
      | (with_reducible refine LeO.bind ?_ (fun _ => ?_))
      | exact ih0 _ _ _ _ _
      | exact ih1 _ _ _ _ _
      | exact fathomref3_Nearest.mono _ _ _ _ _ _
      | exact fathomref3_Parts.mono _ _ _
      | exact LeO.none _
      | refine LeO.ite ?_ ?_
      | refine LeO.bind ?_ (fun _ => ?_)
end Go.Proofs.YtfloeiagdegpjaaDoor.Rf
