/- The reference's functions (together, Add, Sub): what each call comes to, as a Lean function over lists of whole numbers. The walks began as print.sh's text for these functions. -/
import Derived.Test.YtfloeiagdegpjaaDoorR5
namespace Go.Proofs.YtfloeiagdegpjaaDoor.Rf
open Go.RowKit Go.Proofs.YtfloeiagdegpjaaDoorW.PrintWords Go.Proofs.YtfloeiagdegpjaaDoorW.PrintLast Go.Proofs.YtfloeiagdegpjaaDoorW.PrintMore
attribute [local go_sem] max2_int min2_int max_two min_two max_three min_three max_four min_four
set_option linter.unusedVariables false
set_option linter.unusedSimpArgs false
-- left out: f127 fathom/fathomref3.together
def fathomref3_together.j0 : Nat → Bool → List Int → Int → Bool → List Int → Int → Option (Bool × List Int × Int)
  | 0, _, _, _, _, _, _ => none
  | k + 1, x0, x1, x2, x3, x4, x5 => (fathomref3_Up2.f k x4 (wrap64 (x5 - x2))).bind fun t280 => (if (x0 == x3) = true then ((fathomref3_Sum.f k x1 t280).bind fun t283 => (some (x0, t283, x2))) else ((fathomref3_Cmp.f k x1 t280).bind fun t286 => (if t286 ≥ 0 then ((fathomref3_Less.f k x1 t280).bind fun t287 => (some (x0, t287, x2))) else ((fathomref3_Less.f k t280 x1).bind fun t290 => (some (x3, t290, x2))))))
def fathomref3_together.f (k : Nat) (a0 : Bool) (l1 : List Int) (a2 : Int) (a3 : Bool) (l4 : List Int) (a5 : Int) : Option (Bool × List Int × Int) := if a2 > a5 then ((fathomref3_Up2.f k l1 (wrap64 (a2 - a5))).bind fun t277 => (fathomref3_together.j0 k a0 t277 a5 a3 l4 a5)) else (fathomref3_together.j0 k a0 l1 a2 a3 l4 a5)
theorem fathomref3_together.mono_l : ∀ k, (∀ y0 y1 y2 y3 y4 y5, LeO (fathomref3_together.j0 k y0 y1 y2 y3 y4 y5) (fathomref3_together.j0 (k + 1) y0 y1 y2 y3 y4 y5))
  | 0 => fun _ _ _ _ _ _ r h => by simp [fathomref3_together.j0] at h
  | k + 1 => by
    have ih0 := fathomref3_together.mono_l k
    · intro y0 y1 y2 y3 y4 y5
      unfold fathomref3_together.j0
      repeat' first
      | (with_reducible exact ih0 _ _ _ _ _ _)
      | (with_reducible exact fathomref3_Cmp.mono _ _ _)
      | (with_reducible exact fathomref3_Less.mono _ _ _)
      | (with_reducible exact fathomref3_Sum.mono _ _ _)
      | (with_reducible exact fathomref3_Up2.mono _ _ _)
      | (with_reducible exact LeO.refl _)
      | (with_reducible exact LeO.none _)
      | (with_reducible refine LeO.ite ?_ ?_)
      | (with_reducible refine LeO.bind ?_ (fun _ => ?_))
      | exact ih0 _ _ _ _ _ _
      | exact fathomref3_Cmp.mono _ _ _
      | exact fathomref3_Less.mono _ _ _
      | exact fathomref3_Sum.mono _ _ _
      | exact fathomref3_Up2.mono _ _ _
      | exact LeO.none _
      | refine LeO.ite ?_ ?_
      | refine LeO.bind ?_ (fun _ => ?_)
theorem fathomref3_together.mono : ∀ a0 a1 a2 a3 a4 a5 k, LeO (fathomref3_together.f k a0 a1 a2 a3 a4 a5) (fathomref3_together.f (k + 1) a0 a1 a2 a3 a4 a5) := by
  intro a0 a1 a2 a3 a4 a5 k
  have ih0 := fathomref3_together.mono_l k
  unfold fathomref3_together.f
  repeat' first
      | (with_reducible exact ih0 _ _ _ _ _ _)
      | (with_reducible exact fathomref3_Cmp.mono _ _ _)
      | (with_reducible exact fathomref3_Less.mono _ _ _)
      | (with_reducible exact fathomref3_Sum.mono _ _ _)
      | (with_reducible exact fathomref3_Up2.mono _ _ _)
      | (with_reducible exact LeO.refl _)
      | (with_reducible exact LeO.none _)
      | (with_reducible refine LeO.ite ?_ ?_)
      | (with_reducible refine LeO.bind ?_ (fun _ => ?_))
      | exact ih0 _ _ _ _ _ _
      | exact fathomref3_Cmp.mono _ _ _
      | exact fathomref3_Less.mono _ _ _
      | exact fathomref3_Sum.mono _ _ _
      | exact fathomref3_Up2.mono _ _ _
      | exact LeO.none _
      | refine LeO.ite ?_ ?_
      | refine LeO.bind ?_ (fun _ => ?_)
-- left out: f65 fathom/fathomref3.Add
mutual
def fathomref3_Add.j0 : Nat → Int → Int → Int → Bool → Option (Int)
  | 0, _, _, _, _ => none
  | k + 1, x0, x1, x2, x16 => if x16 = true then ((fathomref3_Nan.f x2).bind fun t295 => (some t295)) else ((fathomref3_IsInf.f x0 x2).bind fun t296 => (if t296 = true then ((fathomref3_IsInf.f x1 x2).bind fun t297 => (if t297 = true then (fathomref3_Add.j1 k x0 x1 x2 (x0 != x1)) else (fathomref3_Add.j1 k x0 x1 x2 false))) else (fathomref3_Add.j1 k x0 x1 x2 false)))
def fathomref3_Add.j1 : Nat → Int → Int → Int → Bool → Option (Int)
  | 0, _, _, _, _ => none
  | k + 1, x0, x1, x2, x27 => if x27 = true then ((fathomref3_Nan.f x2).bind fun t298 => (some t298)) else ((fathomref3_IsInf.f x0 x2).bind fun t299 => (if t299 = true then (some x0) else ((fathomref3_IsInf.f x1 x2).bind fun t300 => (if t300 = true then (some x1) else ((fathomref3_Parts.f k x0 x2).bind fun bt301 => ((fathomref3_Parts.f k x1 x2).bind fun bt306 => ((fathomref3_together.f k bt301.1 bt301.2.1 bt301.2.2 bt306.1 bt306.2.1 bt306.2.2).bind fun bt311 => (if (bt311.2.1.length : Int) = 0 then (if bt301.1 = true then ((fathomref3_signed.f bt306.1 0 x2).bind fun t316 => (some t316)) else ((fathomref3_signed.f false 0 x2).bind fun t317 => (some t317))) else ((fathomref3_Of.f k 1).bind fun t318 => ((fathomref3_Nearest.f k bt311.1 bt311.2.1 t318 bt311.2.2 x2).bind fun t321 => (some t321)))))))))))
end
def fathomref3_Add.f (k : Nat) (a0 : Int) (a1 : Int) (a2 : Int) : Option (Int) := (fathomref3_IsNan.f a0 a2).bind fun t293 => (if t293 = true then (fathomref3_Add.j0 k a0 a1 a2 true) else ((fathomref3_IsNan.f a1 a2).bind fun t294 => (fathomref3_Add.j0 k a0 a1 a2 t294)))
theorem fathomref3_Add.mono_l : ∀ k, (∀ y0 y1 y2 y3, LeO (fathomref3_Add.j0 k y0 y1 y2 y3) (fathomref3_Add.j0 (k + 1) y0 y1 y2 y3)) ∧ (∀ y0 y1 y2 y3, LeO (fathomref3_Add.j1 k y0 y1 y2 y3) (fathomref3_Add.j1 (k + 1) y0 y1 y2 y3))
  | 0 => ⟨fun _ _ _ _ r h => by simp [fathomref3_Add.j0] at h, fun _ _ _ _ r h => by simp [fathomref3_Add.j1] at h⟩
  | k + 1 => by
    obtain ⟨ih0, ih1⟩ := fathomref3_Add.mono_l k
    refine ⟨?_, ?_⟩
    · intro y0 y1 y2 y3
      unfold fathomref3_Add.j0
      repeat' first
      | (with_reducible exact ih0 _ _ _ _)
      | (with_reducible exact ih1 _ _ _ _)
      | (with_reducible exact fathomref3_Nearest.mono _ _ _ _ _ _)
      | (with_reducible exact fathomref3_Of.mono _ _)
      | (with_reducible exact fathomref3_Parts.mono _ _ _)
      | (with_reducible exact fathomref3_together.mono _ _ _ _ _ _ _)
      | (with_reducible exact LeO.refl _)
      | (with_reducible exact LeO.none _)
      | (with_reducible refine LeO.ite ?_ ?_)
      | (with_reducible refine LeO.bind ?_ (fun _ => ?_))
      | exact ih0 _ _ _ _
      | exact ih1 _ _ _ _
      | exact fathomref3_Nearest.mono _ _ _ _ _ _
      | exact fathomref3_Of.mono _ _
      | exact fathomref3_Parts.mono _ _ _
      | exact fathomref3_together.mono _ _ _ _ _ _ _
      | exact LeO.none _
      | refine LeO.ite ?_ ?_
      | refine LeO.bind ?_ (fun _ => ?_)
    · intro y0 y1 y2 y3
      unfold fathomref3_Add.j1
      repeat' first
      | (with_reducible exact ih0 _ _ _ _)
      | (with_reducible exact ih1 _ _ _ _)
      | (with_reducible exact fathomref3_Nearest.mono _ _ _ _ _ _)
      | (with_reducible exact fathomref3_Of.mono _ _)
      | (with_reducible exact fathomref3_Parts.mono _ _ _)
      | (with_reducible exact fathomref3_together.mono _ _ _ _ _ _ _)
      | (with_reducible exact LeO.refl _)
      | (with_reducible exact LeO.none _)
      | (with_reducible refine LeO.ite ?_ ?_)
      | (with_reducible refine LeO.bind ?_ (fun _ => ?_))
      | exact ih0 _ _ _ _
      | exact ih1 _ _ _ _
      | exact fathomref3_Nearest.mono _ _ _ _ _ _
      | exact fathomref3_Of.mono _ _
      | exact fathomref3_Parts.mono _ _ _
      | exact fathomref3_together.mono _ _ _ _ _ _ _
      | exact LeO.none _
      | refine LeO.ite ?_ ?_
      | refine LeO.bind ?_ (fun _ => ?_)
theorem fathomref3_Add.mono : ∀ a0 a1 a2 k, LeO (fathomref3_Add.f k a0 a1 a2) (fathomref3_Add.f (k + 1) a0 a1 a2) := by
  intro a0 a1 a2 k
  obtain ⟨ih0, ih1⟩ := fathomref3_Add.mono_l k
  unfold fathomref3_Add.f
  repeat' first
      | (with_reducible exact ih0 _ _ _ _)
      | (with_reducible exact ih1 _ _ _ _)
      | (with_reducible exact fathomref3_Nearest.mono _ _ _ _ _ _)
      | (with_reducible exact fathomref3_Of.mono _ _)
      | (with_reducible exact fathomref3_Parts.mono _ _ _)
      | (with_reducible exact fathomref3_together.mono _ _ _ _ _ _ _)
      | (with_reducible exact LeO.refl _)
      | (with_reducible exact LeO.none _)
      | (with_reducible refine LeO.ite ?_ ?_)
      | (with_reducible refine LeO.bind ?_ (fun _ => ?_))
      | exact ih0 _ _ _ _
      | exact ih1 _ _ _ _
      | exact fathomref3_Nearest.mono _ _ _ _ _ _
      | exact fathomref3_Of.mono _ _
      | exact fathomref3_Parts.mono _ _ _
      | exact fathomref3_together.mono _ _ _ _ _ _ _
      | exact LeO.none _
      | refine LeO.ite ?_ ?_
      | refine LeO.bind ?_ (fun _ => ?_)
-- left out: f67 fathom/fathomref3.Sub
def fathomref3_Sub.f (k : Nat) (a0 : Int) (a1 : Int) (a2 : Int) : Option (Int) := (fathomref3_IsNan.f a1 a2).bind fun t322 => (if t322 = true then ((fathomref3_Nan.f a2).bind fun t323 => (some t323)) else ((fathomref3_Sign.f a2).bind fun t324 => ((fathomref3_Add.f k a0 (Go.bits .xor .u64 a1 t324) a2).bind fun t325 => (some t325))))
theorem fathomref3_Sub.mono : ∀ a0 a1 a2 k, LeO (fathomref3_Sub.f k a0 a1 a2) (fathomref3_Sub.f (k + 1) a0 a1 a2) := by
  intro a0 a1 a2 k
  unfold fathomref3_Sub.f
  repeat' first
      | (with_reducible exact fathomref3_Add.mono _ _ _ _)
      | (with_reducible exact LeO.refl _)
      | (with_reducible exact LeO.none _)
      | (with_reducible refine LeO.ite ?_ ?_)
      | (with_reducible refine LeO.bind ?_ (fun _ => ?_))
      | exact fathomref3_Add.mono _ _ _ _
      | exact LeO.none _
      | refine LeO.ite ?_ ?_
      | refine LeO.bind ?_ (fun _ => ?_)
end Go.Proofs.YtfloeiagdegpjaaDoor.Rf
