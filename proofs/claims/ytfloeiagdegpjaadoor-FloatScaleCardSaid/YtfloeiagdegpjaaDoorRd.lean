/- The reference's functions (Class, Key, OfKey, Up, Down, Compare, Distance): what each call comes to, as a Lean function over lists of whole numbers. The walks began as print.sh's text for these functions. -/
import Derived.Test.YtfloeiagdegpjaaDoorR1
namespace Go.Proofs.YtfloeiagdegpjaaDoor.Rf
open Go.RowKit Go.Proofs.YtfloeiagdegpjaaDoorW.PrintWords Go.Proofs.YtfloeiagdegpjaaDoorW.PrintLast Go.Proofs.YtfloeiagdegpjaaDoorW.PrintMore
attribute [local go_sem] max2_int min2_int max_two min_two max_three min_three max_four min_four
set_option linter.unusedVariables false
set_option linter.unusedSimpArgs false
-- left out: f50 fathom/fathomref3.Class
def fathomref3_Class.f (a0 : Int) (a1 : Int) : Option (Int) := (fathomref3_Abs.f a0 a1).bind fun t104 => ((fathomref3_digits.f a1).bind fun t105 => (if 0 ≤ (IntKind.u64.wrap (wrap64 (t105 - 1))) then (if t104 = 0 then (some 0) else (if t104 < (shl .u64 1 (IntKind.u64.wrap (wrap64 (t105 - 1)))) then (some 1) else ((fathomref3_Inf.f a1).bind fun t106 => (if t104 < t106 then (some 2) else ((fathomref3_Inf.f a1).bind fun t107 => (if t104 = t107 then (some 3) else (if (Go.bits .and .u64 t104 ((shl .u64 1 (IntKind.u64.wrap (wrap64 (t105 - 1)))) / 2)) = 0 then (some 5) else (some 4)))))))) else (none)))
-- left out: f52 fathom/fathomref3.Key
def fathomref3_Key.f (a0 : Int) (a1 : Int) : Option (Int) := (fathomref3_Neg.f a0 a1).bind fun t109 => (if t109 = true then ((fathomref3_Sign.f a1).bind fun t110 => ((fathomref3_Abs.f a0 a1).bind fun t111 => (some (IntKind.u64.wrap ((IntKind.u64.wrap (t110 - 1)) - t111))))) else ((fathomref3_Sign.f a1).bind fun t112 => (some (IntKind.u64.wrap (a0 + t112)))))
-- left out: f54 fathom/fathomref3.OfKey
def fathomref3_OfKey.f (a0 : Int) (a1 : Int) : Option (Int) := (fathomref3_Sign.f a1).bind fun t113 => (if a0 ≥ t113 then ((fathomref3_Sign.f a1).bind fun t114 => (some (IntKind.u64.wrap (a0 - t114)))) else ((fathomref3_Sign.f a1).bind fun t115 => ((fathomref3_Sign.f a1).bind fun t116 => (some (IntKind.u64.wrap (t115 + (IntKind.u64.wrap ((IntKind.u64.wrap (t116 - 1)) - a0))))))))
-- left out: f56 fathom/fathomref3.Up
def fathomref3_Up.f (a0 : Int) (a1 : Int) : Option (Int) := (fathomref3_IsNan.f a0 a1).bind fun t120 => (if t120 = true then ((fathomref3_Nan.f a1).bind fun t121 => (some t121)) else ((fathomref3_Inf.f a1).bind fun t122 => (if a0 = t122 then (some a0) else ((fathomref3_IsZero.f a0 a1).bind fun t123 => (if t123 = true then (some 1) else ((fathomref3_Neg.f a0 a1).bind fun t124 => (if t124 = true then (some (IntKind.u64.wrap (a0 - 1))) else (some (IntKind.u64.wrap (a0 + 1))))))))))
-- left out: f58 fathom/fathomref3.Down
def fathomref3_Down.f (a0 : Int) (a1 : Int) : Option (Int) := (fathomref3_IsNan.f a0 a1).bind fun t125 => (if t125 = true then ((fathomref3_Nan.f a1).bind fun t126 => (some t126)) else ((fathomref3_Sign.f a1).bind fun t127 => ((fathomref3_Up.f (Go.bits .xor .u64 a0 t127) a1).bind fun t128 => ((fathomref3_Sign.f a1).bind fun t129 => (some (Go.bits .xor .u64 t128 t129))))))
-- left out: f44 fathom/fathomref3.Compare
mutual
def fathomref3_Compare.j0 : Nat → Int → Int → Int → Bool → Option (Int × Bool)
  | 0, _, _, _, _ => none
  | k + 1, x0, x1, x2, x17 => if x17 = true then (some (0, false)) else ((fathomref3_IsZero.f x0 x2).bind fun t114 => (if t114 = true then ((fathomref3_IsZero.f x1 x2).bind fun t115 => (fathomref3_Compare.j1 k x0 x1 x2 t115)) else (fathomref3_Compare.j1 k x0 x1 x2 false)))
def fathomref3_Compare.j1 : Nat → Int → Int → Int → Bool → Option (Int × Bool)
  | 0, _, _, _, _ => none
  | k + 1, x0, x1, x2, x25 => if x25 = true then (some (0, true)) else ((fathomref3_Key.f x0 x2).bind fun t116 => ((fathomref3_Key.f x1 x2).bind fun t117 => (if t116 < t117 then (some ((-1), true)) else (if t116 > t117 then (some (1, true)) else (some (0, true))))))
end
def fathomref3_Compare.f (k : Nat) (a0 : Int) (a1 : Int) (a2 : Int) : Option (Int × Bool) := (fathomref3_IsNan.f a0 a2).bind fun t112 => (if t112 = true then (fathomref3_Compare.j0 k a0 a1 a2 true) else ((fathomref3_IsNan.f a1 a2).bind fun t113 => (fathomref3_Compare.j0 k a0 a1 a2 t113)))
theorem fathomref3_Compare.mono_l : ∀ k, (∀ y0 y1 y2 y3, LeO (fathomref3_Compare.j0 k y0 y1 y2 y3) (fathomref3_Compare.j0 (k + 1) y0 y1 y2 y3)) ∧ (∀ y0 y1 y2 y3, LeO (fathomref3_Compare.j1 k y0 y1 y2 y3) (fathomref3_Compare.j1 (k + 1) y0 y1 y2 y3))
  | 0 => ⟨fun _ _ _ _ r h => by simp [fathomref3_Compare.j0] at h, fun _ _ _ _ r h => by simp [fathomref3_Compare.j1] at h⟩
  | k + 1 => by
    obtain ⟨ih0, ih1⟩ := fathomref3_Compare.mono_l k
    refine ⟨?_, ?_⟩
    · intro y0 y1 y2 y3
      unfold fathomref3_Compare.j0
      repeat' first
      | (with_reducible exact ih0 _ _ _ _)
      | (with_reducible exact ih1 _ _ _ _)
      | (with_reducible exact LeO.refl _)
      | (with_reducible exact LeO.none _)
      | (with_reducible refine LeO.ite ?_ ?_)
      | (with_reducible refine LeO.bind ?_ (fun _ => ?_))
      | exact ih0 _ _ _ _
      | exact ih1 _ _ _ _
      | exact LeO.none _
      | refine LeO.ite ?_ ?_
      | refine LeO.bind ?_ (fun _ => ?_)
    · intro y0 y1 y2 y3
      unfold fathomref3_Compare.j1
      repeat' first
      | (with_reducible exact ih0 _ _ _ _)
      | (with_reducible exact ih1 _ _ _ _)
      | (with_reducible exact LeO.refl _)
      | (with_reducible exact LeO.none _)
      | (with_reducible refine LeO.ite ?_ ?_)
      | (with_reducible refine LeO.bind ?_ (fun _ => ?_))
      | exact ih0 _ _ _ _
      | exact ih1 _ _ _ _
      | exact LeO.none _
      | refine LeO.ite ?_ ?_
      | refine LeO.bind ?_ (fun _ => ?_)
theorem fathomref3_Compare.mono : ∀ a0 a1 a2 k, LeO (fathomref3_Compare.f k a0 a1 a2) (fathomref3_Compare.f (k + 1) a0 a1 a2) := by
  intro a0 a1 a2 k
  obtain ⟨ih0, ih1⟩ := fathomref3_Compare.mono_l k
  unfold fathomref3_Compare.f
  repeat' first
      | (with_reducible exact ih0 _ _ _ _)
      | (with_reducible exact ih1 _ _ _ _)
      | (with_reducible exact LeO.refl _)
      | (with_reducible exact LeO.none _)
      | (with_reducible refine LeO.ite ?_ ?_)
      | (with_reducible refine LeO.bind ?_ (fun _ => ?_))
      | exact ih0 _ _ _ _
      | exact ih1 _ _ _ _
      | exact LeO.none _
      | refine LeO.ite ?_ ?_
      | refine LeO.bind ?_ (fun _ => ?_)
-- left out: f46 fathom/fathomref3.Distance
def fathomref3_Distance.f (a0 : Int) (a1 : Int) (a2 : Int) : Option (Int) := (fathomref3_Key.f a0 a2).bind fun t118 => ((fathomref3_Key.f a1 a2).bind fun t119 => (if t118 < t119 then (some (IntKind.u64.wrap (t119 - t118))) else (some (IntKind.u64.wrap (t118 - t119)))))
end Go.Proofs.YtfloeiagdegpjaaDoor.Rf
