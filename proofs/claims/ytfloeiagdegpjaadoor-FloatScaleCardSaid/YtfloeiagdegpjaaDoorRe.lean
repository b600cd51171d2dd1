/- The reference's functions (finite, units, thin, nan, top): what each call comes to, as a Lean function over lists of whole numbers. The walks began as print.sh's text for these functions. -/
import Derived.Test.YtfloeiagdegpjaaDoorR1
namespace Go.Proofs.YtfloeiagdegpjaaDoor.Rf
open Go.RowKit Go.Proofs.YtfloeiagdegpjaaDoorW.PrintWords Go.Proofs.YtfloeiagdegpjaaDoorW.PrintLast Go.Proofs.YtfloeiagdegpjaaDoorW.PrintMore
attribute [local go_sem] max2_int min2_int max_two min_two max_three min_three max_four min_four
set_option linter.unusedVariables false
set_option linter.unusedSimpArgs false
-- left out: f16 fathom/fathomlaw3.finite
def fathomlaw3_finite.f (a0 : Int) : Option (Bool) := some (decide ((Go.bits .andNot .u64 a0 9223372036854775808) < 9218868437227405312))
-- left out: f20 fathom/fathomlaw3.units
def fathomlaw3_units.f (k : Nat) (a0 : Int) : Option (List Int) := if (Go.bits .and .u64 (a0 / 4503599627370496) 2047) = 0 then ((fathomref3_Of.f k (Go.bits .and .u64 a0 4503599627370495)).bind fun t129 => (some t129)) else ((fathomref3_Of.f k (Go.bits .or .u64 (Go.bits .and .u64 a0 4503599627370495) 4503599627370496)).bind fun t132 => ((fathomref3_Up2.f k t132 (wrap64 ((wrap64 (Go.bits .and .u64 (a0 / 4503599627370496) 2047)) - 1))).bind fun t135 => (some t135)))
theorem fathomlaw3_units.mono : ∀ a0 k, LeO (fathomlaw3_units.f k a0) (fathomlaw3_units.f (k + 1) a0) := by
  intro a0 k
  unfold fathomlaw3_units.f
  repeat' first
      | (with_reducible exact fathomref3_Of.mono _ _)
      | (with_reducible exact fathomref3_Up2.mono _ _ _)
      | (with_reducible exact LeO.refl _)
      | (with_reducible exact LeO.none _)
      | (with_reducible refine LeO.ite ?_ ?_)
      | (with_reducible refine LeO.bind ?_ (fun _ => ?_))
      | exact fathomref3_Of.mono _ _
      | exact fathomref3_Up2.mono _ _ _
      | exact LeO.none _
      | refine LeO.ite ?_ ?_
      | refine LeO.bind ?_ (fun _ => ?_)
-- left out: f23 fathom/fathomlaw3.thin
def fathomlaw3_thin.f (k : Nat) (a0 : Int) : Option (List Int) := if (wrap64 (a0 / 8388608)) = 255 then ((fathomref3_Of.f k 1).bind fun t163 => ((fathomref3_Up2.f k t163 1202).bind fun t166 => (some t166))) else (if (wrap64 (a0 / 8388608)) = 0 then ((fathomref3_Of.f k (IntKind.u64.wrap (Go.bits .and .u32 a0 8388607))).bind fun t169 => ((fathomref3_Up2.f k t169 925).bind fun t172 => (some t172))) else ((fathomref3_Of.f k (Go.bits .or .u64 (IntKind.u64.wrap (Go.bits .and .u32 a0 8388607)) 8388608)).bind fun t175 => ((fathomref3_Up2.f k t175 (wrap64 ((wrap64 (925 + (wrap64 (a0 / 8388608)))) - 1))).bind fun t178 => (some t178))))
theorem fathomlaw3_thin.mono : ∀ a0 k, LeO (fathomlaw3_thin.f k a0) (fathomlaw3_thin.f (k + 1) a0) := by
  intro a0 k
  unfold fathomlaw3_thin.f
  repeat' first
      | (with_reducible exact fathomref3_Of.mono _ _)
      | (with_reducible exact fathomref3_Up2.mono _ _ _)
      | (with_reducible exact LeO.refl _)
      | (with_reducible exact LeO.none _)
      | (with_reducible refine LeO.ite ?_ ?_)
      | (with_reducible refine LeO.bind ?_ (fun _ => ?_))
      | exact fathomref3_Of.mono _ _
      | exact fathomref3_Up2.mono _ _ _
      | exact LeO.none _
      | refine LeO.ite ?_ ?_
      | refine LeO.bind ?_ (fun _ => ?_)
-- left out: f26 fathom/fathomlaw3.nan
def fathomlaw3_nan.f (a0 : Int) : Option (Bool) := some (decide ((Go.bits .andNot .u64 a0 9223372036854775808) > 9218868437227405312))
-- left out: f28 fathom/fathomlaw3.top
def fathomlaw3_top.f (k : Nat) (a0 : Int) : Option (List Int) := if a0 = 9218868437227405312 then ((fathomref3_Of.f k 1).bind fun t174 => ((fathomref3_Up2.f k t174 2098).bind fun t177 => (some t177))) else ((fathomlaw3_units.f k a0).bind fun t180 => (some t180))
theorem fathomlaw3_top.mono : ∀ a0 k, LeO (fathomlaw3_top.f k a0) (fathomlaw3_top.f (k + 1) a0) := by
  intro a0 k
  unfold fathomlaw3_top.f
  repeat' first
      | (with_reducible exact fathomlaw3_units.mono _ _)
      | (with_reducible exact fathomref3_Of.mono _ _)
      | (with_reducible exact fathomref3_Up2.mono _ _ _)
      | (with_reducible exact LeO.refl _)
      | (with_reducible exact LeO.none _)
      | (with_reducible refine LeO.ite ?_ ?_)
      | (with_reducible refine LeO.bind ?_ (fun _ => ?_))
      | exact fathomlaw3_units.mono _ _
      | exact fathomref3_Of.mono _ _
      | exact fathomref3_Up2.mono _ _ _
      | exact LeO.none _
      | refine LeO.ite ?_ ?_
      | refine LeO.bind ?_ (fun _ => ?_)
end Go.Proofs.YtfloeiagdegpjaaDoor.Rf
