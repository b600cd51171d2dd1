/- Comparisons, distances, next numbers, narrowed and widened ones of package float. -/
import Derived.Test.YtfloeiagdegpjaaDoorFc
namespace Go.Proofs.YtfloeiagdegpjaaDoor.Fl
open Go.RowKit Go.Proofs.YtfloeiagdegpjaaDoorW.PrintWords Go.Proofs.YtfloeiagdegpjaaDoorW.PrintMore Go.Proofs.YtfloeiagdegpjaaDoorW.PrintLast
set_option linter.unusedVariables false
set_option linter.unusedSimpArgs false
attribute [local go_sem] ext93 ext86 ext85 ext110 max2_int min2_int max_two min_two
attribute [local irreducible] Go.bits Ieee.Format.order

def cmpOf (o : Option Ordering) : Int := match o with | some .lt => -1 | some .gt => 1 | _ => 0

theorem nan64_is {a : Int} {c : Bool} (h : isNan64 a = c) (w : World) : Calls Tryd.prog 43 #[.int .u64 a] w fun e w' => e = .returned (.bool c) ∧ Below w.heap.size w w' := by
  subst h; exact nan64 a w
theorem bcell {W w1 : World} (hb : Below W.heap.size W w1) : (∀ b o, b < W.heap.size → w1.cell? ⟨b, o, none⟩ = W.cell? ⟨b, o, none⟩) ∧ (∀ b o, b < W.heap.size → w1.frozen? ⟨b, o, none⟩ = W.frozen? ⟨b, o, none⟩) :=
  ⟨fun b o h => hb.cell (p := ⟨b, o, none⟩) h, fun b o h => hb.frozen (p := ⟨b, o, none⟩) h⟩
theorem below2 {w w1 w2 : World} (h : Below w.heap.size w w1) (k : Below w1.heap.size w1 w2) : Below w.heap.size w w2 := below_step h k


def dist64 (a b : Int) : Int := IntKind.u64.wrap (max (key64 a) (key64 b) - min (key64 a) (key64 b))
def up64 (a : Int) : Int := bif isNan64 a then one64 else bif a == 9218868437227405312 then a else bif Go.bits .andNot .u64 a 9223372036854775808 == 0 then 1 else ofKey64 (IntKind.u64.wrap (key64 a + 1))
def down64 (a : Int) : Int := bif isNan64 a then one64 else Go.bits .xor .u64 (up64 (Go.bits .xor .u64 a 9223372036854775808)) 9223372036854775808
def dist32 (a b : Int) : Int := IntKind.u32.wrap (max (key32 a) (key32 b) - min (key32 a) (key32 b))
def up32 (a : Int) : Int := bif isNan32 a then one32 else bif a == 2139095040 then a else bif Go.bits .andNot .u32 a 2147483648 == 0 then 1 else ofKey32 (IntKind.u32.wrap (key32 a + 1))
def down32 (a : Int) : Int := bif isNan32 a then one32 else Go.bits .xor .u32 (up32 (Go.bits .xor .u32 a 2147483648)) 2147483648
end Go.Proofs.YtfloeiagdegpjaaDoor.Fl
