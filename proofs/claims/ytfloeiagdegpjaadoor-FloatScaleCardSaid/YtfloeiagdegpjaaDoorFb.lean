/- The float operations of package float, both widths: what each call comes to, by Ieee's own functions. No conditions. -/
import Derived.Test.YtfloeiagdegpjaaDoorFa
import Derived.Laws.Externs
import Derived.Deep.RegionHeld3
import Derived.Deep.CutBlock
import Derived.Deep.DeepCutAuto
namespace Go.Proofs.YtfloeiagdegpjaaDoor.Fl
open Go.RowKit Go.Proofs.YtfloeiagdegpjaaDoorW.PrintWords
set_option linter.unusedVariables false
set_option linter.unusedSimpArgs false

section
variable {P : Program} (w : World)
/-- An invalid operation: some NaN, drawn. -/
theorem run_float_arith_none (op : BinOp) (t : TypeId) (k : FloatKind) (x y : Nat) (hop : op = .add ∨ op = .sub ∨ op = .mul ∨ op = .quo) (h : floatBits op k x y = none) :
    (binOp op t (.float k x) (.float k y)).run P w = .ok (.float k ((Question.nanBits k x y).cut (w.tape w.drawn (.nanBits k x y)))) w.drew := by
  unfold floatBits at h
  rcases hop with rfl | rfl | rfl | rfl <;> simp only at h <;> simp [binOp, Op.floatArith, h, Question.forced]

theorem read_nan32 (b : Nat) (h : 2139095040 < b % 2147483648) : (Ieee.single.read b).isNaN = true := by
  have e1 : Ieee.single.signWeight = 2147483648 := by decide
  have e2 : Ieee.single.binade = 8388608 := by decide
  have e3 : Ieee.single.infRung = 2139095040 := by decide
  unfold Ieee.Format.read
  rw [e1, e2, e3]
  simp only []
  rw [if_neg (by omega), if_neg (by omega), if_neg (by omega)]; rfl

theorem read_nan64 (b : Nat) (h : 9218868437227405312 < b % 9223372036854775808) : (Ieee.double.read b).isNaN = true := by
  have e1 : Ieee.double.signWeight = 9223372036854775808 := by decide
  have e2 : Ieee.double.binade = 4503599627370496 := by decide
  have e3 : Ieee.double.infRung = 9218868437227405312 := by decide
  unfold Ieee.Format.read
  rw [e1, e2, e3]
  simp only []
  rw [if_neg (by omega), if_neg (by omega), if_neg (by omega)]; rfl

theorem cut_nan (k : FloatKind) (x y t : Nat) : (k.format.read ((Question.nanBits k x y).cut t)).isNaN = true := by
  cases k
  · refine read_nan32 _ ?_
    show 2139095040 < ((t % 2) * 2 ^ 31 + 0x7f800000 + 1 + (t / 2) % (2 ^ 23 - 1)) % 2147483648
    have h1 := Nat.mod_lt t (show 0 < 2 by decide)
    have h2 := Nat.mod_lt (t / 2) (show 0 < 2 ^ 23 - 1 by decide)
    generalize t % 2 = s at *
    generalize t / 2 % (2 ^ 23 - 1) = u at *
    omega
  · refine read_nan64 _ ?_
    show 9218868437227405312 < ((t % 2) * 2 ^ 63 + 0x7ff0000000000000 + 1 + (t / 2) % (2 ^ 52 - 1)) % 9223372036854775808
    have h1 := Nat.mod_lt t (show 0 < 2 by decide)
    have h2 := Nat.mod_lt (t / 2) (show 0 < 2 ^ 52 - 1 by decide)
    generalize t % 2 = s at *
    generalize t / 2 % (2 ^ 52 - 1) = u at *
    omega
end

/-- What an operation answers: the word, or, where it is invalid, some NaN. -/
def Res (k : FloatKind) (o : Option Nat) (r : Nat) : Prop :=
  match o with
  | some x => r = x
  | none => (k.format.read r).isNaN = true

/-- A result's pattern: of a NaN the one. -/
def one64 : Int := 9221120237041090560
def one32 : Int := 2143289344
def tld64 (x : Nat) : Int := bif FloatKind.f64.format.order x x != some .eq then one64 else x
def tld32 (x : Nat) : Int := bif FloatKind.f32.format.order x x != some .eq then one32 else x

theorem ext93 (x : Nat) (w : World) : (callFunc 31 #[.float .f64 x]).run Tryd.prog w = .ok (.value (.int .u64 x)) w := by
  rw [run_callFunc_extern (e := Extern.MathFloatBits.float64bits) Tryd.func31 (by kernel_rfl) (by kernel_rfl) (by kernel_rfl) (by kernel_rfl)]; rfl
theorem ext86 (x : Int) (w : World) : (callFunc 14 #[.int .u64 x]).run Tryd.prog w = .ok (.value (.float .f64 x.toNat)) w := by
  rw [run_callFunc_extern (e := Extern.MathFloatBits.float64frombits) Tryd.func14 (by kernel_rfl) (by kernel_rfl) (by kernel_rfl) (by kernel_rfl)]; rfl
theorem ext85 (x : Nat) (w : World) : (callFunc 44 #[.float .f32 x]).run Tryd.prog w = .ok (.value (.int .u32 x)) w := by
  rw [run_callFunc_extern (e := Extern.MathFloatBits.float32bits) Tryd.func44 (by kernel_rfl) (by kernel_rfl) (by kernel_rfl) (by kernel_rfl)]; rfl
theorem ext110 (x : Int) (w : World) : (callFunc 58 #[.int .u32 x]).run Tryd.prog w = .ok (.value (.float .f32 x.toNat)) w := by
  rw [run_callFunc_extern (e := Extern.MathFloatBits.float32frombits) Tryd.func58 (by kernel_rfl) (by kernel_rfl) (by kernel_rfl) (by kernel_rfl)]; rfl
attribute [local go_sem] ext93 ext86 ext85 ext110


theorem told64 (x : Nat) (w : World) : Calls Tryd.prog 13 #[.float .f64 x] w fun e w' => e = .returned (.int .u64 (tld64 x)) ∧ w = w' := by
  go_enter Tryd.func13, Tryd.ntmps13
  go_wp2
  all_goals (go_ret; exact ⟨by simp only [tld64, *, cond_true, cond_false]; rfl, rfl⟩)

theorem told32 (x : Nat) (w : World) : Calls Tryd.prog 57 #[.float .f32 x] w fun e w' => e = .returned (.int .u32 (tld32 x)) ∧ w = w' := by
  go_enter Tryd.func57, Tryd.ntmps57
  go_wp2
  all_goals (go_ret; exact ⟨by simp only [tld32, *, cond_true, cond_false]; rfl, rfl⟩)

theorem addf64 (x y : Nat) (w : World) : Calls Tryd.prog 41 #[.float .f64 x, .float .f64 y] w fun e w' => ∃ r, e = .returned (.float .f64 r) ∧ Res .f64 (floatBits .add .f64 x y) r ∧ ∃ n, w' = w.drewN n := by
  cases h : floatBits .add .f64 x y with
  | some r =>
    have hop : ∀ t w, (binOp .add t (.float .f64 x) (.float .f64 y)).run Tryd.prog w = .ok (.float .f64 r) w := fun t w => run_float_arith w .add t .f64 x y r h
    clear h
    go_enter Tryd.func41, Tryd.ntmps41
    go_wp2_with (simp only [hop])
    go_ret
    exact ⟨r, rfl, rfl, 0, rfl⟩
  | none =>
    have hop : ∀ t w, (binOp .add t (.float .f64 x) (.float .f64 y)).run Tryd.prog w = .ok (.float .f64 ((Question.nanBits .f64 x y).cut (w.tape w.drawn (.nanBits .f64 x y)))) w.drew := fun t w => run_float_arith_none w .add t .f64 x y (by simp) h
    clear h
    go_enter Tryd.func41, Tryd.ntmps41
    go_wp2_with (simp only [hop])
    go_ret
    exact ⟨_, rfl, cut_nan .f64 x y _, 1, rfl⟩

theorem addf32 (x y : Nat) (w : World) : Calls Tryd.prog 42 #[.float .f32 x, .float .f32 y] w fun e w' => ∃ r, e = .returned (.float .f32 r) ∧ Res .f32 (floatBits .add .f32 x y) r ∧ ∃ n, w' = w.drewN n := by
  cases h : floatBits .add .f32 x y with
  | some r =>
    have hop : ∀ t w, (binOp .add t (.float .f32 x) (.float .f32 y)).run Tryd.prog w = .ok (.float .f32 r) w := fun t w => run_float_arith w .add t .f32 x y r h
    clear h
    go_enter Tryd.func42, Tryd.ntmps42
    go_wp2_with (simp only [hop])
    go_ret
    exact ⟨r, rfl, rfl, 0, rfl⟩
  | none =>
    have hop : ∀ t w, (binOp .add t (.float .f32 x) (.float .f32 y)).run Tryd.prog w = .ok (.float .f32 ((Question.nanBits .f32 x y).cut (w.tape w.drawn (.nanBits .f32 x y)))) w.drew := fun t w => run_float_arith_none w .add t .f32 x y (by simp) h
    clear h
    go_enter Tryd.func42, Tryd.ntmps42
    go_wp2_with (simp only [hop])
    go_ret
    exact ⟨_, rfl, cut_nan .f32 x y _, 1, rfl⟩

end Go.Proofs.YtfloeiagdegpjaaDoor.Fl
