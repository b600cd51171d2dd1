/- The leaves of package float, both widths: what each call comes to. No conditions. -/
import Derived.Test.YtfloeiagdegpjaaDoorProg
import Derived.Below
import Derived.Deep.Draws
import Derived.OwnWalk
import Derived.Tactics
import Derived.WalkKit
import Derived.KernelRfl
import Derived.RowKit3
import Derived.Deep.QuietTactic
import Derived.BigQuiet
import Derived.WideLaws
import Derived.Laws.Rows
import Derived.WalkLawsBesides
import Derived.WalkSpells
import Derived.Laws.FloatArith
import Derived.Outline
import Derived.Test.YtfloeiagdegpjaaDoorMw
namespace Go.Proofs.YtfloeiagdegpjaaDoor.Fl
open Go.RowKit Go.Proofs.YtfloeiagdegpjaaDoorW.PrintWords
set_option linter.unusedVariables false
set_option linter.unusedSimpArgs false

theorem wide64 (w : World) : Calls Tryd.prog 56 #[] w fun e w' => e = .returned (.bool true) ∧ w = w' := by
  go_enter Tryd.func56, Tryd.ntmps56
  go_wp2
  go_ret
  exact ⟨rfl, rfl⟩

theorem wide32 (w : World) : Calls Tryd.prog 59 #[] w fun e w' => e = .returned (.bool false) ∧ w = w' := by
  go_enter Tryd.func59, Tryd.ntmps59
  go_wp2
  go_ret
  exact ⟨rfl, rfl⟩

theorem or64 : Go.bits .or .u64 9218868437227405312 2251799813685248 = 9221120237041090560 := by decide +kernel
theorem or32 : Go.bits .or .u32 2139095040 4194304 = 2143289344 := by decide +kernel
attribute [local irreducible] Go.bits

theorem form64 (w : World) : Calls Tryd.prog 39 #[] w fun e w' => e = .returned (.agg #[.int .u64 9223372036854775808, .int .u64 9218868437227405312, .int .u64 9221120237041090560, .int .u64 4503599627370496]) ∧ Below w.heap.size w w' := by
  go_enter Tryd.func39, Tryd.ntmps39
  go_wp2_with (go_at_call 56; refine (wide64 _).mono ?_; rintro e w' ⟨rfl, rfl⟩)
  exact bodyPost_ret (v := .agg #[.int .u64 9223372036854775808, .int .u64 9218868437227405312, .int .u64 9221120237041090560, .int .u64 4503599627370496]) (by simp [results, Tryd.results39, go_sem, or64]) rfl ⟨rfl, below_alloc (Below.refl _ _) _⟩

theorem form32 (w : World) : Calls Tryd.prog 45 #[] w fun e w' => e = .returned (.agg #[.int .u32 2147483648, .int .u32 2139095040, .int .u32 2143289344, .int .u32 8388608]) ∧ Below w.heap.size w w' := by
  go_enter Tryd.func45, Tryd.ntmps45
  go_wp2_with (go_at_call 59; refine (wide32 _).mono ?_; rintro e w' ⟨rfl, rfl⟩)
  exact bodyPost_ret (v := .agg #[.int .u32 2147483648, .int .u32 2139095040, .int .u32 2143289344, .int .u32 8388608]) (by simp [results, Tryd.results45, go_sem, or32]) rfl ⟨rfl, below_alloc (Below.refl _ _) _⟩

def isNan64 (a : Int) : Bool := decide (9218868437227405312 < Go.bits .andNot .u64 a 9223372036854775808)
theorem nan64 (a : Int) (w : World) : Calls Tryd.prog 43 #[.int .u64 a] w fun e w' => e = .returned (.bool (isNan64 a)) ∧ Below w.heap.size w w' := by
  go_enter Tryd.func43, Tryd.ntmps43
  go_wp2_with (go_at_call 39; refine (form64 _).mono ?_; rintro e w' ⟨rfl, hb⟩)
  go_ret
  exact ⟨rfl, below_alloc hb _⟩

def class64 (a : Int) : Int :=
  bif Go.bits .andNot .u64 a 9223372036854775808 == 0 then 0 else bif decide (Go.bits .andNot .u64 a 9223372036854775808 < 4503599627370496) then 1 else bif decide (Go.bits .andNot .u64 a 9223372036854775808 < 9218868437227405312) then 2
  else bif Go.bits .andNot .u64 a 9223372036854775808 == 9218868437227405312 then 3 else bif Go.bits .and .u64 (Go.bits .andNot .u64 a 9223372036854775808) 2251799813685248 != 0 then 4 else 5
theorem class64_calls (a : Int) (w : World) : Calls Tryd.prog 21 #[.int .u64 a] w fun e w' => e = .returned (.int .i64 (class64 a)) ∧ Below w.heap.size w w' := by
  go_enter Tryd.func21, Tryd.ntmps21
  go_wp2_with (go_at_call 39; refine (form64 _).mono ?_; rintro e w' ⟨rfl, hb⟩)
  all_goals (go_ret; exact ⟨by simp only [class64, *, cond_true, cond_false, decide_true, decide_false, Int.not_lt, decide_eq_false]; first | rfl | simp [*], below_alloc hb _⟩)

def key64 (a : Int) : Int := bif Go.bits .and .u64 a 9223372036854775808 == 0 then Go.bits .or .u64 a 9223372036854775808 else Go.bits .xor .u64 IntKind.u64.max a
def ofKey64 (a : Int) : Int := bif Go.bits .and .u64 a 9223372036854775808 != 0 then Go.bits .andNot .u64 a 9223372036854775808 else Go.bits .xor .u64 IntKind.u64.max a
def isNan32 (a : Int) : Bool := decide (2139095040 < Go.bits .andNot .u32 a 2147483648)
def class32 (a : Int) : Int :=
  bif Go.bits .andNot .u32 a 2147483648 == 0 then 0 else bif decide (Go.bits .andNot .u32 a 2147483648 < 8388608) then 1 else bif decide (Go.bits .andNot .u32 a 2147483648 < 2139095040) then 2
  else bif Go.bits .andNot .u32 a 2147483648 == 2139095040 then 3 else bif Go.bits .and .u32 (Go.bits .andNot .u32 a 2147483648) 4194304 != 0 then 4 else 5
def key32 (a : Int) : Int := bif Go.bits .and .u32 a 2147483648 == 0 then Go.bits .or .u32 a 2147483648 else Go.bits .xor .u32 IntKind.u32.max a
theorem key32_calls (a : Int) (w : World) : Calls Tryd.prog 25 #[.int .u32 a] w fun e w' => e = .returned (.int .u32 (key32 a)) ∧ Below w.heap.size w w' := by
  have hf0 : ∀ w, (Instr.field 73 (.agg #[.int .u32 2147483648, .int .u32 2139095040, .int .u32 2143289344, .int .u32 8388608]) 0).run Tryd.prog w = .ok (.int .u32 2147483648) w := fun _ => by kernel_rfl
  go_enter Tryd.func25, Tryd.ntmps25
  go_wp2_with (go_at_call 45; refine (form32 _).mono ?_; rintro e w' ⟨rfl, hb⟩)
  all_goals (go_ret; exact ⟨by simp only [key32, *, cond_true, cond_false]; rfl, by repeat (first | exact hb | apply below_alloc)⟩)

def ofKey32 (a : Int) : Int := bif Go.bits .and .u32 a 2147483648 != 0 then Go.bits .andNot .u32 a 2147483648 else Go.bits .xor .u32 IntKind.u32.max a
end Go.Proofs.YtfloeiagdegpjaaDoor.Fl
