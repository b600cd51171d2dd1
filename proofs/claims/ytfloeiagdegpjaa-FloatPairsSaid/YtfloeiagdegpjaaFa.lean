/- The leaves of package float, both widths: what each call comes to. No conditions. -/
import Derived.Test.YtfloeiagdegpjaaProg
import Derived.Below
import Derived.Deep.Draws
import Derived.OwnWalk
import Derived.Tactics
import Derived.WalkKit
import Derived.KernelRfl
import Derived.RowKit3
import Derived.Deep.QuietTactic
import Derived.BigQuiet
import Derived.WideLaws
import Derived.Laws.Rows
import Derived.WalkLawsBesides
import Derived.WalkSpells
import Derived.Laws.FloatArith
import Derived.Outline
import Derived.Test.YtfloeiagdegpjaaMw
namespace Go.Proofs.Ytfloeiagdegpjaa.Fl
open Go.RowKit Go.Proofs.YtfloeiagdegpjaaW.PrintWords
set_option linter.unusedVariables false
set_option linter.unusedSimpArgs false

theorem wide64 (w : World) : Calls Try.prog 121 #[] w fun e w' => e = .returned (.bool true) ∧ w = w' := by
  go_enter Try.func121, Try.ntmps121
  go_wp2
  go_ret
  exact ⟨rfl, rfl⟩

theorem wide32 (w : World) : Calls Try.prog 132 #[] w fun e w' => e = .returned (.bool false) ∧ w = w' := by
  go_enter Try.func132, Try.ntmps132
  go_wp2
  go_ret
  exact ⟨rfl, rfl⟩

theorem or64 : Go.bits .or .u64 9218868437227405312 2251799813685248 = 9221120237041090560 := by decide +kernel
theorem or32 : Go.bits .or .u32 2139095040 4194304 = 2143289344 := by decide +kernel
attribute [local irreducible] Go.bits

theorem form64 (w : World) : Calls Try.prog 114 #[] w fun e w' => e = .returned (.agg #[.int .u64 9223372036854775808, .int .u64 9218868437227405312, .int .u64 9221120237041090560, .int .u64 4503599627370496]) ∧ Below w.heap.size w w' := by
  go_enter Try.func114, Try.ntmps114
  go_wp2_with (go_at_call 121; refine (wide64 _).mono ?_; rintro e w' ⟨rfl, rfl⟩)
  exact bodyPost_ret (v := .agg #[.int .u64 9223372036854775808, .int .u64 9218868437227405312, .int .u64 9221120237041090560, .int .u64 4503599627370496]) (by simp [results, Try.results114, go_sem, or64]) rfl ⟨rfl, below_alloc (Below.refl _ _) _⟩

theorem form32 (w : World) : Calls Try.prog 87 #[] w fun e w' => e = .returned (.agg #[.int .u32 2147483648, .int .u32 2139095040, .int .u32 2143289344, .int .u32 8388608]) ∧ Below w.heap.size w w' := by
  go_enter Try.func87, Try.ntmps87
  go_wp2_with (go_at_call 132; refine (wide32 _).mono ?_; rintro e w' ⟨rfl, rfl⟩)
  exact bodyPost_ret (v := .agg #[.int .u32 2147483648, .int .u32 2139095040, .int .u32 2143289344, .int .u32 8388608]) (by simp [results, Try.results87, go_sem, or32]) rfl ⟨rfl, below_alloc (Below.refl _ _) _⟩

def isNan64 (a : Int) : Bool := decide (9218868437227405312 < Go.bits .andNot .u64 a 9223372036854775808)
theorem nan64 (a : Int) (w : World) : Calls Try.prog 84 #[.int .u64 a] w fun e w' => e = .returned (.bool (isNan64 a)) ∧ Below w.heap.size w w' := by
  go_enter Try.func84, Try.ntmps84
  go_wp2_with (go_at_call 114; refine (form64 _).mono ?_; rintro e w' ⟨rfl, hb⟩)
  go_ret
  exact ⟨rfl, below_alloc hb _⟩

def class64 (a : Int) : Int :=
  bif Go.bits .andNot .u64 a 9223372036854775808 == 0 then 0 else bif decide (Go.bits .andNot .u64 a 9223372036854775808 < 4503599627370496) then 1 else bif decide (Go.bits .andNot .u64 a 9223372036854775808 < 9218868437227405312) then 2
  else bif Go.bits .andNot .u64 a 9223372036854775808 == 9218868437227405312 then 3 else bif Go.bits .and .u64 (Go.bits .andNot .u64 a 9223372036854775808) 2251799813685248 != 0 then 4 else 5
theorem class64_calls (a : Int) (w : World) : Calls Try.prog 49 #[.int .u64 a] w fun e w' => e = .returned (.int .i64 (class64 a)) ∧ Below w.heap.size w w' := by
  go_enter Try.func49, Try.ntmps49
  go_wp2_with (go_at_call 114; refine (form64 _).mono ?_; rintro e w' ⟨rfl, hb⟩)
  all_goals (go_ret; exact ⟨by simp only [class64, *, cond_true, cond_false, decide_true, decide_false, Int.not_lt, decide_eq_false]; first | rfl | simp [*], below_alloc hb _⟩)

def key64 (a : Int) : Int := bif Go.bits .and .u64 a 9223372036854775808 == 0 then Go.bits .or .u64 a 9223372036854775808 else Go.bits .xor .u64 IntKind.u64.max a
theorem key64_calls (a : Int) (w : World) : Calls Try.prog 51 #[.int .u64 a] w fun e w' => e = .returned (.int .u64 (key64 a)) ∧ Below w.heap.size w w' := by
  have hf0 : ∀ w, (Instr.field 107 (.agg #[.int .u64 9223372036854775808, .int .u64 9218868437227405312, .int .u64 9221120237041090560, .int .u64 4503599627370496]) 0).run Try.prog w = .ok (.int .u64 9223372036854775808) w := fun _ => by kernel_rfl
  go_enter Try.func51, Try.ntmps51
  go_wp2_with (go_at_call 114; refine (form64 _).mono ?_; rintro e w' ⟨rfl, hb⟩)
  all_goals (go_ret; exact ⟨by simp only [key64, *, cond_true, cond_false]; rfl, by repeat (first | exact hb | apply below_alloc)⟩)

def ofKey64 (a : Int) : Int := bif Go.bits .and .u64 a 9223372036854775808 != 0 then Go.bits .andNot .u64 a 9223372036854775808 else Go.bits .xor .u64 IntKind.u64.max a
theorem ofKey64_calls (a : Int) (w : World) : Calls Try.prog 53 #[.int .u64 a] w fun e w' => e = .returned (.int .u64 (ofKey64 a)) ∧ Below w.heap.size w w' := by
  have hf0 : ∀ w, (Instr.field 107 (.agg #[.int .u64 9223372036854775808, .int .u64 9218868437227405312, .int .u64 9221120237041090560, .int .u64 4503599627370496]) 0).run Try.prog w = .ok (.int .u64 9223372036854775808) w := fun _ => by kernel_rfl
  go_enter Try.func53, Try.ntmps53
  go_wp2_with (go_at_call 114; refine (form64 _).mono ?_; rintro e w' ⟨rfl, hb⟩)
  all_goals (go_ret; exact ⟨by simp only [ofKey64, *, cond_true, cond_false]; rfl, by repeat (first | exact hb | apply below_alloc)⟩)

def isNan32 (a : Int) : Bool := decide (2139095040 < Go.bits .andNot .u32 a 2147483648)
theorem nan32 (a : Int) (w : World) : Calls Try.prog 109 #[.int .u32 a] w fun e w' => e = .returned (.bool (isNan32 a)) ∧ Below w.heap.size w w' := by
  go_enter Try.func109, Try.ntmps109
  go_wp2_with (go_at_call 87; refine (form32 _).mono ?_; rintro e w' ⟨rfl, hb⟩)
  go_ret
  exact ⟨rfl, below_alloc hb _⟩

def class32 (a : Int) : Int :=
  bif Go.bits .andNot .u32 a 2147483648 == 0 then 0 else bif decide (Go.bits .andNot .u32 a 2147483648 < 8388608) then 1 else bif decide (Go.bits .andNot .u32 a 2147483648 < 2139095040) then 2
  else bif Go.bits .andNot .u32 a 2147483648 == 2139095040 then 3 else bif Go.bits .and .u32 (Go.bits .andNot .u32 a 2147483648) 4194304 != 0 then 4 else 5
theorem class32_calls (a : Int) (w : World) : Calls Try.prog 18 #[.int .u32 a] w fun e w' => e = .returned (.int .i64 (class32 a)) ∧ Below w.heap.size w w' := by
  go_enter Try.func18, Try.ntmps18
  go_wp2_with (go_at_call 87; refine (form32 _).mono ?_; rintro e w' ⟨rfl, hb⟩)
  all_goals (go_ret; exact ⟨by simp only [class32, *, cond_true, cond_false, decide_true, decide_false, Int.not_lt, decide_eq_false]; first | rfl | simp [*], below_alloc hb _⟩)

def key32 (a : Int) : Int := bif Go.bits .and .u32 a 2147483648 == 0 then Go.bits .or .u32 a 2147483648 else Go.bits .xor .u32 IntKind.u32.max a
theorem key32_calls (a : Int) (w : World) : Calls Try.prog 59 #[.int .u32 a] w fun e w' => e = .returned (.int .u32 (key32 a)) ∧ Below w.heap.size w w' := by
  have hf0 : ∀ w, (Instr.field 88 (.agg #[.int .u32 2147483648, .int .u32 2139095040, .int .u32 2143289344, .int .u32 8388608]) 0).run Try.prog w = .ok (.int .u32 2147483648) w := fun _ => by kernel_rfl
  go_enter Try.func59, Try.ntmps59
  go_wp2_with (go_at_call 87; refine (form32 _).mono ?_; rintro e w' ⟨rfl, hb⟩)
  all_goals (go_ret; exact ⟨by simp only [key32, *, cond_true, cond_false]; rfl, by repeat (first | exact hb | apply below_alloc)⟩)

def ofKey32 (a : Int) : Int := bif Go.bits .and .u32 a 2147483648 != 0 then Go.bits .andNot .u32 a 2147483648 else Go.bits .xor .u32 IntKind.u32.max a
theorem ofKey32_calls (a : Int) (w : World) : Calls Try.prog 60 #[.int .u32 a] w fun e w' => e = .returned (.int .u32 (ofKey32 a)) ∧ Below w.heap.size w w' := by
  have hf0 : ∀ w, (Instr.field 88 (.agg #[.int .u32 2147483648, .int .u32 2139095040, .int .u32 2143289344, .int .u32 8388608]) 0).run Try.prog w = .ok (.int .u32 2147483648) w := fun _ => by kernel_rfl
  go_enter Try.func60, Try.ntmps60
  go_wp2_with (go_at_call 87; refine (form32 _).mono ?_; rintro e w' ⟨rfl, hb⟩)
  all_goals (go_ret; exact ⟨by simp only [ofKey32, *, cond_true, cond_false]; rfl, by repeat (first | exact hb | apply below_alloc)⟩)

end Go.Proofs.Ytfloeiagdegpjaa.Fl
