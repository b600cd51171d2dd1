/- Integers out of floats, narrowed and widened ones, and the laws' own wakes(), of package float. -/
import Derived.Test.YtfloeiagdegpjaaDoorFe
import Derived.Laws.BitsAllLaws
import Derived.Test.YtfloeiagdegpjaaDoorR1
namespace Go.Proofs.YtfloeiagdegpjaaDoor.Fl
open Go.RowKit Go.Proofs.YtfloeiagdegpjaaDoorW.PrintWords Go.Proofs.YtfloeiagdegpjaaDoorW.PrintMore Go.Proofs.YtfloeiagdegpjaaDoorW.PrintLast
set_option linter.unusedVariables false
set_option linter.unusedSimpArgs false

theorem andNot64 {a : Int} (h0 : 0 ≤ a) (h1 : a < 18446744073709551616) : Go.bits .andNot .u64 a 9223372036854775808 = a % 9223372036854775808 := by
  rw [u64_andNot a _ h0 h1 (by omega) (by omega)]
  have e : (18446744073709551615 - (9223372036854775808 : Int).toNat : Nat) = 2 ^ 63 - 1 := by decide
  rw [e, Nat.and_two_pow_sub_one_eq_mod]; omega
theorem andNot32 {a : Int} (h0 : 0 ≤ a) (h1 : a < 4294967296) : Go.bits .andNot .u32 a 2147483648 = a % 2147483648 := by
  rw [u32_andNot a _ h0 h1 (by omega) (by omega)]
  have e : (4294967295 - (2147483648 : Int).toNat : Nat) = 2 ^ 31 - 1 := by decide
  rw [e, Nat.and_two_pow_sub_one_eq_mod]; omega

theorem isNan64_read {a : Int} (h0 : 0 ≤ a) (h1 : a < 18446744073709551616) : isNan64 a = (Ieee.double.read a.toNat).isNaN := by
  rw [_root_.Fl.read_nan _root_.Fl.good_double]
  unfold isNan64
  rw [andNot64 h0 h1]
  have e1 : Ieee.double.infRung = 9218868437227405312 := by decide
  have e2 : Ieee.double.signWeight = 9223372036854775808 := by decide
  rw [e1, e2]
  by_cases h : 9218868437227405312 < a % 9223372036854775808
  · rw [decide_eq_true h, decide_eq_true (by omega)]
  · rw [decide_eq_false h, decide_eq_false (by omega)]
theorem isNan32_read {a : Int} (h0 : 0 ≤ a) (h1 : a < 4294967296) : isNan32 a = (Ieee.single.read a.toNat).isNaN := by
  rw [_root_.Fl.read_nan _root_.Fl.good_single]
  unfold isNan32
  rw [andNot32 h0 h1]
  have e1 : Ieee.single.infRung = 2139095040 := by decide
  have e2 : Ieee.single.signWeight = 2147483648 := by decide
  rw [e1, e2]
  by_cases h : 2139095040 < a % 2147483648
  · rw [decide_eq_true h, decide_eq_true (by omega)]
  · rw [decide_eq_false h, decide_eq_false (by omega)]

/-- Round: an error, the one NaN, or a number made whole. -/
def rounds (b mode : Int) : Int × Int :=
  if mode < 0 ∨ 4 < mode then (0, 31) else if isNan64 b = true then (one64, 0) else (rnd b.toNat mode, 0)

theorem round_calls (b mode : Int) (h0 : 0 ≤ b) (h1 : b < 18446744073709551616) (w : World) :
    Calls Tryd.prog 38 #[.int .u64 b, .int .i64 mode] w fun e w' => e = .returned (.tuple #[.int .u64 (rounds b mode).1, .int .i64 (rounds b mode).2]) ∧ Below w.heap.size w w' := by
  unfold rounds
  by_cases hm : mode < 0 ∨ 4 < mode
  · rw [if_pos hm]
    exact (round_bad b mode hm w).mono fun e w' ⟨h, hw⟩ => ⟨h, hw ▸ Below.refl _ _⟩
  · rw [if_neg hm]
    have hn := isNan64_read h0 h1
    have hc : mode = 0 ∨ mode = 1 ∨ mode = 2 ∨ mode = 3 ∨ mode = 4 := by omega
    cases ha : isNan64 b with
    | true =>
      rw [if_pos rfl]
      rw [ha] at hn
      rcases hc with rfl | rfl | rfl | rfl | rfl
      · exact round_m0_nan b ha hn.symm w
      · exact round_m1_nan b ha w
      · exact round_m2_nan b ha hn.symm w
      · exact round_m3_nan b ha hn.symm w
      · exact round_m4_nan b ha hn.symm w
    | false =>
      rw [if_neg (by decide)]
      rw [ha] at hn
      rcases hc with rfl | rfl | rfl | rfl | rfl
      · exact round_m0 b ha hn.symm w
      · have e : rnd b.toNat 1 = goRound b.toNat := by unfold rnd; simp only [show ((1 : Int) == 0) = false from rfl, show ((1 : Int) == 1) = true from rfl, cond_false, cond_true]
        rw [e]; exact round_m1 b ha hn.symm w
      · exact round_m2 b ha hn.symm w
      · exact round_m3 b ha hn.symm w
      · exact round_m4 b ha hn.symm w

section
attribute [local go_sem] ext93 ext86 ext85 ext110
attribute [local irreducible] Go.bits Ieee.Format.order

theorem toInt_err (b mode : Int) (r e : Int) (he : (e != 0) = true) (h : ∀ w : World, Calls Tryd.prog 38 #[.int .u64 b, .int .i64 mode] w fun x w' => x = .returned (.tuple #[.int .u64 r, .int .i64 e]) ∧ Below w.heap.size w w') (w : World) :
    Calls Tryd.prog 20 #[.int .u64 b, .int .i64 mode] w fun x w' => x = .returned (.tuple #[.int .i64 0, .int .i64 e]) ∧ Below w.heap.size w w' := by
  have H := Aside0.mk h
  clear h
  go_enter Tryd.func20, Tryd.ntmps20
  go_wp2_with (first | (go_at_call 38; refine (H.out _).mono ?_; rintro e w1 ⟨rfl, hb1⟩))
  go_ret2
  exact ⟨rfl, hb1⟩

/-- 'x >= -1<<63', 'x < 1<<63'. -/
def geLow (r : Nat) : Bool := FloatKind.f64.format.order r 14114281232179134464 == some .gt || FloatKind.f64.format.order r 14114281232179134464 == some .eq
def ltHigh (r : Nat) : Bool := FloatKind.f64.format.order r 4890909195324358656 == some .lt

theorem toInt_range (b mode : Int) (r : Int) (hr : (geLow r.toNat && ltHigh r.toNat) = false) (h : ∀ w : World, Calls Tryd.prog 38 #[.int .u64 b, .int .i64 mode] w fun x w' => x = .returned (.tuple #[.int .u64 r, .int .i64 0]) ∧ Below w.heap.size w w') (w : World) :
    Calls Tryd.prog 20 #[.int .u64 b, .int .i64 mode] w fun x w' => x = .returned (.tuple #[.int .i64 0, .int .i64 30]) ∧ Below w.heap.size w w' := by
  have H := Aside0.mk h
  clear h
  unfold geLow ltHigh at hr
  cases h1 : (FloatKind.f64.format.order r.toNat 14114281232179134464 == some .gt) <;> cases h2 : (FloatKind.f64.format.order r.toNat 14114281232179134464 == some .eq) <;> cases h3 : (FloatKind.f64.format.order r.toNat 4890909195324358656 == some .lt)
  all_goals rw [h1, h2, h3] at hr
  all_goals first | (exact absurd hr (by decide)) | skip
  all_goals clear hr
  all_goals
    go_enter Tryd.func20, Tryd.ntmps20
    go_wp2_with (first | (go_at_call 38; refine (H.out _).mono ?_; rintro e w1 ⟨rfl, hb1⟩))
    go_ret2
    exact ⟨rfl, hb1⟩

theorem toInt_ok (b mode : Int) (r n : Int) (hr : (geLow r.toNat && ltHigh r.toNat) = true) (hn : floatToIntVal .f64 r.toNat .i64 = some n) (h : ∀ w : World, Calls Tryd.prog 38 #[.int .u64 b, .int .i64 mode] w fun x w' => x = .returned (.tuple #[.int .u64 r, .int .i64 0]) ∧ Below w.heap.size w w') (w : World) :
    Calls Tryd.prog 20 #[.int .u64 b, .int .i64 mode] w fun x w' => x = .returned (.tuple #[.int .i64 n, .int .i64 0]) ∧ Below w.heap.size w w' := by
  have H := Aside0.mk h
  clear h
  have hc : ∀ w, (convert 40 2 (.float .f64 r.toNat)).run Tryd.prog w = .ok (.int .i64 n) w := fun w => run_convert_float_int w 40 2 .f64 .i64 r.toNat n (by rw [Tryd.underlying40]; rfl) Tryd.underlying2 hn
  clear hn
  unfold geLow ltHigh at hr
  cases h1 : (FloatKind.f64.format.order r.toNat 14114281232179134464 == some .gt) <;> cases h2 : (FloatKind.f64.format.order r.toNat 14114281232179134464 == some .eq) <;> cases h3 : (FloatKind.f64.format.order r.toNat 4890909195324358656 == some .lt)
  all_goals rw [h1, h2, h3] at hr
  all_goals first | (exact absurd hr (by decide)) | skip
  all_goals clear hr
  all_goals
    go_enter Tryd.func20, Tryd.ntmps20
    go_wp2_with (first | (go_at_call 38; refine (H.out _).mono ?_; rintro e w1 ⟨rfl, hb1⟩) | simp only [hc])
    go_ret2
    exact ⟨rfl, hb1⟩

def narrowNan (a : Int) : Int := Go.bits .or .u32 (Go.bits .or .u32 (a / 9223372036854775808 % 4294967296 * 2147483648 % 4294967296) 2143289344) (Go.bits .and .u32 (a / 536870912 % 4294967296) 4194303)
theorem narrow_nan (a : Int) (ha : isNan64 a = true) (w : World) : Calls Tryd.prog 23 #[.int .u64 a] w fun e w' => e = .returned (.int .u32 (narrowNan a)) ∧ Below w.heap.size w w' := by
  have Ha := Aside0.mk ha
  clear ha
  go_enter Tryd.func23, Tryd.ntmps23
  go_wp2_with (first | (go_at_call 43; refine (nan64_is Ha.out _).mono ?_; rintro e w1 ⟨rfl, hb1⟩))
  go_ret
  exact ⟨rfl, hb1⟩
theorem narrow_num (a : Int) (r : Nat) (ha : isNan64 a = false) (h : floatToFloatBits .f64 a.toNat .f32 = some r) (w : World) : Calls Tryd.prog 23 #[.int .u64 a] w fun e w' => e = .returned (.int .u32 r) ∧ Below w.heap.size w w' := by
  have Ha := Aside0.mk ha
  have hc : ∀ w, (convert 40 69 (.float .f64 a.toNat)).run Tryd.prog w = .ok (.float .f32 r) w := fun w => run_convert_float_float w 40 69 .f64 .f32 a.toNat _ (by rw [Tryd.underlying40]; rfl) Tryd.underlying69 h
  clear ha h
  go_enter Tryd.func23, Tryd.ntmps23
  go_wp2_with (first | (go_at_call 43; refine (nan64_is Ha.out _).mono ?_; rintro e w1 ⟨rfl, hb1⟩) | simp only [hc])
  go_ret
  exact ⟨rfl, hb1⟩

def widenNan (a : Int) : Int := Go.bits .or .u64 (Go.bits .or .u64 (a / 2147483648 * 9223372036854775808) 9218868437227405312) (IntKind.u64.wrap (IntKind.u64.wrap (Go.bits .and .u32 a 8388607) * 536870912))
end

theorem wk1 : class64 1 = 1 := by decide +kernel
theorem wk2 : res64 (Ieee.double.add (4607182418800017408 : Int).toNat (4607182418800017408 : Int).toNat) = 4611686018427387904 := by decide +kernel
theorem wk3 : floatToFloatBits .f64 (4607182419605323776 : Int).toNat .f32 = some 1065353218 := by decide +kernel
theorem wk3n : isNan64 4607182419605323776 = false := by decide +kernel
theorem wk4 : rounds 4612811918334230528 1 = (4613937818241073152, 0) := by decide +kernel
theorem wk5 : (geLow (4613937818241073152 : Int).toNat && ltHigh (4613937818241073152 : Int).toNat) = true := by decide +kernel
theorem wk6 : floatToIntVal .f64 (4613937818241073152 : Int).toNat .i64 = some 3 := by decide +kernel
theorem wk7 : key32 0 = 2147483648 := by decide +kernel

theorem wk_toInt (w : World) : Calls Tryd.prog 20 #[.int .u64 4612811918334230528, .int .i64 1] w fun x w' => x = .returned (.tuple #[.int .i64 3, .int .i64 0]) ∧ Below w.heap.size w w' :=
  toInt_ok _ _ 4613937818241073152 3 wk5 wk6 (fun w => by have := round_calls 4612811918334230528 1 (by omega) (by omega) w; rw [wk4] at this; exact this) w
theorem wk_class (w : World) : Calls Tryd.prog 21 #[.int .u64 1] w fun x w' => x = .returned (.int .i64 1) ∧ Below w.heap.size w w' := by
  have := class64_calls 1 w; rw [wk1] at this; exact this
theorem wk_add (w : World) : Calls Tryd.prog 22 #[.int .u64 4607182418800017408, .int .u64 4607182418800017408] w fun x w' => x = .returned (.int .u64 4611686018427387904) ∧ Below w.heap.size w w' := by
  have := add64 4607182418800017408 4607182418800017408 w; rw [wk2] at this
  exact this.mono fun e w' ⟨h, hw⟩ => ⟨h, below_drewN' hw⟩
theorem wk_narrow (w : World) : Calls Tryd.prog 23 #[.int .u64 4607182419605323776] w fun x w' => x = .returned (.int .u32 1065353218) ∧ Below w.heap.size w w' :=
  narrow_num _ 1065353218 wk3n wk3 w
theorem wk_key (w : World) : Calls Tryd.prog 25 #[.int .u32 0] w fun x w' => x = .returned (.int .u32 2147483648) ∧ Below w.heap.size w w' := by
  have := key32_calls 0 w; rw [wk7] at this; exact this

theorem wakes (w : World) : Calls Tryd.prog 8 #[] w fun x w' => x = .returned (.bool true) ∧ Below w.heap.size w w' := by
  go_enter Tryd.func8, Tryd.ntmps8
  go_wp2_with fail
  refine (wk_toInt _).mono ?_; rintro e w1 ⟨rfl, hb1⟩
  go_wp2_with fail
  refine (wk_class _).mono ?_; rintro e w2 ⟨rfl, hb2⟩
  go_wp2_with fail
  refine (wk_add _).mono ?_; rintro e w3 ⟨rfl, hb3⟩
  go_wp2_with fail
  refine (wk_narrow _).mono ?_; rintro e w4 ⟨rfl, hb4⟩
  go_wp2_with fail
  refine (Rf.fathomlaw3_num.calls 0 0 _ rfl).mono ?_
  rintro e w5 ⟨rfl, n5, rfl⟩
  go_wp2_with fail
  refine (wk_key _).mono ?_; rintro e w6 ⟨rfl, hb6⟩
  go_wp2_with fail
  go_ret
  exact ⟨rfl, below2 (pw_below_drewN (below2 (below2 (below2 hb1 hb2) hb3) hb4) n5) hb6⟩

end Go.Proofs.YtfloeiagdegpjaaDoor.Fl
