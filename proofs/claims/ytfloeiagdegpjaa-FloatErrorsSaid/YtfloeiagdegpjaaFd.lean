/- Comparisons, distances, next numbers, narrowed and widened ones of package float. -/
import Derived.Test.YtfloeiagdegpjaaFc
namespace Go.Proofs.Ytfloeiagdegpjaa.Fl
open Go.RowKit Go.Proofs.YtfloeiagdegpjaaW.PrintWords Go.Proofs.YtfloeiagdegpjaaW.PrintMore Go.Proofs.YtfloeiagdegpjaaW.PrintLast
set_option linter.unusedVariables false
set_option linter.unusedSimpArgs false
attribute [local go_sem] ext93 ext86 ext85 ext110 max2_int min2_int max_two min_two
attribute [local irreducible] Go.bits Ieee.Format.order

def cmpOf (o : Option Ordering) : Int := match o with | some .lt => -1 | some .gt => 1 | _ => 0

theorem nan64_is {a : Int} {c : Bool} (h : isNan64 a = c) (w : World) : Calls Try.prog 84 #[.int .u64 a] w fun e w' => e = .returned (.bool c) ∧ Below w.heap.size w w' := by
  subst h; exact nan64 a w
theorem nan32_is {a : Int} {c : Bool} (h : isNan32 a = c) (w : World) : Calls Try.prog 109 #[.int .u32 a] w fun e w' => e = .returned (.bool c) ∧ Below w.heap.size w w' := by
  subst h; exact nan32 a w
theorem bcell {W w1 : World} (hb : Below W.heap.size W w1) : (∀ b o, b < W.heap.size → w1.cell? ⟨b, o, none⟩ = W.cell? ⟨b, o, none⟩) ∧ (∀ b o, b < W.heap.size → w1.frozen? ⟨b, o, none⟩ = W.frozen? ⟨b, o, none⟩) :=
  ⟨fun b o h => hb.cell (p := ⟨b, o, none⟩) h, fun b o h => hb.frozen (p := ⟨b, o, none⟩) h⟩
theorem below2 {w w1 w2 : World} (h : Below w.heap.size w w1) (k : Below w1.heap.size w1 w2) : Below w.heap.size w w2 := below_step h k


theorem cmp64_nan (a b : Int) (h : (isNan64 a || isNan64 b) = true) (w : World) : Calls Try.prog 43 #[.int .u64 a, .int .u64 b] w fun e w' => e = .returned (.tuple #[.int .i64 0, .bool false]) ∧ Below w.heap.size w w' := by
  cases ha : isNan64 a with
  | true =>
    clear h
    have Ha := Aside0.mk ha
    clear ha
    go_enter Try.func43, Try.ntmps43
    go_wp2_with (first | (go_at_call 84; refine (nan64_is Ha.out _).mono ?_; rintro e w1 ⟨rfl, hb1⟩))
    go_ret2
    exact ⟨rfl, hb1⟩
  | false =>
    have hb : isNan64 b = true := by rw [ha] at h; exact h
    clear h
    have Ha := Aside0.mk ha
    have Hb := Aside0.mk hb
    clear ha hb
    go_enter Try.func43, Try.ntmps43
    go_wp2_with fail
    refine (nan64_is Ha.out _).mono ?_; rintro e w1 ⟨rfl, hb1⟩
    go_wp2_with fail
    refine (nan64_is Hb.out _).mono ?_; rintro e w2 ⟨rfl, hb2⟩
    go_wp2_with fail
    go_ret2
    exact ⟨rfl, below2 hb1 hb2⟩


theorem cmp64 (a b : Int) (ha : isNan64 a = false) (hb : isNan64 b = false) (w : World) : Calls Try.prog 43 #[.int .u64 a, .int .u64 b] w fun e w' => e = .returned (.tuple #[.int .i64 (cmpOf (FloatKind.f64.format.order a.toNat b.toNat)), .bool true]) ∧ Below w.heap.size w w' := by
  have Ha := Aside0.mk ha
  have Hb := Aside0.mk hb
  clear ha hb
  cases ho : FloatKind.f64.format.order a.toNat b.toNat with
  | none =>
    go_enter Try.func43, Try.ntmps43
    go_wp2_with fail
    refine (nan64_is Ha.out _).mono ?_; rintro e w1 ⟨rfl, hb1⟩
    go_wp2_with fail
    refine (nan64_is Hb.out _).mono ?_; rintro e w2 ⟨rfl, hb2⟩
    go_wp2_with fail
    refine (value64 _ _).mono ?_; rintro e w' ⟨rfl, rfl⟩
    go_wp2_with fail
    refine (value64 _ _).mono ?_; rintro e w' ⟨rfl, rfl⟩
    go_wp2_with fail
    go_ret2
    exact ⟨rfl, below2 hb1 hb2⟩
  | some o =>
    cases o
    all_goals
      go_enter Try.func43, Try.ntmps43
      go_wp2_with fail
      refine (nan64_is Ha.out _).mono ?_; rintro e w1 ⟨rfl, hb1⟩
      go_wp2_with fail
      refine (nan64_is Hb.out _).mono ?_; rintro e w2 ⟨rfl, hb2⟩
      go_wp2_with fail
      refine (value64 _ _).mono ?_; rintro e w' ⟨rfl, rfl⟩
      go_wp2_with fail
      refine (value64 _ _).mono ?_; rintro e w' ⟨rfl, rfl⟩
      go_wp2_with fail
      go_ret2
      exact ⟨rfl, below2 hb1 hb2⟩

def dist64 (a b : Int) : Int := IntKind.u64.wrap (max (key64 a) (key64 b) - min (key64 a) (key64 b))
theorem dist64_calls (a b : Int) (w : World) : Calls Try.prog 45 #[.int .u64 a, .int .u64 b] w fun e w' => e = .returned (.int .u64 (dist64 a b)) ∧ Below w.heap.size w w' := by
  go_enter Try.func45, Try.ntmps45
  go_wp2_with fail
  refine (key64_calls _ _).mono ?_; rintro e w1 ⟨rfl, hb1⟩
  go_wp2_with fail
  refine (key64_calls _ _).mono ?_; rintro e w2 ⟨rfl, hb2⟩
  go_wp2_with fail
  all_goals (go_ret; first | exact ⟨ret_u64 (congrArg IntKind.u64.wrap (by omega)), below2 hb1 hb2⟩ | (refine ⟨ret_u64 ?_, below2 hb1 hb2⟩; unfold dist64; rw [show max (key64 a) (key64 b) - min (key64 a) (key64 b) = 0 by omega]; rfl))

def up64 (a : Int) : Int := bif isNan64 a then one64 else bif a == 9218868437227405312 then a else bif Go.bits .andNot .u64 a 9223372036854775808 == 0 then 1 else ofKey64 (IntKind.u64.wrap (key64 a + 1))
theorem up64_calls (a : Int) (w : World) : Calls Try.prog 55 #[.int .u64 a] w fun e w' => e = .returned (.int .u64 (up64 a)) ∧ Below w.heap.size w w' := by
  unfold up64
  cases ha : isNan64 a with
  | true =>
    have Ha := Aside0.mk ha
    clear ha
    go_enter Try.func55, Try.ntmps55
    go_wp2_with fail
    refine (form64 _).mono ?_; rintro e w1 ⟨rfl, hb1⟩
    go_wp2_with fail
    refine (nan64_is Ha.out _).mono ?_; rintro e w2 ⟨rfl, hb2⟩
    obtain ⟨hc, hfr⟩ := bcell hb2
    go_wp2_with fail
    go_ret
    exact ⟨rfl, below2 (below_alloc hb1 _) hb2⟩
  | false =>
    have Ha := Aside0.mk ha
    clear ha
    cases he : (a == 9218868437227405312) with
    | true =>
      go_enter Try.func55, Try.ntmps55
      go_wp2_with fail
      refine (form64 _).mono ?_; rintro e w1 ⟨rfl, hb1⟩
      go_wp2_with fail
      refine (nan64_is Ha.out _).mono ?_; rintro e w2 ⟨rfl, hb2⟩
      obtain ⟨hc, hfr⟩ := bcell hb2
      go_wp2_with fail
      go_ret
      exact ⟨rfl, below2 (below_alloc hb1 _) hb2⟩
    | false =>
      cases hz : (Go.bits .andNot .u64 a 9223372036854775808 == 0) with
      | true =>
        go_enter Try.func55, Try.ntmps55
        go_wp2_with fail
        refine (form64 _).mono ?_; rintro e w1 ⟨rfl, hb1⟩
        go_wp2_with fail
        refine (nan64_is Ha.out _).mono ?_; rintro e w2 ⟨rfl, hb2⟩
        obtain ⟨hc, hfr⟩ := bcell hb2
        go_wp2_with fail
        go_ret
        exact ⟨rfl, below2 (below_alloc hb1 _) hb2⟩
      | false =>
        go_enter Try.func55, Try.ntmps55
        go_wp2_with fail
        refine (form64 _).mono ?_; rintro e w1 ⟨rfl, hb1⟩
        go_wp2_with fail
        refine (nan64_is Ha.out _).mono ?_; rintro e w2 ⟨rfl, hb2⟩
        obtain ⟨hc, hfr⟩ := bcell hb2
        go_wp2_with fail
        refine (key64_calls _ _).mono ?_; rintro e w3 ⟨rfl, hb3⟩
        go_wp2_with fail
        refine (ofKey64_calls _ _).mono ?_; rintro e w4 ⟨rfl, hb4⟩
        go_wp2_with fail
        go_ret
        exact ⟨rfl, below2 (below2 (below2 (below_alloc hb1 _) hb2) hb3) hb4⟩

def down64 (a : Int) : Int := bif isNan64 a then one64 else Go.bits .xor .u64 (up64 (Go.bits .xor .u64 a 9223372036854775808)) 9223372036854775808
theorem down64_calls (a : Int) (w : World) : Calls Try.prog 57 #[.int .u64 a] w fun e w' => e = .returned (.int .u64 (down64 a)) ∧ Below w.heap.size w w' := by
  have hf0 : ∀ w, (Instr.field 107 (.agg #[.int .u64 9223372036854775808, .int .u64 9218868437227405312, .int .u64 9221120237041090560, .int .u64 4503599627370496]) 0).run Try.prog w = .ok (.int .u64 9223372036854775808) w := fun _ => by kernel_rfl
  have hf2 : ∀ w, (Instr.field 107 (.agg #[.int .u64 9223372036854775808, .int .u64 9218868437227405312, .int .u64 9221120237041090560, .int .u64 4503599627370496]) 2).run Try.prog w = .ok (.int .u64 9221120237041090560) w := fun _ => by kernel_rfl
  unfold down64
  cases ha : isNan64 a with
  | true =>
    have Ha := Aside0.mk ha
    clear ha
    go_enter Try.func57, Try.ntmps57
    go_wp2_with fail
    refine (nan64_is Ha.out _).mono ?_; rintro e w1 ⟨rfl, hb1⟩
    go_wp2_with fail
    refine (form64 _).mono ?_; rintro e w2 ⟨rfl, hb2⟩
    go_wp2_with fail
    go_ret
    exact ⟨rfl, below2 hb1 hb2⟩
  | false =>
    have Ha := Aside0.mk ha
    clear ha
    go_enter Try.func57, Try.ntmps57
    go_wp2_with fail
    refine (nan64_is Ha.out _).mono ?_; rintro e w1 ⟨rfl, hb1⟩
    go_wp2_with fail
    refine (form64 _).mono ?_; rintro e w2 ⟨rfl, hb2⟩
    go_wp2_with fail
    refine (up64_calls _ _).mono ?_; rintro e w3 ⟨rfl, hb3⟩
    go_wp2_with fail
    go_ret
    exact ⟨rfl, below2 (below2 hb1 hb2) hb3⟩

theorem cmp32_nan (a b : Int) (h : (isNan32 a || isNan32 b) = true) (w : World) : Calls Try.prog 47 #[.int .u32 a, .int .u32 b] w fun e w' => e = .returned (.tuple #[.int .i64 0, .bool false]) ∧ Below w.heap.size w w' := by
  cases ha : isNan32 a with
  | true =>
    clear h
    have Ha := Aside0.mk ha
    clear ha
    go_enter Try.func47, Try.ntmps47
    go_wp2_with (first | (go_at_call 109; refine (nan32_is Ha.out _).mono ?_; rintro e w1 ⟨rfl, hb1⟩))
    go_ret2
    exact ⟨rfl, hb1⟩
  | false =>
    have hb : isNan32 b = true := by rw [ha] at h; exact h
    clear h
    have Ha := Aside0.mk ha
    have Hb := Aside0.mk hb
    clear ha hb
    go_enter Try.func47, Try.ntmps47
    go_wp2_with fail
    refine (nan32_is Ha.out _).mono ?_; rintro e w1 ⟨rfl, hb1⟩
    go_wp2_with fail
    refine (nan32_is Hb.out _).mono ?_; rintro e w2 ⟨rfl, hb2⟩
    go_wp2_with fail
    go_ret2
    exact ⟨rfl, below2 hb1 hb2⟩


theorem cmp32 (a b : Int) (ha : isNan32 a = false) (hb : isNan32 b = false) (ga : (Ieee.single.read a.toNat).isNaN = false) (gb : (Ieee.single.read b.toNat).isNaN = false) (w : World) : Calls Try.prog 47 #[.int .u32 a, .int .u32 b] w fun e w' => e = .returned (.tuple #[.int .i64 (cmpOf (FloatKind.f64.format.order (wid a.toNat) (wid b.toNat))), .bool true]) ∧ Below w.heap.size w w' := by
  have Ha := Aside0.mk ha
  have Hb := Aside0.mk hb
  clear ha hb
  have Ga := Aside0.mk ga
  have Gb := Aside0.mk gb
  clear ga gb
  cases ho : FloatKind.f64.format.order (wid a.toNat) (wid b.toNat) with
  | none =>
    go_enter Try.func47, Try.ntmps47
    go_wp2_with fail
    refine (nan32_is Ha.out _).mono ?_; rintro e w1 ⟨rfl, hb1⟩
    go_wp2_with fail
    refine (nan32_is Hb.out _).mono ?_; rintro e w2 ⟨rfl, hb2⟩
    go_wp2_with fail
    refine (value32 _ _ Ga.out).mono ?_; rintro e w' ⟨rfl, rfl⟩
    go_wp2_with fail
    refine (value32 _ _ Gb.out).mono ?_; rintro e w' ⟨rfl, rfl⟩
    go_wp2_with fail
    go_ret2
    exact ⟨rfl, below2 hb1 hb2⟩
  | some o =>
    cases o
    all_goals
      go_enter Try.func47, Try.ntmps47
      go_wp2_with fail
      refine (nan32_is Ha.out _).mono ?_; rintro e w1 ⟨rfl, hb1⟩
      go_wp2_with fail
      refine (nan32_is Hb.out _).mono ?_; rintro e w2 ⟨rfl, hb2⟩
      go_wp2_with fail
      refine (value32 _ _ Ga.out).mono ?_; rintro e w' ⟨rfl, rfl⟩
      go_wp2_with fail
      refine (value32 _ _ Gb.out).mono ?_; rintro e w' ⟨rfl, rfl⟩
      go_wp2_with fail
      go_ret2
      exact ⟨rfl, below2 hb1 hb2⟩

def dist32 (a b : Int) : Int := IntKind.u32.wrap (max (key32 a) (key32 b) - min (key32 a) (key32 b))
theorem dist32_calls (a b : Int) (w : World) : Calls Try.prog 48 #[.int .u32 a, .int .u32 b] w fun e w' => e = .returned (.int .u32 (dist32 a b)) ∧ Below w.heap.size w w' := by
  go_enter Try.func48, Try.ntmps48
  go_wp2_with fail
  refine (key32_calls _ _).mono ?_; rintro e w1 ⟨rfl, hb1⟩
  go_wp2_with fail
  refine (key32_calls _ _).mono ?_; rintro e w2 ⟨rfl, hb2⟩
  go_wp2_with fail
  all_goals (go_ret; first | exact ⟨ret_u32 (congrArg IntKind.u32.wrap (by omega)), below2 hb1 hb2⟩ | (refine ⟨ret_u32 ?_, below2 hb1 hb2⟩; unfold dist32; rw [show max (key32 a) (key32 b) - min (key32 a) (key32 b) = 0 by omega]; rfl))

def up32 (a : Int) : Int := bif isNan32 a then one32 else bif a == 2139095040 then a else bif Go.bits .andNot .u32 a 2147483648 == 0 then 1 else ofKey32 (IntKind.u32.wrap (key32 a + 1))
theorem up32_calls (a : Int) (w : World) : Calls Try.prog 61 #[.int .u32 a] w fun e w' => e = .returned (.int .u32 (up32 a)) ∧ Below w.heap.size w w' := by
  unfold up32
  cases ha : isNan32 a with
  | true =>
    have Ha := Aside0.mk ha
    clear ha
    go_enter Try.func61, Try.ntmps61
    go_wp2_with fail
    refine (form32 _).mono ?_; rintro e w1 ⟨rfl, hb1⟩
    go_wp2_with fail
    refine (nan32_is Ha.out _).mono ?_; rintro e w2 ⟨rfl, hb2⟩
    obtain ⟨hc, hfr⟩ := bcell hb2
    go_wp2_with fail
    go_ret
    exact ⟨rfl, below2 (below_alloc hb1 _) hb2⟩
  | false =>
    have Ha := Aside0.mk ha
    clear ha
    cases he : (a == 2139095040) with
    | true =>
      go_enter Try.func61, Try.ntmps61
      go_wp2_with fail
      refine (form32 _).mono ?_; rintro e w1 ⟨rfl, hb1⟩
      go_wp2_with fail
      refine (nan32_is Ha.out _).mono ?_; rintro e w2 ⟨rfl, hb2⟩
      obtain ⟨hc, hfr⟩ := bcell hb2
      go_wp2_with fail
      go_ret
      exact ⟨rfl, below2 (below_alloc hb1 _) hb2⟩
    | false =>
      cases hz : (Go.bits .andNot .u32 a 2147483648 == 0) with
      | true =>
        go_enter Try.func61, Try.ntmps61
        go_wp2_with fail
        refine (form32 _).mono ?_; rintro e w1 ⟨rfl, hb1⟩
        go_wp2_with fail
        refine (nan32_is Ha.out _).mono ?_; rintro e w2 ⟨rfl, hb2⟩
        obtain ⟨hc, hfr⟩ := bcell hb2
        go_wp2_with fail
        go_ret
        exact ⟨rfl, below2 (below_alloc hb1 _) hb2⟩
      | false =>
        go_enter Try.func61, Try.ntmps61
        go_wp2_with fail
        refine (form32 _).mono ?_; rintro e w1 ⟨rfl, hb1⟩
        go_wp2_with fail
        refine (nan32_is Ha.out _).mono ?_; rintro e w2 ⟨rfl, hb2⟩
        obtain ⟨hc, hfr⟩ := bcell hb2
        go_wp2_with fail
        refine (key32_calls _ _).mono ?_; rintro e w3 ⟨rfl, hb3⟩
        go_wp2_with fail
        refine (ofKey32_calls _ _).mono ?_; rintro e w4 ⟨rfl, hb4⟩
        go_wp2_with fail
        go_ret
        exact ⟨rfl, below2 (below2 (below2 (below_alloc hb1 _) hb2) hb3) hb4⟩

def down32 (a : Int) : Int := bif isNan32 a then one32 else Go.bits .xor .u32 (up32 (Go.bits .xor .u32 a 2147483648)) 2147483648
theorem down32_calls (a : Int) (w : World) : Calls Try.prog 62 #[.int .u32 a] w fun e w' => e = .returned (.int .u32 (down32 a)) ∧ Below w.heap.size w w' := by
  have hf0 : ∀ w, (Instr.field 88 (.agg #[.int .u32 2147483648, .int .u32 2139095040, .int .u32 2143289344, .int .u32 8388608]) 0).run Try.prog w = .ok (.int .u32 2147483648) w := fun _ => by kernel_rfl
  have hf2 : ∀ w, (Instr.field 88 (.agg #[.int .u32 2147483648, .int .u32 2139095040, .int .u32 2143289344, .int .u32 8388608]) 2).run Try.prog w = .ok (.int .u32 2143289344) w := fun _ => by kernel_rfl
  unfold down32
  cases ha : isNan32 a with
  | true =>
    have Ha := Aside0.mk ha
    clear ha
    go_enter Try.func62, Try.ntmps62
    go_wp2_with fail
    refine (nan32_is Ha.out _).mono ?_; rintro e w1 ⟨rfl, hb1⟩
    go_wp2_with fail
    refine (form32 _).mono ?_; rintro e w2 ⟨rfl, hb2⟩
    go_wp2_with fail
    go_ret
    exact ⟨rfl, below2 hb1 hb2⟩
  | false =>
    have Ha := Aside0.mk ha
    clear ha
    go_enter Try.func62, Try.ntmps62
    go_wp2_with fail
    refine (nan32_is Ha.out _).mono ?_; rintro e w1 ⟨rfl, hb1⟩
    go_wp2_with fail
    refine (form32 _).mono ?_; rintro e w2 ⟨rfl, hb2⟩
    go_wp2_with fail
    refine (up32_calls _ _).mono ?_; rintro e w3 ⟨rfl, hb3⟩
    go_wp2_with fail
    go_ret
    exact ⟨rfl, below2 (below2 hb1 hb2) hb3⟩

end Go.Proofs.Ytfloeiagdegpjaa.Fl
