/- Rounding to whole numbers, integers, narrowed and widened ones of package float. -/
import Derived.Test.YtfloeiagdegpjaaDoorFd
namespace Go.Proofs.YtfloeiagdegpjaaDoor.Fl
open Go.RowKit Go.Proofs.YtfloeiagdegpjaaDoorW.PrintWords Go.Proofs.YtfloeiagdegpjaaDoorW.PrintMore Go.Proofs.YtfloeiagdegpjaaDoorW.PrintLast
set_option linter.unusedVariables false
set_option linter.unusedSimpArgs false
attribute [local go_sem] ext93 ext86 ext85 ext110 max2_int min2_int max_two min_two
attribute [local irreducible] Go.bits Ieee.Format.order

def goRound (x : Nat) : Nat :=
  bif decide (Go.bits .and .u64 (x / 4503599627370496) 2047 < 1023) then
    bif Go.bits .and .u64 (x / 4503599627370496) 2047 == 1022 then (Go.bits .or .u64 (Go.bits .and .u64 x 9223372036854775808) 4607182418800017408).toNat
    else (Go.bits .and .u64 x 9223372036854775808).toNat
  else bif decide (Go.bits .and .u64 (x / 4503599627370496) 2047 < 1075) then
    (Go.bits .andNot .u64 (IntKind.u64.wrap (x + 2251799813685248 / 2 ^ (Go.bits .and .u64 (x / 4503599627370496) 2047 - 1023).toNat)) (4503599627370495 / 2 ^ (Go.bits .and .u64 (x / 4503599627370496) 2047 - 1023).toNat)).toNat
  else x

theorem round101 (x : Nat) (w : World) : Calls Tryd.prog 52 #[.float .f64 x] w fun e w' => e = .returned (.float .f64 (goRound x)) ∧ w = w' := by
  go_enter Tryd.func52, Tryd.ntmps52
  go_wp2
  all_goals (go_ret; exact ⟨by simp only [goRound, *, cond_true, cond_false, decide_true, decide_false, Int.not_lt, decide_eq_false]; first | rfl | (simp only [*, decide_eq_false (Int.not_lt.2 ‹1023 ≤ _›), cond_false, decide_true, cond_true]; first | rfl | (simp only [*, decide_eq_false (Int.not_lt.2 ‹1075 ≤ _›), cond_false]; rfl)), rfl⟩)

/-- What Go's own rounding words give of what is no NaN. -/
def integ (way : Ieee.Toward) (x : Nat) : Nat := Ieee.double.write ((Ieee.double.read x).integral way)

theorem toIntegral_num (name : String) (way : Ieee.Toward) (x : Nat) (h : (Ieee.double.read x).isNaN = false) {P : Program} (w : World) :
    (Extern.MathFloor.toIntegral name way #[.float .f64 x]).run P w = .ok (.float .f64 (integ way x)) w := by
  have hd : FloatKind.f64.decode x = Ieee.double.read x := rfl
  unfold integ
  rw [← hd] at h ⊢
  conv in Extern.MathFloor.toIntegral _ _ _ => whnf
  generalize FloatKind.f64.decode x = d at *
  cases d with
  | nan _ _ => cases h
  | number _ _ _ => rfl
  | infinity _ => rfl
theorem asked (q : Question) (hq : q.forced = false) (F : Nat → Nat) {P : Program} :
    ∃ g : World → Nat, ∀ w : World, (choose q >>= fun k => (pure (.float .f64 (F k)) : Sem Value)).run P w = .ok (.float .f64 (g w)) w.drew :=
  ⟨fun w => F (q.cut (w.tape w.drawn q)), fun w => by simp [hq]⟩
theorem toIntegral_nan (name : String) (way : Ieee.Toward) (x : Nat) (h : (Ieee.double.read x).isNaN = true) {P : Program} :
    (∀ w : World, (Extern.MathFloor.toIntegral name way #[.float .f64 x]).run P w = .ok (.float .f64 x) w) ∨
    (∃ g : World → Nat, ∀ w : World, (Extern.MathFloor.toIntegral name way #[.float .f64 x]).run P w = .ok (.float .f64 (g w)) w.drew) := by
  have hd : FloatKind.f64.decode x = Ieee.double.read x := rfl
  rw [← hd] at h
  obtain ⟨S, hS⟩ : ∃ S : Sem Value, S = Extern.MathFloor.toIntegral name way #[.float .f64 x] := ⟨_, rfl⟩
  rw [← hS]
  conv at hS in Extern.MathFloor.toIntegral _ _ _ => whnf
  generalize FloatKind.f64.decode x = d at *
  cases d with
  | number _ _ _ => cases h
  | infinity _ => cases h
  | nan s t =>
    rw [hS]
    by_cases hq : FloatKind.f64.format.quiet t = t
    · left; intro w; dsimp only; rw [if_pos hq]; rfl
    · right
      dsimp only
      rw [if_neg hq]
      exact asked _ rfl _

theorem ext100 (x : Nat) (h : (Ieee.double.read x).isNaN = false) (w : World) : (callFunc 51 #[.float .f64 x]).run Tryd.prog w = .ok (.value (.float .f64 (integ .even x))) w := by
  rw [run_callFunc_extern (e := Extern.MathFloor.toIntegral "math.RoundToEven" .even) Tryd.func51 (by kernel_rfl) (by kernel_rfl) (by kernel_rfl) (by kernel_rfl), toIntegral_num _ _ _ h]; rfl
theorem ext100_nan (x : Nat) (h : (Ieee.double.read x).isNaN = true) :
    (∀ w : World, (callFunc 51 #[.float .f64 x]).run Tryd.prog w = .ok (.value (.float .f64 x)) w) ∨ (∃ g : World → Nat, ∀ w : World, (callFunc 51 #[.float .f64 x]).run Tryd.prog w = .ok (.value (.float .f64 (g w))) w.drew) := by
  rcases toIntegral_nan (P := Tryd.prog) "math.RoundToEven" .even x h with h1 | ⟨g, h1⟩
  · left; intro w
    rw [run_callFunc_extern (e := Extern.MathFloor.toIntegral "math.RoundToEven" .even) Tryd.func51 (by kernel_rfl) (by kernel_rfl) (by kernel_rfl) (by kernel_rfl), h1]; rfl
  · right; refine ⟨g, fun w => ?_⟩
    rw [run_callFunc_extern (e := Extern.MathFloor.toIntegral "math.RoundToEven" .even) Tryd.func51 (by kernel_rfl) (by kernel_rfl) (by kernel_rfl) (by kernel_rfl), h1]; rfl

theorem ext140 (x : Nat) (h : (Ieee.double.read x).isNaN = false) (w : World) : (callFunc 62 #[.float .f64 x]).run Tryd.prog w = .ok (.value (.float .f64 (integ .zero x))) w := by
  rw [run_callFunc_extern (e := Extern.MathFloor.toIntegral "math.archTrunc" .zero) Tryd.func62 (by kernel_rfl) (by kernel_rfl) (by kernel_rfl) (by kernel_rfl), toIntegral_num _ _ _ h]; rfl
theorem ext140_nan (x : Nat) (h : (Ieee.double.read x).isNaN = true) :
    (∀ w : World, (callFunc 62 #[.float .f64 x]).run Tryd.prog w = .ok (.value (.float .f64 x)) w) ∨ (∃ g : World → Nat, ∀ w : World, (callFunc 62 #[.float .f64 x]).run Tryd.prog w = .ok (.value (.float .f64 (g w))) w.drew) := by
  rcases toIntegral_nan (P := Tryd.prog) "math.archTrunc" .zero x h with h1 | ⟨g, h1⟩
  · left; intro w
    rw [run_callFunc_extern (e := Extern.MathFloor.toIntegral "math.archTrunc" .zero) Tryd.func62 (by kernel_rfl) (by kernel_rfl) (by kernel_rfl) (by kernel_rfl), h1]; rfl
  · right; refine ⟨g, fun w => ?_⟩
    rw [run_callFunc_extern (e := Extern.MathFloor.toIntegral "math.archTrunc" .zero) Tryd.func62 (by kernel_rfl) (by kernel_rfl) (by kernel_rfl) (by kernel_rfl), h1]; rfl

theorem way102 (x : Nat) (h : (Ieee.double.read x).isNaN = false) (w : World) : Calls Tryd.prog 53 #[.float .f64 x] w fun e w' => e = .returned (.float .f64 (integ .zero x)) ∧ w = w' := by
  have hx := ext140 x h
  clear h
  go_enter Tryd.func53, Tryd.ntmps53
  go_wp2_with (simp only [hx])
  go_ret
  exact ⟨rfl, rfl⟩
theorem way102_nan (x : Nat) (h : (Ieee.double.read x).isNaN = true) (w : World) : Calls Tryd.prog 53 #[.float .f64 x] w fun e w' => ∃ r, e = .returned (.float .f64 r) ∧ ∃ n, w' = w.drewN n := by
  rcases ext140_nan x h with hx | ⟨g, hx⟩
  · clear h
    go_enter Tryd.func53, Tryd.ntmps53
    go_wp2_with (simp only [hx])
    go_ret
    exact ⟨_, rfl, 0, rfl⟩
  · clear h
    go_enter Tryd.func53, Tryd.ntmps53
    go_wp2_with (simp only [hx])
    go_ret
    exact ⟨_, rfl, 1, rfl⟩

theorem ext142 (x : Nat) (h : (Ieee.double.read x).isNaN = false) (w : World) : (callFunc 64 #[.float .f64 x]).run Tryd.prog w = .ok (.value (.float .f64 (integ .down x))) w := by
  rw [run_callFunc_extern (e := Extern.MathFloor.toIntegral "math.archFloor" .down) Tryd.func64 (by kernel_rfl) (by kernel_rfl) (by kernel_rfl) (by kernel_rfl), toIntegral_num _ _ _ h]; rfl
theorem ext142_nan (x : Nat) (h : (Ieee.double.read x).isNaN = true) :
    (∀ w : World, (callFunc 64 #[.float .f64 x]).run Tryd.prog w = .ok (.value (.float .f64 x)) w) ∨ (∃ g : World → Nat, ∀ w : World, (callFunc 64 #[.float .f64 x]).run Tryd.prog w = .ok (.value (.float .f64 (g w))) w.drew) := by
  rcases toIntegral_nan (P := Tryd.prog) "math.archFloor" .down x h with h1 | ⟨g, h1⟩
  · left; intro w
    rw [run_callFunc_extern (e := Extern.MathFloor.toIntegral "math.archFloor" .down) Tryd.func64 (by kernel_rfl) (by kernel_rfl) (by kernel_rfl) (by kernel_rfl), h1]; rfl
  · right; refine ⟨g, fun w => ?_⟩
    rw [run_callFunc_extern (e := Extern.MathFloor.toIntegral "math.archFloor" .down) Tryd.func64 (by kernel_rfl) (by kernel_rfl) (by kernel_rfl) (by kernel_rfl), h1]; rfl

theorem way103 (x : Nat) (h : (Ieee.double.read x).isNaN = false) (w : World) : Calls Tryd.prog 54 #[.float .f64 x] w fun e w' => e = .returned (.float .f64 (integ .down x)) ∧ w = w' := by
  have hx := ext142 x h
  clear h
  go_enter Tryd.func54, Tryd.ntmps54
  go_wp2_with (simp only [hx])
  go_ret
  exact ⟨rfl, rfl⟩
theorem way103_nan (x : Nat) (h : (Ieee.double.read x).isNaN = true) (w : World) : Calls Tryd.prog 54 #[.float .f64 x] w fun e w' => ∃ r, e = .returned (.float .f64 r) ∧ ∃ n, w' = w.drewN n := by
  rcases ext142_nan x h with hx | ⟨g, hx⟩
  · clear h
    go_enter Tryd.func54, Tryd.ntmps54
    go_wp2_with (simp only [hx])
    go_ret
    exact ⟨_, rfl, 0, rfl⟩
  · clear h
    go_enter Tryd.func54, Tryd.ntmps54
    go_wp2_with (simp only [hx])
    go_ret
    exact ⟨_, rfl, 1, rfl⟩

theorem ext144 (x : Nat) (h : (Ieee.double.read x).isNaN = false) (w : World) : (callFunc 66 #[.float .f64 x]).run Tryd.prog w = .ok (.value (.float .f64 (integ .up x))) w := by
  rw [run_callFunc_extern (e := Extern.MathFloor.toIntegral "math.archCeil" .up) Tryd.func66 (by kernel_rfl) (by kernel_rfl) (by kernel_rfl) (by kernel_rfl), toIntegral_num _ _ _ h]; rfl
theorem ext144_nan (x : Nat) (h : (Ieee.double.read x).isNaN = true) :
    (∀ w : World, (callFunc 66 #[.float .f64 x]).run Tryd.prog w = .ok (.value (.float .f64 x)) w) ∨ (∃ g : World → Nat, ∀ w : World, (callFunc 66 #[.float .f64 x]).run Tryd.prog w = .ok (.value (.float .f64 (g w))) w.drew) := by
  rcases toIntegral_nan (P := Tryd.prog) "math.archCeil" .up x h with h1 | ⟨g, h1⟩
  · left; intro w
    rw [run_callFunc_extern (e := Extern.MathFloor.toIntegral "math.archCeil" .up) Tryd.func66 (by kernel_rfl) (by kernel_rfl) (by kernel_rfl) (by kernel_rfl), h1]; rfl
  · right; refine ⟨g, fun w => ?_⟩
    rw [run_callFunc_extern (e := Extern.MathFloor.toIntegral "math.archCeil" .up) Tryd.func66 (by kernel_rfl) (by kernel_rfl) (by kernel_rfl) (by kernel_rfl), h1]; rfl

theorem way104 (x : Nat) (h : (Ieee.double.read x).isNaN = false) (w : World) : Calls Tryd.prog 55 #[.float .f64 x] w fun e w' => e = .returned (.float .f64 (integ .up x)) ∧ w = w' := by
  have hx := ext144 x h
  clear h
  go_enter Tryd.func55, Tryd.ntmps55
  go_wp2_with (simp only [hx])
  go_ret
  exact ⟨rfl, rfl⟩
theorem way104_nan (x : Nat) (h : (Ieee.double.read x).isNaN = true) (w : World) : Calls Tryd.prog 55 #[.float .f64 x] w fun e w' => ∃ r, e = .returned (.float .f64 r) ∧ ∃ n, w' = w.drewN n := by
  rcases ext144_nan x h with hx | ⟨g, hx⟩
  · clear h
    go_enter Tryd.func55, Tryd.ntmps55
    go_wp2_with (simp only [hx])
    go_ret
    exact ⟨_, rfl, 0, rfl⟩
  · clear h
    go_enter Tryd.func55, Tryd.ntmps55
    go_wp2_with (simp only [hx])
    go_ret
    exact ⟨_, rfl, 1, rfl⟩

/-- Round's own answer of what is no NaN, by the mode. -/
def rnd (x : Nat) (mode : Int) : Nat := bif mode == 0 then integ .even x else bif mode == 1 then goRound x else bif mode == 2 then integ .zero x else bif mode == 3 then integ .down x else integ .up x

theorem round_bad (b mode : Int) (hm : mode < 0 ∨ 4 < mode) (w : World) : Calls Tryd.prog 38 #[.int .u64 b, .int .i64 mode] w fun e w' => e = .returned (.tuple #[.int .u64 0, .int .i64 31]) ∧ w = w' := by
  have h0 : (mode == 0) = false := beq_eq_false_iff_ne.2 (by omega)
  have h1 : (mode == 1) = false := beq_eq_false_iff_ne.2 (by omega)
  have h2 : (mode == 2) = false := beq_eq_false_iff_ne.2 (by omega)
  have h3 : (mode == 3) = false := beq_eq_false_iff_ne.2 (by omega)
  have h4 : (mode == 4) = false := beq_eq_false_iff_ne.2 (by omega)
  clear hm
  go_enter Tryd.func38, Tryd.ntmps38
  go_wp2
  go_ret2
  exact ⟨rfl, rfl⟩

theorem round_m0 (b : Int) (ha : isNan64 b = false) (h : (Ieee.double.read b.toNat).isNaN = false) (w : World) : Calls Tryd.prog 38 #[.int .u64 b, .int .i64 0] w fun e w' => e = .returned (.tuple #[.int .u64 (integ .even b.toNat : Nat), .int .i64 0]) ∧ Below w.heap.size w w' := by
  have Ha := Aside0.mk ha
  have hx := ext100 b.toNat h
  clear ha h
  go_enter Tryd.func38, Tryd.ntmps38
  go_wp2_with (first | (go_at_call 43; refine (nan64_is Ha.out _).mono ?_; rintro e w1 ⟨rfl, hb1⟩) | simp only [hx])
  go_ret2
  exact ⟨rfl, hb1⟩

theorem round_m0_nan (b : Int) (ha : isNan64 b = true) (h : (Ieee.double.read b.toNat).isNaN = true) (w : World) : Calls Tryd.prog 38 #[.int .u64 b, .int .i64 0] w fun e w' => e = .returned (.tuple #[.int .u64 one64, .int .i64 0]) ∧ Below w.heap.size w w' := by
  have Ha := Aside0.mk ha
  rcases ext100_nan _ h with hx | ⟨g, hx⟩
  · clear ha h
    go_enter Tryd.func38, Tryd.ntmps38
    go_wp2_with (first | (go_at_call 43; refine (nan64_is Ha.out _).mono ?_; rintro e w1 ⟨rfl, hb1⟩) | simp only [hx])
    go_ret2
    exact ⟨rfl, hb1⟩
  · clear ha h
    go_enter Tryd.func38, Tryd.ntmps38
    go_wp2_with (first | (go_at_call 43; refine (nan64_is Ha.out _).mono ?_; rintro e w1 ⟨rfl, hb1⟩) | simp only [hx])
    go_ret2
    exact ⟨rfl, below2 (below_drew1 (Below.refl _ _)) hb1⟩

theorem round_m1 (b : Int) (ha : isNan64 b = false) (h : (Ieee.double.read b.toNat).isNaN = false) (w : World) : Calls Tryd.prog 38 #[.int .u64 b, .int .i64 1] w fun e w' => e = .returned (.tuple #[.int .u64 (goRound b.toNat : Nat), .int .i64 0]) ∧ Below w.heap.size w w' := by
  have Ha := Aside0.mk ha
  clear ha h
  go_enter Tryd.func38, Tryd.ntmps38
  go_wp2_with (first | (go_at_call 43; refine (nan64_is Ha.out _).mono ?_; rintro e w1 ⟨rfl, hb1⟩) | (go_at_call 52; refine (round101 _ _).mono ?_; rintro e w1 ⟨rfl, rfl⟩))
  go_ret2
  exact ⟨rfl, hb1⟩

theorem round_m1_nan (b : Int) (ha : isNan64 b = true) (w : World) : Calls Tryd.prog 38 #[.int .u64 b, .int .i64 1] w fun e w' => e = .returned (.tuple #[.int .u64 one64, .int .i64 0]) ∧ Below w.heap.size w w' := by
  have Ha := Aside0.mk ha
  clear ha
  go_enter Tryd.func38, Tryd.ntmps38
  go_wp2_with (first | (go_at_call 43; refine (nan64_is Ha.out _).mono ?_; rintro e w1 ⟨rfl, hb1⟩) | (go_at_call 52; refine (round101 _ _).mono ?_; rintro e w1 ⟨rfl, rfl⟩))
  go_ret2
  exact ⟨rfl, hb1⟩

theorem round_m2 (b : Int) (ha : isNan64 b = false) (h : (Ieee.double.read b.toNat).isNaN = false) (w : World) : Calls Tryd.prog 38 #[.int .u64 b, .int .i64 2] w fun e w' => e = .returned (.tuple #[.int .u64 (integ .zero b.toNat : Nat), .int .i64 0]) ∧ Below w.heap.size w w' := by
  have Ha := Aside0.mk ha
  have Hn := Aside0.mk h
  clear ha h
  go_enter Tryd.func38, Tryd.ntmps38
  go_wp2_with (first | (go_at_call 43; refine (nan64_is Ha.out _).mono ?_; rintro e w1 ⟨rfl, hb1⟩) | (go_at_call 53; refine (way102 _ Hn.out _).mono ?_; rintro e w1 ⟨rfl, rfl⟩))
  go_ret2
  exact ⟨rfl, hb1⟩

theorem round_m2_nan (b : Int) (ha : isNan64 b = true) (h : (Ieee.double.read b.toNat).isNaN = true) (w : World) : Calls Tryd.prog 38 #[.int .u64 b, .int .i64 2] w fun e w' => e = .returned (.tuple #[.int .u64 one64, .int .i64 0]) ∧ Below w.heap.size w w' := by
  have Ha := Aside0.mk ha
  have Hn := Aside0.mk h
  clear ha h
  go_enter Tryd.func38, Tryd.ntmps38
  go_wp2_with (first | (go_at_call 43; refine (nan64_is Ha.out _).mono ?_; rintro e w1 ⟨rfl, hb1⟩) | (go_at_call 53; refine (way102_nan _ Hn.out _).mono ?_; rintro e w1 ⟨r, rfl, n, rfl⟩))
  go_ret2
  exact ⟨rfl, below2 (pw_below_drewN (Below.refl _ _) n) hb1⟩

theorem round_m3 (b : Int) (ha : isNan64 b = false) (h : (Ieee.double.read b.toNat).isNaN = false) (w : World) : Calls Tryd.prog 38 #[.int .u64 b, .int .i64 3] w fun e w' => e = .returned (.tuple #[.int .u64 (integ .down b.toNat : Nat), .int .i64 0]) ∧ Below w.heap.size w w' := by
  have Ha := Aside0.mk ha
  have Hn := Aside0.mk h
  clear ha h
  go_enter Tryd.func38, Tryd.ntmps38
  go_wp2_with (first | (go_at_call 43; refine (nan64_is Ha.out _).mono ?_; rintro e w1 ⟨rfl, hb1⟩) | (go_at_call 54; refine (way103 _ Hn.out _).mono ?_; rintro e w1 ⟨rfl, rfl⟩))
  go_ret2
  exact ⟨rfl, hb1⟩

theorem round_m3_nan (b : Int) (ha : isNan64 b = true) (h : (Ieee.double.read b.toNat).isNaN = true) (w : World) : Calls Tryd.prog 38 #[.int .u64 b, .int .i64 3] w fun e w' => e = .returned (.tuple #[.int .u64 one64, .int .i64 0]) ∧ Below w.heap.size w w' := by
  have Ha := Aside0.mk ha
  have Hn := Aside0.mk h
  clear ha h
  go_enter Tryd.func38, Tryd.ntmps38
  go_wp2_with (first | (go_at_call 43; refine (nan64_is Ha.out _).mono ?_; rintro e w1 ⟨rfl, hb1⟩) | (go_at_call 54; refine (way103_nan _ Hn.out _).mono ?_; rintro e w1 ⟨r, rfl, n, rfl⟩))
  go_ret2
  exact ⟨rfl, below2 (pw_below_drewN (Below.refl _ _) n) hb1⟩

theorem round_m4 (b : Int) (ha : isNan64 b = false) (h : (Ieee.double.read b.toNat).isNaN = false) (w : World) : Calls Tryd.prog 38 #[.int .u64 b, .int .i64 4] w fun e w' => e = .returned (.tuple #[.int .u64 (integ .up b.toNat : Nat), .int .i64 0]) ∧ Below w.heap.size w w' := by
  have Ha := Aside0.mk ha
  have Hn := Aside0.mk h
  clear ha h
  go_enter Tryd.func38, Tryd.ntmps38
  go_wp2_with (first | (go_at_call 43; refine (nan64_is Ha.out _).mono ?_; rintro e w1 ⟨rfl, hb1⟩) | (go_at_call 55; refine (way104 _ Hn.out _).mono ?_; rintro e w1 ⟨rfl, rfl⟩))
  go_ret2
  exact ⟨rfl, hb1⟩

theorem round_m4_nan (b : Int) (ha : isNan64 b = true) (h : (Ieee.double.read b.toNat).isNaN = true) (w : World) : Calls Tryd.prog 38 #[.int .u64 b, .int .i64 4] w fun e w' => e = .returned (.tuple #[.int .u64 one64, .int .i64 0]) ∧ Below w.heap.size w w' := by
  have Ha := Aside0.mk ha
  have Hn := Aside0.mk h
  clear ha h
  go_enter Tryd.func38, Tryd.ntmps38
  go_wp2_with (first | (go_at_call 43; refine (nan64_is Ha.out _).mono ?_; rintro e w1 ⟨rfl, hb1⟩) | (go_at_call 55; refine (way104_nan _ Hn.out _).mono ?_; rintro e w1 ⟨r, rfl, n, rfl⟩))
  go_ret2
  exact ⟨rfl, below2 (pw_below_drewN (Below.refl _ _) n) hb1⟩

end Go.Proofs.YtfloeiagdegpjaaDoor.Fl
