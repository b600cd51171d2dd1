/- Sums, products, quotients, roots, fused ones, comparisons and conversions of package float: what each call comes to, by Ieee's own functions. -/
import Derived.Test.YtfloeiagdegpjaaFb
import Derived.Test.YtfloeiagdegpjaaPc
import Derived.Test.YtfloeiagdegpjaaMw
namespace Go.Proofs.Ytfloeiagdegpjaa.Fl
open Go.RowKit Go.Proofs.YtfloeiagdegpjaaW.PrintWords Go.Proofs.YtfloeiagdegpjaaW.PrintMore
set_option linter.unusedVariables false
set_option linter.unusedSimpArgs false
attribute [local go_sem] ext93 ext86 ext85 ext110 max2_int min2_int

def res64 (o : Option Nat) : Int := match o with | some r => r | none => one64
def res32 (o : Option Nat) : Int := match o with | some r => r | none => one32

theorem tld64_nan {r : Nat} : tld64 r = bif (Ieee.double.read r).isNaN then one64 else r := by
  unfold tld64
  have e : (FloatKind.f64.format.order r r != some .eq) = (Ieee.double.read r).isNaN := by
    show ((Ieee.double.read r).order (Ieee.double.read r) != some .eq) = _
    simp only [bne, _root_.Fl.order_self, Bool.not_not]
  rw [e]
theorem tld32_nan {r : Nat} : tld32 r = bif (Ieee.single.read r).isNaN then one32 else r := by
  unfold tld32
  have e : (FloatKind.f32.format.order r r != some .eq) = (Ieee.single.read r).isNaN := by
    show ((Ieee.single.read r).order (Ieee.single.read r) != some .eq) = _
    simp only [bne, _root_.Fl.order_self, Bool.not_not]
  rw [e]

theorem tld64_res {o : Option Nat} {r : Nat} (h : Res .f64 o r) (ho : ∀ x, o = some x → (Ieee.double.read x).isNaN = false) : tld64 r = res64 o := by
  rw [tld64_nan]
  cases o with
  | some x => have hx : r = x := h; subst hx; rw [ho _ rfl]; rfl
  | none => have hx : (Ieee.double.read r).isNaN = true := h; rw [hx]; rfl
theorem tld32_res {o : Option Nat} {r : Nat} (h : Res .f32 o r) (ho : ∀ x, o = some x → (Ieee.single.read x).isNaN = false) : tld32 r = res32 o := by
  rw [tld32_nan]
  cases o with
  | some x => have hx : r = x := h; subst hx; rw [ho _ rfl]; rfl
  | none => have hx : (Ieee.single.read r).isNaN = true := h; rw [hx]; rfl

theorem below_drewN' {w w' : World} (h : ∃ n, w' = w.drewN n) : Below w.heap.size w w' := by
  obtain ⟨n, rfl⟩ := h; exact pw_below_drewN (Below.refl _ _) n
theorem ret_u64 {a b : Int} (h : a = b) : Ending.returned (.int .u64 a) = .returned (.int .u64 b) := by rw [h]
theorem ret_u32 {a b : Int} (h : a = b) : Ending.returned (.int .u32 a) = .returned (.int .u32 b) := by rw [h]

/-- A binary32's number as a binary64. -/
def wid (b : Nat) : Nat := Ieee.double.write (Ieee.single.read b)

theorem wid_conv {b : Nat} (h : (Ieee.single.read b).isNaN = false) : floatToFloatBits .f32 b .f64 = some (wid b) := by
  rw [_root_.Fl.read_nan _root_.Fl.good_single] at h
  have h := of_decide_eq_false h
  unfold floatToFloatBits
  rw [if_neg (by decide)]
  rcases Nat.lt_or_ge (b % Ieee.single.signWeight) Ieee.single.infRung with h1 | h1
  · obtain ⟨r, hr, _, hw⟩ := _root_.Fl.widen_fin h1
    obtain ⟨m, p, hm, _⟩ := _root_.Fl.read_fin _root_.Fl.good_single b h1
    have e : FloatKind.f32.decode b = .number (b / Ieee.single.signWeight % 2 == 1) m p := hm
    rw [e]
    have e2 : FloatKind.f64.encode (.number (b / Ieee.single.signWeight % 2 == 1) m p) = Ieee.double.word (b / Ieee.single.signWeight % 2 == 1) r := by
      rw [← hm] ; exact hw
    simp only [e2]
    obtain ⟨m', p', hm', _⟩ := _root_.Fl.read_word_fin _root_.Fl.good_double (b / Ieee.single.signWeight % 2 == 1) hr
    have e3 : FloatKind.f64.decode (Ieee.double.word (b / Ieee.single.signWeight % 2 == 1) r) = .number (b / Ieee.single.signWeight % 2 == 1) m' p' := hm'
    rw [e3]
    simp only [Ieee.Datum.isInfinity, Bool.false_eq_true, if_false, wid, hw]
  · have hi := _root_.Fl.read_infinity _root_.Fl.good_single b (by omega)
    have e : FloatKind.f32.decode b = .infinity (b / Ieee.single.signWeight % 2 == 1) := hi
    rw [e]
    simp only [wid, hi]; rfl

section
variable {P : Program} (w : World)
theorem run_convert_nan (src dst : TypeId) (s k : FloatKind) (b : Nat) (hs : (P.underlying src).isSome = true) (hd : P.underlying dst = some (.float k)) (hne : s ≠ k) (h : (s.decode b).isNaN = true) :
    (convert src dst (.float s b)).run P w = .ok (.float k ((Question.nanConv k b).cut (w.tape w.drawn (.nanConv k b)))) w.drew := by
  obtain ⟨u, hs'⟩ := Option.isSome_iff_exists.1 hs
  cases hd' : s.decode b with
  | number _ _ _ => rw [hd'] at h; cases h
  | infinity _ => rw [hd'] at h; cases h
  | nan _ _ => cases u <;> simp [convert, run_underlying hs', run_underlying hd, Conv.floatToFloat, hne, hd', Question.forced]
end

theorem cut_conv (k : FloatKind) (x t : Nat) : (k.format.read ((Question.nanConv k x).cut t)).isNaN = true := by
  have := cut_nan k x x t
  cases k <;> exact this

theorem value64 (a : Int) (w : World) : Calls Try.prog 111 #[.int .u64 a] w fun e w' => e = .returned (.float .f64 a.toNat) ∧ w = w' := by
  go_enter Try.func111, Try.ntmps111
  go_wp2_with (first | (go_at_call 121; refine (wide64 _).mono ?_; rintro e w' ⟨rfl, rfl⟩) | go_in)
  go_ret
  exact ⟨rfl, rfl⟩

theorem value32 (a : Int) (w : World) (h : (Ieee.single.read a.toNat).isNaN = false) : Calls Try.prog 113 #[.int .u32 a] w fun e w' => e = .returned (.float .f64 (wid a.toNat)) ∧ w = w' := by
  have hc : ∀ w, (convert 84 85 (.float .f32 a.toNat)).run Try.prog w = .ok (.float .f64 (wid a.toNat)) w := fun w => run_convert_float_float w 84 85 .f32 .f64 a.toNat _ (by rw [Try.underlying84]; rfl) Try.underlying85 (wid_conv h)
  clear h
  go_enter Try.func113, Try.ntmps113
  go_wp2_with (first | (go_at_call 132; refine (wide32 _).mono ?_; rintro e w' ⟨rfl, rfl⟩) | go_in | simp only [hc])
  go_ret
  exact ⟨rfl, rfl⟩

theorem value32_nan (a : Int) (w : World) (h : (Ieee.single.read a.toNat).isNaN = true) : Calls Try.prog 113 #[.int .u32 a] w fun e w' => ∃ r, e = .returned (.float .f64 r) ∧ (Ieee.double.read r).isNaN = true ∧ ∃ n, w' = w.drewN n := by
  have hc : ∀ w, (convert 84 85 (.float .f32 a.toNat)).run Try.prog w = .ok (.float .f64 ((Question.nanConv .f64 a.toNat).cut (w.tape w.drawn (.nanConv .f64 a.toNat)))) w.drew := fun w => run_convert_nan w 84 85 .f32 .f64 a.toNat (by rw [Try.underlying84]; rfl) Try.underlying85 (by decide) h
  clear h
  go_enter Try.func113, Try.ntmps113
  go_wp2_with (first | (go_at_call 132; refine (wide32 _).mono ?_; rintro e w' ⟨rfl, rfl⟩) | go_in | simp only [hc])
  go_ret
  exact ⟨_, rfl, cut_conv .f64 _ _, 1, rfl⟩


theorem add64 (a b : Int) (w : World) : Calls Try.prog 75 #[.int .u64 a, .int .u64 b] w fun e w' => e = .returned (.int .u64 (res64 (Ieee.double.add a.toNat b.toNat))) ∧ ∃ n, w' = w.drewN n := by
  go_enter Try.func75, Try.ntmps75
  go_wp2_with (first | (go_at_call 121; refine (wide64 _).mono ?_; rintro e w' ⟨rfl, rfl⟩) | (go_at_call 125; refine (addf64 _ _ _).mono ?_; rintro e w' ⟨r, rfl, hr, n, rfl⟩) | (go_at_call 122; refine (told64 _ _).mono ?_; rintro e w' ⟨rfl, rfl⟩) | go_in)
  go_ret
  exact ⟨ret_u64 (tld64_res hr (fun _ => _root_.Fl.add_nan _root_.Fl.good_double)), n, rfl⟩

theorem sub64 (a b : Int) (w : World) : Calls Try.prog 77 #[.int .u64 a, .int .u64 b] w fun e w' => e = .returned (.int .u64 (res64 (Ieee.double.sub a.toNat b.toNat))) ∧ ∃ n, w' = w.drewN n := by
  go_enter Try.func77, Try.ntmps77
  go_wp2_with (first | (go_at_call 121; refine (wide64 _).mono ?_; rintro e w' ⟨rfl, rfl⟩) | (go_at_call 128; refine (subf64 _ _ _).mono ?_; rintro e w' ⟨r, rfl, hr, n, rfl⟩) | (go_at_call 122; refine (told64 _ _).mono ?_; rintro e w' ⟨rfl, rfl⟩) | go_in)
  go_ret
  exact ⟨ret_u64 (tld64_res hr (fun _ => _root_.Fl.sub_nan _root_.Fl.good_double)), n, rfl⟩

theorem mul64 (a b : Int) (w : World) : Calls Try.prog 76 #[.int .u64 a, .int .u64 b] w fun e w' => e = .returned (.int .u64 (res64 (Ieee.double.mul a.toNat b.toNat))) ∧ ∃ n, w' = w.drewN n := by
  go_enter Try.func76, Try.ntmps76
  go_wp2_with (first | (go_at_call 121; refine (wide64 _).mono ?_; rintro e w' ⟨rfl, rfl⟩) | (go_at_call 130; refine (mulf64 _ _ _).mono ?_; rintro e w' ⟨r, rfl, hr, n, rfl⟩) | (go_at_call 122; refine (told64 _ _).mono ?_; rintro e w' ⟨rfl, rfl⟩) | go_in)
  go_ret
  exact ⟨ret_u64 (tld64_res hr (fun _ => _root_.Fl.mul_nan _root_.Fl.good_double)), n, rfl⟩

theorem div64 (a b : Int) (w : World) : Calls Try.prog 25 #[.int .u64 a, .int .u64 b] w fun e w' => e = .returned (.int .u64 (res64 (Ieee.double.div a.toNat b.toNat))) ∧ ∃ n, w' = w.drewN n := by
  go_enter Try.func25, Try.ntmps25
  go_wp2_with (first | (go_at_call 121; refine (wide64 _).mono ?_; rintro e w' ⟨rfl, rfl⟩) | (go_at_call 91; refine (divf64 _ _ _).mono ?_; rintro e w' ⟨r, rfl, hr, n, rfl⟩) | (go_at_call 122; refine (told64 _ _).mono ?_; rintro e w' ⟨rfl, rfl⟩) | go_in)
  go_ret
  exact ⟨ret_u64 (tld64_res hr (fun _ => _root_.Fl.div_nan _root_.Fl.good_double)), n, rfl⟩

theorem add32 (a b : Int) (w : World) : Calls Try.prog 64 #[.int .u32 a, .int .u32 b] w fun e w' => e = .returned (.int .u32 (res32 (Ieee.single.add a.toNat b.toNat))) ∧ ∃ n, w' = w.drewN n := by
  go_enter Try.func64, Try.ntmps64
  go_wp2_with (first | (go_at_call 132; refine (wide32 _).mono ?_; rintro e w' ⟨rfl, rfl⟩) | (go_at_call 126; refine (addf32 _ _ _).mono ?_; rintro e w' ⟨r, rfl, hr, n, rfl⟩) | (go_at_call 123; refine (told32 _ _).mono ?_; rintro e w' ⟨rfl, rfl⟩) | go_in)
  go_ret
  exact ⟨ret_u32 (tld32_res hr (fun _ => _root_.Fl.add_nan _root_.Fl.good_single)), n, rfl⟩

theorem sub32 (a b : Int) (w : World) : Calls Try.prog 66 #[.int .u32 a, .int .u32 b] w fun e w' => e = .returned (.int .u32 (res32 (Ieee.single.sub a.toNat b.toNat))) ∧ ∃ n, w' = w.drewN n := by
  go_enter Try.func66, Try.ntmps66
  go_wp2_with (first | (go_at_call 132; refine (wide32 _).mono ?_; rintro e w' ⟨rfl, rfl⟩) | (go_at_call 129; refine (subf32 _ _ _).mono ?_; rintro e w' ⟨r, rfl, hr, n, rfl⟩) | (go_at_call 123; refine (told32 _ _).mono ?_; rintro e w' ⟨rfl, rfl⟩) | go_in)
  go_ret
  exact ⟨ret_u32 (tld32_res hr (fun _ => _root_.Fl.sub_nan _root_.Fl.good_single)), n, rfl⟩

theorem mul32 (a b : Int) (w : World) : Calls Try.prog 68 #[.int .u32 a, .int .u32 b] w fun e w' => e = .returned (.int .u32 (res32 (Ieee.single.mul a.toNat b.toNat))) ∧ ∃ n, w' = w.drewN n := by
  go_enter Try.func68, Try.ntmps68
  go_wp2_with (first | (go_at_call 132; refine (wide32 _).mono ?_; rintro e w' ⟨rfl, rfl⟩) | (go_at_call 131; refine (mulf32 _ _ _).mono ?_; rintro e w' ⟨r, rfl, hr, n, rfl⟩) | (go_at_call 123; refine (told32 _ _).mono ?_; rintro e w' ⟨rfl, rfl⟩) | go_in)
  go_ret
  exact ⟨ret_u32 (tld32_res hr (fun _ => _root_.Fl.mul_nan _root_.Fl.good_single)), n, rfl⟩

theorem div32 (a b : Int) (w : World) : Calls Try.prog 70 #[.int .u32 a, .int .u32 b] w fun e w' => e = .returned (.int .u32 (res32 (Ieee.single.div a.toNat b.toNat))) ∧ ∃ n, w' = w.drewN n := by
  go_enter Try.func70, Try.ntmps70
  go_wp2_with (first | (go_at_call 132; refine (wide32 _).mono ?_; rintro e w' ⟨rfl, rfl⟩) | (go_at_call 92; refine (divf32 _ _ _).mono ?_; rintro e w' ⟨r, rfl, hr, n, rfl⟩) | (go_at_call 123; refine (told32 _ _).mono ?_; rintro e w' ⟨rfl, rfl⟩) | go_in)
  go_ret
  exact ⟨ret_u32 (tld32_res hr (fun _ => _root_.Fl.div_nan _root_.Fl.good_single)), n, rfl⟩

theorem ext147 (x r : Nat) (h : Ieee.double.sqrt x = some r) (w : World) : (callFunc 147 #[.float .f64 x]).run Try.prog w = .ok (.value (.float .f64 r)) w := by
  rw [run_callFunc_extern (e := Extern.MathSqrt.sqrt) Try.func147 (by kernel_rfl) (by kernel_rfl) (by kernel_rfl) (by kernel_rfl)]
  have h' : FloatKind.f64.format.sqrt x = some r := h
  have e : Extern.MathSqrt.sqrt #[.float .f64 x] = (match FloatKind.f64.format.sqrt x with | some r => pure (.float .f64 r) | none => do pure (.float .f64 (← choose (.nanBits .f64 x x)))) := rfl
  rw [e, h']; simp
theorem ext147_none (x : Nat) (h : Ieee.double.sqrt x = none) (w : World) : (callFunc 147 #[.float .f64 x]).run Try.prog w = .ok (.value (.float .f64 ((Question.nanBits .f64 x x).cut (w.tape w.drawn (.nanBits .f64 x x))))) w.drew := by
  rw [run_callFunc_extern (e := Extern.MathSqrt.sqrt) Try.func147 (by kernel_rfl) (by kernel_rfl) (by kernel_rfl) (by kernel_rfl)]
  have h' : FloatKind.f64.format.sqrt x = none := h
  have e : Extern.MathSqrt.sqrt #[.float .f64 x] = (match FloatKind.f64.format.sqrt x with | some r => pure (.float .f64 r) | none => do pure (.float .f64 (← choose (.nanBits .f64 x x)))) := rfl
  rw [e, h']; simp [Question.forced]

theorem sqrt64 (x : Nat) (w : World) : Calls Try.prog 120 #[.float .f64 x] w fun e w' => ∃ r, e = .returned (.float .f64 r) ∧ Res .f64 (Ieee.double.sqrt x) r ∧ ∃ n, w' = w.drewN n := by
  cases h : Ieee.double.sqrt x with
  | some r =>
    have hx := ext147 x r h
    clear h
    go_enter Try.func120, Try.ntmps120
    go_wp2_with (simp only [hx])
    go_ret
    exact ⟨r, rfl, rfl, 0, rfl⟩
  | none =>
    have hx := ext147_none x h
    clear h
    go_enter Try.func120, Try.ntmps120
    go_wp2_with (simp only [hx])
    go_ret
    exact ⟨_, rfl, cut_nan .f64 x x _, 1, rfl⟩

theorem root64 (a : Int) (w : World) : Calls Try.prog 63 #[.int .u64 a] w fun e w' => e = .returned (.int .u64 (res64 (Ieee.double.sqrt a.toNat))) ∧ ∃ n, w' = w.drewN n := by
  go_enter Try.func63, Try.ntmps63
  go_wp2_with (first | (go_at_call 111; refine (value64 _ _).mono ?_; rintro e w' ⟨rfl, rfl⟩) | (go_at_call 120; refine (sqrt64 _ _).mono ?_; rintro e w' ⟨r, rfl, hr, n, rfl⟩) | (go_at_call 121; refine (wide64 _).mono ?_; rintro e w' ⟨rfl, rfl⟩) | (go_at_call 122; refine (told64 _ _).mono ?_; rintro e w' ⟨rfl, rfl⟩))
  go_ret
  exact ⟨ret_u64 (tld64_res hr (fun _ => _root_.Fl.sqrt_nan _root_.Fl.good_double)), n, rfl⟩

/-- What 'float32(x)' gives, where it is fixed. -/
def nar (x : Nat) : Nat := Ieee.single.write (Ieee.double.read x)

theorem root32_nan (a : Int) (w : World) (h : (Ieee.single.read a.toNat).isNaN = true) : Calls Try.prog 72 #[.int .u32 a] w fun e w' => e = .returned (.int .u32 one32) ∧ ∃ n, w' = w.drewN n := by
  go_enter Try.func72, Try.ntmps72
  go_wp2_with (first | (go_at_call 113; refine (value32_nan _ _ h).mono ?_; rintro e w' ⟨r, rfl, hr, n, rfl⟩))
  refine (sqrt64 _ _).mono ?_
  rintro e w' ⟨r1, rfl, hr1, n1, rfl⟩
  have hr2 : (Ieee.double.read r1).isNaN = true := by
    have e : Ieee.double.sqrt r = none := by
      unfold Ieee.Format.sqrt
      cases hd : Ieee.double.read r with
      | number _ _ _ => rw [hd] at hr; cases hr
      | infinity _ => rw [hd] at hr; cases hr
      | nan _ _ => rfl
    rw [e] at hr1; exact hr1
  have hc : ∀ w, (convert 85 84 (.float .f64 r1)).run Try.prog w = .ok (.float .f32 ((Question.nanConv .f32 r1).cut (w.tape w.drawn (.nanConv .f32 r1)))) w.drew := fun w => run_convert_nan w 85 84 .f64 .f32 r1 (by rw [Try.underlying85]; rfl) Try.underlying84 (by decide) hr2
  clear hr hr1 hr2 h
  go_wp2_with (first | (go_at_call 132; refine (wide32 _).mono ?_; rintro e w' ⟨rfl, rfl⟩) | (go_at_call 123; refine (told32 _ _).mono ?_; rintro e w' ⟨rfl, rfl⟩) | simp only [hc])
  go_ret
  refine ⟨ret_u32 ?_, n + n1 + 1, rfl⟩
  rw [tld32_nan]
  have : ∀ t, (Ieee.single.read ((Question.nanConv .f32 r1).cut t)).isNaN = true := cut_conv .f32 r1
  rw [this]; rfl

theorem root32 (a : Int) (w : World) (h : (Ieee.single.read a.toNat).isNaN = false) (hf : ∀ r, Ieee.double.sqrt (wid a.toNat) = some r → floatToFloatBits .f64 r .f32 = some (nar r)) :
    Calls Try.prog 72 #[.int .u32 a] w fun e w' => e = .returned (.int .u32 (res32 ((Ieee.double.sqrt (wid a.toNat)).map nar))) ∧ ∃ n, w' = w.drewN n := by
  cases hs : Ieee.double.sqrt (wid a.toNat) with
  | some r =>
    have hc : ∀ w, (convert 85 84 (.float .f64 r)).run Try.prog w = .ok (.float .f32 (nar r)) w := fun w => run_convert_float_float w 85 84 .f64 .f32 r _ (by rw [Try.underlying85]; rfl) Try.underlying84 (hf r hs)
    clear hf
    have hnn : (Ieee.single.read (nar r)).isNaN = false := _root_.Fl.write_nan _root_.Fl.good_single (_root_.Fl.sqrt_nan _root_.Fl.good_double hs)
    go_enter Try.func72, Try.ntmps72
    go_wp2_with (first | (go_at_call 113; refine (value32 _ _ h).mono ?_; rintro e w' ⟨rfl, rfl⟩))
    refine (sqrt64 _ _).mono ?_
    rintro e w' ⟨r1, rfl, hr1, n1, rfl⟩
    rw [hs] at hr1
    obtain rfl : r1 = r := hr1
    clear hs h
    go_wp2_with (first | (go_at_call 132; refine (wide32 _).mono ?_; rintro e w' ⟨rfl, rfl⟩) | (go_at_call 123; refine (told32 _ _).mono ?_; rintro e w' ⟨rfl, rfl⟩) | simp only [hc])
    go_ret
    refine ⟨ret_u32 ?_, n1, rfl⟩
    rw [tld32_nan, hnn]; rfl
  | none =>
    clear hf
    go_enter Try.func72, Try.ntmps72
    go_wp2_with (first | (go_at_call 113; refine (value32 _ _ h).mono ?_; rintro e w' ⟨rfl, rfl⟩))
    refine (sqrt64 _ _).mono ?_
    rintro e w' ⟨r1, rfl, hr1, n1, rfl⟩
    rw [hs] at hr1
    have hr2 : (Ieee.double.read r1).isNaN = true := hr1
    have hc : ∀ w, (convert 85 84 (.float .f64 r1)).run Try.prog w = .ok (.float .f32 ((Question.nanConv .f32 r1).cut (w.tape w.drawn (.nanConv .f32 r1)))) w.drew := fun w => run_convert_nan w 85 84 .f64 .f32 r1 (by rw [Try.underlying85]; rfl) Try.underlying84 (by decide) hr2
    clear hr1 hr2 h hs
    go_wp2_with (first | (go_at_call 132; refine (wide32 _).mono ?_; rintro e w' ⟨rfl, rfl⟩) | (go_at_call 123; refine (told32 _ _).mono ?_; rintro e w' ⟨rfl, rfl⟩) | simp only [hc])
    go_ret
    refine ⟨ret_u32 ?_, n1 + 1, rfl⟩
    rw [tld32_nan]
    have : ∀ t, (Ieee.single.read ((Question.nanConv .f32 r1).cut t)).isNaN = true := cut_conv .f32 r1
    rw [this]; rfl

theorem ext135 (x y z r : Nat) (h : Ieee.double.fma x y z = some r) (w : World) : (callFunc 135 #[.float .f64 x, .float .f64 y, .float .f64 z]).run Try.prog w = .ok (.value (.float .f64 r)) w := by
  rw [run_callFunc_extern (e := Extern.MathFMA.fma) Try.func135 (by kernel_rfl) (by kernel_rfl) (by kernel_rfl) (by kernel_rfl)]
  have h' : FloatKind.f64.format.fma x y z = some r := h
  have e : Extern.MathFMA.fma #[.float .f64 x, .float .f64 y, .float .f64 z] = (match FloatKind.f64.format.fma x y z with
    | some r => pure (.float .f64 r)
    | none => do
      let (a, b) := if Extern.MathFMA.isNaN x then (x, y) else if Extern.MathFMA.isNaN y then (y, z) else (z, z)
      pure (.float .f64 (← choose (.nanBits .f64 a b)))) := rfl
  rw [e, h']; simp
theorem ext135_none (x y z : Nat) (h : Ieee.double.fma x y z = none) : ∃ a b, ∀ w : World, (callFunc 135 #[.float .f64 x, .float .f64 y, .float .f64 z]).run Try.prog w = .ok (.value (.float .f64 ((Question.nanBits .f64 a b).cut (w.tape w.drawn (.nanBits .f64 a b))))) w.drew := by
  have h' : FloatKind.f64.format.fma x y z = none := h
  have e : Extern.MathFMA.fma #[.float .f64 x, .float .f64 y, .float .f64 z] = (match FloatKind.f64.format.fma x y z with
    | some r => pure (.float .f64 r)
    | none => do
      let (a, b) := if Extern.MathFMA.isNaN x then (x, y) else if Extern.MathFMA.isNaN y then (y, z) else (z, z)
      pure (.float .f64 (← choose (.nanBits .f64 a b)))) := rfl
  generalize hq : (if Extern.MathFMA.isNaN x then (x, y) else if Extern.MathFMA.isNaN y then (y, z) else (z, z)) = q at e
  refine ⟨q.1, q.2, fun w => ?_⟩
  rw [run_callFunc_extern (e := Extern.MathFMA.fma) Try.func135 (by kernel_rfl) (by kernel_rfl) (by kernel_rfl) (by kernel_rfl)]
  rw [e, h']; simp [Question.forced]

theorem fma64 (a b c : Int) (w : World) : Calls Try.prog 81 #[.int .u64 a, .int .u64 b, .int .u64 c] w fun e w' => e = .returned (.int .u64 (res64 (Ieee.double.fma a.toNat b.toNat c.toNat))) ∧ ∃ n, w' = w.drewN n := by
  cases h : Ieee.double.fma a.toNat b.toNat c.toNat with
  | some r =>
    have hx := ext135 _ _ _ r h
    have hn : tld64 r = res64 (some r) := tld64_res (o := some r) rfl (fun x hx => by cases hx; exact _root_.Fl.fma_nan _root_.Fl.good_double h)
    clear h
    go_enter Try.func81, Try.ntmps81
    go_wp2_with (first | (go_at_call 122; refine (told64 _ _).mono ?_; rintro e w' ⟨rfl, rfl⟩) | simp only [hx])
    go_ret
    exact ⟨ret_u64 hn, 0, rfl⟩
  | none =>
    obtain ⟨x, y, hx⟩ := ext135_none _ _ _ h
    clear h
    go_enter Try.func81, Try.ntmps81
    go_wp2_with (first | (go_at_call 122; refine (told64 _ _).mono ?_; rintro e w' ⟨rfl, rfl⟩) | simp only [hx])
    go_ret
    exact ⟨ret_u64 (tld64_res (o := none) (cut_nan .f64 x y _) (fun _ hx => by cases hx)), 1, rfl⟩

theorem fromInt (n : Int) (w : World) : Calls Try.prog 29 #[.int .i64 n] w fun e w' => e = .returned (.int .u64 (floatOfInt .f64 n)) ∧ w = w' := by
  go_enter Try.func29, Try.ntmps29
  go_wp2
  go_ret
  exact ⟨rfl, rfl⟩
theorem fromUint (n : Int) (w : World) : Calls Try.prog 31 #[.int .u64 n] w fun e w' => e = .returned (.int .u64 (floatOfInt .f64 n)) ∧ w = w' := by
  go_enter Try.func31, Try.ntmps31
  go_wp2
  go_ret
  exact ⟨rfl, rfl⟩
theorem fromInt32 (n : Int) (w : World) : Calls Try.prog 33 #[.int .i64 n] w fun e w' => e = .returned (.int .u32 (floatOfInt .f32 n)) ∧ w = w' := by
  go_enter Try.func33, Try.ntmps33
  go_wp2
  go_ret
  exact ⟨rfl, rfl⟩

end Go.Proofs.Ytfloeiagdegpjaa.Fl
