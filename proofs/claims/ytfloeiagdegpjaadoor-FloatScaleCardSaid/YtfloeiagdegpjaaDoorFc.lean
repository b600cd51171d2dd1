/- Sums, products, quotients, roots, fused ones, comparisons and conversions of package float: what each call comes to, by Ieee's own functions. -/
import Derived.Test.YtfloeiagdegpjaaDoorFb
import Derived.Test.YtfloeiagdegpjaaDoorPc
import Derived.Test.YtfloeiagdegpjaaDoorMw
namespace Go.Proofs.YtfloeiagdegpjaaDoor.Fl
open Go.RowKit Go.Proofs.YtfloeiagdegpjaaDoorW.PrintWords Go.Proofs.YtfloeiagdegpjaaDoorW.PrintMore
set_option linter.unusedVariables false
set_option linter.unusedSimpArgs false
attribute [local go_sem] ext93 ext86 ext85 ext110 max2_int min2_int

def res64 (o : Option Nat) : Int := match o with | some r => r | none => one64
def res32 (o : Option Nat) : Int := match o with | some r => r | none => one32

theorem tld64_nan {r : Nat} : tld64 r = bif (Ieee.double.read r).isNaN then one64 else r := by
  unfold tld64
  have e : (FloatKind.f64.format.order r r != some .eq) = (Ieee.double.read r).isNaN := by
    show ((Ieee.double.read r).order (Ieee.double.read r) != some .eq) = _
    simp only [bne, _root_.Fl.order_self, Bool.not_not]
  rw [e]
theorem tld32_nan {r : Nat} : tld32 r = bif (Ieee.single.read r).isNaN then one32 else r := by
  unfold tld32
  have e : (FloatKind.f32.format.order r r != some .eq) = (Ieee.single.read r).isNaN := by
    show ((Ieee.single.read r).order (Ieee.single.read r) != some .eq) = _
    simp only [bne, _root_.Fl.order_self, Bool.not_not]
  rw [e]

theorem tld64_res {o : Option Nat} {r : Nat} (h : Res .f64 o r) (ho : ∀ x, o = some x → (Ieee.double.read x).isNaN = false) : tld64 r = res64 o := by
  rw [tld64_nan]
  cases o with
  | some x => have hx : r = x := h; subst hx; rw [ho _ rfl]; rfl
  | none => have hx : (Ieee.double.read r).isNaN = true := h; rw [hx]; rfl
theorem tld32_res {o : Option Nat} {r : Nat} (h : Res .f32 o r) (ho : ∀ x, o = some x → (Ieee.single.read x).isNaN = false) : tld32 r = res32 o := by
  rw [tld32_nan]
  cases o with
  | some x => have hx : r = x := h; subst hx; rw [ho _ rfl]; rfl
  | none => have hx : (Ieee.single.read r).isNaN = true := h; rw [hx]; rfl

theorem below_drewN' {w w' : World} (h : ∃ n, w' = w.drewN n) : Below w.heap.size w w' := by
  obtain ⟨n, rfl⟩ := h; exact pw_below_drewN (Below.refl _ _) n
theorem ret_u64 {a b : Int} (h : a = b) : Ending.returned (.int .u64 a) = .returned (.int .u64 b) := by rw [h]
theorem ret_u32 {a b : Int} (h : a = b) : Ending.returned (.int .u32 a) = .returned (.int .u32 b) := by rw [h]

/-- A binary32's number as a binary64. -/
def wid (b : Nat) : Nat := Ieee.double.write (Ieee.single.read b)

theorem wid_conv {b : Nat} (h : (Ieee.single.read b).isNaN = false) : floatToFloatBits .f32 b .f64 = some (wid b) := by
  rw [_root_.Fl.read_nan _root_.Fl.good_single] at h
  have h := of_decide_eq_false h
  unfold floatToFloatBits
  rw [if_neg (by decide)]
  rcases Nat.lt_or_ge (b % Ieee.single.signWeight) Ieee.single.infRung with h1 | h1
  · obtain ⟨r, hr, _, hw⟩ := _root_.Fl.widen_fin h1
    obtain ⟨m, p, hm, _⟩ := _root_.Fl.read_fin _root_.Fl.good_single b h1
    have e : FloatKind.f32.decode b = .number (b / Ieee.single.signWeight % 2 == 1) m p := hm
    rw [e]
    have e2 : FloatKind.f64.encode (.number (b / Ieee.single.signWeight % 2 == 1) m p) = Ieee.double.word (b / Ieee.single.signWeight % 2 == 1) r := by
      rw [← hm] ; exact hw
    simp only [e2]
    obtain ⟨m', p', hm', _⟩ := _root_.Fl.read_word_fin _root_.Fl.good_double (b / Ieee.single.signWeight % 2 == 1) hr
    have e3 : FloatKind.f64.decode (Ieee.double.word (b / Ieee.single.signWeight % 2 == 1) r) = .number (b / Ieee.single.signWeight % 2 == 1) m' p' := hm'
    rw [e3]
    simp only [Ieee.Datum.isInfinity, Bool.false_eq_true, if_false, wid, hw]
  · have hi := _root_.Fl.read_infinity _root_.Fl.good_single b (by omega)
    have e : FloatKind.f32.decode b = .infinity (b / Ieee.single.signWeight % 2 == 1) := hi
    rw [e]
    simp only [wid, hi]; rfl

section
variable {P : Program} (w : World)
theorem run_convert_nan (src dst : TypeId) (s k : FloatKind) (b : Nat) (hs : (P.underlying src).isSome = true) (hd : P.underlying dst = some (.float k)) (hne : s ≠ k) (h : (s.decode b).isNaN = true) :
    (convert src dst (.float s b)).run P w = .ok (.float k ((Question.nanConv k b).cut (w.tape w.drawn (.nanConv k b)))) w.drew := by
  obtain ⟨u, hs'⟩ := Option.isSome_iff_exists.1 hs
  cases hd' : s.decode b with
  | number _ _ _ => rw [hd'] at h; cases h
  | infinity _ => rw [hd'] at h; cases h
  | nan _ _ => cases u <;> simp [convert, run_underlying hs', run_underlying hd, Conv.floatToFloat, hne, hd', Question.forced]
end

theorem cut_conv (k : FloatKind) (x t : Nat) : (k.format.read ((Question.nanConv k x).cut t)).isNaN = true := by
  have := cut_nan k x x t
  cases k <;> exact this

theorem add64 (a b : Int) (w : World) : Calls Tryd.prog 22 #[.int .u64 a, .int .u64 b] w fun e w' => e = .returned (.int .u64 (res64 (Ieee.double.add a.toNat b.toNat))) ∧ ∃ n, w' = w.drewN n := by
  go_enter Tryd.func22, Tryd.ntmps22
  go_wp2_with (first | (go_at_call 56; refine (wide64 _).mono ?_; rintro e w' ⟨rfl, rfl⟩) | (go_at_call 41; refine (addf64 _ _ _).mono ?_; rintro e w' ⟨r, rfl, hr, n, rfl⟩) | (go_at_call 13; refine (told64 _ _).mono ?_; rintro e w' ⟨rfl, rfl⟩) | go_in)
  go_ret
  exact ⟨ret_u64 (tld64_res hr (fun _ => _root_.Fl.add_nan _root_.Fl.good_double)), n, rfl⟩

/-- What 'float32(x)' gives, where it is fixed. -/
def nar (x : Nat) : Nat := Ieee.single.write (Ieee.double.read x)

end Go.Proofs.YtfloeiagdegpjaaDoor.Fl
