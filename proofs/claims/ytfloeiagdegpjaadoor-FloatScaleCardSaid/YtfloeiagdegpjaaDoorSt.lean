/- Package float's functions as Lean functions over whole numbers, in the form in which the laws' walks call them. -/
import Derived.Test.YtfloeiagdegpjaaDoorFf
namespace Go.Proofs.YtfloeiagdegpjaaDoor.Rf
open Go.RowKit Go.Proofs.YtfloeiagdegpjaaDoorW.PrintWords Go.Proofs.YtfloeiagdegpjaaDoorW.PrintLast Go.Proofs.YtfloeiagdegpjaaDoorW.PrintMore
set_option linter.unusedVariables false
set_option linter.unusedSimpArgs false

/-- A pattern of 64 bits, of 32. -/
def In64 (a : Int) : Prop := 0 ≤ a ∧ a < 18446744073709551616
def In32 (a : Int) : Prop := 0 ≤ a ∧ a < 4294967296
instance (a : Int) : Decidable (In64 a) := inferInstanceAs (Decidable (_ ∧ _))
instance (a : Int) : Decidable (In32 a) := inferInstanceAs (Decidable (_ ∧ _))

theorem some_if {α : Type} {c : Prop} [Decidable c] {x r : α} (h : (if c then some x else none) = some r) : c ∧ x = r := by
  split at h
  · exact ⟨‹_›, Option.some.inj h⟩
  · cases h
theorem drawn_of {w w' : World} (h : ∃ n, w' = w.drewN n) : Drawn0 w w' := ⟨h⟩
theorem drawn_refl (w : World) : Drawn0 w w := ⟨0, rfl⟩

def fathomlaw3_wakes.f : Option Bool := some true
theorem fathomlaw3_wakes.calls (r : Bool) (w : World) (h : fathomlaw3_wakes.f = some r) :
    Calls Tryd.prog 8 #[] w fun e w' => e = .returned (.bool r) ∧ Below w.heap.size w w' := by
  obtain rfl := Option.some.inj h
  exact Fl.wakes w

def float_Narrow.f (a : Int) : Option Int := if In64 a then (bif Fl.isNan64 a then some (Fl.narrowNan a) else (floatToFloatBits .f64 a.toNat .f32).map fun r : Nat => (r : Int)) else none
theorem float_Narrow.calls (a r : Int) (w : World) (h : float_Narrow.f a = some r) :
    Calls Tryd.prog 23 #[.int .u64 a] w fun e w' => e = .returned (.int .u32 r) ∧ Below w.heap.size w w' := by
  unfold float_Narrow.f at h
  split at h
  · cases ha : Fl.isNan64 a with
    | true => rw [ha] at h; obtain rfl := Option.some.inj h; exact Fl.narrow_nan a ha w
    | false =>
      rw [ha] at h
      cases hf : floatToFloatBits .f64 a.toNat .f32 with
      | none => rw [hf] at h; cases h
      | some x => rw [hf] at h; obtain rfl := Option.some.inj h; exact Fl.narrow_num a x ha hf w
  · cases h

def float_Widen.f (a : Int) : Option Int := if In32 a then some (bif Fl.isNan32 a then Fl.widenNan a else (Fl.wid a.toNat : Nat)) else none
def float_FromInt.f (a : Int) : Option Int := some (floatOfInt .f64 a)
def float_FromUint.f (a : Int) : Option Int := some (floatOfInt .f64 a)
def float_FromInt32.f (a : Int) : Option Int := some (floatOfInt .f32 a)
def float_Round.f (a m : Int) : Option (Int × Int) := if In64 a then some (Fl.rounds a m) else none
theorem float_Round.calls (a m r1 r2 : Int) (w : World) (h : float_Round.f a m = some (r1, r2)) :
    Calls Tryd.prog 38 #[.int .u64 a, .int .i64 m] w fun e w' => e = .returned (.tuple #[.int .u64 r1, .int .i64 r2]) ∧ Below w.heap.size w w' := by
  obtain ⟨⟨h0, h1⟩, hr⟩ := some_if h
  have := Fl.round_calls a m h0 h1 w
  rw [hr] at this
  exact this

/-- ToInt: Round's error, the range's, or the integer. -/
def float_ToInt.f (a m : Int) : Option (Int × Int) :=
  if In64 a then
    bif (Fl.rounds a m).2 != 0 then some (0, (Fl.rounds a m).2)
    else bif Fl.geLow (Fl.rounds a m).1.toNat && Fl.ltHigh (Fl.rounds a m).1.toNat then (floatToIntVal .f64 (Fl.rounds a m).1.toNat .i64).map fun n => (n, 0)
    else some (0, 30)
  else none
theorem float_ToInt.calls (a m r1 r2 : Int) (w : World) (h : float_ToInt.f a m = some (r1, r2)) :
    Calls Tryd.prog 20 #[.int .u64 a, .int .i64 m] w fun e w' => e = .returned (.tuple #[.int .i64 r1, .int .i64 r2]) ∧ Below w.heap.size w w' := by
  unfold float_ToInt.f at h
  split at h
  · rename_i hin
    have hr := fun w => Fl.round_calls a m hin.1 hin.2 w
    generalize (Fl.rounds a m).1 = x at *
    cases he : ((Fl.rounds a m).2 != 0) with
    | true =>
      rw [he] at h
      simp only [cond_true, Option.some.injEq, Prod.mk.injEq] at h
      obtain ⟨rfl, rfl⟩ := h
      exact Fl.toInt_err a m x _ he hr w
    | false =>
      rw [he] at h
      have hz : (Fl.rounds a m).2 = 0 := by simpa using he
      rw [hz] at hr
      cases hg : (Fl.geLow x.toNat && Fl.ltHigh x.toNat) with
      | false =>
        rw [hg] at h
        simp only [cond_false, Option.some.injEq, Prod.mk.injEq] at h
        obtain ⟨rfl, rfl⟩ := h
        exact Fl.toInt_range a m x hg hr w
      | true =>
        rw [hg] at h
        cases hn : floatToIntVal .f64 x.toNat .i64 with
        | none => rw [hn] at h; cases h
        | some n =>
          rw [hn] at h
          simp only [cond_true, cond_false, Option.map_some, Option.some.injEq, Prod.mk.injEq] at h
          obtain ⟨rfl, rfl⟩ := h
          exact Fl.toInt_ok a m x _ hg hn hr w
  · cases h

def float_Fma.f (a b c : Int) : Option Int := some (Fl.res64 (Ieee.double.fma a.toNat b.toNat c.toNat))
def float_Root_uint64.f (a : Int) : Option Int := some (Fl.res64 (Ieee.double.sqrt a.toNat))
/-- A binary32's root by way of a binary64: told where the way back is fixed. -/
def float_Root_uint32.f (a : Int) : Option Int :=
  bif (Ieee.single.read a.toNat).isNaN then some Fl.one32 else
    match Ieee.double.sqrt (Fl.wid a.toNat) with
    | none => some Fl.one32
    | some x => bif floatToFloatBits .f64 x .f32 == some (Fl.nar x) then some (Fl.nar x : Nat) else none
def float_Add_uint64.f (a b : Int) : Option Int := some (Fl.res64 (Ieee.double.add a.toNat b.toNat))
theorem float_Add_uint64.calls (a b r : Int) (w : World) (h : float_Add_uint64.f a b = some r) :
    Calls Tryd.prog 22 #[.int .u64 a, .int .u64 b] w fun e w' => e = .returned (.int .u64 r) ∧ Drawn0 w w' := by
  obtain rfl := Option.some.inj h
  exact (Fl.add64 a b w).mono fun e w' ⟨h, hw⟩ => ⟨h, drawn_of hw⟩

def float_Sub_uint64.f (a b : Int) : Option Int := some (Fl.res64 (Ieee.double.sub a.toNat b.toNat))
def float_Mul_uint64.f (a b : Int) : Option Int := some (Fl.res64 (Ieee.double.mul a.toNat b.toNat))
def float_Div_uint64.f (a b : Int) : Option Int := some (Fl.res64 (Ieee.double.div a.toNat b.toNat))
def float_Class_uint64.f (a : Int) : Option Int := some (Fl.class64 a)
theorem float_Class_uint64.calls (a r : Int) (w : World) (h : float_Class_uint64.f a = some r) :
    Calls Tryd.prog 21 #[.int .u64 a] w fun e w' => e = .returned (.int .i64 r) ∧ Below w.heap.size w w' := by
  obtain rfl := Option.some.inj h
  exact Fl.class64_calls a w

def float_Key_uint64.f (a : Int) : Option Int := some (Fl.key64 a)
def float_OfKey_uint64.f (a : Int) : Option Int := some (Fl.ofKey64 a)
def float_Up_uint64.f (a : Int) : Option Int := some (Fl.up64 a)
def float_Down_uint64.f (a : Int) : Option Int := some (Fl.down64 a)
def float_Distance_uint64.f (a b : Int) : Option Int := some (Fl.dist64 a b)
def float_Cmp_uint64.f (a b : Int) : Option (Int × Bool) := if In64 a ∧ In64 b then some (bif Fl.isNan64 a || Fl.isNan64 b then (0, false) else (Fl.cmpOf (FloatKind.f64.format.order a.toNat b.toNat), true)) else none
def float_Add_uint32.f (a b : Int) : Option Int := some (Fl.res32 (Ieee.single.add a.toNat b.toNat))
def float_Sub_uint32.f (a b : Int) : Option Int := some (Fl.res32 (Ieee.single.sub a.toNat b.toNat))
def float_Mul_uint32.f (a b : Int) : Option Int := some (Fl.res32 (Ieee.single.mul a.toNat b.toNat))
def float_Div_uint32.f (a b : Int) : Option Int := some (Fl.res32 (Ieee.single.div a.toNat b.toNat))
def float_Class_uint32.f (a : Int) : Option Int := some (Fl.class32 a)
def float_Key_uint32.f (a : Int) : Option Int := some (Fl.key32 a)
theorem float_Key_uint32.calls (a r : Int) (w : World) (h : float_Key_uint32.f a = some r) :
    Calls Tryd.prog 25 #[.int .u32 a] w fun e w' => e = .returned (.int .u32 r) ∧ Below w.heap.size w w' := by
  obtain rfl := Option.some.inj h
  exact Fl.key32_calls a w

def float_OfKey_uint32.f (a : Int) : Option Int := some (Fl.ofKey32 a)
def float_Up_uint32.f (a : Int) : Option Int := some (Fl.up32 a)
def float_Down_uint32.f (a : Int) : Option Int := some (Fl.down32 a)
def float_Distance_uint32.f (a b : Int) : Option Int := some (Fl.dist32 a b)
def float_Cmp_uint32.f (a b : Int) : Option (Int × Bool) := if In32 a ∧ In32 b then some (bif Fl.isNan32 a || Fl.isNan32 b then (0, false) else (Fl.cmpOf (FloatKind.f64.format.order (Fl.wid a.toNat) (Fl.wid b.toNat)), true)) else none
end Go.Proofs.YtfloeiagdegpjaaDoor.Rf
