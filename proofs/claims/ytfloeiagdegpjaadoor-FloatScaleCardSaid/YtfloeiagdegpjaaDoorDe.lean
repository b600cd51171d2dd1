/- Package float's Scale: what a call comes to, way by way. -/
import Derived.Test.YtfloeiagdegpjaaDoorDd
import Derived.Test.YtfloeiagdegpjaaDoorFb
namespace Go.Proofs.YtfloeiagdegpjaaDoor.Dw
open Go.RowKit
set_option linter.unusedVariables false
set_option linter.unusedSimpArgs false
attribute [local go_sem] Fl.ext86

theorem scale_bad (b n m e r : Int) (neg : Bool) (w : World) (hs : Calls Tryd.prog 4 #[.int .u64 b] w (SomeDrawn (.returned (.tuple #[.bool neg, .int .u64 m, .int .i64 e, .bool false])) w))
    (ht : ∀ w, Calls Tryd.prog 13 #[.float .f64 b.toNat] w fun e w' => e = .returned (.int .u64 r) ∧ w = w') :
    Calls Tryd.prog 6 #[.int .u64 b, .int .i64 n] w (SomeDrawn (.returned (.int .u64 r)) w) := by
  have HS := Lib.hid hs
  have HT := Lib.hid ht
  clear hs ht
  go_enter Tryd.func6, Tryd.ntmps6
  go_wp2_with (first | (go_at_call 4; refine HS.out.mono ?_; rintro e w' ⟨rfl, nq, rfl⟩) | (go_at_call 13; refine (HT.out _).mono ?_; rintro e w' ⟨rfl, rfl⟩))
  go_ret
  exact ⟨rfl, nq, rfl⟩

theorem scale_nil (b n m e r : Int) (neg : Bool) (w : World) (hs : Calls Tryd.prog 4 #[.int .u64 b] w (SomeDrawn (.returned (.tuple #[.bool neg, .int .u64 0, .int .i64 e, .bool true])) w))
    (ht : ∀ w, Calls Tryd.prog 13 #[.float .f64 b.toNat] w fun e w' => e = .returned (.int .u64 r) ∧ w = w') :
    Calls Tryd.prog 6 #[.int .u64 b, .int .i64 n] w (SomeDrawn (.returned (.int .u64 r)) w) := by
  have HS := Lib.hid hs
  have HT := Lib.hid ht
  clear hs ht
  go_enter Tryd.func6, Tryd.ntmps6
  go_wp2_with (first | (go_at_call 4; refine HS.out.mono ?_; rintro e w' ⟨rfl, nq, rfl⟩) | (go_at_call 13; refine (HT.out _).mono ?_; rintro e w' ⟨rfl, rfl⟩))
  go_ret
  exact ⟨rfl, nq, rfl⟩

end Go.Proofs.YtfloeiagdegpjaaDoor.Dw
