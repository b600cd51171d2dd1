/- Package float's Scale where there is something to scale: what a call comes to, way by way. -/
import Derived.Test.YtfloeiagdegpjaaDoorProg
import Derived.WalkKit
import Derived.ProofKit
import Derived.RegionTactic
import Derived.Deep.QuietTactic
import Derived.BigQuiet
import Derived.Laws.Bits64b
import Derived.Lib.TrailingZeros
import Derived.Lib.Hide
namespace Go.Proofs.YtfloeiagdegpjaaDoor.Dw
open Go.RowKit
set_option linter.unusedVariables false
set_option linter.unusedSimpArgs false

/-- That ending; the world but for draws. -/
def SomeDrawn (e0 : Ending) (w : World) (e : Ending) (w' : World) : Prop := e = e0 ∧ ∃ n, w' = w.drewN n

/-- The power, cut off on both sides. -/
def clamp (n : Int) : Int := if n < -10000 then -10000 else if 10000 < n then 10000 else n

set_option maxHeartbeats 1000000 in
theorem scale_up (b n m e c x : Int) (neg : Bool) (w : World) (hs : Calls Tryd.prog 4 #[.int .u64 b] w (SomeDrawn (.returned (.tuple #[.bool neg, .int .u64 m, .int .i64 e, .bool true])) w))
    (hm : (m == 0) = false) (hn : clamp n = c) (e0 : -2000 ≤ e) (e1 : e ≤ 2000) (hc : -1074 ≤ c + e)
    (hl : ∀ w, Calls Tryd.prog 15 #[.int .u64 m, .int .i64 (c + e)] w fun e w' => e = .returned (.int .u64 x) ∧ w = w') :
    Calls Tryd.prog 6 #[.int .u64 b, .int .i64 n] w (SomeDrawn (.returned (.int .u64 (bif neg then bits .or .u64 x 9223372036854775808 else x))) w) := by
  have hcl : (n ≤ -10000 ∧ c = -10000) ∨ (10000 ≤ n ∧ c = 10000) ∨ (-10000 < n ∧ n < 10000 ∧ c = n) := by
    unfold clamp at hn
    split at hn <;> (try split at hn) <;> omega
  clear hn
  have HS := Lib.hid hs
  have HL := Lib.hid hl
  clear hs hl
  rcases hcl with ⟨hn, rfl⟩ | ⟨hn, rfl⟩ | ⟨hn, hn2, rfl⟩
  all_goals
    cases neg
    all_goals
      go_enter Tryd.func6, Tryd.ntmps6
      go_wp2_with (first | (go_at_call 4; refine HS.out.mono ?_; rintro e w' ⟨rfl, nq, rfl⟩) | (go_at_call 15; refine (HL.out _).mono ?_; rintro e w' ⟨rfl, rfl⟩))
      all_goals (go_ret; exact ⟨rfl, nq, rfl⟩)

set_option maxHeartbeats 1000000 in
theorem scale_gone (b n m e c : Int) (neg : Bool) (w : World) (hs : Calls Tryd.prog 4 #[.int .u64 b] w (SomeDrawn (.returned (.tuple #[.bool neg, .int .u64 m, .int .i64 e, .bool true])) w))
    (hm : (m == 0) = false) (hn : clamp n = c) (e0 : -2000 ≤ e) (e1 : e ≤ 2000) (hc : c + e < -1134)
    (hl : ∀ w, Calls Tryd.prog 15 #[.int .u64 0, .int .i64 (-1074)] w fun e w' => e = .returned (.int .u64 0) ∧ w = w') :
    Calls Tryd.prog 6 #[.int .u64 b, .int .i64 n] w (SomeDrawn (.returned (.int .u64 (bif neg then bits .or .u64 0 9223372036854775808 else 0))) w) := by
  have hcl : (n ≤ -10000 ∧ c = -10000) ∨ (10000 ≤ n ∧ c = 10000) ∨ (-10000 < n ∧ n < 10000 ∧ c = n) := by
    unfold clamp at hn
    split at hn <;> (try split at hn) <;> omega
  clear hn
  have HS := Lib.hid hs
  have HL := Lib.hid hl
  clear hs hl
  rcases hcl with ⟨hn, rfl⟩ | ⟨hn, rfl⟩ | ⟨hn, hn2, rfl⟩
  all_goals
    cases neg
    all_goals
      go_enter Tryd.func6, Tryd.ntmps6
      go_wp2_with (first | (go_at_call 4; refine HS.out.mono ?_; rintro e w' ⟨rfl, nq, rfl⟩) | (go_at_call 15; refine (HL.out _).mono ?_; rintro e w' ⟨rfl, rfl⟩))
      all_goals (go_ret; exact ⟨rfl, nq, rfl⟩)

set_option maxHeartbeats 4000000 in
theorem scale_round (b n m e c x P H R Q o : Int) (neg : Bool) (w : World) (hs : Calls Tryd.prog 4 #[.int .u64 b] w (SomeDrawn (.returned (.tuple #[.bool neg, .int .u64 m, .int .i64 e, .bool true])) w))
    (hm : (m == 0) = false) (hn : clamp n = c) (e0 : -2000 ≤ e) (e1 : e ≤ 2000) (hc : -1134 ≤ c + e) (hd : c + e < -1074)
    (hP : IntKind.u64.wrap (2 ^ (-1074 - (c + e)).toNat) = P) (P0 : 2 ≤ P) (P1 : P ≤ 1152921504606846976) (hH : P / 2 = H) (H0 : 1 ≤ H) (hR : bits .and .u64 m (P - 1) = R) (hQ : m / 2 ^ (-1074 - (c + e)).toNat = Q) (Q0 : 0 ≤ Q) (Q1 : Q ≤ 9007199254740992) (ho : bits .and .u64 Q 1 = o)
    (hx : (H < R ∧ x = Q + 1) ∨ (R = H ∧ o = 1 ∧ x = Q + 1) ∨ (R = H ∧ o = 0 ∧ x = Q) ∨ (R < H ∧ x = Q))
    (hl : ∀ w, Calls Tryd.prog 15 #[.int .u64 x, .int .i64 (-1074)] w fun e w' => e = .returned (.int .u64 x) ∧ w = w') :
    Calls Tryd.prog 6 #[.int .u64 b, .int .i64 n] w (SomeDrawn (.returned (.int .u64 (bif neg then bits .or .u64 x 9223372036854775808 else x))) w) := by
  have hcl : -10000 < n ∧ n < 10000 ∧ c = n := by
    unfold clamp at hn
    split at hn <;> (try split at hn) <;> omega
  clear hn
  have HS := Lib.hid hs
  have HL := Lib.hid hl
  clear hs hl
  obtain ⟨hn, hn2, rfl⟩ := hcl
  have hH2 : (H != 0) = true := bne_iff_ne.2 (by omega)
  have hH3 : (H == 0) = false := beq_eq_false_iff_ne.2 (by omega)
  rcases hx with ⟨hx, rfl⟩ | ⟨hx, hy, rfl⟩ | ⟨hx, hy, rfl⟩ | ⟨hx, rfl⟩
  · cases neg
    all_goals
      go_enter Tryd.func6, Tryd.ntmps6
      go_wp2_with (first | (go_at_call 4; refine HS.out.mono ?_; rintro e w' ⟨rfl, nq, rfl⟩) | (go_at_call 15; refine (HL.out _).mono ?_; rintro e w' ⟨rfl, rfl⟩))
      all_goals (go_ret; exact ⟨rfl, nq, rfl⟩)
  · rw [hx] at hR
    rw [hy] at ho
    clear hx hy
    cases neg
    all_goals
      go_enter Tryd.func6, Tryd.ntmps6
      go_wp2_with (first | (go_at_call 4; refine HS.out.mono ?_; rintro e w' ⟨rfl, nq, rfl⟩) | (go_at_call 15; refine (HL.out _).mono ?_; rintro e w' ⟨rfl, rfl⟩))
      all_goals (go_ret; exact ⟨rfl, nq, rfl⟩)
  · rw [hx] at hR
    rw [hy] at ho
    clear hx hy
    cases neg
    all_goals
      go_enter Tryd.func6, Tryd.ntmps6
      go_wp2_with (first | (go_at_call 4; refine HS.out.mono ?_; rintro e w' ⟨rfl, nq, rfl⟩) | (go_at_call 15; refine (HL.out _).mono ?_; rintro e w' ⟨rfl, rfl⟩))
      all_goals (go_ret; exact ⟨rfl, nq, rfl⟩)
  · have hx2 : (R == H) = false := beq_eq_false_iff_ne.2 (by omega)
    cases neg
    all_goals
      go_enter Tryd.func6, Tryd.ntmps6
      go_wp2_with (first | (go_at_call 4; refine HS.out.mono ?_; rintro e w' ⟨rfl, nq, rfl⟩) | (go_at_call 15; refine (HL.out _).mono ?_; rintro e w' ⟨rfl, rfl⟩))
      all_goals (go_ret; exact ⟨rfl, nq, rfl⟩)
end Go.Proofs.YtfloeiagdegpjaaDoor.Dw
