/- math/bits.TrailingZeros64, package float's ldexp and Split: what each call comes to, way by way. -/
import Derived.Test.YtfloeiagdegpjaaDoorDl
import Derived.Test.YtfloeiagdegpjaaDoorDg
import Derived.WalkKit
import Derived.ProofKit
import Derived.RegionTactic
import Derived.Deep.QuietTactic
import Derived.BigQuiet
import Derived.Laws.Bits64b
import Derived.Lib.TrailingZeros
import Derived.Lib.Hide
namespace Go.Proofs.YtfloeiagdegpjaaDoor.Dw
open Go.RowKit
set_option linter.unusedVariables false
set_option linter.unusedSimpArgs false
theorem tz_core (x k idx : Nat) (w : World) (hx0 : ((x : Int) == 0) = false)
    (key : IntKind.u64.wrap (bits BinOp.and IntKind.u64 (x : Int) (IntKind.u64.wrap (-(x : Int))) * 285870213051353865) / 288230376151711744 = (idx : Int))
    (hi : idx < 64) (hk : k < 64) (hcell : w.cell? ⟨0, idx, none⟩ = some (.int .u8 k)) :
    Calls Tryd.prog 9 #[.int .u64 x] w fun e w' => e = .returned (.int .i64 k) ∧ w' = w := by
  go_enter Tryd.func9, Tryd.ntmps9
  go_wp2_with (simp only [key])
  go_ret
  exact ⟨rfl, rfl⟩
theorem len64_at (m t : Int) (w : World) (h0 : 0 ≤ m) (h1 : m ≤ 18446744073709551615) (ht : (Lib.bitLen m.toNat : Int) = t + 1) :
    Calls Tryd.prog 32 #[.int .u64 m] w fun e w' => e = .returned (.int .i64 (t + 1)) ∧ w = w' :=
  (len64_calls m w h0 h1).mono fun e w' ⟨h, hw⟩ => ⟨by rw [h, ht], hw.symm⟩

theorem ldexp_zero (n : Int) (w : World) : Calls Tryd.prog 15 #[.int .u64 0, .int .i64 n] w fun e w' => e = .returned (.int .u64 0) ∧ w = w' := by
  go_enter Tryd.func15, Tryd.ntmps15
  go_wp2
  go_ret
  exact ⟨rfl, rfl⟩

theorem ldexp_inf (m n t : Int) (w : World) (h0 : (m == 0) = false) (h1 : 0 ≤ m) (h2 : m ≤ 9007199254740992) (ht : (Lib.bitLen m.toNat : Int) = t + 1) (t0 : 0 ≤ t) (t1 : t ≤ 53) (n0 : -100000 ≤ n) (n1 : n ≤ 100000) (hc : 1023 < t + n) :
    Calls Tryd.prog 15 #[.int .u64 m, .int .i64 n] w fun e w' => e = .returned (.int .u64 9218868437227405312) ∧ w = w' := by
  have H := Lib.hid ht
  clear ht
  go_enter Tryd.func15, Tryd.ntmps15
  go_wp2_with (go_at_call 32; refine (len64_at m t _ (by omega) (by omega) H.out).mono ?_; rintro e w' ⟨rfl, rfl⟩)
  go_ret
  exact ⟨rfl, rfl⟩

theorem ldexp_sub (m n t : Int) (w : World) (h0 : (m == 0) = false) (h1 : 0 ≤ m) (h2 : m ≤ 9007199254740992) (ht : (Lib.bitLen m.toNat : Int) = t + 1) (t0 : 0 ≤ t) (t1 : t ≤ 53) (n0 : -1074 ≤ n) (n1 : n ≤ 100000) (hc : t + n < -1022) :
    Calls Tryd.prog 15 #[.int .u64 m, .int .i64 n] w fun e w' => e = .returned (.int .u64 (IntKind.u64.wrap (m * 2 ^ (n + 1074).toNat))) ∧ w = w' := by
  have H := Lib.hid ht
  clear ht
  go_enter Tryd.func15, Tryd.ntmps15
  go_wp2_with (go_at_call 32; refine (len64_at m t _ (by omega) (by omega) H.out).mono ?_; rintro e w' ⟨rfl, rfl⟩)
  go_ret
  exact ⟨rfl, rfl⟩

theorem ldexp_norm (m n t : Int) (w : World) (h0 : (m == 0) = false) (h1 : 0 ≤ m) (h2 : m ≤ 9007199254740992) (ht : (Lib.bitLen m.toNat : Int) = t + 1) (t0 : 0 ≤ t) (t1 : t ≤ 52) (n0 : -1074 ≤ n) (n1 : n ≤ 100000) (hc : -1022 ≤ t + n) (hd : t + n ≤ 1023) :
    Calls Tryd.prog 15 #[.int .u64 m, .int .i64 n] w fun e w' => e = .returned (.int .u64 (bits .or .u64 ((t + n + 1023) * 4503599627370496) (bits .and .u64 (IntKind.u64.wrap (m * 2 ^ (52 - t).toNat)) 4503599627370495))) ∧ w = w' := by
  have H := Lib.hid ht
  clear ht
  go_enter Tryd.func15, Tryd.ntmps15
  go_wp2_with (go_at_call 32; refine (len64_at m t _ (by omega) (by omega) H.out).mono ?_; rintro e w' ⟨rfl, rfl⟩)
  go_ret
  exact ⟨rfl, rfl⟩

theorem split_odd (b : Int) (w : World) (h0 : 0 ≤ b) (h1 : b < 18446744073709551616) (e1 : bits .and .i64 (b / 4503599627370496) 2047 = 2047) :
    Calls Tryd.prog 4 #[.int .u64 b] w fun e w' => e = .returned (.tuple #[.bool false, .int .u64 0, .int .i64 0, .bool false]) ∧ w = w' := by
  go_enter Tryd.func4, Tryd.ntmps4
  go_wp2_with (simp only [e1])
  exact bodyPost_ret (v := .tuple #[.bool false, .int .u64 0, .int .i64 0, .bool false]) (by simp [results, Tryd.results4, go_sem]) rfl ⟨rfl, rfl⟩

theorem split_zero (b : Int) (w : World) (h0 : 0 ≤ b) (h1 : b < 18446744073709551616) (e1 : bits .and .i64 (b / 4503599627370496) 2047 = 0) (e2 : bits .and .u64 b 4503599627370495 = 0) :
    Calls Tryd.prog 4 #[.int .u64 b] w fun e w' => e = .returned (.tuple #[.bool (b / 9223372036854775808 == 1), .int .u64 0, .int .i64 0, .bool true]) ∧ w = w' := by
  go_enter Tryd.func4, Tryd.ntmps4
  go_wp2_with (simp only [e1, e2])
  exact bodyPost_ret (v := .tuple #[.bool (b / 9223372036854775808 == 1), .int .u64 0, .int .i64 0, .bool true]) (by simp [results, Tryd.results4, go_sem]) rfl ⟨rfl, rfl⟩


theorem split_low (b fr k : Int) (w : World) (h0 : 0 ≤ b) (h1 : b < 18446744073709551616) (e1 : bits .and .i64 (b / 4503599627370496) 2047 = 0) (e2 : bits .and .u64 b 4503599627370495 = fr) (hf : (fr == 0) = false) (f0 : 0 ≤ fr) (f1 : fr < 4503599627370496) (k0 : 0 ≤ k) (k1 : k < 64)
    (hc : Calls Tryd.prog 9 #[.int .u64 fr] w fun e w' => e = .returned (.int .i64 k) ∧ w = w') :
    Calls Tryd.prog 4 #[.int .u64 b] w (SomeDrawn (.returned (.tuple #[.bool (b / 9223372036854775808 == 1), .int .u64 (fr / 2 ^ k.toNat), .int .i64 (-1074 + k), .bool true])) w) := by
  have HC := Lib.hid hc
  clear hc
  go_enter Tryd.func4, Tryd.ntmps4
  go_wp2_with (first | simp only [e1, e2] | (go_at_call 9; refine HC.out.mono ?_; rintro e w' ⟨rfl, rfl⟩))
  go_quiet (fail)
  go_wp2_with fail
  exact bodyPost_ret (v := .tuple #[.bool (b / 9223372036854775808 == 1), .int .u64 (fr / 2 ^ k.toNat), .int .i64 (-1074 + k), .bool true]) (by simp [results, Tryd.results4, go_sem]) rfl ⟨rfl, ⟨_, rfl⟩⟩

theorem split_high (b fd fr m k : Int) (w : World) (h0 : 0 ≤ b) (h1 : b < 18446744073709551616) (e1 : bits .and .i64 (b / 4503599627370496) 2047 = fd) (e2 : bits .and .u64 b 4503599627370495 = fr) (e3 : bits .or .u64 fr 4503599627370496 = m)
    (d0 : 0 < fd) (d1 : fd < 2047) (d2 : (fd == 2047) = false) (hf : (m == 0) = false) (f0 : 0 ≤ m) (f1 : m < 9007199254740992) (k0 : 0 ≤ k) (k1 : k < 64)
    (hc : Calls Tryd.prog 9 #[.int .u64 m] w fun e w' => e = .returned (.int .i64 k) ∧ w = w') :
    Calls Tryd.prog 4 #[.int .u64 b] w (SomeDrawn (.returned (.tuple #[.bool (b / 9223372036854775808 == 1), .int .u64 (m / 2 ^ k.toNat), .int .i64 (fd - 1 - 1074 + k), .bool true])) w) := by
  have HC := Lib.hid hc
  clear hc
  go_enter Tryd.func4, Tryd.ntmps4
  go_wp2_with (first | simp only [e1, e2, e3] | (go_at_call 9; refine HC.out.mono ?_; rintro e w' ⟨rfl, rfl⟩))
  go_quiet (fail)
  go_wp2_with fail
  exact bodyPost_ret (v := .tuple #[.bool (b / 9223372036854775808 == 1), .int .u64 (m / 2 ^ k.toNat), .int .i64 (fd - 1 - 1074 + k), .bool true]) (by simp [results, Tryd.results4, go_sem]) rfl ⟨rfl, ⟨_, rfl⟩⟩
end Go.Proofs.YtfloeiagdegpjaaDoor.Dw
