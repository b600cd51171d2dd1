/- The law FloatTurns: what its body comes to, as a Lean function over the rows that it is handed. The walk began as print.sh's text for this function, over the float functions of YtfloeiagdegpjaaSt. -/
import Derived.Test.YtfloeiagdegpjaaSt
import Derived.Test.YtfloeiagdegpjaaRe
namespace Go.Proofs.Ytfloeiagdegpjaa.LTurns
open Go.RowKit Go.Proofs.YtfloeiagdegpjaaW.PrintWords Go.Proofs.YtfloeiagdegpjaaW.PrintLast Go.Proofs.YtfloeiagdegpjaaW.PrintMore Go.Proofs.Ytfloeiagdegpjaa.Rf
attribute [local go_sem] max2_int min2_int max_two min_two max_three min_three max_four min_four
set_option linter.unusedVariables false
set_option linter.unusedSimpArgs false

/-! #### struct type 39 -/
structure S39 where
  f0 : Int
  f1 : Int
def z39 : S39 := ⟨(0 : Int), (0 : Int)⟩
def k39 : Kd S39 := Kd.iso (Kd.pair (Kd.int .u64) (Kd.int .u64)) (fun x : S39 => (x.f0, x.f1))
theorem k39_open {w : World} {x : S39} {cs : List Value} (h : k39.K w x cs) : cs = [.int .u64 x.f0, .int .u64 x.f1] := by
  obtain ⟨_, _, rfl, rfl, rfl⟩ := h
  exact rfl
theorem k39_openM {w : World} {base : Nat} {ok : Nat → Prop} {x : S39} {cs : List Value} (h : k39.M w base ok x cs) : cs = [.int .u64 x.f0, .int .u64 x.f1] := by
  obtain ⟨_, _, rfl, rfl, rfl⟩ := h
  exact rfl
theorem k39_mk (w : World) (x : S39)  : k39.K w x [.int .u64 x.f0, .int .u64 x.f1] := ⟨[.int .u64 x.f0], [.int .u64 x.f1], rfl, rfl, rfl⟩
theorem k39_mkM (w : World) (base : Nat) (ok : Nat → Prop) (x : S39)  : k39.M w base ok x [.int .u64 x.f0, .int .u64 x.f1] := ⟨[.int .u64 x.f0], [.int .u64 x.f1], rfl, rfl, rfl⟩
def rd_T39 (xs : List S39) (i : Int) : S39 := xs.getD i.toNat z39
theorem at_T39 {w : World} {A : Option Addr} {n : Nat} {xs : List S39} (h : Kd.C k39 w A n xs) (i : Int) (h0 : 0 ≤ i) (h1 : i < n) : ∃ ad , A = some ad ∧ w.cell? (ad.add (i.toNat * 2)) = some (.int .u64 (rd_T39 xs i).f0) ∧ w.cell? ⟨(ad.add (i.toNat * 2)).block, (ad.add (i.toNat * 2)).off + 1, none⟩ = some (.int .u64 (rd_T39 xs i).f1) := by
  obtain ⟨ad, c, e, _, hK, hc0⟩ := Kd.C_get h z39 i h0 h1
  have hc : ∀ j u, c[j]? = some u → w.cell? (ad.add (i.toNat * 2 + j)) = some u := hc0
  obtain rfl := k39_open hK
  exact ⟨ad, e, hc 0 _ rfl, by rw [← add_field _ _ 1 (by omega)]; exact hc 1 _ rfl⟩


/-! ### fathomlaw3_FloatTurns: function 14 -/
mutual
def fathomlaw3_FloatTurns.l0 : Nat → List (S39) → Int → Option (Bool)
  | 0, _, _ => none
  | k + 1, x0, x3 => if x3 < (x0.length : Int) then (fathomlaw3_FloatTurns.j1 k x0 x3 (decide (x3 < 2000))) else (fathomlaw3_FloatTurns.j1 k x0 x3 false)
def fathomlaw3_FloatTurns.j1 : Nat → List (S39) → Int → Bool → Option (Bool)
  | 0, _, _, _ => none
  | k + 1, x0, x3, x14 => if x14 = true then (if 0 ≤ x3 then (if x3 < (x0.length : Int) then ((float_Add_uint64.f ((rd_T39 x0 x3).f0) ((rd_T39 x0 x3).f1)).bind fun t106 => ((float_Add_uint64.f ((rd_T39 x0 x3).f1) ((rd_T39 x0 x3).f0)).bind fun t107 => (if t106 = t107 then ((float_Mul_uint64.f ((rd_T39 x0 x3).f0) ((rd_T39 x0 x3).f1)).bind fun t108 => ((float_Mul_uint64.f ((rd_T39 x0 x3).f1) ((rd_T39 x0 x3).f0)).bind fun t109 => (if t108 = t109 then ((float_Fma.f ((rd_T39 x0 x3).f0) ((rd_T39 x0 x3).f1) ((rd_T39 x0 x3).f0)).bind fun t110 => ((float_Fma.f ((rd_T39 x0 x3).f1) ((rd_T39 x0 x3).f0) ((rd_T39 x0 x3).f0)).bind fun t111 => (fathomlaw3_FloatTurns.j2 k x0 x3 ((rd_T39 x0 x3).f0) ((rd_T39 x0 x3).f1) (t110 != t111)))) else (fathomlaw3_FloatTurns.j2 k x0 x3 ((rd_T39 x0 x3).f0) ((rd_T39 x0 x3).f1) true)))) else (fathomlaw3_FloatTurns.j2 k x0 x3 ((rd_T39 x0 x3).f0) ((rd_T39 x0 x3).f1) true)))) else (none)) else (none)) else ((fathomlaw3_wakes.f).bind fun t103 => (some t103))
def fathomlaw3_FloatTurns.j2 : Nat → List (S39) → Int → Int → Int → Bool → Option (Bool)
  | 0, _, _, _, _, _ => none
  | k + 1, x0, x3, x4, x5, x53 => if x53 = true then (some false) else ((float_Sub_uint64.f x4 x5).bind fun t112 => ((float_Add_uint64.f x4 (Go.bits .xor .u64 x5 9223372036854775808)).bind fun t113 => (if t112 = t113 then ((fathomlaw3_finite.f x4).bind fun t114 => (if t114 = true then ((float_Sub_uint64.f x4 x4).bind fun t115 => (if t115 = 0 then ((fathomlaw3_nan.f x4).bind fun t116 => (if t116 = true then ((float_Add_uint64.f x4 x5).bind fun t117 => (if t117 = 9221120237041090560 then ((float_Div_uint64.f x4 x5).bind fun t118 => (fathomlaw3_FloatTurns.j3 k x0 x3 x4 (t118 != 9221120237041090560))) else (fathomlaw3_FloatTurns.j3 k x0 x3 x4 true))) else ((fathomlaw3_nan.f x5).bind fun t119 => (if t119 = true then ((float_Add_uint64.f x4 x5).bind fun t120 => (if t120 = 9221120237041090560 then ((float_Div_uint64.f x4 x5).bind fun t121 => (fathomlaw3_FloatTurns.j3 k x0 x3 x4 (t121 != 9221120237041090560))) else (fathomlaw3_FloatTurns.j3 k x0 x3 x4 true))) else (fathomlaw3_FloatTurns.j3 k x0 x3 x4 false))))) else (fathomlaw3_FloatTurns.j3 k x0 x3 x4 true))) else ((fathomlaw3_nan.f x4).bind fun t122 => (if t122 = true then ((float_Add_uint64.f x4 x5).bind fun t123 => (if t123 = 9221120237041090560 then ((float_Div_uint64.f x4 x5).bind fun t124 => (fathomlaw3_FloatTurns.j3 k x0 x3 x4 (t124 != 9221120237041090560))) else (fathomlaw3_FloatTurns.j3 k x0 x3 x4 true))) else ((fathomlaw3_nan.f x5).bind fun t125 => (if t125 = true then ((float_Add_uint64.f x4 x5).bind fun t126 => (if t126 = 9221120237041090560 then ((float_Div_uint64.f x4 x5).bind fun t127 => (fathomlaw3_FloatTurns.j3 k x0 x3 x4 (t127 != 9221120237041090560))) else (fathomlaw3_FloatTurns.j3 k x0 x3 x4 true))) else (fathomlaw3_FloatTurns.j3 k x0 x3 x4 false))))))) else (fathomlaw3_FloatTurns.j3 k x0 x3 x4 true))))
def fathomlaw3_FloatTurns.j3 : Nat → List (S39) → Int → Int → Bool → Option (Bool)
  | 0, _, _, _, _ => none
  | k + 1, x0, x3, x4, x91 => if x91 = true then (some false) else ((float_Class_uint32.f ((x4 / 4294967296) % 4294967296)).bind fun t128 => (if t128 = 5 then (fathomlaw3_FloatTurns.j4 k x0 x3 x4 false) else ((float_Widen.f ((x4 / 4294967296) % 4294967296)).bind fun t129 => ((float_Narrow.f t129).bind fun t130 => (fathomlaw3_FloatTurns.j4 k x0 x3 x4 (t130 != ((x4 / 4294967296) % 4294967296)))))))
def fathomlaw3_FloatTurns.j4 : Nat → List (S39) → Int → Int → Bool → Option (Bool)
  | 0, _, _, _, _ => none
  | k + 1, x0, x3, x4, x104 => if x104 = true then (some false) else ((fathomlaw3_finite.f x4).bind fun t131 => (if t131 = true then ((float_Mul_uint64.f x4 4611686018427387904).bind fun t132 => ((fathomlaw3_finite.f t132).bind fun t133 => (if t133 = true then ((float_Mul_uint64.f x4 4611686018427387904).bind fun t134 => ((float_Add_uint64.f x4 x4).bind fun t135 => (if t134 = t135 then (fathomlaw3_FloatTurns.l0 k x0 (wrap64 (x3 + 1))) else (some false)))) else (fathomlaw3_FloatTurns.l0 k x0 (wrap64 (x3 + 1)))))) else (fathomlaw3_FloatTurns.l0 k x0 (wrap64 (x3 + 1)))))
end
def fathomlaw3_FloatTurns.f (k : Nat) (l0 : List (S39)) : Option (Bool) := fathomlaw3_FloatTurns.l0 k l0 0
theorem fathomlaw3_FloatTurns.mono_l : ∀ k, (∀ y0 y1, LeO (fathomlaw3_FloatTurns.l0 k y0 y1) (fathomlaw3_FloatTurns.l0 (k + 1) y0 y1)) ∧ (∀ y0 y1 y2, LeO (fathomlaw3_FloatTurns.j1 k y0 y1 y2) (fathomlaw3_FloatTurns.j1 (k + 1) y0 y1 y2)) ∧ (∀ y0 y1 y2 y3 y4, LeO (fathomlaw3_FloatTurns.j2 k y0 y1 y2 y3 y4) (fathomlaw3_FloatTurns.j2 (k + 1) y0 y1 y2 y3 y4)) ∧ (∀ y0 y1 y2 y3, LeO (fathomlaw3_FloatTurns.j3 k y0 y1 y2 y3) (fathomlaw3_FloatTurns.j3 (k + 1) y0 y1 y2 y3)) ∧ (∀ y0 y1 y2 y3, LeO (fathomlaw3_FloatTurns.j4 k y0 y1 y2 y3) (fathomlaw3_FloatTurns.j4 (k + 1) y0 y1 y2 y3))
  | 0 => ⟨fun _ _ r h => by simp [fathomlaw3_FloatTurns.l0] at h, fun _ _ _ r h => by simp [fathomlaw3_FloatTurns.j1] at h, fun _ _ _ _ _ r h => by simp [fathomlaw3_FloatTurns.j2] at h, fun _ _ _ _ r h => by simp [fathomlaw3_FloatTurns.j3] at h, fun _ _ _ _ r h => by simp [fathomlaw3_FloatTurns.j4] at h⟩
  | k + 1 => by
    obtain ⟨ih0, ih1, ih2, ih3, ih4⟩ := fathomlaw3_FloatTurns.mono_l k
    refine ⟨?_, ?_, ?_, ?_, ?_⟩
    · intro y0 y1
      unfold fathomlaw3_FloatTurns.l0
      repeat' first
      | (with_reducible exact ih0 _ _)
      | (with_reducible exact ih1 _ _ _)
      | (with_reducible exact ih2 _ _ _ _ _)
      | (with_reducible exact ih3 _ _ _ _)
      | (with_reducible exact ih4 _ _ _ _)
      | (with_reducible exact LeO.refl _)
      | (with_reducible exact LeO.none _)
      | (with_reducible refine LeO.ite ?_ ?_)
      | (with_reducible refine LeO.bind ?_ (fun _ => ?_))
      | exact ih0 _ _
      | exact ih1 _ _ _
      | exact ih2 _ _ _ _ _
      | exact ih3 _ _ _ _
      | exact ih4 _ _ _ _
      | exact LeO.none _
      | refine LeO.ite ?_ ?_
      | refine LeO.bind ?_ (fun _ => ?_)
    · intro y0 y1 y2
      unfold fathomlaw3_FloatTurns.j1
      repeat' first
      | (with_reducible exact ih0 _ _)
      | (with_reducible exact ih1 _ _ _)
      | (with_reducible exact ih2 _ _ _ _ _)
      | (with_reducible exact ih3 _ _ _ _)
      | (with_reducible exact ih4 _ _ _ _)
      | (with_reducible exact LeO.refl _)
      | (with_reducible exact LeO.none _)
      | (with_reducible refine LeO.ite ?_ ?_)
      | (with_reducible refine LeO.bind ?_ (fun _ => ?_))
      | exact ih0 _ _
      | exact ih1 _ _ _
      | exact ih2 _ _ _ _ _
      | exact ih3 _ _ _ _
      | exact ih4 _ _ _ _
      | exact LeO.none _
      | refine LeO.ite ?_ ?_
      | refine LeO.bind ?_ (fun _ => ?_)
    · intro y0 y1 y2 y3 y4
      unfold fathomlaw3_FloatTurns.j2
      repeat' first
      | (with_reducible exact ih0 _ _)
      | (with_reducible exact ih1 _ _ _)
      | (with_reducible exact ih2 _ _ _ _ _)
      | (with_reducible exact ih3 _ _ _ _)
      | (with_reducible exact ih4 _ _ _ _)
      | (with_reducible exact LeO.refl _)
      | (with_reducible exact LeO.none _)
      | (with_reducible refine LeO.ite ?_ ?_)
      | (with_reducible refine LeO.bind ?_ (fun _ => ?_))
      | exact ih0 _ _
      | exact ih1 _ _ _
      | exact ih2 _ _ _ _ _
      | exact ih3 _ _ _ _
      | exact ih4 _ _ _ _
      | exact LeO.none _
      | refine LeO.ite ?_ ?_
      | refine LeO.bind ?_ (fun _ => ?_)
    · intro y0 y1 y2 y3
      unfold fathomlaw3_FloatTurns.j3
      repeat' first
      | (with_reducible exact ih0 _ _)
      | (with_reducible exact ih1 _ _ _)
      | (with_reducible exact ih2 _ _ _ _ _)
      | (with_reducible exact ih3 _ _ _ _)
      | (with_reducible exact ih4 _ _ _ _)
      | (with_reducible exact LeO.refl _)
      | (with_reducible exact LeO.none _)
      | (with_reducible refine LeO.ite ?_ ?_)
      | (with_reducible refine LeO.bind ?_ (fun _ => ?_))
      | exact ih0 _ _
      | exact ih1 _ _ _
      | exact ih2 _ _ _ _ _
      | exact ih3 _ _ _ _
      | exact ih4 _ _ _ _
      | exact LeO.none _
      | refine LeO.ite ?_ ?_
      | refine LeO.bind ?_ (fun _ => ?_)
    · intro y0 y1 y2 y3
      unfold fathomlaw3_FloatTurns.j4
      repeat' first
      | (with_reducible exact ih0 _ _)
      | (with_reducible exact ih1 _ _ _)
      | (with_reducible exact ih2 _ _ _ _ _)
      | (with_reducible exact ih3 _ _ _ _)
      | (with_reducible exact ih4 _ _ _ _)
      | (with_reducible exact LeO.refl _)
      | (with_reducible exact LeO.none _)
      | (with_reducible refine LeO.ite ?_ ?_)
      | (with_reducible refine LeO.bind ?_ (fun _ => ?_))
      | exact ih0 _ _
      | exact ih1 _ _ _
      | exact ih2 _ _ _ _ _
      | exact ih3 _ _ _ _
      | exact ih4 _ _ _ _
      | exact LeO.none _
      | refine LeO.ite ?_ ?_
      | refine LeO.bind ?_ (fun _ => ?_)
theorem fathomlaw3_FloatTurns.mono : ∀ a0 k, LeO (fathomlaw3_FloatTurns.f k a0) (fathomlaw3_FloatTurns.f (k + 1) a0) := by
  intro a0 k
  obtain ⟨ih0, ih1, ih2, ih3, ih4⟩ := fathomlaw3_FloatTurns.mono_l k
  unfold fathomlaw3_FloatTurns.f
  repeat' first
      | (with_reducible exact ih0 _ _)
      | (with_reducible exact ih1 _ _ _)
      | (with_reducible exact ih2 _ _ _ _ _)
      | (with_reducible exact ih3 _ _ _ _)
      | (with_reducible exact ih4 _ _ _ _)
      | (with_reducible exact LeO.refl _)
      | (with_reducible exact LeO.none _)
      | (with_reducible refine LeO.ite ?_ ?_)
      | (with_reducible refine LeO.bind ?_ (fun _ => ?_))
      | exact ih0 _ _
      | exact ih1 _ _ _
      | exact ih2 _ _ _ _ _
      | exact ih3 _ _ _ _
      | exact ih4 _ _ _ _
      | exact LeO.none _
      | refine LeO.ite ?_ ?_
      | refine LeO.bind ?_ (fun _ => ?_)
set_option maxHeartbeats 8000000 in
set_option maxRecDepth 100000 in
theorem fathomlaw3_FloatTurns.calls (k : Nat) (A0 : Option Addr) (c0 : Nat) (l0 : List (S39)) (r : Bool) (w : World) (hr0 : Kd.C k39 w A0 l0.length l0) (hc0 : l0.length ≤ c0) (h : fathomlaw3_FloatTurns.f k l0 = some r) :
    Calls Try.prog 14 #[.slice A0 l0.length c0] w fun e w' => e = .returned (.bool r) ∧ Below w.heap.size w w' := by
  have HR0 := Aside0.mk hr0
  have HC0 := Aside0.mk hc0
  clear hr0 hc0
  have HB := Aside0.mk (Below.refl w.heap.size w)
  have H : (fathomlaw3_FloatTurns.l0 k l0 0) = some r := h
  clear h
  have H' := Aside0.mk H
  clear H
  go_enter Try.func14, Try.ntmps14
  go_wp2
  go_loopg [3] k (fun kq v3 w' => ∃ (x3_1 : Int), v3 = .int .i64 x3_1 ∧ Aside0 (fathomlaw3_FloatTurns.l0 kq l0 x3_1 = some r) ∧ Aside0 (kq ≤ k) ∧ Aside0 (Below w.heap.size w w'))
  case atStart => exact ⟨(0), (by first | rfl | (simp; done) | (simp [*]; done)), H', ⟨Nat.le_refl _⟩, ⟨by repeat (first | (with_reducible first | exact HB.out | apply below_alloc | apply pw_below_drewN | apply below_drew1) | exact HB.out)⟩⟩
  case round =>
    clear H'
    try clear c1
    obtain ⟨x3_1, rfl, HA, HK1, HB⟩ := hrel
    cases gk with
    | zero => exact absurd HA.out (by simp [fathomlaw3_FloatTurns.l0])
    | succ k1 =>
      have H := HA.out
      clear HA
      simp only [fathomlaw3_FloatTurns.l0] at H
      have HC2 := Aside0.mk H
      clear H
      go_upto_region 2 with (fail)
      go_cut [14] (fun v14 wc => ∃ (kq : Nat) (x14_1 : Bool), v14 = .bool x14_1 ∧ Aside0 (fathomlaw3_FloatTurns.j1 kq l0 x3_1 x14_1 = some r) ∧ Aside0 (kq ≤ k1) ∧ Aside0 (Below w.heap.size w wc))
      case first =>
        have H := HC2.out
        clear HC2
        by_cases c3 : x3_1 < (l0.length : Int)
        · rw [if_pos c3] at H
          have c3b0 : decide (x3_1 < (l0.length : Int)) = true := decide_eq_true c3
          clear c3
          (first | rw [c3b0] | (simp only [i64_w, i32_w]; rw [c3b0]) | skip)
          have H' := Aside0.mk H
          clear H
          go_wp2
          go_meet
          case rel => exact ⟨_, (decide (x3_1 < 2000)), (by first | rfl | (simp; done) | (simp [*]; done)), H', ⟨by have := HK1.out; first | omega | exact Nat.le_refl _⟩, ⟨by repeat (first | (with_reducible first | exact HB.out | apply below_alloc | apply pw_below_drewN | apply below_drew1) | exact HB.out)⟩⟩
        · rw [if_neg c3] at H
          have c3b0 : decide (x3_1 < (l0.length : Int)) = false := decide_eq_false c3
          clear c3
          (first | rw [c3b0] | (simp only [i64_w, i32_w]; rw [c3b0]) | skip)
          have H' := Aside0.mk H
          clear H
          go_wp2
          go_meet
          case rel => exact ⟨_, (false), (by first | rfl | (simp; done) | (simp [*]; done)), H', ⟨by have := HK1.out; first | omega | exact Nat.le_refl _⟩, ⟨by repeat (first | (with_reducible first | exact HB.out | apply below_alloc | apply pw_below_drewN | apply below_drew1) | exact HB.out)⟩⟩
      case rest =>
        clear HC2
        try clear c1
        try clear p2
        try clear c3
        try clear c3b0
        obtain ⟨kq, x14_1, rfl, HA, HJ1, HB⟩ := hcut
        cases kq with
        | zero => exact absurd HA.out (by simp [fathomlaw3_FloatTurns.j1])
        | succ kj1 =>
          have H := HA.out
          clear HA
          simp only [fathomlaw3_FloatTurns.j1] at H
          by_cases c4 : x14_1 = true
          · subst c4
            have H1 : (if 0 ≤ x3_1 then (if x3_1 < (l0.length : Int) then ((float_Add_uint64.f ((rd_T39 l0 x3_1).f0) ((rd_T39 l0 x3_1).f1)).bind fun t106 => ((float_Add_uint64.f ((rd_T39 l0 x3_1).f1) ((rd_T39 l0 x3_1).f0)).bind fun t107 => (if t106 = t107 then ((float_Mul_uint64.f ((rd_T39 l0 x3_1).f0) ((rd_T39 l0 x3_1).f1)).bind fun t108 => ((float_Mul_uint64.f ((rd_T39 l0 x3_1).f1) ((rd_T39 l0 x3_1).f0)).bind fun t109 => (if t108 = t109 then ((float_Fma.f ((rd_T39 l0 x3_1).f0) ((rd_T39 l0 x3_1).f1) ((rd_T39 l0 x3_1).f0)).bind fun t110 => ((float_Fma.f ((rd_T39 l0 x3_1).f1) ((rd_T39 l0 x3_1).f0) ((rd_T39 l0 x3_1).f0)).bind fun t111 => (fathomlaw3_FloatTurns.j2 kj1 l0 x3_1 ((rd_T39 l0 x3_1).f0) ((rd_T39 l0 x3_1).f1) (t110 != t111)))) else (fathomlaw3_FloatTurns.j2 kj1 l0 x3_1 ((rd_T39 l0 x3_1).f0) ((rd_T39 l0 x3_1).f1) true)))) else (fathomlaw3_FloatTurns.j2 kj1 l0 x3_1 ((rd_T39 l0 x3_1).f0) ((rd_T39 l0 x3_1).f1) true)))) else (none)) else (none)) = some r := by rw [if_pos rfl] at H; exact H
            clear H
            have H := H1
            clear H1
            by_cases c5 : 0 ≤ x3_1
            · rw [if_pos c5] at H
              have c5b0 : decide (0 ≤ x3_1) = true := decide_eq_true c5
              clear c5
              by_cases c6 : x3_1 < (l0.length : Int)
              · rw [if_pos c6] at H
                have c6b0 : decide (x3_1 < (l0.length : Int)) = true := decide_eq_true c6
                clear c6
                have HC7 := Aside0.mk H
                clear H
                have p104 : 0 ≤ (x3_1 : Int) := of_decide_eq_true (by first | (with_reducible assumption) | assumption)
                have q104 : x3_1 < (l0.length : Int) := of_decide_eq_true (by first | (with_reducible assumption) | assumption)
                obtain ⟨ad104, e104, hx104_0, hx104_1⟩ := at_T39 HR0.out x3_1 p104 q104
                cases e104
                replace hx104_0 := (HB.out.cell (World.block_lt_of_cell? w _ hx104_0)).trans hx104_0
                replace hx104_1 := (HB.out.cell (World.block_lt_of_cell? w _ hx104_1)).trans hx104_1
                replace p104 := eq_true p104
                replace q104 := eq_true q104
                have p105 : 0 ≤ (x3_1 : Int) := of_decide_eq_true (by first | (with_reducible assumption) | assumption)
                have q105 : x3_1 < (l0.length : Int) := of_decide_eq_true (by first | (with_reducible assumption) | assumption)
                obtain ⟨ad105, e105, hx105_0, hx105_1⟩ := at_T39 HR0.out x3_1 p105 q105
                obtain rfl : ad104 = ad105 := (by injection e105)
                replace hx105_0 := (HB.out.cell (World.block_lt_of_cell? w _ hx105_0)).trans hx105_0
                replace hx105_1 := (HB.out.cell (World.block_lt_of_cell? w _ hx105_1)).trans hx105_1
                replace p105 := eq_true p105
                replace q105 := eq_true q105
                go_upto_region 6 with (fail)
                go_cut [53] (fun v53 wc => ∃ (kq : Nat) (x53_6 : Bool), v53 = .bool x53_6 ∧ Aside0 (fathomlaw3_FloatTurns.j2 kq l0 x3_1 ((rd_T39 l0 x3_1).f0) ((rd_T39 l0 x3_1).f1) x53_6 = some r) ∧ Aside0 (kq ≤ kj1) ∧ Aside0 (Below w.heap.size w wc))
                case first =>
                  have H := HC7.out
                  clear HC7
                  replace H := Option.bind_eq_some_iff.mp H
                  obtain ⟨t106, A80, H⟩ := H
                  replace H : ((float_Add_uint64.f ((rd_T39 l0 x3_1).f1) ((rd_T39 l0 x3_1).f0)).bind fun t107 => (if t106 = t107 then ((float_Mul_uint64.f ((rd_T39 l0 x3_1).f0) ((rd_T39 l0 x3_1).f1)).bind fun t108 => ((float_Mul_uint64.f ((rd_T39 l0 x3_1).f1) ((rd_T39 l0 x3_1).f0)).bind fun t109 => (if t108 = t109 then ((float_Fma.f ((rd_T39 l0 x3_1).f0) ((rd_T39 l0 x3_1).f1) ((rd_T39 l0 x3_1).f0)).bind fun t110 => ((float_Fma.f ((rd_T39 l0 x3_1).f1) ((rd_T39 l0 x3_1).f0) ((rd_T39 l0 x3_1).f0)).bind fun t111 => (fathomlaw3_FloatTurns.j2 kj1 l0 x3_1 ((rd_T39 l0 x3_1).f0) ((rd_T39 l0 x3_1).f1) (t110 != t111)))) else (fathomlaw3_FloatTurns.j2 kj1 l0 x3_1 ((rd_T39 l0 x3_1).f0) ((rd_T39 l0 x3_1).f1) true)))) else (fathomlaw3_FloatTurns.j2 kj1 l0 x3_1 ((rd_T39 l0 x3_1).f0) ((rd_T39 l0 x3_1).f1) true))) = some r := H
                  have A8 := Aside0.mk A80
                  clear A80
                  replace H := Option.bind_eq_some_iff.mp H
                  obtain ⟨t107, A90, H⟩ := H
                  replace H : (if t106 = t107 then ((float_Mul_uint64.f ((rd_T39 l0 x3_1).f0) ((rd_T39 l0 x3_1).f1)).bind fun t108 => ((float_Mul_uint64.f ((rd_T39 l0 x3_1).f1) ((rd_T39 l0 x3_1).f0)).bind fun t109 => (if t108 = t109 then ((float_Fma.f ((rd_T39 l0 x3_1).f0) ((rd_T39 l0 x3_1).f1) ((rd_T39 l0 x3_1).f0)).bind fun t110 => ((float_Fma.f ((rd_T39 l0 x3_1).f1) ((rd_T39 l0 x3_1).f0) ((rd_T39 l0 x3_1).f0)).bind fun t111 => (fathomlaw3_FloatTurns.j2 kj1 l0 x3_1 ((rd_T39 l0 x3_1).f0) ((rd_T39 l0 x3_1).f1) (t110 != t111)))) else (fathomlaw3_FloatTurns.j2 kj1 l0 x3_1 ((rd_T39 l0 x3_1).f0) ((rd_T39 l0 x3_1).f1) true)))) else (fathomlaw3_FloatTurns.j2 kj1 l0 x3_1 ((rd_T39 l0 x3_1).f0) ((rd_T39 l0 x3_1).f1) true)) = some r := H
                  have A9 := Aside0.mk A90
                  clear A90
                  by_cases c10 : t106 = t107
                  · rw [if_pos c10] at H
                    have c10b0 : (t106 == t107) = true := beq_iff_eq.mpr c10
                    have c10b1 : (t106 != t107) = false := bne_eq_false_iff_eq.mpr c10
                    clear c10
                    (first | rw [c10b0] | (simp only [i64_w, i32_w]; rw [c10b0]) | skip)
                    replace H := Option.bind_eq_some_iff.mp H
                    obtain ⟨t108, A110, H⟩ := H
                    replace H : ((float_Mul_uint64.f ((rd_T39 l0 x3_1).f1) ((rd_T39 l0 x3_1).f0)).bind fun t109 => (if t108 = t109 then ((float_Fma.f ((rd_T39 l0 x3_1).f0) ((rd_T39 l0 x3_1).f1) ((rd_T39 l0 x3_1).f0)).bind fun t110 => ((float_Fma.f ((rd_T39 l0 x3_1).f1) ((rd_T39 l0 x3_1).f0) ((rd_T39 l0 x3_1).f0)).bind fun t111 => (fathomlaw3_FloatTurns.j2 kj1 l0 x3_1 ((rd_T39 l0 x3_1).f0) ((rd_T39 l0 x3_1).f1) (t110 != t111)))) else (fathomlaw3_FloatTurns.j2 kj1 l0 x3_1 ((rd_T39 l0 x3_1).f0) ((rd_T39 l0 x3_1).f1) true))) = some r := H
                    have A11 := Aside0.mk A110
                    clear A110
                    replace H := Option.bind_eq_some_iff.mp H
                    obtain ⟨t109, A120, H⟩ := H
                    replace H : (if t108 = t109 then ((float_Fma.f ((rd_T39 l0 x3_1).f0) ((rd_T39 l0 x3_1).f1) ((rd_T39 l0 x3_1).f0)).bind fun t110 => ((float_Fma.f ((rd_T39 l0 x3_1).f1) ((rd_T39 l0 x3_1).f0) ((rd_T39 l0 x3_1).f0)).bind fun t111 => (fathomlaw3_FloatTurns.j2 kj1 l0 x3_1 ((rd_T39 l0 x3_1).f0) ((rd_T39 l0 x3_1).f1) (t110 != t111)))) else (fathomlaw3_FloatTurns.j2 kj1 l0 x3_1 ((rd_T39 l0 x3_1).f0) ((rd_T39 l0 x3_1).f1) true)) = some r := H
                    have A12 := Aside0.mk A120
                    clear A120
                    by_cases c13 : t108 = t109
                    · rw [if_pos c13] at H
                      have c13b0 : (t108 == t109) = true := beq_iff_eq.mpr c13
                      have c13b1 : (t108 != t109) = false := bne_eq_false_iff_eq.mpr c13
                      clear c13
                      replace H := Option.bind_eq_some_iff.mp H
                      obtain ⟨t110, A140, H⟩ := H
                      replace H : ((float_Fma.f ((rd_T39 l0 x3_1).f1) ((rd_T39 l0 x3_1).f0) ((rd_T39 l0 x3_1).f0)).bind fun t111 => (fathomlaw3_FloatTurns.j2 kj1 l0 x3_1 ((rd_T39 l0 x3_1).f0) ((rd_T39 l0 x3_1).f1) (t110 != t111))) = some r := H
                      have A14 := Aside0.mk A140
                      clear A140
                      replace H := Option.bind_eq_some_iff.mp H
                      obtain ⟨t111, A150, H⟩ := H
                      replace H : (fathomlaw3_FloatTurns.j2 kj1 l0 x3_1 ((rd_T39 l0 x3_1).f0) ((rd_T39 l0 x3_1).f1) (t110 != t111)) = some r := H
                      have A15 := Aside0.mk A150
                      clear A150
                      have H' := Aside0.mk H
                      clear H
                      go_wp2_with (first | ((with_reducible refine gate_callee (f := 75) rfl ?_); refine goesL_ (some 29) rfl rfl Try.func75 (by kernel_rfl) rfl #[.int .u64 ((rd_T39 l0 x3_1).f0), .int .u64 ((rd_T39 l0 x3_1).f1)] rfl (by (try simp only [List.map_toArray, List.map_cons, List.map_nil]); first | done | rfl | (simp only [List.length_drop, List.length_take]; rfl) | (simp only [gt_iff_lt, Int.natCast_pos]; rfl)) ?_; (with_reducible refine (float_Add_uint64.calls ((rd_T39 l0 x3_1).f0) ((rd_T39 l0 x3_1).f1) t106 _ A8.out).mono ?_); rintro e w' ⟨rfl, ⟨nd, rfl⟩⟩; refine ⟨_, rfl, ?_⟩) | ((with_reducible refine gate_callee (f := 75) rfl ?_); refine goesL_ (some 32) rfl rfl Try.func75 (by kernel_rfl) rfl #[.int .u64 ((rd_T39 l0 x3_1).f1), .int .u64 ((rd_T39 l0 x3_1).f0)] rfl (by (try simp only [List.map_toArray, List.map_cons, List.map_nil]); first | done | rfl | (simp only [List.length_drop, List.length_take]; rfl) | (simp only [gt_iff_lt, Int.natCast_pos]; rfl)) ?_; (with_reducible refine (float_Add_uint64.calls ((rd_T39 l0 x3_1).f1) ((rd_T39 l0 x3_1).f0) t107 _ A9.out).mono ?_); rintro e w' ⟨rfl, ⟨nd, rfl⟩⟩; refine ⟨_, rfl, ?_⟩) | (go_at_call 76; (with_reducible refine (float_Mul_uint64.calls ((rd_T39 l0 x3_1).f0) ((rd_T39 l0 x3_1).f1) t108 _ A11.out).mono ?_); rintro e w' ⟨rfl, ⟨nd, rfl⟩⟩) | (go_at_call 76; (with_reducible refine (float_Mul_uint64.calls ((rd_T39 l0 x3_1).f1) ((rd_T39 l0 x3_1).f0) t109 _ A12.out).mono ?_); rintro e w' ⟨rfl, ⟨nd, rfl⟩⟩) | (go_at_call 81; (with_reducible refine (float_Fma.calls ((rd_T39 l0 x3_1).f0) ((rd_T39 l0 x3_1).f1) ((rd_T39 l0 x3_1).f0) t110 _ A14.out).mono ?_); rintro e w' ⟨rfl, ⟨nd, rfl⟩⟩) | (go_at_call 81; (with_reducible refine (float_Fma.calls ((rd_T39 l0 x3_1).f1) ((rd_T39 l0 x3_1).f0) ((rd_T39 l0 x3_1).f0) t111 _ A15.out).mono ?_); rintro e w' ⟨rfl, ⟨nd, rfl⟩⟩))
                      go_meet
                      case rel => exact ⟨_, ((t110 != t111)), (by first | rfl | (simp; done) | (simp [*]; done)), H', ⟨by have := HK1.out; have := HJ1.out; first | omega | exact Nat.le_refl _⟩, ⟨by repeat (first | (with_reducible first | exact HB.out | apply below_alloc | apply pw_below_drewN | apply below_drew1) | exact HB.out)⟩⟩
                    · rw [if_neg c13] at H
                      have c13b0 : (t108 == t109) = false := beq_eq_false_iff_ne.mpr c13
                      have c13b1 : (t108 != t109) = true := bne_iff_ne.mpr c13
                      have H' := Aside0.mk H
                      clear H
                      go_wp2_with (first | ((with_reducible refine gate_callee (f := 75) rfl ?_); refine goesL_ (some 29) rfl rfl Try.func75 (by kernel_rfl) rfl #[.int .u64 ((rd_T39 l0 x3_1).f0), .int .u64 ((rd_T39 l0 x3_1).f1)] rfl (by (try simp only [List.map_toArray, List.map_cons, List.map_nil]); first | done | rfl | (simp only [List.length_drop, List.length_take]; rfl) | (simp only [gt_iff_lt, Int.natCast_pos]; rfl)) ?_; (with_reducible refine (float_Add_uint64.calls ((rd_T39 l0 x3_1).f0) ((rd_T39 l0 x3_1).f1) t106 _ A8.out).mono ?_); rintro e w' ⟨rfl, ⟨nd, rfl⟩⟩; refine ⟨_, rfl, ?_⟩) | ((with_reducible refine gate_callee (f := 75) rfl ?_); refine goesL_ (some 32) rfl rfl Try.func75 (by kernel_rfl) rfl #[.int .u64 ((rd_T39 l0 x3_1).f1), .int .u64 ((rd_T39 l0 x3_1).f0)] rfl (by (try simp only [List.map_toArray, List.map_cons, List.map_nil]); first | done | rfl | (simp only [List.length_drop, List.length_take]; rfl) | (simp only [gt_iff_lt, Int.natCast_pos]; rfl)) ?_; (with_reducible refine (float_Add_uint64.calls ((rd_T39 l0 x3_1).f1) ((rd_T39 l0 x3_1).f0) t107 _ A9.out).mono ?_); rintro e w' ⟨rfl, ⟨nd, rfl⟩⟩; refine ⟨_, rfl, ?_⟩) | (go_at_call 76; (with_reducible refine (float_Mul_uint64.calls ((rd_T39 l0 x3_1).f0) ((rd_T39 l0 x3_1).f1) t108 _ A11.out).mono ?_); rintro e w' ⟨rfl, ⟨nd, rfl⟩⟩) | (go_at_call 76; (with_reducible refine (float_Mul_uint64.calls ((rd_T39 l0 x3_1).f1) ((rd_T39 l0 x3_1).f0) t109 _ A12.out).mono ?_); rintro e w' ⟨rfl, ⟨nd, rfl⟩⟩))
                      go_meet
                      case rel => exact ⟨_, (true), (by first | rfl | (simp; done) | (simp [*]; done)), H', ⟨by have := HK1.out; have := HJ1.out; first | omega | exact Nat.le_refl _⟩, ⟨by repeat (first | (with_reducible first | exact HB.out | apply below_alloc | apply pw_below_drewN | apply below_drew1) | exact HB.out)⟩⟩
                  · rw [if_neg c10] at H
                    have c10b0 : (t106 == t107) = false := beq_eq_false_iff_ne.mpr c10
                    have c10b1 : (t106 != t107) = true := bne_iff_ne.mpr c10
                    (first | rw [c10b0] | (simp only [i64_w, i32_w]; rw [c10b0]) | skip)
                    have H' := Aside0.mk H
                    clear H
                    go_wp2_with (first | ((with_reducible refine gate_callee (f := 75) rfl ?_); refine goesL_ (some 29) rfl rfl Try.func75 (by kernel_rfl) rfl #[.int .u64 ((rd_T39 l0 x3_1).f0), .int .u64 ((rd_T39 l0 x3_1).f1)] rfl (by (try simp only [List.map_toArray, List.map_cons, List.map_nil]); first | done | rfl | (simp only [List.length_drop, List.length_take]; rfl) | (simp only [gt_iff_lt, Int.natCast_pos]; rfl)) ?_; (with_reducible refine (float_Add_uint64.calls ((rd_T39 l0 x3_1).f0) ((rd_T39 l0 x3_1).f1) t106 _ A8.out).mono ?_); rintro e w' ⟨rfl, ⟨nd, rfl⟩⟩; refine ⟨_, rfl, ?_⟩) | ((with_reducible refine gate_callee (f := 75) rfl ?_); refine goesL_ (some 32) rfl rfl Try.func75 (by kernel_rfl) rfl #[.int .u64 ((rd_T39 l0 x3_1).f1), .int .u64 ((rd_T39 l0 x3_1).f0)] rfl (by (try simp only [List.map_toArray, List.map_cons, List.map_nil]); first | done | rfl | (simp only [List.length_drop, List.length_take]; rfl) | (simp only [gt_iff_lt, Int.natCast_pos]; rfl)) ?_; (with_reducible refine (float_Add_uint64.calls ((rd_T39 l0 x3_1).f1) ((rd_T39 l0 x3_1).f0) t107 _ A9.out).mono ?_); rintro e w' ⟨rfl, ⟨nd, rfl⟩⟩; refine ⟨_, rfl, ?_⟩))
                    go_meet
                    case rel => exact ⟨_, (true), (by first | rfl | (simp; done) | (simp [*]; done)), H', ⟨by have := HK1.out; have := HJ1.out; first | omega | exact Nat.le_refl _⟩, ⟨by repeat (first | (with_reducible first | exact HB.out | apply below_alloc | apply pw_below_drewN | apply below_drew1) | exact HB.out)⟩⟩
                case rest =>
                  clear HC7
                  try clear c1
                  try clear p1
                  try clear q1
                  try clear hx1
                  try clear p2
                  try clear c3
                  try clear c3b0
                  try clear c4
                  try clear c5
                  try clear c5b0
                  try clear c6
                  try clear c6b0
                  try clear c7
                  try clear c10
                  try clear c10b0
                  try clear c10b1
                  try clear p10
                  try clear q10
                  try clear hx10
                  try clear c13
                  try clear c13b0
                  try clear c13b1
                  try clear c14
                  try clear hx104_0
                  try clear hx104_1
                  try clear hx105_0
                  try clear hx105_1
                  try clear p104
                  try clear p105
                  try clear p2
                  try clear q104
                  try clear q105
                  obtain ⟨kq, x53_6, rfl, HA, HJ6, HB⟩ := hcut
                  cases kq with
                  | zero => exact absurd HA.out (by simp [fathomlaw3_FloatTurns.j2])
                  | succ kj6 =>
                    have H := HA.out
                    clear HA
                    simp only [fathomlaw3_FloatTurns.j2] at H
                    by_cases c16 : x53_6 = true
                    · subst c16
                      have H1 : (some false) = some r := by rw [if_pos rfl] at H; exact H
                      clear H
                      have H := H1
                      clear H1
                      obtain rfl := Option.some.inj H
                      go_wp2
                      go_ret
                      exact ⟨by first | rfl | (simp [errW_none, errW_some] <;> rfl) | (simp [*, errW_none, errW_some] <;> rfl), by repeat (first | (with_reducible first | exact HB.out | apply below_alloc | apply pw_below_drewN | apply below_drew1) | exact HB.out)⟩
                    · replace c16 := Bool.eq_false_iff.mpr c16
                      subst c16
                      have H1 : ((float_Sub_uint64.f ((rd_T39 l0 x3_1).f0) ((rd_T39 l0 x3_1).f1)).bind fun t112 => ((float_Add_uint64.f ((rd_T39 l0 x3_1).f0) (Go.bits .xor .u64 ((rd_T39 l0 x3_1).f1) 9223372036854775808)).bind fun t113 => (if t112 = t113 then ((fathomlaw3_finite.f ((rd_T39 l0 x3_1).f0)).bind fun t114 => (if t114 = true then ((float_Sub_uint64.f ((rd_T39 l0 x3_1).f0) ((rd_T39 l0 x3_1).f0)).bind fun t115 => (if t115 = 0 then ((fathomlaw3_nan.f ((rd_T39 l0 x3_1).f0)).bind fun t116 => (if t116 = true then ((float_Add_uint64.f ((rd_T39 l0 x3_1).f0) ((rd_T39 l0 x3_1).f1)).bind fun t117 => (if t117 = 9221120237041090560 then ((float_Div_uint64.f ((rd_T39 l0 x3_1).f0) ((rd_T39 l0 x3_1).f1)).bind fun t118 => (fathomlaw3_FloatTurns.j3 kj6 l0 x3_1 ((rd_T39 l0 x3_1).f0) (t118 != 9221120237041090560))) else (fathomlaw3_FloatTurns.j3 kj6 l0 x3_1 ((rd_T39 l0 x3_1).f0) true))) else ((fathomlaw3_nan.f ((rd_T39 l0 x3_1).f1)).bind fun t119 => (if t119 = true then ((float_Add_uint64.f ((rd_T39 l0 x3_1).f0) ((rd_T39 l0 x3_1).f1)).bind fun t120 => (if t120 = 9221120237041090560 then ((float_Div_uint64.f ((rd_T39 l0 x3_1).f0) ((rd_T39 l0 x3_1).f1)).bind fun t121 => (fathomlaw3_FloatTurns.j3 kj6 l0 x3_1 ((rd_T39 l0 x3_1).f0) (t121 != 9221120237041090560))) else (fathomlaw3_FloatTurns.j3 kj6 l0 x3_1 ((rd_T39 l0 x3_1).f0) true))) else (fathomlaw3_FloatTurns.j3 kj6 l0 x3_1 ((rd_T39 l0 x3_1).f0) false))))) else (fathomlaw3_FloatTurns.j3 kj6 l0 x3_1 ((rd_T39 l0 x3_1).f0) true))) else ((fathomlaw3_nan.f ((rd_T39 l0 x3_1).f0)).bind fun t122 => (if t122 = true then ((float_Add_uint64.f ((rd_T39 l0 x3_1).f0) ((rd_T39 l0 x3_1).f1)).bind fun t123 => (if t123 = 9221120237041090560 then ((float_Div_uint64.f ((rd_T39 l0 x3_1).f0) ((rd_T39 l0 x3_1).f1)).bind fun t124 => (fathomlaw3_FloatTurns.j3 kj6 l0 x3_1 ((rd_T39 l0 x3_1).f0) (t124 != 9221120237041090560))) else (fathomlaw3_FloatTurns.j3 kj6 l0 x3_1 ((rd_T39 l0 x3_1).f0) true))) else ((fathomlaw3_nan.f ((rd_T39 l0 x3_1).f1)).bind fun t125 => (if t125 = true then ((float_Add_uint64.f ((rd_T39 l0 x3_1).f0) ((rd_T39 l0 x3_1).f1)).bind fun t126 => (if t126 = 9221120237041090560 then ((float_Div_uint64.f ((rd_T39 l0 x3_1).f0) ((rd_T39 l0 x3_1).f1)).bind fun t127 => (fathomlaw3_FloatTurns.j3 kj6 l0 x3_1 ((rd_T39 l0 x3_1).f0) (t127 != 9221120237041090560))) else (fathomlaw3_FloatTurns.j3 kj6 l0 x3_1 ((rd_T39 l0 x3_1).f0) true))) else (fathomlaw3_FloatTurns.j3 kj6 l0 x3_1 ((rd_T39 l0 x3_1).f0) false))))))) else (fathomlaw3_FloatTurns.j3 kj6 l0 x3_1 ((rd_T39 l0 x3_1).f0) true)))) = some r := by rw [if_neg (show ¬ (false = true) by decide)] at H; exact H
                      clear H
                      have H := H1
                      clear H1
                      have HC17 := Aside0.mk H
                      clear H
                      go_upto_region 8 with (fail)
                      go_cut [91] (fun v91 wc => ∃ (kq : Nat) (x91_16 : Bool), v91 = .bool x91_16 ∧ Aside0 (fathomlaw3_FloatTurns.j3 kq l0 x3_1 ((rd_T39 l0 x3_1).f0) x91_16 = some r) ∧ Aside0 (kq ≤ kj6) ∧ Aside0 (Below w.heap.size w wc))
                      case first =>
                        have H := HC17.out
                        clear HC17
                        replace H := Option.bind_eq_some_iff.mp H
                        obtain ⟨t112, A180, H⟩ := H
                        replace H : ((float_Add_uint64.f ((rd_T39 l0 x3_1).f0) (Go.bits .xor .u64 ((rd_T39 l0 x3_1).f1) 9223372036854775808)).bind fun t113 => (if t112 = t113 then ((fathomlaw3_finite.f ((rd_T39 l0 x3_1).f0)).bind fun t114 => (if t114 = true then ((float_Sub_uint64.f ((rd_T39 l0 x3_1).f0) ((rd_T39 l0 x3_1).f0)).bind fun t115 => (if t115 = 0 then ((fathomlaw3_nan.f ((rd_T39 l0 x3_1).f0)).bind fun t116 => (if t116 = true then ((float_Add_uint64.f ((rd_T39 l0 x3_1).f0) ((rd_T39 l0 x3_1).f1)).bind fun t117 => (if t117 = 9221120237041090560 then ((float_Div_uint64.f ((rd_T39 l0 x3_1).f0) ((rd_T39 l0 x3_1).f1)).bind fun t118 => (fathomlaw3_FloatTurns.j3 kj6 l0 x3_1 ((rd_T39 l0 x3_1).f0) (t118 != 9221120237041090560))) else (fathomlaw3_FloatTurns.j3 kj6 l0 x3_1 ((rd_T39 l0 x3_1).f0) true))) else ((fathomlaw3_nan.f ((rd_T39 l0 x3_1).f1)).bind fun t119 => (if t119 = true then ((float_Add_uint64.f ((rd_T39 l0 x3_1).f0) ((rd_T39 l0 x3_1).f1)).bind fun t120 => (if t120 = 9221120237041090560 then ((float_Div_uint64.f ((rd_T39 l0 x3_1).f0) ((rd_T39 l0 x3_1).f1)).bind fun t121 => (fathomlaw3_FloatTurns.j3 kj6 l0 x3_1 ((rd_T39 l0 x3_1).f0) (t121 != 9221120237041090560))) else (fathomlaw3_FloatTurns.j3 kj6 l0 x3_1 ((rd_T39 l0 x3_1).f0) true))) else (fathomlaw3_FloatTurns.j3 kj6 l0 x3_1 ((rd_T39 l0 x3_1).f0) false))))) else (fathomlaw3_FloatTurns.j3 kj6 l0 x3_1 ((rd_T39 l0 x3_1).f0) true))) else ((fathomlaw3_nan.f ((rd_T39 l0 x3_1).f0)).bind fun t122 => (if t122 = true then ((float_Add_uint64.f ((rd_T39 l0 x3_1).f0) ((rd_T39 l0 x3_1).f1)).bind fun t123 => (if t123 = 9221120237041090560 then ((float_Div_uint64.f ((rd_T39 l0 x3_1).f0) ((rd_T39 l0 x3_1).f1)).bind fun t124 => (fathomlaw3_FloatTurns.j3 kj6 l0 x3_1 ((rd_T39 l0 x3_1).f0) (t124 != 9221120237041090560))) else (fathomlaw3_FloatTurns.j3 kj6 l0 x3_1 ((rd_T39 l0 x3_1).f0) true))) else ((fathomlaw3_nan.f ((rd_T39 l0 x3_1).f1)).bind fun t125 => (if t125 = true then ((float_Add_uint64.f ((rd_T39 l0 x3_1).f0) ((rd_T39 l0 x3_1).f1)).bind fun t126 => (if t126 = 9221120237041090560 then ((float_Div_uint64.f ((rd_T39 l0 x3_1).f0) ((rd_T39 l0 x3_1).f1)).bind fun t127 => (fathomlaw3_FloatTurns.j3 kj6 l0 x3_1 ((rd_T39 l0 x3_1).f0) (t127 != 9221120237041090560))) else (fathomlaw3_FloatTurns.j3 kj6 l0 x3_1 ((rd_T39 l0 x3_1).f0) true))) else (fathomlaw3_FloatTurns.j3 kj6 l0 x3_1 ((rd_T39 l0 x3_1).f0) false))))))) else (fathomlaw3_FloatTurns.j3 kj6 l0 x3_1 ((rd_T39 l0 x3_1).f0) true))) = some r := H
                        have A18 := Aside0.mk A180
                        clear A180
                        replace H := Option.bind_eq_some_iff.mp H
                        obtain ⟨t113, A190, H⟩ := H
                        replace H : (if t112 = t113 then ((fathomlaw3_finite.f ((rd_T39 l0 x3_1).f0)).bind fun t114 => (if t114 = true then ((float_Sub_uint64.f ((rd_T39 l0 x3_1).f0) ((rd_T39 l0 x3_1).f0)).bind fun t115 => (if t115 = 0 then ((fathomlaw3_nan.f ((rd_T39 l0 x3_1).f0)).bind fun t116 => (if t116 = true then ((float_Add_uint64.f ((rd_T39 l0 x3_1).f0) ((rd_T39 l0 x3_1).f1)).bind fun t117 => (if t117 = 9221120237041090560 then ((float_Div_uint64.f ((rd_T39 l0 x3_1).f0) ((rd_T39 l0 x3_1).f1)).bind fun t118 => (fathomlaw3_FloatTurns.j3 kj6 l0 x3_1 ((rd_T39 l0 x3_1).f0) (t118 != 9221120237041090560))) else (fathomlaw3_FloatTurns.j3 kj6 l0 x3_1 ((rd_T39 l0 x3_1).f0) true))) else ((fathomlaw3_nan.f ((rd_T39 l0 x3_1).f1)).bind fun t119 => (if t119 = true then ((float_Add_uint64.f ((rd_T39 l0 x3_1).f0) ((rd_T39 l0 x3_1).f1)).bind fun t120 => (if t120 = 9221120237041090560 then ((float_Div_uint64.f ((rd_T39 l0 x3_1).f0) ((rd_T39 l0 x3_1).f1)).bind fun t121 => (fathomlaw3_FloatTurns.j3 kj6 l0 x3_1 ((rd_T39 l0 x3_1).f0) (t121 != 9221120237041090560))) else (fathomlaw3_FloatTurns.j3 kj6 l0 x3_1 ((rd_T39 l0 x3_1).f0) true))) else (fathomlaw3_FloatTurns.j3 kj6 l0 x3_1 ((rd_T39 l0 x3_1).f0) false))))) else (fathomlaw3_FloatTurns.j3 kj6 l0 x3_1 ((rd_T39 l0 x3_1).f0) true))) else ((fathomlaw3_nan.f ((rd_T39 l0 x3_1).f0)).bind fun t122 => (if t122 = true then ((float_Add_uint64.f ((rd_T39 l0 x3_1).f0) ((rd_T39 l0 x3_1).f1)).bind fun t123 => (if t123 = 9221120237041090560 then ((float_Div_uint64.f ((rd_T39 l0 x3_1).f0) ((rd_T39 l0 x3_1).f1)).bind fun t124 => (fathomlaw3_FloatTurns.j3 kj6 l0 x3_1 ((rd_T39 l0 x3_1).f0) (t124 != 9221120237041090560))) else (fathomlaw3_FloatTurns.j3 kj6 l0 x3_1 ((rd_T39 l0 x3_1).f0) true))) else ((fathomlaw3_nan.f ((rd_T39 l0 x3_1).f1)).bind fun t125 => (if t125 = true then ((float_Add_uint64.f ((rd_T39 l0 x3_1).f0) ((rd_T39 l0 x3_1).f1)).bind fun t126 => (if t126 = 9221120237041090560 then ((float_Div_uint64.f ((rd_T39 l0 x3_1).f0) ((rd_T39 l0 x3_1).f1)).bind fun t127 => (fathomlaw3_FloatTurns.j3 kj6 l0 x3_1 ((rd_T39 l0 x3_1).f0) (t127 != 9221120237041090560))) else (fathomlaw3_FloatTurns.j3 kj6 l0 x3_1 ((rd_T39 l0 x3_1).f0) true))) else (fathomlaw3_FloatTurns.j3 kj6 l0 x3_1 ((rd_T39 l0 x3_1).f0) false))))))) else (fathomlaw3_FloatTurns.j3 kj6 l0 x3_1 ((rd_T39 l0 x3_1).f0) true)) = some r := H
                        have A19 := Aside0.mk A190
                        clear A190
                        by_cases c20 : t112 = t113
                        · rw [if_pos c20] at H
                          have c20b0 : (t112 == t113) = true := beq_iff_eq.mpr c20
                          have c20b1 : (t112 != t113) = false := bne_eq_false_iff_eq.mpr c20
                          clear c20
                          (first | rw [c20b0] | (simp only [i64_w, i32_w]; rw [c20b0]) | skip)
                          replace H := Option.bind_eq_some_iff.mp H
                          obtain ⟨t114, A210, H⟩ := H
                          replace H : (if t114 = true then ((float_Sub_uint64.f ((rd_T39 l0 x3_1).f0) ((rd_T39 l0 x3_1).f0)).bind fun t115 => (if t115 = 0 then ((fathomlaw3_nan.f ((rd_T39 l0 x3_1).f0)).bind fun t116 => (if t116 = true then ((float_Add_uint64.f ((rd_T39 l0 x3_1).f0) ((rd_T39 l0 x3_1).f1)).bind fun t117 => (if t117 = 9221120237041090560 then ((float_Div_uint64.f ((rd_T39 l0 x3_1).f0) ((rd_T39 l0 x3_1).f1)).bind fun t118 => (fathomlaw3_FloatTurns.j3 kj6 l0 x3_1 ((rd_T39 l0 x3_1).f0) (t118 != 9221120237041090560))) else (fathomlaw3_FloatTurns.j3 kj6 l0 x3_1 ((rd_T39 l0 x3_1).f0) true))) else ((fathomlaw3_nan.f ((rd_T39 l0 x3_1).f1)).bind fun t119 => (if t119 = true then ((float_Add_uint64.f ((rd_T39 l0 x3_1).f0) ((rd_T39 l0 x3_1).f1)).bind fun t120 => (if t120 = 9221120237041090560 then ((float_Div_uint64.f ((rd_T39 l0 x3_1).f0) ((rd_T39 l0 x3_1).f1)).bind fun t121 => (fathomlaw3_FloatTurns.j3 kj6 l0 x3_1 ((rd_T39 l0 x3_1).f0) (t121 != 9221120237041090560))) else (fathomlaw3_FloatTurns.j3 kj6 l0 x3_1 ((rd_T39 l0 x3_1).f0) true))) else (fathomlaw3_FloatTurns.j3 kj6 l0 x3_1 ((rd_T39 l0 x3_1).f0) false))))) else (fathomlaw3_FloatTurns.j3 kj6 l0 x3_1 ((rd_T39 l0 x3_1).f0) true))) else ((fathomlaw3_nan.f ((rd_T39 l0 x3_1).f0)).bind fun t122 => (if t122 = true then ((float_Add_uint64.f ((rd_T39 l0 x3_1).f0) ((rd_T39 l0 x3_1).f1)).bind fun t123 => (if t123 = 9221120237041090560 then ((float_Div_uint64.f ((rd_T39 l0 x3_1).f0) ((rd_T39 l0 x3_1).f1)).bind fun t124 => (fathomlaw3_FloatTurns.j3 kj6 l0 x3_1 ((rd_T39 l0 x3_1).f0) (t124 != 9221120237041090560))) else (fathomlaw3_FloatTurns.j3 kj6 l0 x3_1 ((rd_T39 l0 x3_1).f0) true))) else ((fathomlaw3_nan.f ((rd_T39 l0 x3_1).f1)).bind fun t125 => (if t125 = true then ((float_Add_uint64.f ((rd_T39 l0 x3_1).f0) ((rd_T39 l0 x3_1).f1)).bind fun t126 => (if t126 = 9221120237041090560 then ((float_Div_uint64.f ((rd_T39 l0 x3_1).f0) ((rd_T39 l0 x3_1).f1)).bind fun t127 => (fathomlaw3_FloatTurns.j3 kj6 l0 x3_1 ((rd_T39 l0 x3_1).f0) (t127 != 9221120237041090560))) else (fathomlaw3_FloatTurns.j3 kj6 l0 x3_1 ((rd_T39 l0 x3_1).f0) true))) else (fathomlaw3_FloatTurns.j3 kj6 l0 x3_1 ((rd_T39 l0 x3_1).f0) false)))))) = some r := H
                          have A21 := Aside0.mk A210
                          clear A210
                          by_cases c22 : t114 = true
                          · subst c22
                            have H1 : ((float_Sub_uint64.f ((rd_T39 l0 x3_1).f0) ((rd_T39 l0 x3_1).f0)).bind fun t115 => (if t115 = 0 then ((fathomlaw3_nan.f ((rd_T39 l0 x3_1).f0)).bind fun t116 => (if t116 = true then ((float_Add_uint64.f ((rd_T39 l0 x3_1).f0) ((rd_T39 l0 x3_1).f1)).bind fun t117 => (if t117 = 9221120237041090560 then ((float_Div_uint64.f ((rd_T39 l0 x3_1).f0) ((rd_T39 l0 x3_1).f1)).bind fun t118 => (fathomlaw3_FloatTurns.j3 kj6 l0 x3_1 ((rd_T39 l0 x3_1).f0) (t118 != 9221120237041090560))) else (fathomlaw3_FloatTurns.j3 kj6 l0 x3_1 ((rd_T39 l0 x3_1).f0) true))) else ((fathomlaw3_nan.f ((rd_T39 l0 x3_1).f1)).bind fun t119 => (if t119 = true then ((float_Add_uint64.f ((rd_T39 l0 x3_1).f0) ((rd_T39 l0 x3_1).f1)).bind fun t120 => (if t120 = 9221120237041090560 then ((float_Div_uint64.f ((rd_T39 l0 x3_1).f0) ((rd_T39 l0 x3_1).f1)).bind fun t121 => (fathomlaw3_FloatTurns.j3 kj6 l0 x3_1 ((rd_T39 l0 x3_1).f0) (t121 != 9221120237041090560))) else (fathomlaw3_FloatTurns.j3 kj6 l0 x3_1 ((rd_T39 l0 x3_1).f0) true))) else (fathomlaw3_FloatTurns.j3 kj6 l0 x3_1 ((rd_T39 l0 x3_1).f0) false))))) else (fathomlaw3_FloatTurns.j3 kj6 l0 x3_1 ((rd_T39 l0 x3_1).f0) true))) = some r := by rw [if_pos rfl] at H; exact H
                            clear H
                            have H := H1
                            clear H1
                            replace H := Option.bind_eq_some_iff.mp H
                            obtain ⟨t115, A230, H⟩ := H
                            replace H : (if t115 = 0 then ((fathomlaw3_nan.f ((rd_T39 l0 x3_1).f0)).bind fun t116 => (if t116 = true then ((float_Add_uint64.f ((rd_T39 l0 x3_1).f0) ((rd_T39 l0 x3_1).f1)).bind fun t117 => (if t117 = 9221120237041090560 then ((float_Div_uint64.f ((rd_T39 l0 x3_1).f0) ((rd_T39 l0 x3_1).f1)).bind fun t118 => (fathomlaw3_FloatTurns.j3 kj6 l0 x3_1 ((rd_T39 l0 x3_1).f0) (t118 != 9221120237041090560))) else (fathomlaw3_FloatTurns.j3 kj6 l0 x3_1 ((rd_T39 l0 x3_1).f0) true))) else ((fathomlaw3_nan.f ((rd_T39 l0 x3_1).f1)).bind fun t119 => (if t119 = true then ((float_Add_uint64.f ((rd_T39 l0 x3_1).f0) ((rd_T39 l0 x3_1).f1)).bind fun t120 => (if t120 = 9221120237041090560 then ((float_Div_uint64.f ((rd_T39 l0 x3_1).f0) ((rd_T39 l0 x3_1).f1)).bind fun t121 => (fathomlaw3_FloatTurns.j3 kj6 l0 x3_1 ((rd_T39 l0 x3_1).f0) (t121 != 9221120237041090560))) else (fathomlaw3_FloatTurns.j3 kj6 l0 x3_1 ((rd_T39 l0 x3_1).f0) true))) else (fathomlaw3_FloatTurns.j3 kj6 l0 x3_1 ((rd_T39 l0 x3_1).f0) false))))) else (fathomlaw3_FloatTurns.j3 kj6 l0 x3_1 ((rd_T39 l0 x3_1).f0) true)) = some r := H
                            have A23 := Aside0.mk A230
                            clear A230
                            by_cases c24 : t115 = 0
                            · rw [if_pos c24] at H
                              have c24b0 : (t115 == 0) = true := beq_iff_eq.mpr c24
                              have c24b1 : (t115 != 0) = false := bne_eq_false_iff_eq.mpr c24
                              clear c24
                              replace H := Option.bind_eq_some_iff.mp H
                              obtain ⟨t116, A250, H⟩ := H
                              replace H : (if t116 = true then ((float_Add_uint64.f ((rd_T39 l0 x3_1).f0) ((rd_T39 l0 x3_1).f1)).bind fun t117 => (if t117 = 9221120237041090560 then ((float_Div_uint64.f ((rd_T39 l0 x3_1).f0) ((rd_T39 l0 x3_1).f1)).bind fun t118 => (fathomlaw3_FloatTurns.j3 kj6 l0 x3_1 ((rd_T39 l0 x3_1).f0) (t118 != 9221120237041090560))) else (fathomlaw3_FloatTurns.j3 kj6 l0 x3_1 ((rd_T39 l0 x3_1).f0) true))) else ((fathomlaw3_nan.f ((rd_T39 l0 x3_1).f1)).bind fun t119 => (if t119 = true then ((float_Add_uint64.f ((rd_T39 l0 x3_1).f0) ((rd_T39 l0 x3_1).f1)).bind fun t120 => (if t120 = 9221120237041090560 then ((float_Div_uint64.f ((rd_T39 l0 x3_1).f0) ((rd_T39 l0 x3_1).f1)).bind fun t121 => (fathomlaw3_FloatTurns.j3 kj6 l0 x3_1 ((rd_T39 l0 x3_1).f0) (t121 != 9221120237041090560))) else (fathomlaw3_FloatTurns.j3 kj6 l0 x3_1 ((rd_T39 l0 x3_1).f0) true))) else (fathomlaw3_FloatTurns.j3 kj6 l0 x3_1 ((rd_T39 l0 x3_1).f0) false)))) = some r := H
                              have A25 := Aside0.mk A250
                              clear A250
                              by_cases c26 : t116 = true
                              · subst c26
                                have H1 : ((float_Add_uint64.f ((rd_T39 l0 x3_1).f0) ((rd_T39 l0 x3_1).f1)).bind fun t117 => (if t117 = 9221120237041090560 then ((float_Div_uint64.f ((rd_T39 l0 x3_1).f0) ((rd_T39 l0 x3_1).f1)).bind fun t118 => (fathomlaw3_FloatTurns.j3 kj6 l0 x3_1 ((rd_T39 l0 x3_1).f0) (t118 != 9221120237041090560))) else (fathomlaw3_FloatTurns.j3 kj6 l0 x3_1 ((rd_T39 l0 x3_1).f0) true))) = some r := by rw [if_pos rfl] at H; exact H
                                clear H
                                have H := H1
                                clear H1
                                replace H := Option.bind_eq_some_iff.mp H
                                obtain ⟨t117, A270, H⟩ := H
                                replace H : (if t117 = 9221120237041090560 then ((float_Div_uint64.f ((rd_T39 l0 x3_1).f0) ((rd_T39 l0 x3_1).f1)).bind fun t118 => (fathomlaw3_FloatTurns.j3 kj6 l0 x3_1 ((rd_T39 l0 x3_1).f0) (t118 != 9221120237041090560))) else (fathomlaw3_FloatTurns.j3 kj6 l0 x3_1 ((rd_T39 l0 x3_1).f0) true)) = some r := H
                                have A27 := Aside0.mk A270
                                clear A270
                                by_cases c28 : t117 = 9221120237041090560
                                · rw [if_pos c28] at H
                                  have c28b0 : (t117 == 9221120237041090560) = true := beq_iff_eq.mpr c28
                                  have c28b1 : (t117 != 9221120237041090560) = false := bne_eq_false_iff_eq.mpr c28
                                  clear c28
                                  replace H := Option.bind_eq_some_iff.mp H
                                  obtain ⟨t118, A290, H⟩ := H
                                  replace H : (fathomlaw3_FloatTurns.j3 kj6 l0 x3_1 ((rd_T39 l0 x3_1).f0) (t118 != 9221120237041090560)) = some r := H
                                  have A29 := Aside0.mk A290
                                  clear A290
                                  have H' := Aside0.mk H
                                  clear H
                                  go_wp2_with (first | ((with_reducible refine gate_callee (f := 77) rfl ?_); refine goesL_ (some 56) rfl rfl Try.func77 (by kernel_rfl) rfl #[.int .u64 ((rd_T39 l0 x3_1).f0), .int .u64 ((rd_T39 l0 x3_1).f1)] rfl (by (try simp only [List.map_toArray, List.map_cons, List.map_nil]); first | done | rfl | (simp only [List.length_drop, List.length_take]; rfl) | (simp only [gt_iff_lt, Int.natCast_pos]; rfl)) ?_; (with_reducible refine (float_Sub_uint64.calls ((rd_T39 l0 x3_1).f0) ((rd_T39 l0 x3_1).f1) t112 _ A18.out).mono ?_); rintro e w' ⟨rfl, ⟨nd, rfl⟩⟩; refine ⟨_, rfl, ?_⟩) | ((with_reducible refine gate_callee (f := 75) rfl ?_); refine goesL_ (some 60) rfl rfl Try.func75 (by kernel_rfl) rfl #[.int .u64 ((rd_T39 l0 x3_1).f0), .int .u64 (Go.bits .xor .u64 ((rd_T39 l0 x3_1).f1) 9223372036854775808)] rfl (by (try simp only [List.map_toArray, List.map_cons, List.map_nil]); first | done | rfl | (simp only [List.length_drop, List.length_take]; rfl) | (simp only [gt_iff_lt, Int.natCast_pos]; rfl)) ?_; (with_reducible refine (float_Add_uint64.calls ((rd_T39 l0 x3_1).f0) (Go.bits .xor .u64 ((rd_T39 l0 x3_1).f1) 9223372036854775808) t113 _ A19.out).mono ?_); rintro e w' ⟨rfl, ⟨nd, rfl⟩⟩; refine ⟨_, rfl, ?_⟩) | (go_at_call 16; (with_reducible refine (fathomlaw3_finite.calls ((rd_T39 l0 x3_1).f0) true _ A21.out).mono ?_); rintro e w' ⟨rfl, ⟨nd, rfl⟩⟩) | (go_at_call 77; (with_reducible refine (float_Sub_uint64.calls ((rd_T39 l0 x3_1).f0) ((rd_T39 l0 x3_1).f0) t115 _ A23.out).mono ?_); rintro e w' ⟨rfl, ⟨nd, rfl⟩⟩) | (go_at_call 26; (with_reducible refine (fathomlaw3_nan.calls ((rd_T39 l0 x3_1).f0) true _ A25.out).mono ?_); rintro e w' ⟨rfl, ⟨nd, rfl⟩⟩) | (go_at_call 75; (with_reducible refine (float_Add_uint64.calls ((rd_T39 l0 x3_1).f0) ((rd_T39 l0 x3_1).f1) t117 _ A27.out).mono ?_); rintro e w' ⟨rfl, ⟨nd, rfl⟩⟩) | (go_at_call 25; (with_reducible refine (float_Div_uint64.calls ((rd_T39 l0 x3_1).f0) ((rd_T39 l0 x3_1).f1) t118 _ A29.out).mono ?_); rintro e w' ⟨rfl, ⟨nd, rfl⟩⟩))
                                  go_meet
                                  case rel => exact ⟨_, ((t118 != 9221120237041090560)), (by first | rfl | (simp; done) | (simp [*]; done)), H', ⟨by have := HK1.out; have := HJ1.out; have := HJ6.out; first | omega | exact Nat.le_refl _⟩, ⟨by repeat (first | (with_reducible first | exact HB.out | apply below_alloc | apply pw_below_drewN | apply below_drew1) | exact HB.out)⟩⟩
                                · rw [if_neg c28] at H
                                  have c28b0 : (t117 == 9221120237041090560) = false := beq_eq_false_iff_ne.mpr c28
                                  have c28b1 : (t117 != 9221120237041090560) = true := bne_iff_ne.mpr c28
                                  have H' := Aside0.mk H
                                  clear H
                                  go_wp2_with (first | ((with_reducible refine gate_callee (f := 77) rfl ?_); refine goesL_ (some 56) rfl rfl Try.func77 (by kernel_rfl) rfl #[.int .u64 ((rd_T39 l0 x3_1).f0), .int .u64 ((rd_T39 l0 x3_1).f1)] rfl (by (try simp only [List.map_toArray, List.map_cons, List.map_nil]); first | done | rfl | (simp only [List.length_drop, List.length_take]; rfl) | (simp only [gt_iff_lt, Int.natCast_pos]; rfl)) ?_; (with_reducible refine (float_Sub_uint64.calls ((rd_T39 l0 x3_1).f0) ((rd_T39 l0 x3_1).f1) t112 _ A18.out).mono ?_); rintro e w' ⟨rfl, ⟨nd, rfl⟩⟩; refine ⟨_, rfl, ?_⟩) | ((with_reducible refine gate_callee (f := 75) rfl ?_); refine goesL_ (some 60) rfl rfl Try.func75 (by kernel_rfl) rfl #[.int .u64 ((rd_T39 l0 x3_1).f0), .int .u64 (Go.bits .xor .u64 ((rd_T39 l0 x3_1).f1) 9223372036854775808)] rfl (by (try simp only [List.map_toArray, List.map_cons, List.map_nil]); first | done | rfl | (simp only [List.length_drop, List.length_take]; rfl) | (simp only [gt_iff_lt, Int.natCast_pos]; rfl)) ?_; (with_reducible refine (float_Add_uint64.calls ((rd_T39 l0 x3_1).f0) (Go.bits .xor .u64 ((rd_T39 l0 x3_1).f1) 9223372036854775808) t113 _ A19.out).mono ?_); rintro e w' ⟨rfl, ⟨nd, rfl⟩⟩; refine ⟨_, rfl, ?_⟩) | (go_at_call 16; (with_reducible refine (fathomlaw3_finite.calls ((rd_T39 l0 x3_1).f0) true _ A21.out).mono ?_); rintro e w' ⟨rfl, ⟨nd, rfl⟩⟩) | (go_at_call 77; (with_reducible refine (float_Sub_uint64.calls ((rd_T39 l0 x3_1).f0) ((rd_T39 l0 x3_1).f0) t115 _ A23.out).mono ?_); rintro e w' ⟨rfl, ⟨nd, rfl⟩⟩) | (go_at_call 26; (with_reducible refine (fathomlaw3_nan.calls ((rd_T39 l0 x3_1).f0) true _ A25.out).mono ?_); rintro e w' ⟨rfl, ⟨nd, rfl⟩⟩) | (go_at_call 75; (with_reducible refine (float_Add_uint64.calls ((rd_T39 l0 x3_1).f0) ((rd_T39 l0 x3_1).f1) t117 _ A27.out).mono ?_); rintro e w' ⟨rfl, ⟨nd, rfl⟩⟩))
                                  go_meet
                                  case rel => exact ⟨_, (true), (by first | rfl | (simp; done) | (simp [*]; done)), H', ⟨by have := HK1.out; have := HJ1.out; have := HJ6.out; first | omega | exact Nat.le_refl _⟩, ⟨by repeat (first | (with_reducible first | exact HB.out | apply below_alloc | apply pw_below_drewN | apply below_drew1) | exact HB.out)⟩⟩
                              · replace c26 := Bool.eq_false_iff.mpr c26
                                subst c26
                                have H1 : ((fathomlaw3_nan.f ((rd_T39 l0 x3_1).f1)).bind fun t119 => (if t119 = true then ((float_Add_uint64.f ((rd_T39 l0 x3_1).f0) ((rd_T39 l0 x3_1).f1)).bind fun t120 => (if t120 = 9221120237041090560 then ((float_Div_uint64.f ((rd_T39 l0 x3_1).f0) ((rd_T39 l0 x3_1).f1)).bind fun t121 => (fathomlaw3_FloatTurns.j3 kj6 l0 x3_1 ((rd_T39 l0 x3_1).f0) (t121 != 9221120237041090560))) else (fathomlaw3_FloatTurns.j3 kj6 l0 x3_1 ((rd_T39 l0 x3_1).f0) true))) else (fathomlaw3_FloatTurns.j3 kj6 l0 x3_1 ((rd_T39 l0 x3_1).f0) false))) = some r := by rw [if_neg (show ¬ (false = true) by decide)] at H; exact H
                                clear H
                                have H := H1
                                clear H1
                                replace H := Option.bind_eq_some_iff.mp H
                                obtain ⟨t119, A300, H⟩ := H
                                replace H : (if t119 = true then ((float_Add_uint64.f ((rd_T39 l0 x3_1).f0) ((rd_T39 l0 x3_1).f1)).bind fun t120 => (if t120 = 9221120237041090560 then ((float_Div_uint64.f ((rd_T39 l0 x3_1).f0) ((rd_T39 l0 x3_1).f1)).bind fun t121 => (fathomlaw3_FloatTurns.j3 kj6 l0 x3_1 ((rd_T39 l0 x3_1).f0) (t121 != 9221120237041090560))) else (fathomlaw3_FloatTurns.j3 kj6 l0 x3_1 ((rd_T39 l0 x3_1).f0) true))) else (fathomlaw3_FloatTurns.j3 kj6 l0 x3_1 ((rd_T39 l0 x3_1).f0) false)) = some r := H
                                have A30 := Aside0.mk A300
                                clear A300
                                by_cases c31 : t119 = true
                                · subst c31
                                  have H1 : ((float_Add_uint64.f ((rd_T39 l0 x3_1).f0) ((rd_T39 l0 x3_1).f1)).bind fun t120 => (if t120 = 9221120237041090560 then ((float_Div_uint64.f ((rd_T39 l0 x3_1).f0) ((rd_T39 l0 x3_1).f1)).bind fun t121 => (fathomlaw3_FloatTurns.j3 kj6 l0 x3_1 ((rd_T39 l0 x3_1).f0) (t121 != 9221120237041090560))) else (fathomlaw3_FloatTurns.j3 kj6 l0 x3_1 ((rd_T39 l0 x3_1).f0) true))) = some r := by rw [if_pos rfl] at H; exact H
                                  clear H
                                  have H := H1
                                  clear H1
                                  replace H := Option.bind_eq_some_iff.mp H
                                  obtain ⟨t120, A320, H⟩ := H
                                  replace H : (if t120 = 9221120237041090560 then ((float_Div_uint64.f ((rd_T39 l0 x3_1).f0) ((rd_T39 l0 x3_1).f1)).bind fun t121 => (fathomlaw3_FloatTurns.j3 kj6 l0 x3_1 ((rd_T39 l0 x3_1).f0) (t121 != 9221120237041090560))) else (fathomlaw3_FloatTurns.j3 kj6 l0 x3_1 ((rd_T39 l0 x3_1).f0) true)) = some r := H
                                  have A32 := Aside0.mk A320
                                  clear A320
                                  by_cases c33 : t120 = 9221120237041090560
                                  · rw [if_pos c33] at H
                                    have c33b0 : (t120 == 9221120237041090560) = true := beq_iff_eq.mpr c33
                                    have c33b1 : (t120 != 9221120237041090560) = false := bne_eq_false_iff_eq.mpr c33
                                    clear c33
                                    replace H := Option.bind_eq_some_iff.mp H
                                    obtain ⟨t121, A340, H⟩ := H
                                    replace H : (fathomlaw3_FloatTurns.j3 kj6 l0 x3_1 ((rd_T39 l0 x3_1).f0) (t121 != 9221120237041090560)) = some r := H
                                    have A34 := Aside0.mk A340
                                    clear A340
                                    have H' := Aside0.mk H
                                    clear H
                                    go_wp2_with (first | ((with_reducible refine gate_callee (f := 77) rfl ?_); refine goesL_ (some 56) rfl rfl Try.func77 (by kernel_rfl) rfl #[.int .u64 ((rd_T39 l0 x3_1).f0), .int .u64 ((rd_T39 l0 x3_1).f1)] rfl (by (try simp only [List.map_toArray, List.map_cons, List.map_nil]); first | done | rfl | (simp only [List.length_drop, List.length_take]; rfl) | (simp only [gt_iff_lt, Int.natCast_pos]; rfl)) ?_; (with_reducible refine (float_Sub_uint64.calls ((rd_T39 l0 x3_1).f0) ((rd_T39 l0 x3_1).f1) t112 _ A18.out).mono ?_); rintro e w' ⟨rfl, ⟨nd, rfl⟩⟩; refine ⟨_, rfl, ?_⟩) | ((with_reducible refine gate_callee (f := 75) rfl ?_); refine goesL_ (some 60) rfl rfl Try.func75 (by kernel_rfl) rfl #[.int .u64 ((rd_T39 l0 x3_1).f0), .int .u64 (Go.bits .xor .u64 ((rd_T39 l0 x3_1).f1) 9223372036854775808)] rfl (by (try simp only [List.map_toArray, List.map_cons, List.map_nil]); first | done | rfl | (simp only [List.length_drop, List.length_take]; rfl) | (simp only [gt_iff_lt, Int.natCast_pos]; rfl)) ?_; (with_reducible refine (float_Add_uint64.calls ((rd_T39 l0 x3_1).f0) (Go.bits .xor .u64 ((rd_T39 l0 x3_1).f1) 9223372036854775808) t113 _ A19.out).mono ?_); rintro e w' ⟨rfl, ⟨nd, rfl⟩⟩; refine ⟨_, rfl, ?_⟩) | (go_at_call 16; (with_reducible refine (fathomlaw3_finite.calls ((rd_T39 l0 x3_1).f0) true _ A21.out).mono ?_); rintro e w' ⟨rfl, ⟨nd, rfl⟩⟩) | (go_at_call 77; (with_reducible refine (float_Sub_uint64.calls ((rd_T39 l0 x3_1).f0) ((rd_T39 l0 x3_1).f0) t115 _ A23.out).mono ?_); rintro e w' ⟨rfl, ⟨nd, rfl⟩⟩) | (go_at_call 26; (with_reducible refine (fathomlaw3_nan.calls ((rd_T39 l0 x3_1).f0) false _ A25.out).mono ?_); rintro e w' ⟨rfl, ⟨nd, rfl⟩⟩) | (go_at_call 26; (with_reducible refine (fathomlaw3_nan.calls ((rd_T39 l0 x3_1).f1) true _ A30.out).mono ?_); rintro e w' ⟨rfl, ⟨nd, rfl⟩⟩) | (go_at_call 75; (with_reducible refine (float_Add_uint64.calls ((rd_T39 l0 x3_1).f0) ((rd_T39 l0 x3_1).f1) t120 _ A32.out).mono ?_); rintro e w' ⟨rfl, ⟨nd, rfl⟩⟩) | (go_at_call 25; (with_reducible refine (float_Div_uint64.calls ((rd_T39 l0 x3_1).f0) ((rd_T39 l0 x3_1).f1) t121 _ A34.out).mono ?_); rintro e w' ⟨rfl, ⟨nd, rfl⟩⟩))
                                    go_meet
                                    case rel => exact ⟨_, ((t121 != 9221120237041090560)), (by first | rfl | (simp; done) | (simp [*]; done)), H', ⟨by have := HK1.out; have := HJ1.out; have := HJ6.out; first | omega | exact Nat.le_refl _⟩, ⟨by repeat (first | (with_reducible first | exact HB.out | apply below_alloc | apply pw_below_drewN | apply below_drew1) | exact HB.out)⟩⟩
                                  · rw [if_neg c33] at H
                                    have c33b0 : (t120 == 9221120237041090560) = false := beq_eq_false_iff_ne.mpr c33
                                    have c33b1 : (t120 != 9221120237041090560) = true := bne_iff_ne.mpr c33
                                    have H' := Aside0.mk H
                                    clear H
                                    go_wp2_with (first | ((with_reducible refine gate_callee (f := 77) rfl ?_); refine goesL_ (some 56) rfl rfl Try.func77 (by kernel_rfl) rfl #[.int .u64 ((rd_T39 l0 x3_1).f0), .int .u64 ((rd_T39 l0 x3_1).f1)] rfl (by (try simp only [List.map_toArray, List.map_cons, List.map_nil]); first | done | rfl | (simp only [List.length_drop, List.length_take]; rfl) | (simp only [gt_iff_lt, Int.natCast_pos]; rfl)) ?_; (with_reducible refine (float_Sub_uint64.calls ((rd_T39 l0 x3_1).f0) ((rd_T39 l0 x3_1).f1) t112 _ A18.out).mono ?_); rintro e w' ⟨rfl, ⟨nd, rfl⟩⟩; refine ⟨_, rfl, ?_⟩) | ((with_reducible refine gate_callee (f := 75) rfl ?_); refine goesL_ (some 60) rfl rfl Try.func75 (by kernel_rfl) rfl #[.int .u64 ((rd_T39 l0 x3_1).f0), .int .u64 (Go.bits .xor .u64 ((rd_T39 l0 x3_1).f1) 9223372036854775808)] rfl (by (try simp only [List.map_toArray, List.map_cons, List.map_nil]); first | done | rfl | (simp only [List.length_drop, List.length_take]; rfl) | (simp only [gt_iff_lt, Int.natCast_pos]; rfl)) ?_; (with_reducible refine (float_Add_uint64.calls ((rd_T39 l0 x3_1).f0) (Go.bits .xor .u64 ((rd_T39 l0 x3_1).f1) 9223372036854775808) t113 _ A19.out).mono ?_); rintro e w' ⟨rfl, ⟨nd, rfl⟩⟩; refine ⟨_, rfl, ?_⟩) | (go_at_call 16; (with_reducible refine (fathomlaw3_finite.calls ((rd_T39 l0 x3_1).f0) true _ A21.out).mono ?_); rintro e w' ⟨rfl, ⟨nd, rfl⟩⟩) | (go_at_call 77; (with_reducible refine (float_Sub_uint64.calls ((rd_T39 l0 x3_1).f0) ((rd_T39 l0 x3_1).f0) t115 _ A23.out).mono ?_); rintro e w' ⟨rfl, ⟨nd, rfl⟩⟩) | (go_at_call 26; (with_reducible refine (fathomlaw3_nan.calls ((rd_T39 l0 x3_1).f0) false _ A25.out).mono ?_); rintro e w' ⟨rfl, ⟨nd, rfl⟩⟩) | (go_at_call 26; (with_reducible refine (fathomlaw3_nan.calls ((rd_T39 l0 x3_1).f1) true _ A30.out).mono ?_); rintro e w' ⟨rfl, ⟨nd, rfl⟩⟩) | (go_at_call 75; (with_reducible refine (float_Add_uint64.calls ((rd_T39 l0 x3_1).f0) ((rd_T39 l0 x3_1).f1) t120 _ A32.out).mono ?_); rintro e w' ⟨rfl, ⟨nd, rfl⟩⟩))
                                    go_meet
                                    case rel => exact ⟨_, (true), (by first | rfl | (simp; done) | (simp [*]; done)), H', ⟨by have := HK1.out; have := HJ1.out; have := HJ6.out; first | omega | exact Nat.le_refl _⟩, ⟨by repeat (first | (with_reducible first | exact HB.out | apply below_alloc | apply pw_below_drewN | apply below_drew1) | exact HB.out)⟩⟩
                                · replace c31 := Bool.eq_false_iff.mpr c31
                                  subst c31
                                  have H1 : (fathomlaw3_FloatTurns.j3 kj6 l0 x3_1 ((rd_T39 l0 x3_1).f0) false) = some r := by rw [if_neg (show ¬ (false = true) by decide)] at H; exact H
                                  clear H
                                  have H := H1
                                  clear H1
                                  have H' := Aside0.mk H
                                  clear H
                                  go_wp2_with (first | ((with_reducible refine gate_callee (f := 77) rfl ?_); refine goesL_ (some 56) rfl rfl Try.func77 (by kernel_rfl) rfl #[.int .u64 ((rd_T39 l0 x3_1).f0), .int .u64 ((rd_T39 l0 x3_1).f1)] rfl (by (try simp only [List.map_toArray, List.map_cons, List.map_nil]); first | done | rfl | (simp only [List.length_drop, List.length_take]; rfl) | (simp only [gt_iff_lt, Int.natCast_pos]; rfl)) ?_; (with_reducible refine (float_Sub_uint64.calls ((rd_T39 l0 x3_1).f0) ((rd_T39 l0 x3_1).f1) t112 _ A18.out).mono ?_); rintro e w' ⟨rfl, ⟨nd, rfl⟩⟩; refine ⟨_, rfl, ?_⟩) | ((with_reducible refine gate_callee (f := 75) rfl ?_); refine goesL_ (some 60) rfl rfl Try.func75 (by kernel_rfl) rfl #[.int .u64 ((rd_T39 l0 x3_1).f0), .int .u64 (Go.bits .xor .u64 ((rd_T39 l0 x3_1).f1) 9223372036854775808)] rfl (by (try simp only [List.map_toArray, List.map_cons, List.map_nil]); first | done | rfl | (simp only [List.length_drop, List.length_take]; rfl) | (simp only [gt_iff_lt, Int.natCast_pos]; rfl)) ?_; (with_reducible refine (float_Add_uint64.calls ((rd_T39 l0 x3_1).f0) (Go.bits .xor .u64 ((rd_T39 l0 x3_1).f1) 9223372036854775808) t113 _ A19.out).mono ?_); rintro e w' ⟨rfl, ⟨nd, rfl⟩⟩; refine ⟨_, rfl, ?_⟩) | (go_at_call 16; (with_reducible refine (fathomlaw3_finite.calls ((rd_T39 l0 x3_1).f0) true _ A21.out).mono ?_); rintro e w' ⟨rfl, ⟨nd, rfl⟩⟩) | (go_at_call 77; (with_reducible refine (float_Sub_uint64.calls ((rd_T39 l0 x3_1).f0) ((rd_T39 l0 x3_1).f0) t115 _ A23.out).mono ?_); rintro e w' ⟨rfl, ⟨nd, rfl⟩⟩) | (go_at_call 26; (with_reducible refine (fathomlaw3_nan.calls ((rd_T39 l0 x3_1).f0) false _ A25.out).mono ?_); rintro e w' ⟨rfl, ⟨nd, rfl⟩⟩) | (go_at_call 26; (with_reducible refine (fathomlaw3_nan.calls ((rd_T39 l0 x3_1).f1) false _ A30.out).mono ?_); rintro e w' ⟨rfl, ⟨nd, rfl⟩⟩))
                                  go_meet
                                  case rel => exact ⟨_, (false), (by first | rfl | (simp; done) | (simp [*]; done)), H', ⟨by have := HK1.out; have := HJ1.out; have := HJ6.out; first | omega | exact Nat.le_refl _⟩, ⟨by repeat (first | (with_reducible first | exact HB.out | apply below_alloc | apply pw_below_drewN | apply below_drew1) | exact HB.out)⟩⟩
                            · rw [if_neg c24] at H
                              have c24b0 : (t115 == 0) = false := beq_eq_false_iff_ne.mpr c24
                              have c24b1 : (t115 != 0) = true := bne_iff_ne.mpr c24
                              have H' := Aside0.mk H
                              clear H
                              go_wp2_with (first | ((with_reducible refine gate_callee (f := 77) rfl ?_); refine goesL_ (some 56) rfl rfl Try.func77 (by kernel_rfl) rfl #[.int .u64 ((rd_T39 l0 x3_1).f0), .int .u64 ((rd_T39 l0 x3_1).f1)] rfl (by (try simp only [List.map_toArray, List.map_cons, List.map_nil]); first | done | rfl | (simp only [List.length_drop, List.length_take]; rfl) | (simp only [gt_iff_lt, Int.natCast_pos]; rfl)) ?_; (with_reducible refine (float_Sub_uint64.calls ((rd_T39 l0 x3_1).f0) ((rd_T39 l0 x3_1).f1) t112 _ A18.out).mono ?_); rintro e w' ⟨rfl, ⟨nd, rfl⟩⟩; refine ⟨_, rfl, ?_⟩) | ((with_reducible refine gate_callee (f := 75) rfl ?_); refine goesL_ (some 60) rfl rfl Try.func75 (by kernel_rfl) rfl #[.int .u64 ((rd_T39 l0 x3_1).f0), .int .u64 (Go.bits .xor .u64 ((rd_T39 l0 x3_1).f1) 9223372036854775808)] rfl (by (try simp only [List.map_toArray, List.map_cons, List.map_nil]); first | done | rfl | (simp only [List.length_drop, List.length_take]; rfl) | (simp only [gt_iff_lt, Int.natCast_pos]; rfl)) ?_; (with_reducible refine (float_Add_uint64.calls ((rd_T39 l0 x3_1).f0) (Go.bits .xor .u64 ((rd_T39 l0 x3_1).f1) 9223372036854775808) t113 _ A19.out).mono ?_); rintro e w' ⟨rfl, ⟨nd, rfl⟩⟩; refine ⟨_, rfl, ?_⟩) | (go_at_call 16; (with_reducible refine (fathomlaw3_finite.calls ((rd_T39 l0 x3_1).f0) true _ A21.out).mono ?_); rintro e w' ⟨rfl, ⟨nd, rfl⟩⟩) | (go_at_call 77; (with_reducible refine (float_Sub_uint64.calls ((rd_T39 l0 x3_1).f0) ((rd_T39 l0 x3_1).f0) t115 _ A23.out).mono ?_); rintro e w' ⟨rfl, ⟨nd, rfl⟩⟩))
                              go_meet
                              case rel => exact ⟨_, (true), (by first | rfl | (simp; done) | (simp [*]; done)), H', ⟨by have := HK1.out; have := HJ1.out; have := HJ6.out; first | omega | exact Nat.le_refl _⟩, ⟨by repeat (first | (with_reducible first | exact HB.out | apply below_alloc | apply pw_below_drewN | apply below_drew1) | exact HB.out)⟩⟩
                          · replace c22 := Bool.eq_false_iff.mpr c22
                            subst c22
                            have H1 : ((fathomlaw3_nan.f ((rd_T39 l0 x3_1).f0)).bind fun t122 => (if t122 = true then ((float_Add_uint64.f ((rd_T39 l0 x3_1).f0) ((rd_T39 l0 x3_1).f1)).bind fun t123 => (if t123 = 9221120237041090560 then ((float_Div_uint64.f ((rd_T39 l0 x3_1).f0) ((rd_T39 l0 x3_1).f1)).bind fun t124 => (fathomlaw3_FloatTurns.j3 kj6 l0 x3_1 ((rd_T39 l0 x3_1).f0) (t124 != 9221120237041090560))) else (fathomlaw3_FloatTurns.j3 kj6 l0 x3_1 ((rd_T39 l0 x3_1).f0) true))) else ((fathomlaw3_nan.f ((rd_T39 l0 x3_1).f1)).bind fun t125 => (if t125 = true then ((float_Add_uint64.f ((rd_T39 l0 x3_1).f0) ((rd_T39 l0 x3_1).f1)).bind fun t126 => (if t126 = 9221120237041090560 then ((float_Div_uint64.f ((rd_T39 l0 x3_1).f0) ((rd_T39 l0 x3_1).f1)).bind fun t127 => (fathomlaw3_FloatTurns.j3 kj6 l0 x3_1 ((rd_T39 l0 x3_1).f0) (t127 != 9221120237041090560))) else (fathomlaw3_FloatTurns.j3 kj6 l0 x3_1 ((rd_T39 l0 x3_1).f0) true))) else (fathomlaw3_FloatTurns.j3 kj6 l0 x3_1 ((rd_T39 l0 x3_1).f0) false))))) = some r := by rw [if_neg (show ¬ (false = true) by decide)] at H; exact H
                            clear H
                            have H := H1
                            clear H1
                            replace H := Option.bind_eq_some_iff.mp H
                            obtain ⟨t122, A350, H⟩ := H
                            replace H : (if t122 = true then ((float_Add_uint64.f ((rd_T39 l0 x3_1).f0) ((rd_T39 l0 x3_1).f1)).bind fun t123 => (if t123 = 9221120237041090560 then ((float_Div_uint64.f ((rd_T39 l0 x3_1).f0) ((rd_T39 l0 x3_1).f1)).bind fun t124 => (fathomlaw3_FloatTurns.j3 kj6 l0 x3_1 ((rd_T39 l0 x3_1).f0) (t124 != 9221120237041090560))) else (fathomlaw3_FloatTurns.j3 kj6 l0 x3_1 ((rd_T39 l0 x3_1).f0) true))) else ((fathomlaw3_nan.f ((rd_T39 l0 x3_1).f1)).bind fun t125 => (if t125 = true then ((float_Add_uint64.f ((rd_T39 l0 x3_1).f0) ((rd_T39 l0 x3_1).f1)).bind fun t126 => (if t126 = 9221120237041090560 then ((float_Div_uint64.f ((rd_T39 l0 x3_1).f0) ((rd_T39 l0 x3_1).f1)).bind fun t127 => (fathomlaw3_FloatTurns.j3 kj6 l0 x3_1 ((rd_T39 l0 x3_1).f0) (t127 != 9221120237041090560))) else (fathomlaw3_FloatTurns.j3 kj6 l0 x3_1 ((rd_T39 l0 x3_1).f0) true))) else (fathomlaw3_FloatTurns.j3 kj6 l0 x3_1 ((rd_T39 l0 x3_1).f0) false)))) = some r := H
                            have A35 := Aside0.mk A350
                            clear A350
                            by_cases c36 : t122 = true
                            · subst c36
                              have H1 : ((float_Add_uint64.f ((rd_T39 l0 x3_1).f0) ((rd_T39 l0 x3_1).f1)).bind fun t123 => (if t123 = 9221120237041090560 then ((float_Div_uint64.f ((rd_T39 l0 x3_1).f0) ((rd_T39 l0 x3_1).f1)).bind fun t124 => (fathomlaw3_FloatTurns.j3 kj6 l0 x3_1 ((rd_T39 l0 x3_1).f0) (t124 != 9221120237041090560))) else (fathomlaw3_FloatTurns.j3 kj6 l0 x3_1 ((rd_T39 l0 x3_1).f0) true))) = some r := by rw [if_pos rfl] at H; exact H
                              clear H
                              have H := H1
                              clear H1
                              replace H := Option.bind_eq_some_iff.mp H
                              obtain ⟨t123, A370, H⟩ := H
                              replace H : (if t123 = 9221120237041090560 then ((float_Div_uint64.f ((rd_T39 l0 x3_1).f0) ((rd_T39 l0 x3_1).f1)).bind fun t124 => (fathomlaw3_FloatTurns.j3 kj6 l0 x3_1 ((rd_T39 l0 x3_1).f0) (t124 != 9221120237041090560))) else (fathomlaw3_FloatTurns.j3 kj6 l0 x3_1 ((rd_T39 l0 x3_1).f0) true)) = some r := H
                              have A37 := Aside0.mk A370
                              clear A370
                              by_cases c38 : t123 = 9221120237041090560
                              · rw [if_pos c38] at H
                                have c38b0 : (t123 == 9221120237041090560) = true := beq_iff_eq.mpr c38
                                have c38b1 : (t123 != 9221120237041090560) = false := bne_eq_false_iff_eq.mpr c38
                                clear c38
                                replace H := Option.bind_eq_some_iff.mp H
                                obtain ⟨t124, A390, H⟩ := H
                                replace H : (fathomlaw3_FloatTurns.j3 kj6 l0 x3_1 ((rd_T39 l0 x3_1).f0) (t124 != 9221120237041090560)) = some r := H
                                have A39 := Aside0.mk A390
                                clear A390
                                have H' := Aside0.mk H
                                clear H
                                go_wp2_with (first | ((with_reducible refine gate_callee (f := 77) rfl ?_); refine goesL_ (some 56) rfl rfl Try.func77 (by kernel_rfl) rfl #[.int .u64 ((rd_T39 l0 x3_1).f0), .int .u64 ((rd_T39 l0 x3_1).f1)] rfl (by (try simp only [List.map_toArray, List.map_cons, List.map_nil]); first | done | rfl | (simp only [List.length_drop, List.length_take]; rfl) | (simp only [gt_iff_lt, Int.natCast_pos]; rfl)) ?_; (with_reducible refine (float_Sub_uint64.calls ((rd_T39 l0 x3_1).f0) ((rd_T39 l0 x3_1).f1) t112 _ A18.out).mono ?_); rintro e w' ⟨rfl, ⟨nd, rfl⟩⟩; refine ⟨_, rfl, ?_⟩) | ((with_reducible refine gate_callee (f := 75) rfl ?_); refine goesL_ (some 60) rfl rfl Try.func75 (by kernel_rfl) rfl #[.int .u64 ((rd_T39 l0 x3_1).f0), .int .u64 (Go.bits .xor .u64 ((rd_T39 l0 x3_1).f1) 9223372036854775808)] rfl (by (try simp only [List.map_toArray, List.map_cons, List.map_nil]); first | done | rfl | (simp only [List.length_drop, List.length_take]; rfl) | (simp only [gt_iff_lt, Int.natCast_pos]; rfl)) ?_; (with_reducible refine (float_Add_uint64.calls ((rd_T39 l0 x3_1).f0) (Go.bits .xor .u64 ((rd_T39 l0 x3_1).f1) 9223372036854775808) t113 _ A19.out).mono ?_); rintro e w' ⟨rfl, ⟨nd, rfl⟩⟩; refine ⟨_, rfl, ?_⟩) | (go_at_call 16; (with_reducible refine (fathomlaw3_finite.calls ((rd_T39 l0 x3_1).f0) false _ A21.out).mono ?_); rintro e w' ⟨rfl, ⟨nd, rfl⟩⟩) | (go_at_call 26; (with_reducible refine (fathomlaw3_nan.calls ((rd_T39 l0 x3_1).f0) true _ A35.out).mono ?_); rintro e w' ⟨rfl, ⟨nd, rfl⟩⟩) | (go_at_call 75; (with_reducible refine (float_Add_uint64.calls ((rd_T39 l0 x3_1).f0) ((rd_T39 l0 x3_1).f1) t123 _ A37.out).mono ?_); rintro e w' ⟨rfl, ⟨nd, rfl⟩⟩) | (go_at_call 25; (with_reducible refine (float_Div_uint64.calls ((rd_T39 l0 x3_1).f0) ((rd_T39 l0 x3_1).f1) t124 _ A39.out).mono ?_); rintro e w' ⟨rfl, ⟨nd, rfl⟩⟩))
                                go_meet
                                case rel => exact ⟨_, ((t124 != 9221120237041090560)), (by first | rfl | (simp; done) | (simp [*]; done)), H', ⟨by have := HK1.out; have := HJ1.out; have := HJ6.out; first | omega | exact Nat.le_refl _⟩, ⟨by repeat (first | (with_reducible first | exact HB.out | apply below_alloc | apply pw_below_drewN | apply below_drew1) | exact HB.out)⟩⟩
                              · rw [if_neg c38] at H
                                have c38b0 : (t123 == 9221120237041090560) = false := beq_eq_false_iff_ne.mpr c38
                                have c38b1 : (t123 != 9221120237041090560) = true := bne_iff_ne.mpr c38
                                have H' := Aside0.mk H
                                clear H
                                go_wp2_with (first | ((with_reducible refine gate_callee (f := 77) rfl ?_); refine goesL_ (some 56) rfl rfl Try.func77 (by kernel_rfl) rfl #[.int .u64 ((rd_T39 l0 x3_1).f0), .int .u64 ((rd_T39 l0 x3_1).f1)] rfl (by (try simp only [List.map_toArray, List.map_cons, List.map_nil]); first | done | rfl | (simp only [List.length_drop, List.length_take]; rfl) | (simp only [gt_iff_lt, Int.natCast_pos]; rfl)) ?_; (with_reducible refine (float_Sub_uint64.calls ((rd_T39 l0 x3_1).f0) ((rd_T39 l0 x3_1).f1) t112 _ A18.out).mono ?_); rintro e w' ⟨rfl, ⟨nd, rfl⟩⟩; refine ⟨_, rfl, ?_⟩) | ((with_reducible refine gate_callee (f := 75) rfl ?_); refine goesL_ (some 60) rfl rfl Try.func75 (by kernel_rfl) rfl #[.int .u64 ((rd_T39 l0 x3_1).f0), .int .u64 (Go.bits .xor .u64 ((rd_T39 l0 x3_1).f1) 9223372036854775808)] rfl (by (try simp only [List.map_toArray, List.map_cons, List.map_nil]); first | done | rfl | (simp only [List.length_drop, List.length_take]; rfl) | (simp only [gt_iff_lt, Int.natCast_pos]; rfl)) ?_; (with_reducible refine (float_Add_uint64.calls ((rd_T39 l0 x3_1).f0) (Go.bits .xor .u64 ((rd_T39 l0 x3_1).f1) 9223372036854775808) t113 _ A19.out).mono ?_); rintro e w' ⟨rfl, ⟨nd, rfl⟩⟩; refine ⟨_, rfl, ?_⟩) | (go_at_call 16; (with_reducible refine (fathomlaw3_finite.calls ((rd_T39 l0 x3_1).f0) false _ A21.out).mono ?_); rintro e w' ⟨rfl, ⟨nd, rfl⟩⟩) | (go_at_call 26; (with_reducible refine (fathomlaw3_nan.calls ((rd_T39 l0 x3_1).f0) true _ A35.out).mono ?_); rintro e w' ⟨rfl, ⟨nd, rfl⟩⟩) | (go_at_call 75; (with_reducible refine (float_Add_uint64.calls ((rd_T39 l0 x3_1).f0) ((rd_T39 l0 x3_1).f1) t123 _ A37.out).mono ?_); rintro e w' ⟨rfl, ⟨nd, rfl⟩⟩))
                                go_meet
                                case rel => exact ⟨_, (true), (by first | rfl | (simp; done) | (simp [*]; done)), H', ⟨by have := HK1.out; have := HJ1.out; have := HJ6.out; first | omega | exact Nat.le_refl _⟩, ⟨by repeat (first | (with_reducible first | exact HB.out | apply below_alloc | apply pw_below_drewN | apply below_drew1) | exact HB.out)⟩⟩
                            · replace c36 := Bool.eq_false_iff.mpr c36
                              subst c36
                              have H1 : ((fathomlaw3_nan.f ((rd_T39 l0 x3_1).f1)).bind fun t125 => (if t125 = true then ((float_Add_uint64.f ((rd_T39 l0 x3_1).f0) ((rd_T39 l0 x3_1).f1)).bind fun t126 => (if t126 = 9221120237041090560 then ((float_Div_uint64.f ((rd_T39 l0 x3_1).f0) ((rd_T39 l0 x3_1).f1)).bind fun t127 => (fathomlaw3_FloatTurns.j3 kj6 l0 x3_1 ((rd_T39 l0 x3_1).f0) (t127 != 9221120237041090560))) else (fathomlaw3_FloatTurns.j3 kj6 l0 x3_1 ((rd_T39 l0 x3_1).f0) true))) else (fathomlaw3_FloatTurns.j3 kj6 l0 x3_1 ((rd_T39 l0 x3_1).f0) false))) = some r := by rw [if_neg (show ¬ (false = true) by decide)] at H; exact H
                              clear H
                              have H := H1
                              clear H1
                              replace H := Option.bind_eq_some_iff.mp H
                              obtain ⟨t125, A400, H⟩ := H
                              replace H : (if t125 = true then ((float_Add_uint64.f ((rd_T39 l0 x3_1).f0) ((rd_T39 l0 x3_1).f1)).bind fun t126 => (if t126 = 9221120237041090560 then ((float_Div_uint64.f ((rd_T39 l0 x3_1).f0) ((rd_T39 l0 x3_1).f1)).bind fun t127 => (fathomlaw3_FloatTurns.j3 kj6 l0 x3_1 ((rd_T39 l0 x3_1).f0) (t127 != 9221120237041090560))) else (fathomlaw3_FloatTurns.j3 kj6 l0 x3_1 ((rd_T39 l0 x3_1).f0) true))) else (fathomlaw3_FloatTurns.j3 kj6 l0 x3_1 ((rd_T39 l0 x3_1).f0) false)) = some r := H
                              have A40 := Aside0.mk A400
                              clear A400
                              by_cases c41 : t125 = true
                              · subst c41
                                have H1 : ((float_Add_uint64.f ((rd_T39 l0 x3_1).f0) ((rd_T39 l0 x3_1).f1)).bind fun t126 => (if t126 = 9221120237041090560 then ((float_Div_uint64.f ((rd_T39 l0 x3_1).f0) ((rd_T39 l0 x3_1).f1)).bind fun t127 => (fathomlaw3_FloatTurns.j3 kj6 l0 x3_1 ((rd_T39 l0 x3_1).f0) (t127 != 9221120237041090560))) else (fathomlaw3_FloatTurns.j3 kj6 l0 x3_1 ((rd_T39 l0 x3_1).f0) true))) = some r := by rw [if_pos rfl] at H; exact H
                                clear H
                                have H := H1
                                clear H1
                                replace H := Option.bind_eq_some_iff.mp H
                                obtain ⟨t126, A420, H⟩ := H
                                replace H : (if t126 = 9221120237041090560 then ((float_Div_uint64.f ((rd_T39 l0 x3_1).f0) ((rd_T39 l0 x3_1).f1)).bind fun t127 => (fathomlaw3_FloatTurns.j3 kj6 l0 x3_1 ((rd_T39 l0 x3_1).f0) (t127 != 9221120237041090560))) else (fathomlaw3_FloatTurns.j3 kj6 l0 x3_1 ((rd_T39 l0 x3_1).f0) true)) = some r := H
                                have A42 := Aside0.mk A420
                                clear A420
                                by_cases c43 : t126 = 9221120237041090560
                                · rw [if_pos c43] at H
                                  have c43b0 : (t126 == 9221120237041090560) = true := beq_iff_eq.mpr c43
                                  have c43b1 : (t126 != 9221120237041090560) = false := bne_eq_false_iff_eq.mpr c43
                                  clear c43
                                  replace H := Option.bind_eq_some_iff.mp H
                                  obtain ⟨t127, A440, H⟩ := H
                                  replace H : (fathomlaw3_FloatTurns.j3 kj6 l0 x3_1 ((rd_T39 l0 x3_1).f0) (t127 != 9221120237041090560)) = some r := H
                                  have A44 := Aside0.mk A440
                                  clear A440
                                  have H' := Aside0.mk H
                                  clear H
                                  go_wp2_with (first | ((with_reducible refine gate_callee (f := 77) rfl ?_); refine goesL_ (some 56) rfl rfl Try.func77 (by kernel_rfl) rfl #[.int .u64 ((rd_T39 l0 x3_1).f0), .int .u64 ((rd_T39 l0 x3_1).f1)] rfl (by (try simp only [List.map_toArray, List.map_cons, List.map_nil]); first | done | rfl | (simp only [List.length_drop, List.length_take]; rfl) | (simp only [gt_iff_lt, Int.natCast_pos]; rfl)) ?_; (with_reducible refine (float_Sub_uint64.calls ((rd_T39 l0 x3_1).f0) ((rd_T39 l0 x3_1).f1) t112 _ A18.out).mono ?_); rintro e w' ⟨rfl, ⟨nd, rfl⟩⟩; refine ⟨_, rfl, ?_⟩) | ((with_reducible refine gate_callee (f := 75) rfl ?_); refine goesL_ (some 60) rfl rfl Try.func75 (by kernel_rfl) rfl #[.int .u64 ((rd_T39 l0 x3_1).f0), .int .u64 (Go.bits .xor .u64 ((rd_T39 l0 x3_1).f1) 9223372036854775808)] rfl (by (try simp only [List.map_toArray, List.map_cons, List.map_nil]); first | done | rfl | (simp only [List.length_drop, List.length_take]; rfl) | (simp only [gt_iff_lt, Int.natCast_pos]; rfl)) ?_; (with_reducible refine (float_Add_uint64.calls ((rd_T39 l0 x3_1).f0) (Go.bits .xor .u64 ((rd_T39 l0 x3_1).f1) 9223372036854775808) t113 _ A19.out).mono ?_); rintro e w' ⟨rfl, ⟨nd, rfl⟩⟩; refine ⟨_, rfl, ?_⟩) | (go_at_call 16; (with_reducible refine (fathomlaw3_finite.calls ((rd_T39 l0 x3_1).f0) false _ A21.out).mono ?_); rintro e w' ⟨rfl, ⟨nd, rfl⟩⟩) | (go_at_call 26; (with_reducible refine (fathomlaw3_nan.calls ((rd_T39 l0 x3_1).f0) false _ A35.out).mono ?_); rintro e w' ⟨rfl, ⟨nd, rfl⟩⟩) | (go_at_call 26; (with_reducible refine (fathomlaw3_nan.calls ((rd_T39 l0 x3_1).f1) true _ A40.out).mono ?_); rintro e w' ⟨rfl, ⟨nd, rfl⟩⟩) | (go_at_call 75; (with_reducible refine (float_Add_uint64.calls ((rd_T39 l0 x3_1).f0) ((rd_T39 l0 x3_1).f1) t126 _ A42.out).mono ?_); rintro e w' ⟨rfl, ⟨nd, rfl⟩⟩) | (go_at_call 25; (with_reducible refine (float_Div_uint64.calls ((rd_T39 l0 x3_1).f0) ((rd_T39 l0 x3_1).f1) t127 _ A44.out).mono ?_); rintro e w' ⟨rfl, ⟨nd, rfl⟩⟩))
                                  go_meet
                                  case rel => exact ⟨_, ((t127 != 9221120237041090560)), (by first | rfl | (simp; done) | (simp [*]; done)), H', ⟨by have := HK1.out; have := HJ1.out; have := HJ6.out; first | omega | exact Nat.le_refl _⟩, ⟨by repeat (first | (with_reducible first | exact HB.out | apply below_alloc | apply pw_below_drewN | apply below_drew1) | exact HB.out)⟩⟩
                                · rw [if_neg c43] at H
                                  have c43b0 : (t126 == 9221120237041090560) = false := beq_eq_false_iff_ne.mpr c43
                                  have c43b1 : (t126 != 9221120237041090560) = true := bne_iff_ne.mpr c43
                                  have H' := Aside0.mk H
                                  clear H
                                  go_wp2_with (first | ((with_reducible refine gate_callee (f := 77) rfl ?_); refine goesL_ (some 56) rfl rfl Try.func77 (by kernel_rfl) rfl #[.int .u64 ((rd_T39 l0 x3_1).f0), .int .u64 ((rd_T39 l0 x3_1).f1)] rfl (by (try simp only [List.map_toArray, List.map_cons, List.map_nil]); first | done | rfl | (simp only [List.length_drop, List.length_take]; rfl) | (simp only [gt_iff_lt, Int.natCast_pos]; rfl)) ?_; (with_reducible refine (float_Sub_uint64.calls ((rd_T39 l0 x3_1).f0) ((rd_T39 l0 x3_1).f1) t112 _ A18.out).mono ?_); rintro e w' ⟨rfl, ⟨nd, rfl⟩⟩; refine ⟨_, rfl, ?_⟩) | ((with_reducible refine gate_callee (f := 75) rfl ?_); refine goesL_ (some 60) rfl rfl Try.func75 (by kernel_rfl) rfl #[.int .u64 ((rd_T39 l0 x3_1).f0), .int .u64 (Go.bits .xor .u64 ((rd_T39 l0 x3_1).f1) 9223372036854775808)] rfl (by (try simp only [List.map_toArray, List.map_cons, List.map_nil]); first | done | rfl | (simp only [List.length_drop, List.length_take]; rfl) | (simp only [gt_iff_lt, Int.natCast_pos]; rfl)) ?_; (with_reducible refine (float_Add_uint64.calls ((rd_T39 l0 x3_1).f0) (Go.bits .xor .u64 ((rd_T39 l0 x3_1).f1) 9223372036854775808) t113 _ A19.out).mono ?_); rintro e w' ⟨rfl, ⟨nd, rfl⟩⟩; refine ⟨_, rfl, ?_⟩) | (go_at_call 16; (with_reducible refine (fathomlaw3_finite.calls ((rd_T39 l0 x3_1).f0) false _ A21.out).mono ?_); rintro e w' ⟨rfl, ⟨nd, rfl⟩⟩) | (go_at_call 26; (with_reducible refine (fathomlaw3_nan.calls ((rd_T39 l0 x3_1).f0) false _ A35.out).mono ?_); rintro e w' ⟨rfl, ⟨nd, rfl⟩⟩) | (go_at_call 26; (with_reducible refine (fathomlaw3_nan.calls ((rd_T39 l0 x3_1).f1) true _ A40.out).mono ?_); rintro e w' ⟨rfl, ⟨nd, rfl⟩⟩) | (go_at_call 75; (with_reducible refine (float_Add_uint64.calls ((rd_T39 l0 x3_1).f0) ((rd_T39 l0 x3_1).f1) t126 _ A42.out).mono ?_); rintro e w' ⟨rfl, ⟨nd, rfl⟩⟩))
                                  go_meet
                                  case rel => exact ⟨_, (true), (by first | rfl | (simp; done) | (simp [*]; done)), H', ⟨by have := HK1.out; have := HJ1.out; have := HJ6.out; first | omega | exact Nat.le_refl _⟩, ⟨by repeat (first | (with_reducible first | exact HB.out | apply below_alloc | apply pw_below_drewN | apply below_drew1) | exact HB.out)⟩⟩
                              · replace c41 := Bool.eq_false_iff.mpr c41
                                subst c41
                                have H1 : (fathomlaw3_FloatTurns.j3 kj6 l0 x3_1 ((rd_T39 l0 x3_1).f0) false) = some r := by rw [if_neg (show ¬ (false = true) by decide)] at H; exact H
                                clear H
                                have H := H1
                                clear H1
                                have H' := Aside0.mk H
                                clear H
                                go_wp2_with (first | ((with_reducible refine gate_callee (f := 77) rfl ?_); refine goesL_ (some 56) rfl rfl Try.func77 (by kernel_rfl) rfl #[.int .u64 ((rd_T39 l0 x3_1).f0), .int .u64 ((rd_T39 l0 x3_1).f1)] rfl (by (try simp only [List.map_toArray, List.map_cons, List.map_nil]); first | done | rfl | (simp only [List.length_drop, List.length_take]; rfl) | (simp only [gt_iff_lt, Int.natCast_pos]; rfl)) ?_; (with_reducible refine (float_Sub_uint64.calls ((rd_T39 l0 x3_1).f0) ((rd_T39 l0 x3_1).f1) t112 _ A18.out).mono ?_); rintro e w' ⟨rfl, ⟨nd, rfl⟩⟩; refine ⟨_, rfl, ?_⟩) | ((with_reducible refine gate_callee (f := 75) rfl ?_); refine goesL_ (some 60) rfl rfl Try.func75 (by kernel_rfl) rfl #[.int .u64 ((rd_T39 l0 x3_1).f0), .int .u64 (Go.bits .xor .u64 ((rd_T39 l0 x3_1).f1) 9223372036854775808)] rfl (by (try simp only [List.map_toArray, List.map_cons, List.map_nil]); first | done | rfl | (simp only [List.length_drop, List.length_take]; rfl) | (simp only [gt_iff_lt, Int.natCast_pos]; rfl)) ?_; (with_reducible refine (float_Add_uint64.calls ((rd_T39 l0 x3_1).f0) (Go.bits .xor .u64 ((rd_T39 l0 x3_1).f1) 9223372036854775808) t113 _ A19.out).mono ?_); rintro e w' ⟨rfl, ⟨nd, rfl⟩⟩; refine ⟨_, rfl, ?_⟩) | (go_at_call 16; (with_reducible refine (fathomlaw3_finite.calls ((rd_T39 l0 x3_1).f0) false _ A21.out).mono ?_); rintro e w' ⟨rfl, ⟨nd, rfl⟩⟩) | (go_at_call 26; (with_reducible refine (fathomlaw3_nan.calls ((rd_T39 l0 x3_1).f0) false _ A35.out).mono ?_); rintro e w' ⟨rfl, ⟨nd, rfl⟩⟩) | (go_at_call 26; (with_reducible refine (fathomlaw3_nan.calls ((rd_T39 l0 x3_1).f1) false _ A40.out).mono ?_); rintro e w' ⟨rfl, ⟨nd, rfl⟩⟩))
                                go_meet
                                case rel => exact ⟨_, (false), (by first | rfl | (simp; done) | (simp [*]; done)), H', ⟨by have := HK1.out; have := HJ1.out; have := HJ6.out; first | omega | exact Nat.le_refl _⟩, ⟨by repeat (first | (with_reducible first | exact HB.out | apply below_alloc | apply pw_below_drewN | apply below_drew1) | exact HB.out)⟩⟩
                        · rw [if_neg c20] at H
                          have c20b0 : (t112 == t113) = false := beq_eq_false_iff_ne.mpr c20
                          have c20b1 : (t112 != t113) = true := bne_iff_ne.mpr c20
                          (first | rw [c20b0] | (simp only [i64_w, i32_w]; rw [c20b0]) | skip)
                          have H' := Aside0.mk H
                          clear H
                          go_wp2_with (first | ((with_reducible refine gate_callee (f := 77) rfl ?_); refine goesL_ (some 56) rfl rfl Try.func77 (by kernel_rfl) rfl #[.int .u64 ((rd_T39 l0 x3_1).f0), .int .u64 ((rd_T39 l0 x3_1).f1)] rfl (by (try simp only [List.map_toArray, List.map_cons, List.map_nil]); first | done | rfl | (simp only [List.length_drop, List.length_take]; rfl) | (simp only [gt_iff_lt, Int.natCast_pos]; rfl)) ?_; (with_reducible refine (float_Sub_uint64.calls ((rd_T39 l0 x3_1).f0) ((rd_T39 l0 x3_1).f1) t112 _ A18.out).mono ?_); rintro e w' ⟨rfl, ⟨nd, rfl⟩⟩; refine ⟨_, rfl, ?_⟩) | ((with_reducible refine gate_callee (f := 75) rfl ?_); refine goesL_ (some 60) rfl rfl Try.func75 (by kernel_rfl) rfl #[.int .u64 ((rd_T39 l0 x3_1).f0), .int .u64 (Go.bits .xor .u64 ((rd_T39 l0 x3_1).f1) 9223372036854775808)] rfl (by (try simp only [List.map_toArray, List.map_cons, List.map_nil]); first | done | rfl | (simp only [List.length_drop, List.length_take]; rfl) | (simp only [gt_iff_lt, Int.natCast_pos]; rfl)) ?_; (with_reducible refine (float_Add_uint64.calls ((rd_T39 l0 x3_1).f0) (Go.bits .xor .u64 ((rd_T39 l0 x3_1).f1) 9223372036854775808) t113 _ A19.out).mono ?_); rintro e w' ⟨rfl, ⟨nd, rfl⟩⟩; refine ⟨_, rfl, ?_⟩))
                          go_meet
                          case rel => exact ⟨_, (true), (by first | rfl | (simp; done) | (simp [*]; done)), H', ⟨by have := HK1.out; have := HJ1.out; have := HJ6.out; first | omega | exact Nat.le_refl _⟩, ⟨by repeat (first | (with_reducible first | exact HB.out | apply below_alloc | apply pw_below_drewN | apply below_drew1) | exact HB.out)⟩⟩
                      case rest =>
                        clear HC17
                        try clear c1
                        try clear p1
                        try clear q1
                        try clear hx1
                        try clear c2
                        try clear p2
                        try clear c3
                        try clear c3b0
                        try clear c4
                        try clear c5
                        try clear c5b0
                        try clear c6
                        try clear c6b0
                        try clear c7
                        try clear c10
                        try clear c10b0
                        try clear c10b1
                        try clear p10
                        try clear q10
                        try clear hx10
                        try clear c13
                        try clear c13b0
                        try clear c13b1
                        try clear c14
                        try clear c16
                        try clear c20
                        try clear c20b0
                        try clear c20b1
                        try clear c22
                        try clear c24
                        try clear c24b0
                        try clear c24b1
                        try clear c26
                        try clear c28
                        try clear c28b0
                        try clear c28b1
                        try clear c31
                        try clear c33
                        try clear c33b0
                        try clear c33b1
                        try clear c36
                        try clear c38
                        try clear c38b0
                        try clear c38b1
                        try clear c41
                        try clear c43
                        try clear c43b0
                        try clear c43b1
                        try clear hx104_0
                        try clear hx104_1
                        try clear hx105_0
                        try clear hx105_1
                        try clear p1
                        try clear p10
                        try clear p104
                        try clear p105
                        try clear p2
                        try clear q1
                        try clear q10
                        try clear q104
                        try clear q105
                        obtain ⟨kq, x91_16, rfl, HA, HJ16, HB⟩ := hcut
                        cases kq with
                        | zero => exact absurd HA.out (by simp [fathomlaw3_FloatTurns.j3])
                        | succ kj16 =>
                          have H := HA.out
                          clear HA
                          simp only [fathomlaw3_FloatTurns.j3] at H
                          by_cases c45 : x91_16 = true
                          · subst c45
                            have H1 : (some false) = some r := by rw [if_pos rfl] at H; exact H
                            clear H
                            have H := H1
                            clear H1
                            obtain rfl := Option.some.inj H
                            go_wp2
                            go_ret
                            exact ⟨by first | rfl | (simp [errW_none, errW_some] <;> rfl) | (simp [*, errW_none, errW_some] <;> rfl), by repeat (first | (with_reducible first | exact HB.out | apply below_alloc | apply pw_below_drewN | apply below_drew1) | exact HB.out)⟩
                          · replace c45 := Bool.eq_false_iff.mpr c45
                            subst c45
                            have H1 : ((float_Class_uint32.f ((((rd_T39 l0 x3_1).f0) / 4294967296) % 4294967296)).bind fun t128 => (if t128 = 5 then (fathomlaw3_FloatTurns.j4 kj16 l0 x3_1 ((rd_T39 l0 x3_1).f0) false) else ((float_Widen.f ((((rd_T39 l0 x3_1).f0) / 4294967296) % 4294967296)).bind fun t129 => ((float_Narrow.f t129).bind fun t130 => (fathomlaw3_FloatTurns.j4 kj16 l0 x3_1 ((rd_T39 l0 x3_1).f0) (t130 != ((((rd_T39 l0 x3_1).f0) / 4294967296) % 4294967296))))))) = some r := by rw [if_neg (show ¬ (false = true) by decide)] at H; exact H
                            clear H
                            have H := H1
                            clear H1
                            have HC46 := Aside0.mk H
                            clear H
                            go_upto_region 11 with (fail)
                            go_cut [104] (fun v104 wc => ∃ (kq : Nat) (x104_45 : Bool), v104 = .bool x104_45 ∧ Aside0 (fathomlaw3_FloatTurns.j4 kq l0 x3_1 ((rd_T39 l0 x3_1).f0) x104_45 = some r) ∧ Aside0 (kq ≤ kj16) ∧ Aside0 (Below w.heap.size w wc))
                            case first =>
                              have H := HC46.out
                              clear HC46
                              replace H := Option.bind_eq_some_iff.mp H
                              obtain ⟨t128, A470, H⟩ := H
                              replace H : (if t128 = 5 then (fathomlaw3_FloatTurns.j4 kj16 l0 x3_1 ((rd_T39 l0 x3_1).f0) false) else ((float_Widen.f ((((rd_T39 l0 x3_1).f0) / 4294967296) % 4294967296)).bind fun t129 => ((float_Narrow.f t129).bind fun t130 => (fathomlaw3_FloatTurns.j4 kj16 l0 x3_1 ((rd_T39 l0 x3_1).f0) (t130 != ((((rd_T39 l0 x3_1).f0) / 4294967296) % 4294967296)))))) = some r := H
                              have A47 := Aside0.mk A470
                              clear A470
                              by_cases c48 : t128 = 5
                              · rw [if_pos c48] at H
                                have c48b0 : (t128 == 5) = true := beq_iff_eq.mpr c48
                                have c48b1 : (t128 != 5) = false := bne_eq_false_iff_eq.mpr c48
                                clear c48
                                (first | rw [c48b0] | (simp only [i64_w, i32_w]; rw [c48b0]) | skip)
                                have H' := Aside0.mk H
                                clear H
                                go_wp2_with (first | ((with_reducible refine gate_callee (f := 18) rfl ?_); refine goesL_ (some 96) rfl rfl Try.func18 (by kernel_rfl) rfl #[.int .u32 ((((rd_T39 l0 x3_1).f0) / 4294967296) % 4294967296)] rfl (by (try simp only [List.map_toArray, List.map_cons, List.map_nil]); first | done | rfl | (simp only [List.length_drop, List.length_take]; rfl) | (simp only [gt_iff_lt, Int.natCast_pos]; rfl)) ?_; (with_reducible refine (float_Class_uint32.calls ((((rd_T39 l0 x3_1).f0) / 4294967296) % 4294967296) t128 _ A47.out).mono ?_); rintro e w49 ⟨rfl, hb⟩; refine ⟨_, rfl, ?_⟩; have n0_ := Aside0.mk (below_step (by repeat (first | (with_reducible first | exact HB.out | apply below_alloc | apply pw_below_drewN | apply below_drew1) | exact HB.out)) hb); clear HB; have HB := n0_; clear n0_; (try clear hb); (try clear hb2); (try clear hk); (try clear hi)))
                                go_meet
                                case rel => exact ⟨_, (false), (by first | rfl | (simp; done) | (simp [*]; done)), H', ⟨by have := HK1.out; have := HJ1.out; have := HJ6.out; have := HJ16.out; first | omega | exact Nat.le_refl _⟩, ⟨by repeat (first | (with_reducible first | exact HB.out | apply below_alloc | apply pw_below_drewN | apply below_drew1) | exact HB.out)⟩⟩
                              · rw [if_neg c48] at H
                                have c48b0 : (t128 == 5) = false := beq_eq_false_iff_ne.mpr c48
                                have c48b1 : (t128 != 5) = true := bne_iff_ne.mpr c48
                                (first | rw [c48b0] | (simp only [i64_w, i32_w]; rw [c48b0]) | skip)
                                replace H := Option.bind_eq_some_iff.mp H
                                obtain ⟨t129, A500, H⟩ := H
                                replace H : ((float_Narrow.f t129).bind fun t130 => (fathomlaw3_FloatTurns.j4 kj16 l0 x3_1 ((rd_T39 l0 x3_1).f0) (t130 != ((((rd_T39 l0 x3_1).f0) / 4294967296) % 4294967296)))) = some r := H
                                have A50 := Aside0.mk A500
                                clear A500
                                replace H := Option.bind_eq_some_iff.mp H
                                obtain ⟨t130, A510, H⟩ := H
                                replace H : (fathomlaw3_FloatTurns.j4 kj16 l0 x3_1 ((rd_T39 l0 x3_1).f0) (t130 != ((((rd_T39 l0 x3_1).f0) / 4294967296) % 4294967296))) = some r := H
                                have A51 := Aside0.mk A510
                                clear A510
                                have H' := Aside0.mk H
                                clear H
                                go_wp2_with (first | ((with_reducible refine gate_callee (f := 18) rfl ?_); refine goesL_ (some 96) rfl rfl Try.func18 (by kernel_rfl) rfl #[.int .u32 ((((rd_T39 l0 x3_1).f0) / 4294967296) % 4294967296)] rfl (by (try simp only [List.map_toArray, List.map_cons, List.map_nil]); first | done | rfl | (simp only [List.length_drop, List.length_take]; rfl) | (simp only [gt_iff_lt, Int.natCast_pos]; rfl)) ?_; (with_reducible refine (float_Class_uint32.calls ((((rd_T39 l0 x3_1).f0) / 4294967296) % 4294967296) t128 _ A47.out).mono ?_); rintro e w52 ⟨rfl, hb⟩; refine ⟨_, rfl, ?_⟩; have n0_ := Aside0.mk (below_step (by repeat (first | (with_reducible first | exact HB.out | apply below_alloc | apply pw_below_drewN | apply below_drew1) | exact HB.out)) hb); clear HB; have HB := n0_; clear n0_; (try clear hb); (try clear hb2); (try clear hk); (try clear hi)) | (go_at_call 41; (with_reducible refine (float_Widen.calls ((((rd_T39 l0 x3_1).f0) / 4294967296) % 4294967296) t129 _ A50.out).mono ?_); rintro e w53 ⟨rfl, hb⟩; have n0_ := Aside0.mk (below_step (by repeat (first | (with_reducible first | exact HB.out | apply below_alloc | apply pw_below_drewN | apply below_drew1) | exact HB.out)) hb); clear HB; have HB := n0_; clear n0_; (try clear hb); (try clear hb2); (try clear hk); (try clear hi)) | (go_at_call 17; (with_reducible refine (float_Narrow.calls t129 t130 _ A51.out).mono ?_); rintro e w54 ⟨rfl, hb⟩; have n0_ := Aside0.mk (below_step (by repeat (first | (with_reducible first | exact HB.out | apply below_alloc | apply pw_below_drewN | apply below_drew1) | exact HB.out)) hb); clear HB; have HB := n0_; clear n0_; (try clear hb); (try clear hb2); (try clear hk); (try clear hi)))
                                go_meet
                                case rel => exact ⟨_, ((t130 != ((((rd_T39 l0 x3_1).f0) / 4294967296) % 4294967296))), (by first | rfl | (simp; done) | (simp [*]; done)), H', ⟨by have := HK1.out; have := HJ1.out; have := HJ6.out; have := HJ16.out; first | omega | exact Nat.le_refl _⟩, ⟨by repeat (first | (with_reducible first | exact HB.out | apply below_alloc | apply pw_below_drewN | apply below_drew1) | exact HB.out)⟩⟩
                            case rest =>
                              clear HC46
                              try clear c1
                              try clear p1
                              try clear q1
                              try clear hx1
                              try clear c2
                              try clear p2
                              try clear c3
                              try clear c3b0
                              try clear c4
                              try clear c5
                              try clear c5b0
                              try clear c6
                              try clear c6b0
                              try clear c7
                              try clear c10
                              try clear c10b0
                              try clear c10b1
                              try clear p10
                              try clear q10
                              try clear hx10
                              try clear c13
                              try clear c13b0
                              try clear c13b1
                              try clear c14
                              try clear c16
                              try clear c18
                              try clear c20
                              try clear c20b0
                              try clear c20b1
                              try clear c22
                              try clear c24
                              try clear c24b0
                              try clear c24b1
                              try clear c26
                              try clear c28
                              try clear c28b0
                              try clear c28b1
                              try clear c31
                              try clear c33
                              try clear c33b0
                              try clear c33b1
                              try clear c36
                              try clear c38
                              try clear c38b0
                              try clear c38b1
                              try clear c41
                              try clear c43
                              try clear c43b0
                              try clear c43b1
                              try clear c45
                              try clear c48
                              try clear c48b0
                              try clear c48b1
                              try clear hx104_0
                              try clear hx104_1
                              try clear hx105_0
                              try clear hx105_1
                              try clear p1
                              try clear p10
                              try clear p104
                              try clear p105
                              try clear p2
                              try clear q1
                              try clear q10
                              try clear q104
                              try clear q105
                              obtain ⟨kq, x104_45, rfl, HA, HJ45, HB⟩ := hcut
                              cases kq with
                              | zero => exact absurd HA.out (by simp [fathomlaw3_FloatTurns.j4])
                              | succ kj45 =>
                                have H := HA.out
                                clear HA
                                simp only [fathomlaw3_FloatTurns.j4] at H
                                by_cases c55 : x104_45 = true
                                · subst c55
                                  have H1 : (some false) = some r := by rw [if_pos rfl] at H; exact H
                                  clear H
                                  have H := H1
                                  clear H1
                                  obtain rfl := Option.some.inj H
                                  go_wp2
                                  go_ret
                                  exact ⟨by first | rfl | (simp [errW_none, errW_some] <;> rfl) | (simp [*, errW_none, errW_some] <;> rfl), by repeat (first | (with_reducible first | exact HB.out | apply below_alloc | apply pw_below_drewN | apply below_drew1) | exact HB.out)⟩
                                · replace c55 := Bool.eq_false_iff.mpr c55
                                  subst c55
                                  have H1 : ((fathomlaw3_finite.f ((rd_T39 l0 x3_1).f0)).bind fun t131 => (if t131 = true then ((float_Mul_uint64.f ((rd_T39 l0 x3_1).f0) 4611686018427387904).bind fun t132 => ((fathomlaw3_finite.f t132).bind fun t133 => (if t133 = true then ((float_Mul_uint64.f ((rd_T39 l0 x3_1).f0) 4611686018427387904).bind fun t134 => ((float_Add_uint64.f ((rd_T39 l0 x3_1).f0) ((rd_T39 l0 x3_1).f0)).bind fun t135 => (if t134 = t135 then (fathomlaw3_FloatTurns.l0 kj45 l0 (wrap64 (x3_1 + 1))) else (some false)))) else (fathomlaw3_FloatTurns.l0 kj45 l0 (wrap64 (x3_1 + 1)))))) else (fathomlaw3_FloatTurns.l0 kj45 l0 (wrap64 (x3_1 + 1))))) = some r := by rw [if_neg (show ¬ (false = true) by decide)] at H; exact H
                                  clear H
                                  have H := H1
                                  clear H1
                                  replace H := Option.bind_eq_some_iff.mp H
                                  obtain ⟨t131, A560, H⟩ := H
                                  replace H : (if t131 = true then ((float_Mul_uint64.f ((rd_T39 l0 x3_1).f0) 4611686018427387904).bind fun t132 => ((fathomlaw3_finite.f t132).bind fun t133 => (if t133 = true then ((float_Mul_uint64.f ((rd_T39 l0 x3_1).f0) 4611686018427387904).bind fun t134 => ((float_Add_uint64.f ((rd_T39 l0 x3_1).f0) ((rd_T39 l0 x3_1).f0)).bind fun t135 => (if t134 = t135 then (fathomlaw3_FloatTurns.l0 kj45 l0 (wrap64 (x3_1 + 1))) else (some false)))) else (fathomlaw3_FloatTurns.l0 kj45 l0 (wrap64 (x3_1 + 1)))))) else (fathomlaw3_FloatTurns.l0 kj45 l0 (wrap64 (x3_1 + 1)))) = some r := H
                                  have A56 := Aside0.mk A560
                                  clear A560
                                  by_cases c57 : t131 = true
                                  · subst c57
                                    have H1 : ((float_Mul_uint64.f ((rd_T39 l0 x3_1).f0) 4611686018427387904).bind fun t132 => ((fathomlaw3_finite.f t132).bind fun t133 => (if t133 = true then ((float_Mul_uint64.f ((rd_T39 l0 x3_1).f0) 4611686018427387904).bind fun t134 => ((float_Add_uint64.f ((rd_T39 l0 x3_1).f0) ((rd_T39 l0 x3_1).f0)).bind fun t135 => (if t134 = t135 then (fathomlaw3_FloatTurns.l0 kj45 l0 (wrap64 (x3_1 + 1))) else (some false)))) else (fathomlaw3_FloatTurns.l0 kj45 l0 (wrap64 (x3_1 + 1)))))) = some r := by rw [if_pos rfl] at H; exact H
                                    clear H
                                    have H := H1
                                    clear H1
                                    replace H := Option.bind_eq_some_iff.mp H
                                    obtain ⟨t132, A580, H⟩ := H
                                    replace H : ((fathomlaw3_finite.f t132).bind fun t133 => (if t133 = true then ((float_Mul_uint64.f ((rd_T39 l0 x3_1).f0) 4611686018427387904).bind fun t134 => ((float_Add_uint64.f ((rd_T39 l0 x3_1).f0) ((rd_T39 l0 x3_1).f0)).bind fun t135 => (if t134 = t135 then (fathomlaw3_FloatTurns.l0 kj45 l0 (wrap64 (x3_1 + 1))) else (some false)))) else (fathomlaw3_FloatTurns.l0 kj45 l0 (wrap64 (x3_1 + 1))))) = some r := H
                                    have A58 := Aside0.mk A580
                                    clear A580
                                    replace H := Option.bind_eq_some_iff.mp H
                                    obtain ⟨t133, A590, H⟩ := H
                                    replace H : (if t133 = true then ((float_Mul_uint64.f ((rd_T39 l0 x3_1).f0) 4611686018427387904).bind fun t134 => ((float_Add_uint64.f ((rd_T39 l0 x3_1).f0) ((rd_T39 l0 x3_1).f0)).bind fun t135 => (if t134 = t135 then (fathomlaw3_FloatTurns.l0 kj45 l0 (wrap64 (x3_1 + 1))) else (some false)))) else (fathomlaw3_FloatTurns.l0 kj45 l0 (wrap64 (x3_1 + 1)))) = some r := H
                                    have A59 := Aside0.mk A590
                                    clear A590
                                    by_cases c60 : t133 = true
                                    · subst c60
                                      have H1 : ((float_Mul_uint64.f ((rd_T39 l0 x3_1).f0) 4611686018427387904).bind fun t134 => ((float_Add_uint64.f ((rd_T39 l0 x3_1).f0) ((rd_T39 l0 x3_1).f0)).bind fun t135 => (if t134 = t135 then (fathomlaw3_FloatTurns.l0 kj45 l0 (wrap64 (x3_1 + 1))) else (some false)))) = some r := by rw [if_pos rfl] at H; exact H
                                      clear H
                                      have H := H1
                                      clear H1
                                      replace H := Option.bind_eq_some_iff.mp H
                                      obtain ⟨t134, A610, H⟩ := H
                                      replace H : ((float_Add_uint64.f ((rd_T39 l0 x3_1).f0) ((rd_T39 l0 x3_1).f0)).bind fun t135 => (if t134 = t135 then (fathomlaw3_FloatTurns.l0 kj45 l0 (wrap64 (x3_1 + 1))) else (some false))) = some r := H
                                      have A61 := Aside0.mk A610
                                      clear A610
                                      replace H := Option.bind_eq_some_iff.mp H
                                      obtain ⟨t135, A620, H⟩ := H
                                      replace H : (if t134 = t135 then (fathomlaw3_FloatTurns.l0 kj45 l0 (wrap64 (x3_1 + 1))) else (some false)) = some r := H
                                      have A62 := Aside0.mk A620
                                      clear A620
                                      obtain rfl : t132 = t134 := Option.some.inj (A58.out.symm.trans A61.out)
                                      by_cases c63 : t132 = t135
                                      · rw [if_pos c63] at H
                                        have c63b0 : (t132 == t135) = true := beq_iff_eq.mpr c63
                                        have c63b1 : (t132 != t135) = false := bne_eq_false_iff_eq.mpr c63
                                        clear c63
                                        have H' := Aside0.mk H
                                        clear H
                                        go_wp2_with (first | ((with_reducible refine gate_callee (f := 16) rfl ?_); refine goesL_ (some 106) rfl rfl Try.func16 (by kernel_rfl) rfl #[.int .u64 ((rd_T39 l0 x3_1).f0)] rfl (by (try simp only [List.map_toArray, List.map_cons, List.map_nil]); first | done | rfl | (simp only [List.length_drop, List.length_take]; rfl) | (simp only [gt_iff_lt, Int.natCast_pos]; rfl)) ?_; (with_reducible refine (fathomlaw3_finite.calls ((rd_T39 l0 x3_1).f0) true _ A56.out).mono ?_); rintro e w' ⟨rfl, ⟨nd, rfl⟩⟩; refine ⟨_, rfl, ?_⟩) | (go_at_call 76; (with_reducible refine (float_Mul_uint64.calls ((rd_T39 l0 x3_1).f0) 4611686018427387904 t132 _ A58.out).mono ?_); rintro e w' ⟨rfl, ⟨nd, rfl⟩⟩) | (go_at_call 16; (with_reducible refine (fathomlaw3_finite.calls t132 true _ A59.out).mono ?_); rintro e w' ⟨rfl, ⟨nd, rfl⟩⟩) | (go_at_call 76; (with_reducible refine (float_Mul_uint64.calls ((rd_T39 l0 x3_1).f0) 4611686018427387904 t134 _ A61.out).mono ?_); rintro e w' ⟨rfl, ⟨nd, rfl⟩⟩) | (go_at_call 75; (with_reducible refine (float_Add_uint64.calls ((rd_T39 l0 x3_1).f0) ((rd_T39 l0 x3_1).f0) t135 _ A62.out).mono ?_); rintro e w' ⟨rfl, ⟨nd, rfl⟩⟩))
                                        go_roundg kj45
                                        case measure => have := HK1.out; have := HJ1.out; have := HJ6.out; have := HJ16.out; have := HJ45.out; omega
                                        case rel => exact ⟨(wrap64 (x3_1 + 1)), (by first | rfl | (simp; done) | (simp [*]; done)), H', ⟨by have := HK1.out; have := HJ1.out; have := HJ6.out; have := HJ16.out; have := HJ45.out; omega⟩, ⟨by repeat (first | (with_reducible first | exact HB.out | apply below_alloc | apply pw_below_drewN | apply below_drew1) | exact HB.out)⟩⟩
                                      · rw [if_neg c63] at H
                                        have c63b0 : (t132 == t135) = false := beq_eq_false_iff_ne.mpr c63
                                        have c63b1 : (t132 != t135) = true := bne_iff_ne.mpr c63
                                        obtain rfl := Option.some.inj H
                                        go_wp2_with (first | ((with_reducible refine gate_callee (f := 16) rfl ?_); refine goesL_ (some 106) rfl rfl Try.func16 (by kernel_rfl) rfl #[.int .u64 ((rd_T39 l0 x3_1).f0)] rfl (by (try simp only [List.map_toArray, List.map_cons, List.map_nil]); first | done | rfl | (simp only [List.length_drop, List.length_take]; rfl) | (simp only [gt_iff_lt, Int.natCast_pos]; rfl)) ?_; (with_reducible refine (fathomlaw3_finite.calls ((rd_T39 l0 x3_1).f0) true _ A56.out).mono ?_); rintro e w' ⟨rfl, ⟨nd, rfl⟩⟩; refine ⟨_, rfl, ?_⟩) | (go_at_call 76; (with_reducible refine (float_Mul_uint64.calls ((rd_T39 l0 x3_1).f0) 4611686018427387904 t132 _ A58.out).mono ?_); rintro e w' ⟨rfl, ⟨nd, rfl⟩⟩) | (go_at_call 16; (with_reducible refine (fathomlaw3_finite.calls t132 true _ A59.out).mono ?_); rintro e w' ⟨rfl, ⟨nd, rfl⟩⟩) | (go_at_call 76; (with_reducible refine (float_Mul_uint64.calls ((rd_T39 l0 x3_1).f0) 4611686018427387904 t134 _ A61.out).mono ?_); rintro e w' ⟨rfl, ⟨nd, rfl⟩⟩) | (go_at_call 75; (with_reducible refine (float_Add_uint64.calls ((rd_T39 l0 x3_1).f0) ((rd_T39 l0 x3_1).f0) t135 _ A62.out).mono ?_); rintro e w' ⟨rfl, ⟨nd, rfl⟩⟩))
                                        go_ret
                                        exact ⟨by first | rfl | (simp [errW_none, errW_some] <;> rfl) | (simp [*, errW_none, errW_some] <;> rfl), by repeat (first | (with_reducible first | exact HB.out | apply below_alloc | apply pw_below_drewN | apply below_drew1) | exact HB.out)⟩
                                    · replace c60 := Bool.eq_false_iff.mpr c60
                                      subst c60
                                      have H1 : (fathomlaw3_FloatTurns.l0 kj45 l0 (wrap64 (x3_1 + 1))) = some r := by rw [if_neg (show ¬ (false = true) by decide)] at H; exact H
                                      clear H
                                      have H := H1
                                      clear H1
                                      have H' := Aside0.mk H
                                      clear H
                                      go_wp2_with (first | ((with_reducible refine gate_callee (f := 16) rfl ?_); refine goesL_ (some 106) rfl rfl Try.func16 (by kernel_rfl) rfl #[.int .u64 ((rd_T39 l0 x3_1).f0)] rfl (by (try simp only [List.map_toArray, List.map_cons, List.map_nil]); first | done | rfl | (simp only [List.length_drop, List.length_take]; rfl) | (simp only [gt_iff_lt, Int.natCast_pos]; rfl)) ?_; (with_reducible refine (fathomlaw3_finite.calls ((rd_T39 l0 x3_1).f0) true _ A56.out).mono ?_); rintro e w' ⟨rfl, ⟨nd, rfl⟩⟩; refine ⟨_, rfl, ?_⟩) | (go_at_call 76; (with_reducible refine (float_Mul_uint64.calls ((rd_T39 l0 x3_1).f0) 4611686018427387904 t132 _ A58.out).mono ?_); rintro e w' ⟨rfl, ⟨nd, rfl⟩⟩) | (go_at_call 16; (with_reducible refine (fathomlaw3_finite.calls t132 false _ A59.out).mono ?_); rintro e w' ⟨rfl, ⟨nd, rfl⟩⟩))
                                      go_roundg kj45
                                      case measure => have := HK1.out; have := HJ1.out; have := HJ6.out; have := HJ16.out; have := HJ45.out; omega
                                      case rel => exact ⟨(wrap64 (x3_1 + 1)), (by first | rfl | (simp; done) | (simp [*]; done)), H', ⟨by have := HK1.out; have := HJ1.out; have := HJ6.out; have := HJ16.out; have := HJ45.out; omega⟩, ⟨by repeat (first | (with_reducible first | exact HB.out | apply below_alloc | apply pw_below_drewN | apply below_drew1) | exact HB.out)⟩⟩
                                  · replace c57 := Bool.eq_false_iff.mpr c57
                                    subst c57
                                    have H1 : (fathomlaw3_FloatTurns.l0 kj45 l0 (wrap64 (x3_1 + 1))) = some r := by rw [if_neg (show ¬ (false = true) by decide)] at H; exact H
                                    clear H
                                    have H := H1
                                    clear H1
                                    have H' := Aside0.mk H
                                    clear H
                                    go_wp2_with (first | ((with_reducible refine gate_callee (f := 16) rfl ?_); refine goesL_ (some 106) rfl rfl Try.func16 (by kernel_rfl) rfl #[.int .u64 ((rd_T39 l0 x3_1).f0)] rfl (by (try simp only [List.map_toArray, List.map_cons, List.map_nil]); first | done | rfl | (simp only [List.length_drop, List.length_take]; rfl) | (simp only [gt_iff_lt, Int.natCast_pos]; rfl)) ?_; (with_reducible refine (fathomlaw3_finite.calls ((rd_T39 l0 x3_1).f0) false _ A56.out).mono ?_); rintro e w' ⟨rfl, ⟨nd, rfl⟩⟩; refine ⟨_, rfl, ?_⟩))
                                    go_roundg kj45
                                    case measure => have := HK1.out; have := HJ1.out; have := HJ6.out; have := HJ16.out; have := HJ45.out; omega
                                    case rel => exact ⟨(wrap64 (x3_1 + 1)), (by first | rfl | (simp; done) | (simp [*]; done)), H', ⟨by have := HK1.out; have := HJ1.out; have := HJ6.out; have := HJ16.out; have := HJ45.out; omega⟩, ⟨by repeat (first | (with_reducible first | exact HB.out | apply below_alloc | apply pw_below_drewN | apply below_drew1) | exact HB.out)⟩⟩
              · rw [if_neg c6] at H
                exact absurd H (by simp)
            · rw [if_neg c5] at H
              exact absurd H (by simp)
          · replace c4 := Bool.eq_false_iff.mpr c4
            subst c4
            have H1 : ((fathomlaw3_wakes.f).bind fun t103 => (some t103)) = some r := by rw [if_neg (show ¬ (false = true) by decide)] at H; exact H
            clear H
            have H := H1
            clear H1
            replace H := Option.bind_eq_some_iff.mp H
            obtain ⟨t103, A640, H⟩ := H
            replace H : (some t103) = some r := H
            have A64 := Aside0.mk A640
            clear A640
            obtain rfl := Option.some.inj H
            go_wp2_with (first | ((with_reducible refine gate_callee (f := 24) rfl ?_); refine goesL_ (some 120) rfl rfl Try.func24 (by kernel_rfl) rfl #[] rfl (by (try simp only [List.map_toArray, List.map_cons, List.map_nil]); first | done | rfl | (simp only [List.length_drop, List.length_take]; rfl) | (simp only [gt_iff_lt, Int.natCast_pos]; rfl)) ?_; (with_reducible refine (fathomlaw3_wakes.calls  t103 _ A64.out).mono ?_); rintro e w65 ⟨rfl, hb⟩; refine ⟨_, rfl, ?_⟩; have n0_ := Aside0.mk (below_step (by repeat (first | (with_reducible first | exact HB.out | apply below_alloc | apply pw_below_drewN | apply below_drew1) | exact HB.out)) hb); clear HB; have HB := n0_; clear n0_; (try clear hb); (try clear hb2); (try clear hk); (try clear hi)))
            go_ret
            exact ⟨by first | rfl | (simp [errW_none, errW_some] <;> rfl) | (simp [*, errW_none, errW_some] <;> rfl), by repeat (first | (with_reducible first | exact HB.out | apply below_alloc | apply pw_below_drewN | apply below_drew1) | exact HB.out)⟩
end Go.Proofs.Ytfloeiagdegpjaa.LTurns
