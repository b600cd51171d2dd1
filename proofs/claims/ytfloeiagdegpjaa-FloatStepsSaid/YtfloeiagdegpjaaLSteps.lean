/- The law FloatSteps: what its body comes to, as a Lean function over the rows that it is handed. The walk began as print.sh's text for this function, over the float functions of YtfloeiagdegpjaaSt. -/
import Derived.Test.YtfloeiagdegpjaaSt
import Derived.Test.YtfloeiagdegpjaaRe
namespace Go.Proofs.Ytfloeiagdegpjaa.LSteps
open Go.RowKit Go.Proofs.YtfloeiagdegpjaaW.PrintWords Go.Proofs.YtfloeiagdegpjaaW.PrintLast Go.Proofs.YtfloeiagdegpjaaW.PrintMore Go.Proofs.Ytfloeiagdegpjaa.Rf
attribute [local go_sem] max2_int min2_int max_two min_two max_three min_three max_four min_four
set_option linter.unusedVariables false
set_option linter.unusedSimpArgs false

/-! #### struct type 39 -/
structure S39 where
  f0 : Int
  f1 : Int
def z39 : S39 := ⟨(0 : Int), (0 : Int)⟩
def k39 : Kd S39 := Kd.iso (Kd.pair (Kd.int .u64) (Kd.int .u64)) (fun x : S39 => (x.f0, x.f1))
theorem k39_open {w : World} {x : S39} {cs : List Value} (h : k39.K w x cs) : cs = [.int .u64 x.f0, .int .u64 x.f1] := by
  obtain ⟨_, _, rfl, rfl, rfl⟩ := h
  exact rfl
theorem k39_openM {w : World} {base : Nat} {ok : Nat → Prop} {x : S39} {cs : List Value} (h : k39.M w base ok x cs) : cs = [.int .u64 x.f0, .int .u64 x.f1] := by
  obtain ⟨_, _, rfl, rfl, rfl⟩ := h
  exact rfl
theorem k39_mk (w : World) (x : S39)  : k39.K w x [.int .u64 x.f0, .int .u64 x.f1] := ⟨[.int .u64 x.f0], [.int .u64 x.f1], rfl, rfl, rfl⟩
theorem k39_mkM (w : World) (base : Nat) (ok : Nat → Prop) (x : S39)  : k39.M w base ok x [.int .u64 x.f0, .int .u64 x.f1] := ⟨[.int .u64 x.f0], [.int .u64 x.f1], rfl, rfl, rfl⟩
def rd_T39 (xs : List S39) (i : Int) : S39 := xs.getD i.toNat z39
theorem at_T39 {w : World} {A : Option Addr} {n : Nat} {xs : List S39} (h : Kd.C k39 w A n xs) (i : Int) (h0 : 0 ≤ i) (h1 : i < n) : ∃ ad , A = some ad ∧ w.cell? (ad.add (i.toNat * 2)) = some (.int .u64 (rd_T39 xs i).f0) ∧ w.cell? ⟨(ad.add (i.toNat * 2)).block, (ad.add (i.toNat * 2)).off + 1, none⟩ = some (.int .u64 (rd_T39 xs i).f1) := by
  obtain ⟨ad, c, e, _, hK, hc0⟩ := Kd.C_get h z39 i h0 h1
  have hc : ∀ j u, c[j]? = some u → w.cell? (ad.add (i.toNat * 2 + j)) = some u := hc0
  obtain rfl := k39_open hK
  exact ⟨ad, e, hc 0 _ rfl, by rw [← add_field _ _ 1 (by omega)]; exact hc 1 _ rfl⟩


/-! ### fathomlaw3_FloatSteps: function 9 -/
mutual
def fathomlaw3_FloatSteps.l0 : Nat → List (S39) → Int → Option (Bool)
  | 0, _, _ => none
  | k + 1, x0, x3 => if x3 < (x0.length : Int) then (fathomlaw3_FloatSteps.j1 k x0 x3 (decide (x3 < 2000))) else (fathomlaw3_FloatSteps.j1 k x0 x3 false)
def fathomlaw3_FloatSteps.j1 : Nat → List (S39) → Int → Bool → Option (Bool)
  | 0, _, _, _ => none
  | k + 1, x0, x3, x16 => if x16 = true then (if 0 ≤ x3 then (if x3 < (x0.length : Int) then ((float_Key_uint64.f ((rd_T39 x0 x3).f0)).bind fun t106 => ((float_OfKey_uint64.f t106).bind fun t107 => (if t107 = ((rd_T39 x0 x3).f0) then ((float_OfKey_uint64.f ((rd_T39 x0 x3).f0)).bind fun t108 => ((float_Key_uint64.f t108).bind fun t109 => (fathomlaw3_FloatSteps.j2 k x0 x3 ((rd_T39 x0 x3).f0) ((rd_T39 x0 x3).f1) (t109 != ((rd_T39 x0 x3).f0))))) else (fathomlaw3_FloatSteps.j2 k x0 x3 ((rd_T39 x0 x3).f0) ((rd_T39 x0 x3).f1) true)))) else (none)) else (none)) else ((fathomlaw3_wakes.f).bind fun t103 => (some t103))
def fathomlaw3_FloatSteps.j2 : Nat → List (S39) → Int → Int → Int → Bool → Option (Bool)
  | 0, _, _, _, _, _ => none
  | k + 1, x0, x3, x4, x5, x40 => if x40 = true then (some false) else ((fathomlaw3_nan.f x4).bind fun t110 => (if t110 = true then ((float_Up_uint64.f x4).bind fun t111 => (if t111 = 9221120237041090560 then ((float_Down_uint64.f x4).bind fun t112 => (if t112 = 9221120237041090560 then (fathomlaw3_FloatSteps.l0 k x0 (wrap64 (x3 + 1))) else (some false))) else (some false))) else ((float_Up_uint64.f x4).bind fun t113 => (if (Go.bits .andNot .u64 x4 9223372036854775808) = 0 then (fathomlaw3_FloatSteps.j3 k x0 x3 x4 x5 false) else (if x4 = 9218868437227405312 then (fathomlaw3_FloatSteps.j3 k x0 x3 x4 x5 false) else ((float_Key_uint64.f t113).bind fun t114 => ((float_Key_uint64.f x4).bind fun t115 => (if t114 = (IntKind.u64.wrap (t115 + 1)) then (if (Go.bits .andNot .u64 t113 9223372036854775808) = 0 then (fathomlaw3_FloatSteps.j3 k x0 x3 x4 x5 false) else ((float_Down_uint64.f t113).bind fun t116 => (fathomlaw3_FloatSteps.j3 k x0 x3 x4 x5 (t116 != x4)))) else (fathomlaw3_FloatSteps.j3 k x0 x3 x4 x5 true)))))))))
def fathomlaw3_FloatSteps.j3 : Nat → List (S39) → Int → Int → Int → Bool → Option (Bool)
  | 0, _, _, _, _, _ => none
  | k + 1, x0, x3, x4, x5, x78 => if x78 = true then (some false) else ((float_Cmp_uint64.f x4 x5).bind fun bt117 => ((fathomlaw3_nan.f x5).bind fun t119 => (if (bt117.2 == t119) = true then (some false) else (if bt117.2 = true then (if (Go.bits .andNot .u64 (Go.bits .or .u64 x4 x5) 9223372036854775808) = 0 then (fathomlaw3_FloatSteps.l0 k x0 (wrap64 (x3 + 1))) else ((float_Key_uint64.f x4).bind fun t120 => ((float_Key_uint64.f x5).bind fun t121 => (if ((decide (bt117.1 < 0)) != (decide (t120 < t121))) = true then (some false) else (if ((bt117.1 == 0) != (x4 == x5)) = true then (some false) else (fathomlaw3_FloatSteps.l0 k x0 (wrap64 (x3 + 1)))))))) else (fathomlaw3_FloatSteps.l0 k x0 (wrap64 (x3 + 1)))))))
end
def fathomlaw3_FloatSteps.f (k : Nat) (l0 : List (S39)) : Option (Bool) := fathomlaw3_FloatSteps.l0 k l0 0
theorem fathomlaw3_FloatSteps.mono_l : ∀ k, (∀ y0 y1, LeO (fathomlaw3_FloatSteps.l0 k y0 y1) (fathomlaw3_FloatSteps.l0 (k + 1) y0 y1)) ∧ (∀ y0 y1 y2, LeO (fathomlaw3_FloatSteps.j1 k y0 y1 y2) (fathomlaw3_FloatSteps.j1 (k + 1) y0 y1 y2)) ∧ (∀ y0 y1 y2 y3 y4, LeO (fathomlaw3_FloatSteps.j2 k y0 y1 y2 y3 y4) (fathomlaw3_FloatSteps.j2 (k + 1) y0 y1 y2 y3 y4)) ∧ (∀ y0 y1 y2 y3 y4, LeO (fathomlaw3_FloatSteps.j3 k y0 y1 y2 y3 y4) (fathomlaw3_FloatSteps.j3 (k + 1) y0 y1 y2 y3 y4))
  | 0 => ⟨fun _ _ r h => by simp [fathomlaw3_FloatSteps.l0] at h, fun _ _ _ r h => by simp [fathomlaw3_FloatSteps.j1] at h, fun _ _ _ _ _ r h => by simp [fathomlaw3_FloatSteps.j2] at h, fun _ _ _ _ _ r h => by simp [fathomlaw3_FloatSteps.j3] at h⟩
  | k + 1 => by
    obtain ⟨ih0, ih1, ih2, ih3⟩ := fathomlaw3_FloatSteps.mono_l k
    refine ⟨?_, ?_, ?_, ?_⟩
    · intro y0 y1
      unfold fathomlaw3_FloatSteps.l0
      repeat' first
      | (with_reducible exact ih0 _ _)
      | (with_reducible exact ih1 _ _ _)
      | (with_reducible exact ih2 _ _ _ _ _)
      | (with_reducible exact ih3 _ _ _ _ _)
      | (with_reducible exact LeO.refl _)
      | (with_reducible exact LeO.none _)
      | (with_reducible refine LeO.ite ?_ ?_)
      | (with_reducible refine LeO.bind ?_ (fun _ => ?_))
      | exact ih0 _ _
      | exact ih1 _ _ _
      | exact ih2 _ _ _ _ _
      | exact ih3 _ _ _ _ _
      | exact LeO.none _
      | refine LeO.ite ?_ ?_
      | refine LeO.bind ?_ (fun _ => ?_)
    · intro y0 y1 y2
      unfold fathomlaw3_FloatSteps.j1
      repeat' first
      | (with_reducible exact ih0 _ _)
      | (with_reducible exact ih1 _ _ _)
      | (with_reducible exact ih2 _ _ _ _ _)
      | (with_reducible exact ih3 _ _ _ _ _)
      | (with_reducible exact LeO.refl _)
      | (with_reducible exact LeO.none _)
      | (with_reducible refine LeO.ite ?_ ?_)
      | (with_reducible refine LeO.bind ?_ (fun _ => ?_))
      | exact ih0 _ _
      | exact ih1 _ _ _
      | exact ih2 _ _ _ _ _
      | exact ih3 _ _ _ _ _
      | exact LeO.none _
      | refine LeO.ite ?_ ?_
      | refine LeO.bind ?_ (fun _ => ?_)
    · intro y0 y1 y2 y3 y4
      unfold fathomlaw3_FloatSteps.j2
      repeat' first
      | (with_reducible exact ih0 _ _)
      | (with_reducible exact ih1 _ _ _)
      | (with_reducible exact ih2 _ _ _ _ _)
      | (with_reducible exact ih3 _ _ _ _ _)
      | (with_reducible exact LeO.refl _)
      | (with_reducible exact LeO.none _)
      | (with_reducible refine LeO.ite ?_ ?_)
      | (with_reducible refine LeO.bind ?_ (fun _ => ?_))
      | exact ih0 _ _
      | exact ih1 _ _ _
      | exact ih2 _ _ _ _ _
      | exact ih3 _ _ _ _ _
      | exact LeO.none _
      | refine LeO.ite ?_ ?_
      | refine LeO.bind ?_ (fun _ => ?_)
    · intro y0 y1 y2 y3 y4
      unfold fathomlaw3_FloatSteps.j3
      repeat' first
      | (with_reducible exact ih0 _ _)
      | (with_reducible exact ih1 _ _ _)
      | (with_reducible exact ih2 _ _ _ _ _)
      | (with_reducible exact ih3 _ _ _ _ _)
      | (with_reducible exact LeO.refl _)
      | (with_reducible exact LeO.none _)
      | (with_reducible refine LeO.ite ?_ ?_)
      | (with_reducible refine LeO.bind ?_ (fun _ => ?_))
      | exact ih0 _ _
      | exact ih1 _ _ _
      | exact ih2 _ _ _ _ _
      | exact ih3 _ _ _ _ _
      | exact LeO.none _
      | refine LeO.ite ?_ ?_
      | refine LeO.bind ?_ (fun _ => ?_)
theorem fathomlaw3_FloatSteps.mono : ∀ a0 k, LeO (fathomlaw3_FloatSteps.f k a0) (fathomlaw3_FloatSteps.f (k + 1) a0) := by
  intro a0 k
  obtain ⟨ih0, ih1, ih2, ih3⟩ := fathomlaw3_FloatSteps.mono_l k
  unfold fathomlaw3_FloatSteps.f
  repeat' first
      | (with_reducible exact ih0 _ _)
      | (with_reducible exact ih1 _ _ _)
      | (with_reducible exact ih2 _ _ _ _ _)
      | (with_reducible exact ih3 _ _ _ _ _)
      | (with_reducible exact LeO.refl _)
      | (with_reducible exact LeO.none _)
      | (with_reducible refine LeO.ite ?_ ?_)
      | (with_reducible refine LeO.bind ?_ (fun _ => ?_))
      | exact ih0 _ _
      | exact ih1 _ _ _
      | exact ih2 _ _ _ _ _
      | exact ih3 _ _ _ _ _
      | exact LeO.none _
      | refine LeO.ite ?_ ?_
      | refine LeO.bind ?_ (fun _ => ?_)
set_option maxHeartbeats 8000000 in
set_option maxRecDepth 100000 in
theorem fathomlaw3_FloatSteps.calls (k : Nat) (A0 : Option Addr) (c0 : Nat) (l0 : List (S39)) (r : Bool) (w : World) (hr0 : Kd.C k39 w A0 l0.length l0) (hc0 : l0.length ≤ c0) (h : fathomlaw3_FloatSteps.f k l0 = some r) :
    Calls Try.prog 9 #[.slice A0 l0.length c0] w fun e w' => e = .returned (.bool r) ∧ Below w.heap.size w w' := by
  have HR0 := Aside0.mk hr0
  have HC0 := Aside0.mk hc0
  clear hr0 hc0
  have HB := Aside0.mk (Below.refl w.heap.size w)
  have H : (fathomlaw3_FloatSteps.l0 k l0 0) = some r := h
  clear h
  have H' := Aside0.mk H
  clear H
  go_enter Try.func9, Try.ntmps9
  go_wp2
  go_loopg [3] k (fun kq v3 w' => ∃ (x3_1 : Int), v3 = .int .i64 x3_1 ∧ Aside0 (fathomlaw3_FloatSteps.l0 kq l0 x3_1 = some r) ∧ Aside0 (kq ≤ k) ∧ Aside0 (Below w.heap.size w w'))
  case atStart => exact ⟨(0), (by first | rfl | (simp; done) | (simp [*]; done)), H', ⟨Nat.le_refl _⟩, ⟨by repeat (first | (with_reducible first | exact HB.out | apply below_alloc | apply pw_below_drewN | apply below_drew1) | exact HB.out)⟩⟩
  case round =>
    clear H'
    obtain ⟨x3_1, rfl, HA, HK1, HB⟩ := hrel
    cases gk with
    | zero => exact absurd HA.out (by simp [fathomlaw3_FloatSteps.l0])
    | succ k1 =>
      have H := HA.out
      clear HA
      simp only [fathomlaw3_FloatSteps.l0] at H
      have HC2 := Aside0.mk H
      clear H
      go_upto_region 2 with (fail)
      go_cut [16] (fun v16 wc => ∃ (kq : Nat) (x16_1 : Bool), v16 = .bool x16_1 ∧ Aside0 (fathomlaw3_FloatSteps.j1 kq l0 x3_1 x16_1 = some r) ∧ Aside0 (kq ≤ k1) ∧ Aside0 (Below w.heap.size w wc))
      case first =>
        have H := HC2.out
        clear HC2
        by_cases c3 : x3_1 < (l0.length : Int)
        · rw [if_pos c3] at H
          have c3b0 : decide (x3_1 < (l0.length : Int)) = true := decide_eq_true c3
          clear c3
          (first | rw [c3b0] | (simp only [i64_w, i32_w]; rw [c3b0]) | skip)
          have H' := Aside0.mk H
          clear H
          go_wp2
          go_meet
          case rel => exact ⟨_, (decide (x3_1 < 2000)), (by first | rfl | (simp; done) | (simp [*]; done)), H', ⟨by have := HK1.out; first | omega | exact Nat.le_refl _⟩, ⟨by repeat (first | (with_reducible first | exact HB.out | apply below_alloc | apply pw_below_drewN | apply below_drew1) | exact HB.out)⟩⟩
        · rw [if_neg c3] at H
          have c3b0 : decide (x3_1 < (l0.length : Int)) = false := decide_eq_false c3
          clear c3
          (first | rw [c3b0] | (simp only [i64_w, i32_w]; rw [c3b0]) | skip)
          have H' := Aside0.mk H
          clear H
          go_wp2
          go_meet
          case rel => exact ⟨_, (false), (by first | rfl | (simp; done) | (simp [*]; done)), H', ⟨by have := HK1.out; first | omega | exact Nat.le_refl _⟩, ⟨by repeat (first | (with_reducible first | exact HB.out | apply below_alloc | apply pw_below_drewN | apply below_drew1) | exact HB.out)⟩⟩
      case rest =>
        clear HC2
        try clear p2
        try clear c3
        try clear c3b0
        obtain ⟨kq, x16_1, rfl, HA, HJ1, HB⟩ := hcut
        cases kq with
        | zero => exact absurd HA.out (by simp [fathomlaw3_FloatSteps.j1])
        | succ kj1 =>
          have H := HA.out
          clear HA
          simp only [fathomlaw3_FloatSteps.j1] at H
          by_cases c4 : x16_1 = true
          · subst c4
            have H1 : (if 0 ≤ x3_1 then (if x3_1 < (l0.length : Int) then ((float_Key_uint64.f ((rd_T39 l0 x3_1).f0)).bind fun t106 => ((float_OfKey_uint64.f t106).bind fun t107 => (if t107 = ((rd_T39 l0 x3_1).f0) then ((float_OfKey_uint64.f ((rd_T39 l0 x3_1).f0)).bind fun t108 => ((float_Key_uint64.f t108).bind fun t109 => (fathomlaw3_FloatSteps.j2 kj1 l0 x3_1 ((rd_T39 l0 x3_1).f0) ((rd_T39 l0 x3_1).f1) (t109 != ((rd_T39 l0 x3_1).f0))))) else (fathomlaw3_FloatSteps.j2 kj1 l0 x3_1 ((rd_T39 l0 x3_1).f0) ((rd_T39 l0 x3_1).f1) true)))) else (none)) else (none)) = some r := by rw [if_pos rfl] at H; exact H
            clear H
            have H := H1
            clear H1
            by_cases c5 : 0 ≤ x3_1
            · rw [if_pos c5] at H
              have c5b0 : decide (0 ≤ x3_1) = true := decide_eq_true c5
              clear c5
              by_cases c6 : x3_1 < (l0.length : Int)
              · rw [if_pos c6] at H
                have c6b0 : decide (x3_1 < (l0.length : Int)) = true := decide_eq_true c6
                clear c6
                have HC7 := Aside0.mk H
                clear H
                have p104 : 0 ≤ (x3_1 : Int) := of_decide_eq_true (by first | (with_reducible assumption) | assumption)
                have q104 : x3_1 < (l0.length : Int) := of_decide_eq_true (by first | (with_reducible assumption) | assumption)
                obtain ⟨ad104, e104, hx104_0, hx104_1⟩ := at_T39 HR0.out x3_1 p104 q104
                cases e104
                replace hx104_0 := (HB.out.cell (World.block_lt_of_cell? w _ hx104_0)).trans hx104_0
                replace hx104_1 := (HB.out.cell (World.block_lt_of_cell? w _ hx104_1)).trans hx104_1
                replace p104 := eq_true p104
                replace q104 := eq_true q104
                have p105 : 0 ≤ (x3_1 : Int) := of_decide_eq_true (by first | (with_reducible assumption) | assumption)
                have q105 : x3_1 < (l0.length : Int) := of_decide_eq_true (by first | (with_reducible assumption) | assumption)
                obtain ⟨ad105, e105, hx105_0, hx105_1⟩ := at_T39 HR0.out x3_1 p105 q105
                obtain rfl : ad104 = ad105 := (by injection e105)
                replace hx105_0 := (HB.out.cell (World.block_lt_of_cell? w _ hx105_0)).trans hx105_0
                replace hx105_1 := (HB.out.cell (World.block_lt_of_cell? w _ hx105_1)).trans hx105_1
                replace p105 := eq_true p105
                replace q105 := eq_true q105
                go_upto_region 6 with (fail)
                go_cut [40] (fun v40 wc => ∃ (kq : Nat) (x40_6 : Bool), v40 = .bool x40_6 ∧ Aside0 (fathomlaw3_FloatSteps.j2 kq l0 x3_1 ((rd_T39 l0 x3_1).f0) ((rd_T39 l0 x3_1).f1) x40_6 = some r) ∧ Aside0 (kq ≤ kj1) ∧ Aside0 (Below w.heap.size w wc))
                case first =>
                  have H := HC7.out
                  clear HC7
                  replace H := Option.bind_eq_some_iff.mp H
                  obtain ⟨t106, A80, H⟩ := H
                  replace H : ((float_OfKey_uint64.f t106).bind fun t107 => (if t107 = ((rd_T39 l0 x3_1).f0) then ((float_OfKey_uint64.f ((rd_T39 l0 x3_1).f0)).bind fun t108 => ((float_Key_uint64.f t108).bind fun t109 => (fathomlaw3_FloatSteps.j2 kj1 l0 x3_1 ((rd_T39 l0 x3_1).f0) ((rd_T39 l0 x3_1).f1) (t109 != ((rd_T39 l0 x3_1).f0))))) else (fathomlaw3_FloatSteps.j2 kj1 l0 x3_1 ((rd_T39 l0 x3_1).f0) ((rd_T39 l0 x3_1).f1) true))) = some r := H
                  have A8 := Aside0.mk A80
                  clear A80
                  replace H := Option.bind_eq_some_iff.mp H
                  obtain ⟨t107, A90, H⟩ := H
                  replace H : (if t107 = ((rd_T39 l0 x3_1).f0) then ((float_OfKey_uint64.f ((rd_T39 l0 x3_1).f0)).bind fun t108 => ((float_Key_uint64.f t108).bind fun t109 => (fathomlaw3_FloatSteps.j2 kj1 l0 x3_1 ((rd_T39 l0 x3_1).f0) ((rd_T39 l0 x3_1).f1) (t109 != ((rd_T39 l0 x3_1).f0))))) else (fathomlaw3_FloatSteps.j2 kj1 l0 x3_1 ((rd_T39 l0 x3_1).f0) ((rd_T39 l0 x3_1).f1) true)) = some r := H
                  have A9 := Aside0.mk A90
                  clear A90
                  by_cases c10 : t107 = ((rd_T39 l0 x3_1).f0)
                  · rw [if_pos c10] at H
                    have c10b0 : (t107 == ((rd_T39 l0 x3_1).f0)) = true := beq_iff_eq.mpr c10
                    have c10b1 : (t107 != ((rd_T39 l0 x3_1).f0)) = false := bne_eq_false_iff_eq.mpr c10
                    clear c10
                    (first | rw [c10b0] | (simp only [i64_w, i32_w]; rw [c10b0]) | skip)
                    replace H := Option.bind_eq_some_iff.mp H
                    obtain ⟨t108, A110, H⟩ := H
                    replace H : ((float_Key_uint64.f t108).bind fun t109 => (fathomlaw3_FloatSteps.j2 kj1 l0 x3_1 ((rd_T39 l0 x3_1).f0) ((rd_T39 l0 x3_1).f1) (t109 != ((rd_T39 l0 x3_1).f0)))) = some r := H
                    have A11 := Aside0.mk A110
                    clear A110
                    replace H := Option.bind_eq_some_iff.mp H
                    obtain ⟨t109, A120, H⟩ := H
                    replace H : (fathomlaw3_FloatSteps.j2 kj1 l0 x3_1 ((rd_T39 l0 x3_1).f0) ((rd_T39 l0 x3_1).f1) (t109 != ((rd_T39 l0 x3_1).f0))) = some r := H
                    have A12 := Aside0.mk A120
                    clear A120
                    have H' := Aside0.mk H
                    clear H
                    go_wp2_with (first | ((with_reducible refine gate_callee (f := 51) rfl ?_); refine goesL_ (some 30) rfl rfl Try.func51 (by kernel_rfl) rfl #[.int .u64 ((rd_T39 l0 x3_1).f0)] rfl (by (try simp only [List.map_toArray, List.map_cons, List.map_nil]); first | done | rfl | (simp only [List.length_drop, List.length_take]; rfl) | (simp only [gt_iff_lt, Int.natCast_pos]; rfl)) ?_; (with_reducible refine (float_Key_uint64.calls ((rd_T39 l0 x3_1).f0) t106 _ A8.out).mono ?_); rintro e w13 ⟨rfl, hb⟩; refine ⟨_, rfl, ?_⟩; have n0_ := Aside0.mk (below_step (by repeat (first | (with_reducible first | exact HB.out | apply below_alloc | apply pw_below_drewN | apply below_drew1) | exact HB.out)) hb); clear HB; have HB := n0_; clear n0_; (try clear hb); (try clear hb2); (try clear hk); (try clear hi)) | ((with_reducible refine gate_callee (f := 53) rfl ?_); refine goesL_ (some 31) rfl rfl Try.func53 (by kernel_rfl) rfl #[.int .u64 t106] rfl (by (try simp only [List.map_toArray, List.map_cons, List.map_nil]); first | done | rfl | (simp only [List.length_drop, List.length_take]; rfl) | (simp only [gt_iff_lt, Int.natCast_pos]; rfl)) ?_; (with_reducible refine (float_OfKey_uint64.calls t106 t107 _ A9.out).mono ?_); rintro e w14 ⟨rfl, hb⟩; refine ⟨_, rfl, ?_⟩; have n0_ := Aside0.mk (below_step (by repeat (first | (with_reducible first | exact HB.out | apply below_alloc | apply pw_below_drewN | apply below_drew1) | exact HB.out)) hb); clear HB; have HB := n0_; clear n0_; (try clear hb); (try clear hb2); (try clear hk); (try clear hi)) | (go_at_call 53; (with_reducible refine (float_OfKey_uint64.calls ((rd_T39 l0 x3_1).f0) t108 _ A11.out).mono ?_); rintro e w15 ⟨rfl, hb⟩; have n0_ := Aside0.mk (below_step (by repeat (first | (with_reducible first | exact HB.out | apply below_alloc | apply pw_below_drewN | apply below_drew1) | exact HB.out)) hb); clear HB; have HB := n0_; clear n0_; (try clear hb); (try clear hb2); (try clear hk); (try clear hi)) | (go_at_call 51; (with_reducible refine (float_Key_uint64.calls t108 t109 _ A12.out).mono ?_); rintro e w16 ⟨rfl, hb⟩; have n0_ := Aside0.mk (below_step (by repeat (first | (with_reducible first | exact HB.out | apply below_alloc | apply pw_below_drewN | apply below_drew1) | exact HB.out)) hb); clear HB; have HB := n0_; clear n0_; (try clear hb); (try clear hb2); (try clear hk); (try clear hi)))
                    go_meet
                    case rel => exact ⟨_, ((t109 != ((rd_T39 l0 x3_1).f0))), (by first | rfl | (simp; done) | (simp [*]; done)), H', ⟨by have := HK1.out; have := HJ1.out; first | omega | exact Nat.le_refl _⟩, ⟨by repeat (first | (with_reducible first | exact HB.out | apply below_alloc | apply pw_below_drewN | apply below_drew1) | exact HB.out)⟩⟩
                  · rw [if_neg c10] at H
                    have c10b0 : (t107 == ((rd_T39 l0 x3_1).f0)) = false := beq_eq_false_iff_ne.mpr c10
                    have c10b1 : (t107 != ((rd_T39 l0 x3_1).f0)) = true := bne_iff_ne.mpr c10
                    (first | rw [c10b0] | (simp only [i64_w, i32_w]; rw [c10b0]) | skip)
                    have H' := Aside0.mk H
                    clear H
                    go_wp2_with (first | ((with_reducible refine gate_callee (f := 51) rfl ?_); refine goesL_ (some 30) rfl rfl Try.func51 (by kernel_rfl) rfl #[.int .u64 ((rd_T39 l0 x3_1).f0)] rfl (by (try simp only [List.map_toArray, List.map_cons, List.map_nil]); first | done | rfl | (simp only [List.length_drop, List.length_take]; rfl) | (simp only [gt_iff_lt, Int.natCast_pos]; rfl)) ?_; (with_reducible refine (float_Key_uint64.calls ((rd_T39 l0 x3_1).f0) t106 _ A8.out).mono ?_); rintro e w17 ⟨rfl, hb⟩; refine ⟨_, rfl, ?_⟩; have n0_ := Aside0.mk (below_step (by repeat (first | (with_reducible first | exact HB.out | apply below_alloc | apply pw_below_drewN | apply below_drew1) | exact HB.out)) hb); clear HB; have HB := n0_; clear n0_; (try clear hb); (try clear hb2); (try clear hk); (try clear hi)) | ((with_reducible refine gate_callee (f := 53) rfl ?_); refine goesL_ (some 31) rfl rfl Try.func53 (by kernel_rfl) rfl #[.int .u64 t106] rfl (by (try simp only [List.map_toArray, List.map_cons, List.map_nil]); first | done | rfl | (simp only [List.length_drop, List.length_take]; rfl) | (simp only [gt_iff_lt, Int.natCast_pos]; rfl)) ?_; (with_reducible refine (float_OfKey_uint64.calls t106 t107 _ A9.out).mono ?_); rintro e w18 ⟨rfl, hb⟩; refine ⟨_, rfl, ?_⟩; have n0_ := Aside0.mk (below_step (by repeat (first | (with_reducible first | exact HB.out | apply below_alloc | apply pw_below_drewN | apply below_drew1) | exact HB.out)) hb); clear HB; have HB := n0_; clear n0_; (try clear hb); (try clear hb2); (try clear hk); (try clear hi)))
                    go_meet
                    case rel => exact ⟨_, (true), (by first | rfl | (simp; done) | (simp [*]; done)), H', ⟨by have := HK1.out; have := HJ1.out; first | omega | exact Nat.le_refl _⟩, ⟨by repeat (first | (with_reducible first | exact HB.out | apply below_alloc | apply pw_below_drewN | apply below_drew1) | exact HB.out)⟩⟩
                case rest =>
                  clear HC7
                  try clear c1
                  try clear p1
                  try clear q1
                  try clear hx1
                  try clear p2
                  try clear c3
                  try clear c3b0
                  try clear c4
                  try clear c5
                  try clear c5b0
                  try clear c6
                  try clear c6b0
                  try clear c9
                  try clear c10
                  try clear c10b0
                  try clear c10b1
                  try clear p10
                  try clear q10
                  try clear hx10
                  try clear hx104_0
                  try clear hx104_1
                  try clear hx105_0
                  try clear hx105_1
                  try clear p104
                  try clear p105
                  try clear p2
                  try clear q104
                  try clear q105
                  obtain ⟨kq, x40_6, rfl, HA, HJ6, HB⟩ := hcut
                  cases kq with
                  | zero => exact absurd HA.out (by simp [fathomlaw3_FloatSteps.j2])
                  | succ kj6 =>
                    have H := HA.out
                    clear HA
                    simp only [fathomlaw3_FloatSteps.j2] at H
                    by_cases c19 : x40_6 = true
                    · subst c19
                      have H1 : (some false) = some r := by rw [if_pos rfl] at H; exact H
                      clear H
                      have H := H1
                      clear H1
                      obtain rfl := Option.some.inj H
                      go_wp2
                      go_ret
                      exact ⟨by first | rfl | (simp [errW_none, errW_some] <;> rfl) | (simp [*, errW_none, errW_some] <;> rfl), by repeat (first | (with_reducible first | exact HB.out | apply below_alloc | apply pw_below_drewN | apply below_drew1) | exact HB.out)⟩
                    · replace c19 := Bool.eq_false_iff.mpr c19
                      subst c19
                      have H1 : ((fathomlaw3_nan.f ((rd_T39 l0 x3_1).f0)).bind fun t110 => (if t110 = true then ((float_Up_uint64.f ((rd_T39 l0 x3_1).f0)).bind fun t111 => (if t111 = 9221120237041090560 then ((float_Down_uint64.f ((rd_T39 l0 x3_1).f0)).bind fun t112 => (if t112 = 9221120237041090560 then (fathomlaw3_FloatSteps.l0 kj6 l0 (wrap64 (x3_1 + 1))) else (some false))) else (some false))) else ((float_Up_uint64.f ((rd_T39 l0 x3_1).f0)).bind fun t113 => (if (Go.bits .andNot .u64 ((rd_T39 l0 x3_1).f0) 9223372036854775808) = 0 then (fathomlaw3_FloatSteps.j3 kj6 l0 x3_1 ((rd_T39 l0 x3_1).f0) ((rd_T39 l0 x3_1).f1) false) else (if ((rd_T39 l0 x3_1).f0) = 9218868437227405312 then (fathomlaw3_FloatSteps.j3 kj6 l0 x3_1 ((rd_T39 l0 x3_1).f0) ((rd_T39 l0 x3_1).f1) false) else ((float_Key_uint64.f t113).bind fun t114 => ((float_Key_uint64.f ((rd_T39 l0 x3_1).f0)).bind fun t115 => (if t114 = (IntKind.u64.wrap (t115 + 1)) then (if (Go.bits .andNot .u64 t113 9223372036854775808) = 0 then (fathomlaw3_FloatSteps.j3 kj6 l0 x3_1 ((rd_T39 l0 x3_1).f0) ((rd_T39 l0 x3_1).f1) false) else ((float_Down_uint64.f t113).bind fun t116 => (fathomlaw3_FloatSteps.j3 kj6 l0 x3_1 ((rd_T39 l0 x3_1).f0) ((rd_T39 l0 x3_1).f1) (t116 != ((rd_T39 l0 x3_1).f0))))) else (fathomlaw3_FloatSteps.j3 kj6 l0 x3_1 ((rd_T39 l0 x3_1).f0) ((rd_T39 l0 x3_1).f1) true))))))))) = some r := by rw [if_neg (show ¬ (false = true) by decide)] at H; exact H
                      clear H
                      have H := H1
                      clear H1
                      replace H := Option.bind_eq_some_iff.mp H
                      obtain ⟨t110, A200, H⟩ := H
                      replace H : (if t110 = true then ((float_Up_uint64.f ((rd_T39 l0 x3_1).f0)).bind fun t111 => (if t111 = 9221120237041090560 then ((float_Down_uint64.f ((rd_T39 l0 x3_1).f0)).bind fun t112 => (if t112 = 9221120237041090560 then (fathomlaw3_FloatSteps.l0 kj6 l0 (wrap64 (x3_1 + 1))) else (some false))) else (some false))) else ((float_Up_uint64.f ((rd_T39 l0 x3_1).f0)).bind fun t113 => (if (Go.bits .andNot .u64 ((rd_T39 l0 x3_1).f0) 9223372036854775808) = 0 then (fathomlaw3_FloatSteps.j3 kj6 l0 x3_1 ((rd_T39 l0 x3_1).f0) ((rd_T39 l0 x3_1).f1) false) else (if ((rd_T39 l0 x3_1).f0) = 9218868437227405312 then (fathomlaw3_FloatSteps.j3 kj6 l0 x3_1 ((rd_T39 l0 x3_1).f0) ((rd_T39 l0 x3_1).f1) false) else ((float_Key_uint64.f t113).bind fun t114 => ((float_Key_uint64.f ((rd_T39 l0 x3_1).f0)).bind fun t115 => (if t114 = (IntKind.u64.wrap (t115 + 1)) then (if (Go.bits .andNot .u64 t113 9223372036854775808) = 0 then (fathomlaw3_FloatSteps.j3 kj6 l0 x3_1 ((rd_T39 l0 x3_1).f0) ((rd_T39 l0 x3_1).f1) false) else ((float_Down_uint64.f t113).bind fun t116 => (fathomlaw3_FloatSteps.j3 kj6 l0 x3_1 ((rd_T39 l0 x3_1).f0) ((rd_T39 l0 x3_1).f1) (t116 != ((rd_T39 l0 x3_1).f0))))) else (fathomlaw3_FloatSteps.j3 kj6 l0 x3_1 ((rd_T39 l0 x3_1).f0) ((rd_T39 l0 x3_1).f1) true)))))))) = some r := H
                      have A20 := Aside0.mk A200
                      clear A200
                      by_cases c21 : t110 = true
                      · subst c21
                        have H1 : ((float_Up_uint64.f ((rd_T39 l0 x3_1).f0)).bind fun t111 => (if t111 = 9221120237041090560 then ((float_Down_uint64.f ((rd_T39 l0 x3_1).f0)).bind fun t112 => (if t112 = 9221120237041090560 then (fathomlaw3_FloatSteps.l0 kj6 l0 (wrap64 (x3_1 + 1))) else (some false))) else (some false))) = some r := by rw [if_pos rfl] at H; exact H
                        clear H
                        have H := H1
                        clear H1
                        replace H := Option.bind_eq_some_iff.mp H
                        obtain ⟨t111, A220, H⟩ := H
                        replace H : (if t111 = 9221120237041090560 then ((float_Down_uint64.f ((rd_T39 l0 x3_1).f0)).bind fun t112 => (if t112 = 9221120237041090560 then (fathomlaw3_FloatSteps.l0 kj6 l0 (wrap64 (x3_1 + 1))) else (some false))) else (some false)) = some r := H
                        have A22 := Aside0.mk A220
                        clear A220
                        by_cases c23 : t111 = 9221120237041090560
                        · rw [if_pos c23] at H
                          have c23b0 : (t111 == 9221120237041090560) = true := beq_iff_eq.mpr c23
                          have c23b1 : (t111 != 9221120237041090560) = false := bne_eq_false_iff_eq.mpr c23
                          clear c23
                          replace H := Option.bind_eq_some_iff.mp H
                          obtain ⟨t112, A240, H⟩ := H
                          replace H : (if t112 = 9221120237041090560 then (fathomlaw3_FloatSteps.l0 kj6 l0 (wrap64 (x3_1 + 1))) else (some false)) = some r := H
                          have A24 := Aside0.mk A240
                          clear A240
                          by_cases c25 : t112 = 9221120237041090560
                          · rw [if_pos c25] at H
                            have c25b0 : (t112 == 9221120237041090560) = true := beq_iff_eq.mpr c25
                            have c25b1 : (t112 != 9221120237041090560) = false := bne_eq_false_iff_eq.mpr c25
                            clear c25
                            have H' := Aside0.mk H
                            clear H
                            go_wp2_with (first | ((with_reducible refine gate_callee (f := 26) rfl ?_); refine goesL_ (some 42) rfl rfl Try.func26 (by kernel_rfl) rfl #[.int .u64 ((rd_T39 l0 x3_1).f0)] rfl (by (try simp only [List.map_toArray, List.map_cons, List.map_nil]); first | done | rfl | (simp only [List.length_drop, List.length_take]; rfl) | (simp only [gt_iff_lt, Int.natCast_pos]; rfl)) ?_; (with_reducible refine (fathomlaw3_nan.calls ((rd_T39 l0 x3_1).f0) true _ A20.out).mono ?_); rintro e w' ⟨rfl, ⟨nd, rfl⟩⟩; refine ⟨_, rfl, ?_⟩) | ((with_reducible refine gate_callee (f := 55) rfl ?_); refine goesL_ (some 44) rfl rfl Try.func55 (by kernel_rfl) rfl #[.int .u64 ((rd_T39 l0 x3_1).f0)] rfl (by (try simp only [List.map_toArray, List.map_cons, List.map_nil]); first | done | rfl | (simp only [List.length_drop, List.length_take]; rfl) | (simp only [gt_iff_lt, Int.natCast_pos]; rfl)) ?_; (with_reducible refine (float_Up_uint64.calls ((rd_T39 l0 x3_1).f0) t111 _ A22.out).mono ?_); rintro e w26 ⟨rfl, hb⟩; refine ⟨_, rfl, ?_⟩; have n0_ := Aside0.mk (below_step (by repeat (first | (with_reducible first | exact HB.out | apply below_alloc | apply pw_below_drewN | apply below_drew1) | exact HB.out)) hb); clear HB; have HB := n0_; clear n0_; (try clear hb); (try clear hb2); (try clear hk); (try clear hi)) | (go_at_call 57; (with_reducible refine (float_Down_uint64.calls ((rd_T39 l0 x3_1).f0) t112 _ A24.out).mono ?_); rintro e w27 ⟨rfl, hb⟩; have n0_ := Aside0.mk (below_step (by repeat (first | (with_reducible first | exact HB.out | apply below_alloc | apply pw_below_drewN | apply below_drew1) | exact HB.out)) hb); clear HB; have HB := n0_; clear n0_; (try clear hb); (try clear hb2); (try clear hk); (try clear hi)))
                            go_roundg kj6
                            case measure => have := HK1.out; have := HJ1.out; have := HJ6.out; omega
                            case rel => exact ⟨(wrap64 (x3_1 + 1)), (by first | rfl | (simp; done) | (simp [*]; done)), H', ⟨by have := HK1.out; have := HJ1.out; have := HJ6.out; omega⟩, ⟨by repeat (first | (with_reducible first | exact HB.out | apply below_alloc | apply pw_below_drewN | apply below_drew1) | exact HB.out)⟩⟩
                          · rw [if_neg c25] at H
                            have c25b0 : (t112 == 9221120237041090560) = false := beq_eq_false_iff_ne.mpr c25
                            have c25b1 : (t112 != 9221120237041090560) = true := bne_iff_ne.mpr c25
                            obtain rfl := Option.some.inj H
                            go_wp2_with (first | ((with_reducible refine gate_callee (f := 26) rfl ?_); refine goesL_ (some 42) rfl rfl Try.func26 (by kernel_rfl) rfl #[.int .u64 ((rd_T39 l0 x3_1).f0)] rfl (by (try simp only [List.map_toArray, List.map_cons, List.map_nil]); first | done | rfl | (simp only [List.length_drop, List.length_take]; rfl) | (simp only [gt_iff_lt, Int.natCast_pos]; rfl)) ?_; (with_reducible refine (fathomlaw3_nan.calls ((rd_T39 l0 x3_1).f0) true _ A20.out).mono ?_); rintro e w' ⟨rfl, ⟨nd, rfl⟩⟩; refine ⟨_, rfl, ?_⟩) | ((with_reducible refine gate_callee (f := 55) rfl ?_); refine goesL_ (some 44) rfl rfl Try.func55 (by kernel_rfl) rfl #[.int .u64 ((rd_T39 l0 x3_1).f0)] rfl (by (try simp only [List.map_toArray, List.map_cons, List.map_nil]); first | done | rfl | (simp only [List.length_drop, List.length_take]; rfl) | (simp only [gt_iff_lt, Int.natCast_pos]; rfl)) ?_; (with_reducible refine (float_Up_uint64.calls ((rd_T39 l0 x3_1).f0) t111 _ A22.out).mono ?_); rintro e w28 ⟨rfl, hb⟩; refine ⟨_, rfl, ?_⟩; have n0_ := Aside0.mk (below_step (by repeat (first | (with_reducible first | exact HB.out | apply below_alloc | apply pw_below_drewN | apply below_drew1) | exact HB.out)) hb); clear HB; have HB := n0_; clear n0_; (try clear hb); (try clear hb2); (try clear hk); (try clear hi)) | (go_at_call 57; (with_reducible refine (float_Down_uint64.calls ((rd_T39 l0 x3_1).f0) t112 _ A24.out).mono ?_); rintro e w29 ⟨rfl, hb⟩; have n0_ := Aside0.mk (below_step (by repeat (first | (with_reducible first | exact HB.out | apply below_alloc | apply pw_below_drewN | apply below_drew1) | exact HB.out)) hb); clear HB; have HB := n0_; clear n0_; (try clear hb); (try clear hb2); (try clear hk); (try clear hi)))
                            go_ret
                            exact ⟨by first | rfl | (simp [errW_none, errW_some] <;> rfl) | (simp [*, errW_none, errW_some] <;> rfl), by repeat (first | (with_reducible first | exact HB.out | apply below_alloc | apply pw_below_drewN | apply below_drew1) | exact HB.out)⟩
                        · rw [if_neg c23] at H
                          have c23b0 : (t111 == 9221120237041090560) = false := beq_eq_false_iff_ne.mpr c23
                          have c23b1 : (t111 != 9221120237041090560) = true := bne_iff_ne.mpr c23
                          obtain rfl := Option.some.inj H
                          go_wp2_with (first | ((with_reducible refine gate_callee (f := 26) rfl ?_); refine goesL_ (some 42) rfl rfl Try.func26 (by kernel_rfl) rfl #[.int .u64 ((rd_T39 l0 x3_1).f0)] rfl (by (try simp only [List.map_toArray, List.map_cons, List.map_nil]); first | done | rfl | (simp only [List.length_drop, List.length_take]; rfl) | (simp only [gt_iff_lt, Int.natCast_pos]; rfl)) ?_; (with_reducible refine (fathomlaw3_nan.calls ((rd_T39 l0 x3_1).f0) true _ A20.out).mono ?_); rintro e w' ⟨rfl, ⟨nd, rfl⟩⟩; refine ⟨_, rfl, ?_⟩) | ((with_reducible refine gate_callee (f := 55) rfl ?_); refine goesL_ (some 44) rfl rfl Try.func55 (by kernel_rfl) rfl #[.int .u64 ((rd_T39 l0 x3_1).f0)] rfl (by (try simp only [List.map_toArray, List.map_cons, List.map_nil]); first | done | rfl | (simp only [List.length_drop, List.length_take]; rfl) | (simp only [gt_iff_lt, Int.natCast_pos]; rfl)) ?_; (with_reducible refine (float_Up_uint64.calls ((rd_T39 l0 x3_1).f0) t111 _ A22.out).mono ?_); rintro e w30 ⟨rfl, hb⟩; refine ⟨_, rfl, ?_⟩; have n0_ := Aside0.mk (below_step (by repeat (first | (with_reducible first | exact HB.out | apply below_alloc | apply pw_below_drewN | apply below_drew1) | exact HB.out)) hb); clear HB; have HB := n0_; clear n0_; (try clear hb); (try clear hb2); (try clear hk); (try clear hi)))
                          go_ret
                          exact ⟨by first | rfl | (simp [errW_none, errW_some] <;> rfl) | (simp [*, errW_none, errW_some] <;> rfl), by repeat (first | (with_reducible first | exact HB.out | apply below_alloc | apply pw_below_drewN | apply below_drew1) | exact HB.out)⟩
                      · replace c21 := Bool.eq_false_iff.mpr c21
                        subst c21
                        have H1 : ((float_Up_uint64.f ((rd_T39 l0 x3_1).f0)).bind fun t113 => (if (Go.bits .andNot .u64 ((rd_T39 l0 x3_1).f0) 9223372036854775808) = 0 then (fathomlaw3_FloatSteps.j3 kj6 l0 x3_1 ((rd_T39 l0 x3_1).f0) ((rd_T39 l0 x3_1).f1) false) else (if ((rd_T39 l0 x3_1).f0) = 9218868437227405312 then (fathomlaw3_FloatSteps.j3 kj6 l0 x3_1 ((rd_T39 l0 x3_1).f0) ((rd_T39 l0 x3_1).f1) false) else ((float_Key_uint64.f t113).bind fun t114 => ((float_Key_uint64.f ((rd_T39 l0 x3_1).f0)).bind fun t115 => (if t114 = (IntKind.u64.wrap (t115 + 1)) then (if (Go.bits .andNot .u64 t113 9223372036854775808) = 0 then (fathomlaw3_FloatSteps.j3 kj6 l0 x3_1 ((rd_T39 l0 x3_1).f0) ((rd_T39 l0 x3_1).f1) false) else ((float_Down_uint64.f t113).bind fun t116 => (fathomlaw3_FloatSteps.j3 kj6 l0 x3_1 ((rd_T39 l0 x3_1).f0) ((rd_T39 l0 x3_1).f1) (t116 != ((rd_T39 l0 x3_1).f0))))) else (fathomlaw3_FloatSteps.j3 kj6 l0 x3_1 ((rd_T39 l0 x3_1).f0) ((rd_T39 l0 x3_1).f1) true))))))) = some r := by rw [if_neg (show ¬ (false = true) by decide)] at H; exact H
                        clear H
                        have H := H1
                        clear H1
                        replace H := Option.bind_eq_some_iff.mp H
                        obtain ⟨t113, A310, H⟩ := H
                        replace H : (if (Go.bits .andNot .u64 ((rd_T39 l0 x3_1).f0) 9223372036854775808) = 0 then (fathomlaw3_FloatSteps.j3 kj6 l0 x3_1 ((rd_T39 l0 x3_1).f0) ((rd_T39 l0 x3_1).f1) false) else (if ((rd_T39 l0 x3_1).f0) = 9218868437227405312 then (fathomlaw3_FloatSteps.j3 kj6 l0 x3_1 ((rd_T39 l0 x3_1).f0) ((rd_T39 l0 x3_1).f1) false) else ((float_Key_uint64.f t113).bind fun t114 => ((float_Key_uint64.f ((rd_T39 l0 x3_1).f0)).bind fun t115 => (if t114 = (IntKind.u64.wrap (t115 + 1)) then (if (Go.bits .andNot .u64 t113 9223372036854775808) = 0 then (fathomlaw3_FloatSteps.j3 kj6 l0 x3_1 ((rd_T39 l0 x3_1).f0) ((rd_T39 l0 x3_1).f1) false) else ((float_Down_uint64.f t113).bind fun t116 => (fathomlaw3_FloatSteps.j3 kj6 l0 x3_1 ((rd_T39 l0 x3_1).f0) ((rd_T39 l0 x3_1).f1) (t116 != ((rd_T39 l0 x3_1).f0))))) else (fathomlaw3_FloatSteps.j3 kj6 l0 x3_1 ((rd_T39 l0 x3_1).f0) ((rd_T39 l0 x3_1).f1) true)))))) = some r := H
                        have A31 := Aside0.mk A310
                        clear A310
                        have HC32 := Aside0.mk H
                        clear H
                        go_upto_region 12 with (first | ((with_reducible refine gate_callee (f := 26) rfl ?_); refine goesL_ (some 42) rfl rfl Try.func26 (by kernel_rfl) rfl #[.int .u64 ((rd_T39 l0 x3_1).f0)] rfl (by (try simp only [List.map_toArray, List.map_cons, List.map_nil]); first | done | rfl | (simp only [List.length_drop, List.length_take]; rfl) | (simp only [gt_iff_lt, Int.natCast_pos]; rfl)) ?_; (with_reducible refine (fathomlaw3_nan.calls ((rd_T39 l0 x3_1).f0) false _ A20.out).mono ?_); rintro e w' ⟨rfl, ⟨nd, rfl⟩⟩; refine ⟨_, rfl, ?_⟩) | ((with_reducible refine gate_callee (f := 55) rfl ?_); refine goesL_ (some 52) rfl rfl Try.func55 (by kernel_rfl) rfl #[.int .u64 ((rd_T39 l0 x3_1).f0)] rfl (by (try simp only [List.map_toArray, List.map_cons, List.map_nil]); first | done | rfl | (simp only [List.length_drop, List.length_take]; rfl) | (simp only [gt_iff_lt, Int.natCast_pos]; rfl)) ?_; (with_reducible refine (float_Up_uint64.calls ((rd_T39 l0 x3_1).f0) t113 _ A31.out).mono ?_); rintro e w33 ⟨rfl, hb⟩; refine ⟨_, rfl, ?_⟩; have n0_ := Aside0.mk (below_step (by repeat (first | (with_reducible first | exact HB.out | apply below_alloc | apply pw_below_drewN | apply below_drew1) | exact HB.out)) hb); clear HB; have HB := n0_; clear n0_; (try clear hb); (try clear hb2); (try clear hk); (try clear hi)))
                        (try simp only [Act.put, List.setIfInBounds_toArray, List.set_cons_zero, List.set_cons_succ])
                        go_cut [78] (fun v78 wc => ∃ (kq : Nat) (x78_31 : Bool), v78 = .bool x78_31 ∧ Aside0 (fathomlaw3_FloatSteps.j3 kq l0 x3_1 ((rd_T39 l0 x3_1).f0) ((rd_T39 l0 x3_1).f1) x78_31 = some r) ∧ Aside0 (kq ≤ kj6) ∧ Aside0 (Below w.heap.size w wc))
                        case first =>
                          have H := HC32.out
                          clear HC32
                          by_cases c34 : (Go.bits .andNot .u64 ((rd_T39 l0 x3_1).f0) 9223372036854775808) = 0
                          · rw [if_pos c34] at H
                            have c34b0 : ((Go.bits .andNot .u64 ((rd_T39 l0 x3_1).f0) 9223372036854775808) == 0) = true := beq_iff_eq.mpr c34
                            have c34b1 : ((Go.bits .andNot .u64 ((rd_T39 l0 x3_1).f0) 9223372036854775808) != 0) = false := bne_eq_false_iff_eq.mpr c34
                            clear c34
                            (first | rw [c34b0] | (simp only [i64_w, i32_w]; rw [c34b0]) | skip)
                            have H' := Aside0.mk H
                            clear H
                            go_wp2
                            go_meet
                            case rel => exact ⟨_, (false), (by first | rfl | (simp; done) | (simp [*]; done)), H', ⟨by have := HK1.out; have := HJ1.out; have := HJ6.out; first | omega | exact Nat.le_refl _⟩, ⟨by repeat (first | (with_reducible first | exact HB.out | apply below_alloc | apply pw_below_drewN | apply below_drew1) | exact HB.out)⟩⟩
                          · rw [if_neg c34] at H
                            have c34b0 : ((Go.bits .andNot .u64 ((rd_T39 l0 x3_1).f0) 9223372036854775808) == 0) = false := beq_eq_false_iff_ne.mpr c34
                            have c34b1 : ((Go.bits .andNot .u64 ((rd_T39 l0 x3_1).f0) 9223372036854775808) != 0) = true := bne_iff_ne.mpr c34
                            (first | rw [c34b0] | (simp only [i64_w, i32_w]; rw [c34b0]) | skip)
                            by_cases c35 : ((rd_T39 l0 x3_1).f0) = 9218868437227405312
                            · rw [if_pos c35] at H
                              have c35b0 : (((rd_T39 l0 x3_1).f0) == 9218868437227405312) = true := beq_iff_eq.mpr c35
                              have c35b1 : (((rd_T39 l0 x3_1).f0) != 9218868437227405312) = false := bne_eq_false_iff_eq.mpr c35
                              clear c35
                              have H' := Aside0.mk H
                              clear H
                              go_wp2
                              go_meet
                              case rel => exact ⟨_, (false), (by first | rfl | (simp; done) | (simp [*]; done)), H', ⟨by have := HK1.out; have := HJ1.out; have := HJ6.out; first | omega | exact Nat.le_refl _⟩, ⟨by repeat (first | (with_reducible first | exact HB.out | apply below_alloc | apply pw_below_drewN | apply below_drew1) | exact HB.out)⟩⟩
                            · rw [if_neg c35] at H
                              have c35b0 : (((rd_T39 l0 x3_1).f0) == 9218868437227405312) = false := beq_eq_false_iff_ne.mpr c35
                              have c35b1 : (((rd_T39 l0 x3_1).f0) != 9218868437227405312) = true := bne_iff_ne.mpr c35
                              replace H := Option.bind_eq_some_iff.mp H
                              obtain ⟨t114, A360, H⟩ := H
                              replace H : ((float_Key_uint64.f ((rd_T39 l0 x3_1).f0)).bind fun t115 => (if t114 = (IntKind.u64.wrap (t115 + 1)) then (if (Go.bits .andNot .u64 t113 9223372036854775808) = 0 then (fathomlaw3_FloatSteps.j3 kj6 l0 x3_1 ((rd_T39 l0 x3_1).f0) ((rd_T39 l0 x3_1).f1) false) else ((float_Down_uint64.f t113).bind fun t116 => (fathomlaw3_FloatSteps.j3 kj6 l0 x3_1 ((rd_T39 l0 x3_1).f0) ((rd_T39 l0 x3_1).f1) (t116 != ((rd_T39 l0 x3_1).f0))))) else (fathomlaw3_FloatSteps.j3 kj6 l0 x3_1 ((rd_T39 l0 x3_1).f0) ((rd_T39 l0 x3_1).f1) true))) = some r := H
                              have A36 := Aside0.mk A360
                              clear A360
                              replace H := Option.bind_eq_some_iff.mp H
                              obtain ⟨t115, A370, H⟩ := H
                              replace H : (if t114 = (IntKind.u64.wrap (t115 + 1)) then (if (Go.bits .andNot .u64 t113 9223372036854775808) = 0 then (fathomlaw3_FloatSteps.j3 kj6 l0 x3_1 ((rd_T39 l0 x3_1).f0) ((rd_T39 l0 x3_1).f1) false) else ((float_Down_uint64.f t113).bind fun t116 => (fathomlaw3_FloatSteps.j3 kj6 l0 x3_1 ((rd_T39 l0 x3_1).f0) ((rd_T39 l0 x3_1).f1) (t116 != ((rd_T39 l0 x3_1).f0))))) else (fathomlaw3_FloatSteps.j3 kj6 l0 x3_1 ((rd_T39 l0 x3_1).f0) ((rd_T39 l0 x3_1).f1) true)) = some r := H
                              have A37 := Aside0.mk A370
                              clear A370
                              by_cases c38 : t114 = (IntKind.u64.wrap (t115 + 1))
                              · rw [if_pos c38] at H
                                have c38b0 : (t114 == (IntKind.u64.wrap (t115 + 1))) = true := beq_iff_eq.mpr c38
                                have c38b1 : (t114 != (IntKind.u64.wrap (t115 + 1))) = false := bne_eq_false_iff_eq.mpr c38
                                clear c38
                                by_cases c39 : (Go.bits .andNot .u64 t113 9223372036854775808) = 0
                                · rw [if_pos c39] at H
                                  have c39b0 : ((Go.bits .andNot .u64 t113 9223372036854775808) == 0) = true := beq_iff_eq.mpr c39
                                  have c39b1 : ((Go.bits .andNot .u64 t113 9223372036854775808) != 0) = false := bne_eq_false_iff_eq.mpr c39
                                  clear c39
                                  have H' := Aside0.mk H
                                  clear H
                                  go_wp2_with (first | (go_at_call 51; (with_reducible refine (float_Key_uint64.calls t113 t114 _ A36.out).mono ?_); rintro e w40 ⟨rfl, hb⟩; have n0_ := Aside0.mk (below_step (by repeat (first | (with_reducible first | exact HB.out | apply below_alloc | apply pw_below_drewN | apply below_drew1) | exact HB.out)) hb); clear HB; have HB := n0_; clear n0_; (try clear hb); (try clear hb2); (try clear hk); (try clear hi)) | (go_at_call 51; (with_reducible refine (float_Key_uint64.calls ((rd_T39 l0 x3_1).f0) t115 _ A37.out).mono ?_); rintro e w41 ⟨rfl, hb⟩; have n0_ := Aside0.mk (below_step (by repeat (first | (with_reducible first | exact HB.out | apply below_alloc | apply pw_below_drewN | apply below_drew1) | exact HB.out)) hb); clear HB; have HB := n0_; clear n0_; (try clear hb); (try clear hb2); (try clear hk); (try clear hi)))
                                  go_meet
                                  case rel => exact ⟨_, (false), (by first | rfl | (simp; done) | (simp [*]; done)), H', ⟨by have := HK1.out; have := HJ1.out; have := HJ6.out; first | omega | exact Nat.le_refl _⟩, ⟨by repeat (first | (with_reducible first | exact HB.out | apply below_alloc | apply pw_below_drewN | apply below_drew1) | exact HB.out)⟩⟩
                                · rw [if_neg c39] at H
                                  have c39b0 : ((Go.bits .andNot .u64 t113 9223372036854775808) == 0) = false := beq_eq_false_iff_ne.mpr c39
                                  have c39b1 : ((Go.bits .andNot .u64 t113 9223372036854775808) != 0) = true := bne_iff_ne.mpr c39
                                  replace H := Option.bind_eq_some_iff.mp H
                                  obtain ⟨t116, A420, H⟩ := H
                                  replace H : (fathomlaw3_FloatSteps.j3 kj6 l0 x3_1 ((rd_T39 l0 x3_1).f0) ((rd_T39 l0 x3_1).f1) (t116 != ((rd_T39 l0 x3_1).f0))) = some r := H
                                  have A42 := Aside0.mk A420
                                  clear A420
                                  have H' := Aside0.mk H
                                  clear H
                                  go_wp2_with (first | (go_at_call 51; (with_reducible refine (float_Key_uint64.calls t113 t114 _ A36.out).mono ?_); rintro e w43 ⟨rfl, hb⟩; have n0_ := Aside0.mk (below_step (by repeat (first | (with_reducible first | exact HB.out | apply below_alloc | apply pw_below_drewN | apply below_drew1) | exact HB.out)) hb); clear HB; have HB := n0_; clear n0_; (try clear hb); (try clear hb2); (try clear hk); (try clear hi)) | (go_at_call 51; (with_reducible refine (float_Key_uint64.calls ((rd_T39 l0 x3_1).f0) t115 _ A37.out).mono ?_); rintro e w44 ⟨rfl, hb⟩; have n0_ := Aside0.mk (below_step (by repeat (first | (with_reducible first | exact HB.out | apply below_alloc | apply pw_below_drewN | apply below_drew1) | exact HB.out)) hb); clear HB; have HB := n0_; clear n0_; (try clear hb); (try clear hb2); (try clear hk); (try clear hi)) | (go_at_call 57; (with_reducible refine (float_Down_uint64.calls t113 t116 _ A42.out).mono ?_); rintro e w45 ⟨rfl, hb⟩; have n0_ := Aside0.mk (below_step (by repeat (first | (with_reducible first | exact HB.out | apply below_alloc | apply pw_below_drewN | apply below_drew1) | exact HB.out)) hb); clear HB; have HB := n0_; clear n0_; (try clear hb); (try clear hb2); (try clear hk); (try clear hi)))
                                  go_meet
                                  case rel => exact ⟨_, ((t116 != ((rd_T39 l0 x3_1).f0))), (by first | rfl | (simp; done) | (simp [*]; done)), H', ⟨by have := HK1.out; have := HJ1.out; have := HJ6.out; first | omega | exact Nat.le_refl _⟩, ⟨by repeat (first | (with_reducible first | exact HB.out | apply below_alloc | apply pw_below_drewN | apply below_drew1) | exact HB.out)⟩⟩
                              · rw [if_neg c38] at H
                                have c38b0 : (t114 == (IntKind.u64.wrap (t115 + 1))) = false := beq_eq_false_iff_ne.mpr c38
                                have c38b1 : (t114 != (IntKind.u64.wrap (t115 + 1))) = true := bne_iff_ne.mpr c38
                                have H' := Aside0.mk H
                                clear H
                                go_wp2_with (first | (go_at_call 51; (with_reducible refine (float_Key_uint64.calls t113 t114 _ A36.out).mono ?_); rintro e w46 ⟨rfl, hb⟩; have n0_ := Aside0.mk (below_step (by repeat (first | (with_reducible first | exact HB.out | apply below_alloc | apply pw_below_drewN | apply below_drew1) | exact HB.out)) hb); clear HB; have HB := n0_; clear n0_; (try clear hb); (try clear hb2); (try clear hk); (try clear hi)) | (go_at_call 51; (with_reducible refine (float_Key_uint64.calls ((rd_T39 l0 x3_1).f0) t115 _ A37.out).mono ?_); rintro e w47 ⟨rfl, hb⟩; have n0_ := Aside0.mk (below_step (by repeat (first | (with_reducible first | exact HB.out | apply below_alloc | apply pw_below_drewN | apply below_drew1) | exact HB.out)) hb); clear HB; have HB := n0_; clear n0_; (try clear hb); (try clear hb2); (try clear hk); (try clear hi)))
                                go_meet
                                case rel => exact ⟨_, (true), (by first | rfl | (simp; done) | (simp [*]; done)), H', ⟨by have := HK1.out; have := HJ1.out; have := HJ6.out; first | omega | exact Nat.le_refl _⟩, ⟨by repeat (first | (with_reducible first | exact HB.out | apply below_alloc | apply pw_below_drewN | apply below_drew1) | exact HB.out)⟩⟩
                        case rest =>
                          clear HC32
                          try clear c1
                          try clear p1
                          try clear q1
                          try clear hx1
                          try clear c2
                          try clear p2
                          try clear c3
                          try clear c3b0
                          try clear c4
                          try clear c5
                          try clear c5b0
                          try clear c6
                          try clear c6b0
                          try clear p6
                          try clear c9
                          try clear c10
                          try clear c10b0
                          try clear c10b1
                          try clear p10
                          try clear q10
                          try clear hx10
                          try clear c19
                          try clear c21
                          try clear c23
                          try clear c23b0
                          try clear c23b1
                          try clear c25
                          try clear c25b0
                          try clear c25b1
                          try clear c26
                          try clear c34
                          try clear c34b0
                          try clear c34b1
                          try clear c35
                          try clear c35b0
                          try clear c35b1
                          try clear c38
                          try clear c38b0
                          try clear c38b1
                          try clear c39
                          try clear c39b0
                          try clear c39b1
                          try clear hx104_0
                          try clear hx104_1
                          try clear hx105_0
                          try clear hx105_1
                          try clear p1
                          try clear p10
                          try clear p104
                          try clear p105
                          try clear p2
                          try clear q1
                          try clear q10
                          try clear q104
                          try clear q105
                          obtain ⟨kq, x78_31, rfl, HA, HJ31, HB⟩ := hcut
                          cases kq with
                          | zero => exact absurd HA.out (by simp [fathomlaw3_FloatSteps.j3])
                          | succ kj31 =>
                            have H := HA.out
                            clear HA
                            simp only [fathomlaw3_FloatSteps.j3] at H
                            by_cases c48 : x78_31 = true
                            · subst c48
                              have H1 : (some false) = some r := by rw [if_pos rfl] at H; exact H
                              clear H
                              have H := H1
                              clear H1
                              obtain rfl := Option.some.inj H
                              go_wp2
                              go_ret
                              exact ⟨by first | rfl | (simp [errW_none, errW_some] <;> rfl) | (simp [*, errW_none, errW_some] <;> rfl), by repeat (first | (with_reducible first | exact HB.out | apply below_alloc | apply pw_below_drewN | apply below_drew1) | exact HB.out)⟩
                            · replace c48 := Bool.eq_false_iff.mpr c48
                              subst c48
                              have H1 : ((float_Cmp_uint64.f ((rd_T39 l0 x3_1).f0) ((rd_T39 l0 x3_1).f1)).bind fun bt117 => ((fathomlaw3_nan.f ((rd_T39 l0 x3_1).f1)).bind fun t119 => (if (bt117.2 == t119) = true then (some false) else (if bt117.2 = true then (if (Go.bits .andNot .u64 (Go.bits .or .u64 ((rd_T39 l0 x3_1).f0) ((rd_T39 l0 x3_1).f1)) 9223372036854775808) = 0 then (fathomlaw3_FloatSteps.l0 kj31 l0 (wrap64 (x3_1 + 1))) else ((float_Key_uint64.f ((rd_T39 l0 x3_1).f0)).bind fun t120 => ((float_Key_uint64.f ((rd_T39 l0 x3_1).f1)).bind fun t121 => (if ((decide (bt117.1 < 0)) != (decide (t120 < t121))) = true then (some false) else (if ((bt117.1 == 0) != (((rd_T39 l0 x3_1).f0) == ((rd_T39 l0 x3_1).f1))) = true then (some false) else (fathomlaw3_FloatSteps.l0 kj31 l0 (wrap64 (x3_1 + 1)))))))) else (fathomlaw3_FloatSteps.l0 kj31 l0 (wrap64 (x3_1 + 1))))))) = some r := by rw [if_neg (show ¬ (false = true) by decide)] at H; exact H
                              clear H
                              have H := H1
                              clear H1
                              replace H := Option.bind_eq_some_iff.mp H
                              obtain ⟨⟨t117, t118⟩, A490, H⟩ := H
                              replace H : ((fathomlaw3_nan.f ((rd_T39 l0 x3_1).f1)).bind fun t119 => (if (t118 == t119) = true then (some false) else (if t118 = true then (if (Go.bits .andNot .u64 (Go.bits .or .u64 ((rd_T39 l0 x3_1).f0) ((rd_T39 l0 x3_1).f1)) 9223372036854775808) = 0 then (fathomlaw3_FloatSteps.l0 kj31 l0 (wrap64 (x3_1 + 1))) else ((float_Key_uint64.f ((rd_T39 l0 x3_1).f0)).bind fun t120 => ((float_Key_uint64.f ((rd_T39 l0 x3_1).f1)).bind fun t121 => (if ((decide (t117 < 0)) != (decide (t120 < t121))) = true then (some false) else (if ((t117 == 0) != (((rd_T39 l0 x3_1).f0) == ((rd_T39 l0 x3_1).f1))) = true then (some false) else (fathomlaw3_FloatSteps.l0 kj31 l0 (wrap64 (x3_1 + 1)))))))) else (fathomlaw3_FloatSteps.l0 kj31 l0 (wrap64 (x3_1 + 1)))))) = some r := H
                              have A49 := Aside0.mk A490
                              clear A490
                              replace H := Option.bind_eq_some_iff.mp H
                              obtain ⟨t119, A500, H⟩ := H
                              replace H : (if (t118 == t119) = true then (some false) else (if t118 = true then (if (Go.bits .andNot .u64 (Go.bits .or .u64 ((rd_T39 l0 x3_1).f0) ((rd_T39 l0 x3_1).f1)) 9223372036854775808) = 0 then (fathomlaw3_FloatSteps.l0 kj31 l0 (wrap64 (x3_1 + 1))) else ((float_Key_uint64.f ((rd_T39 l0 x3_1).f0)).bind fun t120 => ((float_Key_uint64.f ((rd_T39 l0 x3_1).f1)).bind fun t121 => (if ((decide (t117 < 0)) != (decide (t120 < t121))) = true then (some false) else (if ((t117 == 0) != (((rd_T39 l0 x3_1).f0) == ((rd_T39 l0 x3_1).f1))) = true then (some false) else (fathomlaw3_FloatSteps.l0 kj31 l0 (wrap64 (x3_1 + 1)))))))) else (fathomlaw3_FloatSteps.l0 kj31 l0 (wrap64 (x3_1 + 1))))) = some r := H
                              have A50 := Aside0.mk A500
                              clear A500
                              by_cases c51 : (t118 == t119) = true
                              · rw [if_pos c51] at H
                                have c51b0 : (t118 == t119) = true := c51
                                (try (have c51b1 : decide (t118 = t119) = true := by simpa using c51))
                                (try (have c51b2 : (t118 == t119) = true := by simpa using c51))
                                clear c51
                                obtain rfl := Option.some.inj H
                                go_wp2_with (first | ((with_reducible refine gate_callee (f := 43) rfl ?_); refine goesL_ (some 82) rfl rfl Try.func43 (by kernel_rfl) rfl #[.int .u64 ((rd_T39 l0 x3_1).f0), .int .u64 ((rd_T39 l0 x3_1).f1)] rfl (by (try simp only [List.map_toArray, List.map_cons, List.map_nil]); first | done | rfl | (simp only [List.length_drop, List.length_take]; rfl) | (simp only [gt_iff_lt, Int.natCast_pos]; rfl)) ?_; (with_reducible refine (float_Cmp_uint64.calls ((rd_T39 l0 x3_1).f0) ((rd_T39 l0 x3_1).f1) t117 t118 _ A49.out).mono ?_); rintro e w52 ⟨rfl, hb⟩; refine ⟨_, rfl, ?_⟩; have n0_ := Aside0.mk (below_step (by repeat (first | (with_reducible first | exact HB.out | apply below_alloc | apply pw_below_drewN | apply below_drew1) | exact HB.out)) hb); clear HB; have HB := n0_; clear n0_; (try clear hb); (try clear hb2); (try clear hk); (try clear hi)) | ((with_reducible refine gate_callee (f := 26) rfl ?_); refine goesL_ (some 87) rfl rfl Try.func26 (by kernel_rfl) rfl #[.int .u64 ((rd_T39 l0 x3_1).f1)] rfl (by (try simp only [List.map_toArray, List.map_cons, List.map_nil]); first | done | rfl | (simp only [List.length_drop, List.length_take]; rfl) | (simp only [gt_iff_lt, Int.natCast_pos]; rfl)) ?_; (with_reducible refine (fathomlaw3_nan.calls ((rd_T39 l0 x3_1).f1) t119 _ A50.out).mono ?_); rintro e w' ⟨rfl, ⟨nd, rfl⟩⟩; refine ⟨_, rfl, ?_⟩))
                                go_ret
                                exact ⟨by first | rfl | (simp [errW_none, errW_some] <;> rfl) | (simp [*, errW_none, errW_some] <;> rfl), by repeat (first | (with_reducible first | exact HB.out | apply below_alloc | apply pw_below_drewN | apply below_drew1) | exact HB.out)⟩
                              · rw [if_neg c51] at H
                                have c51b0 : (t118 == t119) = false := by simpa using c51
                                (try (have c51b1 : decide (t118 = t119) = false := by simpa using c51))
                                (try (have c51b2 : (t118 == t119) = false := by simpa using c51))
                                (try (have c51b3 : ¬ (t118 = t119) := by simpa using c51))
                                clear c51
                                by_cases c53 : t118 = true
                                · subst c53
                                  have H1 : (if (Go.bits .andNot .u64 (Go.bits .or .u64 ((rd_T39 l0 x3_1).f0) ((rd_T39 l0 x3_1).f1)) 9223372036854775808) = 0 then (fathomlaw3_FloatSteps.l0 kj31 l0 (wrap64 (x3_1 + 1))) else ((float_Key_uint64.f ((rd_T39 l0 x3_1).f0)).bind fun t120 => ((float_Key_uint64.f ((rd_T39 l0 x3_1).f1)).bind fun t121 => (if ((decide (t117 < 0)) != (decide (t120 < t121))) = true then (some false) else (if ((t117 == 0) != (((rd_T39 l0 x3_1).f0) == ((rd_T39 l0 x3_1).f1))) = true then (some false) else (fathomlaw3_FloatSteps.l0 kj31 l0 (wrap64 (x3_1 + 1)))))))) = some r := by rw [if_pos rfl] at H; exact H
                                  clear H
                                  have H := H1
                                  clear H1
                                  by_cases c54 : (Go.bits .andNot .u64 (Go.bits .or .u64 ((rd_T39 l0 x3_1).f0) ((rd_T39 l0 x3_1).f1)) 9223372036854775808) = 0
                                  · rw [if_pos c54] at H
                                    have c54b0 : ((Go.bits .andNot .u64 (Go.bits .or .u64 ((rd_T39 l0 x3_1).f0) ((rd_T39 l0 x3_1).f1)) 9223372036854775808) == 0) = true := beq_iff_eq.mpr c54
                                    have c54b1 : ((Go.bits .andNot .u64 (Go.bits .or .u64 ((rd_T39 l0 x3_1).f0) ((rd_T39 l0 x3_1).f1)) 9223372036854775808) != 0) = false := bne_eq_false_iff_eq.mpr c54
                                    clear c54
                                    have H' := Aside0.mk H
                                    clear H
                                    go_wp2_with (first | ((with_reducible refine gate_callee (f := 43) rfl ?_); refine goesL_ (some 82) rfl rfl Try.func43 (by kernel_rfl) rfl #[.int .u64 ((rd_T39 l0 x3_1).f0), .int .u64 ((rd_T39 l0 x3_1).f1)] rfl (by (try simp only [List.map_toArray, List.map_cons, List.map_nil]); first | done | rfl | (simp only [List.length_drop, List.length_take]; rfl) | (simp only [gt_iff_lt, Int.natCast_pos]; rfl)) ?_; (with_reducible refine (float_Cmp_uint64.calls ((rd_T39 l0 x3_1).f0) ((rd_T39 l0 x3_1).f1) t117 true _ A49.out).mono ?_); rintro e w55 ⟨rfl, hb⟩; refine ⟨_, rfl, ?_⟩; have n0_ := Aside0.mk (below_step (by repeat (first | (with_reducible first | exact HB.out | apply below_alloc | apply pw_below_drewN | apply below_drew1) | exact HB.out)) hb); clear HB; have HB := n0_; clear n0_; (try clear hb); (try clear hb2); (try clear hk); (try clear hi)) | ((with_reducible refine gate_callee (f := 26) rfl ?_); refine goesL_ (some 87) rfl rfl Try.func26 (by kernel_rfl) rfl #[.int .u64 ((rd_T39 l0 x3_1).f1)] rfl (by (try simp only [List.map_toArray, List.map_cons, List.map_nil]); first | done | rfl | (simp only [List.length_drop, List.length_take]; rfl) | (simp only [gt_iff_lt, Int.natCast_pos]; rfl)) ?_; (with_reducible refine (fathomlaw3_nan.calls ((rd_T39 l0 x3_1).f1) t119 _ A50.out).mono ?_); rintro e w' ⟨rfl, ⟨nd, rfl⟩⟩; refine ⟨_, rfl, ?_⟩))
                                    go_roundg kj31
                                    case measure => have := HK1.out; have := HJ1.out; have := HJ6.out; have := HJ31.out; omega
                                    case rel => exact ⟨(wrap64 (x3_1 + 1)), (by first | rfl | (simp; done) | (simp [*]; done)), H', ⟨by have := HK1.out; have := HJ1.out; have := HJ6.out; have := HJ31.out; omega⟩, ⟨by repeat (first | (with_reducible first | exact HB.out | apply below_alloc | apply pw_below_drewN | apply below_drew1) | exact HB.out)⟩⟩
                                  · rw [if_neg c54] at H
                                    have c54b0 : ((Go.bits .andNot .u64 (Go.bits .or .u64 ((rd_T39 l0 x3_1).f0) ((rd_T39 l0 x3_1).f1)) 9223372036854775808) == 0) = false := beq_eq_false_iff_ne.mpr c54
                                    have c54b1 : ((Go.bits .andNot .u64 (Go.bits .or .u64 ((rd_T39 l0 x3_1).f0) ((rd_T39 l0 x3_1).f1)) 9223372036854775808) != 0) = true := bne_iff_ne.mpr c54
                                    replace H := Option.bind_eq_some_iff.mp H
                                    obtain ⟨t120, A560, H⟩ := H
                                    replace H : ((float_Key_uint64.f ((rd_T39 l0 x3_1).f1)).bind fun t121 => (if ((decide (t117 < 0)) != (decide (t120 < t121))) = true then (some false) else (if ((t117 == 0) != (((rd_T39 l0 x3_1).f0) == ((rd_T39 l0 x3_1).f1))) = true then (some false) else (fathomlaw3_FloatSteps.l0 kj31 l0 (wrap64 (x3_1 + 1)))))) = some r := H
                                    have A56 := Aside0.mk A560
                                    clear A560
                                    replace H := Option.bind_eq_some_iff.mp H
                                    obtain ⟨t121, A570, H⟩ := H
                                    replace H : (if ((decide (t117 < 0)) != (decide (t120 < t121))) = true then (some false) else (if ((t117 == 0) != (((rd_T39 l0 x3_1).f0) == ((rd_T39 l0 x3_1).f1))) = true then (some false) else (fathomlaw3_FloatSteps.l0 kj31 l0 (wrap64 (x3_1 + 1))))) = some r := H
                                    have A57 := Aside0.mk A570
                                    clear A570
                                    by_cases c58 : ((decide (t117 < 0)) != (decide (t120 < t121))) = true
                                    · rw [if_pos c58] at H
                                      have c58b0 : ((decide (t117 < 0)) != (decide (t120 < t121))) = true := c58
                                      (try (have c58b1 : decide ((decide (t117 < 0)) = (decide (t120 < t121))) = false := by simpa using c58))
                                      (try (have c58b2 : ((decide (t117 < 0)) == (decide (t120 < t121))) = false := by simpa using c58))
                                      (try (have c58b3 : ¬ ((decide (t117 < 0)) = (decide (t120 < t121))) := by simpa using c58))
                                      clear c58
                                      obtain rfl := Option.some.inj H
                                      go_wp2_with (first | ((with_reducible refine gate_callee (f := 43) rfl ?_); refine goesL_ (some 82) rfl rfl Try.func43 (by kernel_rfl) rfl #[.int .u64 ((rd_T39 l0 x3_1).f0), .int .u64 ((rd_T39 l0 x3_1).f1)] rfl (by (try simp only [List.map_toArray, List.map_cons, List.map_nil]); first | done | rfl | (simp only [List.length_drop, List.length_take]; rfl) | (simp only [gt_iff_lt, Int.natCast_pos]; rfl)) ?_; (with_reducible refine (float_Cmp_uint64.calls ((rd_T39 l0 x3_1).f0) ((rd_T39 l0 x3_1).f1) t117 true _ A49.out).mono ?_); rintro e w59 ⟨rfl, hb⟩; refine ⟨_, rfl, ?_⟩; have n0_ := Aside0.mk (below_step (by repeat (first | (with_reducible first | exact HB.out | apply below_alloc | apply pw_below_drewN | apply below_drew1) | exact HB.out)) hb); clear HB; have HB := n0_; clear n0_; (try clear hb); (try clear hb2); (try clear hk); (try clear hi)) | ((with_reducible refine gate_callee (f := 26) rfl ?_); refine goesL_ (some 87) rfl rfl Try.func26 (by kernel_rfl) rfl #[.int .u64 ((rd_T39 l0 x3_1).f1)] rfl (by (try simp only [List.map_toArray, List.map_cons, List.map_nil]); first | done | rfl | (simp only [List.length_drop, List.length_take]; rfl) | (simp only [gt_iff_lt, Int.natCast_pos]; rfl)) ?_; (with_reducible refine (fathomlaw3_nan.calls ((rd_T39 l0 x3_1).f1) t119 _ A50.out).mono ?_); rintro e w' ⟨rfl, ⟨nd, rfl⟩⟩; refine ⟨_, rfl, ?_⟩) | (go_at_call 51; (with_reducible refine (float_Key_uint64.calls ((rd_T39 l0 x3_1).f0) t120 _ A56.out).mono ?_); rintro e w60 ⟨rfl, hb⟩; have n0_ := Aside0.mk (below_step (by repeat (first | (with_reducible first | exact HB.out | apply below_alloc | apply pw_below_drewN | apply below_drew1) | exact HB.out)) hb); clear HB; have HB := n0_; clear n0_; (try clear hb); (try clear hb2); (try clear hk); (try clear hi)) | (go_at_call 51; (with_reducible refine (float_Key_uint64.calls ((rd_T39 l0 x3_1).f1) t121 _ A57.out).mono ?_); rintro e w61 ⟨rfl, hb⟩; have n0_ := Aside0.mk (below_step (by repeat (first | (with_reducible first | exact HB.out | apply below_alloc | apply pw_below_drewN | apply below_drew1) | exact HB.out)) hb); clear HB; have HB := n0_; clear n0_; (try clear hb); (try clear hb2); (try clear hk); (try clear hi)))
                                      go_ret
                                      exact ⟨by first | rfl | (simp [errW_none, errW_some] <;> rfl) | (simp [*, errW_none, errW_some] <;> rfl), by repeat (first | (with_reducible first | exact HB.out | apply below_alloc | apply pw_below_drewN | apply below_drew1) | exact HB.out)⟩
                                    · rw [if_neg c58] at H
                                      have c58b0 : ((decide (t117 < 0)) != (decide (t120 < t121))) = false := by simpa using c58
                                      (try (have c58b1 : decide ((decide (t117 < 0)) = (decide (t120 < t121))) = true := by simpa using c58))
                                      (try (have c58b2 : ((decide (t117 < 0)) == (decide (t120 < t121))) = true := by simpa using c58))
                                      clear c58
                                      by_cases c62 : ((t117 == 0) != (((rd_T39 l0 x3_1).f0) == ((rd_T39 l0 x3_1).f1))) = true
                                      · rw [if_pos c62] at H
                                        have c62b0 : ((t117 == 0) != (((rd_T39 l0 x3_1).f0) == ((rd_T39 l0 x3_1).f1))) = true := c62
                                        (try (have c62b1 : decide ((t117 == 0) = (((rd_T39 l0 x3_1).f0) == ((rd_T39 l0 x3_1).f1))) = false := by simpa using c62))
                                        (try (have c62b2 : ((t117 == 0) == (((rd_T39 l0 x3_1).f0) == ((rd_T39 l0 x3_1).f1))) = false := by simpa using c62))
                                        (try (have c62b3 : ¬ ((t117 == 0) = (((rd_T39 l0 x3_1).f0) == ((rd_T39 l0 x3_1).f1))) := by simpa using c62))
                                        clear c62
                                        obtain rfl := Option.some.inj H
                                        go_wp2_with (first | ((with_reducible refine gate_callee (f := 43) rfl ?_); refine goesL_ (some 82) rfl rfl Try.func43 (by kernel_rfl) rfl #[.int .u64 ((rd_T39 l0 x3_1).f0), .int .u64 ((rd_T39 l0 x3_1).f1)] rfl (by (try simp only [List.map_toArray, List.map_cons, List.map_nil]); first | done | rfl | (simp only [List.length_drop, List.length_take]; rfl) | (simp only [gt_iff_lt, Int.natCast_pos]; rfl)) ?_; (with_reducible refine (float_Cmp_uint64.calls ((rd_T39 l0 x3_1).f0) ((rd_T39 l0 x3_1).f1) t117 true _ A49.out).mono ?_); rintro e w63 ⟨rfl, hb⟩; refine ⟨_, rfl, ?_⟩; have n0_ := Aside0.mk (below_step (by repeat (first | (with_reducible first | exact HB.out | apply below_alloc | apply pw_below_drewN | apply below_drew1) | exact HB.out)) hb); clear HB; have HB := n0_; clear n0_; (try clear hb); (try clear hb2); (try clear hk); (try clear hi)) | ((with_reducible refine gate_callee (f := 26) rfl ?_); refine goesL_ (some 87) rfl rfl Try.func26 (by kernel_rfl) rfl #[.int .u64 ((rd_T39 l0 x3_1).f1)] rfl (by (try simp only [List.map_toArray, List.map_cons, List.map_nil]); first | done | rfl | (simp only [List.length_drop, List.length_take]; rfl) | (simp only [gt_iff_lt, Int.natCast_pos]; rfl)) ?_; (with_reducible refine (fathomlaw3_nan.calls ((rd_T39 l0 x3_1).f1) t119 _ A50.out).mono ?_); rintro e w' ⟨rfl, ⟨nd, rfl⟩⟩; refine ⟨_, rfl, ?_⟩) | (go_at_call 51; (with_reducible refine (float_Key_uint64.calls ((rd_T39 l0 x3_1).f0) t120 _ A56.out).mono ?_); rintro e w64 ⟨rfl, hb⟩; have n0_ := Aside0.mk (below_step (by repeat (first | (with_reducible first | exact HB.out | apply below_alloc | apply pw_below_drewN | apply below_drew1) | exact HB.out)) hb); clear HB; have HB := n0_; clear n0_; (try clear hb); (try clear hb2); (try clear hk); (try clear hi)) | (go_at_call 51; (with_reducible refine (float_Key_uint64.calls ((rd_T39 l0 x3_1).f1) t121 _ A57.out).mono ?_); rintro e w65 ⟨rfl, hb⟩; have n0_ := Aside0.mk (below_step (by repeat (first | (with_reducible first | exact HB.out | apply below_alloc | apply pw_below_drewN | apply below_drew1) | exact HB.out)) hb); clear HB; have HB := n0_; clear n0_; (try clear hb); (try clear hb2); (try clear hk); (try clear hi)))
                                        go_ret
                                        exact ⟨by first | rfl | (simp [errW_none, errW_some] <;> rfl) | (simp [*, errW_none, errW_some] <;> rfl), by repeat (first | (with_reducible first | exact HB.out | apply below_alloc | apply pw_below_drewN | apply below_drew1) | exact HB.out)⟩
                                      · rw [if_neg c62] at H
                                        have c62b0 : ((t117 == 0) != (((rd_T39 l0 x3_1).f0) == ((rd_T39 l0 x3_1).f1))) = false := by simpa using c62
                                        (try (have c62b1 : decide ((t117 == 0) = (((rd_T39 l0 x3_1).f0) == ((rd_T39 l0 x3_1).f1))) = true := by simpa using c62))
                                        (try (have c62b2 : ((t117 == 0) == (((rd_T39 l0 x3_1).f0) == ((rd_T39 l0 x3_1).f1))) = true := by simpa using c62))
                                        clear c62
                                        have H' := Aside0.mk H
                                        clear H
                                        go_wp2_with (first | ((with_reducible refine gate_callee (f := 43) rfl ?_); refine goesL_ (some 82) rfl rfl Try.func43 (by kernel_rfl) rfl #[.int .u64 ((rd_T39 l0 x3_1).f0), .int .u64 ((rd_T39 l0 x3_1).f1)] rfl (by (try simp only [List.map_toArray, List.map_cons, List.map_nil]); first | done | rfl | (simp only [List.length_drop, List.length_take]; rfl) | (simp only [gt_iff_lt, Int.natCast_pos]; rfl)) ?_; (with_reducible refine (float_Cmp_uint64.calls ((rd_T39 l0 x3_1).f0) ((rd_T39 l0 x3_1).f1) t117 true _ A49.out).mono ?_); rintro e w66 ⟨rfl, hb⟩; refine ⟨_, rfl, ?_⟩; have n0_ := Aside0.mk (below_step (by repeat (first | (with_reducible first | exact HB.out | apply below_alloc | apply pw_below_drewN | apply below_drew1) | exact HB.out)) hb); clear HB; have HB := n0_; clear n0_; (try clear hb); (try clear hb2); (try clear hk); (try clear hi)) | ((with_reducible refine gate_callee (f := 26) rfl ?_); refine goesL_ (some 87) rfl rfl Try.func26 (by kernel_rfl) rfl #[.int .u64 ((rd_T39 l0 x3_1).f1)] rfl (by (try simp only [List.map_toArray, List.map_cons, List.map_nil]); first | done | rfl | (simp only [List.length_drop, List.length_take]; rfl) | (simp only [gt_iff_lt, Int.natCast_pos]; rfl)) ?_; (with_reducible refine (fathomlaw3_nan.calls ((rd_T39 l0 x3_1).f1) t119 _ A50.out).mono ?_); rintro e w' ⟨rfl, ⟨nd, rfl⟩⟩; refine ⟨_, rfl, ?_⟩) | (go_at_call 51; (with_reducible refine (float_Key_uint64.calls ((rd_T39 l0 x3_1).f0) t120 _ A56.out).mono ?_); rintro e w67 ⟨rfl, hb⟩; have n0_ := Aside0.mk (below_step (by repeat (first | (with_reducible first | exact HB.out | apply below_alloc | apply pw_below_drewN | apply below_drew1) | exact HB.out)) hb); clear HB; have HB := n0_; clear n0_; (try clear hb); (try clear hb2); (try clear hk); (try clear hi)) | (go_at_call 51; (with_reducible refine (float_Key_uint64.calls ((rd_T39 l0 x3_1).f1) t121 _ A57.out).mono ?_); rintro e w68 ⟨rfl, hb⟩; have n0_ := Aside0.mk (below_step (by repeat (first | (with_reducible first | exact HB.out | apply below_alloc | apply pw_below_drewN | apply below_drew1) | exact HB.out)) hb); clear HB; have HB := n0_; clear n0_; (try clear hb); (try clear hb2); (try clear hk); (try clear hi)))
                                        go_roundg kj31
                                        case measure => have := HK1.out; have := HJ1.out; have := HJ6.out; have := HJ31.out; omega
                                        case rel => exact ⟨(wrap64 (x3_1 + 1)), (by first | rfl | (simp; done) | (simp [*]; done)), H', ⟨by have := HK1.out; have := HJ1.out; have := HJ6.out; have := HJ31.out; omega⟩, ⟨by repeat (first | (with_reducible first | exact HB.out | apply below_alloc | apply pw_below_drewN | apply below_drew1) | exact HB.out)⟩⟩
                                · replace c53 := Bool.eq_false_iff.mpr c53
                                  subst c53
                                  have H1 : (fathomlaw3_FloatSteps.l0 kj31 l0 (wrap64 (x3_1 + 1))) = some r := by rw [if_neg (show ¬ (false = true) by decide)] at H; exact H
                                  clear H
                                  have H := H1
                                  clear H1
                                  have H' := Aside0.mk H
                                  clear H
                                  go_wp2_with (first | ((with_reducible refine gate_callee (f := 43) rfl ?_); refine goesL_ (some 82) rfl rfl Try.func43 (by kernel_rfl) rfl #[.int .u64 ((rd_T39 l0 x3_1).f0), .int .u64 ((rd_T39 l0 x3_1).f1)] rfl (by (try simp only [List.map_toArray, List.map_cons, List.map_nil]); first | done | rfl | (simp only [List.length_drop, List.length_take]; rfl) | (simp only [gt_iff_lt, Int.natCast_pos]; rfl)) ?_; (with_reducible refine (float_Cmp_uint64.calls ((rd_T39 l0 x3_1).f0) ((rd_T39 l0 x3_1).f1) t117 false _ A49.out).mono ?_); rintro e w69 ⟨rfl, hb⟩; refine ⟨_, rfl, ?_⟩; have n0_ := Aside0.mk (below_step (by repeat (first | (with_reducible first | exact HB.out | apply below_alloc | apply pw_below_drewN | apply below_drew1) | exact HB.out)) hb); clear HB; have HB := n0_; clear n0_; (try clear hb); (try clear hb2); (try clear hk); (try clear hi)) | ((with_reducible refine gate_callee (f := 26) rfl ?_); refine goesL_ (some 87) rfl rfl Try.func26 (by kernel_rfl) rfl #[.int .u64 ((rd_T39 l0 x3_1).f1)] rfl (by (try simp only [List.map_toArray, List.map_cons, List.map_nil]); first | done | rfl | (simp only [List.length_drop, List.length_take]; rfl) | (simp only [gt_iff_lt, Int.natCast_pos]; rfl)) ?_; (with_reducible refine (fathomlaw3_nan.calls ((rd_T39 l0 x3_1).f1) t119 _ A50.out).mono ?_); rintro e w' ⟨rfl, ⟨nd, rfl⟩⟩; refine ⟨_, rfl, ?_⟩))
                                  go_roundg kj31
                                  case measure => have := HK1.out; have := HJ1.out; have := HJ6.out; have := HJ31.out; omega
                                  case rel => exact ⟨(wrap64 (x3_1 + 1)), (by first | rfl | (simp; done) | (simp [*]; done)), H', ⟨by have := HK1.out; have := HJ1.out; have := HJ6.out; have := HJ31.out; omega⟩, ⟨by repeat (first | (with_reducible first | exact HB.out | apply below_alloc | apply pw_below_drewN | apply below_drew1) | exact HB.out)⟩⟩
              · rw [if_neg c6] at H
                exact absurd H (by simp)
            · rw [if_neg c5] at H
              exact absurd H (by simp)
          · replace c4 := Bool.eq_false_iff.mpr c4
            subst c4
            have H1 : ((fathomlaw3_wakes.f).bind fun t103 => (some t103)) = some r := by rw [if_neg (show ¬ (false = true) by decide)] at H; exact H
            clear H
            have H := H1
            clear H1
            replace H := Option.bind_eq_some_iff.mp H
            obtain ⟨t103, A700, H⟩ := H
            replace H : (some t103) = some r := H
            have A70 := Aside0.mk A700
            clear A700
            obtain rfl := Option.some.inj H
            go_wp2_with (first | ((with_reducible refine gate_callee (f := 24) rfl ?_); refine goesL_ (some 115) rfl rfl Try.func24 (by kernel_rfl) rfl #[] rfl (by (try simp only [List.map_toArray, List.map_cons, List.map_nil]); first | done | rfl | (simp only [List.length_drop, List.length_take]; rfl) | (simp only [gt_iff_lt, Int.natCast_pos]; rfl)) ?_; (with_reducible refine (fathomlaw3_wakes.calls  t103 _ A70.out).mono ?_); rintro e w71 ⟨rfl, hb⟩; refine ⟨_, rfl, ?_⟩; have n0_ := Aside0.mk (below_step (by repeat (first | (with_reducible first | exact HB.out | apply below_alloc | apply pw_below_drewN | apply below_drew1) | exact HB.out)) hb); clear HB; have HB := n0_; clear n0_; (try clear hb); (try clear hb2); (try clear hk); (try clear hi)))
            go_ret
            exact ⟨by first | rfl | (simp [errW_none, errW_some] <;> rfl) | (simp [*, errW_none, errW_some] <;> rfl), by repeat (first | (with_reducible first | exact HB.out | apply below_alloc | apply pw_below_drewN | apply below_drew1) | exact HB.out)⟩
end Go.Proofs.Ytfloeiagdegpjaa.LSteps
