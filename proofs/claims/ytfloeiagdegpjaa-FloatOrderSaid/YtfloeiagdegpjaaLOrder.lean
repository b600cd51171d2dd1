/- The law FloatOrder: what its body comes to, as a Lean function over the rows that it is handed. The walk began as print.sh's text for this function, over the float functions of YtfloeiagdegpjaaSt. -/
import Derived.Test.YtfloeiagdegpjaaSt
import Derived.Test.YtfloeiagdegpjaaRd
namespace Go.Proofs.Ytfloeiagdegpjaa.LOrder
open Go.RowKit Go.Proofs.YtfloeiagdegpjaaW.PrintWords Go.Proofs.YtfloeiagdegpjaaW.PrintLast Go.Proofs.YtfloeiagdegpjaaW.PrintMore Go.Proofs.Ytfloeiagdegpjaa.Rf
attribute [local go_sem] max2_int min2_int max_two min_two max_three min_three max_four min_four
set_option linter.unusedVariables false
set_option linter.unusedSimpArgs false



/-! ### fathomlaw3_FloatOrder: function 8 -/
mutual
def fathomlaw3_FloatOrder.l0 : Nat → List Int → Int → Option (Bool)
  | 0, _, _ => none
  | k + 1, x0, x3 => if x3 < (x0.length : Int) then (fathomlaw3_FloatOrder.j1 k x0 x3 (decide (x3 < 2000))) else (fathomlaw3_FloatOrder.j1 k x0 x3 false)
def fathomlaw3_FloatOrder.j1 : Nat → List Int → Int → Bool → Option (Bool)
  | 0, _, _, _ => none
  | k + 1, x0, x3, x14 => if x14 = true then (if 0 ≤ x3 then (if x3 < (x0.length : Int) then ((float_Class_uint64.f (rd x0 x3)).bind fun t132 => ((fathomref3_Class.f (rd x0 x3) 64).bind fun t133 => (if t132 = t133 then ((float_Key_uint64.f (rd x0 x3)).bind fun t134 => ((fathomref3_Key.f (rd x0 x3) 64).bind fun t135 => (if t134 = t135 then ((float_OfKey_uint64.f (rd x0 x3)).bind fun t136 => ((fathomref3_OfKey.f (rd x0 x3) 64).bind fun t137 => (if t136 = t137 then ((float_Up_uint64.f (rd x0 x3)).bind fun t138 => ((fathomref3_Up.f (rd x0 x3) 64).bind fun t139 => (if t138 = t139 then ((float_Down_uint64.f (rd x0 x3)).bind fun t140 => ((fathomref3_Down.f (rd x0 x3) 64).bind fun t141 => (fathomlaw3_FloatOrder.j2 k x0 x3 (rd x0 x3) (t140 != t141)))) else (fathomlaw3_FloatOrder.j2 k x0 x3 (rd x0 x3) true)))) else (fathomlaw3_FloatOrder.j2 k x0 x3 (rd x0 x3) true)))) else (fathomlaw3_FloatOrder.j2 k x0 x3 (rd x0 x3) true)))) else (fathomlaw3_FloatOrder.j2 k x0 x3 (rd x0 x3) true)))) else (none)) else (none)) else ((fathomlaw3_wakes.f).bind fun t130 => (some t130))
def fathomlaw3_FloatOrder.j2 : Nat → List Int → Int → Int → Bool → Option (Bool)
  | 0, _, _, _, _ => none
  | k + 1, x0, x3, x4, x53 => if x53 = true then (some false) else ((float_Class_uint32.f ((x4 / 4294967296) % 4294967296)).bind fun t142 => ((fathomref3_Class.f ((x4 / 4294967296) % 4294967296) 32).bind fun t143 => (if t142 = t143 then ((float_Key_uint32.f ((x4 / 4294967296) % 4294967296)).bind fun t144 => ((fathomref3_Key.f ((x4 / 4294967296) % 4294967296) 32).bind fun t145 => (if (IntKind.u64.wrap (t144)) = t145 then ((float_OfKey_uint32.f ((x4 / 4294967296) % 4294967296)).bind fun t146 => ((fathomref3_OfKey.f ((x4 / 4294967296) % 4294967296) 32).bind fun t147 => (if (IntKind.u64.wrap (t146)) = t147 then ((float_Up_uint32.f ((x4 / 4294967296) % 4294967296)).bind fun t148 => ((fathomref3_Up.f ((x4 / 4294967296) % 4294967296) 32).bind fun t149 => (if (IntKind.u64.wrap (t148)) = t149 then ((float_Down_uint32.f ((x4 / 4294967296) % 4294967296)).bind fun t150 => ((fathomref3_Down.f ((x4 / 4294967296) % 4294967296) 32).bind fun t151 => (if (IntKind.u64.wrap (t150)) = t151 then (fathomlaw3_FloatOrder.l0 k x0 (wrap64 (x3 + 1))) else (some false)))) else (some false)))) else (some false)))) else (some false)))) else (some false))))
end
def fathomlaw3_FloatOrder.f (k : Nat) (l0 : List Int) : Option (Bool) := fathomlaw3_FloatOrder.l0 k l0 0
theorem fathomlaw3_FloatOrder.mono_l : ∀ k, (∀ y0 y1, LeO (fathomlaw3_FloatOrder.l0 k y0 y1) (fathomlaw3_FloatOrder.l0 (k + 1) y0 y1)) ∧ (∀ y0 y1 y2, LeO (fathomlaw3_FloatOrder.j1 k y0 y1 y2) (fathomlaw3_FloatOrder.j1 (k + 1) y0 y1 y2)) ∧ (∀ y0 y1 y2 y3, LeO (fathomlaw3_FloatOrder.j2 k y0 y1 y2 y3) (fathomlaw3_FloatOrder.j2 (k + 1) y0 y1 y2 y3))
  | 0 => ⟨fun _ _ r h => by simp [fathomlaw3_FloatOrder.l0] at h, fun _ _ _ r h => by simp [fathomlaw3_FloatOrder.j1] at h, fun _ _ _ _ r h => by simp [fathomlaw3_FloatOrder.j2] at h⟩
  | k + 1 => by
    obtain ⟨ih0, ih1, ih2⟩ := fathomlaw3_FloatOrder.mono_l k
    refine ⟨?_, ?_, ?_⟩
    · intro y0 y1
      unfold fathomlaw3_FloatOrder.l0
      repeat' first
      | (with_reducible exact ih0 _ _)
      | (with_reducible exact ih1 _ _ _)
      | (with_reducible exact ih2 _ _ _ _)
      | (with_reducible exact LeO.refl _)
      | (with_reducible exact LeO.none _)
      | (with_reducible refine LeO.ite ?_ ?_)
      | (with_reducible refine LeO.bind ?_ (fun _ => ?_))
      | exact ih0 _ _
      | exact ih1 _ _ _
      | exact ih2 _ _ _ _
      | exact LeO.none _
      | refine LeO.ite ?_ ?_
      | refine LeO.bind ?_ (fun _ => ?_)
    · intro y0 y1 y2
      unfold fathomlaw3_FloatOrder.j1
      repeat' first
      | (with_reducible exact ih0 _ _)
      | (with_reducible exact ih1 _ _ _)
      | (with_reducible exact ih2 _ _ _ _)
      | (with_reducible exact LeO.refl _)
      | (with_reducible exact LeO.none _)
      | (with_reducible refine LeO.ite ?_ ?_)
      | (with_reducible refine LeO.bind ?_ (fun _ => ?_))
      | exact ih0 _ _
      | exact ih1 _ _ _
      | exact ih2 _ _ _ _
      | exact LeO.none _
      | refine LeO.ite ?_ ?_
      | refine LeO.bind ?_ (fun _ => ?_)
    · intro y0 y1 y2 y3
      unfold fathomlaw3_FloatOrder.j2
      repeat' first
      | (with_reducible exact ih0 _ _)
      | (with_reducible exact ih1 _ _ _)
      | (with_reducible exact ih2 _ _ _ _)
      | (with_reducible exact LeO.refl _)
      | (with_reducible exact LeO.none _)
      | (with_reducible refine LeO.ite ?_ ?_)
      | (with_reducible refine LeO.bind ?_ (fun _ => ?_))
      | exact ih0 _ _
      | exact ih1 _ _ _
      | exact ih2 _ _ _ _
      | exact LeO.none _
      | refine LeO.ite ?_ ?_
      | refine LeO.bind ?_ (fun _ => ?_)
theorem fathomlaw3_FloatOrder.mono : ∀ a0 k, LeO (fathomlaw3_FloatOrder.f k a0) (fathomlaw3_FloatOrder.f (k + 1) a0) := by
  intro a0 k
  obtain ⟨ih0, ih1, ih2⟩ := fathomlaw3_FloatOrder.mono_l k
  unfold fathomlaw3_FloatOrder.f
  repeat' first
      | (with_reducible exact ih0 _ _)
      | (with_reducible exact ih1 _ _ _)
      | (with_reducible exact ih2 _ _ _ _)
      | (with_reducible exact LeO.refl _)
      | (with_reducible exact LeO.none _)
      | (with_reducible refine LeO.ite ?_ ?_)
      | (with_reducible refine LeO.bind ?_ (fun _ => ?_))
      | exact ih0 _ _
      | exact ih1 _ _ _
      | exact ih2 _ _ _ _
      | exact LeO.none _
      | refine LeO.ite ?_ ?_
      | refine LeO.bind ?_ (fun _ => ?_)
set_option maxHeartbeats 8000000 in
set_option maxRecDepth 100000 in
theorem fathomlaw3_FloatOrder.calls (k : Nat) (A0 : Option Addr) (c0 : Nat) (l0 : List Int) (r : Bool) (w : World) (hr0 : Kd.C (Kd.int .u64) w A0 l0.length l0) (hc0 : l0.length ≤ c0) (h : fathomlaw3_FloatOrder.f k l0 = some r) :
    Calls Try.prog 8 #[.slice A0 l0.length c0] w fun e w' => e = .returned (.bool r) ∧ Below w.heap.size w w' := by
  have HR0 := Aside0.mk hr0
  have HC0 := Aside0.mk hc0
  clear hr0 hc0
  have HB := Aside0.mk (Below.refl w.heap.size w)
  have H : (fathomlaw3_FloatOrder.l0 k l0 0) = some r := h
  clear h
  have H' := Aside0.mk H
  clear H
  go_enter Try.func8, Try.ntmps8
  go_wp2
  go_loopg [3] k (fun kq v3 w' => ∃ (x3_1 : Int), v3 = .int .i64 x3_1 ∧ Aside0 (fathomlaw3_FloatOrder.l0 kq l0 x3_1 = some r) ∧ Aside0 (kq ≤ k) ∧ Aside0 (Below w.heap.size w w'))
  case atStart => exact ⟨(0), (by first | rfl | (simp; done) | (simp [*]; done)), H', ⟨Nat.le_refl _⟩, ⟨by repeat (first | (with_reducible first | exact HB.out | apply below_alloc | apply pw_below_drewN | apply below_drew1) | exact HB.out)⟩⟩
  case round =>
    clear H'
    obtain ⟨x3_1, rfl, HA, HK1, HB⟩ := hrel
    cases gk with
    | zero => exact absurd HA.out (by simp [fathomlaw3_FloatOrder.l0])
    | succ k1 =>
      have H := HA.out
      clear HA
      simp only [fathomlaw3_FloatOrder.l0] at H
      have HC2 := Aside0.mk H
      clear H
      go_upto_region 2 with (fail)
      go_cut [14] (fun v14 wc => ∃ (kq : Nat) (x14_1 : Bool), v14 = .bool x14_1 ∧ Aside0 (fathomlaw3_FloatOrder.j1 kq l0 x3_1 x14_1 = some r) ∧ Aside0 (kq ≤ k1) ∧ Aside0 (Below w.heap.size w wc))
      case first =>
        have H := HC2.out
        clear HC2
        by_cases c3 : x3_1 < (l0.length : Int)
        · rw [if_pos c3] at H
          have c3b0 : decide (x3_1 < (l0.length : Int)) = true := decide_eq_true c3
          clear c3
          (first | rw [c3b0] | (simp only [i64_w, i32_w]; rw [c3b0]) | skip)
          have H' := Aside0.mk H
          clear H
          go_wp2
          go_meet
          case rel => exact ⟨_, (decide (x3_1 < 2000)), (by first | rfl | (simp; done) | (simp [*]; done)), H', ⟨by have := HK1.out; first | omega | exact Nat.le_refl _⟩, ⟨by repeat (first | (with_reducible first | exact HB.out | apply below_alloc | apply pw_below_drewN | apply below_drew1) | exact HB.out)⟩⟩
        · rw [if_neg c3] at H
          have c3b0 : decide (x3_1 < (l0.length : Int)) = false := decide_eq_false c3
          clear c3
          (first | rw [c3b0] | (simp only [i64_w, i32_w]; rw [c3b0]) | skip)
          have H' := Aside0.mk H
          clear H
          go_wp2
          go_meet
          case rel => exact ⟨_, (false), (by first | rfl | (simp; done) | (simp [*]; done)), H', ⟨by have := HK1.out; first | omega | exact Nat.le_refl _⟩, ⟨by repeat (first | (with_reducible first | exact HB.out | apply below_alloc | apply pw_below_drewN | apply below_drew1) | exact HB.out)⟩⟩
      case rest =>
        clear HC2
        try clear p2
        try clear c3
        try clear c3b0
        obtain ⟨kq, x14_1, rfl, HA, HJ1, HB⟩ := hcut
        cases kq with
        | zero => exact absurd HA.out (by simp [fathomlaw3_FloatOrder.j1])
        | succ kj1 =>
          have H := HA.out
          clear HA
          simp only [fathomlaw3_FloatOrder.j1] at H
          by_cases c4 : x14_1 = true
          · subst c4
            have H1 : (if 0 ≤ x3_1 then (if x3_1 < (l0.length : Int) then ((float_Class_uint64.f (rd l0 x3_1)).bind fun t132 => ((fathomref3_Class.f (rd l0 x3_1) 64).bind fun t133 => (if t132 = t133 then ((float_Key_uint64.f (rd l0 x3_1)).bind fun t134 => ((fathomref3_Key.f (rd l0 x3_1) 64).bind fun t135 => (if t134 = t135 then ((float_OfKey_uint64.f (rd l0 x3_1)).bind fun t136 => ((fathomref3_OfKey.f (rd l0 x3_1) 64).bind fun t137 => (if t136 = t137 then ((float_Up_uint64.f (rd l0 x3_1)).bind fun t138 => ((fathomref3_Up.f (rd l0 x3_1) 64).bind fun t139 => (if t138 = t139 then ((float_Down_uint64.f (rd l0 x3_1)).bind fun t140 => ((fathomref3_Down.f (rd l0 x3_1) 64).bind fun t141 => (fathomlaw3_FloatOrder.j2 kj1 l0 x3_1 (rd l0 x3_1) (t140 != t141)))) else (fathomlaw3_FloatOrder.j2 kj1 l0 x3_1 (rd l0 x3_1) true)))) else (fathomlaw3_FloatOrder.j2 kj1 l0 x3_1 (rd l0 x3_1) true)))) else (fathomlaw3_FloatOrder.j2 kj1 l0 x3_1 (rd l0 x3_1) true)))) else (fathomlaw3_FloatOrder.j2 kj1 l0 x3_1 (rd l0 x3_1) true)))) else (none)) else (none)) = some r := by rw [if_pos rfl] at H; exact H
            clear H
            have H := H1
            clear H1
            by_cases c5 : 0 ≤ x3_1
            · rw [if_pos c5] at H
              have c5b0 : decide (0 ≤ x3_1) = true := decide_eq_true c5
              clear c5
              by_cases c6 : x3_1 < (l0.length : Int)
              · rw [if_pos c6] at H
                have c6b0 : decide (x3_1 < (l0.length : Int)) = true := decide_eq_true c6
                clear c6
                have HC7 := Aside0.mk H
                clear H
                have p131 : 0 ≤ (x3_1 : Int) := of_decide_eq_true (by first | (with_reducible assumption) | assumption)
                have q131 : x3_1 < (l0.length : Int) := of_decide_eq_true (by first | (with_reducible assumption) | assumption)
                obtain ⟨ad131, e131, hx131_0⟩ := Kd.at_int HR0.out x3_1 p131 q131
                cases e131
                replace hx131_0 := (HB.out.cell (World.block_lt_of_cell? w _ hx131_0)).trans hx131_0
                replace p131 := eq_true p131
                replace q131 := eq_true q131
                go_upto_region 5 with (fail)
                go_cut [53] (fun v53 wc => ∃ (kq : Nat) (x53_6 : Bool), v53 = .bool x53_6 ∧ Aside0 (fathomlaw3_FloatOrder.j2 kq l0 x3_1 (rd l0 x3_1) x53_6 = some r) ∧ Aside0 (kq ≤ kj1) ∧ Aside0 (Below w.heap.size w wc))
                case first =>
                  have H := HC7.out
                  clear HC7
                  replace H := Option.bind_eq_some_iff.mp H
                  obtain ⟨t132, A80, H⟩ := H
                  replace H : ((fathomref3_Class.f (rd l0 x3_1) 64).bind fun t133 => (if t132 = t133 then ((float_Key_uint64.f (rd l0 x3_1)).bind fun t134 => ((fathomref3_Key.f (rd l0 x3_1) 64).bind fun t135 => (if t134 = t135 then ((float_OfKey_uint64.f (rd l0 x3_1)).bind fun t136 => ((fathomref3_OfKey.f (rd l0 x3_1) 64).bind fun t137 => (if t136 = t137 then ((float_Up_uint64.f (rd l0 x3_1)).bind fun t138 => ((fathomref3_Up.f (rd l0 x3_1) 64).bind fun t139 => (if t138 = t139 then ((float_Down_uint64.f (rd l0 x3_1)).bind fun t140 => ((fathomref3_Down.f (rd l0 x3_1) 64).bind fun t141 => (fathomlaw3_FloatOrder.j2 kj1 l0 x3_1 (rd l0 x3_1) (t140 != t141)))) else (fathomlaw3_FloatOrder.j2 kj1 l0 x3_1 (rd l0 x3_1) true)))) else (fathomlaw3_FloatOrder.j2 kj1 l0 x3_1 (rd l0 x3_1) true)))) else (fathomlaw3_FloatOrder.j2 kj1 l0 x3_1 (rd l0 x3_1) true)))) else (fathomlaw3_FloatOrder.j2 kj1 l0 x3_1 (rd l0 x3_1) true))) = some r := H
                  have A8 := Aside0.mk A80
                  clear A80
                  replace H := Option.bind_eq_some_iff.mp H
                  obtain ⟨t133, A90, H⟩ := H
                  replace H : (if t132 = t133 then ((float_Key_uint64.f (rd l0 x3_1)).bind fun t134 => ((fathomref3_Key.f (rd l0 x3_1) 64).bind fun t135 => (if t134 = t135 then ((float_OfKey_uint64.f (rd l0 x3_1)).bind fun t136 => ((fathomref3_OfKey.f (rd l0 x3_1) 64).bind fun t137 => (if t136 = t137 then ((float_Up_uint64.f (rd l0 x3_1)).bind fun t138 => ((fathomref3_Up.f (rd l0 x3_1) 64).bind fun t139 => (if t138 = t139 then ((float_Down_uint64.f (rd l0 x3_1)).bind fun t140 => ((fathomref3_Down.f (rd l0 x3_1) 64).bind fun t141 => (fathomlaw3_FloatOrder.j2 kj1 l0 x3_1 (rd l0 x3_1) (t140 != t141)))) else (fathomlaw3_FloatOrder.j2 kj1 l0 x3_1 (rd l0 x3_1) true)))) else (fathomlaw3_FloatOrder.j2 kj1 l0 x3_1 (rd l0 x3_1) true)))) else (fathomlaw3_FloatOrder.j2 kj1 l0 x3_1 (rd l0 x3_1) true)))) else (fathomlaw3_FloatOrder.j2 kj1 l0 x3_1 (rd l0 x3_1) true)) = some r := H
                  have A9 := Aside0.mk A90
                  clear A90
                  by_cases c10 : t132 = t133
                  · rw [if_pos c10] at H
                    have c10b0 : (t132 == t133) = true := beq_iff_eq.mpr c10
                    have c10b1 : (t132 != t133) = false := bne_eq_false_iff_eq.mpr c10
                    clear c10
                    (first | rw [c10b0] | (simp only [i64_w, i32_w]; rw [c10b0]) | skip)
                    replace H := Option.bind_eq_some_iff.mp H
                    obtain ⟨t134, A110, H⟩ := H
                    replace H : ((fathomref3_Key.f (rd l0 x3_1) 64).bind fun t135 => (if t134 = t135 then ((float_OfKey_uint64.f (rd l0 x3_1)).bind fun t136 => ((fathomref3_OfKey.f (rd l0 x3_1) 64).bind fun t137 => (if t136 = t137 then ((float_Up_uint64.f (rd l0 x3_1)).bind fun t138 => ((fathomref3_Up.f (rd l0 x3_1) 64).bind fun t139 => (if t138 = t139 then ((float_Down_uint64.f (rd l0 x3_1)).bind fun t140 => ((fathomref3_Down.f (rd l0 x3_1) 64).bind fun t141 => (fathomlaw3_FloatOrder.j2 kj1 l0 x3_1 (rd l0 x3_1) (t140 != t141)))) else (fathomlaw3_FloatOrder.j2 kj1 l0 x3_1 (rd l0 x3_1) true)))) else (fathomlaw3_FloatOrder.j2 kj1 l0 x3_1 (rd l0 x3_1) true)))) else (fathomlaw3_FloatOrder.j2 kj1 l0 x3_1 (rd l0 x3_1) true))) = some r := H
                    have A11 := Aside0.mk A110
                    clear A110
                    replace H := Option.bind_eq_some_iff.mp H
                    obtain ⟨t135, A120, H⟩ := H
                    replace H : (if t134 = t135 then ((float_OfKey_uint64.f (rd l0 x3_1)).bind fun t136 => ((fathomref3_OfKey.f (rd l0 x3_1) 64).bind fun t137 => (if t136 = t137 then ((float_Up_uint64.f (rd l0 x3_1)).bind fun t138 => ((fathomref3_Up.f (rd l0 x3_1) 64).bind fun t139 => (if t138 = t139 then ((float_Down_uint64.f (rd l0 x3_1)).bind fun t140 => ((fathomref3_Down.f (rd l0 x3_1) 64).bind fun t141 => (fathomlaw3_FloatOrder.j2 kj1 l0 x3_1 (rd l0 x3_1) (t140 != t141)))) else (fathomlaw3_FloatOrder.j2 kj1 l0 x3_1 (rd l0 x3_1) true)))) else (fathomlaw3_FloatOrder.j2 kj1 l0 x3_1 (rd l0 x3_1) true)))) else (fathomlaw3_FloatOrder.j2 kj1 l0 x3_1 (rd l0 x3_1) true)) = some r := H
                    have A12 := Aside0.mk A120
                    clear A120
                    by_cases c13 : t134 = t135
                    · rw [if_pos c13] at H
                      have c13b0 : (t134 == t135) = true := beq_iff_eq.mpr c13
                      have c13b1 : (t134 != t135) = false := bne_eq_false_iff_eq.mpr c13
                      clear c13
                      replace H := Option.bind_eq_some_iff.mp H
                      obtain ⟨t136, A140, H⟩ := H
                      replace H : ((fathomref3_OfKey.f (rd l0 x3_1) 64).bind fun t137 => (if t136 = t137 then ((float_Up_uint64.f (rd l0 x3_1)).bind fun t138 => ((fathomref3_Up.f (rd l0 x3_1) 64).bind fun t139 => (if t138 = t139 then ((float_Down_uint64.f (rd l0 x3_1)).bind fun t140 => ((fathomref3_Down.f (rd l0 x3_1) 64).bind fun t141 => (fathomlaw3_FloatOrder.j2 kj1 l0 x3_1 (rd l0 x3_1) (t140 != t141)))) else (fathomlaw3_FloatOrder.j2 kj1 l0 x3_1 (rd l0 x3_1) true)))) else (fathomlaw3_FloatOrder.j2 kj1 l0 x3_1 (rd l0 x3_1) true))) = some r := H
                      have A14 := Aside0.mk A140
                      clear A140
                      replace H := Option.bind_eq_some_iff.mp H
                      obtain ⟨t137, A150, H⟩ := H
                      replace H : (if t136 = t137 then ((float_Up_uint64.f (rd l0 x3_1)).bind fun t138 => ((fathomref3_Up.f (rd l0 x3_1) 64).bind fun t139 => (if t138 = t139 then ((float_Down_uint64.f (rd l0 x3_1)).bind fun t140 => ((fathomref3_Down.f (rd l0 x3_1) 64).bind fun t141 => (fathomlaw3_FloatOrder.j2 kj1 l0 x3_1 (rd l0 x3_1) (t140 != t141)))) else (fathomlaw3_FloatOrder.j2 kj1 l0 x3_1 (rd l0 x3_1) true)))) else (fathomlaw3_FloatOrder.j2 kj1 l0 x3_1 (rd l0 x3_1) true)) = some r := H
                      have A15 := Aside0.mk A150
                      clear A150
                      by_cases c16 : t136 = t137
                      · rw [if_pos c16] at H
                        have c16b0 : (t136 == t137) = true := beq_iff_eq.mpr c16
                        have c16b1 : (t136 != t137) = false := bne_eq_false_iff_eq.mpr c16
                        clear c16
                        replace H := Option.bind_eq_some_iff.mp H
                        obtain ⟨t138, A170, H⟩ := H
                        replace H : ((fathomref3_Up.f (rd l0 x3_1) 64).bind fun t139 => (if t138 = t139 then ((float_Down_uint64.f (rd l0 x3_1)).bind fun t140 => ((fathomref3_Down.f (rd l0 x3_1) 64).bind fun t141 => (fathomlaw3_FloatOrder.j2 kj1 l0 x3_1 (rd l0 x3_1) (t140 != t141)))) else (fathomlaw3_FloatOrder.j2 kj1 l0 x3_1 (rd l0 x3_1) true))) = some r := H
                        have A17 := Aside0.mk A170
                        clear A170
                        replace H := Option.bind_eq_some_iff.mp H
                        obtain ⟨t139, A180, H⟩ := H
                        replace H : (if t138 = t139 then ((float_Down_uint64.f (rd l0 x3_1)).bind fun t140 => ((fathomref3_Down.f (rd l0 x3_1) 64).bind fun t141 => (fathomlaw3_FloatOrder.j2 kj1 l0 x3_1 (rd l0 x3_1) (t140 != t141)))) else (fathomlaw3_FloatOrder.j2 kj1 l0 x3_1 (rd l0 x3_1) true)) = some r := H
                        have A18 := Aside0.mk A180
                        clear A180
                        by_cases c19 : t138 = t139
                        · rw [if_pos c19] at H
                          have c19b0 : (t138 == t139) = true := beq_iff_eq.mpr c19
                          have c19b1 : (t138 != t139) = false := bne_eq_false_iff_eq.mpr c19
                          clear c19
                          replace H := Option.bind_eq_some_iff.mp H
                          obtain ⟨t140, A200, H⟩ := H
                          replace H : ((fathomref3_Down.f (rd l0 x3_1) 64).bind fun t141 => (fathomlaw3_FloatOrder.j2 kj1 l0 x3_1 (rd l0 x3_1) (t140 != t141))) = some r := H
                          have A20 := Aside0.mk A200
                          clear A200
                          replace H := Option.bind_eq_some_iff.mp H
                          obtain ⟨t141, A210, H⟩ := H
                          replace H : (fathomlaw3_FloatOrder.j2 kj1 l0 x3_1 (rd l0 x3_1) (t140 != t141)) = some r := H
                          have A21 := Aside0.mk A210
                          clear A210
                          have H' := Aside0.mk H
                          clear H
                          go_wp2_with (first | ((with_reducible refine gate_callee (f := 49) rfl ?_); refine goesL_ (some 22) rfl rfl Try.func49 (by kernel_rfl) rfl #[.int .u64 (rd l0 x3_1)] rfl (by (try simp only [List.map_toArray, List.map_cons, List.map_nil]); first | done | rfl | (simp only [List.length_drop, List.length_take]; rfl) | (simp only [gt_iff_lt, Int.natCast_pos]; rfl)) ?_; (with_reducible refine (float_Class_uint64.calls (rd l0 x3_1) t132 _ A8.out).mono ?_); rintro e w22 ⟨rfl, hb⟩; refine ⟨_, rfl, ?_⟩; have n0_ := Aside0.mk (below_step (by repeat (first | (with_reducible first | exact HB.out | apply below_alloc | apply pw_below_drewN | apply below_drew1) | exact HB.out)) hb); clear HB; have HB := n0_; clear n0_; (try clear hb); (try clear hb2); (try clear hk); (try clear hi)) | ((with_reducible refine gate_callee (f := 50) rfl ?_); refine goesL_ (some 24) rfl rfl Try.func50 (by kernel_rfl) rfl #[.int .u64 (rd l0 x3_1), .int .i64 64] rfl (by (try simp only [List.map_toArray, List.map_cons, List.map_nil]); first | done | rfl | (simp only [List.length_drop, List.length_take]; rfl) | (simp only [gt_iff_lt, Int.natCast_pos]; rfl)) ?_; (with_reducible refine (fathomref3_Class.calls (rd l0 x3_1) 64 t133 _ A9.out).mono ?_); rintro e w' ⟨rfl, ⟨nd, rfl⟩⟩; refine ⟨_, rfl, ?_⟩) | (go_at_call 51; (with_reducible refine (float_Key_uint64.calls (rd l0 x3_1) t134 _ A11.out).mono ?_); rintro e w23 ⟨rfl, hb⟩; have n0_ := Aside0.mk (below_step (by repeat (first | (with_reducible first | exact HB.out | apply below_alloc | apply pw_below_drewN | apply below_drew1) | exact HB.out)) hb); clear HB; have HB := n0_; clear n0_; (try clear hb); (try clear hb2); (try clear hk); (try clear hi)) | (go_at_call 52; (with_reducible refine (fathomref3_Key.calls (rd l0 x3_1) 64 t135 _ A12.out).mono ?_); rintro e w' ⟨rfl, ⟨nd, rfl⟩⟩) | (go_at_call 53; (with_reducible refine (float_OfKey_uint64.calls (rd l0 x3_1) t136 _ A14.out).mono ?_); rintro e w24 ⟨rfl, hb⟩; have n0_ := Aside0.mk (below_step (by repeat (first | (with_reducible first | exact HB.out | apply below_alloc | apply pw_below_drewN | apply below_drew1) | exact HB.out)) hb); clear HB; have HB := n0_; clear n0_; (try clear hb); (try clear hb2); (try clear hk); (try clear hi)) | (go_at_call 54; (with_reducible refine (fathomref3_OfKey.calls (rd l0 x3_1) 64 t137 _ A15.out).mono ?_); rintro e w' ⟨rfl, ⟨nd, rfl⟩⟩) | (go_at_call 55; (with_reducible refine (float_Up_uint64.calls (rd l0 x3_1) t138 _ A17.out).mono ?_); rintro e w25 ⟨rfl, hb⟩; have n0_ := Aside0.mk (below_step (by repeat (first | (with_reducible first | exact HB.out | apply below_alloc | apply pw_below_drewN | apply below_drew1) | exact HB.out)) hb); clear HB; have HB := n0_; clear n0_; (try clear hb); (try clear hb2); (try clear hk); (try clear hi)) | (go_at_call 56; (with_reducible refine (fathomref3_Up.calls (rd l0 x3_1) 64 t139 _ A18.out).mono ?_); rintro e w' ⟨rfl, ⟨nd, rfl⟩⟩) | (go_at_call 57; (with_reducible refine (float_Down_uint64.calls (rd l0 x3_1) t140 _ A20.out).mono ?_); rintro e w26 ⟨rfl, hb⟩; have n0_ := Aside0.mk (below_step (by repeat (first | (with_reducible first | exact HB.out | apply below_alloc | apply pw_below_drewN | apply below_drew1) | exact HB.out)) hb); clear HB; have HB := n0_; clear n0_; (try clear hb); (try clear hb2); (try clear hk); (try clear hi)) | (go_at_call 58; (with_reducible refine (fathomref3_Down.calls (rd l0 x3_1) 64 t141 _ A21.out).mono ?_); rintro e w' ⟨rfl, ⟨nd, rfl⟩⟩))
                          go_meet
                          case rel => exact ⟨_, ((t140 != t141)), (by first | rfl | (simp; done) | (simp [*]; done)), H', ⟨by have := HK1.out; have := HJ1.out; first | omega | exact Nat.le_refl _⟩, ⟨by repeat (first | (with_reducible first | exact HB.out | apply below_alloc | apply pw_below_drewN | apply below_drew1) | exact HB.out)⟩⟩
                        · rw [if_neg c19] at H
                          have c19b0 : (t138 == t139) = false := beq_eq_false_iff_ne.mpr c19
                          have c19b1 : (t138 != t139) = true := bne_iff_ne.mpr c19
                          have H' := Aside0.mk H
                          clear H
                          go_wp2_with (first | ((with_reducible refine gate_callee (f := 49) rfl ?_); refine goesL_ (some 22) rfl rfl Try.func49 (by kernel_rfl) rfl #[.int .u64 (rd l0 x3_1)] rfl (by (try simp only [List.map_toArray, List.map_cons, List.map_nil]); first | done | rfl | (simp only [List.length_drop, List.length_take]; rfl) | (simp only [gt_iff_lt, Int.natCast_pos]; rfl)) ?_; (with_reducible refine (float_Class_uint64.calls (rd l0 x3_1) t132 _ A8.out).mono ?_); rintro e w27 ⟨rfl, hb⟩; refine ⟨_, rfl, ?_⟩; have n0_ := Aside0.mk (below_step (by repeat (first | (with_reducible first | exact HB.out | apply below_alloc | apply pw_below_drewN | apply below_drew1) | exact HB.out)) hb); clear HB; have HB := n0_; clear n0_; (try clear hb); (try clear hb2); (try clear hk); (try clear hi)) | ((with_reducible refine gate_callee (f := 50) rfl ?_); refine goesL_ (some 24) rfl rfl Try.func50 (by kernel_rfl) rfl #[.int .u64 (rd l0 x3_1), .int .i64 64] rfl (by (try simp only [List.map_toArray, List.map_cons, List.map_nil]); first | done | rfl | (simp only [List.length_drop, List.length_take]; rfl) | (simp only [gt_iff_lt, Int.natCast_pos]; rfl)) ?_; (with_reducible refine (fathomref3_Class.calls (rd l0 x3_1) 64 t133 _ A9.out).mono ?_); rintro e w' ⟨rfl, ⟨nd, rfl⟩⟩; refine ⟨_, rfl, ?_⟩) | (go_at_call 51; (with_reducible refine (float_Key_uint64.calls (rd l0 x3_1) t134 _ A11.out).mono ?_); rintro e w28 ⟨rfl, hb⟩; have n0_ := Aside0.mk (below_step (by repeat (first | (with_reducible first | exact HB.out | apply below_alloc | apply pw_below_drewN | apply below_drew1) | exact HB.out)) hb); clear HB; have HB := n0_; clear n0_; (try clear hb); (try clear hb2); (try clear hk); (try clear hi)) | (go_at_call 52; (with_reducible refine (fathomref3_Key.calls (rd l0 x3_1) 64 t135 _ A12.out).mono ?_); rintro e w' ⟨rfl, ⟨nd, rfl⟩⟩) | (go_at_call 53; (with_reducible refine (float_OfKey_uint64.calls (rd l0 x3_1) t136 _ A14.out).mono ?_); rintro e w29 ⟨rfl, hb⟩; have n0_ := Aside0.mk (below_step (by repeat (first | (with_reducible first | exact HB.out | apply below_alloc | apply pw_below_drewN | apply below_drew1) | exact HB.out)) hb); clear HB; have HB := n0_; clear n0_; (try clear hb); (try clear hb2); (try clear hk); (try clear hi)) | (go_at_call 54; (with_reducible refine (fathomref3_OfKey.calls (rd l0 x3_1) 64 t137 _ A15.out).mono ?_); rintro e w' ⟨rfl, ⟨nd, rfl⟩⟩) | (go_at_call 55; (with_reducible refine (float_Up_uint64.calls (rd l0 x3_1) t138 _ A17.out).mono ?_); rintro e w30 ⟨rfl, hb⟩; have n0_ := Aside0.mk (below_step (by repeat (first | (with_reducible first | exact HB.out | apply below_alloc | apply pw_below_drewN | apply below_drew1) | exact HB.out)) hb); clear HB; have HB := n0_; clear n0_; (try clear hb); (try clear hb2); (try clear hk); (try clear hi)) | (go_at_call 56; (with_reducible refine (fathomref3_Up.calls (rd l0 x3_1) 64 t139 _ A18.out).mono ?_); rintro e w' ⟨rfl, ⟨nd, rfl⟩⟩))
                          go_meet
                          case rel => exact ⟨_, (true), (by first | rfl | (simp; done) | (simp [*]; done)), H', ⟨by have := HK1.out; have := HJ1.out; first | omega | exact Nat.le_refl _⟩, ⟨by repeat (first | (with_reducible first | exact HB.out | apply below_alloc | apply pw_below_drewN | apply below_drew1) | exact HB.out)⟩⟩
                      · rw [if_neg c16] at H
                        have c16b0 : (t136 == t137) = false := beq_eq_false_iff_ne.mpr c16
                        have c16b1 : (t136 != t137) = true := bne_iff_ne.mpr c16
                        have H' := Aside0.mk H
                        clear H
                        go_wp2_with (first | ((with_reducible refine gate_callee (f := 49) rfl ?_); refine goesL_ (some 22) rfl rfl Try.func49 (by kernel_rfl) rfl #[.int .u64 (rd l0 x3_1)] rfl (by (try simp only [List.map_toArray, List.map_cons, List.map_nil]); first | done | rfl | (simp only [List.length_drop, List.length_take]; rfl) | (simp only [gt_iff_lt, Int.natCast_pos]; rfl)) ?_; (with_reducible refine (float_Class_uint64.calls (rd l0 x3_1) t132 _ A8.out).mono ?_); rintro e w31 ⟨rfl, hb⟩; refine ⟨_, rfl, ?_⟩; have n0_ := Aside0.mk (below_step (by repeat (first | (with_reducible first | exact HB.out | apply below_alloc | apply pw_below_drewN | apply below_drew1) | exact HB.out)) hb); clear HB; have HB := n0_; clear n0_; (try clear hb); (try clear hb2); (try clear hk); (try clear hi)) | ((with_reducible refine gate_callee (f := 50) rfl ?_); refine goesL_ (some 24) rfl rfl Try.func50 (by kernel_rfl) rfl #[.int .u64 (rd l0 x3_1), .int .i64 64] rfl (by (try simp only [List.map_toArray, List.map_cons, List.map_nil]); first | done | rfl | (simp only [List.length_drop, List.length_take]; rfl) | (simp only [gt_iff_lt, Int.natCast_pos]; rfl)) ?_; (with_reducible refine (fathomref3_Class.calls (rd l0 x3_1) 64 t133 _ A9.out).mono ?_); rintro e w' ⟨rfl, ⟨nd, rfl⟩⟩; refine ⟨_, rfl, ?_⟩) | (go_at_call 51; (with_reducible refine (float_Key_uint64.calls (rd l0 x3_1) t134 _ A11.out).mono ?_); rintro e w32 ⟨rfl, hb⟩; have n0_ := Aside0.mk (below_step (by repeat (first | (with_reducible first | exact HB.out | apply below_alloc | apply pw_below_drewN | apply below_drew1) | exact HB.out)) hb); clear HB; have HB := n0_; clear n0_; (try clear hb); (try clear hb2); (try clear hk); (try clear hi)) | (go_at_call 52; (with_reducible refine (fathomref3_Key.calls (rd l0 x3_1) 64 t135 _ A12.out).mono ?_); rintro e w' ⟨rfl, ⟨nd, rfl⟩⟩) | (go_at_call 53; (with_reducible refine (float_OfKey_uint64.calls (rd l0 x3_1) t136 _ A14.out).mono ?_); rintro e w33 ⟨rfl, hb⟩; have n0_ := Aside0.mk (below_step (by repeat (first | (with_reducible first | exact HB.out | apply below_alloc | apply pw_below_drewN | apply below_drew1) | exact HB.out)) hb); clear HB; have HB := n0_; clear n0_; (try clear hb); (try clear hb2); (try clear hk); (try clear hi)) | (go_at_call 54; (with_reducible refine (fathomref3_OfKey.calls (rd l0 x3_1) 64 t137 _ A15.out).mono ?_); rintro e w' ⟨rfl, ⟨nd, rfl⟩⟩))
                        go_meet
                        case rel => exact ⟨_, (true), (by first | rfl | (simp; done) | (simp [*]; done)), H', ⟨by have := HK1.out; have := HJ1.out; first | omega | exact Nat.le_refl _⟩, ⟨by repeat (first | (with_reducible first | exact HB.out | apply below_alloc | apply pw_below_drewN | apply below_drew1) | exact HB.out)⟩⟩
                    · rw [if_neg c13] at H
                      have c13b0 : (t134 == t135) = false := beq_eq_false_iff_ne.mpr c13
                      have c13b1 : (t134 != t135) = true := bne_iff_ne.mpr c13
                      have H' := Aside0.mk H
                      clear H
                      go_wp2_with (first | ((with_reducible refine gate_callee (f := 49) rfl ?_); refine goesL_ (some 22) rfl rfl Try.func49 (by kernel_rfl) rfl #[.int .u64 (rd l0 x3_1)] rfl (by (try simp only [List.map_toArray, List.map_cons, List.map_nil]); first | done | rfl | (simp only [List.length_drop, List.length_take]; rfl) | (simp only [gt_iff_lt, Int.natCast_pos]; rfl)) ?_; (with_reducible refine (float_Class_uint64.calls (rd l0 x3_1) t132 _ A8.out).mono ?_); rintro e w34 ⟨rfl, hb⟩; refine ⟨_, rfl, ?_⟩; have n0_ := Aside0.mk (below_step (by repeat (first | (with_reducible first | exact HB.out | apply below_alloc | apply pw_below_drewN | apply below_drew1) | exact HB.out)) hb); clear HB; have HB := n0_; clear n0_; (try clear hb); (try clear hb2); (try clear hk); (try clear hi)) | ((with_reducible refine gate_callee (f := 50) rfl ?_); refine goesL_ (some 24) rfl rfl Try.func50 (by kernel_rfl) rfl #[.int .u64 (rd l0 x3_1), .int .i64 64] rfl (by (try simp only [List.map_toArray, List.map_cons, List.map_nil]); first | done | rfl | (simp only [List.length_drop, List.length_take]; rfl) | (simp only [gt_iff_lt, Int.natCast_pos]; rfl)) ?_; (with_reducible refine (fathomref3_Class.calls (rd l0 x3_1) 64 t133 _ A9.out).mono ?_); rintro e w' ⟨rfl, ⟨nd, rfl⟩⟩; refine ⟨_, rfl, ?_⟩) | (go_at_call 51; (with_reducible refine (float_Key_uint64.calls (rd l0 x3_1) t134 _ A11.out).mono ?_); rintro e w35 ⟨rfl, hb⟩; have n0_ := Aside0.mk (below_step (by repeat (first | (with_reducible first | exact HB.out | apply below_alloc | apply pw_below_drewN | apply below_drew1) | exact HB.out)) hb); clear HB; have HB := n0_; clear n0_; (try clear hb); (try clear hb2); (try clear hk); (try clear hi)) | (go_at_call 52; (with_reducible refine (fathomref3_Key.calls (rd l0 x3_1) 64 t135 _ A12.out).mono ?_); rintro e w' ⟨rfl, ⟨nd, rfl⟩⟩))
                      go_meet
                      case rel => exact ⟨_, (true), (by first | rfl | (simp; done) | (simp [*]; done)), H', ⟨by have := HK1.out; have := HJ1.out; first | omega | exact Nat.le_refl _⟩, ⟨by repeat (first | (with_reducible first | exact HB.out | apply below_alloc | apply pw_below_drewN | apply below_drew1) | exact HB.out)⟩⟩
                  · rw [if_neg c10] at H
                    have c10b0 : (t132 == t133) = false := beq_eq_false_iff_ne.mpr c10
                    have c10b1 : (t132 != t133) = true := bne_iff_ne.mpr c10
                    (first | rw [c10b0] | (simp only [i64_w, i32_w]; rw [c10b0]) | skip)
                    have H' := Aside0.mk H
                    clear H
                    go_wp2_with (first | ((with_reducible refine gate_callee (f := 49) rfl ?_); refine goesL_ (some 22) rfl rfl Try.func49 (by kernel_rfl) rfl #[.int .u64 (rd l0 x3_1)] rfl (by (try simp only [List.map_toArray, List.map_cons, List.map_nil]); first | done | rfl | (simp only [List.length_drop, List.length_take]; rfl) | (simp only [gt_iff_lt, Int.natCast_pos]; rfl)) ?_; (with_reducible refine (float_Class_uint64.calls (rd l0 x3_1) t132 _ A8.out).mono ?_); rintro e w36 ⟨rfl, hb⟩; refine ⟨_, rfl, ?_⟩; have n0_ := Aside0.mk (below_step (by repeat (first | (with_reducible first | exact HB.out | apply below_alloc | apply pw_below_drewN | apply below_drew1) | exact HB.out)) hb); clear HB; have HB := n0_; clear n0_; (try clear hb); (try clear hb2); (try clear hk); (try clear hi)) | ((with_reducible refine gate_callee (f := 50) rfl ?_); refine goesL_ (some 24) rfl rfl Try.func50 (by kernel_rfl) rfl #[.int .u64 (rd l0 x3_1), .int .i64 64] rfl (by (try simp only [List.map_toArray, List.map_cons, List.map_nil]); first | done | rfl | (simp only [List.length_drop, List.length_take]; rfl) | (simp only [gt_iff_lt, Int.natCast_pos]; rfl)) ?_; (with_reducible refine (fathomref3_Class.calls (rd l0 x3_1) 64 t133 _ A9.out).mono ?_); rintro e w' ⟨rfl, ⟨nd, rfl⟩⟩; refine ⟨_, rfl, ?_⟩))
                    go_meet
                    case rel => exact ⟨_, (true), (by first | rfl | (simp; done) | (simp [*]; done)), H', ⟨by have := HK1.out; have := HJ1.out; first | omega | exact Nat.le_refl _⟩, ⟨by repeat (first | (with_reducible first | exact HB.out | apply below_alloc | apply pw_below_drewN | apply below_drew1) | exact HB.out)⟩⟩
                case rest =>
                  clear HC7
                  try clear c1
                  try clear p1
                  try clear q1
                  try clear hx1
                  try clear p2
                  try clear c3
                  try clear c3b0
                  try clear c4
                  try clear c5
                  try clear c5b0
                  try clear c6
                  try clear c6b0
                  try clear c8
                  try clear c10
                  try clear c10b0
                  try clear c10b1
                  try clear c13
                  try clear c13b0
                  try clear c13b1
                  try clear p13
                  try clear q13
                  try clear hx13
                  try clear c16
                  try clear c16b0
                  try clear c16b1
                  try clear c19
                  try clear c19b0
                  try clear c19b1
                  try clear hx131_0
                  try clear p131
                  try clear p2
                  try clear q131
                  obtain ⟨kq, x53_6, rfl, HA, HJ6, HB⟩ := hcut
                  cases kq with
                  | zero => exact absurd HA.out (by simp [fathomlaw3_FloatOrder.j2])
                  | succ kj6 =>
                    have H := HA.out
                    clear HA
                    simp only [fathomlaw3_FloatOrder.j2] at H
                    by_cases c37 : x53_6 = true
                    · subst c37
                      have H1 : (some false) = some r := by rw [if_pos rfl] at H; exact H
                      clear H
                      have H := H1
                      clear H1
                      obtain rfl := Option.some.inj H
                      go_wp2
                      go_ret
                      exact ⟨by first | rfl | (simp [errW_none, errW_some] <;> rfl) | (simp [*, errW_none, errW_some] <;> rfl), by repeat (first | (with_reducible first | exact HB.out | apply below_alloc | apply pw_below_drewN | apply below_drew1) | exact HB.out)⟩
                    · replace c37 := Bool.eq_false_iff.mpr c37
                      subst c37
                      have H1 : ((float_Class_uint32.f (((rd l0 x3_1) / 4294967296) % 4294967296)).bind fun t142 => ((fathomref3_Class.f (((rd l0 x3_1) / 4294967296) % 4294967296) 32).bind fun t143 => (if t142 = t143 then ((float_Key_uint32.f (((rd l0 x3_1) / 4294967296) % 4294967296)).bind fun t144 => ((fathomref3_Key.f (((rd l0 x3_1) / 4294967296) % 4294967296) 32).bind fun t145 => (if (IntKind.u64.wrap (t144)) = t145 then ((float_OfKey_uint32.f (((rd l0 x3_1) / 4294967296) % 4294967296)).bind fun t146 => ((fathomref3_OfKey.f (((rd l0 x3_1) / 4294967296) % 4294967296) 32).bind fun t147 => (if (IntKind.u64.wrap (t146)) = t147 then ((float_Up_uint32.f (((rd l0 x3_1) / 4294967296) % 4294967296)).bind fun t148 => ((fathomref3_Up.f (((rd l0 x3_1) / 4294967296) % 4294967296) 32).bind fun t149 => (if (IntKind.u64.wrap (t148)) = t149 then ((float_Down_uint32.f (((rd l0 x3_1) / 4294967296) % 4294967296)).bind fun t150 => ((fathomref3_Down.f (((rd l0 x3_1) / 4294967296) % 4294967296) 32).bind fun t151 => (if (IntKind.u64.wrap (t150)) = t151 then (fathomlaw3_FloatOrder.l0 kj6 l0 (wrap64 (x3_1 + 1))) else (some false)))) else (some false)))) else (some false)))) else (some false)))) else (some false)))) = some r := by rw [if_neg (show ¬ (false = true) by decide)] at H; exact H
                      clear H
                      have H := H1
                      clear H1
                      replace H := Option.bind_eq_some_iff.mp H
                      obtain ⟨t142, A380, H⟩ := H
                      replace H : ((fathomref3_Class.f (((rd l0 x3_1) / 4294967296) % 4294967296) 32).bind fun t143 => (if t142 = t143 then ((float_Key_uint32.f (((rd l0 x3_1) / 4294967296) % 4294967296)).bind fun t144 => ((fathomref3_Key.f (((rd l0 x3_1) / 4294967296) % 4294967296) 32).bind fun t145 => (if (IntKind.u64.wrap (t144)) = t145 then ((float_OfKey_uint32.f (((rd l0 x3_1) / 4294967296) % 4294967296)).bind fun t146 => ((fathomref3_OfKey.f (((rd l0 x3_1) / 4294967296) % 4294967296) 32).bind fun t147 => (if (IntKind.u64.wrap (t146)) = t147 then ((float_Up_uint32.f (((rd l0 x3_1) / 4294967296) % 4294967296)).bind fun t148 => ((fathomref3_Up.f (((rd l0 x3_1) / 4294967296) % 4294967296) 32).bind fun t149 => (if (IntKind.u64.wrap (t148)) = t149 then ((float_Down_uint32.f (((rd l0 x3_1) / 4294967296) % 4294967296)).bind fun t150 => ((fathomref3_Down.f (((rd l0 x3_1) / 4294967296) % 4294967296) 32).bind fun t151 => (if (IntKind.u64.wrap (t150)) = t151 then (fathomlaw3_FloatOrder.l0 kj6 l0 (wrap64 (x3_1 + 1))) else (some false)))) else (some false)))) else (some false)))) else (some false)))) else (some false))) = some r := H
                      have A38 := Aside0.mk A380
                      clear A380
                      replace H := Option.bind_eq_some_iff.mp H
                      obtain ⟨t143, A390, H⟩ := H
                      replace H : (if t142 = t143 then ((float_Key_uint32.f (((rd l0 x3_1) / 4294967296) % 4294967296)).bind fun t144 => ((fathomref3_Key.f (((rd l0 x3_1) / 4294967296) % 4294967296) 32).bind fun t145 => (if (IntKind.u64.wrap (t144)) = t145 then ((float_OfKey_uint32.f (((rd l0 x3_1) / 4294967296) % 4294967296)).bind fun t146 => ((fathomref3_OfKey.f (((rd l0 x3_1) / 4294967296) % 4294967296) 32).bind fun t147 => (if (IntKind.u64.wrap (t146)) = t147 then ((float_Up_uint32.f (((rd l0 x3_1) / 4294967296) % 4294967296)).bind fun t148 => ((fathomref3_Up.f (((rd l0 x3_1) / 4294967296) % 4294967296) 32).bind fun t149 => (if (IntKind.u64.wrap (t148)) = t149 then ((float_Down_uint32.f (((rd l0 x3_1) / 4294967296) % 4294967296)).bind fun t150 => ((fathomref3_Down.f (((rd l0 x3_1) / 4294967296) % 4294967296) 32).bind fun t151 => (if (IntKind.u64.wrap (t150)) = t151 then (fathomlaw3_FloatOrder.l0 kj6 l0 (wrap64 (x3_1 + 1))) else (some false)))) else (some false)))) else (some false)))) else (some false)))) else (some false)) = some r := H
                      have A39 := Aside0.mk A390
                      clear A390
                      by_cases c40 : t142 = t143
                      · rw [if_pos c40] at H
                        have c40b0 : (t142 == t143) = true := beq_iff_eq.mpr c40
                        have c40b1 : (t142 != t143) = false := bne_eq_false_iff_eq.mpr c40
                        clear c40
                        replace H := Option.bind_eq_some_iff.mp H
                        obtain ⟨t144, A410, H⟩ := H
                        replace H : ((fathomref3_Key.f (((rd l0 x3_1) / 4294967296) % 4294967296) 32).bind fun t145 => (if (IntKind.u64.wrap (t144)) = t145 then ((float_OfKey_uint32.f (((rd l0 x3_1) / 4294967296) % 4294967296)).bind fun t146 => ((fathomref3_OfKey.f (((rd l0 x3_1) / 4294967296) % 4294967296) 32).bind fun t147 => (if (IntKind.u64.wrap (t146)) = t147 then ((float_Up_uint32.f (((rd l0 x3_1) / 4294967296) % 4294967296)).bind fun t148 => ((fathomref3_Up.f (((rd l0 x3_1) / 4294967296) % 4294967296) 32).bind fun t149 => (if (IntKind.u64.wrap (t148)) = t149 then ((float_Down_uint32.f (((rd l0 x3_1) / 4294967296) % 4294967296)).bind fun t150 => ((fathomref3_Down.f (((rd l0 x3_1) / 4294967296) % 4294967296) 32).bind fun t151 => (if (IntKind.u64.wrap (t150)) = t151 then (fathomlaw3_FloatOrder.l0 kj6 l0 (wrap64 (x3_1 + 1))) else (some false)))) else (some false)))) else (some false)))) else (some false))) = some r := H
                        have A41 := Aside0.mk A410
                        clear A410
                        replace H := Option.bind_eq_some_iff.mp H
                        obtain ⟨t145, A420, H⟩ := H
                        replace H : (if (IntKind.u64.wrap (t144)) = t145 then ((float_OfKey_uint32.f (((rd l0 x3_1) / 4294967296) % 4294967296)).bind fun t146 => ((fathomref3_OfKey.f (((rd l0 x3_1) / 4294967296) % 4294967296) 32).bind fun t147 => (if (IntKind.u64.wrap (t146)) = t147 then ((float_Up_uint32.f (((rd l0 x3_1) / 4294967296) % 4294967296)).bind fun t148 => ((fathomref3_Up.f (((rd l0 x3_1) / 4294967296) % 4294967296) 32).bind fun t149 => (if (IntKind.u64.wrap (t148)) = t149 then ((float_Down_uint32.f (((rd l0 x3_1) / 4294967296) % 4294967296)).bind fun t150 => ((fathomref3_Down.f (((rd l0 x3_1) / 4294967296) % 4294967296) 32).bind fun t151 => (if (IntKind.u64.wrap (t150)) = t151 then (fathomlaw3_FloatOrder.l0 kj6 l0 (wrap64 (x3_1 + 1))) else (some false)))) else (some false)))) else (some false)))) else (some false)) = some r := H
                        have A42 := Aside0.mk A420
                        clear A420
                        by_cases c43 : (IntKind.u64.wrap (t144)) = t145
                        · rw [if_pos c43] at H
                          have c43b0 : ((IntKind.u64.wrap (t144)) == t145) = true := beq_iff_eq.mpr c43
                          have c43b1 : ((IntKind.u64.wrap (t144)) != t145) = false := bne_eq_false_iff_eq.mpr c43
                          clear c43
                          replace H := Option.bind_eq_some_iff.mp H
                          obtain ⟨t146, A440, H⟩ := H
                          replace H : ((fathomref3_OfKey.f (((rd l0 x3_1) / 4294967296) % 4294967296) 32).bind fun t147 => (if (IntKind.u64.wrap (t146)) = t147 then ((float_Up_uint32.f (((rd l0 x3_1) / 4294967296) % 4294967296)).bind fun t148 => ((fathomref3_Up.f (((rd l0 x3_1) / 4294967296) % 4294967296) 32).bind fun t149 => (if (IntKind.u64.wrap (t148)) = t149 then ((float_Down_uint32.f (((rd l0 x3_1) / 4294967296) % 4294967296)).bind fun t150 => ((fathomref3_Down.f (((rd l0 x3_1) / 4294967296) % 4294967296) 32).bind fun t151 => (if (IntKind.u64.wrap (t150)) = t151 then (fathomlaw3_FloatOrder.l0 kj6 l0 (wrap64 (x3_1 + 1))) else (some false)))) else (some false)))) else (some false))) = some r := H
                          have A44 := Aside0.mk A440
                          clear A440
                          replace H := Option.bind_eq_some_iff.mp H
                          obtain ⟨t147, A450, H⟩ := H
                          replace H : (if (IntKind.u64.wrap (t146)) = t147 then ((float_Up_uint32.f (((rd l0 x3_1) / 4294967296) % 4294967296)).bind fun t148 => ((fathomref3_Up.f (((rd l0 x3_1) / 4294967296) % 4294967296) 32).bind fun t149 => (if (IntKind.u64.wrap (t148)) = t149 then ((float_Down_uint32.f (((rd l0 x3_1) / 4294967296) % 4294967296)).bind fun t150 => ((fathomref3_Down.f (((rd l0 x3_1) / 4294967296) % 4294967296) 32).bind fun t151 => (if (IntKind.u64.wrap (t150)) = t151 then (fathomlaw3_FloatOrder.l0 kj6 l0 (wrap64 (x3_1 + 1))) else (some false)))) else (some false)))) else (some false)) = some r := H
                          have A45 := Aside0.mk A450
                          clear A450
                          by_cases c46 : (IntKind.u64.wrap (t146)) = t147
                          · rw [if_pos c46] at H
                            have c46b0 : ((IntKind.u64.wrap (t146)) == t147) = true := beq_iff_eq.mpr c46
                            have c46b1 : ((IntKind.u64.wrap (t146)) != t147) = false := bne_eq_false_iff_eq.mpr c46
                            clear c46
                            replace H := Option.bind_eq_some_iff.mp H
                            obtain ⟨t148, A470, H⟩ := H
                            replace H : ((fathomref3_Up.f (((rd l0 x3_1) / 4294967296) % 4294967296) 32).bind fun t149 => (if (IntKind.u64.wrap (t148)) = t149 then ((float_Down_uint32.f (((rd l0 x3_1) / 4294967296) % 4294967296)).bind fun t150 => ((fathomref3_Down.f (((rd l0 x3_1) / 4294967296) % 4294967296) 32).bind fun t151 => (if (IntKind.u64.wrap (t150)) = t151 then (fathomlaw3_FloatOrder.l0 kj6 l0 (wrap64 (x3_1 + 1))) else (some false)))) else (some false))) = some r := H
                            have A47 := Aside0.mk A470
                            clear A470
                            replace H := Option.bind_eq_some_iff.mp H
                            obtain ⟨t149, A480, H⟩ := H
                            replace H : (if (IntKind.u64.wrap (t148)) = t149 then ((float_Down_uint32.f (((rd l0 x3_1) / 4294967296) % 4294967296)).bind fun t150 => ((fathomref3_Down.f (((rd l0 x3_1) / 4294967296) % 4294967296) 32).bind fun t151 => (if (IntKind.u64.wrap (t150)) = t151 then (fathomlaw3_FloatOrder.l0 kj6 l0 (wrap64 (x3_1 + 1))) else (some false)))) else (some false)) = some r := H
                            have A48 := Aside0.mk A480
                            clear A480
                            by_cases c49 : (IntKind.u64.wrap (t148)) = t149
                            · rw [if_pos c49] at H
                              have c49b0 : ((IntKind.u64.wrap (t148)) == t149) = true := beq_iff_eq.mpr c49
                              have c49b1 : ((IntKind.u64.wrap (t148)) != t149) = false := bne_eq_false_iff_eq.mpr c49
                              clear c49
                              replace H := Option.bind_eq_some_iff.mp H
                              obtain ⟨t150, A500, H⟩ := H
                              replace H : ((fathomref3_Down.f (((rd l0 x3_1) / 4294967296) % 4294967296) 32).bind fun t151 => (if (IntKind.u64.wrap (t150)) = t151 then (fathomlaw3_FloatOrder.l0 kj6 l0 (wrap64 (x3_1 + 1))) else (some false))) = some r := H
                              have A50 := Aside0.mk A500
                              clear A500
                              replace H := Option.bind_eq_some_iff.mp H
                              obtain ⟨t151, A510, H⟩ := H
                              replace H : (if (IntKind.u64.wrap (t150)) = t151 then (fathomlaw3_FloatOrder.l0 kj6 l0 (wrap64 (x3_1 + 1))) else (some false)) = some r := H
                              have A51 := Aside0.mk A510
                              clear A510
                              by_cases c52 : (IntKind.u64.wrap (t150)) = t151
                              · rw [if_pos c52] at H
                                have c52b0 : ((IntKind.u64.wrap (t150)) == t151) = true := beq_iff_eq.mpr c52
                                have c52b1 : ((IntKind.u64.wrap (t150)) != t151) = false := bne_eq_false_iff_eq.mpr c52
                                clear c52
                                have H' := Aside0.mk H
                                clear H
                                go_wp2_with (first | ((with_reducible refine gate_callee (f := 18) rfl ?_); refine goesL_ (some 60) rfl rfl Try.func18 (by kernel_rfl) rfl #[.int .u32 (((rd l0 x3_1) / 4294967296) % 4294967296)] rfl (by (try simp only [List.map_toArray, List.map_cons, List.map_nil]); first | done | rfl | (simp only [List.length_drop, List.length_take]; rfl) | (simp only [gt_iff_lt, Int.natCast_pos]; rfl)) ?_; (with_reducible refine (float_Class_uint32.calls (((rd l0 x3_1) / 4294967296) % 4294967296) t142 _ A38.out).mono ?_); rintro e w53 ⟨rfl, hb⟩; refine ⟨_, rfl, ?_⟩; have n0_ := Aside0.mk (below_step (by repeat (first | (with_reducible first | exact HB.out | apply below_alloc | apply pw_below_drewN | apply below_drew1) | exact HB.out)) hb); clear HB; have HB := n0_; clear n0_; (try clear hb); (try clear hb2); (try clear hk); (try clear hi)) | ((with_reducible refine gate_callee (f := 50) rfl ?_); refine goesL_ (some 62) rfl rfl Try.func50 (by kernel_rfl) rfl #[.int .u64 (((rd l0 x3_1) / 4294967296) % 4294967296), .int .i64 32] rfl (by (try simp only [List.map_toArray, List.map_cons, List.map_nil]); first | done | rfl | (simp only [List.length_drop, List.length_take]; rfl) | (simp only [gt_iff_lt, Int.natCast_pos]; rfl)) ?_; (with_reducible refine (fathomref3_Class.calls (((rd l0 x3_1) / 4294967296) % 4294967296) 32 t143 _ A39.out).mono ?_); rintro e w' ⟨rfl, ⟨nd, rfl⟩⟩; refine ⟨_, rfl, ?_⟩) | (go_at_call 59; (with_reducible refine (float_Key_uint32.calls (((rd l0 x3_1) / 4294967296) % 4294967296) t144 _ A41.out).mono ?_); rintro e w54 ⟨rfl, hb⟩; have n0_ := Aside0.mk (below_step (by repeat (first | (with_reducible first | exact HB.out | apply below_alloc | apply pw_below_drewN | apply below_drew1) | exact HB.out)) hb); clear HB; have HB := n0_; clear n0_; (try clear hb); (try clear hb2); (try clear hk); (try clear hi)) | (go_at_call 52; (with_reducible refine (fathomref3_Key.calls (((rd l0 x3_1) / 4294967296) % 4294967296) 32 t145 _ A42.out).mono ?_); rintro e w' ⟨rfl, ⟨nd, rfl⟩⟩) | (go_at_call 60; (with_reducible refine (float_OfKey_uint32.calls (((rd l0 x3_1) / 4294967296) % 4294967296) t146 _ A44.out).mono ?_); rintro e w55 ⟨rfl, hb⟩; have n0_ := Aside0.mk (below_step (by repeat (first | (with_reducible first | exact HB.out | apply below_alloc | apply pw_below_drewN | apply below_drew1) | exact HB.out)) hb); clear HB; have HB := n0_; clear n0_; (try clear hb); (try clear hb2); (try clear hk); (try clear hi)) | (go_at_call 54; (with_reducible refine (fathomref3_OfKey.calls (((rd l0 x3_1) / 4294967296) % 4294967296) 32 t147 _ A45.out).mono ?_); rintro e w' ⟨rfl, ⟨nd, rfl⟩⟩) | (go_at_call 61; (with_reducible refine (float_Up_uint32.calls (((rd l0 x3_1) / 4294967296) % 4294967296) t148 _ A47.out).mono ?_); rintro e w56 ⟨rfl, hb⟩; have n0_ := Aside0.mk (below_step (by repeat (first | (with_reducible first | exact HB.out | apply below_alloc | apply pw_below_drewN | apply below_drew1) | exact HB.out)) hb); clear HB; have HB := n0_; clear n0_; (try clear hb); (try clear hb2); (try clear hk); (try clear hi)) | (go_at_call 56; (with_reducible refine (fathomref3_Up.calls (((rd l0 x3_1) / 4294967296) % 4294967296) 32 t149 _ A48.out).mono ?_); rintro e w' ⟨rfl, ⟨nd, rfl⟩⟩) | (go_at_call 62; (with_reducible refine (float_Down_uint32.calls (((rd l0 x3_1) / 4294967296) % 4294967296) t150 _ A50.out).mono ?_); rintro e w57 ⟨rfl, hb⟩; have n0_ := Aside0.mk (below_step (by repeat (first | (with_reducible first | exact HB.out | apply below_alloc | apply pw_below_drewN | apply below_drew1) | exact HB.out)) hb); clear HB; have HB := n0_; clear n0_; (try clear hb); (try clear hb2); (try clear hk); (try clear hi)) | (go_at_call 58; (with_reducible refine (fathomref3_Down.calls (((rd l0 x3_1) / 4294967296) % 4294967296) 32 t151 _ A51.out).mono ?_); rintro e w' ⟨rfl, ⟨nd, rfl⟩⟩))
                                go_roundg kj6
                                case measure => have := HK1.out; have := HJ1.out; have := HJ6.out; omega
                                case rel => exact ⟨(wrap64 (x3_1 + 1)), (by first | rfl | (simp; done) | (simp [*]; done)), H', ⟨by have := HK1.out; have := HJ1.out; have := HJ6.out; omega⟩, ⟨by repeat (first | (with_reducible first | exact HB.out | apply below_alloc | apply pw_below_drewN | apply below_drew1) | exact HB.out)⟩⟩
                              · rw [if_neg c52] at H
                                have c52b0 : ((IntKind.u64.wrap (t150)) == t151) = false := beq_eq_false_iff_ne.mpr c52
                                have c52b1 : ((IntKind.u64.wrap (t150)) != t151) = true := bne_iff_ne.mpr c52
                                obtain rfl := Option.some.inj H
                                go_wp2_with (first | ((with_reducible refine gate_callee (f := 18) rfl ?_); refine goesL_ (some 60) rfl rfl Try.func18 (by kernel_rfl) rfl #[.int .u32 (((rd l0 x3_1) / 4294967296) % 4294967296)] rfl (by (try simp only [List.map_toArray, List.map_cons, List.map_nil]); first | done | rfl | (simp only [List.length_drop, List.length_take]; rfl) | (simp only [gt_iff_lt, Int.natCast_pos]; rfl)) ?_; (with_reducible refine (float_Class_uint32.calls (((rd l0 x3_1) / 4294967296) % 4294967296) t142 _ A38.out).mono ?_); rintro e w58 ⟨rfl, hb⟩; refine ⟨_, rfl, ?_⟩; have n0_ := Aside0.mk (below_step (by repeat (first | (with_reducible first | exact HB.out | apply below_alloc | apply pw_below_drewN | apply below_drew1) | exact HB.out)) hb); clear HB; have HB := n0_; clear n0_; (try clear hb); (try clear hb2); (try clear hk); (try clear hi)) | ((with_reducible refine gate_callee (f := 50) rfl ?_); refine goesL_ (some 62) rfl rfl Try.func50 (by kernel_rfl) rfl #[.int .u64 (((rd l0 x3_1) / 4294967296) % 4294967296), .int .i64 32] rfl (by (try simp only [List.map_toArray, List.map_cons, List.map_nil]); first | done | rfl | (simp only [List.length_drop, List.length_take]; rfl) | (simp only [gt_iff_lt, Int.natCast_pos]; rfl)) ?_; (with_reducible refine (fathomref3_Class.calls (((rd l0 x3_1) / 4294967296) % 4294967296) 32 t143 _ A39.out).mono ?_); rintro e w' ⟨rfl, ⟨nd, rfl⟩⟩; refine ⟨_, rfl, ?_⟩) | (go_at_call 59; (with_reducible refine (float_Key_uint32.calls (((rd l0 x3_1) / 4294967296) % 4294967296) t144 _ A41.out).mono ?_); rintro e w59 ⟨rfl, hb⟩; have n0_ := Aside0.mk (below_step (by repeat (first | (with_reducible first | exact HB.out | apply below_alloc | apply pw_below_drewN | apply below_drew1) | exact HB.out)) hb); clear HB; have HB := n0_; clear n0_; (try clear hb); (try clear hb2); (try clear hk); (try clear hi)) | (go_at_call 52; (with_reducible refine (fathomref3_Key.calls (((rd l0 x3_1) / 4294967296) % 4294967296) 32 t145 _ A42.out).mono ?_); rintro e w' ⟨rfl, ⟨nd, rfl⟩⟩) | (go_at_call 60; (with_reducible refine (float_OfKey_uint32.calls (((rd l0 x3_1) / 4294967296) % 4294967296) t146 _ A44.out).mono ?_); rintro e w60 ⟨rfl, hb⟩; have n0_ := Aside0.mk (below_step (by repeat (first | (with_reducible first | exact HB.out | apply below_alloc | apply pw_below_drewN | apply below_drew1) | exact HB.out)) hb); clear HB; have HB := n0_; clear n0_; (try clear hb); (try clear hb2); (try clear hk); (try clear hi)) | (go_at_call 54; (with_reducible refine (fathomref3_OfKey.calls (((rd l0 x3_1) / 4294967296) % 4294967296) 32 t147 _ A45.out).mono ?_); rintro e w' ⟨rfl, ⟨nd, rfl⟩⟩) | (go_at_call 61; (with_reducible refine (float_Up_uint32.calls (((rd l0 x3_1) / 4294967296) % 4294967296) t148 _ A47.out).mono ?_); rintro e w61 ⟨rfl, hb⟩; have n0_ := Aside0.mk (below_step (by repeat (first | (with_reducible first | exact HB.out | apply below_alloc | apply pw_below_drewN | apply below_drew1) | exact HB.out)) hb); clear HB; have HB := n0_; clear n0_; (try clear hb); (try clear hb2); (try clear hk); (try clear hi)) | (go_at_call 56; (with_reducible refine (fathomref3_Up.calls (((rd l0 x3_1) / 4294967296) % 4294967296) 32 t149 _ A48.out).mono ?_); rintro e w' ⟨rfl, ⟨nd, rfl⟩⟩) | (go_at_call 62; (with_reducible refine (float_Down_uint32.calls (((rd l0 x3_1) / 4294967296) % 4294967296) t150 _ A50.out).mono ?_); rintro e w62 ⟨rfl, hb⟩; have n0_ := Aside0.mk (below_step (by repeat (first | (with_reducible first | exact HB.out | apply below_alloc | apply pw_below_drewN | apply below_drew1) | exact HB.out)) hb); clear HB; have HB := n0_; clear n0_; (try clear hb); (try clear hb2); (try clear hk); (try clear hi)) | (go_at_call 58; (with_reducible refine (fathomref3_Down.calls (((rd l0 x3_1) / 4294967296) % 4294967296) 32 t151 _ A51.out).mono ?_); rintro e w' ⟨rfl, ⟨nd, rfl⟩⟩))
                                go_ret
                                exact ⟨by first | rfl | (simp [errW_none, errW_some] <;> rfl) | (simp [*, errW_none, errW_some] <;> rfl), by repeat (first | (with_reducible first | exact HB.out | apply below_alloc | apply pw_below_drewN | apply below_drew1) | exact HB.out)⟩
                            · rw [if_neg c49] at H
                              have c49b0 : ((IntKind.u64.wrap (t148)) == t149) = false := beq_eq_false_iff_ne.mpr c49
                              have c49b1 : ((IntKind.u64.wrap (t148)) != t149) = true := bne_iff_ne.mpr c49
                              obtain rfl := Option.some.inj H
                              go_wp2_with (first | ((with_reducible refine gate_callee (f := 18) rfl ?_); refine goesL_ (some 60) rfl rfl Try.func18 (by kernel_rfl) rfl #[.int .u32 (((rd l0 x3_1) / 4294967296) % 4294967296)] rfl (by (try simp only [List.map_toArray, List.map_cons, List.map_nil]); first | done | rfl | (simp only [List.length_drop, List.length_take]; rfl) | (simp only [gt_iff_lt, Int.natCast_pos]; rfl)) ?_; (with_reducible refine (float_Class_uint32.calls (((rd l0 x3_1) / 4294967296) % 4294967296) t142 _ A38.out).mono ?_); rintro e w63 ⟨rfl, hb⟩; refine ⟨_, rfl, ?_⟩; have n0_ := Aside0.mk (below_step (by repeat (first | (with_reducible first | exact HB.out | apply below_alloc | apply pw_below_drewN | apply below_drew1) | exact HB.out)) hb); clear HB; have HB := n0_; clear n0_; (try clear hb); (try clear hb2); (try clear hk); (try clear hi)) | ((with_reducible refine gate_callee (f := 50) rfl ?_); refine goesL_ (some 62) rfl rfl Try.func50 (by kernel_rfl) rfl #[.int .u64 (((rd l0 x3_1) / 4294967296) % 4294967296), .int .i64 32] rfl (by (try simp only [List.map_toArray, List.map_cons, List.map_nil]); first | done | rfl | (simp only [List.length_drop, List.length_take]; rfl) | (simp only [gt_iff_lt, Int.natCast_pos]; rfl)) ?_; (with_reducible refine (fathomref3_Class.calls (((rd l0 x3_1) / 4294967296) % 4294967296) 32 t143 _ A39.out).mono ?_); rintro e w' ⟨rfl, ⟨nd, rfl⟩⟩; refine ⟨_, rfl, ?_⟩) | (go_at_call 59; (with_reducible refine (float_Key_uint32.calls (((rd l0 x3_1) / 4294967296) % 4294967296) t144 _ A41.out).mono ?_); rintro e w64 ⟨rfl, hb⟩; have n0_ := Aside0.mk (below_step (by repeat (first | (with_reducible first | exact HB.out | apply below_alloc | apply pw_below_drewN | apply below_drew1) | exact HB.out)) hb); clear HB; have HB := n0_; clear n0_; (try clear hb); (try clear hb2); (try clear hk); (try clear hi)) | (go_at_call 52; (with_reducible refine (fathomref3_Key.calls (((rd l0 x3_1) / 4294967296) % 4294967296) 32 t145 _ A42.out).mono ?_); rintro e w' ⟨rfl, ⟨nd, rfl⟩⟩) | (go_at_call 60; (with_reducible refine (float_OfKey_uint32.calls (((rd l0 x3_1) / 4294967296) % 4294967296) t146 _ A44.out).mono ?_); rintro e w65 ⟨rfl, hb⟩; have n0_ := Aside0.mk (below_step (by repeat (first | (with_reducible first | exact HB.out | apply below_alloc | apply pw_below_drewN | apply below_drew1) | exact HB.out)) hb); clear HB; have HB := n0_; clear n0_; (try clear hb); (try clear hb2); (try clear hk); (try clear hi)) | (go_at_call 54; (with_reducible refine (fathomref3_OfKey.calls (((rd l0 x3_1) / 4294967296) % 4294967296) 32 t147 _ A45.out).mono ?_); rintro e w' ⟨rfl, ⟨nd, rfl⟩⟩) | (go_at_call 61; (with_reducible refine (float_Up_uint32.calls (((rd l0 x3_1) / 4294967296) % 4294967296) t148 _ A47.out).mono ?_); rintro e w66 ⟨rfl, hb⟩; have n0_ := Aside0.mk (below_step (by repeat (first | (with_reducible first | exact HB.out | apply below_alloc | apply pw_below_drewN | apply below_drew1) | exact HB.out)) hb); clear HB; have HB := n0_; clear n0_; (try clear hb); (try clear hb2); (try clear hk); (try clear hi)) | (go_at_call 56; (with_reducible refine (fathomref3_Up.calls (((rd l0 x3_1) / 4294967296) % 4294967296) 32 t149 _ A48.out).mono ?_); rintro e w' ⟨rfl, ⟨nd, rfl⟩⟩))
                              go_ret
                              exact ⟨by first | rfl | (simp [errW_none, errW_some] <;> rfl) | (simp [*, errW_none, errW_some] <;> rfl), by repeat (first | (with_reducible first | exact HB.out | apply below_alloc | apply pw_below_drewN | apply below_drew1) | exact HB.out)⟩
                          · rw [if_neg c46] at H
                            have c46b0 : ((IntKind.u64.wrap (t146)) == t147) = false := beq_eq_false_iff_ne.mpr c46
                            have c46b1 : ((IntKind.u64.wrap (t146)) != t147) = true := bne_iff_ne.mpr c46
                            obtain rfl := Option.some.inj H
                            go_wp2_with (first | ((with_reducible refine gate_callee (f := 18) rfl ?_); refine goesL_ (some 60) rfl rfl Try.func18 (by kernel_rfl) rfl #[.int .u32 (((rd l0 x3_1) / 4294967296) % 4294967296)] rfl (by (try simp only [List.map_toArray, List.map_cons, List.map_nil]); first | done | rfl | (simp only [List.length_drop, List.length_take]; rfl) | (simp only [gt_iff_lt, Int.natCast_pos]; rfl)) ?_; (with_reducible refine (float_Class_uint32.calls (((rd l0 x3_1) / 4294967296) % 4294967296) t142 _ A38.out).mono ?_); rintro e w67 ⟨rfl, hb⟩; refine ⟨_, rfl, ?_⟩; have n0_ := Aside0.mk (below_step (by repeat (first | (with_reducible first | exact HB.out | apply below_alloc | apply pw_below_drewN | apply below_drew1) | exact HB.out)) hb); clear HB; have HB := n0_; clear n0_; (try clear hb); (try clear hb2); (try clear hk); (try clear hi)) | ((with_reducible refine gate_callee (f := 50) rfl ?_); refine goesL_ (some 62) rfl rfl Try.func50 (by kernel_rfl) rfl #[.int .u64 (((rd l0 x3_1) / 4294967296) % 4294967296), .int .i64 32] rfl (by (try simp only [List.map_toArray, List.map_cons, List.map_nil]); first | done | rfl | (simp only [List.length_drop, List.length_take]; rfl) | (simp only [gt_iff_lt, Int.natCast_pos]; rfl)) ?_; (with_reducible refine (fathomref3_Class.calls (((rd l0 x3_1) / 4294967296) % 4294967296) 32 t143 _ A39.out).mono ?_); rintro e w' ⟨rfl, ⟨nd, rfl⟩⟩; refine ⟨_, rfl, ?_⟩) | (go_at_call 59; (with_reducible refine (float_Key_uint32.calls (((rd l0 x3_1) / 4294967296) % 4294967296) t144 _ A41.out).mono ?_); rintro e w68 ⟨rfl, hb⟩; have n0_ := Aside0.mk (below_step (by repeat (first | (with_reducible first | exact HB.out | apply below_alloc | apply pw_below_drewN | apply below_drew1) | exact HB.out)) hb); clear HB; have HB := n0_; clear n0_; (try clear hb); (try clear hb2); (try clear hk); (try clear hi)) | (go_at_call 52; (with_reducible refine (fathomref3_Key.calls (((rd l0 x3_1) / 4294967296) % 4294967296) 32 t145 _ A42.out).mono ?_); rintro e w' ⟨rfl, ⟨nd, rfl⟩⟩) | (go_at_call 60; (with_reducible refine (float_OfKey_uint32.calls (((rd l0 x3_1) / 4294967296) % 4294967296) t146 _ A44.out).mono ?_); rintro e w69 ⟨rfl, hb⟩; have n0_ := Aside0.mk (below_step (by repeat (first | (with_reducible first | exact HB.out | apply below_alloc | apply pw_below_drewN | apply below_drew1) | exact HB.out)) hb); clear HB; have HB := n0_; clear n0_; (try clear hb); (try clear hb2); (try clear hk); (try clear hi)) | (go_at_call 54; (with_reducible refine (fathomref3_OfKey.calls (((rd l0 x3_1) / 4294967296) % 4294967296) 32 t147 _ A45.out).mono ?_); rintro e w' ⟨rfl, ⟨nd, rfl⟩⟩))
                            go_ret
                            exact ⟨by first | rfl | (simp [errW_none, errW_some] <;> rfl) | (simp [*, errW_none, errW_some] <;> rfl), by repeat (first | (with_reducible first | exact HB.out | apply below_alloc | apply pw_below_drewN | apply below_drew1) | exact HB.out)⟩
                        · rw [if_neg c43] at H
                          have c43b0 : ((IntKind.u64.wrap (t144)) == t145) = false := beq_eq_false_iff_ne.mpr c43
                          have c43b1 : ((IntKind.u64.wrap (t144)) != t145) = true := bne_iff_ne.mpr c43
                          obtain rfl := Option.some.inj H
                          go_wp2_with (first | ((with_reducible refine gate_callee (f := 18) rfl ?_); refine goesL_ (some 60) rfl rfl Try.func18 (by kernel_rfl) rfl #[.int .u32 (((rd l0 x3_1) / 4294967296) % 4294967296)] rfl (by (try simp only [List.map_toArray, List.map_cons, List.map_nil]); first | done | rfl | (simp only [List.length_drop, List.length_take]; rfl) | (simp only [gt_iff_lt, Int.natCast_pos]; rfl)) ?_; (with_reducible refine (float_Class_uint32.calls (((rd l0 x3_1) / 4294967296) % 4294967296) t142 _ A38.out).mono ?_); rintro e w70 ⟨rfl, hb⟩; refine ⟨_, rfl, ?_⟩; have n0_ := Aside0.mk (below_step (by repeat (first | (with_reducible first | exact HB.out | apply below_alloc | apply pw_below_drewN | apply below_drew1) | exact HB.out)) hb); clear HB; have HB := n0_; clear n0_; (try clear hb); (try clear hb2); (try clear hk); (try clear hi)) | ((with_reducible refine gate_callee (f := 50) rfl ?_); refine goesL_ (some 62) rfl rfl Try.func50 (by kernel_rfl) rfl #[.int .u64 (((rd l0 x3_1) / 4294967296) % 4294967296), .int .i64 32] rfl (by (try simp only [List.map_toArray, List.map_cons, List.map_nil]); first | done | rfl | (simp only [List.length_drop, List.length_take]; rfl) | (simp only [gt_iff_lt, Int.natCast_pos]; rfl)) ?_; (with_reducible refine (fathomref3_Class.calls (((rd l0 x3_1) / 4294967296) % 4294967296) 32 t143 _ A39.out).mono ?_); rintro e w' ⟨rfl, ⟨nd, rfl⟩⟩; refine ⟨_, rfl, ?_⟩) | (go_at_call 59; (with_reducible refine (float_Key_uint32.calls (((rd l0 x3_1) / 4294967296) % 4294967296) t144 _ A41.out).mono ?_); rintro e w71 ⟨rfl, hb⟩; have n0_ := Aside0.mk (below_step (by repeat (first | (with_reducible first | exact HB.out | apply below_alloc | apply pw_below_drewN | apply below_drew1) | exact HB.out)) hb); clear HB; have HB := n0_; clear n0_; (try clear hb); (try clear hb2); (try clear hk); (try clear hi)) | (go_at_call 52; (with_reducible refine (fathomref3_Key.calls (((rd l0 x3_1) / 4294967296) % 4294967296) 32 t145 _ A42.out).mono ?_); rintro e w' ⟨rfl, ⟨nd, rfl⟩⟩))
                          go_ret
                          exact ⟨by first | rfl | (simp [errW_none, errW_some] <;> rfl) | (simp [*, errW_none, errW_some] <;> rfl), by repeat (first | (with_reducible first | exact HB.out | apply below_alloc | apply pw_below_drewN | apply below_drew1) | exact HB.out)⟩
                      · rw [if_neg c40] at H
                        have c40b0 : (t142 == t143) = false := beq_eq_false_iff_ne.mpr c40
                        have c40b1 : (t142 != t143) = true := bne_iff_ne.mpr c40
                        obtain rfl := Option.some.inj H
                        go_wp2_with (first | ((with_reducible refine gate_callee (f := 18) rfl ?_); refine goesL_ (some 60) rfl rfl Try.func18 (by kernel_rfl) rfl #[.int .u32 (((rd l0 x3_1) / 4294967296) % 4294967296)] rfl (by (try simp only [List.map_toArray, List.map_cons, List.map_nil]); first | done | rfl | (simp only [List.length_drop, List.length_take]; rfl) | (simp only [gt_iff_lt, Int.natCast_pos]; rfl)) ?_; (with_reducible refine (float_Class_uint32.calls (((rd l0 x3_1) / 4294967296) % 4294967296) t142 _ A38.out).mono ?_); rintro e w72 ⟨rfl, hb⟩; refine ⟨_, rfl, ?_⟩; have n0_ := Aside0.mk (below_step (by repeat (first | (with_reducible first | exact HB.out | apply below_alloc | apply pw_below_drewN | apply below_drew1) | exact HB.out)) hb); clear HB; have HB := n0_; clear n0_; (try clear hb); (try clear hb2); (try clear hk); (try clear hi)) | ((with_reducible refine gate_callee (f := 50) rfl ?_); refine goesL_ (some 62) rfl rfl Try.func50 (by kernel_rfl) rfl #[.int .u64 (((rd l0 x3_1) / 4294967296) % 4294967296), .int .i64 32] rfl (by (try simp only [List.map_toArray, List.map_cons, List.map_nil]); first | done | rfl | (simp only [List.length_drop, List.length_take]; rfl) | (simp only [gt_iff_lt, Int.natCast_pos]; rfl)) ?_; (with_reducible refine (fathomref3_Class.calls (((rd l0 x3_1) / 4294967296) % 4294967296) 32 t143 _ A39.out).mono ?_); rintro e w' ⟨rfl, ⟨nd, rfl⟩⟩; refine ⟨_, rfl, ?_⟩))
                        go_ret
                        exact ⟨by first | rfl | (simp [errW_none, errW_some] <;> rfl) | (simp [*, errW_none, errW_some] <;> rfl), by repeat (first | (with_reducible first | exact HB.out | apply below_alloc | apply pw_below_drewN | apply below_drew1) | exact HB.out)⟩
              · rw [if_neg c6] at H
                exact absurd H (by simp)
            · rw [if_neg c5] at H
              exact absurd H (by simp)
          · replace c4 := Bool.eq_false_iff.mpr c4
            subst c4
            have H1 : ((fathomlaw3_wakes.f).bind fun t130 => (some t130)) = some r := by rw [if_neg (show ¬ (false = true) by decide)] at H; exact H
            clear H
            have H := H1
            clear H1
            replace H := Option.bind_eq_some_iff.mp H
            obtain ⟨t130, A730, H⟩ := H
            replace H : (some t130) = some r := H
            have A73 := Aside0.mk A730
            clear A730
            obtain rfl := Option.some.inj H
            go_wp2_with (first | ((with_reducible refine gate_callee (f := 24) rfl ?_); refine goesL_ (some 96) rfl rfl Try.func24 (by kernel_rfl) rfl #[] rfl (by (try simp only [List.map_toArray, List.map_cons, List.map_nil]); first | done | rfl | (simp only [List.length_drop, List.length_take]; rfl) | (simp only [gt_iff_lt, Int.natCast_pos]; rfl)) ?_; (with_reducible refine (fathomlaw3_wakes.calls  t130 _ A73.out).mono ?_); rintro e w74 ⟨rfl, hb⟩; refine ⟨_, rfl, ?_⟩; have n0_ := Aside0.mk (below_step (by repeat (first | (with_reducible first | exact HB.out | apply below_alloc | apply pw_below_drewN | apply below_drew1) | exact HB.out)) hb); clear HB; have HB := n0_; clear n0_; (try clear hb); (try clear hb2); (try clear hk); (try clear hi)))
            go_ret
            exact ⟨by first | rfl | (simp [errW_none, errW_some] <;> rfl) | (simp [*, errW_none, errW_some] <;> rfl), by repeat (first | (with_reducible first | exact HB.out | apply below_alloc | apply pw_below_drewN | apply below_drew1) | exact HB.out)⟩

/-- THE ONE PURE STATEMENT of fathomlaw3_FloatOrder: yours. -/
def fathomlaw3_FloatOrder.Pure : Prop := ∀ (l0 : List Int), l0.length ≤ maxLen → l0.length * 8 ≤ 140737488351232 → (∀ x ∈ l0, (Lit.int .u64 x).wf = true) → ∃ k, fathomlaw3_FloatOrder.f k l0 = some true
theorem fathomlaw3_FloatOrder.walk (P : fathomlaw3_FloatOrder.Pure) (a0 : Option Addr) (len0 cap0 : Nat) (z0 : List Int) (w : World) (w0 : (a0 = none ∧ len0 = 0 ∧ cap0 = 0 ∧ z0 = []) ∨ ∃ x, a0 = some x ∧ len0 ≤ cap0 ∧ cap0 ≤ maxLen ∧ z0.length = cap0 ∧ (∀ i, i < z0.length → w.cell? (x.add i) = some (.int .u64 (z0.getD i 0))) ∧ ∀ n ∈ z0, (Lit.int .u64 n).wf = true) (y0 : len0 * 8 ≤ 140737488351232) :
    Calls Try.prog 8 #[.slice a0 len0 cap0] w fun e w' => e = .returned (.bool true) ∧ Below w.heap.size w w' := by
  obtain ⟨l0, rfl, hr0, hm0, hw0, hc0⟩ := ReadsInt.ofRowC w0
  obtain ⟨k, h⟩ := P l0 hm0 y0 hw0
  refine (fathomlaw3_FloatOrder.calls k _ _ l0 true w (Kd.C_of_reads (d := (0 : Int)) (h1 := fun _ => rfl) hr0) hc0 h).mono ?_
  rintro e w' ⟨rfl, hd⟩
  exact ⟨rfl, hd⟩
end Go.Proofs.Ytfloeiagdegpjaa.LOrder
