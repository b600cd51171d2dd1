/- The reference's functions (Nearest, Parts): what each call comes to, as a Lean function over lists of whole numbers. The walks began as print.sh's text for these functions. -/
import Derived.Test.YtfloeiagdegpjaaR3
import Derived.Test.YtfloeiagdegpjaaR4
namespace Go.Proofs.Ytfloeiagdegpjaa.Rf
open Go.RowKit Go.Proofs.YtfloeiagdegpjaaW.PrintWords Go.Proofs.YtfloeiagdegpjaaW.PrintLast Go.Proofs.YtfloeiagdegpjaaW.PrintMore
attribute [local go_sem] max2_int min2_int max_two min_two max_three min_three max_four min_four
set_option linter.unusedVariables false
set_option linter.unusedSimpArgs false
/-! ### fathomref3_Nearest: function 94 -/
def fathomref3_Nearest.f (k : Nat) (a0 : Bool) (l1 : List Int) (l2 : List Int) (a3 : Int) (a4 : Int) : Option (Int) := if (l1.length : Int) = 0 then ((fathomref3_signed.f a0 0 a4).bind fun t224 => (some t224)) else (if a3 > 1048576 then ((fathomref3_Inf.f a4).bind fun t225 => ((fathomref3_signed.f a0 t225 a4).bind fun t226 => (some t226))) else (if a3 < (-1048576) then ((fathomref3_signed.f a0 0 a4).bind fun t227 => (some t227)) else ((fathomref3_Len.f k l1).bind fun t228 => ((fathomref3_Len.f k l2).bind fun t229 => ((fathomref3_digits.f a4).bind fun t230 => ((fathomref3_quotient.f k l1 l2 (wrap64 (a3 - (wrap64 ((wrap64 ((wrap64 ((wrap64 (t228 - t229)) + a3)) - t230)) - 3))))).bind fun bt231 => ((fathomref3_rounded.f k a0 bt231.1 (wrap64 ((wrap64 ((wrap64 ((wrap64 (t228 - t229)) + a3)) - t230)) - 3)) (decide ((bt231.2.length : Int) > 0)) a4).bind fun t237 => (some t237))))))))
theorem fathomref3_Nearest.mono : ∀ a0 a1 a2 a3 a4 k, LeO (fathomref3_Nearest.f k a0 a1 a2 a3 a4) (fathomref3_Nearest.f (k + 1) a0 a1 a2 a3 a4) := by
  intro a0 a1 a2 a3 a4 k
  unfold fathomref3_Nearest.f
  repeat' first
      | (with_reducible exact fathomref3_Len.mono _ _)
      | (with_reducible exact fathomref3_quotient.mono _ _ _ _)
      | (with_reducible exact fathomref3_rounded.mono _ _ _ _ _ _)
      | (with_reducible exact LeO.refl _)
      | (with_reducible exact LeO.none _)
      | (with_reducible refine LeO.ite ?_ ?_)
      | (with_reducible refine LeO.bind ?_ (fun _ => ?_))
      | exact fathomref3_Len.mono _ _
      | exact fathomref3_quotient.mono _ _ _ _
      | exact fathomref3_rounded.mono _ _ _ _ _ _
      | exact LeO.none _
      | refine LeO.ite ?_ ?_
      | refine LeO.bind ?_ (fun _ => ?_)
set_option maxHeartbeats 8000000 in
set_option maxRecDepth 100000 in
theorem fathomref3_Nearest.calls (k : Nat) (a0 : Bool) (A1 : Option Addr) (c1 : Nat) (l1 : List Int) (A2 : Option Addr) (c2 : Nat) (l2 : List Int) (a3 : Int) (a4 : Int) (r : Int) (w : World) (hr1 : Kd.C (Kd.int .u32) w A1 l1.length l1) (hc1 : l1.length ≤ c1) (hr2 : Kd.C (Kd.int .u32) w A2 l2.length l2) (hc2 : l2.length ≤ c2) (h : fathomref3_Nearest.f k a0 l1 l2 a3 a4 = some r) :
    Calls Try.prog 94 #[.bool a0, .slice A1 l1.length c1, .slice A2 l2.length c2, .int .i64 a3, .int .i64 a4] w fun e w' => e = .returned (.int .u64 r) ∧ Below w.heap.size w w' := by
  have HR1 := Aside0.mk hr1
  have HC1 := Aside0.mk hc1
  clear hr1 hc1
  have HR2 := Aside0.mk hr2
  have HC2 := Aside0.mk hc2
  clear hr2 hc2
  have HB := Aside0.mk (Below.refl w.heap.size w)
  have H : (if (l1.length : Int) = 0 then ((fathomref3_signed.f a0 0 a4).bind fun t224 => (some t224)) else (if a3 > 1048576 then ((fathomref3_Inf.f a4).bind fun t225 => ((fathomref3_signed.f a0 t225 a4).bind fun t226 => (some t226))) else (if a3 < (-1048576) then ((fathomref3_signed.f a0 0 a4).bind fun t227 => (some t227)) else ((fathomref3_Len.f k l1).bind fun t228 => ((fathomref3_Len.f k l2).bind fun t229 => ((fathomref3_digits.f a4).bind fun t230 => ((fathomref3_quotient.f k l1 l2 (wrap64 (a3 - (wrap64 ((wrap64 ((wrap64 ((wrap64 (t228 - t229)) + a3)) - t230)) - 3))))).bind fun bt231 => ((fathomref3_rounded.f k a0 bt231.1 (wrap64 ((wrap64 ((wrap64 ((wrap64 (t228 - t229)) + a3)) - t230)) - 3)) (decide ((bt231.2.length : Int) > 0)) a4).bind fun t237 => (some t237))))))))) = some r := h
  clear h
  by_cases c6 : (l1.length : Int) = 0
  · rw [if_pos c6] at H
    have c6b0 : ((l1.length : Int) == 0) = true := beq_iff_eq.mpr c6
    have c6b1 : ((l1.length : Int) != 0) = false := bne_eq_false_iff_eq.mpr c6
    clear c6
    replace H := Option.bind_eq_some_iff.mp H
    obtain ⟨t224, A70, H⟩ := H
    replace H : (some t224) = some r := H
    have A7 := Aside0.mk A70
    clear A70
    obtain rfl := Option.some.inj H
    go_enter Try.func94, Try.ntmps94
    go_wp2_with (first | ((with_reducible refine gate_callee (f := 107) rfl ?_); refine goesL_ (some 19) rfl rfl Try.func107 (by kernel_rfl) rfl #[.bool a0, .int .u64 0, .int .i64 a4] rfl (by (try simp only [List.map_toArray, List.map_cons, List.map_nil]); first | done | rfl | (simp only [List.length_drop, List.length_take]; rfl) | (simp only [gt_iff_lt, Int.natCast_pos]; rfl)) ?_; (with_reducible refine (fathomref3_signed.calls a0 0 a4 t224 _ A7.out).mono ?_); rintro e w' ⟨rfl, ⟨nd, rfl⟩⟩; refine ⟨_, rfl, ?_⟩))
    go_ret
    exact ⟨by first | rfl | (simp [errW_none, errW_some] <;> rfl) | (simp [*, errW_none, errW_some] <;> rfl), by repeat (first | (with_reducible first | exact HB.out | apply below_alloc | apply pw_below_drewN | apply below_drew1) | exact HB.out)⟩
  · rw [if_neg c6] at H
    have c6b0 : ((l1.length : Int) == 0) = false := beq_eq_false_iff_ne.mpr c6
    have c6b1 : ((l1.length : Int) != 0) = true := bne_iff_ne.mpr c6
    have c6b2 : ¬ (l1 = []) := fun h_ => c6 (by rw [h_]; rfl)
    by_cases c8 : a3 > 1048576
    · rw [if_pos c8] at H
      have c8b0 : decide (1048576 < a3) = true := decide_eq_true c8
      clear c8
      replace H := Option.bind_eq_some_iff.mp H
      obtain ⟨t225, A90, H⟩ := H
      replace H : ((fathomref3_signed.f a0 t225 a4).bind fun t226 => (some t226)) = some r := H
      have A9 := Aside0.mk A90
      clear A90
      replace H := Option.bind_eq_some_iff.mp H
      obtain ⟨t226, A100, H⟩ := H
      replace H : (some t226) = some r := H
      have A10 := Aside0.mk A100
      clear A100
      obtain rfl := Option.some.inj H
      go_enter Try.func94, Try.ntmps94
      go_wp2_with (first | ((with_reducible refine gate_callee (f := 117) rfl ?_); refine goesL_ (some 24) rfl rfl Try.func117 (by kernel_rfl) rfl #[.int .i64 a4] rfl (by (try simp only [List.map_toArray, List.map_cons, List.map_nil]); first | done | rfl | (simp only [List.length_drop, List.length_take]; rfl) | (simp only [gt_iff_lt, Int.natCast_pos]; rfl)) ?_; (with_reducible refine (fathomref3_Inf.calls a4 t225 _ A9.out).mono ?_); rintro e w' ⟨rfl, ⟨nd, rfl⟩⟩; refine ⟨_, rfl, ?_⟩) | ((with_reducible refine gate_callee (f := 107) rfl ?_); refine goesL_ (some 26) rfl rfl Try.func107 (by kernel_rfl) rfl #[.bool a0, .int .u64 t225, .int .i64 a4] rfl (by (try simp only [List.map_toArray, List.map_cons, List.map_nil]); first | done | rfl | (simp only [List.length_drop, List.length_take]; rfl) | (simp only [gt_iff_lt, Int.natCast_pos]; rfl)) ?_; (with_reducible refine (fathomref3_signed.calls a0 t225 a4 t226 _ A10.out).mono ?_); rintro e w' ⟨rfl, ⟨nd, rfl⟩⟩; refine ⟨_, rfl, ?_⟩))
      go_ret
      exact ⟨by first | rfl | (simp [errW_none, errW_some] <;> rfl) | (simp [*, errW_none, errW_some] <;> rfl), by repeat (first | (with_reducible first | exact HB.out | apply below_alloc | apply pw_below_drewN | apply below_drew1) | exact HB.out)⟩
    · rw [if_neg c8] at H
      have c8b0 : decide (1048576 < a3) = false := decide_eq_false c8
      clear c8
      by_cases c11 : a3 < (-1048576)
      · rw [if_pos c11] at H
        have c11b0 : decide (a3 < (-1048576)) = true := decide_eq_true c11
        clear c11
        replace H := Option.bind_eq_some_iff.mp H
        obtain ⟨t227, A120, H⟩ := H
        replace H : (some t227) = some r := H
        have A12 := Aside0.mk A120
        clear A120
        obtain rfl := Option.some.inj H
        go_enter Try.func94, Try.ntmps94
        go_wp2_with (first | ((with_reducible refine gate_callee (f := 107) rfl ?_); refine goesL_ (some 31) rfl rfl Try.func107 (by kernel_rfl) rfl #[.bool a0, .int .u64 0, .int .i64 a4] rfl (by (try simp only [List.map_toArray, List.map_cons, List.map_nil]); first | done | rfl | (simp only [List.length_drop, List.length_take]; rfl) | (simp only [gt_iff_lt, Int.natCast_pos]; rfl)) ?_; (with_reducible refine (fathomref3_signed.calls a0 0 a4 t227 _ A12.out).mono ?_); rintro e w' ⟨rfl, ⟨nd, rfl⟩⟩; refine ⟨_, rfl, ?_⟩))
        go_ret
        exact ⟨by first | rfl | (simp [errW_none, errW_some] <;> rfl) | (simp [*, errW_none, errW_some] <;> rfl), by repeat (first | (with_reducible first | exact HB.out | apply below_alloc | apply pw_below_drewN | apply below_drew1) | exact HB.out)⟩
      · rw [if_neg c11] at H
        have c11b0 : decide (a3 < (-1048576)) = false := decide_eq_false c11
        clear c11
        replace H := Option.bind_eq_some_iff.mp H
        obtain ⟨t228, A130, H⟩ := H
        replace H : ((fathomref3_Len.f k l2).bind fun t229 => ((fathomref3_digits.f a4).bind fun t230 => ((fathomref3_quotient.f k l1 l2 (wrap64 (a3 - (wrap64 ((wrap64 ((wrap64 ((wrap64 (t228 - t229)) + a3)) - t230)) - 3))))).bind fun bt231 => ((fathomref3_rounded.f k a0 bt231.1 (wrap64 ((wrap64 ((wrap64 ((wrap64 (t228 - t229)) + a3)) - t230)) - 3)) (decide ((bt231.2.length : Int) > 0)) a4).bind fun t237 => (some t237))))) = some r := H
        have A13 := Aside0.mk A130
        clear A130
        replace H := Option.bind_eq_some_iff.mp H
        obtain ⟨t229, A140, H⟩ := H
        replace H : ((fathomref3_digits.f a4).bind fun t230 => ((fathomref3_quotient.f k l1 l2 (wrap64 (a3 - (wrap64 ((wrap64 ((wrap64 ((wrap64 (t228 - t229)) + a3)) - t230)) - 3))))).bind fun bt231 => ((fathomref3_rounded.f k a0 bt231.1 (wrap64 ((wrap64 ((wrap64 ((wrap64 (t228 - t229)) + a3)) - t230)) - 3)) (decide ((bt231.2.length : Int) > 0)) a4).bind fun t237 => (some t237)))) = some r := H
        have A14 := Aside0.mk A140
        clear A140
        replace H := Option.bind_eq_some_iff.mp H
        obtain ⟨t230, A150, H⟩ := H
        replace H : ((fathomref3_quotient.f k l1 l2 (wrap64 (a3 - (wrap64 ((wrap64 ((wrap64 ((wrap64 (t228 - t229)) + a3)) - t230)) - 3))))).bind fun bt231 => ((fathomref3_rounded.f k a0 bt231.1 (wrap64 ((wrap64 ((wrap64 ((wrap64 (t228 - t229)) + a3)) - t230)) - 3)) (decide ((bt231.2.length : Int) > 0)) a4).bind fun t237 => (some t237))) = some r := H
        have A15 := Aside0.mk A150
        clear A150
        replace H := Option.bind_eq_some_iff.mp H
        obtain ⟨⟨t231, t234⟩, A160, H⟩ := H
        replace H : ((fathomref3_rounded.f k a0 t231 (wrap64 ((wrap64 ((wrap64 ((wrap64 (t228 - t229)) + a3)) - t230)) - 3)) (decide ((t234.length : Int) > 0)) a4).bind fun t237 => (some t237)) = some r := H
        have A16 := Aside0.mk A160
        clear A160
        replace H := Option.bind_eq_some_iff.mp H
        obtain ⟨t237, A170, H⟩ := H
        replace H : (some t237) = some r := H
        have A17 := Aside0.mk A170
        clear A170
        obtain rfl := Option.some.inj H
        go_enter Try.func94, Try.ntmps94
        go_wp2_with (first | ((with_reducible refine gate_callee (f := 136) rfl ?_); refine goesL_ (some 33) rfl rfl Try.func136 (by kernel_rfl) rfl #[.slice A1 l1.length c1] rfl (by (try simp only [List.map_toArray, List.map_cons, List.map_nil]); first | done | rfl | (simp only [List.length_drop, List.length_take]; rfl) | (simp only [gt_iff_lt, Int.natCast_pos]; rfl)) ?_; (with_reducible refine (fathomref3_Len.calls k _ _ l1 t228 _ ?side1 ?side2 A13.out).mono ?_); (case side1 => repeat (first | exact HR1.out | (with_reducible refine Kd.C_alloc ?_ _) | (with_reducible refine Kd.C_drewN ?_ _) | (with_reducible refine Kd.C_drew ?_))); (case side2 => exact HC1.out); rintro e w' ⟨rfl, ⟨nd, rfl⟩⟩; refine ⟨_, rfl, ?_⟩) | ((with_reducible refine gate_callee (f := 136) rfl ?_); refine goesL_ (some 35) rfl rfl Try.func136 (by kernel_rfl) rfl #[.slice A2 l2.length c2] rfl (by (try simp only [List.map_toArray, List.map_cons, List.map_nil]); first | done | rfl | (simp only [List.length_drop, List.length_take]; rfl) | (simp only [gt_iff_lt, Int.natCast_pos]; rfl)) ?_; (with_reducible refine (fathomref3_Len.calls k _ _ l2 t229 _ ?side1 ?side2 A14.out).mono ?_); (case side1 => repeat (first | exact HR2.out | (with_reducible refine Kd.C_alloc ?_ _) | (with_reducible refine Kd.C_drewN ?_ _) | (with_reducible refine Kd.C_drew ?_))); (case side2 => exact HC2.out); rintro e w' ⟨rfl, ⟨nd, rfl⟩⟩; refine ⟨_, rfl, ?_⟩) | ((with_reducible refine gate_callee (f := 116) rfl ?_); refine goesL_ (some 40) rfl rfl Try.func116 (by kernel_rfl) rfl #[.int .i64 a4] rfl (by (try simp only [List.map_toArray, List.map_cons, List.map_nil]); first | done | rfl | (simp only [List.length_drop, List.length_take]; rfl) | (simp only [gt_iff_lt, Int.natCast_pos]; rfl)) ?_; (with_reducible refine (fathomref3_digits.calls a4 t230 _ A15.out).mono ?_); rintro e w' ⟨rfl, ⟨nd, rfl⟩⟩; refine ⟨_, rfl, ?_⟩) | ((with_reducible refine gate_callee (f := 137) rfl ?_); refine goesL_ (some 49) rfl rfl Try.func137 (by kernel_rfl) rfl #[.slice A1 l1.length c1, .slice A2 l2.length c2, .int .i64 (wrap64 (a3 - (wrap64 ((wrap64 ((wrap64 ((wrap64 (t228 - t229)) + a3)) - t230)) - 3))))] rfl (by (try simp only [List.map_toArray, List.map_cons, List.map_nil]); first | done | rfl | (simp only [List.length_drop, List.length_take]; rfl) | (simp only [gt_iff_lt, Int.natCast_pos]; rfl)) ?_; (with_reducible refine (fathomref3_quotient.calls k (fun k_ => k_ < w.heap.size) _ _ l1 _ _ l2 (wrap64 (a3 - (wrap64 ((wrap64 ((wrap64 ((wrap64 (t228 - t229)) + a3)) - t230)) - 3)))) t231 t234 _ ?side1 ?side2 ?side3 A16.out).mono ?_); (case side1 => exact Kd.V_mk HC1.out (Kd.F_below (Kd.C_F (Kd.heap_int .u32) HR1.out) (by repeat (first | (with_reducible first | exact HB.out | apply below_alloc | apply pw_below_drewN | apply below_drew1) | exact HB.out)))); (case side2 => repeat (first | exact HR2.out | (with_reducible refine Kd.C_alloc ?_ _) | (with_reducible refine Kd.C_drewN ?_ _) | (with_reducible refine Kd.C_drew ?_))); (case side3 => exact HC2.out); rintro e w18 ⟨v232, v235, rfl, ho0, ho1, hb⟩; refine ⟨_, rfl, ?_⟩; have n0_ := Aside0.mk (Kd.R_lower (Kd.R_mono (ok' := fun k_ => True) ho0 (fun _ hk_ => trivial)) (below_size (by repeat (first | (with_reducible first | exact HB.out | apply below_alloc | apply pw_below_drewN | apply below_drew1) | exact HB.out)))); have n1_ := Aside0.mk (Kd.V_lower (Kd.V_mono (ok' := fun k_ => some k_ ≠ (v232 : Value).ownBlock) ho1 (fun k_ hk_ => hk_.2)) (below_size (by repeat (first | (with_reducible first | exact HB.out | apply below_alloc | apply pw_below_drewN | apply below_drew1) | exact HB.out)))); have n2_ := Aside0.mk (below_step (by repeat (first | (with_reducible first | exact HB.out | apply below_alloc | apply pw_below_drewN | apply below_drew1) | exact HB.out)) hb); clear HB; have HO233 := n0_; have HO236 := n1_; have HB := n2_; clear n0_ n1_ n2_; (try clear hb); (try clear hb2); (try clear hk); (try clear hi); (try clear ho0); (try clear ho1); obtain ⟨Ao19, co19, eo19⟩ := Kd.V_slice HO236.out; subst eo19; obtain ⟨Ao20, co20, eo20⟩ := Kd.R_slice HO233.out; subst eo20) | ((with_reducible refine gate_callee (f := 138) rfl ?_); refine goesL_ (some 59) rfl rfl Try.func138 (by kernel_rfl) rfl #[.bool a0, .slice Ao20 t231.length co20, .int .i64 (wrap64 ((wrap64 ((wrap64 ((wrap64 (t228 - t229)) + a3)) - t230)) - 3)), .bool (decide ((t234.length : Int) > 0)), .int .i64 a4] rfl (by (try simp only [List.map_toArray, List.map_cons, List.map_nil]); first | done | rfl | (simp only [List.length_drop, List.length_take]; rfl) | (simp only [gt_iff_lt, Int.natCast_pos]; rfl)) ?_; (with_reducible refine (fathomref3_rounded.calls k a0 _ _ t231 (wrap64 ((wrap64 ((wrap64 ((wrap64 (t228 - t229)) + a3)) - t230)) - 3)) (decide ((t234.length : Int) > 0)) a4 t237 _ ?side1 ?side2 A17.out).mono ?_); (case side1 => repeat (first | exact (Kd.R_reads' HO233.out).2.2 | (with_reducible refine Kd.C_alloc ?_ _) | (with_reducible refine Kd.C_drewN ?_ _) | (with_reducible refine Kd.C_drew ?_))); (case side2 => exact (Kd.R_reads' HO233.out).2.1); rintro e w21 ⟨rfl, hb⟩; refine ⟨_, rfl, ?_⟩; have n0_ := Aside0.mk (Kd.R_below (by (with_reducible repeat (first | apply Kd.R_alloc | apply Kd.R_drewN | apply Kd.R_drew)); exact HO233.out) hb); have n1_ := Aside0.mk (Kd.V_below (by (with_reducible repeat (first | apply Kd.V_alloc | apply Kd.V_drewN | apply Kd.V_drew)); exact HO236.out) hb); have n2_ := Aside0.mk (below_step (by repeat (first | (with_reducible first | exact HB.out | apply below_alloc | apply pw_below_drewN | apply below_drew1) | exact HB.out)) hb); clear HO233; clear HO236; clear HB; have HO233 := n0_; have HO236 := n1_; have HB := n2_; clear n0_ n1_ n2_; (try clear hb); (try clear hb2); (try clear hk); (try clear hi)))
        go_ret
        exact ⟨by first | rfl | (simp [errW_none, errW_some] <;> rfl) | (simp [*, errW_none, errW_some] <;> rfl), by repeat (first | (with_reducible first | exact HB.out | apply below_alloc | apply pw_below_drewN | apply below_drew1) | exact HB.out)⟩

/-! ### fathomref3_Parts: function 108 -/
def fathomref3_Parts.f (k : Nat) (a0 : Int) (a1 : Int) : Option (Bool × List Int × Int) := (fathomref3_Abs.f a0 a1).bind fun t244 => ((fathomref3_digits.f a1).bind fun t245 => (if 0 ≤ (IntKind.u64.wrap (wrap64 (t245 - 1))) then (if (shr .u64 t244 (IntKind.u64.wrap (wrap64 (t245 - 1)))) = 0 then ((fathomref3_Neg.f a0 a1).bind fun t246 => ((fathomref3_Of.f k (Go.bits .and .u64 t244 (IntKind.u64.wrap ((shl .u64 1 (IntKind.u64.wrap (wrap64 (t245 - 1)))) - 1)))).bind fun t247 => ((fathomref3_least.f a1).bind fun t250 => (some (t246, t247, t250))))) else ((fathomref3_Neg.f a0 a1).bind fun t251 => ((fathomref3_Of.f k (Go.bits .or .u64 (Go.bits .and .u64 t244 (IntKind.u64.wrap ((shl .u64 1 (IntKind.u64.wrap (wrap64 (t245 - 1)))) - 1))) (shl .u64 1 (IntKind.u64.wrap (wrap64 (t245 - 1)))))).bind fun t252 => ((fathomref3_least.f a1).bind fun t255 => (some (t251, t252, wrap64 ((wrap64 (t255 + (wrap64 (shr .u64 t244 (IntKind.u64.wrap (wrap64 (t245 - 1))))))) - 1))))))) else (none)))
theorem fathomref3_Parts.mono : ∀ a0 a1 k, LeO (fathomref3_Parts.f k a0 a1) (fathomref3_Parts.f (k + 1) a0 a1) := by
  intro a0 a1 k
  unfold fathomref3_Parts.f
  repeat' first
      | (with_reducible exact fathomref3_Of.mono _ _)
      | (with_reducible exact LeO.refl _)
      | (with_reducible exact LeO.none _)
      | (with_reducible refine LeO.ite ?_ ?_)
      | (with_reducible refine LeO.bind ?_ (fun _ => ?_))
      | exact fathomref3_Of.mono _ _
      | exact LeO.none _
      | refine LeO.ite ?_ ?_
      | refine LeO.bind ?_ (fun _ => ?_)
set_option maxHeartbeats 8000000 in
set_option maxRecDepth 100000 in
theorem fathomref3_Parts.calls (k : Nat) (a0 : Int) (a1 : Int) (r1 : Bool) (r2 : List Int) (r3 : Int) (w : World) (h : fathomref3_Parts.f k a0 a1 = some (r1, r2, r3)) :
    Calls Try.prog 108 #[.int .u64 a0, .int .i64 a1] w fun e w' => ∃ v1_ : Value, e = .returned (.tuple #[.bool r1, v1_, .int .i64 r3]) ∧ Kd.R (Kd.int .u32) 25 w' w.heap.size (fun _ => True) v1_ r2 ∧ Below w.heap.size w w' := by
  have HB := Aside0.mk (Below.refl w.heap.size w)
  have H : ((fathomref3_Abs.f a0 a1).bind fun t244 => ((fathomref3_digits.f a1).bind fun t245 => (if 0 ≤ (IntKind.u64.wrap (wrap64 (t245 - 1))) then (if (shr .u64 t244 (IntKind.u64.wrap (wrap64 (t245 - 1)))) = 0 then ((fathomref3_Neg.f a0 a1).bind fun t246 => ((fathomref3_Of.f k (Go.bits .and .u64 t244 (IntKind.u64.wrap ((shl .u64 1 (IntKind.u64.wrap (wrap64 (t245 - 1)))) - 1)))).bind fun t247 => ((fathomref3_least.f a1).bind fun t250 => (some (t246, t247, t250))))) else ((fathomref3_Neg.f a0 a1).bind fun t251 => ((fathomref3_Of.f k (Go.bits .or .u64 (Go.bits .and .u64 t244 (IntKind.u64.wrap ((shl .u64 1 (IntKind.u64.wrap (wrap64 (t245 - 1)))) - 1))) (shl .u64 1 (IntKind.u64.wrap (wrap64 (t245 - 1)))))).bind fun t252 => ((fathomref3_least.f a1).bind fun t255 => (some (t251, t252, wrap64 ((wrap64 (t255 + (wrap64 (shr .u64 t244 (IntKind.u64.wrap (wrap64 (t245 - 1))))))) - 1))))))) else (none)))) = some (r1, r2, r3) := h
  clear h
  replace H := Option.bind_eq_some_iff.mp H
  obtain ⟨t244, A30, H⟩ := H
  replace H : ((fathomref3_digits.f a1).bind fun t245 => (if 0 ≤ (IntKind.u64.wrap (wrap64 (t245 - 1))) then (if (shr .u64 t244 (IntKind.u64.wrap (wrap64 (t245 - 1)))) = 0 then ((fathomref3_Neg.f a0 a1).bind fun t246 => ((fathomref3_Of.f k (Go.bits .and .u64 t244 (IntKind.u64.wrap ((shl .u64 1 (IntKind.u64.wrap (wrap64 (t245 - 1)))) - 1)))).bind fun t247 => ((fathomref3_least.f a1).bind fun t250 => (some (t246, t247, t250))))) else ((fathomref3_Neg.f a0 a1).bind fun t251 => ((fathomref3_Of.f k (Go.bits .or .u64 (Go.bits .and .u64 t244 (IntKind.u64.wrap ((shl .u64 1 (IntKind.u64.wrap (wrap64 (t245 - 1)))) - 1))) (shl .u64 1 (IntKind.u64.wrap (wrap64 (t245 - 1)))))).bind fun t252 => ((fathomref3_least.f a1).bind fun t255 => (some (t251, t252, wrap64 ((wrap64 (t255 + (wrap64 (shr .u64 t244 (IntKind.u64.wrap (wrap64 (t245 - 1))))))) - 1))))))) else (none))) = some (r1, r2, r3) := H
  have A3 := Aside0.mk A30
  clear A30
  replace H := Option.bind_eq_some_iff.mp H
  obtain ⟨t245, A40, H⟩ := H
  replace H : (if 0 ≤ (IntKind.u64.wrap (wrap64 (t245 - 1))) then (if (shr .u64 t244 (IntKind.u64.wrap (wrap64 (t245 - 1)))) = 0 then ((fathomref3_Neg.f a0 a1).bind fun t246 => ((fathomref3_Of.f k (Go.bits .and .u64 t244 (IntKind.u64.wrap ((shl .u64 1 (IntKind.u64.wrap (wrap64 (t245 - 1)))) - 1)))).bind fun t247 => ((fathomref3_least.f a1).bind fun t250 => (some (t246, t247, t250))))) else ((fathomref3_Neg.f a0 a1).bind fun t251 => ((fathomref3_Of.f k (Go.bits .or .u64 (Go.bits .and .u64 t244 (IntKind.u64.wrap ((shl .u64 1 (IntKind.u64.wrap (wrap64 (t245 - 1)))) - 1))) (shl .u64 1 (IntKind.u64.wrap (wrap64 (t245 - 1)))))).bind fun t252 => ((fathomref3_least.f a1).bind fun t255 => (some (t251, t252, wrap64 ((wrap64 (t255 + (wrap64 (shr .u64 t244 (IntKind.u64.wrap (wrap64 (t245 - 1))))))) - 1))))))) else (none)) = some (r1, r2, r3) := H
  have A4 := Aside0.mk A40
  clear A40
  obtain ⟨ji5, hji5⟩ : ∃ j_ : Int, (IntKind.u64.wrap (wrap64 (t245 - 1))) = j_ := ⟨_, rfl⟩
  replace H : (if 0 ≤ (ji5) then (if (shr .u64 t244 (ji5)) = 0 then ((fathomref3_Neg.f a0 a1).bind fun t246 => ((fathomref3_Of.f k (Go.bits .and .u64 t244 (IntKind.u64.wrap ((shl .u64 1 (ji5)) - 1)))).bind fun t247 => ((fathomref3_least.f a1).bind fun t250 => (some (t246, t247, t250))))) else ((fathomref3_Neg.f a0 a1).bind fun t251 => ((fathomref3_Of.f k (Go.bits .or .u64 (Go.bits .and .u64 t244 (IntKind.u64.wrap ((shl .u64 1 (ji5)) - 1))) (shl .u64 1 (ji5)))).bind fun t252 => ((fathomref3_least.f a1).bind fun t255 => (some (t251, t252, wrap64 ((wrap64 (t255 + (wrap64 (shr .u64 t244 (ji5))))) - 1))))))) else (none)) = some (r1, r2, r3) := by first | (rw [hji5] at H; exact H) | (simp only [hji5] at H ⊢; exact H)
  (try rw [hji5] at A3)
  (try rw [hji5] at A4)
  by_cases c6 : 0 ≤ (ji5)
  · rw [if_pos c6] at H
    have c6b0 := eq_true c6
    have c6b1 : decide (0 ≤ (ji5)) = true := decide_eq_true c6
    clear c6
    obtain ⟨ji7, hji7⟩ : ∃ j_ : Int, (shr .u64 t244 (ji5)) = j_ := ⟨_, rfl⟩
    replace H : (if (ji7) = 0 then ((fathomref3_Neg.f a0 a1).bind fun t246 => ((fathomref3_Of.f k (Go.bits .and .u64 t244 (IntKind.u64.wrap ((shl .u64 1 (ji5)) - 1)))).bind fun t247 => ((fathomref3_least.f a1).bind fun t250 => (some (t246, t247, t250))))) else ((fathomref3_Neg.f a0 a1).bind fun t251 => ((fathomref3_Of.f k (Go.bits .or .u64 (Go.bits .and .u64 t244 (IntKind.u64.wrap ((shl .u64 1 (ji5)) - 1))) (shl .u64 1 (ji5)))).bind fun t252 => ((fathomref3_least.f a1).bind fun t255 => (some (t251, t252, wrap64 ((wrap64 (t255 + (wrap64 (ji7)))) - 1))))))) = some (r1, r2, r3) := by first | (rw [hji7] at H; exact H) | (simp only [hji7] at H ⊢; exact H)
    (try rw [hji7] at A3)
    (try rw [hji7] at A4)
    have hji7_ : (t244 / 2 ^ min (ji5).toNat 64) = ji7 := hji7
    have hji7z : (ji5) ≤ 64 → (t244 / 2 ^ (ji5).toNat) = ji7 := shr_small hji7
    have c8b0 := eq_true (of_decide_eq_true (by first | (with_reducible assumption) | assumption) : 0 ≤ (ji5))
    obtain ⟨ji9, hji9⟩ : ∃ j_ : Int, (shl .u64 1 (ji5)) = j_ := ⟨_, rfl⟩
    replace H : (if (ji7) = 0 then ((fathomref3_Neg.f a0 a1).bind fun t246 => ((fathomref3_Of.f k (Go.bits .and .u64 t244 (IntKind.u64.wrap ((ji9) - 1)))).bind fun t247 => ((fathomref3_least.f a1).bind fun t250 => (some (t246, t247, t250))))) else ((fathomref3_Neg.f a0 a1).bind fun t251 => ((fathomref3_Of.f k (Go.bits .or .u64 (Go.bits .and .u64 t244 (IntKind.u64.wrap ((ji9) - 1))) (ji9))).bind fun t252 => ((fathomref3_least.f a1).bind fun t255 => (some (t251, t252, wrap64 ((wrap64 (t255 + (wrap64 (ji7)))) - 1))))))) = some (r1, r2, r3) := by first | (rw [hji9] at H; exact H) | (simp only [hji9] at H ⊢; exact H)
    (try rw [hji9] at A3)
    (try rw [hji9] at A4)
    have hji9_ : (IntKind.u64.wrap (1 * 2 ^ min (ji5).toNat 64)) = ji9 := hji9
    have hji9z : (ji5) ≤ 64 → (IntKind.u64.wrap (1 * 2 ^ (ji5).toNat)) = ji9 := shl_small hji9
    have hji9u : (IntKind.u64.wrap (2 ^ min (ji5).toNat 64)) = ji9 := by have h_ := hji9_; rw [Int.one_mul] at h_; exact h_
    have hji9v : (ji5) ≤ 64 → (IntKind.u64.wrap (2 ^ (ji5).toNat)) = ji9 := fun hle_ => by have h_ := hji9z hle_; rw [Int.one_mul] at h_; exact h_
    by_cases c10 : (ji7) = 0
    · rw [if_pos c10] at H
      have c10b0 : ((ji7) == 0) = true := beq_iff_eq.mpr c10
      have c10b1 : ((ji7) != 0) = false := bne_eq_false_iff_eq.mpr c10
      clear c10
      replace H := Option.bind_eq_some_iff.mp H
      obtain ⟨t246, A110, H⟩ := H
      replace H : ((fathomref3_Of.f k (Go.bits .and .u64 t244 (IntKind.u64.wrap ((ji9) - 1)))).bind fun t247 => ((fathomref3_least.f a1).bind fun t250 => (some (t246, t247, t250)))) = some (r1, r2, r3) := H
      have A11 := Aside0.mk A110
      clear A110
      replace H := Option.bind_eq_some_iff.mp H
      obtain ⟨t247, A120, H⟩ := H
      replace H : ((fathomref3_least.f a1).bind fun t250 => (some (t246, t247, t250))) = some (r1, r2, r3) := H
      have A12 := Aside0.mk A120
      clear A120
      replace H := Option.bind_eq_some_iff.mp H
      obtain ⟨t250, A130, H⟩ := H
      replace H : (some (t246, t247, t250)) = some (r1, r2, r3) := H
      have A13 := Aside0.mk A130
      clear A130
      simp only [Option.some.injEq, Prod.mk.injEq] at H
      obtain ⟨rfl, rfl, rfl⟩ := H
      go_enter Try.func108, Try.ntmps108
      go_wp2_with (first | ((with_reducible refine gate_callee (f := 115) rfl ?_); refine goesL_ (some 13) rfl rfl Try.func115 (by kernel_rfl) rfl #[.int .u64 a0, .int .i64 a1] rfl (by (try simp only [List.map_toArray, List.map_cons, List.map_nil]); first | done | rfl | (simp only [List.length_drop, List.length_take]; rfl) | (simp only [gt_iff_lt, Int.natCast_pos]; rfl)) ?_; (with_reducible refine (fathomref3_Abs.calls a0 a1 t244 _ A3.out).mono ?_); rintro e w' ⟨rfl, ⟨nd, rfl⟩⟩; refine ⟨_, rfl, ?_⟩) | ((with_reducible refine gate_callee (f := 116) rfl ?_); refine goesL_ (some 15) rfl rfl Try.func116 (by kernel_rfl) rfl #[.int .i64 a1] rfl (by (try simp only [List.map_toArray, List.map_cons, List.map_nil]); first | done | rfl | (simp only [List.length_drop, List.length_take]; rfl) | (simp only [gt_iff_lt, Int.natCast_pos]; rfl)) ?_; (with_reducible refine (fathomref3_digits.calls a1 t245 _ A4.out).mono ?_); rintro e w' ⟨rfl, ⟨nd, rfl⟩⟩; refine ⟨_, rfl, ?_⟩) | ((with_reducible refine gate_callee (f := 98) rfl ?_); refine goesL_ (some 30) rfl rfl Try.func98 (by kernel_rfl) rfl #[.int .u64 a0, .int .i64 a1] rfl (by (try simp only [List.map_toArray, List.map_cons, List.map_nil]); first | done | rfl | (simp only [List.length_drop, List.length_take]; rfl) | (simp only [gt_iff_lt, Int.natCast_pos]; rfl)) ?_; (with_reducible refine (fathomref3_Neg.calls a0 a1 t246 _ A11.out).mono ?_); rintro e w' ⟨rfl, ⟨nd, rfl⟩⟩; refine ⟨_, rfl, ?_⟩) | ((with_reducible refine gate_callee (f := 89) rfl ?_); refine goesL_ (some 32) rfl rfl Try.func89 (by kernel_rfl) rfl #[.int .u64 (Go.bits .and .u64 t244 (IntKind.u64.wrap ((ji9) - 1)))] rfl (by (try simp only [List.map_toArray, List.map_cons, List.map_nil]); first | done | (simp only [hji9]; rfl) | rfl | (simp only [List.length_drop, List.length_take]; rfl) | (simp only [gt_iff_lt, Int.natCast_pos]; rfl)) ?_; (with_reducible refine (fathomref3_Of.calls k (Go.bits .and .u64 t244 (IntKind.u64.wrap ((ji9) - 1))) t247 _ A12.out).mono ?_); rintro e w14 ⟨v248, rfl, ho0, hb⟩; refine ⟨_, rfl, ?_⟩; have n0_ := Aside0.mk (Kd.R_lower ho0 (below_size (by repeat (first | (with_reducible first | exact HB.out | apply below_alloc | apply pw_below_drewN | apply below_drew1) | exact HB.out)))); have n1_ := Aside0.mk (below_step (by repeat (first | (with_reducible first | exact HB.out | apply below_alloc | apply pw_below_drewN | apply below_drew1) | exact HB.out)) hb); clear HB; have HO249 := n0_; have HB := n1_; clear n0_ n1_; (try clear hb); (try clear hb2); (try clear hk); (try clear hi); (try clear ho0)) | ((with_reducible refine gate_callee (f := 146) rfl ?_); refine goesL_ (some 34) rfl rfl Try.func146 (by kernel_rfl) rfl #[.int .i64 a1] rfl (by (try simp only [List.map_toArray, List.map_cons, List.map_nil]); first | done | rfl | (simp only [List.length_drop, List.length_take]; rfl) | (simp only [gt_iff_lt, Int.natCast_pos]; rfl)) ?_; (with_reducible refine (fathomref3_least.calls a1 t250 _ A13.out).mono ?_); rintro e w' ⟨rfl, ⟨nd, rfl⟩⟩; refine ⟨_, rfl, ?_⟩))
      go_ret3
      exact ⟨_, by first | rfl | (simp [errW_none, errW_some] <;> rfl) | (simp only [← hji5, ← hji7, ← hji9]; first | rfl | (simp [errW_none, errW_some] <;> rfl)) | (simp [*, errW_none, errW_some] <;> rfl), by (with_reducible repeat (first | apply Kd.R_alloc | apply Kd.R_drewN | apply Kd.R_drew)); exact HO249.out, by repeat (first | (with_reducible first | exact HB.out | apply below_alloc | apply pw_below_drewN | apply below_drew1) | exact HB.out)⟩
    · rw [if_neg c10] at H
      have c10b0 : ((ji7) == 0) = false := beq_eq_false_iff_ne.mpr c10
      have c10b1 : ((ji7) != 0) = true := bne_iff_ne.mpr c10
      replace H := Option.bind_eq_some_iff.mp H
      obtain ⟨t251, A150, H⟩ := H
      replace H : ((fathomref3_Of.f k (Go.bits .or .u64 (Go.bits .and .u64 t244 (IntKind.u64.wrap ((ji9) - 1))) (ji9))).bind fun t252 => ((fathomref3_least.f a1).bind fun t255 => (some (t251, t252, wrap64 ((wrap64 (t255 + (wrap64 (ji7)))) - 1))))) = some (r1, r2, r3) := H
      have A15 := Aside0.mk A150
      clear A150
      have c16b0 := eq_true (of_decide_eq_true (by first | (with_reducible assumption) | assumption) : 0 ≤ (ji5))
      skip
      replace H := Option.bind_eq_some_iff.mp H
      obtain ⟨t252, A180, H⟩ := H
      replace H : ((fathomref3_least.f a1).bind fun t255 => (some (t251, t252, wrap64 ((wrap64 (t255 + (wrap64 (ji7)))) - 1)))) = some (r1, r2, r3) := H
      have A18 := Aside0.mk A180
      clear A180
      replace H := Option.bind_eq_some_iff.mp H
      obtain ⟨t255, A190, H⟩ := H
      replace H : (some (t251, t252, wrap64 ((wrap64 (t255 + (wrap64 (ji7)))) - 1))) = some (r1, r2, r3) := H
      have A19 := Aside0.mk A190
      clear A190
      simp only [Option.some.injEq, Prod.mk.injEq] at H
      obtain ⟨rfl, rfl, rfl⟩ := H
      go_enter Try.func108, Try.ntmps108
      go_wp2_with (first | ((with_reducible refine gate_callee (f := 115) rfl ?_); refine goesL_ (some 13) rfl rfl Try.func115 (by kernel_rfl) rfl #[.int .u64 a0, .int .i64 a1] rfl (by (try simp only [List.map_toArray, List.map_cons, List.map_nil]); first | done | rfl | (simp only [List.length_drop, List.length_take]; rfl) | (simp only [gt_iff_lt, Int.natCast_pos]; rfl)) ?_; (with_reducible refine (fathomref3_Abs.calls a0 a1 t244 _ A3.out).mono ?_); rintro e w' ⟨rfl, ⟨nd, rfl⟩⟩; refine ⟨_, rfl, ?_⟩) | ((with_reducible refine gate_callee (f := 116) rfl ?_); refine goesL_ (some 15) rfl rfl Try.func116 (by kernel_rfl) rfl #[.int .i64 a1] rfl (by (try simp only [List.map_toArray, List.map_cons, List.map_nil]); first | done | rfl | (simp only [List.length_drop, List.length_take]; rfl) | (simp only [gt_iff_lt, Int.natCast_pos]; rfl)) ?_; (with_reducible refine (fathomref3_digits.calls a1 t245 _ A4.out).mono ?_); rintro e w' ⟨rfl, ⟨nd, rfl⟩⟩; refine ⟨_, rfl, ?_⟩) | ((with_reducible refine gate_callee (f := 98) rfl ?_); refine goesL_ (some 37) rfl rfl Try.func98 (by kernel_rfl) rfl #[.int .u64 a0, .int .i64 a1] rfl (by (try simp only [List.map_toArray, List.map_cons, List.map_nil]); first | done | rfl | (simp only [List.length_drop, List.length_take]; rfl) | (simp only [gt_iff_lt, Int.natCast_pos]; rfl)) ?_; (with_reducible refine (fathomref3_Neg.calls a0 a1 t251 _ A15.out).mono ?_); rintro e w' ⟨rfl, ⟨nd, rfl⟩⟩; refine ⟨_, rfl, ?_⟩) | ((with_reducible refine gate_callee (f := 89) rfl ?_); refine goesL_ (some 42) rfl rfl Try.func89 (by kernel_rfl) rfl #[.int .u64 (Go.bits .or .u64 (Go.bits .and .u64 t244 (IntKind.u64.wrap ((ji9) - 1))) (ji9))] rfl (by (try simp only [List.map_toArray, List.map_cons, List.map_nil]); first | done | (simp only [hji9]; rfl) | rfl | (simp only [List.length_drop, List.length_take]; rfl) | (simp only [gt_iff_lt, Int.natCast_pos]; rfl)) ?_; (with_reducible refine (fathomref3_Of.calls k (Go.bits .or .u64 (Go.bits .and .u64 t244 (IntKind.u64.wrap ((ji9) - 1))) (ji9)) t252 _ A18.out).mono ?_); rintro e w20 ⟨v253, rfl, ho0, hb⟩; refine ⟨_, rfl, ?_⟩; have n0_ := Aside0.mk (Kd.R_lower ho0 (below_size (by repeat (first | (with_reducible first | exact HB.out | apply below_alloc | apply pw_below_drewN | apply below_drew1) | exact HB.out)))); have n1_ := Aside0.mk (below_step (by repeat (first | (with_reducible first | exact HB.out | apply below_alloc | apply pw_below_drewN | apply below_drew1) | exact HB.out)) hb); clear HB; have HO254 := n0_; have HB := n1_; clear n0_ n1_; (try clear hb); (try clear hb2); (try clear hk); (try clear hi); (try clear ho0)) | ((with_reducible refine gate_callee (f := 146) rfl ?_); refine goesL_ (some 44) rfl rfl Try.func146 (by kernel_rfl) rfl #[.int .i64 a1] rfl (by (try simp only [List.map_toArray, List.map_cons, List.map_nil]); first | done | rfl | (simp only [List.length_drop, List.length_take]; rfl) | (simp only [gt_iff_lt, Int.natCast_pos]; rfl)) ?_; (with_reducible refine (fathomref3_least.calls a1 t255 _ A19.out).mono ?_); rintro e w' ⟨rfl, ⟨nd, rfl⟩⟩; refine ⟨_, rfl, ?_⟩))
      go_ret3
      exact ⟨_, by first | rfl | (simp [errW_none, errW_some] <;> rfl) | (simp only [← hji5, ← hji7, ← hji9]; first | rfl | (simp [errW_none, errW_some] <;> rfl)) | (simp [*, errW_none, errW_some] <;> rfl), by (with_reducible repeat (first | apply Kd.R_alloc | apply Kd.R_drewN | apply Kd.R_drew)); exact HO254.out, by repeat (first | (with_reducible first | exact HB.out | apply below_alloc | apply pw_below_drewN | apply below_drew1) | exact HB.out)⟩
  · rw [if_neg c6] at H
    exact absurd H (by simp)

end Go.Proofs.Ytfloeiagdegpjaa.Rf
