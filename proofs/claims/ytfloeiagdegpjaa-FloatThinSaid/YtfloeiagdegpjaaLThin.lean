/- The law FloatThin: what its body comes to, as a Lean function over the rows that it is handed. The walk began as print.sh's text for this function, over the float functions of YtfloeiagdegpjaaSt. -/
import Derived.Test.YtfloeiagdegpjaaSt
import Derived.Test.YtfloeiagdegpjaaR7
import Derived.Test.YtfloeiagdegpjaaR8
import Derived.Test.YtfloeiagdegpjaaR9
namespace Go.Proofs.Ytfloeiagdegpjaa.LThin
open Go.RowKit Go.Proofs.YtfloeiagdegpjaaW.PrintWords Go.Proofs.YtfloeiagdegpjaaW.PrintLast Go.Proofs.YtfloeiagdegpjaaW.PrintMore Go.Proofs.Ytfloeiagdegpjaa.Rf
attribute [local go_sem] max2_int min2_int max_two min_two max_three min_three max_four min_four
set_option linter.unusedVariables false
set_option linter.unusedSimpArgs false

/-! #### struct type 39 -/
structure S39 where
  f0 : Int
  f1 : Int
def z39 : S39 := ⟨(0 : Int), (0 : Int)⟩
def k39 : Kd S39 := Kd.iso (Kd.pair (Kd.int .u64) (Kd.int .u64)) (fun x : S39 => (x.f0, x.f1))
theorem k39_heap : Kd.Heap k39 := Kd.heap_iso _ (Kd.heap_pair (Kd.heap_int .u64) (Kd.heap_int .u64))
theorem k39_open {w : World} {x : S39} {cs : List Value} (h : k39.K w x cs) : cs = [.int .u64 x.f0, .int .u64 x.f1] := by
  obtain ⟨_, _, rfl, rfl, rfl⟩ := h
  exact rfl
theorem k39_openM {w : World} {base : Nat} {ok : Nat → Prop} {x : S39} {cs : List Value} (h : k39.M w base ok x cs) : cs = [.int .u64 x.f0, .int .u64 x.f1] := by
  obtain ⟨_, _, rfl, rfl, rfl⟩ := h
  exact rfl
theorem k39_mk (w : World) (x : S39)  : k39.K w x [.int .u64 x.f0, .int .u64 x.f1] := ⟨[.int .u64 x.f0], [.int .u64 x.f1], rfl, rfl, rfl⟩
theorem k39_mkM (w : World) (base : Nat) (ok : Nat → Prop) (x : S39)  : k39.M w base ok x [.int .u64 x.f0, .int .u64 x.f1] := ⟨[.int .u64 x.f0], [.int .u64 x.f1], rfl, rfl, rfl⟩
theorem k39_mkF (W : World) (ok : Nat → Prop) (x : S39) : Kd.FK k39 W ok x [.int .u64 x.f0, .int .u64 x.f1] := fun W2 _ => k39_mk W2 x
def rd_T39 (xs : List S39) (i : Int) : S39 := xs.getD i.toNat z39
theorem at_T39 {w : World} {A : Option Addr} {n : Nat} {xs : List S39} (h : Kd.C k39 w A n xs) (i : Int) (h0 : 0 ≤ i) (h1 : i < n) : ∃ ad , A = some ad ∧ w.cell? (ad.add (i.toNat * 2)) = some (.int .u64 (rd_T39 xs i).f0) ∧ w.cell? ⟨(ad.add (i.toNat * 2)).block, (ad.add (i.toNat * 2)).off + 1, none⟩ = some (.int .u64 (rd_T39 xs i).f1) := by
  obtain ⟨ad, c, e, _, hK, hc0⟩ := Kd.C_get h z39 i h0 h1
  have hc : ∀ j u, c[j]? = some u → w.cell? (ad.add (i.toNat * 2 + j)) = some u := hc0
  obtain rfl := k39_open hK
  exact ⟨ad, e, hc 0 _ rfl, by rw [← add_field _ _ 1 (by omega)]; exact hc 1 _ rfl⟩


/-! ### fathomlaw3_FloatThin: function 11 -/
mutual
def fathomlaw3_FloatThin.l0 : Nat → List (S39) → Int → Option (Bool)
  | 0, _, _ => none
  | k + 1, x0, x3 => if x3 < (x0.length : Int) then (fathomlaw3_FloatThin.j1 k x0 x3 (decide (x3 < 2000))) else (fathomlaw3_FloatThin.j1 k x0 x3 false)
def fathomlaw3_FloatThin.j1 : Nat → List (S39) → Int → Bool → Option (Bool)
  | 0, _, _, _ => none
  | k + 1, x0, x3, x15 => if x15 = true then (if 0 ≤ x3 then (if x3 < (x0.length : Int) then ((float_Add_uint32.f ((((rd_T39 x0 x3).f0) / 4294967296) % 4294967296) ((((rd_T39 x0 x3).f1) / 4294967296) % 4294967296)).bind fun t450 => ((fathomref3_Add.f k ((((rd_T39 x0 x3).f0) / 4294967296) % 4294967296) ((((rd_T39 x0 x3).f1) / 4294967296) % 4294967296) 32).bind fun t451 => (if (IntKind.u64.wrap (t450)) = t451 then ((float_Sub_uint32.f ((((rd_T39 x0 x3).f0) / 4294967296) % 4294967296) ((((rd_T39 x0 x3).f1) / 4294967296) % 4294967296)).bind fun t452 => ((fathomref3_Sub.f k ((((rd_T39 x0 x3).f0) / 4294967296) % 4294967296) ((((rd_T39 x0 x3).f1) / 4294967296) % 4294967296) 32).bind fun t453 => (if (IntKind.u64.wrap (t452)) = t453 then ((float_Mul_uint32.f ((((rd_T39 x0 x3).f0) / 4294967296) % 4294967296) ((((rd_T39 x0 x3).f1) / 4294967296) % 4294967296)).bind fun t454 => ((fathomref3_Mul.f k ((((rd_T39 x0 x3).f0) / 4294967296) % 4294967296) ((((rd_T39 x0 x3).f1) / 4294967296) % 4294967296) 32).bind fun t455 => (if (IntKind.u64.wrap (t454)) = t455 then ((float_Div_uint32.f ((((rd_T39 x0 x3).f0) / 4294967296) % 4294967296) ((((rd_T39 x0 x3).f1) / 4294967296) % 4294967296)).bind fun t456 => ((fathomref3_Div.f k ((((rd_T39 x0 x3).f0) / 4294967296) % 4294967296) ((((rd_T39 x0 x3).f1) / 4294967296) % 4294967296) 32).bind fun t457 => (if (IntKind.u64.wrap (t456)) = t457 then ((float_Root_uint32.f ((((rd_T39 x0 x3).f0) / 4294967296) % 4294967296)).bind fun t458 => ((fathomref3_Root.f k ((((rd_T39 x0 x3).f0) / 4294967296) % 4294967296) 32).bind fun t459 => (if (IntKind.u64.wrap (t458)) = t459 then (fathomlaw3_FloatThin.l0 k x0 (wrap64 (x3 + 1))) else (some false)))) else (some false)))) else (some false)))) else (some false)))) else (some false)))) else (none)) else (none)) else ((fathomlaw3_wakes.f).bind fun t447 => (some t447))
end
def fathomlaw3_FloatThin.f (k : Nat) (l0 : List (S39)) : Option (Bool) := fathomlaw3_FloatThin.l0 k l0 0
theorem fathomlaw3_FloatThin.mono_l : ∀ k, (∀ y0 y1, LeO (fathomlaw3_FloatThin.l0 k y0 y1) (fathomlaw3_FloatThin.l0 (k + 1) y0 y1)) ∧ (∀ y0 y1 y2, LeO (fathomlaw3_FloatThin.j1 k y0 y1 y2) (fathomlaw3_FloatThin.j1 (k + 1) y0 y1 y2))
  | 0 => ⟨fun _ _ r h => by simp [fathomlaw3_FloatThin.l0] at h, fun _ _ _ r h => by simp [fathomlaw3_FloatThin.j1] at h⟩
  | k + 1 => by
    obtain ⟨ih0, ih1⟩ := fathomlaw3_FloatThin.mono_l k
    refine ⟨?_, ?_⟩
    · intro y0 y1
      unfold fathomlaw3_FloatThin.l0
      repeat' first
      | (with_reducible exact ih0 _ _)
      | (with_reducible exact ih1 _ _ _)
      | (with_reducible exact fathomref3_Add.mono _ _ _ _)
      | (with_reducible exact fathomref3_Div.mono _ _ _ _)
      | (with_reducible exact fathomref3_Mul.mono _ _ _ _)
      | (with_reducible exact fathomref3_Root.mono _ _ _)
      | (with_reducible exact fathomref3_Sub.mono _ _ _ _)
      | (with_reducible exact LeO.refl _)
      | (with_reducible exact LeO.none _)
      | (with_reducible refine LeO.ite ?_ ?_)
      | (with_reducible refine LeO.bind ?_ (fun _ => ?_))
      | exact ih0 _ _
      | exact ih1 _ _ _
      | exact fathomref3_Add.mono _ _ _ _
      | exact fathomref3_Div.mono _ _ _ _
      | exact fathomref3_Mul.mono _ _ _ _
      | exact fathomref3_Root.mono _ _ _
      | exact fathomref3_Sub.mono _ _ _ _
      | exact LeO.none _
      | refine LeO.ite ?_ ?_
      | refine LeO.bind ?_ (fun _ => ?_)
    · intro y0 y1 y2
      unfold fathomlaw3_FloatThin.j1
      repeat' first
      | (with_reducible exact ih0 _ _)
      | (with_reducible exact ih1 _ _ _)
      | (with_reducible exact fathomref3_Add.mono _ _ _ _)
      | (with_reducible exact fathomref3_Div.mono _ _ _ _)
      | (with_reducible exact fathomref3_Mul.mono _ _ _ _)
      | (with_reducible exact fathomref3_Root.mono _ _ _)
      | (with_reducible exact fathomref3_Sub.mono _ _ _ _)
      | (with_reducible exact LeO.refl _)
      | (with_reducible exact LeO.none _)
      | (with_reducible refine LeO.ite ?_ ?_)
      | (with_reducible refine LeO.bind ?_ (fun _ => ?_))
      | exact ih0 _ _
      | exact ih1 _ _ _
      | exact fathomref3_Add.mono _ _ _ _
      | exact fathomref3_Div.mono _ _ _ _
      | exact fathomref3_Mul.mono _ _ _ _
      | exact fathomref3_Root.mono _ _ _
      | exact fathomref3_Sub.mono _ _ _ _
      | exact LeO.none _
      | refine LeO.ite ?_ ?_
      | refine LeO.bind ?_ (fun _ => ?_)
theorem fathomlaw3_FloatThin.mono : ∀ a0 k, LeO (fathomlaw3_FloatThin.f k a0) (fathomlaw3_FloatThin.f (k + 1) a0) := by
  intro a0 k
  obtain ⟨ih0, ih1⟩ := fathomlaw3_FloatThin.mono_l k
  unfold fathomlaw3_FloatThin.f
  repeat' first
      | (with_reducible exact ih0 _ _)
      | (with_reducible exact ih1 _ _ _)
      | (with_reducible exact fathomref3_Add.mono _ _ _ _)
      | (with_reducible exact fathomref3_Div.mono _ _ _ _)
      | (with_reducible exact fathomref3_Mul.mono _ _ _ _)
      | (with_reducible exact fathomref3_Root.mono _ _ _)
      | (with_reducible exact fathomref3_Sub.mono _ _ _ _)
      | (with_reducible exact LeO.refl _)
      | (with_reducible exact LeO.none _)
      | (with_reducible refine LeO.ite ?_ ?_)
      | (with_reducible refine LeO.bind ?_ (fun _ => ?_))
      | exact ih0 _ _
      | exact ih1 _ _ _
      | exact fathomref3_Add.mono _ _ _ _
      | exact fathomref3_Div.mono _ _ _ _
      | exact fathomref3_Mul.mono _ _ _ _
      | exact fathomref3_Root.mono _ _ _
      | exact fathomref3_Sub.mono _ _ _ _
      | exact LeO.none _
      | refine LeO.ite ?_ ?_
      | refine LeO.bind ?_ (fun _ => ?_)
set_option maxHeartbeats 8000000 in
set_option maxRecDepth 100000 in
theorem fathomlaw3_FloatThin.calls (k : Nat) (A0 : Option Addr) (c0 : Nat) (l0 : List (S39)) (r : Bool) (w : World) (hr0 : Kd.C k39 w A0 l0.length l0) (hc0 : l0.length ≤ c0) (h : fathomlaw3_FloatThin.f k l0 = some r) :
    Calls Try.prog 11 #[.slice A0 l0.length c0] w fun e w' => e = .returned (.bool r) ∧ Below w.heap.size w w' := by
  have HR0 := Aside0.mk hr0
  have HC0 := Aside0.mk hc0
  clear hr0 hc0
  have HB := Aside0.mk (Below.refl w.heap.size w)
  have H : (fathomlaw3_FloatThin.l0 k l0 0) = some r := h
  clear h
  have H' := Aside0.mk H
  clear H
  go_enter Try.func11, Try.ntmps11
  go_wp2
  go_loopg [3] k (fun kq v3 w' => ∃ (x3_1 : Int), v3 = .int .i64 x3_1 ∧ Aside0 (fathomlaw3_FloatThin.l0 kq l0 x3_1 = some r) ∧ Aside0 (kq ≤ k) ∧ Aside0 (Below w.heap.size w w'))
  case atStart => exact ⟨(0), (by first | rfl | (simp; done) | (simp [*]; done)), H', ⟨Nat.le_refl _⟩, ⟨by repeat (first | (with_reducible first | exact HB.out | apply below_alloc | apply pw_below_drewN | apply below_drew1) | exact HB.out)⟩⟩
  case round =>
    clear H'
    try clear c1
    obtain ⟨x3_1, rfl, HA, HK1, HB⟩ := hrel
    cases gk with
    | zero => exact absurd HA.out (by simp [fathomlaw3_FloatThin.l0])
    | succ k1 =>
      have H := HA.out
      clear HA
      simp only [fathomlaw3_FloatThin.l0] at H
      have HC2 := Aside0.mk H
      clear H
      go_upto_region 2 with (fail)
      go_cut [15] (fun v15 wc => ∃ (kq : Nat) (x15_1 : Bool), v15 = .bool x15_1 ∧ Aside0 (fathomlaw3_FloatThin.j1 kq l0 x3_1 x15_1 = some r) ∧ Aside0 (kq ≤ k1) ∧ Aside0 (Below w.heap.size w wc))
      case first =>
        have H := HC2.out
        clear HC2
        by_cases c3 : x3_1 < (l0.length : Int)
        · rw [if_pos c3] at H
          have c3b0 : decide (x3_1 < (l0.length : Int)) = true := decide_eq_true c3
          clear c3
          (first | rw [c3b0] | (simp only [i64_w, i32_w]; rw [c3b0]) | skip)
          have H' := Aside0.mk H
          clear H
          go_wp2
          go_meet
          case rel => exact ⟨_, (decide (x3_1 < 2000)), (by first | rfl | (simp; done) | (simp [*]; done)), H', ⟨by have := HK1.out; first | omega | exact Nat.le_refl _⟩, ⟨by repeat (first | (with_reducible first | exact HB.out | apply below_alloc | apply pw_below_drewN | apply below_drew1) | exact HB.out)⟩⟩
        · rw [if_neg c3] at H
          have c3b0 : decide (x3_1 < (l0.length : Int)) = false := decide_eq_false c3
          clear c3
          (first | rw [c3b0] | (simp only [i64_w, i32_w]; rw [c3b0]) | skip)
          have H' := Aside0.mk H
          clear H
          go_wp2
          go_meet
          case rel => exact ⟨_, (false), (by first | rfl | (simp; done) | (simp [*]; done)), H', ⟨by have := HK1.out; first | omega | exact Nat.le_refl _⟩, ⟨by repeat (first | (with_reducible first | exact HB.out | apply below_alloc | apply pw_below_drewN | apply below_drew1) | exact HB.out)⟩⟩
      case rest =>
        clear HC2
        try clear c1
        try clear p2
        try clear c3
        try clear c3b0
        obtain ⟨kq, x15_1, rfl, HA, HJ1, HB⟩ := hcut
        cases kq with
        | zero => exact absurd HA.out (by simp [fathomlaw3_FloatThin.j1])
        | succ kj1 =>
          have H := HA.out
          clear HA
          simp only [fathomlaw3_FloatThin.j1] at H
          by_cases c4 : x15_1 = true
          · subst c4
            have H1 : (if 0 ≤ x3_1 then (if x3_1 < (l0.length : Int) then ((float_Add_uint32.f ((((rd_T39 l0 x3_1).f0) / 4294967296) % 4294967296) ((((rd_T39 l0 x3_1).f1) / 4294967296) % 4294967296)).bind fun t450 => ((fathomref3_Add.f kj1 ((((rd_T39 l0 x3_1).f0) / 4294967296) % 4294967296) ((((rd_T39 l0 x3_1).f1) / 4294967296) % 4294967296) 32).bind fun t451 => (if (IntKind.u64.wrap (t450)) = t451 then ((float_Sub_uint32.f ((((rd_T39 l0 x3_1).f0) / 4294967296) % 4294967296) ((((rd_T39 l0 x3_1).f1) / 4294967296) % 4294967296)).bind fun t452 => ((fathomref3_Sub.f kj1 ((((rd_T39 l0 x3_1).f0) / 4294967296) % 4294967296) ((((rd_T39 l0 x3_1).f1) / 4294967296) % 4294967296) 32).bind fun t453 => (if (IntKind.u64.wrap (t452)) = t453 then ((float_Mul_uint32.f ((((rd_T39 l0 x3_1).f0) / 4294967296) % 4294967296) ((((rd_T39 l0 x3_1).f1) / 4294967296) % 4294967296)).bind fun t454 => ((fathomref3_Mul.f kj1 ((((rd_T39 l0 x3_1).f0) / 4294967296) % 4294967296) ((((rd_T39 l0 x3_1).f1) / 4294967296) % 4294967296) 32).bind fun t455 => (if (IntKind.u64.wrap (t454)) = t455 then ((float_Div_uint32.f ((((rd_T39 l0 x3_1).f0) / 4294967296) % 4294967296) ((((rd_T39 l0 x3_1).f1) / 4294967296) % 4294967296)).bind fun t456 => ((fathomref3_Div.f kj1 ((((rd_T39 l0 x3_1).f0) / 4294967296) % 4294967296) ((((rd_T39 l0 x3_1).f1) / 4294967296) % 4294967296) 32).bind fun t457 => (if (IntKind.u64.wrap (t456)) = t457 then ((float_Root_uint32.f ((((rd_T39 l0 x3_1).f0) / 4294967296) % 4294967296)).bind fun t458 => ((fathomref3_Root.f kj1 ((((rd_T39 l0 x3_1).f0) / 4294967296) % 4294967296) 32).bind fun t459 => (if (IntKind.u64.wrap (t458)) = t459 then (fathomlaw3_FloatThin.l0 kj1 l0 (wrap64 (x3_1 + 1))) else (some false)))) else (some false)))) else (some false)))) else (some false)))) else (some false)))) else (none)) else (none)) = some r := by rw [if_pos rfl] at H; exact H
            clear H
            have H := H1
            clear H1
            by_cases c5 : 0 ≤ x3_1
            · rw [if_pos c5] at H
              have c5b0 : decide (0 ≤ x3_1) = true := decide_eq_true c5
              clear c5
              by_cases c6 : x3_1 < (l0.length : Int)
              · rw [if_pos c6] at H
                have c6b0 : decide (x3_1 < (l0.length : Int)) = true := decide_eq_true c6
                clear c6
                replace H := Option.bind_eq_some_iff.mp H
                obtain ⟨t450, A70, H⟩ := H
                replace H : ((fathomref3_Add.f kj1 ((((rd_T39 l0 x3_1).f0) / 4294967296) % 4294967296) ((((rd_T39 l0 x3_1).f1) / 4294967296) % 4294967296) 32).bind fun t451 => (if (IntKind.u64.wrap (t450)) = t451 then ((float_Sub_uint32.f ((((rd_T39 l0 x3_1).f0) / 4294967296) % 4294967296) ((((rd_T39 l0 x3_1).f1) / 4294967296) % 4294967296)).bind fun t452 => ((fathomref3_Sub.f kj1 ((((rd_T39 l0 x3_1).f0) / 4294967296) % 4294967296) ((((rd_T39 l0 x3_1).f1) / 4294967296) % 4294967296) 32).bind fun t453 => (if (IntKind.u64.wrap (t452)) = t453 then ((float_Mul_uint32.f ((((rd_T39 l0 x3_1).f0) / 4294967296) % 4294967296) ((((rd_T39 l0 x3_1).f1) / 4294967296) % 4294967296)).bind fun t454 => ((fathomref3_Mul.f kj1 ((((rd_T39 l0 x3_1).f0) / 4294967296) % 4294967296) ((((rd_T39 l0 x3_1).f1) / 4294967296) % 4294967296) 32).bind fun t455 => (if (IntKind.u64.wrap (t454)) = t455 then ((float_Div_uint32.f ((((rd_T39 l0 x3_1).f0) / 4294967296) % 4294967296) ((((rd_T39 l0 x3_1).f1) / 4294967296) % 4294967296)).bind fun t456 => ((fathomref3_Div.f kj1 ((((rd_T39 l0 x3_1).f0) / 4294967296) % 4294967296) ((((rd_T39 l0 x3_1).f1) / 4294967296) % 4294967296) 32).bind fun t457 => (if (IntKind.u64.wrap (t456)) = t457 then ((float_Root_uint32.f ((((rd_T39 l0 x3_1).f0) / 4294967296) % 4294967296)).bind fun t458 => ((fathomref3_Root.f kj1 ((((rd_T39 l0 x3_1).f0) / 4294967296) % 4294967296) 32).bind fun t459 => (if (IntKind.u64.wrap (t458)) = t459 then (fathomlaw3_FloatThin.l0 kj1 l0 (wrap64 (x3_1 + 1))) else (some false)))) else (some false)))) else (some false)))) else (some false)))) else (some false))) = some r := H
                have A7 := Aside0.mk A70
                clear A70
                replace H := Option.bind_eq_some_iff.mp H
                obtain ⟨t451, A80, H⟩ := H
                replace H : (if (IntKind.u64.wrap (t450)) = t451 then ((float_Sub_uint32.f ((((rd_T39 l0 x3_1).f0) / 4294967296) % 4294967296) ((((rd_T39 l0 x3_1).f1) / 4294967296) % 4294967296)).bind fun t452 => ((fathomref3_Sub.f kj1 ((((rd_T39 l0 x3_1).f0) / 4294967296) % 4294967296) ((((rd_T39 l0 x3_1).f1) / 4294967296) % 4294967296) 32).bind fun t453 => (if (IntKind.u64.wrap (t452)) = t453 then ((float_Mul_uint32.f ((((rd_T39 l0 x3_1).f0) / 4294967296) % 4294967296) ((((rd_T39 l0 x3_1).f1) / 4294967296) % 4294967296)).bind fun t454 => ((fathomref3_Mul.f kj1 ((((rd_T39 l0 x3_1).f0) / 4294967296) % 4294967296) ((((rd_T39 l0 x3_1).f1) / 4294967296) % 4294967296) 32).bind fun t455 => (if (IntKind.u64.wrap (t454)) = t455 then ((float_Div_uint32.f ((((rd_T39 l0 x3_1).f0) / 4294967296) % 4294967296) ((((rd_T39 l0 x3_1).f1) / 4294967296) % 4294967296)).bind fun t456 => ((fathomref3_Div.f kj1 ((((rd_T39 l0 x3_1).f0) / 4294967296) % 4294967296) ((((rd_T39 l0 x3_1).f1) / 4294967296) % 4294967296) 32).bind fun t457 => (if (IntKind.u64.wrap (t456)) = t457 then ((float_Root_uint32.f ((((rd_T39 l0 x3_1).f0) / 4294967296) % 4294967296)).bind fun t458 => ((fathomref3_Root.f kj1 ((((rd_T39 l0 x3_1).f0) / 4294967296) % 4294967296) 32).bind fun t459 => (if (IntKind.u64.wrap (t458)) = t459 then (fathomlaw3_FloatThin.l0 kj1 l0 (wrap64 (x3_1 + 1))) else (some false)))) else (some false)))) else (some false)))) else (some false)))) else (some false)) = some r := H
                have A8 := Aside0.mk A80
                clear A80
                by_cases c9 : (IntKind.u64.wrap (t450)) = t451
                · rw [if_pos c9] at H
                  have c9b0 : ((IntKind.u64.wrap (t450)) == t451) = true := beq_iff_eq.mpr c9
                  have c9b1 : ((IntKind.u64.wrap (t450)) != t451) = false := bne_eq_false_iff_eq.mpr c9
                  clear c9
                  replace H := Option.bind_eq_some_iff.mp H
                  obtain ⟨t452, A100, H⟩ := H
                  replace H : ((fathomref3_Sub.f kj1 ((((rd_T39 l0 x3_1).f0) / 4294967296) % 4294967296) ((((rd_T39 l0 x3_1).f1) / 4294967296) % 4294967296) 32).bind fun t453 => (if (IntKind.u64.wrap (t452)) = t453 then ((float_Mul_uint32.f ((((rd_T39 l0 x3_1).f0) / 4294967296) % 4294967296) ((((rd_T39 l0 x3_1).f1) / 4294967296) % 4294967296)).bind fun t454 => ((fathomref3_Mul.f kj1 ((((rd_T39 l0 x3_1).f0) / 4294967296) % 4294967296) ((((rd_T39 l0 x3_1).f1) / 4294967296) % 4294967296) 32).bind fun t455 => (if (IntKind.u64.wrap (t454)) = t455 then ((float_Div_uint32.f ((((rd_T39 l0 x3_1).f0) / 4294967296) % 4294967296) ((((rd_T39 l0 x3_1).f1) / 4294967296) % 4294967296)).bind fun t456 => ((fathomref3_Div.f kj1 ((((rd_T39 l0 x3_1).f0) / 4294967296) % 4294967296) ((((rd_T39 l0 x3_1).f1) / 4294967296) % 4294967296) 32).bind fun t457 => (if (IntKind.u64.wrap (t456)) = t457 then ((float_Root_uint32.f ((((rd_T39 l0 x3_1).f0) / 4294967296) % 4294967296)).bind fun t458 => ((fathomref3_Root.f kj1 ((((rd_T39 l0 x3_1).f0) / 4294967296) % 4294967296) 32).bind fun t459 => (if (IntKind.u64.wrap (t458)) = t459 then (fathomlaw3_FloatThin.l0 kj1 l0 (wrap64 (x3_1 + 1))) else (some false)))) else (some false)))) else (some false)))) else (some false))) = some r := H
                  have A10 := Aside0.mk A100
                  clear A100
                  replace H := Option.bind_eq_some_iff.mp H
                  obtain ⟨t453, A110, H⟩ := H
                  replace H : (if (IntKind.u64.wrap (t452)) = t453 then ((float_Mul_uint32.f ((((rd_T39 l0 x3_1).f0) / 4294967296) % 4294967296) ((((rd_T39 l0 x3_1).f1) / 4294967296) % 4294967296)).bind fun t454 => ((fathomref3_Mul.f kj1 ((((rd_T39 l0 x3_1).f0) / 4294967296) % 4294967296) ((((rd_T39 l0 x3_1).f1) / 4294967296) % 4294967296) 32).bind fun t455 => (if (IntKind.u64.wrap (t454)) = t455 then ((float_Div_uint32.f ((((rd_T39 l0 x3_1).f0) / 4294967296) % 4294967296) ((((rd_T39 l0 x3_1).f1) / 4294967296) % 4294967296)).bind fun t456 => ((fathomref3_Div.f kj1 ((((rd_T39 l0 x3_1).f0) / 4294967296) % 4294967296) ((((rd_T39 l0 x3_1).f1) / 4294967296) % 4294967296) 32).bind fun t457 => (if (IntKind.u64.wrap (t456)) = t457 then ((float_Root_uint32.f ((((rd_T39 l0 x3_1).f0) / 4294967296) % 4294967296)).bind fun t458 => ((fathomref3_Root.f kj1 ((((rd_T39 l0 x3_1).f0) / 4294967296) % 4294967296) 32).bind fun t459 => (if (IntKind.u64.wrap (t458)) = t459 then (fathomlaw3_FloatThin.l0 kj1 l0 (wrap64 (x3_1 + 1))) else (some false)))) else (some false)))) else (some false)))) else (some false)) = some r := H
                  have A11 := Aside0.mk A110
                  clear A110
                  by_cases c12 : (IntKind.u64.wrap (t452)) = t453
                  · rw [if_pos c12] at H
                    have c12b0 : ((IntKind.u64.wrap (t452)) == t453) = true := beq_iff_eq.mpr c12
                    have c12b1 : ((IntKind.u64.wrap (t452)) != t453) = false := bne_eq_false_iff_eq.mpr c12
                    clear c12
                    replace H := Option.bind_eq_some_iff.mp H
                    obtain ⟨t454, A130, H⟩ := H
                    replace H : ((fathomref3_Mul.f kj1 ((((rd_T39 l0 x3_1).f0) / 4294967296) % 4294967296) ((((rd_T39 l0 x3_1).f1) / 4294967296) % 4294967296) 32).bind fun t455 => (if (IntKind.u64.wrap (t454)) = t455 then ((float_Div_uint32.f ((((rd_T39 l0 x3_1).f0) / 4294967296) % 4294967296) ((((rd_T39 l0 x3_1).f1) / 4294967296) % 4294967296)).bind fun t456 => ((fathomref3_Div.f kj1 ((((rd_T39 l0 x3_1).f0) / 4294967296) % 4294967296) ((((rd_T39 l0 x3_1).f1) / 4294967296) % 4294967296) 32).bind fun t457 => (if (IntKind.u64.wrap (t456)) = t457 then ((float_Root_uint32.f ((((rd_T39 l0 x3_1).f0) / 4294967296) % 4294967296)).bind fun t458 => ((fathomref3_Root.f kj1 ((((rd_T39 l0 x3_1).f0) / 4294967296) % 4294967296) 32).bind fun t459 => (if (IntKind.u64.wrap (t458)) = t459 then (fathomlaw3_FloatThin.l0 kj1 l0 (wrap64 (x3_1 + 1))) else (some false)))) else (some false)))) else (some false))) = some r := H
                    have A13 := Aside0.mk A130
                    clear A130
                    replace H := Option.bind_eq_some_iff.mp H
                    obtain ⟨t455, A140, H⟩ := H
                    replace H : (if (IntKind.u64.wrap (t454)) = t455 then ((float_Div_uint32.f ((((rd_T39 l0 x3_1).f0) / 4294967296) % 4294967296) ((((rd_T39 l0 x3_1).f1) / 4294967296) % 4294967296)).bind fun t456 => ((fathomref3_Div.f kj1 ((((rd_T39 l0 x3_1).f0) / 4294967296) % 4294967296) ((((rd_T39 l0 x3_1).f1) / 4294967296) % 4294967296) 32).bind fun t457 => (if (IntKind.u64.wrap (t456)) = t457 then ((float_Root_uint32.f ((((rd_T39 l0 x3_1).f0) / 4294967296) % 4294967296)).bind fun t458 => ((fathomref3_Root.f kj1 ((((rd_T39 l0 x3_1).f0) / 4294967296) % 4294967296) 32).bind fun t459 => (if (IntKind.u64.wrap (t458)) = t459 then (fathomlaw3_FloatThin.l0 kj1 l0 (wrap64 (x3_1 + 1))) else (some false)))) else (some false)))) else (some false)) = some r := H
                    have A14 := Aside0.mk A140
                    clear A140
                    by_cases c15 : (IntKind.u64.wrap (t454)) = t455
                    · rw [if_pos c15] at H
                      have c15b0 : ((IntKind.u64.wrap (t454)) == t455) = true := beq_iff_eq.mpr c15
                      have c15b1 : ((IntKind.u64.wrap (t454)) != t455) = false := bne_eq_false_iff_eq.mpr c15
                      clear c15
                      replace H := Option.bind_eq_some_iff.mp H
                      obtain ⟨t456, A160, H⟩ := H
                      replace H : ((fathomref3_Div.f kj1 ((((rd_T39 l0 x3_1).f0) / 4294967296) % 4294967296) ((((rd_T39 l0 x3_1).f1) / 4294967296) % 4294967296) 32).bind fun t457 => (if (IntKind.u64.wrap (t456)) = t457 then ((float_Root_uint32.f ((((rd_T39 l0 x3_1).f0) / 4294967296) % 4294967296)).bind fun t458 => ((fathomref3_Root.f kj1 ((((rd_T39 l0 x3_1).f0) / 4294967296) % 4294967296) 32).bind fun t459 => (if (IntKind.u64.wrap (t458)) = t459 then (fathomlaw3_FloatThin.l0 kj1 l0 (wrap64 (x3_1 + 1))) else (some false)))) else (some false))) = some r := H
                      have A16 := Aside0.mk A160
                      clear A160
                      replace H := Option.bind_eq_some_iff.mp H
                      obtain ⟨t457, A170, H⟩ := H
                      replace H : (if (IntKind.u64.wrap (t456)) = t457 then ((float_Root_uint32.f ((((rd_T39 l0 x3_1).f0) / 4294967296) % 4294967296)).bind fun t458 => ((fathomref3_Root.f kj1 ((((rd_T39 l0 x3_1).f0) / 4294967296) % 4294967296) 32).bind fun t459 => (if (IntKind.u64.wrap (t458)) = t459 then (fathomlaw3_FloatThin.l0 kj1 l0 (wrap64 (x3_1 + 1))) else (some false)))) else (some false)) = some r := H
                      have A17 := Aside0.mk A170
                      clear A170
                      by_cases c18 : (IntKind.u64.wrap (t456)) = t457
                      · rw [if_pos c18] at H
                        have c18b0 : ((IntKind.u64.wrap (t456)) == t457) = true := beq_iff_eq.mpr c18
                        have c18b1 : ((IntKind.u64.wrap (t456)) != t457) = false := bne_eq_false_iff_eq.mpr c18
                        clear c18
                        replace H := Option.bind_eq_some_iff.mp H
                        obtain ⟨t458, A190, H⟩ := H
                        replace H : ((fathomref3_Root.f kj1 ((((rd_T39 l0 x3_1).f0) / 4294967296) % 4294967296) 32).bind fun t459 => (if (IntKind.u64.wrap (t458)) = t459 then (fathomlaw3_FloatThin.l0 kj1 l0 (wrap64 (x3_1 + 1))) else (some false))) = some r := H
                        have A19 := Aside0.mk A190
                        clear A190
                        replace H := Option.bind_eq_some_iff.mp H
                        obtain ⟨t459, A200, H⟩ := H
                        replace H : (if (IntKind.u64.wrap (t458)) = t459 then (fathomlaw3_FloatThin.l0 kj1 l0 (wrap64 (x3_1 + 1))) else (some false)) = some r := H
                        have A20 := Aside0.mk A200
                        clear A200
                        by_cases c21 : (IntKind.u64.wrap (t458)) = t459
                        · rw [if_pos c21] at H
                          have c21b0 : ((IntKind.u64.wrap (t458)) == t459) = true := beq_iff_eq.mpr c21
                          have c21b1 : ((IntKind.u64.wrap (t458)) != t459) = false := bne_eq_false_iff_eq.mpr c21
                          clear c21
                          have H' := Aside0.mk H
                          clear H
                          have p448 : 0 ≤ (x3_1 : Int) := of_decide_eq_true (by first | (with_reducible assumption) | assumption)
                          have q448 : x3_1 < (l0.length : Int) := of_decide_eq_true (by first | (with_reducible assumption) | assumption)
                          obtain ⟨ad448, e448, hx448_0, hx448_1⟩ := at_T39 HR0.out x3_1 p448 q448
                          cases e448
                          replace hx448_0 := (HB.out.cell (World.block_lt_of_cell? w _ hx448_0)).trans hx448_0
                          replace hx448_1 := (HB.out.cell (World.block_lt_of_cell? w _ hx448_1)).trans hx448_1
                          replace p448 := eq_true p448
                          replace q448 := eq_true q448
                          have p449 : 0 ≤ (x3_1 : Int) := of_decide_eq_true (by first | (with_reducible assumption) | assumption)
                          have q449 : x3_1 < (l0.length : Int) := of_decide_eq_true (by first | (with_reducible assumption) | assumption)
                          obtain ⟨ad449, e449, hx449_0, hx449_1⟩ := at_T39 HR0.out x3_1 p449 q449
                          obtain rfl : ad448 = ad449 := (by injection e449)
                          replace hx449_0 := (HB.out.cell (World.block_lt_of_cell? w _ hx449_0)).trans hx449_0
                          replace hx449_1 := (HB.out.cell (World.block_lt_of_cell? w _ hx449_1)).trans hx449_1
                          replace p449 := eq_true p449
                          replace q449 := eq_true q449
                          go_wp2_with (first | ((with_reducible refine gate_callee (f := 64) rfl ?_); refine goesL_ (some 38) rfl rfl Try.func64 (by kernel_rfl) rfl #[.int .u32 ((((rd_T39 l0 x3_1).f0) / 4294967296) % 4294967296), .int .u32 ((((rd_T39 l0 x3_1).f1) / 4294967296) % 4294967296)] rfl (by (try simp only [List.map_toArray, List.map_cons, List.map_nil]); first | done | rfl | (simp only [List.length_drop, List.length_take]; rfl) | (simp only [gt_iff_lt, Int.natCast_pos]; rfl)) ?_; (with_reducible refine (float_Add_uint32.calls ((((rd_T39 l0 x3_1).f0) / 4294967296) % 4294967296) ((((rd_T39 l0 x3_1).f1) / 4294967296) % 4294967296) t450 _ A7.out).mono ?_); rintro e w' ⟨rfl, ⟨nd, rfl⟩⟩; refine ⟨_, rfl, ?_⟩) | ((with_reducible refine gate_callee (f := 65) rfl ?_); refine goesL_ (some 42) rfl rfl Try.func65 (by kernel_rfl) rfl #[.int .u64 ((((rd_T39 l0 x3_1).f0) / 4294967296) % 4294967296), .int .u64 ((((rd_T39 l0 x3_1).f1) / 4294967296) % 4294967296), .int .i64 32] rfl (by (try simp only [List.map_toArray, List.map_cons, List.map_nil]); first | done | rfl | (simp only [List.length_drop, List.length_take]; rfl) | (simp only [gt_iff_lt, Int.natCast_pos]; rfl)) ?_; (with_reducible refine (fathomref3_Add.calls kj1 ((((rd_T39 l0 x3_1).f0) / 4294967296) % 4294967296) ((((rd_T39 l0 x3_1).f1) / 4294967296) % 4294967296) 32 t451 _ A8.out).mono ?_); rintro e w22 ⟨rfl, hb⟩; refine ⟨_, rfl, ?_⟩; have n0_ := Aside0.mk (below_step (by repeat (first | (with_reducible first | exact HB.out | apply below_alloc | apply pw_below_drewN | apply below_drew1) | exact HB.out)) hb); clear HB; have HB := n0_; clear n0_; (try clear hb); (try clear hb2); (try clear hk); (try clear hi)) | (go_at_call 66; (with_reducible refine (float_Sub_uint32.calls ((((rd_T39 l0 x3_1).f0) / 4294967296) % 4294967296) ((((rd_T39 l0 x3_1).f1) / 4294967296) % 4294967296) t452 _ A10.out).mono ?_); rintro e w' ⟨rfl, ⟨nd, rfl⟩⟩) | (go_at_call 67; (with_reducible refine (fathomref3_Sub.calls kj1 ((((rd_T39 l0 x3_1).f0) / 4294967296) % 4294967296) ((((rd_T39 l0 x3_1).f1) / 4294967296) % 4294967296) 32 t453 _ A11.out).mono ?_); rintro e w23 ⟨rfl, hb⟩; have n0_ := Aside0.mk (below_step (by repeat (first | (with_reducible first | exact HB.out | apply below_alloc | apply pw_below_drewN | apply below_drew1) | exact HB.out)) hb); clear HB; have HB := n0_; clear n0_; (try clear hb); (try clear hb2); (try clear hk); (try clear hi)) | (go_at_call 68; (with_reducible refine (float_Mul_uint32.calls ((((rd_T39 l0 x3_1).f0) / 4294967296) % 4294967296) ((((rd_T39 l0 x3_1).f1) / 4294967296) % 4294967296) t454 _ A13.out).mono ?_); rintro e w' ⟨rfl, ⟨nd, rfl⟩⟩) | (go_at_call 69; (with_reducible refine (fathomref3_Mul.calls kj1 ((((rd_T39 l0 x3_1).f0) / 4294967296) % 4294967296) ((((rd_T39 l0 x3_1).f1) / 4294967296) % 4294967296) 32 t455 _ A14.out).mono ?_); rintro e w24 ⟨rfl, hb⟩; have n0_ := Aside0.mk (below_step (by repeat (first | (with_reducible first | exact HB.out | apply below_alloc | apply pw_below_drewN | apply below_drew1) | exact HB.out)) hb); clear HB; have HB := n0_; clear n0_; (try clear hb); (try clear hb2); (try clear hk); (try clear hi)) | (go_at_call 70; (with_reducible refine (float_Div_uint32.calls ((((rd_T39 l0 x3_1).f0) / 4294967296) % 4294967296) ((((rd_T39 l0 x3_1).f1) / 4294967296) % 4294967296) t456 _ A16.out).mono ?_); rintro e w' ⟨rfl, ⟨nd, rfl⟩⟩) | (go_at_call 71; (with_reducible refine (fathomref3_Div.calls kj1 ((((rd_T39 l0 x3_1).f0) / 4294967296) % 4294967296) ((((rd_T39 l0 x3_1).f1) / 4294967296) % 4294967296) 32 t457 _ A17.out).mono ?_); rintro e w25 ⟨rfl, hb⟩; have n0_ := Aside0.mk (below_step (by repeat (first | (with_reducible first | exact HB.out | apply below_alloc | apply pw_below_drewN | apply below_drew1) | exact HB.out)) hb); clear HB; have HB := n0_; clear n0_; (try clear hb); (try clear hb2); (try clear hk); (try clear hi)) | (go_at_call 72; (with_reducible refine (float_Root_uint32.calls ((((rd_T39 l0 x3_1).f0) / 4294967296) % 4294967296) t458 _ A19.out).mono ?_); rintro e w' ⟨rfl, ⟨nd, rfl⟩⟩) | (go_at_call 73; (with_reducible refine (fathomref3_Root.calls kj1 ((((rd_T39 l0 x3_1).f0) / 4294967296) % 4294967296) 32 t459 _ A20.out).mono ?_); rintro e w26 ⟨rfl, hb⟩; have n0_ := Aside0.mk (below_step (by repeat (first | (with_reducible first | exact HB.out | apply below_alloc | apply pw_below_drewN | apply below_drew1) | exact HB.out)) hb); clear HB; have HB := n0_; clear n0_; (try clear hb); (try clear hb2); (try clear hk); (try clear hi)))
                          go_roundg kj1
                          case measure => have := HK1.out; have := HJ1.out; omega
                          case rel => exact ⟨(wrap64 (x3_1 + 1)), (by first | rfl | (simp; done) | (simp [*]; done)), H', ⟨by have := HK1.out; have := HJ1.out; omega⟩, ⟨by repeat (first | (with_reducible first | exact HB.out | apply below_alloc | apply pw_below_drewN | apply below_drew1) | exact HB.out)⟩⟩
                        · rw [if_neg c21] at H
                          have c21b0 : ((IntKind.u64.wrap (t458)) == t459) = false := beq_eq_false_iff_ne.mpr c21
                          have c21b1 : ((IntKind.u64.wrap (t458)) != t459) = true := bne_iff_ne.mpr c21
                          obtain rfl := Option.some.inj H
                          have p448 : 0 ≤ (x3_1 : Int) := of_decide_eq_true (by first | (with_reducible assumption) | assumption)
                          have q448 : x3_1 < (l0.length : Int) := of_decide_eq_true (by first | (with_reducible assumption) | assumption)
                          obtain ⟨ad448, e448, hx448_0, hx448_1⟩ := at_T39 HR0.out x3_1 p448 q448
                          cases e448
                          replace hx448_0 := (HB.out.cell (World.block_lt_of_cell? w _ hx448_0)).trans hx448_0
                          replace hx448_1 := (HB.out.cell (World.block_lt_of_cell? w _ hx448_1)).trans hx448_1
                          replace p448 := eq_true p448
                          replace q448 := eq_true q448
                          have p449 : 0 ≤ (x3_1 : Int) := of_decide_eq_true (by first | (with_reducible assumption) | assumption)
                          have q449 : x3_1 < (l0.length : Int) := of_decide_eq_true (by first | (with_reducible assumption) | assumption)
                          obtain ⟨ad449, e449, hx449_0, hx449_1⟩ := at_T39 HR0.out x3_1 p449 q449
                          obtain rfl : ad448 = ad449 := (by injection e449)
                          replace hx449_0 := (HB.out.cell (World.block_lt_of_cell? w _ hx449_0)).trans hx449_0
                          replace hx449_1 := (HB.out.cell (World.block_lt_of_cell? w _ hx449_1)).trans hx449_1
                          replace p449 := eq_true p449
                          replace q449 := eq_true q449
                          go_wp2_with (first | ((with_reducible refine gate_callee (f := 64) rfl ?_); refine goesL_ (some 38) rfl rfl Try.func64 (by kernel_rfl) rfl #[.int .u32 ((((rd_T39 l0 x3_1).f0) / 4294967296) % 4294967296), .int .u32 ((((rd_T39 l0 x3_1).f1) / 4294967296) % 4294967296)] rfl (by (try simp only [List.map_toArray, List.map_cons, List.map_nil]); first | done | rfl | (simp only [List.length_drop, List.length_take]; rfl) | (simp only [gt_iff_lt, Int.natCast_pos]; rfl)) ?_; (with_reducible refine (float_Add_uint32.calls ((((rd_T39 l0 x3_1).f0) / 4294967296) % 4294967296) ((((rd_T39 l0 x3_1).f1) / 4294967296) % 4294967296) t450 _ A7.out).mono ?_); rintro e w' ⟨rfl, ⟨nd, rfl⟩⟩; refine ⟨_, rfl, ?_⟩) | ((with_reducible refine gate_callee (f := 65) rfl ?_); refine goesL_ (some 42) rfl rfl Try.func65 (by kernel_rfl) rfl #[.int .u64 ((((rd_T39 l0 x3_1).f0) / 4294967296) % 4294967296), .int .u64 ((((rd_T39 l0 x3_1).f1) / 4294967296) % 4294967296), .int .i64 32] rfl (by (try simp only [List.map_toArray, List.map_cons, List.map_nil]); first | done | rfl | (simp only [List.length_drop, List.length_take]; rfl) | (simp only [gt_iff_lt, Int.natCast_pos]; rfl)) ?_; (with_reducible refine (fathomref3_Add.calls kj1 ((((rd_T39 l0 x3_1).f0) / 4294967296) % 4294967296) ((((rd_T39 l0 x3_1).f1) / 4294967296) % 4294967296) 32 t451 _ A8.out).mono ?_); rintro e w27 ⟨rfl, hb⟩; refine ⟨_, rfl, ?_⟩; have n0_ := Aside0.mk (below_step (by repeat (first | (with_reducible first | exact HB.out | apply below_alloc | apply pw_below_drewN | apply below_drew1) | exact HB.out)) hb); clear HB; have HB := n0_; clear n0_; (try clear hb); (try clear hb2); (try clear hk); (try clear hi)) | (go_at_call 66; (with_reducible refine (float_Sub_uint32.calls ((((rd_T39 l0 x3_1).f0) / 4294967296) % 4294967296) ((((rd_T39 l0 x3_1).f1) / 4294967296) % 4294967296) t452 _ A10.out).mono ?_); rintro e w' ⟨rfl, ⟨nd, rfl⟩⟩) | (go_at_call 67; (with_reducible refine (fathomref3_Sub.calls kj1 ((((rd_T39 l0 x3_1).f0) / 4294967296) % 4294967296) ((((rd_T39 l0 x3_1).f1) / 4294967296) % 4294967296) 32 t453 _ A11.out).mono ?_); rintro e w28 ⟨rfl, hb⟩; have n0_ := Aside0.mk (below_step (by repeat (first | (with_reducible first | exact HB.out | apply below_alloc | apply pw_below_drewN | apply below_drew1) | exact HB.out)) hb); clear HB; have HB := n0_; clear n0_; (try clear hb); (try clear hb2); (try clear hk); (try clear hi)) | (go_at_call 68; (with_reducible refine (float_Mul_uint32.calls ((((rd_T39 l0 x3_1).f0) / 4294967296) % 4294967296) ((((rd_T39 l0 x3_1).f1) / 4294967296) % 4294967296) t454 _ A13.out).mono ?_); rintro e w' ⟨rfl, ⟨nd, rfl⟩⟩) | (go_at_call 69; (with_reducible refine (fathomref3_Mul.calls kj1 ((((rd_T39 l0 x3_1).f0) / 4294967296) % 4294967296) ((((rd_T39 l0 x3_1).f1) / 4294967296) % 4294967296) 32 t455 _ A14.out).mono ?_); rintro e w29 ⟨rfl, hb⟩; have n0_ := Aside0.mk (below_step (by repeat (first | (with_reducible first | exact HB.out | apply below_alloc | apply pw_below_drewN | apply below_drew1) | exact HB.out)) hb); clear HB; have HB := n0_; clear n0_; (try clear hb); (try clear hb2); (try clear hk); (try clear hi)) | (go_at_call 70; (with_reducible refine (float_Div_uint32.calls ((((rd_T39 l0 x3_1).f0) / 4294967296) % 4294967296) ((((rd_T39 l0 x3_1).f1) / 4294967296) % 4294967296) t456 _ A16.out).mono ?_); rintro e w' ⟨rfl, ⟨nd, rfl⟩⟩) | (go_at_call 71; (with_reducible refine (fathomref3_Div.calls kj1 ((((rd_T39 l0 x3_1).f0) / 4294967296) % 4294967296) ((((rd_T39 l0 x3_1).f1) / 4294967296) % 4294967296) 32 t457 _ A17.out).mono ?_); rintro e w30 ⟨rfl, hb⟩; have n0_ := Aside0.mk (below_step (by repeat (first | (with_reducible first | exact HB.out | apply below_alloc | apply pw_below_drewN | apply below_drew1) | exact HB.out)) hb); clear HB; have HB := n0_; clear n0_; (try clear hb); (try clear hb2); (try clear hk); (try clear hi)) | (go_at_call 72; (with_reducible refine (float_Root_uint32.calls ((((rd_T39 l0 x3_1).f0) / 4294967296) % 4294967296) t458 _ A19.out).mono ?_); rintro e w' ⟨rfl, ⟨nd, rfl⟩⟩) | (go_at_call 73; (with_reducible refine (fathomref3_Root.calls kj1 ((((rd_T39 l0 x3_1).f0) / 4294967296) % 4294967296) 32 t459 _ A20.out).mono ?_); rintro e w31 ⟨rfl, hb⟩; have n0_ := Aside0.mk (below_step (by repeat (first | (with_reducible first | exact HB.out | apply below_alloc | apply pw_below_drewN | apply below_drew1) | exact HB.out)) hb); clear HB; have HB := n0_; clear n0_; (try clear hb); (try clear hb2); (try clear hk); (try clear hi)))
                          go_ret
                          exact ⟨by first | rfl | (simp [errW_none, errW_some] <;> rfl) | (simp [*, errW_none, errW_some] <;> rfl), by repeat (first | (with_reducible first | exact HB.out | apply below_alloc | apply pw_below_drewN | apply below_drew1) | exact HB.out)⟩
                      · rw [if_neg c18] at H
                        have c18b0 : ((IntKind.u64.wrap (t456)) == t457) = false := beq_eq_false_iff_ne.mpr c18
                        have c18b1 : ((IntKind.u64.wrap (t456)) != t457) = true := bne_iff_ne.mpr c18
                        obtain rfl := Option.some.inj H
                        have p448 : 0 ≤ (x3_1 : Int) := of_decide_eq_true (by first | (with_reducible assumption) | assumption)
                        have q448 : x3_1 < (l0.length : Int) := of_decide_eq_true (by first | (with_reducible assumption) | assumption)
                        obtain ⟨ad448, e448, hx448_0, hx448_1⟩ := at_T39 HR0.out x3_1 p448 q448
                        cases e448
                        replace hx448_0 := (HB.out.cell (World.block_lt_of_cell? w _ hx448_0)).trans hx448_0
                        replace hx448_1 := (HB.out.cell (World.block_lt_of_cell? w _ hx448_1)).trans hx448_1
                        replace p448 := eq_true p448
                        replace q448 := eq_true q448
                        have p449 : 0 ≤ (x3_1 : Int) := of_decide_eq_true (by first | (with_reducible assumption) | assumption)
                        have q449 : x3_1 < (l0.length : Int) := of_decide_eq_true (by first | (with_reducible assumption) | assumption)
                        obtain ⟨ad449, e449, hx449_0, hx449_1⟩ := at_T39 HR0.out x3_1 p449 q449
                        obtain rfl : ad448 = ad449 := (by injection e449)
                        replace hx449_0 := (HB.out.cell (World.block_lt_of_cell? w _ hx449_0)).trans hx449_0
                        replace hx449_1 := (HB.out.cell (World.block_lt_of_cell? w _ hx449_1)).trans hx449_1
                        replace p449 := eq_true p449
                        replace q449 := eq_true q449
                        go_wp2_with (first | ((with_reducible refine gate_callee (f := 64) rfl ?_); refine goesL_ (some 38) rfl rfl Try.func64 (by kernel_rfl) rfl #[.int .u32 ((((rd_T39 l0 x3_1).f0) / 4294967296) % 4294967296), .int .u32 ((((rd_T39 l0 x3_1).f1) / 4294967296) % 4294967296)] rfl (by (try simp only [List.map_toArray, List.map_cons, List.map_nil]); first | done | rfl | (simp only [List.length_drop, List.length_take]; rfl) | (simp only [gt_iff_lt, Int.natCast_pos]; rfl)) ?_; (with_reducible refine (float_Add_uint32.calls ((((rd_T39 l0 x3_1).f0) / 4294967296) % 4294967296) ((((rd_T39 l0 x3_1).f1) / 4294967296) % 4294967296) t450 _ A7.out).mono ?_); rintro e w' ⟨rfl, ⟨nd, rfl⟩⟩; refine ⟨_, rfl, ?_⟩) | ((with_reducible refine gate_callee (f := 65) rfl ?_); refine goesL_ (some 42) rfl rfl Try.func65 (by kernel_rfl) rfl #[.int .u64 ((((rd_T39 l0 x3_1).f0) / 4294967296) % 4294967296), .int .u64 ((((rd_T39 l0 x3_1).f1) / 4294967296) % 4294967296), .int .i64 32] rfl (by (try simp only [List.map_toArray, List.map_cons, List.map_nil]); first | done | rfl | (simp only [List.length_drop, List.length_take]; rfl) | (simp only [gt_iff_lt, Int.natCast_pos]; rfl)) ?_; (with_reducible refine (fathomref3_Add.calls kj1 ((((rd_T39 l0 x3_1).f0) / 4294967296) % 4294967296) ((((rd_T39 l0 x3_1).f1) / 4294967296) % 4294967296) 32 t451 _ A8.out).mono ?_); rintro e w32 ⟨rfl, hb⟩; refine ⟨_, rfl, ?_⟩; have n0_ := Aside0.mk (below_step (by repeat (first | (with_reducible first | exact HB.out | apply below_alloc | apply pw_below_drewN | apply below_drew1) | exact HB.out)) hb); clear HB; have HB := n0_; clear n0_; (try clear hb); (try clear hb2); (try clear hk); (try clear hi)) | (go_at_call 66; (with_reducible refine (float_Sub_uint32.calls ((((rd_T39 l0 x3_1).f0) / 4294967296) % 4294967296) ((((rd_T39 l0 x3_1).f1) / 4294967296) % 4294967296) t452 _ A10.out).mono ?_); rintro e w' ⟨rfl, ⟨nd, rfl⟩⟩) | (go_at_call 67; (with_reducible refine (fathomref3_Sub.calls kj1 ((((rd_T39 l0 x3_1).f0) / 4294967296) % 4294967296) ((((rd_T39 l0 x3_1).f1) / 4294967296) % 4294967296) 32 t453 _ A11.out).mono ?_); rintro e w33 ⟨rfl, hb⟩; have n0_ := Aside0.mk (below_step (by repeat (first | (with_reducible first | exact HB.out | apply below_alloc | apply pw_below_drewN | apply below_drew1) | exact HB.out)) hb); clear HB; have HB := n0_; clear n0_; (try clear hb); (try clear hb2); (try clear hk); (try clear hi)) | (go_at_call 68; (with_reducible refine (float_Mul_uint32.calls ((((rd_T39 l0 x3_1).f0) / 4294967296) % 4294967296) ((((rd_T39 l0 x3_1).f1) / 4294967296) % 4294967296) t454 _ A13.out).mono ?_); rintro e w' ⟨rfl, ⟨nd, rfl⟩⟩) | (go_at_call 69; (with_reducible refine (fathomref3_Mul.calls kj1 ((((rd_T39 l0 x3_1).f0) / 4294967296) % 4294967296) ((((rd_T39 l0 x3_1).f1) / 4294967296) % 4294967296) 32 t455 _ A14.out).mono ?_); rintro e w34 ⟨rfl, hb⟩; have n0_ := Aside0.mk (below_step (by repeat (first | (with_reducible first | exact HB.out | apply below_alloc | apply pw_below_drewN | apply below_drew1) | exact HB.out)) hb); clear HB; have HB := n0_; clear n0_; (try clear hb); (try clear hb2); (try clear hk); (try clear hi)) | (go_at_call 70; (with_reducible refine (float_Div_uint32.calls ((((rd_T39 l0 x3_1).f0) / 4294967296) % 4294967296) ((((rd_T39 l0 x3_1).f1) / 4294967296) % 4294967296) t456 _ A16.out).mono ?_); rintro e w' ⟨rfl, ⟨nd, rfl⟩⟩) | (go_at_call 71; (with_reducible refine (fathomref3_Div.calls kj1 ((((rd_T39 l0 x3_1).f0) / 4294967296) % 4294967296) ((((rd_T39 l0 x3_1).f1) / 4294967296) % 4294967296) 32 t457 _ A17.out).mono ?_); rintro e w35 ⟨rfl, hb⟩; have n0_ := Aside0.mk (below_step (by repeat (first | (with_reducible first | exact HB.out | apply below_alloc | apply pw_below_drewN | apply below_drew1) | exact HB.out)) hb); clear HB; have HB := n0_; clear n0_; (try clear hb); (try clear hb2); (try clear hk); (try clear hi)))
                        go_ret
                        exact ⟨by first | rfl | (simp [errW_none, errW_some] <;> rfl) | (simp [*, errW_none, errW_some] <;> rfl), by repeat (first | (with_reducible first | exact HB.out | apply below_alloc | apply pw_below_drewN | apply below_drew1) | exact HB.out)⟩
                    · rw [if_neg c15] at H
                      have c15b0 : ((IntKind.u64.wrap (t454)) == t455) = false := beq_eq_false_iff_ne.mpr c15
                      have c15b1 : ((IntKind.u64.wrap (t454)) != t455) = true := bne_iff_ne.mpr c15
                      obtain rfl := Option.some.inj H
                      have p448 : 0 ≤ (x3_1 : Int) := of_decide_eq_true (by first | (with_reducible assumption) | assumption)
                      have q448 : x3_1 < (l0.length : Int) := of_decide_eq_true (by first | (with_reducible assumption) | assumption)
                      obtain ⟨ad448, e448, hx448_0, hx448_1⟩ := at_T39 HR0.out x3_1 p448 q448
                      cases e448
                      replace hx448_0 := (HB.out.cell (World.block_lt_of_cell? w _ hx448_0)).trans hx448_0
                      replace hx448_1 := (HB.out.cell (World.block_lt_of_cell? w _ hx448_1)).trans hx448_1
                      replace p448 := eq_true p448
                      replace q448 := eq_true q448
                      have p449 : 0 ≤ (x3_1 : Int) := of_decide_eq_true (by first | (with_reducible assumption) | assumption)
                      have q449 : x3_1 < (l0.length : Int) := of_decide_eq_true (by first | (with_reducible assumption) | assumption)
                      obtain ⟨ad449, e449, hx449_0, hx449_1⟩ := at_T39 HR0.out x3_1 p449 q449
                      obtain rfl : ad448 = ad449 := (by injection e449)
                      replace hx449_0 := (HB.out.cell (World.block_lt_of_cell? w _ hx449_0)).trans hx449_0
                      replace hx449_1 := (HB.out.cell (World.block_lt_of_cell? w _ hx449_1)).trans hx449_1
                      replace p449 := eq_true p449
                      replace q449 := eq_true q449
                      go_wp2_with (first | ((with_reducible refine gate_callee (f := 64) rfl ?_); refine goesL_ (some 38) rfl rfl Try.func64 (by kernel_rfl) rfl #[.int .u32 ((((rd_T39 l0 x3_1).f0) / 4294967296) % 4294967296), .int .u32 ((((rd_T39 l0 x3_1).f1) / 4294967296) % 4294967296)] rfl (by (try simp only [List.map_toArray, List.map_cons, List.map_nil]); first | done | rfl | (simp only [List.length_drop, List.length_take]; rfl) | (simp only [gt_iff_lt, Int.natCast_pos]; rfl)) ?_; (with_reducible refine (float_Add_uint32.calls ((((rd_T39 l0 x3_1).f0) / 4294967296) % 4294967296) ((((rd_T39 l0 x3_1).f1) / 4294967296) % 4294967296) t450 _ A7.out).mono ?_); rintro e w' ⟨rfl, ⟨nd, rfl⟩⟩; refine ⟨_, rfl, ?_⟩) | ((with_reducible refine gate_callee (f := 65) rfl ?_); refine goesL_ (some 42) rfl rfl Try.func65 (by kernel_rfl) rfl #[.int .u64 ((((rd_T39 l0 x3_1).f0) / 4294967296) % 4294967296), .int .u64 ((((rd_T39 l0 x3_1).f1) / 4294967296) % 4294967296), .int .i64 32] rfl (by (try simp only [List.map_toArray, List.map_cons, List.map_nil]); first | done | rfl | (simp only [List.length_drop, List.length_take]; rfl) | (simp only [gt_iff_lt, Int.natCast_pos]; rfl)) ?_; (with_reducible refine (fathomref3_Add.calls kj1 ((((rd_T39 l0 x3_1).f0) / 4294967296) % 4294967296) ((((rd_T39 l0 x3_1).f1) / 4294967296) % 4294967296) 32 t451 _ A8.out).mono ?_); rintro e w36 ⟨rfl, hb⟩; refine ⟨_, rfl, ?_⟩; have n0_ := Aside0.mk (below_step (by repeat (first | (with_reducible first | exact HB.out | apply below_alloc | apply pw_below_drewN | apply below_drew1) | exact HB.out)) hb); clear HB; have HB := n0_; clear n0_; (try clear hb); (try clear hb2); (try clear hk); (try clear hi)) | (go_at_call 66; (with_reducible refine (float_Sub_uint32.calls ((((rd_T39 l0 x3_1).f0) / 4294967296) % 4294967296) ((((rd_T39 l0 x3_1).f1) / 4294967296) % 4294967296) t452 _ A10.out).mono ?_); rintro e w' ⟨rfl, ⟨nd, rfl⟩⟩) | (go_at_call 67; (with_reducible refine (fathomref3_Sub.calls kj1 ((((rd_T39 l0 x3_1).f0) / 4294967296) % 4294967296) ((((rd_T39 l0 x3_1).f1) / 4294967296) % 4294967296) 32 t453 _ A11.out).mono ?_); rintro e w37 ⟨rfl, hb⟩; have n0_ := Aside0.mk (below_step (by repeat (first | (with_reducible first | exact HB.out | apply below_alloc | apply pw_below_drewN | apply below_drew1) | exact HB.out)) hb); clear HB; have HB := n0_; clear n0_; (try clear hb); (try clear hb2); (try clear hk); (try clear hi)) | (go_at_call 68; (with_reducible refine (float_Mul_uint32.calls ((((rd_T39 l0 x3_1).f0) / 4294967296) % 4294967296) ((((rd_T39 l0 x3_1).f1) / 4294967296) % 4294967296) t454 _ A13.out).mono ?_); rintro e w' ⟨rfl, ⟨nd, rfl⟩⟩) | (go_at_call 69; (with_reducible refine (fathomref3_Mul.calls kj1 ((((rd_T39 l0 x3_1).f0) / 4294967296) % 4294967296) ((((rd_T39 l0 x3_1).f1) / 4294967296) % 4294967296) 32 t455 _ A14.out).mono ?_); rintro e w38 ⟨rfl, hb⟩; have n0_ := Aside0.mk (below_step (by repeat (first | (with_reducible first | exact HB.out | apply below_alloc | apply pw_below_drewN | apply below_drew1) | exact HB.out)) hb); clear HB; have HB := n0_; clear n0_; (try clear hb); (try clear hb2); (try clear hk); (try clear hi)))
                      go_ret
                      exact ⟨by first | rfl | (simp [errW_none, errW_some] <;> rfl) | (simp [*, errW_none, errW_some] <;> rfl), by repeat (first | (with_reducible first | exact HB.out | apply below_alloc | apply pw_below_drewN | apply below_drew1) | exact HB.out)⟩
                  · rw [if_neg c12] at H
                    have c12b0 : ((IntKind.u64.wrap (t452)) == t453) = false := beq_eq_false_iff_ne.mpr c12
                    have c12b1 : ((IntKind.u64.wrap (t452)) != t453) = true := bne_iff_ne.mpr c12
                    obtain rfl := Option.some.inj H
                    have p448 : 0 ≤ (x3_1 : Int) := of_decide_eq_true (by first | (with_reducible assumption) | assumption)
                    have q448 : x3_1 < (l0.length : Int) := of_decide_eq_true (by first | (with_reducible assumption) | assumption)
                    obtain ⟨ad448, e448, hx448_0, hx448_1⟩ := at_T39 HR0.out x3_1 p448 q448
                    cases e448
                    replace hx448_0 := (HB.out.cell (World.block_lt_of_cell? w _ hx448_0)).trans hx448_0
                    replace hx448_1 := (HB.out.cell (World.block_lt_of_cell? w _ hx448_1)).trans hx448_1
                    replace p448 := eq_true p448
                    replace q448 := eq_true q448
                    have p449 : 0 ≤ (x3_1 : Int) := of_decide_eq_true (by first | (with_reducible assumption) | assumption)
                    have q449 : x3_1 < (l0.length : Int) := of_decide_eq_true (by first | (with_reducible assumption) | assumption)
                    obtain ⟨ad449, e449, hx449_0, hx449_1⟩ := at_T39 HR0.out x3_1 p449 q449
                    obtain rfl : ad448 = ad449 := (by injection e449)
                    replace hx449_0 := (HB.out.cell (World.block_lt_of_cell? w _ hx449_0)).trans hx449_0
                    replace hx449_1 := (HB.out.cell (World.block_lt_of_cell? w _ hx449_1)).trans hx449_1
                    replace p449 := eq_true p449
                    replace q449 := eq_true q449
                    go_wp2_with (first | ((with_reducible refine gate_callee (f := 64) rfl ?_); refine goesL_ (some 38) rfl rfl Try.func64 (by kernel_rfl) rfl #[.int .u32 ((((rd_T39 l0 x3_1).f0) / 4294967296) % 4294967296), .int .u32 ((((rd_T39 l0 x3_1).f1) / 4294967296) % 4294967296)] rfl (by (try simp only [List.map_toArray, List.map_cons, List.map_nil]); first | done | rfl | (simp only [List.length_drop, List.length_take]; rfl) | (simp only [gt_iff_lt, Int.natCast_pos]; rfl)) ?_; (with_reducible refine (float_Add_uint32.calls ((((rd_T39 l0 x3_1).f0) / 4294967296) % 4294967296) ((((rd_T39 l0 x3_1).f1) / 4294967296) % 4294967296) t450 _ A7.out).mono ?_); rintro e w' ⟨rfl, ⟨nd, rfl⟩⟩; refine ⟨_, rfl, ?_⟩) | ((with_reducible refine gate_callee (f := 65) rfl ?_); refine goesL_ (some 42) rfl rfl Try.func65 (by kernel_rfl) rfl #[.int .u64 ((((rd_T39 l0 x3_1).f0) / 4294967296) % 4294967296), .int .u64 ((((rd_T39 l0 x3_1).f1) / 4294967296) % 4294967296), .int .i64 32] rfl (by (try simp only [List.map_toArray, List.map_cons, List.map_nil]); first | done | rfl | (simp only [List.length_drop, List.length_take]; rfl) | (simp only [gt_iff_lt, Int.natCast_pos]; rfl)) ?_; (with_reducible refine (fathomref3_Add.calls kj1 ((((rd_T39 l0 x3_1).f0) / 4294967296) % 4294967296) ((((rd_T39 l0 x3_1).f1) / 4294967296) % 4294967296) 32 t451 _ A8.out).mono ?_); rintro e w39 ⟨rfl, hb⟩; refine ⟨_, rfl, ?_⟩; have n0_ := Aside0.mk (below_step (by repeat (first | (with_reducible first | exact HB.out | apply below_alloc | apply pw_below_drewN | apply below_drew1) | exact HB.out)) hb); clear HB; have HB := n0_; clear n0_; (try clear hb); (try clear hb2); (try clear hk); (try clear hi)) | (go_at_call 66; (with_reducible refine (float_Sub_uint32.calls ((((rd_T39 l0 x3_1).f0) / 4294967296) % 4294967296) ((((rd_T39 l0 x3_1).f1) / 4294967296) % 4294967296) t452 _ A10.out).mono ?_); rintro e w' ⟨rfl, ⟨nd, rfl⟩⟩) | (go_at_call 67; (with_reducible refine (fathomref3_Sub.calls kj1 ((((rd_T39 l0 x3_1).f0) / 4294967296) % 4294967296) ((((rd_T39 l0 x3_1).f1) / 4294967296) % 4294967296) 32 t453 _ A11.out).mono ?_); rintro e w40 ⟨rfl, hb⟩; have n0_ := Aside0.mk (below_step (by repeat (first | (with_reducible first | exact HB.out | apply below_alloc | apply pw_below_drewN | apply below_drew1) | exact HB.out)) hb); clear HB; have HB := n0_; clear n0_; (try clear hb); (try clear hb2); (try clear hk); (try clear hi)))
                    go_ret
                    exact ⟨by first | rfl | (simp [errW_none, errW_some] <;> rfl) | (simp [*, errW_none, errW_some] <;> rfl), by repeat (first | (with_reducible first | exact HB.out | apply below_alloc | apply pw_below_drewN | apply below_drew1) | exact HB.out)⟩
                · rw [if_neg c9] at H
                  have c9b0 : ((IntKind.u64.wrap (t450)) == t451) = false := beq_eq_false_iff_ne.mpr c9
                  have c9b1 : ((IntKind.u64.wrap (t450)) != t451) = true := bne_iff_ne.mpr c9
                  obtain rfl := Option.some.inj H
                  have p448 : 0 ≤ (x3_1 : Int) := of_decide_eq_true (by first | (with_reducible assumption) | assumption)
                  have q448 : x3_1 < (l0.length : Int) := of_decide_eq_true (by first | (with_reducible assumption) | assumption)
                  obtain ⟨ad448, e448, hx448_0, hx448_1⟩ := at_T39 HR0.out x3_1 p448 q448
                  cases e448
                  replace hx448_0 := (HB.out.cell (World.block_lt_of_cell? w _ hx448_0)).trans hx448_0
                  replace hx448_1 := (HB.out.cell (World.block_lt_of_cell? w _ hx448_1)).trans hx448_1
                  replace p448 := eq_true p448
                  replace q448 := eq_true q448
                  have p449 : 0 ≤ (x3_1 : Int) := of_decide_eq_true (by first | (with_reducible assumption) | assumption)
                  have q449 : x3_1 < (l0.length : Int) := of_decide_eq_true (by first | (with_reducible assumption) | assumption)
                  obtain ⟨ad449, e449, hx449_0, hx449_1⟩ := at_T39 HR0.out x3_1 p449 q449
                  obtain rfl : ad448 = ad449 := (by injection e449)
                  replace hx449_0 := (HB.out.cell (World.block_lt_of_cell? w _ hx449_0)).trans hx449_0
                  replace hx449_1 := (HB.out.cell (World.block_lt_of_cell? w _ hx449_1)).trans hx449_1
                  replace p449 := eq_true p449
                  replace q449 := eq_true q449
                  go_wp2_with (first | ((with_reducible refine gate_callee (f := 64) rfl ?_); refine goesL_ (some 38) rfl rfl Try.func64 (by kernel_rfl) rfl #[.int .u32 ((((rd_T39 l0 x3_1).f0) / 4294967296) % 4294967296), .int .u32 ((((rd_T39 l0 x3_1).f1) / 4294967296) % 4294967296)] rfl (by (try simp only [List.map_toArray, List.map_cons, List.map_nil]); first | done | rfl | (simp only [List.length_drop, List.length_take]; rfl) | (simp only [gt_iff_lt, Int.natCast_pos]; rfl)) ?_; (with_reducible refine (float_Add_uint32.calls ((((rd_T39 l0 x3_1).f0) / 4294967296) % 4294967296) ((((rd_T39 l0 x3_1).f1) / 4294967296) % 4294967296) t450 _ A7.out).mono ?_); rintro e w' ⟨rfl, ⟨nd, rfl⟩⟩; refine ⟨_, rfl, ?_⟩) | ((with_reducible refine gate_callee (f := 65) rfl ?_); refine goesL_ (some 42) rfl rfl Try.func65 (by kernel_rfl) rfl #[.int .u64 ((((rd_T39 l0 x3_1).f0) / 4294967296) % 4294967296), .int .u64 ((((rd_T39 l0 x3_1).f1) / 4294967296) % 4294967296), .int .i64 32] rfl (by (try simp only [List.map_toArray, List.map_cons, List.map_nil]); first | done | rfl | (simp only [List.length_drop, List.length_take]; rfl) | (simp only [gt_iff_lt, Int.natCast_pos]; rfl)) ?_; (with_reducible refine (fathomref3_Add.calls kj1 ((((rd_T39 l0 x3_1).f0) / 4294967296) % 4294967296) ((((rd_T39 l0 x3_1).f1) / 4294967296) % 4294967296) 32 t451 _ A8.out).mono ?_); rintro e w41 ⟨rfl, hb⟩; refine ⟨_, rfl, ?_⟩; have n0_ := Aside0.mk (below_step (by repeat (first | (with_reducible first | exact HB.out | apply below_alloc | apply pw_below_drewN | apply below_drew1) | exact HB.out)) hb); clear HB; have HB := n0_; clear n0_; (try clear hb); (try clear hb2); (try clear hk); (try clear hi)))
                  go_ret
                  exact ⟨by first | rfl | (simp [errW_none, errW_some] <;> rfl) | (simp [*, errW_none, errW_some] <;> rfl), by repeat (first | (with_reducible first | exact HB.out | apply below_alloc | apply pw_below_drewN | apply below_drew1) | exact HB.out)⟩
              · rw [if_neg c6] at H
                exact absurd H (by simp)
            · rw [if_neg c5] at H
              exact absurd H (by simp)
          · replace c4 := Bool.eq_false_iff.mpr c4
            subst c4
            have H1 : ((fathomlaw3_wakes.f).bind fun t447 => (some t447)) = some r := by rw [if_neg (show ¬ (false = true) by decide)] at H; exact H
            clear H
            have H := H1
            clear H1
            replace H := Option.bind_eq_some_iff.mp H
            obtain ⟨t447, A420, H⟩ := H
            replace H : (some t447) = some r := H
            have A42 := Aside0.mk A420
            clear A420
            obtain rfl := Option.some.inj H
            go_wp2_with (first | ((with_reducible refine gate_callee (f := 24) rfl ?_); refine goesL_ (some 82) rfl rfl Try.func24 (by kernel_rfl) rfl #[] rfl (by (try simp only [List.map_toArray, List.map_cons, List.map_nil]); first | done | rfl | (simp only [List.length_drop, List.length_take]; rfl) | (simp only [gt_iff_lt, Int.natCast_pos]; rfl)) ?_; (with_reducible refine (fathomlaw3_wakes.calls  t447 _ A42.out).mono ?_); rintro e w43 ⟨rfl, hb⟩; refine ⟨_, rfl, ?_⟩; have n0_ := Aside0.mk (below_step (by repeat (first | (with_reducible first | exact HB.out | apply below_alloc | apply pw_below_drewN | apply below_drew1) | exact HB.out)) hb); clear HB; have HB := n0_; clear n0_; (try clear hb); (try clear hb2); (try clear hk); (try clear hi)))
            go_ret
            exact ⟨by first | rfl | (simp [errW_none, errW_some] <;> rfl) | (simp [*, errW_none, errW_some] <;> rfl), by repeat (first | (with_reducible first | exact HB.out | apply below_alloc | apply pw_below_drewN | apply below_drew1) | exact HB.out)⟩
end Go.Proofs.Ytfloeiagdegpjaa.LThin
