/- The law FloatWhole: what its body comes to, as a Lean function over the rows that it is handed. The walk began as print.sh's text for this function, over the float functions of YtfloeiagdegpjaaSt. -/
import Derived.Test.YtfloeiagdegpjaaSt
import Derived.Test.YtfloeiagdegpjaaRb
namespace Go.Proofs.Ytfloeiagdegpjaa.LWhole
open Go.RowKit Go.Proofs.YtfloeiagdegpjaaW.PrintWords Go.Proofs.YtfloeiagdegpjaaW.PrintLast Go.Proofs.YtfloeiagdegpjaaW.PrintMore Go.Proofs.Ytfloeiagdegpjaa.Rf
attribute [local go_sem] max2_int min2_int max_two min_two max_three min_three max_four min_four
set_option linter.unusedVariables false
set_option linter.unusedSimpArgs false

/-! #### struct type 44 -/
structure S44 where
  f0 : Int
  f1 : Int
def z44 : S44 := ⟨(0 : Int), (0 : Int)⟩
def k44 : Kd S44 := Kd.iso (Kd.pair (Kd.int .u64) (Kd.int .i64)) (fun x : S44 => (x.f0, x.f1))
theorem k44_heap : Kd.Heap k44 := Kd.heap_iso _ (Kd.heap_pair (Kd.heap_int .u64) (Kd.heap_int .i64))
theorem k44_open {w : World} {x : S44} {cs : List Value} (h : k44.K w x cs) : cs = [.int .u64 x.f0, .int .i64 x.f1] := by
  obtain ⟨_, _, rfl, rfl, rfl⟩ := h
  exact rfl
theorem k44_openM {w : World} {base : Nat} {ok : Nat → Prop} {x : S44} {cs : List Value} (h : k44.M w base ok x cs) : cs = [.int .u64 x.f0, .int .i64 x.f1] := by
  obtain ⟨_, _, rfl, rfl, rfl⟩ := h
  exact rfl
theorem k44_mk (w : World) (x : S44)  : k44.K w x [.int .u64 x.f0, .int .i64 x.f1] := ⟨[.int .u64 x.f0], [.int .i64 x.f1], rfl, rfl, rfl⟩
theorem k44_mkM (w : World) (base : Nat) (ok : Nat → Prop) (x : S44)  : k44.M w base ok x [.int .u64 x.f0, .int .i64 x.f1] := ⟨[.int .u64 x.f0], [.int .i64 x.f1], rfl, rfl, rfl⟩
theorem k44_mkF (W : World) (ok : Nat → Prop) (x : S44) : Kd.FK k44 W ok x [.int .u64 x.f0, .int .i64 x.f1] := fun W2 _ => k44_mk W2 x
def rd_T44 (xs : List S44) (i : Int) : S44 := xs.getD i.toNat z44
theorem at_T44 {w : World} {A : Option Addr} {n : Nat} {xs : List S44} (h : Kd.C k44 w A n xs) (i : Int) (h0 : 0 ≤ i) (h1 : i < n) : ∃ ad , A = some ad ∧ w.cell? (ad.add (i.toNat * 2)) = some (.int .u64 (rd_T44 xs i).f0) ∧ w.cell? ⟨(ad.add (i.toNat * 2)).block, (ad.add (i.toNat * 2)).off + 1, none⟩ = some (.int .i64 (rd_T44 xs i).f1) := by
  obtain ⟨ad, c, e, _, hK, hc0⟩ := Kd.C_get h z44 i h0 h1
  have hc : ∀ j u, c[j]? = some u → w.cell? (ad.add (i.toNat * 2 + j)) = some u := hc0
  obtain rfl := k44_open hK
  exact ⟨ad, e, hc 0 _ rfl, by rw [← add_field _ _ 1 (by omega)]; exact hc 1 _ rfl⟩


/-! ### fathomlaw3_FloatWhole: function 5 -/
mutual
def fathomlaw3_FloatWhole.l0 : Nat → List (S44) → Int → Option (Bool)
  | 0, _, _ => none
  | k + 1, x0, x3 => if x3 < (x0.length : Int) then (fathomlaw3_FloatWhole.j1 k x0 x3 (decide (x3 < 2000))) else (fathomlaw3_FloatWhole.j1 k x0 x3 false)
def fathomlaw3_FloatWhole.j1 : Nat → List (S44) → Int → Bool → Option (Bool)
  | 0, _, _, _ => none
  | k + 1, x0, x3, x20 => if x20 = true then (if 0 ≤ x3 then (if x3 < (x0.length : Int) then ((float_FromInt.f (wrap64 ((rd_T44 x0 x3).f0))).bind fun t353 => ((fathomref3_FromInt.f k (wrap64 ((rd_T44 x0 x3).f0))).bind fun t354 => (if t353 = t354 then ((float_FromUint.f ((rd_T44 x0 x3).f0)).bind fun t355 => ((fathomref3_FromUint.f k ((rd_T44 x0 x3).f0)).bind fun t356 => (if t355 = t356 then ((float_FromInt32.f (wrap64 ((rd_T44 x0 x3).f0))).bind fun t357 => ((fathomref3_FromInt32.f k (wrap64 ((rd_T44 x0 x3).f0))).bind fun t358 => (fathomlaw3_FloatWhole.j2 k x0 x3 ((rd_T44 x0 x3).f0) (t357 != t358)))) else (fathomlaw3_FloatWhole.j2 k x0 x3 ((rd_T44 x0 x3).f0) true)))) else (fathomlaw3_FloatWhole.j2 k x0 x3 ((rd_T44 x0 x3).f0) true)))) else (none)) else (none)) else ((fathomlaw3_wakes.f).bind fun t351 => (some t351))
def fathomlaw3_FloatWhole.j2 : Nat → List (S44) → Int → Int → Bool → Option (Bool)
  | 0, _, _, _, _ => none
  | k + 1, x0, x3, x4, x50 => if x50 = true then (some false) else (if 0 ≤ x3 then (if x3 < (x0.length : Int) then ((float_ToInt.f x4 ((rd_T44 x0 x3).f1)).bind fun bt360 => ((fathomref3_ToInt.f k x4 ((rd_T44 x0 x3).f1)).bind fun bt363 => (if bt360.1 = bt363.1 then ((fathomlaw3_num.f bt360.2).bind fun t365 => (fathomlaw3_FloatWhole.j3 k x0 x3 x4 (t365 != bt363.2))) else (fathomlaw3_FloatWhole.j3 k x0 x3 x4 true)))) else (none)) else (none))
def fathomlaw3_FloatWhole.j3 : Nat → List (S44) → Int → Int → Bool → Option (Bool)
  | 0, _, _, _, _ => none
  | k + 1, x0, x3, x4, x79 => if x79 = true then (some false) else (if 0 ≤ x3 then (if x3 < (x0.length : Int) then ((float_Round.f x4 ((rd_T44 x0 x3).f1)).bind fun bt367 => ((fathomref3_Round.f k x4 ((rd_T44 x0 x3).f1)).bind fun bt370 => (if bt367.1 = bt370.1 then ((fathomlaw3_num.f bt367.2).bind fun t372 => (if t372 = bt370.2 then (fathomlaw3_FloatWhole.l0 k x0 (wrap64 (x3 + 1))) else (some false))) else (some false)))) else (none)) else (none))
end
def fathomlaw3_FloatWhole.f (k : Nat) (l0 : List (S44)) : Option (Bool) := fathomlaw3_FloatWhole.l0 k l0 0
theorem fathomlaw3_FloatWhole.mono_l : ∀ k, (∀ y0 y1, LeO (fathomlaw3_FloatWhole.l0 k y0 y1) (fathomlaw3_FloatWhole.l0 (k + 1) y0 y1)) ∧ (∀ y0 y1 y2, LeO (fathomlaw3_FloatWhole.j1 k y0 y1 y2) (fathomlaw3_FloatWhole.j1 (k + 1) y0 y1 y2)) ∧ (∀ y0 y1 y2 y3, LeO (fathomlaw3_FloatWhole.j2 k y0 y1 y2 y3) (fathomlaw3_FloatWhole.j2 (k + 1) y0 y1 y2 y3)) ∧ (∀ y0 y1 y2 y3, LeO (fathomlaw3_FloatWhole.j3 k y0 y1 y2 y3) (fathomlaw3_FloatWhole.j3 (k + 1) y0 y1 y2 y3))
  | 0 => ⟨fun _ _ r h => by simp [fathomlaw3_FloatWhole.l0] at h, fun _ _ _ r h => by simp [fathomlaw3_FloatWhole.j1] at h, fun _ _ _ _ r h => by simp [fathomlaw3_FloatWhole.j2] at h, fun _ _ _ _ r h => by simp [fathomlaw3_FloatWhole.j3] at h⟩
  | k + 1 => by
    obtain ⟨ih0, ih1, ih2, ih3⟩ := fathomlaw3_FloatWhole.mono_l k
    refine ⟨?_, ?_, ?_, ?_⟩
    · intro y0 y1
      unfold fathomlaw3_FloatWhole.l0
      repeat' first
      | (with_reducible exact ih0 _ _)
      | (with_reducible exact ih1 _ _ _)
      | (with_reducible exact ih2 _ _ _ _)
      | (with_reducible exact ih3 _ _ _ _)
      | (with_reducible exact fathomref3_FromInt.mono _ _)
      | (with_reducible exact fathomref3_FromInt32.mono _ _)
      | (with_reducible exact fathomref3_FromUint.mono _ _)
      | (with_reducible exact fathomref3_Round.mono _ _ _)
      | (with_reducible exact fathomref3_ToInt.mono _ _ _)
      | (with_reducible exact LeO.refl _)
      | (with_reducible exact LeO.none _)
      | (with_reducible refine LeO.ite ?_ ?_)
      | (with_reducible refine LeO.bind ?_ (fun _ => ?_))
      | exact ih0 _ _
      | exact ih1 _ _ _
      | exact ih2 _ _ _ _
      | exact ih3 _ _ _ _
      | exact fathomref3_FromInt.mono _ _
      | exact fathomref3_FromInt32.mono _ _
      | exact fathomref3_FromUint.mono _ _
      | exact fathomref3_Round.mono _ _ _
      | exact fathomref3_ToInt.mono _ _ _
      | exact LeO.none _
      | refine LeO.ite ?_ ?_
      | refine LeO.bind ?_ (fun _ => ?_)
    · intro y0 y1 y2
      unfold fathomlaw3_FloatWhole.j1
      repeat' first
      | (with_reducible exact ih0 _ _)
      | (with_reducible exact ih1 _ _ _)
      | (with_reducible exact ih2 _ _ _ _)
      | (with_reducible exact ih3 _ _ _ _)
      | (with_reducible exact fathomref3_FromInt.mono _ _)
      | (with_reducible exact fathomref3_FromInt32.mono _ _)
      | (with_reducible exact fathomref3_FromUint.mono _ _)
      | (with_reducible exact fathomref3_Round.mono _ _ _)
      | (with_reducible exact fathomref3_ToInt.mono _ _ _)
      | (with_reducible exact LeO.refl _)
      | (with_reducible exact LeO.none _)
      | (with_reducible refine LeO.ite ?_ ?_)
      | (with_reducible refine LeO.bind ?_ (fun _ => ?_))
      | exact ih0 _ _
      | exact ih1 _ _ _
      | exact ih2 _ _ _ _
      | exact ih3 _ _ _ _
      | exact fathomref3_FromInt.mono _ _
      | exact fathomref3_FromInt32.mono _ _
      | exact fathomref3_FromUint.mono _ _
      | exact fathomref3_Round.mono _ _ _
      | exact fathomref3_ToInt.mono _ _ _
      | exact LeO.none _
      | refine LeO.ite ?_ ?_
      | refine LeO.bind ?_ (fun _ => ?_)
    · intro y0 y1 y2 y3
      unfold fathomlaw3_FloatWhole.j2
      repeat' first
      | (with_reducible exact ih0 _ _)
      | (with_reducible exact ih1 _ _ _)
      | (with_reducible exact ih2 _ _ _ _)
      | (with_reducible exact ih3 _ _ _ _)
      | (with_reducible exact fathomref3_FromInt.mono _ _)
      | (with_reducible exact fathomref3_FromInt32.mono _ _)
      | (with_reducible exact fathomref3_FromUint.mono _ _)
      | (with_reducible exact fathomref3_Round.mono _ _ _)
      | (with_reducible exact fathomref3_ToInt.mono _ _ _)
      | (with_reducible exact LeO.refl _)
      | (with_reducible exact LeO.none _)
      | (with_reducible refine LeO.ite ?_ ?_)
      | (with_reducible refine LeO.bind ?_ (fun _ => ?_))
      | exact ih0 _ _
      | exact ih1 _ _ _
      | exact ih2 _ _ _ _
      | exact ih3 _ _ _ _
      | exact fathomref3_FromInt.mono _ _
      | exact fathomref3_FromInt32.mono _ _
      | exact fathomref3_FromUint.mono _ _
      | exact fathomref3_Round.mono _ _ _
      | exact fathomref3_ToInt.mono _ _ _
      | exact LeO.none _
      | refine LeO.ite ?_ ?_
      | refine LeO.bind ?_ (fun _ => ?_)
    · intro y0 y1 y2 y3
      unfold fathomlaw3_FloatWhole.j3
      repeat' first
      | (with_reducible exact ih0 _ _)
      | (with_reducible exact ih1 _ _ _)
      | (with_reducible exact ih2 _ _ _ _)
      | (with_reducible exact ih3 _ _ _ _)
      | (with_reducible exact fathomref3_FromInt.mono _ _)
      | (with_reducible exact fathomref3_FromInt32.mono _ _)
      | (with_reducible exact fathomref3_FromUint.mono _ _)
      | (with_reducible exact fathomref3_Round.mono _ _ _)
      | (with_reducible exact fathomref3_ToInt.mono _ _ _)
      | (with_reducible exact LeO.refl _)
      | (with_reducible exact LeO.none _)
      | (with_reducible refine LeO.ite ?_ ?_)
      | (with_reducible refine LeO.bind ?_ (fun _ => ?_))
      | exact ih0 _ _
      | exact ih1 _ _ _
      | exact ih2 _ _ _ _
      | exact ih3 _ _ _ _
      | exact fathomref3_FromInt.mono _ _
      | exact fathomref3_FromInt32.mono _ _
      | exact fathomref3_FromUint.mono _ _
      | exact fathomref3_Round.mono _ _ _
      | exact fathomref3_ToInt.mono _ _ _
      | exact LeO.none _
      | refine LeO.ite ?_ ?_
      | refine LeO.bind ?_ (fun _ => ?_)
theorem fathomlaw3_FloatWhole.mono : ∀ a0 k, LeO (fathomlaw3_FloatWhole.f k a0) (fathomlaw3_FloatWhole.f (k + 1) a0) := by
  intro a0 k
  obtain ⟨ih0, ih1, ih2, ih3⟩ := fathomlaw3_FloatWhole.mono_l k
  unfold fathomlaw3_FloatWhole.f
  repeat' first
      | (with_reducible exact ih0 _ _)
      | (with_reducible exact ih1 _ _ _)
      | (with_reducible exact ih2 _ _ _ _)
      | (with_reducible exact ih3 _ _ _ _)
      | (with_reducible exact fathomref3_FromInt.mono _ _)
      | (with_reducible exact fathomref3_FromInt32.mono _ _)
      | (with_reducible exact fathomref3_FromUint.mono _ _)
      | (with_reducible exact fathomref3_Round.mono _ _ _)
      | (with_reducible exact fathomref3_ToInt.mono _ _ _)
      | (with_reducible exact LeO.refl _)
      | (with_reducible exact LeO.none _)
      | (with_reducible refine LeO.ite ?_ ?_)
      | (with_reducible refine LeO.bind ?_ (fun _ => ?_))
      | exact ih0 _ _
      | exact ih1 _ _ _
      | exact ih2 _ _ _ _
      | exact ih3 _ _ _ _
      | exact fathomref3_FromInt.mono _ _
      | exact fathomref3_FromInt32.mono _ _
      | exact fathomref3_FromUint.mono _ _
      | exact fathomref3_Round.mono _ _ _
      | exact fathomref3_ToInt.mono _ _ _
      | exact LeO.none _
      | refine LeO.ite ?_ ?_
      | refine LeO.bind ?_ (fun _ => ?_)
set_option maxHeartbeats 8000000 in
set_option maxRecDepth 100000 in
theorem fathomlaw3_FloatWhole.calls (k : Nat) (A0 : Option Addr) (c0 : Nat) (l0 : List (S44)) (r : Bool) (w : World) (hr0 : Kd.C k44 w A0 l0.length l0) (hc0 : l0.length ≤ c0) (h : fathomlaw3_FloatWhole.f k l0 = some r) :
    Calls Try.prog 5 #[.slice A0 l0.length c0] w fun e w' => e = .returned (.bool r) ∧ Below w.heap.size w w' := by
  have HR0 := Aside0.mk hr0
  have HC0 := Aside0.mk hc0
  clear hr0 hc0
  have HB := Aside0.mk (Below.refl w.heap.size w)
  have H : (fathomlaw3_FloatWhole.l0 k l0 0) = some r := h
  clear h
  have H' := Aside0.mk H
  clear H
  go_enter Try.func5, Try.ntmps5
  go_wp2
  go_loopg [3] k (fun kq v3 w' => ∃ (x3_1 : Int), v3 = .int .i64 x3_1 ∧ Aside0 (fathomlaw3_FloatWhole.l0 kq l0 x3_1 = some r) ∧ Aside0 (kq ≤ k) ∧ Aside0 (Below w.heap.size w w'))
  case atStart => exact ⟨(0), (by first | rfl | (simp; done) | (simp [*]; done)), H', ⟨Nat.le_refl _⟩, ⟨by repeat (first | (with_reducible first | exact HB.out | apply below_alloc | apply pw_below_drewN | apply below_drew1) | exact HB.out)⟩⟩
  case round =>
    clear H'
    obtain ⟨x3_1, rfl, HA, HK1, HB⟩ := hrel
    cases gk with
    | zero => exact absurd HA.out (by simp [fathomlaw3_FloatWhole.l0])
    | succ k1 =>
      have H := HA.out
      clear HA
      simp only [fathomlaw3_FloatWhole.l0] at H
      have HC2 := Aside0.mk H
      clear H
      go_upto_region 2 with (fail)
      go_cut [20] (fun v20 wc => ∃ (kq : Nat) (x20_1 : Bool), v20 = .bool x20_1 ∧ Aside0 (fathomlaw3_FloatWhole.j1 kq l0 x3_1 x20_1 = some r) ∧ Aside0 (kq ≤ k1) ∧ Aside0 (Below w.heap.size w wc))
      case first =>
        have H := HC2.out
        clear HC2
        by_cases c3 : x3_1 < (l0.length : Int)
        · rw [if_pos c3] at H
          have c3b0 : decide (x3_1 < (l0.length : Int)) = true := decide_eq_true c3
          clear c3
          (first | rw [c3b0] | (simp only [i64_w, i32_w]; rw [c3b0]) | skip)
          have H' := Aside0.mk H
          clear H
          go_wp2
          go_meet
          case rel => exact ⟨_, (decide (x3_1 < 2000)), (by first | rfl | (simp; done) | (simp [*]; done)), H', ⟨by have := HK1.out; first | omega | exact Nat.le_refl _⟩, ⟨by repeat (first | (with_reducible first | exact HB.out | apply below_alloc | apply pw_below_drewN | apply below_drew1) | exact HB.out)⟩⟩
        · rw [if_neg c3] at H
          have c3b0 : decide (x3_1 < (l0.length : Int)) = false := decide_eq_false c3
          clear c3
          (first | rw [c3b0] | (simp only [i64_w, i32_w]; rw [c3b0]) | skip)
          have H' := Aside0.mk H
          clear H
          go_wp2
          go_meet
          case rel => exact ⟨_, (false), (by first | rfl | (simp; done) | (simp [*]; done)), H', ⟨by have := HK1.out; first | omega | exact Nat.le_refl _⟩, ⟨by repeat (first | (with_reducible first | exact HB.out | apply below_alloc | apply pw_below_drewN | apply below_drew1) | exact HB.out)⟩⟩
      case rest =>
        clear HC2
        try clear p2
        try clear c3
        try clear c3b0
        obtain ⟨kq, x20_1, rfl, HA, HJ1, HB⟩ := hcut
        cases kq with
        | zero => exact absurd HA.out (by simp [fathomlaw3_FloatWhole.j1])
        | succ kj1 =>
          have H := HA.out
          clear HA
          simp only [fathomlaw3_FloatWhole.j1] at H
          by_cases c4 : x20_1 = true
          · subst c4
            have H1 : (if 0 ≤ x3_1 then (if x3_1 < (l0.length : Int) then ((float_FromInt.f (wrap64 ((rd_T44 l0 x3_1).f0))).bind fun t353 => ((fathomref3_FromInt.f kj1 (wrap64 ((rd_T44 l0 x3_1).f0))).bind fun t354 => (if t353 = t354 then ((float_FromUint.f ((rd_T44 l0 x3_1).f0)).bind fun t355 => ((fathomref3_FromUint.f kj1 ((rd_T44 l0 x3_1).f0)).bind fun t356 => (if t355 = t356 then ((float_FromInt32.f (wrap64 ((rd_T44 l0 x3_1).f0))).bind fun t357 => ((fathomref3_FromInt32.f kj1 (wrap64 ((rd_T44 l0 x3_1).f0))).bind fun t358 => (fathomlaw3_FloatWhole.j2 kj1 l0 x3_1 ((rd_T44 l0 x3_1).f0) (t357 != t358)))) else (fathomlaw3_FloatWhole.j2 kj1 l0 x3_1 ((rd_T44 l0 x3_1).f0) true)))) else (fathomlaw3_FloatWhole.j2 kj1 l0 x3_1 ((rd_T44 l0 x3_1).f0) true)))) else (none)) else (none)) = some r := by rw [if_pos rfl] at H; exact H
            clear H
            have H := H1
            clear H1
            by_cases c5 : 0 ≤ x3_1
            · rw [if_pos c5] at H
              have c5b0 : decide (0 ≤ x3_1) = true := decide_eq_true c5
              clear c5
              by_cases c6 : x3_1 < (l0.length : Int)
              · rw [if_pos c6] at H
                have c6b0 : decide (x3_1 < (l0.length : Int)) = true := decide_eq_true c6
                clear c6
                have HC7 := Aside0.mk H
                clear H
                have p352 : 0 ≤ (x3_1 : Int) := of_decide_eq_true (by first | (with_reducible assumption) | assumption)
                have q352 : x3_1 < (l0.length : Int) := of_decide_eq_true (by first | (with_reducible assumption) | assumption)
                obtain ⟨ad352, e352, hx352_0, hx352_1⟩ := at_T44 HR0.out x3_1 p352 q352
                cases e352
                replace hx352_0 := (HB.out.cell (World.block_lt_of_cell? w _ hx352_0)).trans hx352_0
                replace hx352_1 := (HB.out.cell (World.block_lt_of_cell? w _ hx352_1)).trans hx352_1
                replace p352 := eq_true p352
                replace q352 := eq_true q352
                go_upto_region 5 with (fail)
                go_cut [50] (fun v50 wc => ∃ (kq : Nat) (x50_6 : Bool), v50 = .bool x50_6 ∧ Aside0 (fathomlaw3_FloatWhole.j2 kq l0 x3_1 ((rd_T44 l0 x3_1).f0) x50_6 = some r) ∧ Aside0 (kq ≤ kj1) ∧ Aside0 (Below w.heap.size w wc))
                case first =>
                  have H := HC7.out
                  clear HC7
                  replace H := Option.bind_eq_some_iff.mp H
                  obtain ⟨t353, A80, H⟩ := H
                  replace H : ((fathomref3_FromInt.f kj1 (wrap64 ((rd_T44 l0 x3_1).f0))).bind fun t354 => (if t353 = t354 then ((float_FromUint.f ((rd_T44 l0 x3_1).f0)).bind fun t355 => ((fathomref3_FromUint.f kj1 ((rd_T44 l0 x3_1).f0)).bind fun t356 => (if t355 = t356 then ((float_FromInt32.f (wrap64 ((rd_T44 l0 x3_1).f0))).bind fun t357 => ((fathomref3_FromInt32.f kj1 (wrap64 ((rd_T44 l0 x3_1).f0))).bind fun t358 => (fathomlaw3_FloatWhole.j2 kj1 l0 x3_1 ((rd_T44 l0 x3_1).f0) (t357 != t358)))) else (fathomlaw3_FloatWhole.j2 kj1 l0 x3_1 ((rd_T44 l0 x3_1).f0) true)))) else (fathomlaw3_FloatWhole.j2 kj1 l0 x3_1 ((rd_T44 l0 x3_1).f0) true))) = some r := H
                  have A8 := Aside0.mk A80
                  clear A80
                  replace H := Option.bind_eq_some_iff.mp H
                  obtain ⟨t354, A90, H⟩ := H
                  replace H : (if t353 = t354 then ((float_FromUint.f ((rd_T44 l0 x3_1).f0)).bind fun t355 => ((fathomref3_FromUint.f kj1 ((rd_T44 l0 x3_1).f0)).bind fun t356 => (if t355 = t356 then ((float_FromInt32.f (wrap64 ((rd_T44 l0 x3_1).f0))).bind fun t357 => ((fathomref3_FromInt32.f kj1 (wrap64 ((rd_T44 l0 x3_1).f0))).bind fun t358 => (fathomlaw3_FloatWhole.j2 kj1 l0 x3_1 ((rd_T44 l0 x3_1).f0) (t357 != t358)))) else (fathomlaw3_FloatWhole.j2 kj1 l0 x3_1 ((rd_T44 l0 x3_1).f0) true)))) else (fathomlaw3_FloatWhole.j2 kj1 l0 x3_1 ((rd_T44 l0 x3_1).f0) true)) = some r := H
                  have A9 := Aside0.mk A90
                  clear A90
                  by_cases c10 : t353 = t354
                  · rw [if_pos c10] at H
                    have c10b0 : (t353 == t354) = true := beq_iff_eq.mpr c10
                    have c10b1 : (t353 != t354) = false := bne_eq_false_iff_eq.mpr c10
                    clear c10
                    (first | rw [c10b0] | (simp only [i64_w, i32_w]; rw [c10b0]) | skip)
                    replace H := Option.bind_eq_some_iff.mp H
                    obtain ⟨t355, A110, H⟩ := H
                    replace H : ((fathomref3_FromUint.f kj1 ((rd_T44 l0 x3_1).f0)).bind fun t356 => (if t355 = t356 then ((float_FromInt32.f (wrap64 ((rd_T44 l0 x3_1).f0))).bind fun t357 => ((fathomref3_FromInt32.f kj1 (wrap64 ((rd_T44 l0 x3_1).f0))).bind fun t358 => (fathomlaw3_FloatWhole.j2 kj1 l0 x3_1 ((rd_T44 l0 x3_1).f0) (t357 != t358)))) else (fathomlaw3_FloatWhole.j2 kj1 l0 x3_1 ((rd_T44 l0 x3_1).f0) true))) = some r := H
                    have A11 := Aside0.mk A110
                    clear A110
                    replace H := Option.bind_eq_some_iff.mp H
                    obtain ⟨t356, A120, H⟩ := H
                    replace H : (if t355 = t356 then ((float_FromInt32.f (wrap64 ((rd_T44 l0 x3_1).f0))).bind fun t357 => ((fathomref3_FromInt32.f kj1 (wrap64 ((rd_T44 l0 x3_1).f0))).bind fun t358 => (fathomlaw3_FloatWhole.j2 kj1 l0 x3_1 ((rd_T44 l0 x3_1).f0) (t357 != t358)))) else (fathomlaw3_FloatWhole.j2 kj1 l0 x3_1 ((rd_T44 l0 x3_1).f0) true)) = some r := H
                    have A12 := Aside0.mk A120
                    clear A120
                    by_cases c13 : t355 = t356
                    · rw [if_pos c13] at H
                      have c13b0 : (t355 == t356) = true := beq_iff_eq.mpr c13
                      have c13b1 : (t355 != t356) = false := bne_eq_false_iff_eq.mpr c13
                      clear c13
                      replace H := Option.bind_eq_some_iff.mp H
                      obtain ⟨t357, A140, H⟩ := H
                      replace H : ((fathomref3_FromInt32.f kj1 (wrap64 ((rd_T44 l0 x3_1).f0))).bind fun t358 => (fathomlaw3_FloatWhole.j2 kj1 l0 x3_1 ((rd_T44 l0 x3_1).f0) (t357 != t358))) = some r := H
                      have A14 := Aside0.mk A140
                      clear A140
                      replace H := Option.bind_eq_some_iff.mp H
                      obtain ⟨t358, A150, H⟩ := H
                      replace H : (fathomlaw3_FloatWhole.j2 kj1 l0 x3_1 ((rd_T44 l0 x3_1).f0) (t357 != t358)) = some r := H
                      have A15 := Aside0.mk A150
                      clear A150
                      have H' := Aside0.mk H
                      clear H
                      go_wp2_with (first | ((with_reducible refine gate_callee (f := 29) rfl ?_); refine goesL_ (some 30) rfl rfl Try.func29 (by kernel_rfl) rfl #[.int .i64 (wrap64 ((rd_T44 l0 x3_1).f0))] rfl (by (try simp only [List.map_toArray, List.map_cons, List.map_nil]); first | done | rfl | (simp only [List.length_drop, List.length_take]; rfl) | (simp only [gt_iff_lt, Int.natCast_pos]; rfl)) ?_; (with_reducible refine (float_FromInt.calls (wrap64 ((rd_T44 l0 x3_1).f0)) t353 _ A8.out).mono ?_); rintro e w' ⟨rfl, ⟨nd, rfl⟩⟩; refine ⟨_, rfl, ?_⟩) | ((with_reducible refine gate_callee (f := 30) rfl ?_); refine goesL_ (some 33) rfl rfl Try.func30 (by kernel_rfl) rfl #[.int .i64 (wrap64 ((rd_T44 l0 x3_1).f0))] rfl (by (try simp only [List.map_toArray, List.map_cons, List.map_nil]); first | done | rfl | (simp only [List.length_drop, List.length_take]; rfl) | (simp only [gt_iff_lt, Int.natCast_pos]; rfl)) ?_; (with_reducible refine (fathomref3_FromInt.calls kj1 (wrap64 ((rd_T44 l0 x3_1).f0)) t354 _ A9.out).mono ?_); rintro e w16 ⟨rfl, hb⟩; refine ⟨_, rfl, ?_⟩; have n0_ := Aside0.mk (below_step (by repeat (first | (with_reducible first | exact HB.out | apply below_alloc | apply pw_below_drewN | apply below_drew1) | exact HB.out)) hb); clear HB; have HB := n0_; clear n0_; (try clear hb); (try clear hb2); (try clear hk); (try clear hi)) | (go_at_call 31; (with_reducible refine (float_FromUint.calls ((rd_T44 l0 x3_1).f0) t355 _ A11.out).mono ?_); rintro e w' ⟨rfl, ⟨nd, rfl⟩⟩) | (go_at_call 32; (with_reducible refine (fathomref3_FromUint.calls kj1 ((rd_T44 l0 x3_1).f0) t356 _ A12.out).mono ?_); rintro e w17 ⟨rfl, hb⟩; have n0_ := Aside0.mk (below_step (by repeat (first | (with_reducible first | exact HB.out | apply below_alloc | apply pw_below_drewN | apply below_drew1) | exact HB.out)) hb); clear HB; have HB := n0_; clear n0_; (try clear hb); (try clear hb2); (try clear hk); (try clear hi)) | (go_at_call 33; (with_reducible refine (float_FromInt32.calls (wrap64 ((rd_T44 l0 x3_1).f0)) t357 _ A14.out).mono ?_); rintro e w' ⟨rfl, ⟨nd, rfl⟩⟩) | (go_at_call 34; (with_reducible refine (fathomref3_FromInt32.calls kj1 (wrap64 ((rd_T44 l0 x3_1).f0)) t358 _ A15.out).mono ?_); rintro e w18 ⟨rfl, hb⟩; have n0_ := Aside0.mk (below_step (by repeat (first | (with_reducible first | exact HB.out | apply below_alloc | apply pw_below_drewN | apply below_drew1) | exact HB.out)) hb); clear HB; have HB := n0_; clear n0_; (try clear hb); (try clear hb2); (try clear hk); (try clear hi)))
                      go_meet
                      case rel => exact ⟨_, ((t357 != t358)), (by first | rfl | (simp; done) | (simp [*]; done)), H', ⟨by have := HK1.out; have := HJ1.out; first | omega | exact Nat.le_refl _⟩, ⟨by repeat (first | (with_reducible first | exact HB.out | apply below_alloc | apply pw_below_drewN | apply below_drew1) | exact HB.out)⟩⟩
                    · rw [if_neg c13] at H
                      have c13b0 : (t355 == t356) = false := beq_eq_false_iff_ne.mpr c13
                      have c13b1 : (t355 != t356) = true := bne_iff_ne.mpr c13
                      have H' := Aside0.mk H
                      clear H
                      go_wp2_with (first | ((with_reducible refine gate_callee (f := 29) rfl ?_); refine goesL_ (some 30) rfl rfl Try.func29 (by kernel_rfl) rfl #[.int .i64 (wrap64 ((rd_T44 l0 x3_1).f0))] rfl (by (try simp only [List.map_toArray, List.map_cons, List.map_nil]); first | done | rfl | (simp only [List.length_drop, List.length_take]; rfl) | (simp only [gt_iff_lt, Int.natCast_pos]; rfl)) ?_; (with_reducible refine (float_FromInt.calls (wrap64 ((rd_T44 l0 x3_1).f0)) t353 _ A8.out).mono ?_); rintro e w' ⟨rfl, ⟨nd, rfl⟩⟩; refine ⟨_, rfl, ?_⟩) | ((with_reducible refine gate_callee (f := 30) rfl ?_); refine goesL_ (some 33) rfl rfl Try.func30 (by kernel_rfl) rfl #[.int .i64 (wrap64 ((rd_T44 l0 x3_1).f0))] rfl (by (try simp only [List.map_toArray, List.map_cons, List.map_nil]); first | done | rfl | (simp only [List.length_drop, List.length_take]; rfl) | (simp only [gt_iff_lt, Int.natCast_pos]; rfl)) ?_; (with_reducible refine (fathomref3_FromInt.calls kj1 (wrap64 ((rd_T44 l0 x3_1).f0)) t354 _ A9.out).mono ?_); rintro e w19 ⟨rfl, hb⟩; refine ⟨_, rfl, ?_⟩; have n0_ := Aside0.mk (below_step (by repeat (first | (with_reducible first | exact HB.out | apply below_alloc | apply pw_below_drewN | apply below_drew1) | exact HB.out)) hb); clear HB; have HB := n0_; clear n0_; (try clear hb); (try clear hb2); (try clear hk); (try clear hi)) | (go_at_call 31; (with_reducible refine (float_FromUint.calls ((rd_T44 l0 x3_1).f0) t355 _ A11.out).mono ?_); rintro e w' ⟨rfl, ⟨nd, rfl⟩⟩) | (go_at_call 32; (with_reducible refine (fathomref3_FromUint.calls kj1 ((rd_T44 l0 x3_1).f0) t356 _ A12.out).mono ?_); rintro e w20 ⟨rfl, hb⟩; have n0_ := Aside0.mk (below_step (by repeat (first | (with_reducible first | exact HB.out | apply below_alloc | apply pw_below_drewN | apply below_drew1) | exact HB.out)) hb); clear HB; have HB := n0_; clear n0_; (try clear hb); (try clear hb2); (try clear hk); (try clear hi)))
                      go_meet
                      case rel => exact ⟨_, (true), (by first | rfl | (simp; done) | (simp [*]; done)), H', ⟨by have := HK1.out; have := HJ1.out; first | omega | exact Nat.le_refl _⟩, ⟨by repeat (first | (with_reducible first | exact HB.out | apply below_alloc | apply pw_below_drewN | apply below_drew1) | exact HB.out)⟩⟩
                  · rw [if_neg c10] at H
                    have c10b0 : (t353 == t354) = false := beq_eq_false_iff_ne.mpr c10
                    have c10b1 : (t353 != t354) = true := bne_iff_ne.mpr c10
                    (first | rw [c10b0] | (simp only [i64_w, i32_w]; rw [c10b0]) | skip)
                    have H' := Aside0.mk H
                    clear H
                    go_wp2_with (first | ((with_reducible refine gate_callee (f := 29) rfl ?_); refine goesL_ (some 30) rfl rfl Try.func29 (by kernel_rfl) rfl #[.int .i64 (wrap64 ((rd_T44 l0 x3_1).f0))] rfl (by (try simp only [List.map_toArray, List.map_cons, List.map_nil]); first | done | rfl | (simp only [List.length_drop, List.length_take]; rfl) | (simp only [gt_iff_lt, Int.natCast_pos]; rfl)) ?_; (with_reducible refine (float_FromInt.calls (wrap64 ((rd_T44 l0 x3_1).f0)) t353 _ A8.out).mono ?_); rintro e w' ⟨rfl, ⟨nd, rfl⟩⟩; refine ⟨_, rfl, ?_⟩) | ((with_reducible refine gate_callee (f := 30) rfl ?_); refine goesL_ (some 33) rfl rfl Try.func30 (by kernel_rfl) rfl #[.int .i64 (wrap64 ((rd_T44 l0 x3_1).f0))] rfl (by (try simp only [List.map_toArray, List.map_cons, List.map_nil]); first | done | rfl | (simp only [List.length_drop, List.length_take]; rfl) | (simp only [gt_iff_lt, Int.natCast_pos]; rfl)) ?_; (with_reducible refine (fathomref3_FromInt.calls kj1 (wrap64 ((rd_T44 l0 x3_1).f0)) t354 _ A9.out).mono ?_); rintro e w21 ⟨rfl, hb⟩; refine ⟨_, rfl, ?_⟩; have n0_ := Aside0.mk (below_step (by repeat (first | (with_reducible first | exact HB.out | apply below_alloc | apply pw_below_drewN | apply below_drew1) | exact HB.out)) hb); clear HB; have HB := n0_; clear n0_; (try clear hb); (try clear hb2); (try clear hk); (try clear hi)))
                    go_meet
                    case rel => exact ⟨_, (true), (by first | rfl | (simp; done) | (simp [*]; done)), H', ⟨by have := HK1.out; have := HJ1.out; first | omega | exact Nat.le_refl _⟩, ⟨by repeat (first | (with_reducible first | exact HB.out | apply below_alloc | apply pw_below_drewN | apply below_drew1) | exact HB.out)⟩⟩
                case rest =>
                  clear HC7
                  try clear c1
                  try clear c2
                  try clear p2
                  try clear c3
                  try clear c3b0
                  try clear p3
                  try clear q3
                  try clear hx3
                  try clear c4
                  try clear c5
                  try clear c5b0
                  try clear c6
                  try clear c6b0
                  try clear p6
                  try clear c10
                  try clear c10b0
                  try clear c10b1
                  try clear c13
                  try clear c13b0
                  try clear c13b1
                  try clear hx352_0
                  try clear hx352_1
                  try clear p2
                  try clear p352
                  try clear q352
                  obtain ⟨kq, x50_6, rfl, HA, HJ6, HB⟩ := hcut
                  cases kq with
                  | zero => exact absurd HA.out (by simp [fathomlaw3_FloatWhole.j2])
                  | succ kj6 =>
                    have H := HA.out
                    clear HA
                    simp only [fathomlaw3_FloatWhole.j2] at H
                    by_cases c22 : x50_6 = true
                    · subst c22
                      have H1 : (some false) = some r := by rw [if_pos rfl] at H; exact H
                      clear H
                      have H := H1
                      clear H1
                      obtain rfl := Option.some.inj H
                      go_wp2
                      go_ret
                      exact ⟨by first | rfl | (simp [errW_none, errW_some] <;> rfl) | (simp [*, errW_none, errW_some] <;> rfl), by repeat (first | (with_reducible first | exact HB.out | apply below_alloc | apply pw_below_drewN | apply below_drew1) | exact HB.out)⟩
                    · replace c22 := Bool.eq_false_iff.mpr c22
                      subst c22
                      have H1 : (if 0 ≤ x3_1 then (if x3_1 < (l0.length : Int) then ((float_ToInt.f ((rd_T44 l0 x3_1).f0) ((rd_T44 l0 x3_1).f1)).bind fun bt360 => ((fathomref3_ToInt.f kj6 ((rd_T44 l0 x3_1).f0) ((rd_T44 l0 x3_1).f1)).bind fun bt363 => (if bt360.1 = bt363.1 then ((fathomlaw3_num.f bt360.2).bind fun t365 => (fathomlaw3_FloatWhole.j3 kj6 l0 x3_1 ((rd_T44 l0 x3_1).f0) (t365 != bt363.2))) else (fathomlaw3_FloatWhole.j3 kj6 l0 x3_1 ((rd_T44 l0 x3_1).f0) true)))) else (none)) else (none)) = some r := by rw [if_neg (show ¬ (false = true) by decide)] at H; exact H
                      clear H
                      have H := H1
                      clear H1
                      by_cases c23 : 0 ≤ x3_1
                      · rw [if_pos c23] at H
                        have c23b0 : decide (0 ≤ x3_1) = true := decide_eq_true c23
                        clear c23
                        by_cases c24 : x3_1 < (l0.length : Int)
                        · rw [if_pos c24] at H
                          have c24b0 : decide (x3_1 < (l0.length : Int)) = true := decide_eq_true c24
                          clear c24
                          replace H := Option.bind_eq_some_iff.mp H
                          obtain ⟨⟨t360, t361⟩, A250, H⟩ := H
                          replace H : ((fathomref3_ToInt.f kj6 ((rd_T44 l0 x3_1).f0) ((rd_T44 l0 x3_1).f1)).bind fun bt363 => (if t360 = bt363.1 then ((fathomlaw3_num.f t361).bind fun t365 => (fathomlaw3_FloatWhole.j3 kj6 l0 x3_1 ((rd_T44 l0 x3_1).f0) (t365 != bt363.2))) else (fathomlaw3_FloatWhole.j3 kj6 l0 x3_1 ((rd_T44 l0 x3_1).f0) true))) = some r := H
                          have A25 := Aside0.mk A250
                          clear A250
                          replace H := Option.bind_eq_some_iff.mp H
                          obtain ⟨⟨t363, t364⟩, A260, H⟩ := H
                          replace H : (if t360 = t363 then ((fathomlaw3_num.f t361).bind fun t365 => (fathomlaw3_FloatWhole.j3 kj6 l0 x3_1 ((rd_T44 l0 x3_1).f0) (t365 != t364))) else (fathomlaw3_FloatWhole.j3 kj6 l0 x3_1 ((rd_T44 l0 x3_1).f0) true)) = some r := H
                          have A26 := Aside0.mk A260
                          clear A260
                          have HC27 := Aside0.mk H
                          clear H
                          have p359 : 0 ≤ (x3_1 : Int) := of_decide_eq_true (by first | (with_reducible assumption) | assumption)
                          have q359 : x3_1 < (l0.length : Int) := of_decide_eq_true (by first | (with_reducible assumption) | assumption)
                          obtain ⟨ad359, e359, hx359_0, hx359_1⟩ := at_T44 HR0.out x3_1 p359 q359
                          obtain rfl : ad352 = ad359 := (by injection e359)
                          replace hx359_0 := (HB.out.cell (World.block_lt_of_cell? w _ hx359_0)).trans hx359_0
                          replace hx359_1 := (HB.out.cell (World.block_lt_of_cell? w _ hx359_1)).trans hx359_1
                          replace p359 := eq_true p359
                          replace q359 := eq_true q359
                          go_upto_region 9 with (first | ((with_reducible refine gate_callee (f := 35) rfl ?_); refine goesL_ (some 58) rfl rfl Try.func35 (by kernel_rfl) rfl #[.int .u64 ((rd_T44 l0 x3_1).f0), .int .i64 ((rd_T44 l0 x3_1).f1)] rfl (by (try simp only [List.map_toArray, List.map_cons, List.map_nil]); first | done | rfl | (simp only [List.length_drop, List.length_take]; rfl) | (simp only [gt_iff_lt, Int.natCast_pos]; rfl)) ?_; (with_reducible refine (float_ToInt.calls ((rd_T44 l0 x3_1).f0) ((rd_T44 l0 x3_1).f1) t360 t361 _ A25.out).mono ?_); rintro e w28 ⟨rfl, hb⟩; refine ⟨_, rfl, ?_⟩; have n0_ := Aside0.mk (below_step (by repeat (first | (with_reducible first | exact HB.out | apply below_alloc | apply pw_below_drewN | apply below_drew1) | exact HB.out)) hb); clear HB; have HB := n0_; clear n0_; (try clear hb); (try clear hb2); (try clear hk); (try clear hi); have p362 : 0 ≤ (x3_1 : Int) := of_decide_eq_true (by first | (with_reducible assumption) | assumption); have q362 : x3_1 < (l0.length : Int) := of_decide_eq_true (by first | (with_reducible assumption) | assumption); obtain ⟨ad362, e362, hx362_0, hx362_1⟩ := at_T44 HR0.out x3_1 p362 q362; obtain rfl : ad352 = ad362 := (by injection e362); replace hx362_0 := (HB.out.cell (World.block_lt_of_cell? w _ hx362_0)).trans hx362_0; replace hx362_1 := (HB.out.cell (World.block_lt_of_cell? w _ hx362_1)).trans hx362_1; replace p362 := eq_true p362; replace q362 := eq_true q362) | ((with_reducible refine gate_callee (f := 36) rfl ?_); refine goesL_ (some 68) rfl rfl Try.func36 (by kernel_rfl) rfl #[.int .u64 ((rd_T44 l0 x3_1).f0), .int .i64 ((rd_T44 l0 x3_1).f1)] rfl (by (try simp only [List.map_toArray, List.map_cons, List.map_nil]); first | done | rfl | (simp only [List.length_drop, List.length_take]; rfl) | (simp only [gt_iff_lt, Int.natCast_pos]; rfl)) ?_; (with_reducible refine (fathomref3_ToInt.calls kj6 ((rd_T44 l0 x3_1).f0) ((rd_T44 l0 x3_1).f1) t363 t364 _ A26.out).mono ?_); rintro e w29 ⟨rfl, hb⟩; refine ⟨_, rfl, ?_⟩; have n0_ := Aside0.mk (below_step (by repeat (first | (with_reducible first | exact HB.out | apply below_alloc | apply pw_below_drewN | apply below_drew1) | exact HB.out)) hb); clear HB; have HB := n0_; clear n0_; (try clear hb); (try clear hb2); (try clear hk); (try clear hi)))
                          (try simp only [Act.put, List.setIfInBounds_toArray, List.set_cons_zero, List.set_cons_succ])
                          go_cut [79] (fun v79 wc => ∃ (kq : Nat) (x79_26 : Bool), v79 = .bool x79_26 ∧ Aside0 (fathomlaw3_FloatWhole.j3 kq l0 x3_1 ((rd_T44 l0 x3_1).f0) x79_26 = some r) ∧ Aside0 (kq ≤ kj6) ∧ Aside0 (Below w.heap.size w wc))
                          case first =>
                            have H := HC27.out
                            clear HC27
                            by_cases c30 : t360 = t363
                            · rw [if_pos c30] at H
                              have c30b0 : (t360 == t363) = true := beq_iff_eq.mpr c30
                              have c30b1 : (t360 != t363) = false := bne_eq_false_iff_eq.mpr c30
                              clear c30
                              (first | rw [c30b0] | (simp only [i64_w, i32_w]; rw [c30b0]) | skip)
                              replace H := Option.bind_eq_some_iff.mp H
                              obtain ⟨t365, A310, H⟩ := H
                              replace H : (fathomlaw3_FloatWhole.j3 kj6 l0 x3_1 ((rd_T44 l0 x3_1).f0) (t365 != t364)) = some r := H
                              have A31 := Aside0.mk A310
                              clear A310
                              have H' := Aside0.mk H
                              clear H
                              go_wp2_with (first | (go_at_call 37; (with_reducible refine (fathomlaw3_num.calls t361 t365 _ A31.out).mono ?_); rintro e w' ⟨rfl, ⟨nd, rfl⟩⟩))
                              go_meet
                              case rel => exact ⟨_, ((t365 != t364)), (by first | rfl | (simp; done) | (simp [*]; done)), H', ⟨by have := HK1.out; have := HJ1.out; have := HJ6.out; first | omega | exact Nat.le_refl _⟩, ⟨by repeat (first | (with_reducible first | exact HB.out | apply below_alloc | apply pw_below_drewN | apply below_drew1) | exact HB.out)⟩⟩
                            · rw [if_neg c30] at H
                              have c30b0 : (t360 == t363) = false := beq_eq_false_iff_ne.mpr c30
                              have c30b1 : (t360 != t363) = true := bne_iff_ne.mpr c30
                              (first | rw [c30b0] | (simp only [i64_w, i32_w]; rw [c30b0]) | skip)
                              have H' := Aside0.mk H
                              clear H
                              go_wp2
                              go_meet
                              case rel => exact ⟨_, (true), (by first | rfl | (simp; done) | (simp [*]; done)), H', ⟨by have := HK1.out; have := HJ1.out; have := HJ6.out; first | omega | exact Nat.le_refl _⟩, ⟨by repeat (first | (with_reducible first | exact HB.out | apply below_alloc | apply pw_below_drewN | apply below_drew1) | exact HB.out)⟩⟩
                          case rest =>
                            clear HC27
                            try clear c1
                            try clear c2
                            try clear p2
                            try clear c3
                            try clear c3b0
                            try clear p3
                            try clear q3
                            try clear hx3
                            try clear c4
                            try clear c5
                            try clear c5b0
                            try clear c6
                            try clear c6b0
                            try clear p6
                            try clear c10
                            try clear c10b0
                            try clear c10b1
                            try clear c13
                            try clear c13b0
                            try clear c13b1
                            try clear c22
                            try clear c23
                            try clear c23b0
                            try clear c24
                            try clear c24b0
                            try clear c29
                            try clear c30
                            try clear c30b0
                            try clear c30b1
                            try clear hx352_0
                            try clear hx352_1
                            try clear hx359_0
                            try clear hx359_1
                            try clear hx362_0
                            try clear hx362_1
                            try clear p2
                            try clear p3
                            try clear p352
                            try clear p359
                            try clear p362
                            try clear p6
                            try clear q3
                            try clear q352
                            try clear q359
                            try clear q362
                            obtain ⟨kq, x79_26, rfl, HA, HJ26, HB⟩ := hcut
                            cases kq with
                            | zero => exact absurd HA.out (by simp [fathomlaw3_FloatWhole.j3])
                            | succ kj26 =>
                              have H := HA.out
                              clear HA
                              simp only [fathomlaw3_FloatWhole.j3] at H
                              by_cases c32 : x79_26 = true
                              · subst c32
                                have H1 : (some false) = some r := by rw [if_pos rfl] at H; exact H
                                clear H
                                have H := H1
                                clear H1
                                obtain rfl := Option.some.inj H
                                go_wp2
                                go_ret
                                exact ⟨by first | rfl | (simp [errW_none, errW_some] <;> rfl) | (simp [*, errW_none, errW_some] <;> rfl), by repeat (first | (with_reducible first | exact HB.out | apply below_alloc | apply pw_below_drewN | apply below_drew1) | exact HB.out)⟩
                              · replace c32 := Bool.eq_false_iff.mpr c32
                                subst c32
                                have H1 : (if 0 ≤ x3_1 then (if x3_1 < (l0.length : Int) then ((float_Round.f ((rd_T44 l0 x3_1).f0) ((rd_T44 l0 x3_1).f1)).bind fun bt367 => ((fathomref3_Round.f kj26 ((rd_T44 l0 x3_1).f0) ((rd_T44 l0 x3_1).f1)).bind fun bt370 => (if bt367.1 = bt370.1 then ((fathomlaw3_num.f bt367.2).bind fun t372 => (if t372 = bt370.2 then (fathomlaw3_FloatWhole.l0 kj26 l0 (wrap64 (x3_1 + 1))) else (some false))) else (some false)))) else (none)) else (none)) = some r := by rw [if_neg (show ¬ (false = true) by decide)] at H; exact H
                                clear H
                                have H := H1
                                clear H1
                                by_cases c33 : 0 ≤ x3_1
                                · rw [if_pos c33] at H
                                  have c33b0 : decide (0 ≤ x3_1) = true := decide_eq_true c33
                                  clear c33
                                  by_cases c34 : x3_1 < (l0.length : Int)
                                  · rw [if_pos c34] at H
                                    have c34b0 : decide (x3_1 < (l0.length : Int)) = true := decide_eq_true c34
                                    clear c34
                                    replace H := Option.bind_eq_some_iff.mp H
                                    obtain ⟨⟨t367, t368⟩, A350, H⟩ := H
                                    replace H : ((fathomref3_Round.f kj26 ((rd_T44 l0 x3_1).f0) ((rd_T44 l0 x3_1).f1)).bind fun bt370 => (if t367 = bt370.1 then ((fathomlaw3_num.f t368).bind fun t372 => (if t372 = bt370.2 then (fathomlaw3_FloatWhole.l0 kj26 l0 (wrap64 (x3_1 + 1))) else (some false))) else (some false))) = some r := H
                                    have A35 := Aside0.mk A350
                                    clear A350
                                    replace H := Option.bind_eq_some_iff.mp H
                                    obtain ⟨⟨t370, t371⟩, A360, H⟩ := H
                                    replace H : (if t367 = t370 then ((fathomlaw3_num.f t368).bind fun t372 => (if t372 = t371 then (fathomlaw3_FloatWhole.l0 kj26 l0 (wrap64 (x3_1 + 1))) else (some false))) else (some false)) = some r := H
                                    have A36 := Aside0.mk A360
                                    clear A360
                                    by_cases c37 : t367 = t370
                                    · rw [if_pos c37] at H
                                      have c37b0 : (t367 == t370) = true := beq_iff_eq.mpr c37
                                      have c37b1 : (t367 != t370) = false := bne_eq_false_iff_eq.mpr c37
                                      clear c37
                                      replace H := Option.bind_eq_some_iff.mp H
                                      obtain ⟨t372, A380, H⟩ := H
                                      replace H : (if t372 = t371 then (fathomlaw3_FloatWhole.l0 kj26 l0 (wrap64 (x3_1 + 1))) else (some false)) = some r := H
                                      have A38 := Aside0.mk A380
                                      clear A380
                                      by_cases c39 : t372 = t371
                                      · rw [if_pos c39] at H
                                        have c39b0 : (t372 == t371) = true := beq_iff_eq.mpr c39
                                        have c39b1 : (t372 != t371) = false := bne_eq_false_iff_eq.mpr c39
                                        clear c39
                                        have H' := Aside0.mk H
                                        clear H
                                        have p366 : 0 ≤ (x3_1 : Int) := of_decide_eq_true (by first | (with_reducible assumption) | assumption)
                                        have q366 : x3_1 < (l0.length : Int) := of_decide_eq_true (by first | (with_reducible assumption) | assumption)
                                        obtain ⟨ad366, e366, hx366_0, hx366_1⟩ := at_T44 HR0.out x3_1 p366 q366
                                        obtain rfl : ad352 = ad366 := (by injection e366)
                                        replace hx366_0 := (HB.out.cell (World.block_lt_of_cell? w _ hx366_0)).trans hx366_0
                                        replace hx366_1 := (HB.out.cell (World.block_lt_of_cell? w _ hx366_1)).trans hx366_1
                                        replace p366 := eq_true p366
                                        replace q366 := eq_true q366
                                        go_wp2_with (first | ((with_reducible refine gate_callee (f := 38) rfl ?_); refine goesL_ (some 87) rfl rfl Try.func38 (by kernel_rfl) rfl #[.int .u64 ((rd_T44 l0 x3_1).f0), .int .i64 ((rd_T44 l0 x3_1).f1)] rfl (by (try simp only [List.map_toArray, List.map_cons, List.map_nil]); first | done | rfl | (simp only [List.length_drop, List.length_take]; rfl) | (simp only [gt_iff_lt, Int.natCast_pos]; rfl)) ?_; (with_reducible refine (float_Round.calls ((rd_T44 l0 x3_1).f0) ((rd_T44 l0 x3_1).f1) t367 t368 _ A35.out).mono ?_); rintro e w40 ⟨rfl, hb⟩; refine ⟨_, rfl, ?_⟩; have n0_ := Aside0.mk (below_step (by repeat (first | (with_reducible first | exact HB.out | apply below_alloc | apply pw_below_drewN | apply below_drew1) | exact HB.out)) hb); clear HB; have HB := n0_; clear n0_; (try clear hb); (try clear hb2); (try clear hk); (try clear hi); have p369 : 0 ≤ (x3_1 : Int) := of_decide_eq_true (by first | (with_reducible assumption) | assumption); have q369 : x3_1 < (l0.length : Int) := of_decide_eq_true (by first | (with_reducible assumption) | assumption); obtain ⟨ad369, e369, hx369_0, hx369_1⟩ := at_T44 HR0.out x3_1 p369 q369; obtain rfl : ad352 = ad369 := (by injection e369); replace hx369_0 := (HB.out.cell (World.block_lt_of_cell? w _ hx369_0)).trans hx369_0; replace hx369_1 := (HB.out.cell (World.block_lt_of_cell? w _ hx369_1)).trans hx369_1; replace p369 := eq_true p369; replace q369 := eq_true q369) | ((with_reducible refine gate_callee (f := 39) rfl ?_); refine goesL_ (some 97) rfl rfl Try.func39 (by kernel_rfl) rfl #[.int .u64 ((rd_T44 l0 x3_1).f0), .int .i64 ((rd_T44 l0 x3_1).f1)] rfl (by (try simp only [List.map_toArray, List.map_cons, List.map_nil]); first | done | rfl | (simp only [List.length_drop, List.length_take]; rfl) | (simp only [gt_iff_lt, Int.natCast_pos]; rfl)) ?_; (with_reducible refine (fathomref3_Round.calls kj26 ((rd_T44 l0 x3_1).f0) ((rd_T44 l0 x3_1).f1) t370 t371 _ A36.out).mono ?_); rintro e w41 ⟨rfl, hb⟩; refine ⟨_, rfl, ?_⟩; have n0_ := Aside0.mk (below_step (by repeat (first | (with_reducible first | exact HB.out | apply below_alloc | apply pw_below_drewN | apply below_drew1) | exact HB.out)) hb); clear HB; have HB := n0_; clear n0_; (try clear hb); (try clear hb2); (try clear hk); (try clear hi)) | (go_at_call 37; (with_reducible refine (fathomlaw3_num.calls t368 t372 _ A38.out).mono ?_); rintro e w' ⟨rfl, ⟨nd, rfl⟩⟩))
                                        go_roundg kj26
                                        case measure => have := HK1.out; have := HJ1.out; have := HJ6.out; have := HJ26.out; omega
                                        case rel => exact ⟨(wrap64 (x3_1 + 1)), (by first | rfl | (simp; done) | (simp [*]; done)), H', ⟨by have := HK1.out; have := HJ1.out; have := HJ6.out; have := HJ26.out; omega⟩, ⟨by repeat (first | (with_reducible first | exact HB.out | apply below_alloc | apply pw_below_drewN | apply below_drew1) | exact HB.out)⟩⟩
                                      · rw [if_neg c39] at H
                                        have c39b0 : (t372 == t371) = false := beq_eq_false_iff_ne.mpr c39
                                        have c39b1 : (t372 != t371) = true := bne_iff_ne.mpr c39
                                        obtain rfl := Option.some.inj H
                                        have p366 : 0 ≤ (x3_1 : Int) := of_decide_eq_true (by first | (with_reducible assumption) | assumption)
                                        have q366 : x3_1 < (l0.length : Int) := of_decide_eq_true (by first | (with_reducible assumption) | assumption)
                                        obtain ⟨ad366, e366, hx366_0, hx366_1⟩ := at_T44 HR0.out x3_1 p366 q366
                                        obtain rfl : ad352 = ad366 := (by injection e366)
                                        replace hx366_0 := (HB.out.cell (World.block_lt_of_cell? w _ hx366_0)).trans hx366_0
                                        replace hx366_1 := (HB.out.cell (World.block_lt_of_cell? w _ hx366_1)).trans hx366_1
                                        replace p366 := eq_true p366
                                        replace q366 := eq_true q366
                                        go_wp2_with (first | ((with_reducible refine gate_callee (f := 38) rfl ?_); refine goesL_ (some 87) rfl rfl Try.func38 (by kernel_rfl) rfl #[.int .u64 ((rd_T44 l0 x3_1).f0), .int .i64 ((rd_T44 l0 x3_1).f1)] rfl (by (try simp only [List.map_toArray, List.map_cons, List.map_nil]); first | done | rfl | (simp only [List.length_drop, List.length_take]; rfl) | (simp only [gt_iff_lt, Int.natCast_pos]; rfl)) ?_; (with_reducible refine (float_Round.calls ((rd_T44 l0 x3_1).f0) ((rd_T44 l0 x3_1).f1) t367 t368 _ A35.out).mono ?_); rintro e w42 ⟨rfl, hb⟩; refine ⟨_, rfl, ?_⟩; have n0_ := Aside0.mk (below_step (by repeat (first | (with_reducible first | exact HB.out | apply below_alloc | apply pw_below_drewN | apply below_drew1) | exact HB.out)) hb); clear HB; have HB := n0_; clear n0_; (try clear hb); (try clear hb2); (try clear hk); (try clear hi); have p369 : 0 ≤ (x3_1 : Int) := of_decide_eq_true (by first | (with_reducible assumption) | assumption); have q369 : x3_1 < (l0.length : Int) := of_decide_eq_true (by first | (with_reducible assumption) | assumption); obtain ⟨ad369, e369, hx369_0, hx369_1⟩ := at_T44 HR0.out x3_1 p369 q369; obtain rfl : ad352 = ad369 := (by injection e369); replace hx369_0 := (HB.out.cell (World.block_lt_of_cell? w _ hx369_0)).trans hx369_0; replace hx369_1 := (HB.out.cell (World.block_lt_of_cell? w _ hx369_1)).trans hx369_1; replace p369 := eq_true p369; replace q369 := eq_true q369) | ((with_reducible refine gate_callee (f := 39) rfl ?_); refine goesL_ (some 97) rfl rfl Try.func39 (by kernel_rfl) rfl #[.int .u64 ((rd_T44 l0 x3_1).f0), .int .i64 ((rd_T44 l0 x3_1).f1)] rfl (by (try simp only [List.map_toArray, List.map_cons, List.map_nil]); first | done | rfl | (simp only [List.length_drop, List.length_take]; rfl) | (simp only [gt_iff_lt, Int.natCast_pos]; rfl)) ?_; (with_reducible refine (fathomref3_Round.calls kj26 ((rd_T44 l0 x3_1).f0) ((rd_T44 l0 x3_1).f1) t370 t371 _ A36.out).mono ?_); rintro e w43 ⟨rfl, hb⟩; refine ⟨_, rfl, ?_⟩; have n0_ := Aside0.mk (below_step (by repeat (first | (with_reducible first | exact HB.out | apply below_alloc | apply pw_below_drewN | apply below_drew1) | exact HB.out)) hb); clear HB; have HB := n0_; clear n0_; (try clear hb); (try clear hb2); (try clear hk); (try clear hi)) | (go_at_call 37; (with_reducible refine (fathomlaw3_num.calls t368 t372 _ A38.out).mono ?_); rintro e w' ⟨rfl, ⟨nd, rfl⟩⟩))
                                        go_ret
                                        exact ⟨by first | rfl | (simp [errW_none, errW_some] <;> rfl) | (simp [*, errW_none, errW_some] <;> rfl), by repeat (first | (with_reducible first | exact HB.out | apply below_alloc | apply pw_below_drewN | apply below_drew1) | exact HB.out)⟩
                                    · rw [if_neg c37] at H
                                      have c37b0 : (t367 == t370) = false := beq_eq_false_iff_ne.mpr c37
                                      have c37b1 : (t367 != t370) = true := bne_iff_ne.mpr c37
                                      obtain rfl := Option.some.inj H
                                      have p366 : 0 ≤ (x3_1 : Int) := of_decide_eq_true (by first | (with_reducible assumption) | assumption)
                                      have q366 : x3_1 < (l0.length : Int) := of_decide_eq_true (by first | (with_reducible assumption) | assumption)
                                      obtain ⟨ad366, e366, hx366_0, hx366_1⟩ := at_T44 HR0.out x3_1 p366 q366
                                      obtain rfl : ad352 = ad366 := (by injection e366)
                                      replace hx366_0 := (HB.out.cell (World.block_lt_of_cell? w _ hx366_0)).trans hx366_0
                                      replace hx366_1 := (HB.out.cell (World.block_lt_of_cell? w _ hx366_1)).trans hx366_1
                                      replace p366 := eq_true p366
                                      replace q366 := eq_true q366
                                      go_wp2_with (first | ((with_reducible refine gate_callee (f := 38) rfl ?_); refine goesL_ (some 87) rfl rfl Try.func38 (by kernel_rfl) rfl #[.int .u64 ((rd_T44 l0 x3_1).f0), .int .i64 ((rd_T44 l0 x3_1).f1)] rfl (by (try simp only [List.map_toArray, List.map_cons, List.map_nil]); first | done | rfl | (simp only [List.length_drop, List.length_take]; rfl) | (simp only [gt_iff_lt, Int.natCast_pos]; rfl)) ?_; (with_reducible refine (float_Round.calls ((rd_T44 l0 x3_1).f0) ((rd_T44 l0 x3_1).f1) t367 t368 _ A35.out).mono ?_); rintro e w44 ⟨rfl, hb⟩; refine ⟨_, rfl, ?_⟩; have n0_ := Aside0.mk (below_step (by repeat (first | (with_reducible first | exact HB.out | apply below_alloc | apply pw_below_drewN | apply below_drew1) | exact HB.out)) hb); clear HB; have HB := n0_; clear n0_; (try clear hb); (try clear hb2); (try clear hk); (try clear hi); have p369 : 0 ≤ (x3_1 : Int) := of_decide_eq_true (by first | (with_reducible assumption) | assumption); have q369 : x3_1 < (l0.length : Int) := of_decide_eq_true (by first | (with_reducible assumption) | assumption); obtain ⟨ad369, e369, hx369_0, hx369_1⟩ := at_T44 HR0.out x3_1 p369 q369; obtain rfl : ad352 = ad369 := (by injection e369); replace hx369_0 := (HB.out.cell (World.block_lt_of_cell? w _ hx369_0)).trans hx369_0; replace hx369_1 := (HB.out.cell (World.block_lt_of_cell? w _ hx369_1)).trans hx369_1; replace p369 := eq_true p369; replace q369 := eq_true q369) | ((with_reducible refine gate_callee (f := 39) rfl ?_); refine goesL_ (some 97) rfl rfl Try.func39 (by kernel_rfl) rfl #[.int .u64 ((rd_T44 l0 x3_1).f0), .int .i64 ((rd_T44 l0 x3_1).f1)] rfl (by (try simp only [List.map_toArray, List.map_cons, List.map_nil]); first | done | rfl | (simp only [List.length_drop, List.length_take]; rfl) | (simp only [gt_iff_lt, Int.natCast_pos]; rfl)) ?_; (with_reducible refine (fathomref3_Round.calls kj26 ((rd_T44 l0 x3_1).f0) ((rd_T44 l0 x3_1).f1) t370 t371 _ A36.out).mono ?_); rintro e w45 ⟨rfl, hb⟩; refine ⟨_, rfl, ?_⟩; have n0_ := Aside0.mk (below_step (by repeat (first | (with_reducible first | exact HB.out | apply below_alloc | apply pw_below_drewN | apply below_drew1) | exact HB.out)) hb); clear HB; have HB := n0_; clear n0_; (try clear hb); (try clear hb2); (try clear hk); (try clear hi)))
                                      go_ret
                                      exact ⟨by first | rfl | (simp [errW_none, errW_some] <;> rfl) | (simp [*, errW_none, errW_some] <;> rfl), by repeat (first | (with_reducible first | exact HB.out | apply below_alloc | apply pw_below_drewN | apply below_drew1) | exact HB.out)⟩
                                  · rw [if_neg c34] at H
                                    exact absurd H (by simp)
                                · rw [if_neg c33] at H
                                  exact absurd H (by simp)
                        · rw [if_neg c24] at H
                          exact absurd H (by simp)
                      · rw [if_neg c23] at H
                        exact absurd H (by simp)
              · rw [if_neg c6] at H
                exact absurd H (by simp)
            · rw [if_neg c5] at H
              exact absurd H (by simp)
          · replace c4 := Bool.eq_false_iff.mpr c4
            subst c4
            have H1 : ((fathomlaw3_wakes.f).bind fun t351 => (some t351)) = some r := by rw [if_neg (show ¬ (false = true) by decide)] at H; exact H
            clear H
            have H := H1
            clear H1
            replace H := Option.bind_eq_some_iff.mp H
            obtain ⟨t351, A460, H⟩ := H
            replace H : (some t351) = some r := H
            have A46 := Aside0.mk A460
            clear A460
            obtain rfl := Option.some.inj H
            go_wp2_with (first | ((with_reducible refine gate_callee (f := 24) rfl ?_); refine goesL_ (some 109) rfl rfl Try.func24 (by kernel_rfl) rfl #[] rfl (by (try simp only [List.map_toArray, List.map_cons, List.map_nil]); first | done | rfl | (simp only [List.length_drop, List.length_take]; rfl) | (simp only [gt_iff_lt, Int.natCast_pos]; rfl)) ?_; (with_reducible refine (fathomlaw3_wakes.calls  t351 _ A46.out).mono ?_); rintro e w47 ⟨rfl, hb⟩; refine ⟨_, rfl, ?_⟩; have n0_ := Aside0.mk (below_step (by repeat (first | (with_reducible first | exact HB.out | apply below_alloc | apply pw_below_drewN | apply below_drew1) | exact HB.out)) hb); clear HB; have HB := n0_; clear n0_; (try clear hb); (try clear hb2); (try clear hk); (try clear hi)))
            go_ret
            exact ⟨by first | rfl | (simp [errW_none, errW_some] <;> rfl) | (simp [*, errW_none, errW_some] <;> rfl), by repeat (first | (with_reducible first | exact HB.out | apply below_alloc | apply pw_below_drewN | apply below_drew1) | exact HB.out)⟩
end Go.Proofs.Ytfloeiagdegpjaa.LWhole
