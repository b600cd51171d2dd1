/- The law FloatPairs: what its body comes to, as a Lean function over the rows that it is handed. The walk began as print.sh's text for this function, over the float functions of YtfloeiagdegpjaaSt. -/
import Derived.Test.YtfloeiagdegpjaaSt
import Derived.Test.YtfloeiagdegpjaaRd
namespace Go.Proofs.Ytfloeiagdegpjaa.LPairs
open Go.RowKit Go.Proofs.YtfloeiagdegpjaaW.PrintWords Go.Proofs.YtfloeiagdegpjaaW.PrintLast Go.Proofs.YtfloeiagdegpjaaW.PrintMore Go.Proofs.Ytfloeiagdegpjaa.Rf
attribute [local go_sem] max2_int min2_int max_two min_two max_three min_three max_four min_four
set_option linter.unusedVariables false
set_option linter.unusedSimpArgs false

/-! #### struct type 39 -/
structure S39 where
  f0 : Int
  f1 : Int
def z39 : S39 := ⟨(0 : Int), (0 : Int)⟩
def k39 : Kd S39 := Kd.iso (Kd.pair (Kd.int .u64) (Kd.int .u64)) (fun x : S39 => (x.f0, x.f1))
theorem k39_open {w : World} {x : S39} {cs : List Value} (h : k39.K w x cs) : cs = [.int .u64 x.f0, .int .u64 x.f1] := by
  obtain ⟨_, _, rfl, rfl, rfl⟩ := h
  exact rfl
theorem k39_openM {w : World} {base : Nat} {ok : Nat → Prop} {x : S39} {cs : List Value} (h : k39.M w base ok x cs) : cs = [.int .u64 x.f0, .int .u64 x.f1] := by
  obtain ⟨_, _, rfl, rfl, rfl⟩ := h
  exact rfl
theorem k39_mk (w : World) (x : S39)  : k39.K w x [.int .u64 x.f0, .int .u64 x.f1] := ⟨[.int .u64 x.f0], [.int .u64 x.f1], rfl, rfl, rfl⟩
theorem k39_mkM (w : World) (base : Nat) (ok : Nat → Prop) (x : S39)  : k39.M w base ok x [.int .u64 x.f0, .int .u64 x.f1] := ⟨[.int .u64 x.f0], [.int .u64 x.f1], rfl, rfl, rfl⟩
def rd_T39 (xs : List S39) (i : Int) : S39 := xs.getD i.toNat z39
theorem at_T39 {w : World} {A : Option Addr} {n : Nat} {xs : List S39} (h : Kd.C k39 w A n xs) (i : Int) (h0 : 0 ≤ i) (h1 : i < n) : ∃ ad , A = some ad ∧ w.cell? (ad.add (i.toNat * 2)) = some (.int .u64 (rd_T39 xs i).f0) ∧ w.cell? ⟨(ad.add (i.toNat * 2)).block, (ad.add (i.toNat * 2)).off + 1, none⟩ = some (.int .u64 (rd_T39 xs i).f1) := by
  obtain ⟨ad, c, e, _, hK, hc0⟩ := Kd.C_get h z39 i h0 h1
  have hc : ∀ j u, c[j]? = some u → w.cell? (ad.add (i.toNat * 2 + j)) = some u := hc0
  obtain rfl := k39_open hK
  exact ⟨ad, e, hc 0 _ rfl, by rw [← add_field _ _ 1 (by omega)]; exact hc 1 _ rfl⟩


/-! ### fathomlaw3_FloatPairs: function 7 -/
mutual
def fathomlaw3_FloatPairs.l0 : Nat → List (S39) → Int → Option (Bool)
  | 0, _, _ => none
  | k + 1, x0, x3 => if x3 < (x0.length : Int) then (fathomlaw3_FloatPairs.j1 k x0 x3 (decide (x3 < 2000))) else (fathomlaw3_FloatPairs.j1 k x0 x3 false)
def fathomlaw3_FloatPairs.j1 : Nat → List (S39) → Int → Bool → Option (Bool)
  | 0, _, _, _ => none
  | k + 1, x0, x3, x17 => if x17 = true then (if 0 ≤ x3 then (if x3 < (x0.length : Int) then ((float_Cmp_uint64.f ((rd_T39 x0 x3).f0) ((rd_T39 x0 x3).f1)).bind fun bt123 => ((fathomref3_Compare.f k ((rd_T39 x0 x3).f0) ((rd_T39 x0 x3).f1) 64).bind fun bt125 => (if bt123.1 = bt125.1 then (if (bt123.2 != bt125.2) = true then (fathomlaw3_FloatPairs.j2 k x0 x3 ((rd_T39 x0 x3).f0) ((rd_T39 x0 x3).f1) true) else ((float_Distance_uint64.f ((rd_T39 x0 x3).f0) ((rd_T39 x0 x3).f1)).bind fun t127 => ((fathomref3_Distance.f ((rd_T39 x0 x3).f0) ((rd_T39 x0 x3).f1) 64).bind fun t128 => (fathomlaw3_FloatPairs.j2 k x0 x3 ((rd_T39 x0 x3).f0) ((rd_T39 x0 x3).f1) (t127 != t128))))) else (fathomlaw3_FloatPairs.j2 k x0 x3 ((rd_T39 x0 x3).f0) ((rd_T39 x0 x3).f1) true)))) else (none)) else (none)) else ((fathomlaw3_wakes.f).bind fun t120 => (some t120))
def fathomlaw3_FloatPairs.j2 : Nat → List (S39) → Int → Int → Int → Bool → Option (Bool)
  | 0, _, _, _, _, _ => none
  | k + 1, x0, x3, x4, x5, x58 => if x58 = true then (some false) else ((float_Cmp_uint32.f ((x4 / 4294967296) % 4294967296) ((x5 / 4294967296) % 4294967296)).bind fun bt129 => ((fathomref3_Compare.f k (x4 / 4294967296) (x5 / 4294967296) 32).bind fun bt131 => (if bt129.1 = bt131.1 then (if (bt129.2 != bt131.2) = true then (some false) else ((float_Distance_uint32.f ((x4 / 4294967296) % 4294967296) ((x5 / 4294967296) % 4294967296)).bind fun t133 => ((fathomref3_Distance.f (x4 / 4294967296) (x5 / 4294967296) 32).bind fun t134 => (if (IntKind.u64.wrap (t133)) = t134 then (fathomlaw3_FloatPairs.l0 k x0 (wrap64 (x3 + 1))) else (some false))))) else (some false))))
end
def fathomlaw3_FloatPairs.f (k : Nat) (l0 : List (S39)) : Option (Bool) := fathomlaw3_FloatPairs.l0 k l0 0
theorem fathomlaw3_FloatPairs.mono_l : ∀ k, (∀ y0 y1, LeO (fathomlaw3_FloatPairs.l0 k y0 y1) (fathomlaw3_FloatPairs.l0 (k + 1) y0 y1)) ∧ (∀ y0 y1 y2, LeO (fathomlaw3_FloatPairs.j1 k y0 y1 y2) (fathomlaw3_FloatPairs.j1 (k + 1) y0 y1 y2)) ∧ (∀ y0 y1 y2 y3 y4, LeO (fathomlaw3_FloatPairs.j2 k y0 y1 y2 y3 y4) (fathomlaw3_FloatPairs.j2 (k + 1) y0 y1 y2 y3 y4))
  | 0 => ⟨fun _ _ r h => by simp [fathomlaw3_FloatPairs.l0] at h, fun _ _ _ r h => by simp [fathomlaw3_FloatPairs.j1] at h, fun _ _ _ _ _ r h => by simp [fathomlaw3_FloatPairs.j2] at h⟩
  | k + 1 => by
    obtain ⟨ih0, ih1, ih2⟩ := fathomlaw3_FloatPairs.mono_l k
    refine ⟨?_, ?_, ?_⟩
    · intro y0 y1
      unfold fathomlaw3_FloatPairs.l0
      repeat' first
      | (with_reducible exact ih0 _ _)
      | (with_reducible exact ih1 _ _ _)
      | (with_reducible exact ih2 _ _ _ _ _)
      | (with_reducible exact fathomref3_Compare.mono _ _ _ _)
      | (with_reducible exact LeO.refl _)
      | (with_reducible exact LeO.none _)
      | (with_reducible refine LeO.ite ?_ ?_)
      | (with_reducible refine LeO.bind ?_ (fun _ => ?_))
      | exact ih0 _ _
      | exact ih1 _ _ _
      | exact ih2 _ _ _ _ _
      | exact fathomref3_Compare.mono _ _ _ _
      | exact LeO.none _
      | refine LeO.ite ?_ ?_
      | refine LeO.bind ?_ (fun _ => ?_)
    · intro y0 y1 y2
      unfold fathomlaw3_FloatPairs.j1
      repeat' first
      | (with_reducible exact ih0 _ _)
      | (with_reducible exact ih1 _ _ _)
      | (with_reducible exact ih2 _ _ _ _ _)
      | (with_reducible exact fathomref3_Compare.mono _ _ _ _)
      | (with_reducible exact LeO.refl _)
      | (with_reducible exact LeO.none _)
      | (with_reducible refine LeO.ite ?_ ?_)
      | (with_reducible refine LeO.bind ?_ (fun _ => ?_))
      | exact ih0 _ _
      | exact ih1 _ _ _
      | exact ih2 _ _ _ _ _
      | exact fathomref3_Compare.mono _ _ _ _
      | exact LeO.none _
      | refine LeO.ite ?_ ?_
      | refine LeO.bind ?_ (fun _ => ?_)
    · intro y0 y1 y2 y3 y4
      unfold fathomlaw3_FloatPairs.j2
      repeat' first
      | (with_reducible exact ih0 _ _)
      | (with_reducible exact ih1 _ _ _)
      | (with_reducible exact ih2 _ _ _ _ _)
      | (with_reducible exact fathomref3_Compare.mono _ _ _ _)
      | (with_reducible exact LeO.refl _)
      | (with_reducible exact LeO.none _)
      | (with_reducible refine LeO.ite ?_ ?_)
      | (with_reducible refine LeO.bind ?_ (fun _ => ?_))
      | exact ih0 _ _
      | exact ih1 _ _ _
      | exact ih2 _ _ _ _ _
      | exact fathomref3_Compare.mono _ _ _ _
      | exact LeO.none _
      | refine LeO.ite ?_ ?_
      | refine LeO.bind ?_ (fun _ => ?_)
theorem fathomlaw3_FloatPairs.mono : ∀ a0 k, LeO (fathomlaw3_FloatPairs.f k a0) (fathomlaw3_FloatPairs.f (k + 1) a0) := by
  intro a0 k
  obtain ⟨ih0, ih1, ih2⟩ := fathomlaw3_FloatPairs.mono_l k
  unfold fathomlaw3_FloatPairs.f
  repeat' first
      | (with_reducible exact ih0 _ _)
      | (with_reducible exact ih1 _ _ _)
      | (with_reducible exact ih2 _ _ _ _ _)
      | (with_reducible exact fathomref3_Compare.mono _ _ _ _)
      | (with_reducible exact LeO.refl _)
      | (with_reducible exact LeO.none _)
      | (with_reducible refine LeO.ite ?_ ?_)
      | (with_reducible refine LeO.bind ?_ (fun _ => ?_))
      | exact ih0 _ _
      | exact ih1 _ _ _
      | exact ih2 _ _ _ _ _
      | exact fathomref3_Compare.mono _ _ _ _
      | exact LeO.none _
      | refine LeO.ite ?_ ?_
      | refine LeO.bind ?_ (fun _ => ?_)
set_option maxHeartbeats 8000000 in
set_option maxRecDepth 100000 in
theorem fathomlaw3_FloatPairs.calls (k : Nat) (A0 : Option Addr) (c0 : Nat) (l0 : List (S39)) (r : Bool) (w : World) (hr0 : Kd.C k39 w A0 l0.length l0) (hc0 : l0.length ≤ c0) (h : fathomlaw3_FloatPairs.f k l0 = some r) :
    Calls Try.prog 7 #[.slice A0 l0.length c0] w fun e w' => e = .returned (.bool r) ∧ Below w.heap.size w w' := by
  have HR0 := Aside0.mk hr0
  have HC0 := Aside0.mk hc0
  clear hr0 hc0
  have HB := Aside0.mk (Below.refl w.heap.size w)
  have H : (fathomlaw3_FloatPairs.l0 k l0 0) = some r := h
  clear h
  have H' := Aside0.mk H
  clear H
  go_enter Try.func7, Try.ntmps7
  go_wp2
  go_loopg [3] k (fun kq v3 w' => ∃ (x3_1 : Int), v3 = .int .i64 x3_1 ∧ Aside0 (fathomlaw3_FloatPairs.l0 kq l0 x3_1 = some r) ∧ Aside0 (kq ≤ k) ∧ Aside0 (Below w.heap.size w w'))
  case atStart => exact ⟨(0), (by first | rfl | (simp; done) | (simp [*]; done)), H', ⟨Nat.le_refl _⟩, ⟨by repeat (first | (with_reducible first | exact HB.out | apply below_alloc | apply pw_below_drewN | apply below_drew1) | exact HB.out)⟩⟩
  case round =>
    clear H'
    obtain ⟨x3_1, rfl, HA, HK1, HB⟩ := hrel
    cases gk with
    | zero => exact absurd HA.out (by simp [fathomlaw3_FloatPairs.l0])
    | succ k1 =>
      have H := HA.out
      clear HA
      simp only [fathomlaw3_FloatPairs.l0] at H
      have HC2 := Aside0.mk H
      clear H
      go_upto_region 2 with (fail)
      go_cut [17] (fun v17 wc => ∃ (kq : Nat) (x17_1 : Bool), v17 = .bool x17_1 ∧ Aside0 (fathomlaw3_FloatPairs.j1 kq l0 x3_1 x17_1 = some r) ∧ Aside0 (kq ≤ k1) ∧ Aside0 (Below w.heap.size w wc))
      case first =>
        have H := HC2.out
        clear HC2
        by_cases c3 : x3_1 < (l0.length : Int)
        · rw [if_pos c3] at H
          have c3b0 : decide (x3_1 < (l0.length : Int)) = true := decide_eq_true c3
          clear c3
          (first | rw [c3b0] | (simp only [i64_w, i32_w]; rw [c3b0]) | skip)
          have H' := Aside0.mk H
          clear H
          go_wp2
          go_meet
          case rel => exact ⟨_, (decide (x3_1 < 2000)), (by first | rfl | (simp; done) | (simp [*]; done)), H', ⟨by have := HK1.out; first | omega | exact Nat.le_refl _⟩, ⟨by repeat (first | (with_reducible first | exact HB.out | apply below_alloc | apply pw_below_drewN | apply below_drew1) | exact HB.out)⟩⟩
        · rw [if_neg c3] at H
          have c3b0 : decide (x3_1 < (l0.length : Int)) = false := decide_eq_false c3
          clear c3
          (first | rw [c3b0] | (simp only [i64_w, i32_w]; rw [c3b0]) | skip)
          have H' := Aside0.mk H
          clear H
          go_wp2
          go_meet
          case rel => exact ⟨_, (false), (by first | rfl | (simp; done) | (simp [*]; done)), H', ⟨by have := HK1.out; first | omega | exact Nat.le_refl _⟩, ⟨by repeat (first | (with_reducible first | exact HB.out | apply below_alloc | apply pw_below_drewN | apply below_drew1) | exact HB.out)⟩⟩
      case rest =>
        clear HC2
        try clear p2
        try clear c3
        try clear c3b0
        obtain ⟨kq, x17_1, rfl, HA, HJ1, HB⟩ := hcut
        cases kq with
        | zero => exact absurd HA.out (by simp [fathomlaw3_FloatPairs.j1])
        | succ kj1 =>
          have H := HA.out
          clear HA
          simp only [fathomlaw3_FloatPairs.j1] at H
          by_cases c4 : x17_1 = true
          · subst c4
            have H1 : (if 0 ≤ x3_1 then (if x3_1 < (l0.length : Int) then ((float_Cmp_uint64.f ((rd_T39 l0 x3_1).f0) ((rd_T39 l0 x3_1).f1)).bind fun bt123 => ((fathomref3_Compare.f kj1 ((rd_T39 l0 x3_1).f0) ((rd_T39 l0 x3_1).f1) 64).bind fun bt125 => (if bt123.1 = bt125.1 then (if (bt123.2 != bt125.2) = true then (fathomlaw3_FloatPairs.j2 kj1 l0 x3_1 ((rd_T39 l0 x3_1).f0) ((rd_T39 l0 x3_1).f1) true) else ((float_Distance_uint64.f ((rd_T39 l0 x3_1).f0) ((rd_T39 l0 x3_1).f1)).bind fun t127 => ((fathomref3_Distance.f ((rd_T39 l0 x3_1).f0) ((rd_T39 l0 x3_1).f1) 64).bind fun t128 => (fathomlaw3_FloatPairs.j2 kj1 l0 x3_1 ((rd_T39 l0 x3_1).f0) ((rd_T39 l0 x3_1).f1) (t127 != t128))))) else (fathomlaw3_FloatPairs.j2 kj1 l0 x3_1 ((rd_T39 l0 x3_1).f0) ((rd_T39 l0 x3_1).f1) true)))) else (none)) else (none)) = some r := by rw [if_pos rfl] at H; exact H
            clear H
            have H := H1
            clear H1
            by_cases c5 : 0 ≤ x3_1
            · rw [if_pos c5] at H
              have c5b0 : decide (0 ≤ x3_1) = true := decide_eq_true c5
              clear c5
              by_cases c6 : x3_1 < (l0.length : Int)
              · rw [if_pos c6] at H
                have c6b0 : decide (x3_1 < (l0.length : Int)) = true := decide_eq_true c6
                clear c6
                replace H := Option.bind_eq_some_iff.mp H
                obtain ⟨⟨t123, t124⟩, A70, H⟩ := H
                replace H : ((fathomref3_Compare.f kj1 ((rd_T39 l0 x3_1).f0) ((rd_T39 l0 x3_1).f1) 64).bind fun bt125 => (if t123 = bt125.1 then (if (t124 != bt125.2) = true then (fathomlaw3_FloatPairs.j2 kj1 l0 x3_1 ((rd_T39 l0 x3_1).f0) ((rd_T39 l0 x3_1).f1) true) else ((float_Distance_uint64.f ((rd_T39 l0 x3_1).f0) ((rd_T39 l0 x3_1).f1)).bind fun t127 => ((fathomref3_Distance.f ((rd_T39 l0 x3_1).f0) ((rd_T39 l0 x3_1).f1) 64).bind fun t128 => (fathomlaw3_FloatPairs.j2 kj1 l0 x3_1 ((rd_T39 l0 x3_1).f0) ((rd_T39 l0 x3_1).f1) (t127 != t128))))) else (fathomlaw3_FloatPairs.j2 kj1 l0 x3_1 ((rd_T39 l0 x3_1).f0) ((rd_T39 l0 x3_1).f1) true))) = some r := H
                have A7 := Aside0.mk A70
                clear A70
                replace H := Option.bind_eq_some_iff.mp H
                obtain ⟨⟨t125, t126⟩, A80, H⟩ := H
                replace H : (if t123 = t125 then (if (t124 != t126) = true then (fathomlaw3_FloatPairs.j2 kj1 l0 x3_1 ((rd_T39 l0 x3_1).f0) ((rd_T39 l0 x3_1).f1) true) else ((float_Distance_uint64.f ((rd_T39 l0 x3_1).f0) ((rd_T39 l0 x3_1).f1)).bind fun t127 => ((fathomref3_Distance.f ((rd_T39 l0 x3_1).f0) ((rd_T39 l0 x3_1).f1) 64).bind fun t128 => (fathomlaw3_FloatPairs.j2 kj1 l0 x3_1 ((rd_T39 l0 x3_1).f0) ((rd_T39 l0 x3_1).f1) (t127 != t128))))) else (fathomlaw3_FloatPairs.j2 kj1 l0 x3_1 ((rd_T39 l0 x3_1).f0) ((rd_T39 l0 x3_1).f1) true)) = some r := H
                have A8 := Aside0.mk A80
                clear A80
                have HC9 := Aside0.mk H
                clear H
                have p121 : 0 ≤ (x3_1 : Int) := of_decide_eq_true (by first | (with_reducible assumption) | assumption)
                have q121 : x3_1 < (l0.length : Int) := of_decide_eq_true (by first | (with_reducible assumption) | assumption)
                obtain ⟨ad121, e121, hx121_0, hx121_1⟩ := at_T39 HR0.out x3_1 p121 q121
                cases e121
                replace hx121_0 := (HB.out.cell (World.block_lt_of_cell? w _ hx121_0)).trans hx121_0
                replace hx121_1 := (HB.out.cell (World.block_lt_of_cell? w _ hx121_1)).trans hx121_1
                replace p121 := eq_true p121
                replace q121 := eq_true q121
                have p122 : 0 ≤ (x3_1 : Int) := of_decide_eq_true (by first | (with_reducible assumption) | assumption)
                have q122 : x3_1 < (l0.length : Int) := of_decide_eq_true (by first | (with_reducible assumption) | assumption)
                obtain ⟨ad122, e122, hx122_0, hx122_1⟩ := at_T39 HR0.out x3_1 p122 q122
                obtain rfl : ad121 = ad122 := (by injection e122)
                replace hx122_0 := (HB.out.cell (World.block_lt_of_cell? w _ hx122_0)).trans hx122_0
                replace hx122_1 := (HB.out.cell (World.block_lt_of_cell? w _ hx122_1)).trans hx122_1
                replace p122 := eq_true p122
                replace q122 := eq_true q122
                go_upto_region 8 with (first | ((with_reducible refine gate_callee (f := 43) rfl ?_); refine goesL_ (some 33) rfl rfl Try.func43 (by kernel_rfl) rfl #[.int .u64 ((rd_T39 l0 x3_1).f0), .int .u64 ((rd_T39 l0 x3_1).f1)] rfl (by (try simp only [List.map_toArray, List.map_cons, List.map_nil]); first | done | rfl | (simp only [List.length_drop, List.length_take]; rfl) | (simp only [gt_iff_lt, Int.natCast_pos]; rfl)) ?_; (with_reducible refine (float_Cmp_uint64.calls ((rd_T39 l0 x3_1).f0) ((rd_T39 l0 x3_1).f1) t123 t124 _ A7.out).mono ?_); rintro e w10 ⟨rfl, hb⟩; refine ⟨_, rfl, ?_⟩; have n0_ := Aside0.mk (below_step (by repeat (first | (with_reducible first | exact HB.out | apply below_alloc | apply pw_below_drewN | apply below_drew1) | exact HB.out)) hb); clear HB; have HB := n0_; clear n0_; (try clear hb); (try clear hb2); (try clear hk); (try clear hi)) | ((with_reducible refine gate_callee (f := 44) rfl ?_); refine goesL_ (some 39) rfl rfl Try.func44 (by kernel_rfl) rfl #[.int .u64 ((rd_T39 l0 x3_1).f0), .int .u64 ((rd_T39 l0 x3_1).f1), .int .i64 64] rfl (by (try simp only [List.map_toArray, List.map_cons, List.map_nil]); first | done | rfl | (simp only [List.length_drop, List.length_take]; rfl) | (simp only [gt_iff_lt, Int.natCast_pos]; rfl)) ?_; (with_reducible refine (fathomref3_Compare.calls kj1 ((rd_T39 l0 x3_1).f0) ((rd_T39 l0 x3_1).f1) 64 t125 t126 _ A8.out).mono ?_); rintro e w' ⟨rfl, ⟨nd, rfl⟩⟩; refine ⟨_, rfl, ?_⟩))
                (try simp only [Act.put, List.setIfInBounds_toArray, List.set_cons_zero, List.set_cons_succ])
                go_cut [58] (fun v58 wc => ∃ (kq : Nat) (x58_8 : Bool), v58 = .bool x58_8 ∧ Aside0 (fathomlaw3_FloatPairs.j2 kq l0 x3_1 ((rd_T39 l0 x3_1).f0) ((rd_T39 l0 x3_1).f1) x58_8 = some r) ∧ Aside0 (kq ≤ kj1) ∧ Aside0 (Below w.heap.size w wc))
                case first =>
                  have H := HC9.out
                  clear HC9
                  by_cases c11 : t123 = t125
                  · rw [if_pos c11] at H
                    have c11b0 : (t123 == t125) = true := beq_iff_eq.mpr c11
                    have c11b1 : (t123 != t125) = false := bne_eq_false_iff_eq.mpr c11
                    clear c11
                    (first | rw [c11b0] | (simp only [i64_w, i32_w]; rw [c11b0]) | skip)
                    by_cases c12 : (t124 != t126) = true
                    · rw [if_pos c12] at H
                      have c12b0 : (t124 != t126) = true := c12
                      (try (have c12b1 : decide (t124 = t126) = false := by simpa using c12))
                      (try (have c12b2 : (t124 == t126) = false := by simpa using c12))
                      (try (have c12b3 : ¬ (t124 = t126) := by simpa using c12))
                      clear c12
                      have H' := Aside0.mk H
                      clear H
                      go_wp2
                      go_meet
                      case rel => exact ⟨_, (true), (by first | rfl | (simp; done) | (simp [*]; done)), H', ⟨by have := HK1.out; have := HJ1.out; first | omega | exact Nat.le_refl _⟩, ⟨by repeat (first | (with_reducible first | exact HB.out | apply below_alloc | apply pw_below_drewN | apply below_drew1) | exact HB.out)⟩⟩
                    · rw [if_neg c12] at H
                      have c12b0 : (t124 != t126) = false := by simpa using c12
                      (try (have c12b1 : decide (t124 = t126) = true := by simpa using c12))
                      (try (have c12b2 : (t124 == t126) = true := by simpa using c12))
                      clear c12
                      replace H := Option.bind_eq_some_iff.mp H
                      obtain ⟨t127, A130, H⟩ := H
                      replace H : ((fathomref3_Distance.f ((rd_T39 l0 x3_1).f0) ((rd_T39 l0 x3_1).f1) 64).bind fun t128 => (fathomlaw3_FloatPairs.j2 kj1 l0 x3_1 ((rd_T39 l0 x3_1).f0) ((rd_T39 l0 x3_1).f1) (t127 != t128))) = some r := H
                      have A13 := Aside0.mk A130
                      clear A130
                      replace H := Option.bind_eq_some_iff.mp H
                      obtain ⟨t128, A140, H⟩ := H
                      replace H : (fathomlaw3_FloatPairs.j2 kj1 l0 x3_1 ((rd_T39 l0 x3_1).f0) ((rd_T39 l0 x3_1).f1) (t127 != t128)) = some r := H
                      have A14 := Aside0.mk A140
                      clear A140
                      have H' := Aside0.mk H
                      clear H
                      go_wp2_with (first | (go_at_call 45; (with_reducible refine (float_Distance_uint64.calls ((rd_T39 l0 x3_1).f0) ((rd_T39 l0 x3_1).f1) t127 _ A13.out).mono ?_); rintro e w15 ⟨rfl, hb⟩; have n0_ := Aside0.mk (below_step (by repeat (first | (with_reducible first | exact HB.out | apply below_alloc | apply pw_below_drewN | apply below_drew1) | exact HB.out)) hb); clear HB; have HB := n0_; clear n0_; (try clear hb); (try clear hb2); (try clear hk); (try clear hi)) | (go_at_call 46; (with_reducible refine (fathomref3_Distance.calls ((rd_T39 l0 x3_1).f0) ((rd_T39 l0 x3_1).f1) 64 t128 _ A14.out).mono ?_); rintro e w' ⟨rfl, ⟨nd, rfl⟩⟩))
                      go_meet
                      case rel => exact ⟨_, ((t127 != t128)), (by first | rfl | (simp; done) | (simp [*]; done)), H', ⟨by have := HK1.out; have := HJ1.out; first | omega | exact Nat.le_refl _⟩, ⟨by repeat (first | (with_reducible first | exact HB.out | apply below_alloc | apply pw_below_drewN | apply below_drew1) | exact HB.out)⟩⟩
                  · rw [if_neg c11] at H
                    have c11b0 : (t123 == t125) = false := beq_eq_false_iff_ne.mpr c11
                    have c11b1 : (t123 != t125) = true := bne_iff_ne.mpr c11
                    (first | rw [c11b0] | (simp only [i64_w, i32_w]; rw [c11b0]) | skip)
                    have H' := Aside0.mk H
                    clear H
                    go_wp2
                    go_meet
                    case rel => exact ⟨_, (true), (by first | rfl | (simp; done) | (simp [*]; done)), H', ⟨by have := HK1.out; have := HJ1.out; first | omega | exact Nat.le_refl _⟩, ⟨by repeat (first | (with_reducible first | exact HB.out | apply below_alloc | apply pw_below_drewN | apply below_drew1) | exact HB.out)⟩⟩
                case rest =>
                  clear HC9
                  try clear c1
                  try clear p1
                  try clear q1
                  try clear hx1
                  try clear p2
                  try clear c3
                  try clear c3b0
                  try clear c4
                  try clear c5
                  try clear c5b0
                  try clear c6
                  try clear c6b0
                  try clear c7
                  try clear c11
                  try clear c11b0
                  try clear c11b1
                  try clear c12
                  try clear c12b0
                  try clear c12b1
                  try clear c12b2
                  try clear p12
                  try clear q12
                  try clear hx12
                  try clear hx121_0
                  try clear hx121_1
                  try clear hx122_0
                  try clear hx122_1
                  try clear p121
                  try clear p122
                  try clear p2
                  try clear q121
                  try clear q122
                  obtain ⟨kq, x58_8, rfl, HA, HJ8, HB⟩ := hcut
                  cases kq with
                  | zero => exact absurd HA.out (by simp [fathomlaw3_FloatPairs.j2])
                  | succ kj8 =>
                    have H := HA.out
                    clear HA
                    simp only [fathomlaw3_FloatPairs.j2] at H
                    by_cases c16 : x58_8 = true
                    · subst c16
                      have H1 : (some false) = some r := by rw [if_pos rfl] at H; exact H
                      clear H
                      have H := H1
                      clear H1
                      obtain rfl := Option.some.inj H
                      go_wp2
                      go_ret
                      exact ⟨by first | rfl | (simp [errW_none, errW_some] <;> rfl) | (simp [*, errW_none, errW_some] <;> rfl), by repeat (first | (with_reducible first | exact HB.out | apply below_alloc | apply pw_below_drewN | apply below_drew1) | exact HB.out)⟩
                    · replace c16 := Bool.eq_false_iff.mpr c16
                      subst c16
                      have H1 : ((float_Cmp_uint32.f ((((rd_T39 l0 x3_1).f0) / 4294967296) % 4294967296) ((((rd_T39 l0 x3_1).f1) / 4294967296) % 4294967296)).bind fun bt129 => ((fathomref3_Compare.f kj8 (((rd_T39 l0 x3_1).f0) / 4294967296) (((rd_T39 l0 x3_1).f1) / 4294967296) 32).bind fun bt131 => (if bt129.1 = bt131.1 then (if (bt129.2 != bt131.2) = true then (some false) else ((float_Distance_uint32.f ((((rd_T39 l0 x3_1).f0) / 4294967296) % 4294967296) ((((rd_T39 l0 x3_1).f1) / 4294967296) % 4294967296)).bind fun t133 => ((fathomref3_Distance.f (((rd_T39 l0 x3_1).f0) / 4294967296) (((rd_T39 l0 x3_1).f1) / 4294967296) 32).bind fun t134 => (if (IntKind.u64.wrap (t133)) = t134 then (fathomlaw3_FloatPairs.l0 kj8 l0 (wrap64 (x3_1 + 1))) else (some false))))) else (some false)))) = some r := by rw [if_neg (show ¬ (false = true) by decide)] at H; exact H
                      clear H
                      have H := H1
                      clear H1
                      replace H := Option.bind_eq_some_iff.mp H
                      obtain ⟨⟨t129, t130⟩, A170, H⟩ := H
                      replace H : ((fathomref3_Compare.f kj8 (((rd_T39 l0 x3_1).f0) / 4294967296) (((rd_T39 l0 x3_1).f1) / 4294967296) 32).bind fun bt131 => (if t129 = bt131.1 then (if (t130 != bt131.2) = true then (some false) else ((float_Distance_uint32.f ((((rd_T39 l0 x3_1).f0) / 4294967296) % 4294967296) ((((rd_T39 l0 x3_1).f1) / 4294967296) % 4294967296)).bind fun t133 => ((fathomref3_Distance.f (((rd_T39 l0 x3_1).f0) / 4294967296) (((rd_T39 l0 x3_1).f1) / 4294967296) 32).bind fun t134 => (if (IntKind.u64.wrap (t133)) = t134 then (fathomlaw3_FloatPairs.l0 kj8 l0 (wrap64 (x3_1 + 1))) else (some false))))) else (some false))) = some r := H
                      have A17 := Aside0.mk A170
                      clear A170
                      replace H := Option.bind_eq_some_iff.mp H
                      obtain ⟨⟨t131, t132⟩, A180, H⟩ := H
                      replace H : (if t129 = t131 then (if (t130 != t132) = true then (some false) else ((float_Distance_uint32.f ((((rd_T39 l0 x3_1).f0) / 4294967296) % 4294967296) ((((rd_T39 l0 x3_1).f1) / 4294967296) % 4294967296)).bind fun t133 => ((fathomref3_Distance.f (((rd_T39 l0 x3_1).f0) / 4294967296) (((rd_T39 l0 x3_1).f1) / 4294967296) 32).bind fun t134 => (if (IntKind.u64.wrap (t133)) = t134 then (fathomlaw3_FloatPairs.l0 kj8 l0 (wrap64 (x3_1 + 1))) else (some false))))) else (some false)) = some r := H
                      have A18 := Aside0.mk A180
                      clear A180
                      by_cases c19 : t129 = t131
                      · rw [if_pos c19] at H
                        have c19b0 : (t129 == t131) = true := beq_iff_eq.mpr c19
                        have c19b1 : (t129 != t131) = false := bne_eq_false_iff_eq.mpr c19
                        clear c19
                        by_cases c20 : (t130 != t132) = true
                        · rw [if_pos c20] at H
                          have c20b0 : (t130 != t132) = true := c20
                          (try (have c20b1 : decide (t130 = t132) = false := by simpa using c20))
                          (try (have c20b2 : (t130 == t132) = false := by simpa using c20))
                          (try (have c20b3 : ¬ (t130 = t132) := by simpa using c20))
                          clear c20
                          obtain rfl := Option.some.inj H
                          go_wp2_with (first | ((with_reducible refine gate_callee (f := 47) rfl ?_); refine goesL_ (some 66) rfl rfl Try.func47 (by kernel_rfl) rfl #[.int .u32 ((((rd_T39 l0 x3_1).f0) / 4294967296) % 4294967296), .int .u32 ((((rd_T39 l0 x3_1).f1) / 4294967296) % 4294967296)] rfl (by (try simp only [List.map_toArray, List.map_cons, List.map_nil]); first | done | rfl | (simp only [List.length_drop, List.length_take]; rfl) | (simp only [gt_iff_lt, Int.natCast_pos]; rfl)) ?_; (with_reducible refine (float_Cmp_uint32.calls ((((rd_T39 l0 x3_1).f0) / 4294967296) % 4294967296) ((((rd_T39 l0 x3_1).f1) / 4294967296) % 4294967296) t129 t130 _ A17.out).mono ?_); rintro e w21 ⟨rfl, hb⟩; refine ⟨_, rfl, ?_⟩; have n0_ := Aside0.mk (below_step (by repeat (first | (with_reducible first | exact HB.out | apply below_alloc | apply pw_below_drewN | apply below_drew1) | exact HB.out)) hb); clear HB; have HB := n0_; clear n0_; (try clear hb); (try clear hb2); (try clear hk); (try clear hi)) | ((with_reducible refine gate_callee (f := 44) rfl ?_); refine goesL_ (some 74) rfl rfl Try.func44 (by kernel_rfl) rfl #[.int .u64 (((rd_T39 l0 x3_1).f0) / 4294967296), .int .u64 (((rd_T39 l0 x3_1).f1) / 4294967296), .int .i64 32] rfl (by (try simp only [List.map_toArray, List.map_cons, List.map_nil]); first | done | rfl | (simp only [List.length_drop, List.length_take]; rfl) | (simp only [gt_iff_lt, Int.natCast_pos]; rfl)) ?_; (with_reducible refine (fathomref3_Compare.calls kj8 (((rd_T39 l0 x3_1).f0) / 4294967296) (((rd_T39 l0 x3_1).f1) / 4294967296) 32 t131 t132 _ A18.out).mono ?_); rintro e w' ⟨rfl, ⟨nd, rfl⟩⟩; refine ⟨_, rfl, ?_⟩))
                          go_ret
                          exact ⟨by first | rfl | (simp [errW_none, errW_some] <;> rfl) | (simp [*, errW_none, errW_some] <;> rfl), by repeat (first | (with_reducible first | exact HB.out | apply below_alloc | apply pw_below_drewN | apply below_drew1) | exact HB.out)⟩
                        · rw [if_neg c20] at H
                          have c20b0 : (t130 != t132) = false := by simpa using c20
                          (try (have c20b1 : decide (t130 = t132) = true := by simpa using c20))
                          (try (have c20b2 : (t130 == t132) = true := by simpa using c20))
                          clear c20
                          replace H := Option.bind_eq_some_iff.mp H
                          obtain ⟨t133, A220, H⟩ := H
                          replace H : ((fathomref3_Distance.f (((rd_T39 l0 x3_1).f0) / 4294967296) (((rd_T39 l0 x3_1).f1) / 4294967296) 32).bind fun t134 => (if (IntKind.u64.wrap (t133)) = t134 then (fathomlaw3_FloatPairs.l0 kj8 l0 (wrap64 (x3_1 + 1))) else (some false))) = some r := H
                          have A22 := Aside0.mk A220
                          clear A220
                          replace H := Option.bind_eq_some_iff.mp H
                          obtain ⟨t134, A230, H⟩ := H
                          replace H : (if (IntKind.u64.wrap (t133)) = t134 then (fathomlaw3_FloatPairs.l0 kj8 l0 (wrap64 (x3_1 + 1))) else (some false)) = some r := H
                          have A23 := Aside0.mk A230
                          clear A230
                          by_cases c24 : (IntKind.u64.wrap (t133)) = t134
                          · rw [if_pos c24] at H
                            have c24b0 : ((IntKind.u64.wrap (t133)) == t134) = true := beq_iff_eq.mpr c24
                            have c24b1 : ((IntKind.u64.wrap (t133)) != t134) = false := bne_eq_false_iff_eq.mpr c24
                            clear c24
                            have H' := Aside0.mk H
                            clear H
                            go_wp2_with (first | ((with_reducible refine gate_callee (f := 47) rfl ?_); refine goesL_ (some 66) rfl rfl Try.func47 (by kernel_rfl) rfl #[.int .u32 ((((rd_T39 l0 x3_1).f0) / 4294967296) % 4294967296), .int .u32 ((((rd_T39 l0 x3_1).f1) / 4294967296) % 4294967296)] rfl (by (try simp only [List.map_toArray, List.map_cons, List.map_nil]); first | done | rfl | (simp only [List.length_drop, List.length_take]; rfl) | (simp only [gt_iff_lt, Int.natCast_pos]; rfl)) ?_; (with_reducible refine (float_Cmp_uint32.calls ((((rd_T39 l0 x3_1).f0) / 4294967296) % 4294967296) ((((rd_T39 l0 x3_1).f1) / 4294967296) % 4294967296) t129 t130 _ A17.out).mono ?_); rintro e w25 ⟨rfl, hb⟩; refine ⟨_, rfl, ?_⟩; have n0_ := Aside0.mk (below_step (by repeat (first | (with_reducible first | exact HB.out | apply below_alloc | apply pw_below_drewN | apply below_drew1) | exact HB.out)) hb); clear HB; have HB := n0_; clear n0_; (try clear hb); (try clear hb2); (try clear hk); (try clear hi)) | ((with_reducible refine gate_callee (f := 44) rfl ?_); refine goesL_ (some 74) rfl rfl Try.func44 (by kernel_rfl) rfl #[.int .u64 (((rd_T39 l0 x3_1).f0) / 4294967296), .int .u64 (((rd_T39 l0 x3_1).f1) / 4294967296), .int .i64 32] rfl (by (try simp only [List.map_toArray, List.map_cons, List.map_nil]); first | done | rfl | (simp only [List.length_drop, List.length_take]; rfl) | (simp only [gt_iff_lt, Int.natCast_pos]; rfl)) ?_; (with_reducible refine (fathomref3_Compare.calls kj8 (((rd_T39 l0 x3_1).f0) / 4294967296) (((rd_T39 l0 x3_1).f1) / 4294967296) 32 t131 t132 _ A18.out).mono ?_); rintro e w' ⟨rfl, ⟨nd, rfl⟩⟩; refine ⟨_, rfl, ?_⟩) | (go_at_call 48; (with_reducible refine (float_Distance_uint32.calls ((((rd_T39 l0 x3_1).f0) / 4294967296) % 4294967296) ((((rd_T39 l0 x3_1).f1) / 4294967296) % 4294967296) t133 _ A22.out).mono ?_); rintro e w26 ⟨rfl, hb⟩; have n0_ := Aside0.mk (below_step (by repeat (first | (with_reducible first | exact HB.out | apply below_alloc | apply pw_below_drewN | apply below_drew1) | exact HB.out)) hb); clear HB; have HB := n0_; clear n0_; (try clear hb); (try clear hb2); (try clear hk); (try clear hi)) | (go_at_call 46; (with_reducible refine (fathomref3_Distance.calls (((rd_T39 l0 x3_1).f0) / 4294967296) (((rd_T39 l0 x3_1).f1) / 4294967296) 32 t134 _ A23.out).mono ?_); rintro e w' ⟨rfl, ⟨nd, rfl⟩⟩))
                            go_roundg kj8
                            case measure => have := HK1.out; have := HJ1.out; have := HJ8.out; omega
                            case rel => exact ⟨(wrap64 (x3_1 + 1)), (by first | rfl | (simp; done) | (simp [*]; done)), H', ⟨by have := HK1.out; have := HJ1.out; have := HJ8.out; omega⟩, ⟨by repeat (first | (with_reducible first | exact HB.out | apply below_alloc | apply pw_below_drewN | apply below_drew1) | exact HB.out)⟩⟩
                          · rw [if_neg c24] at H
                            have c24b0 : ((IntKind.u64.wrap (t133)) == t134) = false := beq_eq_false_iff_ne.mpr c24
                            have c24b1 : ((IntKind.u64.wrap (t133)) != t134) = true := bne_iff_ne.mpr c24
                            obtain rfl := Option.some.inj H
                            go_wp2_with (first | ((with_reducible refine gate_callee (f := 47) rfl ?_); refine goesL_ (some 66) rfl rfl Try.func47 (by kernel_rfl) rfl #[.int .u32 ((((rd_T39 l0 x3_1).f0) / 4294967296) % 4294967296), .int .u32 ((((rd_T39 l0 x3_1).f1) / 4294967296) % 4294967296)] rfl (by (try simp only [List.map_toArray, List.map_cons, List.map_nil]); first | done | rfl | (simp only [List.length_drop, List.length_take]; rfl) | (simp only [gt_iff_lt, Int.natCast_pos]; rfl)) ?_; (with_reducible refine (float_Cmp_uint32.calls ((((rd_T39 l0 x3_1).f0) / 4294967296) % 4294967296) ((((rd_T39 l0 x3_1).f1) / 4294967296) % 4294967296) t129 t130 _ A17.out).mono ?_); rintro e w27 ⟨rfl, hb⟩; refine ⟨_, rfl, ?_⟩; have n0_ := Aside0.mk (below_step (by repeat (first | (with_reducible first | exact HB.out | apply below_alloc | apply pw_below_drewN | apply below_drew1) | exact HB.out)) hb); clear HB; have HB := n0_; clear n0_; (try clear hb); (try clear hb2); (try clear hk); (try clear hi)) | ((with_reducible refine gate_callee (f := 44) rfl ?_); refine goesL_ (some 74) rfl rfl Try.func44 (by kernel_rfl) rfl #[.int .u64 (((rd_T39 l0 x3_1).f0) / 4294967296), .int .u64 (((rd_T39 l0 x3_1).f1) / 4294967296), .int .i64 32] rfl (by (try simp only [List.map_toArray, List.map_cons, List.map_nil]); first | done | rfl | (simp only [List.length_drop, List.length_take]; rfl) | (simp only [gt_iff_lt, Int.natCast_pos]; rfl)) ?_; (with_reducible refine (fathomref3_Compare.calls kj8 (((rd_T39 l0 x3_1).f0) / 4294967296) (((rd_T39 l0 x3_1).f1) / 4294967296) 32 t131 t132 _ A18.out).mono ?_); rintro e w' ⟨rfl, ⟨nd, rfl⟩⟩; refine ⟨_, rfl, ?_⟩) | (go_at_call 48; (with_reducible refine (float_Distance_uint32.calls ((((rd_T39 l0 x3_1).f0) / 4294967296) % 4294967296) ((((rd_T39 l0 x3_1).f1) / 4294967296) % 4294967296) t133 _ A22.out).mono ?_); rintro e w28 ⟨rfl, hb⟩; have n0_ := Aside0.mk (below_step (by repeat (first | (with_reducible first | exact HB.out | apply below_alloc | apply pw_below_drewN | apply below_drew1) | exact HB.out)) hb); clear HB; have HB := n0_; clear n0_; (try clear hb); (try clear hb2); (try clear hk); (try clear hi)) | (go_at_call 46; (with_reducible refine (fathomref3_Distance.calls (((rd_T39 l0 x3_1).f0) / 4294967296) (((rd_T39 l0 x3_1).f1) / 4294967296) 32 t134 _ A23.out).mono ?_); rintro e w' ⟨rfl, ⟨nd, rfl⟩⟩))
                            go_ret
                            exact ⟨by first | rfl | (simp [errW_none, errW_some] <;> rfl) | (simp [*, errW_none, errW_some] <;> rfl), by repeat (first | (with_reducible first | exact HB.out | apply below_alloc | apply pw_below_drewN | apply below_drew1) | exact HB.out)⟩
                      · rw [if_neg c19] at H
                        have c19b0 : (t129 == t131) = false := beq_eq_false_iff_ne.mpr c19
                        have c19b1 : (t129 != t131) = true := bne_iff_ne.mpr c19
                        obtain rfl := Option.some.inj H
                        go_wp2_with (first | ((with_reducible refine gate_callee (f := 47) rfl ?_); refine goesL_ (some 66) rfl rfl Try.func47 (by kernel_rfl) rfl #[.int .u32 ((((rd_T39 l0 x3_1).f0) / 4294967296) % 4294967296), .int .u32 ((((rd_T39 l0 x3_1).f1) / 4294967296) % 4294967296)] rfl (by (try simp only [List.map_toArray, List.map_cons, List.map_nil]); first | done | rfl | (simp only [List.length_drop, List.length_take]; rfl) | (simp only [gt_iff_lt, Int.natCast_pos]; rfl)) ?_; (with_reducible refine (float_Cmp_uint32.calls ((((rd_T39 l0 x3_1).f0) / 4294967296) % 4294967296) ((((rd_T39 l0 x3_1).f1) / 4294967296) % 4294967296) t129 t130 _ A17.out).mono ?_); rintro e w29 ⟨rfl, hb⟩; refine ⟨_, rfl, ?_⟩; have n0_ := Aside0.mk (below_step (by repeat (first | (with_reducible first | exact HB.out | apply below_alloc | apply pw_below_drewN | apply below_drew1) | exact HB.out)) hb); clear HB; have HB := n0_; clear n0_; (try clear hb); (try clear hb2); (try clear hk); (try clear hi)) | ((with_reducible refine gate_callee (f := 44) rfl ?_); refine goesL_ (some 74) rfl rfl Try.func44 (by kernel_rfl) rfl #[.int .u64 (((rd_T39 l0 x3_1).f0) / 4294967296), .int .u64 (((rd_T39 l0 x3_1).f1) / 4294967296), .int .i64 32] rfl (by (try simp only [List.map_toArray, List.map_cons, List.map_nil]); first | done | rfl | (simp only [List.length_drop, List.length_take]; rfl) | (simp only [gt_iff_lt, Int.natCast_pos]; rfl)) ?_; (with_reducible refine (fathomref3_Compare.calls kj8 (((rd_T39 l0 x3_1).f0) / 4294967296) (((rd_T39 l0 x3_1).f1) / 4294967296) 32 t131 t132 _ A18.out).mono ?_); rintro e w' ⟨rfl, ⟨nd, rfl⟩⟩; refine ⟨_, rfl, ?_⟩))
                        go_ret
                        exact ⟨by first | rfl | (simp [errW_none, errW_some] <;> rfl) | (simp [*, errW_none, errW_some] <;> rfl), by repeat (first | (with_reducible first | exact HB.out | apply below_alloc | apply pw_below_drewN | apply below_drew1) | exact HB.out)⟩
              · rw [if_neg c6] at H
                exact absurd H (by simp)
            · rw [if_neg c5] at H
              exact absurd H (by simp)
          · replace c4 := Bool.eq_false_iff.mpr c4
            subst c4
            have H1 : ((fathomlaw3_wakes.f).bind fun t120 => (some t120)) = some r := by rw [if_neg (show ¬ (false = true) by decide)] at H; exact H
            clear H
            have H := H1
            clear H1
            replace H := Option.bind_eq_some_iff.mp H
            obtain ⟨t120, A300, H⟩ := H
            replace H : (some t120) = some r := H
            have A30 := Aside0.mk A300
            clear A300
            obtain rfl := Option.some.inj H
            go_wp2_with (first | ((with_reducible refine gate_callee (f := 24) rfl ?_); refine goesL_ (some 101) rfl rfl Try.func24 (by kernel_rfl) rfl #[] rfl (by (try simp only [List.map_toArray, List.map_cons, List.map_nil]); first | done | rfl | (simp only [List.length_drop, List.length_take]; rfl) | (simp only [gt_iff_lt, Int.natCast_pos]; rfl)) ?_; (with_reducible refine (fathomlaw3_wakes.calls  t120 _ A30.out).mono ?_); rintro e w31 ⟨rfl, hb⟩; refine ⟨_, rfl, ?_⟩; have n0_ := Aside0.mk (below_step (by repeat (first | (with_reducible first | exact HB.out | apply below_alloc | apply pw_below_drewN | apply below_drew1) | exact HB.out)) hb); clear HB; have HB := n0_; clear n0_; (try clear hb); (try clear hb2); (try clear hk); (try clear hi)))
            go_ret
            exact ⟨by first | rfl | (simp [errW_none, errW_some] <;> rfl) | (simp [*, errW_none, errW_some] <;> rfl), by repeat (first | (with_reducible first | exact HB.out | apply below_alloc | apply pw_below_drewN | apply below_drew1) | exact HB.out)⟩
end Go.Proofs.Ytfloeiagdegpjaa.LPairs
