/- The law FloatReckons: what its body comes to, as a Lean function over the rows that it is handed. The walk began as print.sh's text for this function, over the float functions of YtfloeiagdegpjaaSt. -/
import Derived.Test.YtfloeiagdegpjaaSt
import Derived.Test.YtfloeiagdegpjaaR7
import Derived.Test.YtfloeiagdegpjaaR8
import Derived.Test.YtfloeiagdegpjaaR9
import Derived.Test.YtfloeiagdegpjaaRa
namespace Go.Proofs.Ytfloeiagdegpjaa.LReckons
open Go.RowKit Go.Proofs.YtfloeiagdegpjaaW.PrintWords Go.Proofs.YtfloeiagdegpjaaW.PrintLast Go.Proofs.YtfloeiagdegpjaaW.PrintMore Go.Proofs.Ytfloeiagdegpjaa.Rf
attribute [local go_sem] max2_int min2_int max_two min_two max_three min_three max_four min_four
set_option linter.unusedVariables false
set_option linter.unusedSimpArgs false

/-! #### struct type 73 -/
structure S73 where
  f0 : Int
  f1 : Int
  f2 : Int
def z73 : S73 := ⟨(0 : Int), (0 : Int), (0 : Int)⟩
def k73 : Kd S73 := Kd.iso (Kd.pair (Kd.int .u64) (Kd.pair (Kd.int .u64) (Kd.int .u64))) (fun x : S73 => (x.f0, x.f1, x.f2))
theorem k73_heap : Kd.Heap k73 := Kd.heap_iso _ (Kd.heap_pair (Kd.heap_int .u64) (Kd.heap_pair (Kd.heap_int .u64) (Kd.heap_int .u64)))
theorem k73_open {w : World} {x : S73} {cs : List Value} (h : k73.K w x cs) : cs = [.int .u64 x.f0, .int .u64 x.f1, .int .u64 x.f2] := by
  obtain ⟨_, _, rfl, rfl, ⟨_, _, rfl, rfl, rfl⟩⟩ := h
  exact rfl
theorem k73_openM {w : World} {base : Nat} {ok : Nat → Prop} {x : S73} {cs : List Value} (h : k73.M w base ok x cs) : cs = [.int .u64 x.f0, .int .u64 x.f1, .int .u64 x.f2] := by
  obtain ⟨_, _, rfl, rfl, ⟨_, _, rfl, rfl, rfl⟩⟩ := h
  exact rfl
theorem k73_mk (w : World) (x : S73)  : k73.K w x [.int .u64 x.f0, .int .u64 x.f1, .int .u64 x.f2] := ⟨[.int .u64 x.f0], [.int .u64 x.f1, .int .u64 x.f2], rfl, rfl, ⟨[.int .u64 x.f1], [.int .u64 x.f2], rfl, rfl, rfl⟩⟩
theorem k73_mkM (w : World) (base : Nat) (ok : Nat → Prop) (x : S73)  : k73.M w base ok x [.int .u64 x.f0, .int .u64 x.f1, .int .u64 x.f2] := ⟨[.int .u64 x.f0], [.int .u64 x.f1, .int .u64 x.f2], rfl, rfl, ⟨[.int .u64 x.f1], [.int .u64 x.f2], rfl, rfl, rfl⟩⟩
theorem k73_mkF (W : World) (ok : Nat → Prop) (x : S73) : Kd.FK k73 W ok x [.int .u64 x.f0, .int .u64 x.f1, .int .u64 x.f2] := fun W2 _ => k73_mk W2 x
def rd_T73 (xs : List S73) (i : Int) : S73 := xs.getD i.toNat z73
theorem at_T73 {w : World} {A : Option Addr} {n : Nat} {xs : List S73} (h : Kd.C k73 w A n xs) (i : Int) (h0 : 0 ≤ i) (h1 : i < n) : ∃ ad , A = some ad ∧ w.cell? (ad.add (i.toNat * 3)) = some (.int .u64 (rd_T73 xs i).f0) ∧ w.cell? ⟨(ad.add (i.toNat * 3)).block, (ad.add (i.toNat * 3)).off + 1, none⟩ = some (.int .u64 (rd_T73 xs i).f1) ∧ w.cell? ⟨(ad.add (i.toNat * 3)).block, (ad.add (i.toNat * 3)).off + 2, none⟩ = some (.int .u64 (rd_T73 xs i).f2) := by
  obtain ⟨ad, c, e, _, hK, hc0⟩ := Kd.C_get h z73 i h0 h1
  have hc : ∀ j u, c[j]? = some u → w.cell? (ad.add (i.toNat * 3 + j)) = some u := hc0
  obtain rfl := k73_open hK
  exact ⟨ad, e, hc 0 _ rfl, by rw [← add_field _ _ 1 (by omega)]; exact hc 1 _ rfl, by rw [← add_field _ _ 2 (by omega)]; exact hc 2 _ rfl⟩


/-! ### fathomlaw3_FloatReckons: function 15 -/
mutual
def fathomlaw3_FloatReckons.l0 : Nat → List (S73) → Int → Option (Bool)
  | 0, _, _ => none
  | k + 1, x0, x3 => if x3 < (x0.length : Int) then (fathomlaw3_FloatReckons.j1 k x0 x3 (decide (x3 < 2000))) else (fathomlaw3_FloatReckons.j1 k x0 x3 false)
def fathomlaw3_FloatReckons.j1 : Nat → List (S73) → Int → Bool → Option (Bool)
  | 0, _, _, _ => none
  | k + 1, x0, x3, x14 => if x14 = true then (if 0 ≤ x3 then (if x3 < (x0.length : Int) then ((float_Add_uint64.f ((rd_T73 x0 x3).f0) ((rd_T73 x0 x3).f1)).bind fun t496 => ((fathomref3_Add.f k ((rd_T73 x0 x3).f0) ((rd_T73 x0 x3).f1) 64).bind fun t497 => (if t496 = t497 then ((float_Sub_uint64.f ((rd_T73 x0 x3).f0) ((rd_T73 x0 x3).f1)).bind fun t498 => ((fathomref3_Sub.f k ((rd_T73 x0 x3).f0) ((rd_T73 x0 x3).f1) 64).bind fun t499 => (if t498 = t499 then ((float_Mul_uint64.f ((rd_T73 x0 x3).f0) ((rd_T73 x0 x3).f1)).bind fun t500 => ((fathomref3_Mul.f k ((rd_T73 x0 x3).f0) ((rd_T73 x0 x3).f1) 64).bind fun t501 => (if t500 = t501 then ((float_Div_uint64.f ((rd_T73 x0 x3).f0) ((rd_T73 x0 x3).f1)).bind fun t502 => ((fathomref3_Div.f k ((rd_T73 x0 x3).f0) ((rd_T73 x0 x3).f1) 64).bind fun t503 => (fathomlaw3_FloatReckons.j2 k x0 x3 ((rd_T73 x0 x3).f0) ((rd_T73 x0 x3).f1) ((rd_T73 x0 x3).f2) (t502 != t503)))) else (fathomlaw3_FloatReckons.j2 k x0 x3 ((rd_T73 x0 x3).f0) ((rd_T73 x0 x3).f1) ((rd_T73 x0 x3).f2) true)))) else (fathomlaw3_FloatReckons.j2 k x0 x3 ((rd_T73 x0 x3).f0) ((rd_T73 x0 x3).f1) ((rd_T73 x0 x3).f2) true)))) else (fathomlaw3_FloatReckons.j2 k x0 x3 ((rd_T73 x0 x3).f0) ((rd_T73 x0 x3).f1) ((rd_T73 x0 x3).f2) true)))) else (none)) else (none)) else ((fathomlaw3_wakes.f).bind fun t492 => (some t492))
def fathomlaw3_FloatReckons.j2 : Nat → List (S73) → Int → Int → Int → Int → Bool → Option (Bool)
  | 0, _, _, _, _, _, _ => none
  | k + 1, x0, x3, x4, x5, x6, x65 => if x65 = true then (some false) else ((float_Root_uint64.f x4).bind fun t504 => ((fathomref3_Root.f k x4 64).bind fun t505 => (if t504 = t505 then ((float_Fma.f x4 x5 x6).bind fun t506 => ((fathomref3_Fma.f k x4 x5 x6).bind fun t507 => (if t506 = t507 then (fathomlaw3_FloatReckons.l0 k x0 (wrap64 (x3 + 1))) else (some false)))) else (some false))))
end
def fathomlaw3_FloatReckons.f (k : Nat) (l0 : List (S73)) : Option (Bool) := fathomlaw3_FloatReckons.l0 k l0 0
theorem fathomlaw3_FloatReckons.mono_l : ∀ k, (∀ y0 y1, LeO (fathomlaw3_FloatReckons.l0 k y0 y1) (fathomlaw3_FloatReckons.l0 (k + 1) y0 y1)) ∧ (∀ y0 y1 y2, LeO (fathomlaw3_FloatReckons.j1 k y0 y1 y2) (fathomlaw3_FloatReckons.j1 (k + 1) y0 y1 y2)) ∧ (∀ y0 y1 y2 y3 y4 y5, LeO (fathomlaw3_FloatReckons.j2 k y0 y1 y2 y3 y4 y5) (fathomlaw3_FloatReckons.j2 (k + 1) y0 y1 y2 y3 y4 y5))
  | 0 => ⟨fun _ _ r h => by simp [fathomlaw3_FloatReckons.l0] at h, fun _ _ _ r h => by simp [fathomlaw3_FloatReckons.j1] at h, fun _ _ _ _ _ _ r h => by simp [fathomlaw3_FloatReckons.j2] at h⟩
  | k + 1 => by
    obtain ⟨ih0, ih1, ih2⟩ := fathomlaw3_FloatReckons.mono_l k
    refine ⟨?_, ?_, ?_⟩
    · intro y0 y1
      unfold fathomlaw3_FloatReckons.l0
      repeat' first
      | (with_reducible exact ih0 _ _)
      | (with_reducible exact ih1 _ _ _)
      | (with_reducible exact ih2 _ _ _ _ _ _)
      | (with_reducible exact fathomref3_Add.mono _ _ _ _)
      | (with_reducible exact fathomref3_Div.mono _ _ _ _)
      | (with_reducible exact fathomref3_Fma.mono _ _ _ _)
      | (with_reducible exact fathomref3_Mul.mono _ _ _ _)
      | (with_reducible exact fathomref3_Root.mono _ _ _)
      | (with_reducible exact fathomref3_Sub.mono _ _ _ _)
      | (with_reducible exact LeO.refl _)
      | (with_reducible exact LeO.none _)
      | (with_reducible refine LeO.ite ?_ ?_)
      | (with_reducible refine LeO.bind ?_ (fun _ => ?_))
      | exact ih0 _ _
      | exact ih1 _ _ _
      | exact ih2 _ _ _ _ _ _
      | exact fathomref3_Add.mono _ _ _ _
      | exact fathomref3_Div.mono _ _ _ _
      | exact fathomref3_Fma.mono _ _ _ _
      | exact fathomref3_Mul.mono _ _ _ _
      | exact fathomref3_Root.mono _ _ _
      | exact fathomref3_Sub.mono _ _ _ _
      | exact LeO.none _
      | refine LeO.ite ?_ ?_
      | refine LeO.bind ?_ (fun _ => ?_)
    · intro y0 y1 y2
      unfold fathomlaw3_FloatReckons.j1
      repeat' first
      | (with_reducible exact ih0 _ _)
      | (with_reducible exact ih1 _ _ _)
      | (with_reducible exact ih2 _ _ _ _ _ _)
      | (with_reducible exact fathomref3_Add.mono _ _ _ _)
      | (with_reducible exact fathomref3_Div.mono _ _ _ _)
      | (with_reducible exact fathomref3_Fma.mono _ _ _ _)
      | (with_reducible exact fathomref3_Mul.mono _ _ _ _)
      | (with_reducible exact fathomref3_Root.mono _ _ _)
      | (with_reducible exact fathomref3_Sub.mono _ _ _ _)
      | (with_reducible exact LeO.refl _)
      | (with_reducible exact LeO.none _)
      | (with_reducible refine LeO.ite ?_ ?_)
      | (with_reducible refine LeO.bind ?_ (fun _ => ?_))
      | exact ih0 _ _
      | exact ih1 _ _ _
      | exact ih2 _ _ _ _ _ _
      | exact fathomref3_Add.mono _ _ _ _
      | exact fathomref3_Div.mono _ _ _ _
      | exact fathomref3_Fma.mono _ _ _ _
      | exact fathomref3_Mul.mono _ _ _ _
      | exact fathomref3_Root.mono _ _ _
      | exact fathomref3_Sub.mono _ _ _ _
      | exact LeO.none _
      | refine LeO.ite ?_ ?_
      | refine LeO.bind ?_ (fun _ => ?_)
    · intro y0 y1 y2 y3 y4 y5
      unfold fathomlaw3_FloatReckons.j2
      repeat' first
      | (with_reducible exact ih0 _ _)
      | (with_reducible exact ih1 _ _ _)
      | (with_reducible exact ih2 _ _ _ _ _ _)
      | (with_reducible exact fathomref3_Add.mono _ _ _ _)
      | (with_reducible exact fathomref3_Div.mono _ _ _ _)
      | (with_reducible exact fathomref3_Fma.mono _ _ _ _)
      | (with_reducible exact fathomref3_Mul.mono _ _ _ _)
      | (with_reducible exact fathomref3_Root.mono _ _ _)
      | (with_reducible exact fathomref3_Sub.mono _ _ _ _)
      | (with_reducible exact LeO.refl _)
      | (with_reducible exact LeO.none _)
      | (with_reducible refine LeO.ite ?_ ?_)
      | (with_reducible refine LeO.bind ?_ (fun _ => ?_))
      | exact ih0 _ _
      | exact ih1 _ _ _
      | exact ih2 _ _ _ _ _ _
      | exact fathomref3_Add.mono _ _ _ _
      | exact fathomref3_Div.mono _ _ _ _
      | exact fathomref3_Fma.mono _ _ _ _
      | exact fathomref3_Mul.mono _ _ _ _
      | exact fathomref3_Root.mono _ _ _
      | exact fathomref3_Sub.mono _ _ _ _
      | exact LeO.none _
      | refine LeO.ite ?_ ?_
      | refine LeO.bind ?_ (fun _ => ?_)
theorem fathomlaw3_FloatReckons.mono : ∀ a0 k, LeO (fathomlaw3_FloatReckons.f k a0) (fathomlaw3_FloatReckons.f (k + 1) a0) := by
  intro a0 k
  obtain ⟨ih0, ih1, ih2⟩ := fathomlaw3_FloatReckons.mono_l k
  unfold fathomlaw3_FloatReckons.f
  repeat' first
      | (with_reducible exact ih0 _ _)
      | (with_reducible exact ih1 _ _ _)
      | (with_reducible exact ih2 _ _ _ _ _ _)
      | (with_reducible exact fathomref3_Add.mono _ _ _ _)
      | (with_reducible exact fathomref3_Div.mono _ _ _ _)
      | (with_reducible exact fathomref3_Fma.mono _ _ _ _)
      | (with_reducible exact fathomref3_Mul.mono _ _ _ _)
      | (with_reducible exact fathomref3_Root.mono _ _ _)
      | (with_reducible exact fathomref3_Sub.mono _ _ _ _)
      | (with_reducible exact LeO.refl _)
      | (with_reducible exact LeO.none _)
      | (with_reducible refine LeO.ite ?_ ?_)
      | (with_reducible refine LeO.bind ?_ (fun _ => ?_))
      | exact ih0 _ _
      | exact ih1 _ _ _
      | exact ih2 _ _ _ _ _ _
      | exact fathomref3_Add.mono _ _ _ _
      | exact fathomref3_Div.mono _ _ _ _
      | exact fathomref3_Fma.mono _ _ _ _
      | exact fathomref3_Mul.mono _ _ _ _
      | exact fathomref3_Root.mono _ _ _
      | exact fathomref3_Sub.mono _ _ _ _
      | exact LeO.none _
      | refine LeO.ite ?_ ?_
      | refine LeO.bind ?_ (fun _ => ?_)
set_option maxHeartbeats 8000000 in
set_option maxRecDepth 100000 in
theorem fathomlaw3_FloatReckons.calls (k : Nat) (A0 : Option Addr) (c0 : Nat) (l0 : List (S73)) (r : Bool) (w : World) (hr0 : Kd.C k73 w A0 l0.length l0) (hc0 : l0.length ≤ c0) (h : fathomlaw3_FloatReckons.f k l0 = some r) :
    Calls Try.prog 15 #[.slice A0 l0.length c0] w fun e w' => e = .returned (.bool r) ∧ Below w.heap.size w w' := by
  have HR0 := Aside0.mk hr0
  have HC0 := Aside0.mk hc0
  clear hr0 hc0
  have HB := Aside0.mk (Below.refl w.heap.size w)
  have H : (fathomlaw3_FloatReckons.l0 k l0 0) = some r := h
  clear h
  have H' := Aside0.mk H
  clear H
  go_enter Try.func15, Try.ntmps15
  go_wp2
  go_loopg [3] k (fun kq v3 w' => ∃ (x3_1 : Int), v3 = .int .i64 x3_1 ∧ Aside0 (fathomlaw3_FloatReckons.l0 kq l0 x3_1 = some r) ∧ Aside0 (kq ≤ k) ∧ Aside0 (Below w.heap.size w w'))
  case atStart => exact ⟨(0), (by first | rfl | (simp; done) | (simp [*]; done)), H', ⟨Nat.le_refl _⟩, ⟨by repeat (first | (with_reducible first | exact HB.out | apply below_alloc | apply pw_below_drewN | apply below_drew1) | exact HB.out)⟩⟩
  case round =>
    clear H'
    try clear c1
    obtain ⟨x3_1, rfl, HA, HK1, HB⟩ := hrel
    cases gk with
    | zero => exact absurd HA.out (by simp [fathomlaw3_FloatReckons.l0])
    | succ k1 =>
      have H := HA.out
      clear HA
      simp only [fathomlaw3_FloatReckons.l0] at H
      have HC2 := Aside0.mk H
      clear H
      go_upto_region 2 with (fail)
      go_cut [14] (fun v14 wc => ∃ (kq : Nat) (x14_1 : Bool), v14 = .bool x14_1 ∧ Aside0 (fathomlaw3_FloatReckons.j1 kq l0 x3_1 x14_1 = some r) ∧ Aside0 (kq ≤ k1) ∧ Aside0 (Below w.heap.size w wc))
      case first =>
        have H := HC2.out
        clear HC2
        by_cases c3 : x3_1 < (l0.length : Int)
        · rw [if_pos c3] at H
          have c3b0 : decide (x3_1 < (l0.length : Int)) = true := decide_eq_true c3
          clear c3
          (first | rw [c3b0] | (simp only [i64_w, i32_w]; rw [c3b0]) | skip)
          have H' := Aside0.mk H
          clear H
          go_wp2
          go_meet
          case rel => exact ⟨_, (decide (x3_1 < 2000)), (by first | rfl | (simp; done) | (simp [*]; done)), H', ⟨by have := HK1.out; first | omega | exact Nat.le_refl _⟩, ⟨by repeat (first | (with_reducible first | exact HB.out | apply below_alloc | apply pw_below_drewN | apply below_drew1) | exact HB.out)⟩⟩
        · rw [if_neg c3] at H
          have c3b0 : decide (x3_1 < (l0.length : Int)) = false := decide_eq_false c3
          clear c3
          (first | rw [c3b0] | (simp only [i64_w, i32_w]; rw [c3b0]) | skip)
          have H' := Aside0.mk H
          clear H
          go_wp2
          go_meet
          case rel => exact ⟨_, (false), (by first | rfl | (simp; done) | (simp [*]; done)), H', ⟨by have := HK1.out; first | omega | exact Nat.le_refl _⟩, ⟨by repeat (first | (with_reducible first | exact HB.out | apply below_alloc | apply pw_below_drewN | apply below_drew1) | exact HB.out)⟩⟩
      case rest =>
        clear HC2
        try clear c1
        try clear p2
        try clear c3
        try clear c3b0
        obtain ⟨kq, x14_1, rfl, HA, HJ1, HB⟩ := hcut
        cases kq with
        | zero => exact absurd HA.out (by simp [fathomlaw3_FloatReckons.j1])
        | succ kj1 =>
          have H := HA.out
          clear HA
          simp only [fathomlaw3_FloatReckons.j1] at H
          by_cases c4 : x14_1 = true
          · subst c4
            have H1 : (if 0 ≤ x3_1 then (if x3_1 < (l0.length : Int) then ((float_Add_uint64.f ((rd_T73 l0 x3_1).f0) ((rd_T73 l0 x3_1).f1)).bind fun t496 => ((fathomref3_Add.f kj1 ((rd_T73 l0 x3_1).f0) ((rd_T73 l0 x3_1).f1) 64).bind fun t497 => (if t496 = t497 then ((float_Sub_uint64.f ((rd_T73 l0 x3_1).f0) ((rd_T73 l0 x3_1).f1)).bind fun t498 => ((fathomref3_Sub.f kj1 ((rd_T73 l0 x3_1).f0) ((rd_T73 l0 x3_1).f1) 64).bind fun t499 => (if t498 = t499 then ((float_Mul_uint64.f ((rd_T73 l0 x3_1).f0) ((rd_T73 l0 x3_1).f1)).bind fun t500 => ((fathomref3_Mul.f kj1 ((rd_T73 l0 x3_1).f0) ((rd_T73 l0 x3_1).f1) 64).bind fun t501 => (if t500 = t501 then ((float_Div_uint64.f ((rd_T73 l0 x3_1).f0) ((rd_T73 l0 x3_1).f1)).bind fun t502 => ((fathomref3_Div.f kj1 ((rd_T73 l0 x3_1).f0) ((rd_T73 l0 x3_1).f1) 64).bind fun t503 => (fathomlaw3_FloatReckons.j2 kj1 l0 x3_1 ((rd_T73 l0 x3_1).f0) ((rd_T73 l0 x3_1).f1) ((rd_T73 l0 x3_1).f2) (t502 != t503)))) else (fathomlaw3_FloatReckons.j2 kj1 l0 x3_1 ((rd_T73 l0 x3_1).f0) ((rd_T73 l0 x3_1).f1) ((rd_T73 l0 x3_1).f2) true)))) else (fathomlaw3_FloatReckons.j2 kj1 l0 x3_1 ((rd_T73 l0 x3_1).f0) ((rd_T73 l0 x3_1).f1) ((rd_T73 l0 x3_1).f2) true)))) else (fathomlaw3_FloatReckons.j2 kj1 l0 x3_1 ((rd_T73 l0 x3_1).f0) ((rd_T73 l0 x3_1).f1) ((rd_T73 l0 x3_1).f2) true)))) else (none)) else (none)) = some r := by rw [if_pos rfl] at H; exact H
            clear H
            have H := H1
            clear H1
            by_cases c5 : 0 ≤ x3_1
            · rw [if_pos c5] at H
              have c5b0 : decide (0 ≤ x3_1) = true := decide_eq_true c5
              clear c5
              by_cases c6 : x3_1 < (l0.length : Int)
              · rw [if_pos c6] at H
                have c6b0 : decide (x3_1 < (l0.length : Int)) = true := decide_eq_true c6
                clear c6
                have HC7 := Aside0.mk H
                clear H
                have p493 : 0 ≤ (x3_1 : Int) := of_decide_eq_true (by first | (with_reducible assumption) | assumption)
                have q493 : x3_1 < (l0.length : Int) := of_decide_eq_true (by first | (with_reducible assumption) | assumption)
                obtain ⟨ad493, e493, hx493_0, hx493_1, hx493_2⟩ := at_T73 HR0.out x3_1 p493 q493
                cases e493
                replace hx493_0 := (HB.out.cell (World.block_lt_of_cell? w _ hx493_0)).trans hx493_0
                replace hx493_1 := (HB.out.cell (World.block_lt_of_cell? w _ hx493_1)).trans hx493_1
                replace hx493_2 := (HB.out.cell (World.block_lt_of_cell? w _ hx493_2)).trans hx493_2
                replace p493 := eq_true p493
                replace q493 := eq_true q493
                have p494 : 0 ≤ (x3_1 : Int) := of_decide_eq_true (by first | (with_reducible assumption) | assumption)
                have q494 : x3_1 < (l0.length : Int) := of_decide_eq_true (by first | (with_reducible assumption) | assumption)
                obtain ⟨ad494, e494, hx494_0, hx494_1, hx494_2⟩ := at_T73 HR0.out x3_1 p494 q494
                obtain rfl : ad493 = ad494 := (by injection e494)
                replace hx494_0 := (HB.out.cell (World.block_lt_of_cell? w _ hx494_0)).trans hx494_0
                replace hx494_1 := (HB.out.cell (World.block_lt_of_cell? w _ hx494_1)).trans hx494_1
                replace hx494_2 := (HB.out.cell (World.block_lt_of_cell? w _ hx494_2)).trans hx494_2
                replace p494 := eq_true p494
                replace q494 := eq_true q494
                have p495 : 0 ≤ (x3_1 : Int) := of_decide_eq_true (by first | (with_reducible assumption) | assumption)
                have q495 : x3_1 < (l0.length : Int) := of_decide_eq_true (by first | (with_reducible assumption) | assumption)
                obtain ⟨ad495, e495, hx495_0, hx495_1, hx495_2⟩ := at_T73 HR0.out x3_1 p495 q495
                obtain rfl : ad493 = ad495 := (by injection e495)
                replace hx495_0 := (HB.out.cell (World.block_lt_of_cell? w _ hx495_0)).trans hx495_0
                replace hx495_1 := (HB.out.cell (World.block_lt_of_cell? w _ hx495_1)).trans hx495_1
                replace hx495_2 := (HB.out.cell (World.block_lt_of_cell? w _ hx495_2)).trans hx495_2
                replace p495 := eq_true p495
                replace q495 := eq_true q495
                go_upto_region 7 with (fail)
                go_cut [65] (fun v65 wc => ∃ (kq : Nat) (x65_6 : Bool), v65 = .bool x65_6 ∧ Aside0 (fathomlaw3_FloatReckons.j2 kq l0 x3_1 ((rd_T73 l0 x3_1).f0) ((rd_T73 l0 x3_1).f1) ((rd_T73 l0 x3_1).f2) x65_6 = some r) ∧ Aside0 (kq ≤ kj1) ∧ Aside0 (Below w.heap.size w wc))
                case first =>
                  have H := HC7.out
                  clear HC7
                  replace H := Option.bind_eq_some_iff.mp H
                  obtain ⟨t496, A80, H⟩ := H
                  replace H : ((fathomref3_Add.f kj1 ((rd_T73 l0 x3_1).f0) ((rd_T73 l0 x3_1).f1) 64).bind fun t497 => (if t496 = t497 then ((float_Sub_uint64.f ((rd_T73 l0 x3_1).f0) ((rd_T73 l0 x3_1).f1)).bind fun t498 => ((fathomref3_Sub.f kj1 ((rd_T73 l0 x3_1).f0) ((rd_T73 l0 x3_1).f1) 64).bind fun t499 => (if t498 = t499 then ((float_Mul_uint64.f ((rd_T73 l0 x3_1).f0) ((rd_T73 l0 x3_1).f1)).bind fun t500 => ((fathomref3_Mul.f kj1 ((rd_T73 l0 x3_1).f0) ((rd_T73 l0 x3_1).f1) 64).bind fun t501 => (if t500 = t501 then ((float_Div_uint64.f ((rd_T73 l0 x3_1).f0) ((rd_T73 l0 x3_1).f1)).bind fun t502 => ((fathomref3_Div.f kj1 ((rd_T73 l0 x3_1).f0) ((rd_T73 l0 x3_1).f1) 64).bind fun t503 => (fathomlaw3_FloatReckons.j2 kj1 l0 x3_1 ((rd_T73 l0 x3_1).f0) ((rd_T73 l0 x3_1).f1) ((rd_T73 l0 x3_1).f2) (t502 != t503)))) else (fathomlaw3_FloatReckons.j2 kj1 l0 x3_1 ((rd_T73 l0 x3_1).f0) ((rd_T73 l0 x3_1).f1) ((rd_T73 l0 x3_1).f2) true)))) else (fathomlaw3_FloatReckons.j2 kj1 l0 x3_1 ((rd_T73 l0 x3_1).f0) ((rd_T73 l0 x3_1).f1) ((rd_T73 l0 x3_1).f2) true)))) else (fathomlaw3_FloatReckons.j2 kj1 l0 x3_1 ((rd_T73 l0 x3_1).f0) ((rd_T73 l0 x3_1).f1) ((rd_T73 l0 x3_1).f2) true))) = some r := H
                  have A8 := Aside0.mk A80
                  clear A80
                  replace H := Option.bind_eq_some_iff.mp H
                  obtain ⟨t497, A90, H⟩ := H
                  replace H : (if t496 = t497 then ((float_Sub_uint64.f ((rd_T73 l0 x3_1).f0) ((rd_T73 l0 x3_1).f1)).bind fun t498 => ((fathomref3_Sub.f kj1 ((rd_T73 l0 x3_1).f0) ((rd_T73 l0 x3_1).f1) 64).bind fun t499 => (if t498 = t499 then ((float_Mul_uint64.f ((rd_T73 l0 x3_1).f0) ((rd_T73 l0 x3_1).f1)).bind fun t500 => ((fathomref3_Mul.f kj1 ((rd_T73 l0 x3_1).f0) ((rd_T73 l0 x3_1).f1) 64).bind fun t501 => (if t500 = t501 then ((float_Div_uint64.f ((rd_T73 l0 x3_1).f0) ((rd_T73 l0 x3_1).f1)).bind fun t502 => ((fathomref3_Div.f kj1 ((rd_T73 l0 x3_1).f0) ((rd_T73 l0 x3_1).f1) 64).bind fun t503 => (fathomlaw3_FloatReckons.j2 kj1 l0 x3_1 ((rd_T73 l0 x3_1).f0) ((rd_T73 l0 x3_1).f1) ((rd_T73 l0 x3_1).f2) (t502 != t503)))) else (fathomlaw3_FloatReckons.j2 kj1 l0 x3_1 ((rd_T73 l0 x3_1).f0) ((rd_T73 l0 x3_1).f1) ((rd_T73 l0 x3_1).f2) true)))) else (fathomlaw3_FloatReckons.j2 kj1 l0 x3_1 ((rd_T73 l0 x3_1).f0) ((rd_T73 l0 x3_1).f1) ((rd_T73 l0 x3_1).f2) true)))) else (fathomlaw3_FloatReckons.j2 kj1 l0 x3_1 ((rd_T73 l0 x3_1).f0) ((rd_T73 l0 x3_1).f1) ((rd_T73 l0 x3_1).f2) true)) = some r := H
                  have A9 := Aside0.mk A90
                  clear A90
                  by_cases c10 : t496 = t497
                  · rw [if_pos c10] at H
                    have c10b0 : (t496 == t497) = true := beq_iff_eq.mpr c10
                    have c10b1 : (t496 != t497) = false := bne_eq_false_iff_eq.mpr c10
                    clear c10
                    (first | rw [c10b0] | (simp only [i64_w, i32_w]; rw [c10b0]) | skip)
                    replace H := Option.bind_eq_some_iff.mp H
                    obtain ⟨t498, A110, H⟩ := H
                    replace H : ((fathomref3_Sub.f kj1 ((rd_T73 l0 x3_1).f0) ((rd_T73 l0 x3_1).f1) 64).bind fun t499 => (if t498 = t499 then ((float_Mul_uint64.f ((rd_T73 l0 x3_1).f0) ((rd_T73 l0 x3_1).f1)).bind fun t500 => ((fathomref3_Mul.f kj1 ((rd_T73 l0 x3_1).f0) ((rd_T73 l0 x3_1).f1) 64).bind fun t501 => (if t500 = t501 then ((float_Div_uint64.f ((rd_T73 l0 x3_1).f0) ((rd_T73 l0 x3_1).f1)).bind fun t502 => ((fathomref3_Div.f kj1 ((rd_T73 l0 x3_1).f0) ((rd_T73 l0 x3_1).f1) 64).bind fun t503 => (fathomlaw3_FloatReckons.j2 kj1 l0 x3_1 ((rd_T73 l0 x3_1).f0) ((rd_T73 l0 x3_1).f1) ((rd_T73 l0 x3_1).f2) (t502 != t503)))) else (fathomlaw3_FloatReckons.j2 kj1 l0 x3_1 ((rd_T73 l0 x3_1).f0) ((rd_T73 l0 x3_1).f1) ((rd_T73 l0 x3_1).f2) true)))) else (fathomlaw3_FloatReckons.j2 kj1 l0 x3_1 ((rd_T73 l0 x3_1).f0) ((rd_T73 l0 x3_1).f1) ((rd_T73 l0 x3_1).f2) true))) = some r := H
                    have A11 := Aside0.mk A110
                    clear A110
                    replace H := Option.bind_eq_some_iff.mp H
                    obtain ⟨t499, A120, H⟩ := H
                    replace H : (if t498 = t499 then ((float_Mul_uint64.f ((rd_T73 l0 x3_1).f0) ((rd_T73 l0 x3_1).f1)).bind fun t500 => ((fathomref3_Mul.f kj1 ((rd_T73 l0 x3_1).f0) ((rd_T73 l0 x3_1).f1) 64).bind fun t501 => (if t500 = t501 then ((float_Div_uint64.f ((rd_T73 l0 x3_1).f0) ((rd_T73 l0 x3_1).f1)).bind fun t502 => ((fathomref3_Div.f kj1 ((rd_T73 l0 x3_1).f0) ((rd_T73 l0 x3_1).f1) 64).bind fun t503 => (fathomlaw3_FloatReckons.j2 kj1 l0 x3_1 ((rd_T73 l0 x3_1).f0) ((rd_T73 l0 x3_1).f1) ((rd_T73 l0 x3_1).f2) (t502 != t503)))) else (fathomlaw3_FloatReckons.j2 kj1 l0 x3_1 ((rd_T73 l0 x3_1).f0) ((rd_T73 l0 x3_1).f1) ((rd_T73 l0 x3_1).f2) true)))) else (fathomlaw3_FloatReckons.j2 kj1 l0 x3_1 ((rd_T73 l0 x3_1).f0) ((rd_T73 l0 x3_1).f1) ((rd_T73 l0 x3_1).f2) true)) = some r := H
                    have A12 := Aside0.mk A120
                    clear A120
                    by_cases c13 : t498 = t499
                    · rw [if_pos c13] at H
                      have c13b0 : (t498 == t499) = true := beq_iff_eq.mpr c13
                      have c13b1 : (t498 != t499) = false := bne_eq_false_iff_eq.mpr c13
                      clear c13
                      replace H := Option.bind_eq_some_iff.mp H
                      obtain ⟨t500, A140, H⟩ := H
                      replace H : ((fathomref3_Mul.f kj1 ((rd_T73 l0 x3_1).f0) ((rd_T73 l0 x3_1).f1) 64).bind fun t501 => (if t500 = t501 then ((float_Div_uint64.f ((rd_T73 l0 x3_1).f0) ((rd_T73 l0 x3_1).f1)).bind fun t502 => ((fathomref3_Div.f kj1 ((rd_T73 l0 x3_1).f0) ((rd_T73 l0 x3_1).f1) 64).bind fun t503 => (fathomlaw3_FloatReckons.j2 kj1 l0 x3_1 ((rd_T73 l0 x3_1).f0) ((rd_T73 l0 x3_1).f1) ((rd_T73 l0 x3_1).f2) (t502 != t503)))) else (fathomlaw3_FloatReckons.j2 kj1 l0 x3_1 ((rd_T73 l0 x3_1).f0) ((rd_T73 l0 x3_1).f1) ((rd_T73 l0 x3_1).f2) true))) = some r := H
                      have A14 := Aside0.mk A140
                      clear A140
                      replace H := Option.bind_eq_some_iff.mp H
                      obtain ⟨t501, A150, H⟩ := H
                      replace H : (if t500 = t501 then ((float_Div_uint64.f ((rd_T73 l0 x3_1).f0) ((rd_T73 l0 x3_1).f1)).bind fun t502 => ((fathomref3_Div.f kj1 ((rd_T73 l0 x3_1).f0) ((rd_T73 l0 x3_1).f1) 64).bind fun t503 => (fathomlaw3_FloatReckons.j2 kj1 l0 x3_1 ((rd_T73 l0 x3_1).f0) ((rd_T73 l0 x3_1).f1) ((rd_T73 l0 x3_1).f2) (t502 != t503)))) else (fathomlaw3_FloatReckons.j2 kj1 l0 x3_1 ((rd_T73 l0 x3_1).f0) ((rd_T73 l0 x3_1).f1) ((rd_T73 l0 x3_1).f2) true)) = some r := H
                      have A15 := Aside0.mk A150
                      clear A150
                      by_cases c16 : t500 = t501
                      · rw [if_pos c16] at H
                        have c16b0 : (t500 == t501) = true := beq_iff_eq.mpr c16
                        have c16b1 : (t500 != t501) = false := bne_eq_false_iff_eq.mpr c16
                        clear c16
                        replace H := Option.bind_eq_some_iff.mp H
                        obtain ⟨t502, A170, H⟩ := H
                        replace H : ((fathomref3_Div.f kj1 ((rd_T73 l0 x3_1).f0) ((rd_T73 l0 x3_1).f1) 64).bind fun t503 => (fathomlaw3_FloatReckons.j2 kj1 l0 x3_1 ((rd_T73 l0 x3_1).f0) ((rd_T73 l0 x3_1).f1) ((rd_T73 l0 x3_1).f2) (t502 != t503))) = some r := H
                        have A17 := Aside0.mk A170
                        clear A170
                        replace H := Option.bind_eq_some_iff.mp H
                        obtain ⟨t503, A180, H⟩ := H
                        replace H : (fathomlaw3_FloatReckons.j2 kj1 l0 x3_1 ((rd_T73 l0 x3_1).f0) ((rd_T73 l0 x3_1).f1) ((rd_T73 l0 x3_1).f2) (t502 != t503)) = some r := H
                        have A18 := Aside0.mk A180
                        clear A180
                        have H' := Aside0.mk H
                        clear H
                        go_wp2_with (first | ((with_reducible refine gate_callee (f := 75) rfl ?_); refine goesL_ (some 34) rfl rfl Try.func75 (by kernel_rfl) rfl #[.int .u64 ((rd_T73 l0 x3_1).f0), .int .u64 ((rd_T73 l0 x3_1).f1)] rfl (by (try simp only [List.map_toArray, List.map_cons, List.map_nil]); first | done | rfl | (simp only [List.length_drop, List.length_take]; rfl) | (simp only [gt_iff_lt, Int.natCast_pos]; rfl)) ?_; (with_reducible refine (float_Add_uint64.calls ((rd_T73 l0 x3_1).f0) ((rd_T73 l0 x3_1).f1) t496 _ A8.out).mono ?_); rintro e w' ⟨rfl, ⟨nd, rfl⟩⟩; refine ⟨_, rfl, ?_⟩) | ((with_reducible refine gate_callee (f := 65) rfl ?_); refine goesL_ (some 37) rfl rfl Try.func65 (by kernel_rfl) rfl #[.int .u64 ((rd_T73 l0 x3_1).f0), .int .u64 ((rd_T73 l0 x3_1).f1), .int .i64 64] rfl (by (try simp only [List.map_toArray, List.map_cons, List.map_nil]); first | done | rfl | (simp only [List.length_drop, List.length_take]; rfl) | (simp only [gt_iff_lt, Int.natCast_pos]; rfl)) ?_; (with_reducible refine (fathomref3_Add.calls kj1 ((rd_T73 l0 x3_1).f0) ((rd_T73 l0 x3_1).f1) 64 t497 _ A9.out).mono ?_); rintro e w19 ⟨rfl, hb⟩; refine ⟨_, rfl, ?_⟩; have n0_ := Aside0.mk (below_step (by repeat (first | (with_reducible first | exact HB.out | apply below_alloc | apply pw_below_drewN | apply below_drew1) | exact HB.out)) hb); clear HB; have HB := n0_; clear n0_; (try clear hb); (try clear hb2); (try clear hk); (try clear hi)) | (go_at_call 77; (with_reducible refine (float_Sub_uint64.calls ((rd_T73 l0 x3_1).f0) ((rd_T73 l0 x3_1).f1) t498 _ A11.out).mono ?_); rintro e w' ⟨rfl, ⟨nd, rfl⟩⟩) | (go_at_call 67; (with_reducible refine (fathomref3_Sub.calls kj1 ((rd_T73 l0 x3_1).f0) ((rd_T73 l0 x3_1).f1) 64 t499 _ A12.out).mono ?_); rintro e w20 ⟨rfl, hb⟩; have n0_ := Aside0.mk (below_step (by repeat (first | (with_reducible first | exact HB.out | apply below_alloc | apply pw_below_drewN | apply below_drew1) | exact HB.out)) hb); clear HB; have HB := n0_; clear n0_; (try clear hb); (try clear hb2); (try clear hk); (try clear hi)) | (go_at_call 76; (with_reducible refine (float_Mul_uint64.calls ((rd_T73 l0 x3_1).f0) ((rd_T73 l0 x3_1).f1) t500 _ A14.out).mono ?_); rintro e w' ⟨rfl, ⟨nd, rfl⟩⟩) | (go_at_call 69; (with_reducible refine (fathomref3_Mul.calls kj1 ((rd_T73 l0 x3_1).f0) ((rd_T73 l0 x3_1).f1) 64 t501 _ A15.out).mono ?_); rintro e w21 ⟨rfl, hb⟩; have n0_ := Aside0.mk (below_step (by repeat (first | (with_reducible first | exact HB.out | apply below_alloc | apply pw_below_drewN | apply below_drew1) | exact HB.out)) hb); clear HB; have HB := n0_; clear n0_; (try clear hb); (try clear hb2); (try clear hk); (try clear hi)) | (go_at_call 25; (with_reducible refine (float_Div_uint64.calls ((rd_T73 l0 x3_1).f0) ((rd_T73 l0 x3_1).f1) t502 _ A17.out).mono ?_); rintro e w' ⟨rfl, ⟨nd, rfl⟩⟩) | (go_at_call 71; (with_reducible refine (fathomref3_Div.calls kj1 ((rd_T73 l0 x3_1).f0) ((rd_T73 l0 x3_1).f1) 64 t503 _ A18.out).mono ?_); rintro e w22 ⟨rfl, hb⟩; have n0_ := Aside0.mk (below_step (by repeat (first | (with_reducible first | exact HB.out | apply below_alloc | apply pw_below_drewN | apply below_drew1) | exact HB.out)) hb); clear HB; have HB := n0_; clear n0_; (try clear hb); (try clear hb2); (try clear hk); (try clear hi)))
                        go_meet
                        case rel => exact ⟨_, ((t502 != t503)), (by first | rfl | (simp; done) | (simp [*]; done)), H', ⟨by have := HK1.out; have := HJ1.out; first | omega | exact Nat.le_refl _⟩, ⟨by repeat (first | (with_reducible first | exact HB.out | apply below_alloc | apply pw_below_drewN | apply below_drew1) | exact HB.out)⟩⟩
                      · rw [if_neg c16] at H
                        have c16b0 : (t500 == t501) = false := beq_eq_false_iff_ne.mpr c16
                        have c16b1 : (t500 != t501) = true := bne_iff_ne.mpr c16
                        have H' := Aside0.mk H
                        clear H
                        go_wp2_with (first | ((with_reducible refine gate_callee (f := 75) rfl ?_); refine goesL_ (some 34) rfl rfl Try.func75 (by kernel_rfl) rfl #[.int .u64 ((rd_T73 l0 x3_1).f0), .int .u64 ((rd_T73 l0 x3_1).f1)] rfl (by (try simp only [List.map_toArray, List.map_cons, List.map_nil]); first | done | rfl | (simp only [List.length_drop, List.length_take]; rfl) | (simp only [gt_iff_lt, Int.natCast_pos]; rfl)) ?_; (with_reducible refine (float_Add_uint64.calls ((rd_T73 l0 x3_1).f0) ((rd_T73 l0 x3_1).f1) t496 _ A8.out).mono ?_); rintro e w' ⟨rfl, ⟨nd, rfl⟩⟩; refine ⟨_, rfl, ?_⟩) | ((with_reducible refine gate_callee (f := 65) rfl ?_); refine goesL_ (some 37) rfl rfl Try.func65 (by kernel_rfl) rfl #[.int .u64 ((rd_T73 l0 x3_1).f0), .int .u64 ((rd_T73 l0 x3_1).f1), .int .i64 64] rfl (by (try simp only [List.map_toArray, List.map_cons, List.map_nil]); first | done | rfl | (simp only [List.length_drop, List.length_take]; rfl) | (simp only [gt_iff_lt, Int.natCast_pos]; rfl)) ?_; (with_reducible refine (fathomref3_Add.calls kj1 ((rd_T73 l0 x3_1).f0) ((rd_T73 l0 x3_1).f1) 64 t497 _ A9.out).mono ?_); rintro e w23 ⟨rfl, hb⟩; refine ⟨_, rfl, ?_⟩; have n0_ := Aside0.mk (below_step (by repeat (first | (with_reducible first | exact HB.out | apply below_alloc | apply pw_below_drewN | apply below_drew1) | exact HB.out)) hb); clear HB; have HB := n0_; clear n0_; (try clear hb); (try clear hb2); (try clear hk); (try clear hi)) | (go_at_call 77; (with_reducible refine (float_Sub_uint64.calls ((rd_T73 l0 x3_1).f0) ((rd_T73 l0 x3_1).f1) t498 _ A11.out).mono ?_); rintro e w' ⟨rfl, ⟨nd, rfl⟩⟩) | (go_at_call 67; (with_reducible refine (fathomref3_Sub.calls kj1 ((rd_T73 l0 x3_1).f0) ((rd_T73 l0 x3_1).f1) 64 t499 _ A12.out).mono ?_); rintro e w24 ⟨rfl, hb⟩; have n0_ := Aside0.mk (below_step (by repeat (first | (with_reducible first | exact HB.out | apply below_alloc | apply pw_below_drewN | apply below_drew1) | exact HB.out)) hb); clear HB; have HB := n0_; clear n0_; (try clear hb); (try clear hb2); (try clear hk); (try clear hi)) | (go_at_call 76; (with_reducible refine (float_Mul_uint64.calls ((rd_T73 l0 x3_1).f0) ((rd_T73 l0 x3_1).f1) t500 _ A14.out).mono ?_); rintro e w' ⟨rfl, ⟨nd, rfl⟩⟩) | (go_at_call 69; (with_reducible refine (fathomref3_Mul.calls kj1 ((rd_T73 l0 x3_1).f0) ((rd_T73 l0 x3_1).f1) 64 t501 _ A15.out).mono ?_); rintro e w25 ⟨rfl, hb⟩; have n0_ := Aside0.mk (below_step (by repeat (first | (with_reducible first | exact HB.out | apply below_alloc | apply pw_below_drewN | apply below_drew1) | exact HB.out)) hb); clear HB; have HB := n0_; clear n0_; (try clear hb); (try clear hb2); (try clear hk); (try clear hi)))
                        go_meet
                        case rel => exact ⟨_, (true), (by first | rfl | (simp; done) | (simp [*]; done)), H', ⟨by have := HK1.out; have := HJ1.out; first | omega | exact Nat.le_refl _⟩, ⟨by repeat (first | (with_reducible first | exact HB.out | apply below_alloc | apply pw_below_drewN | apply below_drew1) | exact HB.out)⟩⟩
                    · rw [if_neg c13] at H
                      have c13b0 : (t498 == t499) = false := beq_eq_false_iff_ne.mpr c13
                      have c13b1 : (t498 != t499) = true := bne_iff_ne.mpr c13
                      have H' := Aside0.mk H
                      clear H
                      go_wp2_with (first | ((with_reducible refine gate_callee (f := 75) rfl ?_); refine goesL_ (some 34) rfl rfl Try.func75 (by kernel_rfl) rfl #[.int .u64 ((rd_T73 l0 x3_1).f0), .int .u64 ((rd_T73 l0 x3_1).f1)] rfl (by (try simp only [List.map_toArray, List.map_cons, List.map_nil]); first | done | rfl | (simp only [List.length_drop, List.length_take]; rfl) | (simp only [gt_iff_lt, Int.natCast_pos]; rfl)) ?_; (with_reducible refine (float_Add_uint64.calls ((rd_T73 l0 x3_1).f0) ((rd_T73 l0 x3_1).f1) t496 _ A8.out).mono ?_); rintro e w' ⟨rfl, ⟨nd, rfl⟩⟩; refine ⟨_, rfl, ?_⟩) | ((with_reducible refine gate_callee (f := 65) rfl ?_); refine goesL_ (some 37) rfl rfl Try.func65 (by kernel_rfl) rfl #[.int .u64 ((rd_T73 l0 x3_1).f0), .int .u64 ((rd_T73 l0 x3_1).f1), .int .i64 64] rfl (by (try simp only [List.map_toArray, List.map_cons, List.map_nil]); first | done | rfl | (simp only [List.length_drop, List.length_take]; rfl) | (simp only [gt_iff_lt, Int.natCast_pos]; rfl)) ?_; (with_reducible refine (fathomref3_Add.calls kj1 ((rd_T73 l0 x3_1).f0) ((rd_T73 l0 x3_1).f1) 64 t497 _ A9.out).mono ?_); rintro e w26 ⟨rfl, hb⟩; refine ⟨_, rfl, ?_⟩; have n0_ := Aside0.mk (below_step (by repeat (first | (with_reducible first | exact HB.out | apply below_alloc | apply pw_below_drewN | apply below_drew1) | exact HB.out)) hb); clear HB; have HB := n0_; clear n0_; (try clear hb); (try clear hb2); (try clear hk); (try clear hi)) | (go_at_call 77; (with_reducible refine (float_Sub_uint64.calls ((rd_T73 l0 x3_1).f0) ((rd_T73 l0 x3_1).f1) t498 _ A11.out).mono ?_); rintro e w' ⟨rfl, ⟨nd, rfl⟩⟩) | (go_at_call 67; (with_reducible refine (fathomref3_Sub.calls kj1 ((rd_T73 l0 x3_1).f0) ((rd_T73 l0 x3_1).f1) 64 t499 _ A12.out).mono ?_); rintro e w27 ⟨rfl, hb⟩; have n0_ := Aside0.mk (below_step (by repeat (first | (with_reducible first | exact HB.out | apply below_alloc | apply pw_below_drewN | apply below_drew1) | exact HB.out)) hb); clear HB; have HB := n0_; clear n0_; (try clear hb); (try clear hb2); (try clear hk); (try clear hi)))
                      go_meet
                      case rel => exact ⟨_, (true), (by first | rfl | (simp; done) | (simp [*]; done)), H', ⟨by have := HK1.out; have := HJ1.out; first | omega | exact Nat.le_refl _⟩, ⟨by repeat (first | (with_reducible first | exact HB.out | apply below_alloc | apply pw_below_drewN | apply below_drew1) | exact HB.out)⟩⟩
                  · rw [if_neg c10] at H
                    have c10b0 : (t496 == t497) = false := beq_eq_false_iff_ne.mpr c10
                    have c10b1 : (t496 != t497) = true := bne_iff_ne.mpr c10
                    (first | rw [c10b0] | (simp only [i64_w, i32_w]; rw [c10b0]) | skip)
                    have H' := Aside0.mk H
                    clear H
                    go_wp2_with (first | ((with_reducible refine gate_callee (f := 75) rfl ?_); refine goesL_ (some 34) rfl rfl Try.func75 (by kernel_rfl) rfl #[.int .u64 ((rd_T73 l0 x3_1).f0), .int .u64 ((rd_T73 l0 x3_1).f1)] rfl (by (try simp only [List.map_toArray, List.map_cons, List.map_nil]); first | done | rfl | (simp only [List.length_drop, List.length_take]; rfl) | (simp only [gt_iff_lt, Int.natCast_pos]; rfl)) ?_; (with_reducible refine (float_Add_uint64.calls ((rd_T73 l0 x3_1).f0) ((rd_T73 l0 x3_1).f1) t496 _ A8.out).mono ?_); rintro e w' ⟨rfl, ⟨nd, rfl⟩⟩; refine ⟨_, rfl, ?_⟩) | ((with_reducible refine gate_callee (f := 65) rfl ?_); refine goesL_ (some 37) rfl rfl Try.func65 (by kernel_rfl) rfl #[.int .u64 ((rd_T73 l0 x3_1).f0), .int .u64 ((rd_T73 l0 x3_1).f1), .int .i64 64] rfl (by (try simp only [List.map_toArray, List.map_cons, List.map_nil]); first | done | rfl | (simp only [List.length_drop, List.length_take]; rfl) | (simp only [gt_iff_lt, Int.natCast_pos]; rfl)) ?_; (with_reducible refine (fathomref3_Add.calls kj1 ((rd_T73 l0 x3_1).f0) ((rd_T73 l0 x3_1).f1) 64 t497 _ A9.out).mono ?_); rintro e w28 ⟨rfl, hb⟩; refine ⟨_, rfl, ?_⟩; have n0_ := Aside0.mk (below_step (by repeat (first | (with_reducible first | exact HB.out | apply below_alloc | apply pw_below_drewN | apply below_drew1) | exact HB.out)) hb); clear HB; have HB := n0_; clear n0_; (try clear hb); (try clear hb2); (try clear hk); (try clear hi)))
                    go_meet
                    case rel => exact ⟨_, (true), (by first | rfl | (simp; done) | (simp [*]; done)), H', ⟨by have := HK1.out; have := HJ1.out; first | omega | exact Nat.le_refl _⟩, ⟨by repeat (first | (with_reducible first | exact HB.out | apply below_alloc | apply pw_below_drewN | apply below_drew1) | exact HB.out)⟩⟩
                case rest =>
                  clear HC7
                  try clear c1
                  try clear p2
                  try clear c3
                  try clear c3b0
                  try clear c4
                  try clear p4
                  try clear q4
                  try clear hx4
                  try clear c5
                  try clear c5b0
                  try clear c6
                  try clear c6b0
                  try clear c7
                  try clear c10
                  try clear c10b0
                  try clear c10b1
                  try clear c13
                  try clear c13b0
                  try clear c13b1
                  try clear c15
                  try clear c16
                  try clear c16b0
                  try clear c16b1
                  try clear hx493_0
                  try clear hx493_1
                  try clear hx493_2
                  try clear hx494_0
                  try clear hx494_1
                  try clear hx494_2
                  try clear hx495_0
                  try clear hx495_1
                  try clear hx495_2
                  try clear p2
                  try clear p493
                  try clear p494
                  try clear p495
                  try clear q493
                  try clear q494
                  try clear q495
                  obtain ⟨kq, x65_6, rfl, HA, HJ6, HB⟩ := hcut
                  cases kq with
                  | zero => exact absurd HA.out (by simp [fathomlaw3_FloatReckons.j2])
                  | succ kj6 =>
                    have H := HA.out
                    clear HA
                    simp only [fathomlaw3_FloatReckons.j2] at H
                    by_cases c29 : x65_6 = true
                    · subst c29
                      have H1 : (some false) = some r := by rw [if_pos rfl] at H; exact H
                      clear H
                      have H := H1
                      clear H1
                      obtain rfl := Option.some.inj H
                      go_wp2
                      go_ret
                      exact ⟨by first | rfl | (simp [errW_none, errW_some] <;> rfl) | (simp [*, errW_none, errW_some] <;> rfl), by repeat (first | (with_reducible first | exact HB.out | apply below_alloc | apply pw_below_drewN | apply below_drew1) | exact HB.out)⟩
                    · replace c29 := Bool.eq_false_iff.mpr c29
                      subst c29
                      have H1 : ((float_Root_uint64.f ((rd_T73 l0 x3_1).f0)).bind fun t504 => ((fathomref3_Root.f kj6 ((rd_T73 l0 x3_1).f0) 64).bind fun t505 => (if t504 = t505 then ((float_Fma.f ((rd_T73 l0 x3_1).f0) ((rd_T73 l0 x3_1).f1) ((rd_T73 l0 x3_1).f2)).bind fun t506 => ((fathomref3_Fma.f kj6 ((rd_T73 l0 x3_1).f0) ((rd_T73 l0 x3_1).f1) ((rd_T73 l0 x3_1).f2)).bind fun t507 => (if t506 = t507 then (fathomlaw3_FloatReckons.l0 kj6 l0 (wrap64 (x3_1 + 1))) else (some false)))) else (some false)))) = some r := by rw [if_neg (show ¬ (false = true) by decide)] at H; exact H
                      clear H
                      have H := H1
                      clear H1
                      replace H := Option.bind_eq_some_iff.mp H
                      obtain ⟨t504, A300, H⟩ := H
                      replace H : ((fathomref3_Root.f kj6 ((rd_T73 l0 x3_1).f0) 64).bind fun t505 => (if t504 = t505 then ((float_Fma.f ((rd_T73 l0 x3_1).f0) ((rd_T73 l0 x3_1).f1) ((rd_T73 l0 x3_1).f2)).bind fun t506 => ((fathomref3_Fma.f kj6 ((rd_T73 l0 x3_1).f0) ((rd_T73 l0 x3_1).f1) ((rd_T73 l0 x3_1).f2)).bind fun t507 => (if t506 = t507 then (fathomlaw3_FloatReckons.l0 kj6 l0 (wrap64 (x3_1 + 1))) else (some false)))) else (some false))) = some r := H
                      have A30 := Aside0.mk A300
                      clear A300
                      replace H := Option.bind_eq_some_iff.mp H
                      obtain ⟨t505, A310, H⟩ := H
                      replace H : (if t504 = t505 then ((float_Fma.f ((rd_T73 l0 x3_1).f0) ((rd_T73 l0 x3_1).f1) ((rd_T73 l0 x3_1).f2)).bind fun t506 => ((fathomref3_Fma.f kj6 ((rd_T73 l0 x3_1).f0) ((rd_T73 l0 x3_1).f1) ((rd_T73 l0 x3_1).f2)).bind fun t507 => (if t506 = t507 then (fathomlaw3_FloatReckons.l0 kj6 l0 (wrap64 (x3_1 + 1))) else (some false)))) else (some false)) = some r := H
                      have A31 := Aside0.mk A310
                      clear A310
                      by_cases c32 : t504 = t505
                      · rw [if_pos c32] at H
                        have c32b0 : (t504 == t505) = true := beq_iff_eq.mpr c32
                        have c32b1 : (t504 != t505) = false := bne_eq_false_iff_eq.mpr c32
                        clear c32
                        replace H := Option.bind_eq_some_iff.mp H
                        obtain ⟨t506, A330, H⟩ := H
                        replace H : ((fathomref3_Fma.f kj6 ((rd_T73 l0 x3_1).f0) ((rd_T73 l0 x3_1).f1) ((rd_T73 l0 x3_1).f2)).bind fun t507 => (if t506 = t507 then (fathomlaw3_FloatReckons.l0 kj6 l0 (wrap64 (x3_1 + 1))) else (some false))) = some r := H
                        have A33 := Aside0.mk A330
                        clear A330
                        replace H := Option.bind_eq_some_iff.mp H
                        obtain ⟨t507, A340, H⟩ := H
                        replace H : (if t506 = t507 then (fathomlaw3_FloatReckons.l0 kj6 l0 (wrap64 (x3_1 + 1))) else (some false)) = some r := H
                        have A34 := Aside0.mk A340
                        clear A340
                        by_cases c35 : t506 = t507
                        · rw [if_pos c35] at H
                          have c35b0 : (t506 == t507) = true := beq_iff_eq.mpr c35
                          have c35b1 : (t506 != t507) = false := bne_eq_false_iff_eq.mpr c35
                          clear c35
                          have H' := Aside0.mk H
                          clear H
                          go_wp2_with (first | ((with_reducible refine gate_callee (f := 63) rfl ?_); refine goesL_ (some 67) rfl rfl Try.func63 (by kernel_rfl) rfl #[.int .u64 ((rd_T73 l0 x3_1).f0)] rfl (by (try simp only [List.map_toArray, List.map_cons, List.map_nil]); first | done | rfl | (simp only [List.length_drop, List.length_take]; rfl) | (simp only [gt_iff_lt, Int.natCast_pos]; rfl)) ?_; (with_reducible refine (float_Root_uint64.calls ((rd_T73 l0 x3_1).f0) t504 _ A30.out).mono ?_); rintro e w' ⟨rfl, ⟨nd, rfl⟩⟩; refine ⟨_, rfl, ?_⟩) | ((with_reducible refine gate_callee (f := 73) rfl ?_); refine goesL_ (some 69) rfl rfl Try.func73 (by kernel_rfl) rfl #[.int .u64 ((rd_T73 l0 x3_1).f0), .int .i64 64] rfl (by (try simp only [List.map_toArray, List.map_cons, List.map_nil]); first | done | rfl | (simp only [List.length_drop, List.length_take]; rfl) | (simp only [gt_iff_lt, Int.natCast_pos]; rfl)) ?_; (with_reducible refine (fathomref3_Root.calls kj6 ((rd_T73 l0 x3_1).f0) 64 t505 _ A31.out).mono ?_); rintro e w36 ⟨rfl, hb⟩; refine ⟨_, rfl, ?_⟩; have n0_ := Aside0.mk (below_step (by repeat (first | (with_reducible first | exact HB.out | apply below_alloc | apply pw_below_drewN | apply below_drew1) | exact HB.out)) hb); clear HB; have HB := n0_; clear n0_; (try clear hb); (try clear hb2); (try clear hk); (try clear hi)) | (go_at_call 81; (with_reducible refine (float_Fma.calls ((rd_T73 l0 x3_1).f0) ((rd_T73 l0 x3_1).f1) ((rd_T73 l0 x3_1).f2) t506 _ A33.out).mono ?_); rintro e w' ⟨rfl, ⟨nd, rfl⟩⟩) | (go_at_call 83; (with_reducible refine (fathomref3_Fma.calls kj6 ((rd_T73 l0 x3_1).f0) ((rd_T73 l0 x3_1).f1) ((rd_T73 l0 x3_1).f2) t507 _ A34.out).mono ?_); rintro e w37 ⟨rfl, hb⟩; have n0_ := Aside0.mk (below_step (by repeat (first | (with_reducible first | exact HB.out | apply below_alloc | apply pw_below_drewN | apply below_drew1) | exact HB.out)) hb); clear HB; have HB := n0_; clear n0_; (try clear hb); (try clear hb2); (try clear hk); (try clear hi)))
                          go_roundg kj6
                          case measure => have := HK1.out; have := HJ1.out; have := HJ6.out; omega
                          case rel => exact ⟨(wrap64 (x3_1 + 1)), (by first | rfl | (simp; done) | (simp [*]; done)), H', ⟨by have := HK1.out; have := HJ1.out; have := HJ6.out; omega⟩, ⟨by repeat (first | (with_reducible first | exact HB.out | apply below_alloc | apply pw_below_drewN | apply below_drew1) | exact HB.out)⟩⟩
                        · rw [if_neg c35] at H
                          have c35b0 : (t506 == t507) = false := beq_eq_false_iff_ne.mpr c35
                          have c35b1 : (t506 != t507) = true := bne_iff_ne.mpr c35
                          obtain rfl := Option.some.inj H
                          go_wp2_with (first | ((with_reducible refine gate_callee (f := 63) rfl ?_); refine goesL_ (some 67) rfl rfl Try.func63 (by kernel_rfl) rfl #[.int .u64 ((rd_T73 l0 x3_1).f0)] rfl (by (try simp only [List.map_toArray, List.map_cons, List.map_nil]); first | done | rfl | (simp only [List.length_drop, List.length_take]; rfl) | (simp only [gt_iff_lt, Int.natCast_pos]; rfl)) ?_; (with_reducible refine (float_Root_uint64.calls ((rd_T73 l0 x3_1).f0) t504 _ A30.out).mono ?_); rintro e w' ⟨rfl, ⟨nd, rfl⟩⟩; refine ⟨_, rfl, ?_⟩) | ((with_reducible refine gate_callee (f := 73) rfl ?_); refine goesL_ (some 69) rfl rfl Try.func73 (by kernel_rfl) rfl #[.int .u64 ((rd_T73 l0 x3_1).f0), .int .i64 64] rfl (by (try simp only [List.map_toArray, List.map_cons, List.map_nil]); first | done | rfl | (simp only [List.length_drop, List.length_take]; rfl) | (simp only [gt_iff_lt, Int.natCast_pos]; rfl)) ?_; (with_reducible refine (fathomref3_Root.calls kj6 ((rd_T73 l0 x3_1).f0) 64 t505 _ A31.out).mono ?_); rintro e w38 ⟨rfl, hb⟩; refine ⟨_, rfl, ?_⟩; have n0_ := Aside0.mk (below_step (by repeat (first | (with_reducible first | exact HB.out | apply below_alloc | apply pw_below_drewN | apply below_drew1) | exact HB.out)) hb); clear HB; have HB := n0_; clear n0_; (try clear hb); (try clear hb2); (try clear hk); (try clear hi)) | (go_at_call 81; (with_reducible refine (float_Fma.calls ((rd_T73 l0 x3_1).f0) ((rd_T73 l0 x3_1).f1) ((rd_T73 l0 x3_1).f2) t506 _ A33.out).mono ?_); rintro e w' ⟨rfl, ⟨nd, rfl⟩⟩) | (go_at_call 83; (with_reducible refine (fathomref3_Fma.calls kj6 ((rd_T73 l0 x3_1).f0) ((rd_T73 l0 x3_1).f1) ((rd_T73 l0 x3_1).f2) t507 _ A34.out).mono ?_); rintro e w39 ⟨rfl, hb⟩; have n0_ := Aside0.mk (below_step (by repeat (first | (with_reducible first | exact HB.out | apply below_alloc | apply pw_below_drewN | apply below_drew1) | exact HB.out)) hb); clear HB; have HB := n0_; clear n0_; (try clear hb); (try clear hb2); (try clear hk); (try clear hi)))
                          go_ret
                          exact ⟨by first | rfl | (simp [errW_none, errW_some] <;> rfl) | (simp [*, errW_none, errW_some] <;> rfl), by repeat (first | (with_reducible first | exact HB.out | apply below_alloc | apply pw_below_drewN | apply below_drew1) | exact HB.out)⟩
                      · rw [if_neg c32] at H
                        have c32b0 : (t504 == t505) = false := beq_eq_false_iff_ne.mpr c32
                        have c32b1 : (t504 != t505) = true := bne_iff_ne.mpr c32
                        obtain rfl := Option.some.inj H
                        go_wp2_with (first | ((with_reducible refine gate_callee (f := 63) rfl ?_); refine goesL_ (some 67) rfl rfl Try.func63 (by kernel_rfl) rfl #[.int .u64 ((rd_T73 l0 x3_1).f0)] rfl (by (try simp only [List.map_toArray, List.map_cons, List.map_nil]); first | done | rfl | (simp only [List.length_drop, List.length_take]; rfl) | (simp only [gt_iff_lt, Int.natCast_pos]; rfl)) ?_; (with_reducible refine (float_Root_uint64.calls ((rd_T73 l0 x3_1).f0) t504 _ A30.out).mono ?_); rintro e w' ⟨rfl, ⟨nd, rfl⟩⟩; refine ⟨_, rfl, ?_⟩) | ((with_reducible refine gate_callee (f := 73) rfl ?_); refine goesL_ (some 69) rfl rfl Try.func73 (by kernel_rfl) rfl #[.int .u64 ((rd_T73 l0 x3_1).f0), .int .i64 64] rfl (by (try simp only [List.map_toArray, List.map_cons, List.map_nil]); first | done | rfl | (simp only [List.length_drop, List.length_take]; rfl) | (simp only [gt_iff_lt, Int.natCast_pos]; rfl)) ?_; (with_reducible refine (fathomref3_Root.calls kj6 ((rd_T73 l0 x3_1).f0) 64 t505 _ A31.out).mono ?_); rintro e w40 ⟨rfl, hb⟩; refine ⟨_, rfl, ?_⟩; have n0_ := Aside0.mk (below_step (by repeat (first | (with_reducible first | exact HB.out | apply below_alloc | apply pw_below_drewN | apply below_drew1) | exact HB.out)) hb); clear HB; have HB := n0_; clear n0_; (try clear hb); (try clear hb2); (try clear hk); (try clear hi)))
                        go_ret
                        exact ⟨by first | rfl | (simp [errW_none, errW_some] <;> rfl) | (simp [*, errW_none, errW_some] <;> rfl), by repeat (first | (with_reducible first | exact HB.out | apply below_alloc | apply pw_below_drewN | apply below_drew1) | exact HB.out)⟩
              · rw [if_neg c6] at H
                exact absurd H (by simp)
            · rw [if_neg c5] at H
              exact absurd H (by simp)
          · replace c4 := Bool.eq_false_iff.mpr c4
            subst c4
            have H1 : ((fathomlaw3_wakes.f).bind fun t492 => (some t492)) = some r := by rw [if_neg (show ¬ (false = true) by decide)] at H; exact H
            clear H
            have H := H1
            clear H1
            replace H := Option.bind_eq_some_iff.mp H
            obtain ⟨t492, A410, H⟩ := H
            replace H : (some t492) = some r := H
            have A41 := Aside0.mk A410
            clear A410
            obtain rfl := Option.some.inj H
            go_wp2_with (first | ((with_reducible refine gate_callee (f := 24) rfl ?_); refine goesL_ (some 82) rfl rfl Try.func24 (by kernel_rfl) rfl #[] rfl (by (try simp only [List.map_toArray, List.map_cons, List.map_nil]); first | done | rfl | (simp only [List.length_drop, List.length_take]; rfl) | (simp only [gt_iff_lt, Int.natCast_pos]; rfl)) ?_; (with_reducible refine (fathomlaw3_wakes.calls  t492 _ A41.out).mono ?_); rintro e w42 ⟨rfl, hb⟩; refine ⟨_, rfl, ?_⟩; have n0_ := Aside0.mk (below_step (by repeat (first | (with_reducible first | exact HB.out | apply below_alloc | apply pw_below_drewN | apply below_drew1) | exact HB.out)) hb); clear HB; have HB := n0_; clear n0_; (try clear hb); (try clear hb2); (try clear hk); (try clear hi)))
            go_ret
            exact ⟨by first | rfl | (simp [errW_none, errW_some] <;> rfl) | (simp [*, errW_none, errW_some] <;> rfl), by repeat (first | (with_reducible first | exact HB.out | apply below_alloc | apply pw_below_drewN | apply below_drew1) | exact HB.out)⟩
end Go.Proofs.Ytfloeiagdegpjaa.LReckons
