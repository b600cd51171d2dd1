/- Whole numbers as limbs: the reference's Trim, Of, Len, Cmp, Sum, Less come to the numbers' own sums. No program runs here. -/
import Derived.Test.YtfloeiagdegpjaaQb
import Derived.Test.YtfloeiagdegpjaaR2
namespace Go.Proofs.Ytfloeiagdegpjaa.Q
open Go.RowKit Go.Proofs.YtfloeiagdegpjaaW.PrintWords Go.Proofs.Ytfloeiagdegpjaa.Rf
set_option linter.unusedVariables false
set_option linter.unusedSimpArgs false

/-- A limb's weight. -/
abbrev B32 : Nat := 4294967296

/-- What a list of limbs stands for, the lowest first. -/
def nv : List Int → Nat
  | [] => 0
  | x :: l => x.toNat + B32 * nv l

/-- All are limbs. -/
def Lb (l : List Int) : Prop := ∀ x ∈ l, 0 ≤ x ∧ x < 4294967296

/-- The limb at place i. -/
def dg (n i : Nat) : Nat := n / B32 ^ i % B32

/-- A number's limbs, none of nought on top. -/
def lim (n : Nat) : List Int := if h : n = 0 then [] else ((n % B32 : Nat) : Int) :: lim (n / B32)
termination_by n
decreasing_by exact Nat.div_lt_self (by omega) (by decide)

theorem lim_zero : lim 0 = [] := by rw [lim]; simp
theorem lim_pos {n : Nat} (h : 0 < n) : lim n = ((n % B32 : Nat) : Int) :: lim (n / B32) := by rw [lim, dif_neg (by omega)]

theorem nv_lim (n : Nat) : nv (lim n) = n := by
  induction n using Nat.strongRecOn with
  | _ n ih =>
    rcases Nat.eq_zero_or_pos n with rfl | h
    · rw [lim_zero]; rfl
    · rw [lim_pos h, nv, ih (n / B32) (Nat.div_lt_self h (by decide))]
      simp only [Int.toNat_natCast]
      exact Nat.mod_add_div n B32

theorem lb_lim (n : Nat) : Lb (lim n) := by
  induction n using Nat.strongRecOn with
  | _ n ih =>
    rcases Nat.eq_zero_or_pos n with rfl | h
    · rw [lim_zero]; intro x hx; cases hx
    · rw [lim_pos h]
      intro x hx
      rcases List.mem_cons.1 hx with rfl | hx
      · have := Nat.mod_lt n (show 0 < B32 by decide)
        have e : B32 = 4294967296 := rfl
        omega
      · exact ih _ (Nat.div_lt_self h (by decide)) x hx

theorem lb_cons {x : Int} {l : List Int} (h : Lb (x :: l)) : (0 ≤ x ∧ x < 4294967296) ∧ Lb l := ⟨h x (by simp), fun y hy => h y (by simp [hy])⟩
theorem lb_nil : Lb [] := fun x hx => by cases hx
theorem lb_snoc {l : List Int} {x : Int} (h : Lb l) (hx : 0 ≤ x ∧ x < 4294967296) : Lb (l ++ [x]) := by
  intro y hy
  rcases List.mem_append.1 hy with h1 | h1
  · exact h y h1
  · rw [List.mem_singleton.1 h1]; exact hx

theorem nv_lt {l : List Int} (h : Lb l) : nv l < B32 ^ l.length := by
  induction l with
  | nil => simp [nv]
  | cons x l ih =>
    obtain ⟨hx, hl⟩ := lb_cons h
    have := ih hl
    rw [nv, List.length_cons, Nat.pow_succ, Nat.mul_comm (B32 ^ l.length)]
    have e : B32 = 4294967296 := rfl
    have h2 : B32 * (nv l + 1) ≤ B32 * B32 ^ l.length := Nat.mul_le_mul_left _ this
    rw [Nat.mul_add, Nat.mul_one] at h2
    omega

theorem nv_snoc (l : List Int) (x : Int) : nv (l ++ [x]) = nv l + B32 ^ l.length * x.toNat := by
  induction l with
  | nil => simp [nv]
  | cons y l ih =>
    rw [List.cons_append, nv, ih, nv, List.length_cons, Nat.pow_succ, Nat.mul_add, Nat.mul_comm (B32 ^ l.length) B32, Nat.mul_assoc, Nat.add_assoc]

theorem nv_zeros (n : Nat) : nv (List.replicate n 0) = 0 := by
  induction n with
  | zero => rfl
  | succ n ih => rw [List.replicate_succ, nv, ih]; rfl

theorem lb_zeros (n : Nat) : Lb (List.replicate n 0) := by
  intro x hx
  rw [(List.mem_replicate.1 hx).2]; omega

theorem dg_lt (n i : Nat) : dg n i < 4294967296 := Nat.mod_lt _ (by decide)

theorem dg_succ (n i : Nat) : dg n (i + 1) = dg (n / B32) i := by
  unfold dg
  rw [Nat.pow_succ, Nat.mul_comm, Nat.div_div_eq_div_mul]

/-- A list's limb, of whatever place. -/
theorem rd_nv {l : List Int} (h : Lb l) (i : Nat) : rd l (i : Int) = (dg (nv l) i : Nat) := by
  unfold rd
  rw [Int.toNat_natCast]
  induction l generalizing i with
  | nil => simp [dg, nv]
  | cons x l ih =>
    obtain ⟨hx, hl⟩ := lb_cons h
    have e : B32 = 4294967296 := rfl
    cases i with
    | zero =>
      simp only [List.getD_cons_zero, dg, nv, Nat.pow_zero, Nat.div_one, Nat.add_mul_mod_self_left]
      rw [Nat.mod_eq_of_lt (by omega)]; omega
    | succ i =>
      rw [List.getD_cons_succ, ih hl, dg_succ]
      congr 2
      rw [nv, Nat.add_mul_div_left _ _ (by decide), Nat.div_eq_of_lt (by omega)]; omega

theorem rd_lim (n i : Nat) : rd (lim n) (i : Int) = (dg n i : Nat) := by
  rw [rd_nv (lb_lim n), nv_lim]

theorem len_lim (n i : Nat) : i < (lim n).length ↔ B32 ^ i ≤ n := by
  induction i generalizing n with
  | zero =>
    rcases Nat.eq_zero_or_pos n with rfl | h
    · rw [lim_zero]; simp
    · rw [lim_pos h]; simp; omega
  | succ i ih =>
    rcases Nat.eq_zero_or_pos n with rfl | h
    · rw [lim_zero]
      have : 0 < B32 ^ (i + 1) := Nat.pow_pos (by decide)
      simp
    · rw [lim_pos h, List.length_cons, Nat.succ_lt_succ_iff, ih, Nat.pow_succ, Nat.le_div_iff_mul_le (by decide)]

theorem len_le {n i : Nat} (h : n < B32 ^ i) : (lim n).length ≤ i := by
  rcases Nat.lt_or_ge i (lim n).length with h1 | h1
  · have := (len_lim n i).1 h1; omega
  · exact h1

theorem lt_len (n : Nat) : n < B32 ^ (lim n).length := by
  rcases Nat.lt_or_ge n (B32 ^ (lim n).length) with h | h
  · exact h
  · have := (len_lim n (lim n).length).2 h; omega

/-- The limbs of a number are the only list without nought on top. -/
theorem lim_of {l : List Int} (h : Lb l) (ht : ∀ n, l.length = n + 1 → rd l (n : Int) ≠ 0) : l = lim (nv l) := by
  induction l with
  | nil => rw [nv, lim_zero]
  | cons x l ih =>
    obtain ⟨hx, hl⟩ := lb_cons h
    have e : B32 = 4294967296 := rfl
    have hpos : 0 < nv (x :: l) := by
      rcases Nat.eq_zero_or_pos (nv (x :: l)) with h0 | h0
      · exfalso
        have := ht l.length rfl
        rw [rd_nv h, h0] at this
        simp [dg] at this
      · exact h0
    have hm : nv (x :: l) % B32 = x.toNat := by
      rw [nv, Nat.add_mul_mod_self_left, Nat.mod_eq_of_lt (by omega)]
    have hd : nv (x :: l) / B32 = nv l := by
      rw [nv, Nat.add_mul_div_left _ _ (by decide), Nat.div_eq_of_lt (by omega)]; omega
    rw [lim_pos hpos, hm, hd]
    have := ih hl (fun n hn => by
      have := ht (n + 1) (by rw [List.length_cons, hn])
      unfold rd at this ⊢
      rw [Int.toNat_natCast] at this ⊢
      simpa using this)
    rw [← this]
    congr 1; omega

theorem nv_take_snoc {l : List Int} (h : Lb l) {n : Nat} (hn : n < l.length) : nv (l.take (n + 1)) = nv (l.take n) + B32 ^ n * (rd l (n : Int)).toNat := by
  rw [List.take_succ_eq_append_getElem hn, nv_snoc]
  unfold rd
  rw [Int.toNat_natCast, List.getD_eq_getElem?_getD, List.getElem?_eq_getElem hn, Option.getD_some, List.length_take, Nat.min_eq_left (by omega)]

theorem lb_take {l : List Int} (h : Lb l) (n : Nat) : Lb (l.take n) := fun x hx => h x (List.mem_of_mem_take hx)

/-- Trim: the number's own limbs. -/
theorem trim_ev {l : List Int} (h : Lb l) (hm : l.length < 4611686018427387904) : Ev (fun k => fathomref3_Trim.f k l) (lim (nv l)) := by
  have key : ∀ n : Nat, n ≤ l.length → nv (l.take n) = nv l → Ev (fun k => fathomref3_Trim.l0 k l (n : Int)) (lim (nv l)) := by
    intro n
    induction n with
    | zero =>
      intro _ hv
      refine Ev.step (f := fun _ => some (lim (nv l))) (fun k => ?_) (Ev.now _)
      simp only [fathomref3_Trim.l0]
      rw [if_neg (by omega), if_pos (by omega), if_pos (by omega)]
      rw [← hv]; simp [nv, lim_zero]
    | succ n ih =>
      intro hn hv
      have hw : wrap64 (((n + 1 : Nat) : Int) - 1) = (n : Int) := by unfold wrap64; omega
      by_cases hz : rd l (n : Int) = 0
      · have hv2 : nv (l.take n) = nv l := by
          rw [← hv, nv_take_snoc h (by omega), hz]; simp
        refine Ev.step (f := fun k => fathomref3_Trim.l0 k l (n : Int)) (fun k => ?_) (ih (by omega) hv2)
        simp only [fathomref3_Trim.l0]
        rw [if_pos (by omega), hw, if_pos (by omega), if_pos (by omega), if_pos hz]
      · refine Ev.step (f := fun _ => some (lim (nv l))) (fun k => ?_) (Ev.now _)
        simp only [fathomref3_Trim.l0]
        rw [if_pos (by omega), hw, if_pos (by omega), if_pos (by omega), if_neg hz, if_pos (by omega), if_pos (by omega), Int.toNat_natCast]
        congr 1
        rw [← hv]
        refine lim_of (lb_take h _) (fun m hm => ?_)
        rw [List.length_take, Nat.min_eq_left hn] at hm
        have : m = n := by omega
        subst this
        unfold rd at hz ⊢
        rw [Int.toNat_natCast] at hz ⊢
        rw [List.getD_eq_getElem?_getD] at hz ⊢
        rw [List.getElem?_take_of_lt (by omega)]
        exact hz
  exact key l.length (Nat.le_refl _) (by rw [List.take_length])

theorem of_ev {a : Int} (h0 : 0 ≤ a) (h1 : a < 18446744073709551616) : Ev (fun k => fathomref3_Of.f k a) (lim a.toNat) := by
  have hl : Lb [a % 4294967296, a / 4294967296 % 4294967296] := by
    intro x hx
    simp at hx
    rcases hx with rfl | rfl <;> omega
  have hv : nv [a % 4294967296, a / 4294967296 % 4294967296] = a.toNat := by
    simp only [nv, B32]; omega
  have := trim_ev hl (by simp)
  rw [hv] at this
  exact Ev.bind this (Ev.now _)

/-- How many bits. -/
def bl (n : Nat) : Int := if n = 0 then 0 else (n.log2 : Int) + 1

theorem bl_zero : bl 0 = 0 := rfl
theorem bl_pos {n : Nat} (h : 0 < n) : bl n = (n.log2 : Int) + 1 := by unfold bl; rw [if_neg (by omega)]
theorem bl_half {n : Nat} (h : 0 < n) : bl n = bl (n / 2) + 1 := by
  rw [bl_pos h]
  rcases Nat.eq_zero_or_pos (n / 2) with h2 | h2
  · have : n = 1 := by omega
    subst this; rfl
  · rw [bl_pos h2, Nat.log2_def, if_pos (by omega)]; omega

theorem len_loop (d : Nat) : ∀ (n : Nat) (s : Int), bl n = d → 0 ≤ s → s + d < 9223372036854775808 → Ev (fun k => fathomref3_Len.l0 k s (n : Int)) (s + d) := by
  induction d with
  | zero =>
    intro n s hn hs _
    have : n = 0 := by
      rcases Nat.eq_zero_or_pos n with h | h
      · exact h
      · rw [bl_pos h] at hn; omega
    subst this
    refine Ev.step (f := fun _ => some (s + ((0 : Nat) : Int))) (fun k => ?_) (Ev.now _)
    simp [fathomref3_Len.l0]
  | succ d ih =>
    intro n s hn hs hb
    have hpos : 0 < n := by
      rcases Nat.eq_zero_or_pos n with h | h
      · subst h; rw [bl_zero] at hn; omega
      · exact h
    have h2 := bl_half hpos
    have := ih (n / 2) (s + 1) (by omega) (by omega) (by omega)
    have e : s + 1 + (d : Int) = s + ((d + 1 : Nat) : Int) := by omega
    rw [e] at this
    refine Ev.step (f := fun k => fathomref3_Len.l0 k (s + 1) ((n / 2 : Nat) : Int)) (fun k => ?_) this
    simp only [fathomref3_Len.l0]
    have hw : wrap64 (s + 1) = s + 1 := by unfold wrap64; omega
    rw [if_neg (by omega), hw]; rfl

theorem bl_top {n m : Nat} (hn : 0 < n) (hm : (lim n).length = m + 1) : bl n = 32 * m + bl (dg n m) := by
  have h1 := (len_lim n m).1 (by omega)
  have h2 := lt_len n
  rw [hm, Nat.pow_succ] at h2
  have hd : dg n m = n / B32 ^ m := by
    unfold dg
    exact Nat.mod_eq_of_lt (Nat.div_lt_of_lt_mul h2)
  have hp : 0 < B32 ^ m := Nat.pow_pos (by decide)
  have hq : 0 < n / B32 ^ m := Nat.div_pos h1 hp
  rw [hd, bl_pos hn, bl_pos hq]
  have e : B32 ^ m = 2 ^ (32 * m) := by rw [Nat.pow_mul]
  rw [e]
  have : (n / 2 ^ (32 * m)).log2 = n.log2 - 32 * m := by
    have h3 : 32 * m ≤ n.log2 := (Nat.le_log2 (by omega)).2 (by rw [← e]; exact h1)
    refine (Nat.log2_eq_iff (by rw [← e]; omega)).2 ⟨?_, ?_⟩
    · rw [Nat.le_div_iff_mul_le (Nat.two_pow_pos _), ← Nat.pow_add]
      have : n.log2 - 32 * m + 32 * m = n.log2 := by omega
      rw [this]; exact Nat.log2_self_le (by omega)
    · refine Nat.div_lt_of_lt_mul ?_
      rw [← Nat.pow_add]
      have : 32 * m + (n.log2 - 32 * m + 1) = n.log2 + 1 := by omega
      rw [this]; exact Nat.lt_log2_self
  rw [this]
  have h3 : 32 * m ≤ n.log2 := (Nat.le_log2 (by omega)).2 (by rw [← e]; exact h1)
  omega

theorem bl_digit (n i : Nat) : 0 ≤ bl (dg n i) ∧ bl (dg n i) ≤ 32 := by
  have h := dg_lt n i
  generalize dg n i = d at *
  rcases Nat.eq_zero_or_pos d with h0 | h0
  · subst h0; rw [bl_zero]; omega
  · rw [bl_pos h0]
    have : d.log2 < 32 := (Nat.log2_lt (by omega)).2 h
    omega

/-- Len: the number of bits. -/
theorem len_ev {n : Nat} (hs : (lim n).length < 1073741824) : Ev (fun k => fathomref3_Len.f k (lim n)) (bl n) := by
  rcases Nat.eq_zero_or_pos n with rfl | hn
  · refine Ev.congr (f := fun _ => some (bl 0)) (fun k => ?_) (Ev.now _)
    unfold fathomref3_Len.f; rw [lim_zero]; rfl
  · obtain ⟨m, hm⟩ : ∃ m, (lim n).length = m + 1 := by
      have := (len_lim n 0).2 (by rw [Nat.pow_zero]; exact hn)
      exact ⟨(lim n).length - 1, by omega⟩
    have hb := bl_digit n m
    have hloop := len_loop (bl (dg n m)).toNat (dg n m) (32 * m) (by omega) (by omega) (by omega)
    rw [show (32 * (m : Int) + ((bl (dg n m)).toNat : Int)) = bl n by rw [bl_top hn hm]; omega] at hloop
    refine Ev.congr (fun k => ?_) hloop
    unfold fathomref3_Len.f
    have hw : wrap64 (((lim n).length : Int) - 1) = (m : Int) := by unfold wrap64; omega
    have hw2 : wrap64 (32 * (m : Int)) = 32 * (m : Int) := by unfold wrap64; omega
    rw [if_neg (by omega), hw, if_pos (by omega), if_pos (by omega), hw2, rd_lim]

/-- Cmp: which is the greater. -/
def sgnN (a b : Nat) : Int := if a < b then -1 else if b < a then 1 else 0

theorem div_step (n i : Nat) : n / B32 ^ i = n / B32 ^ (i + 1) * B32 + dg n i := by
  unfold dg
  rw [Nat.pow_succ, ← Nat.div_div_eq_div_mul]
  have := Nat.div_add_mod (n / B32 ^ i) B32
  rw [Nat.mul_comm] at this; omega

theorem cmp_loop {a b : Nat} (hl : (lim a).length = (lim b).length) (hs : (lim a).length < 1073741824) (n : Nat) : n ≤ (lim a).length → a / B32 ^ n = b / B32 ^ n →
    Ev (fun k => fathomref3_Cmp.l0 k (lim a) (lim b) ((n : Int) - 1)) (sgnN a b) := by
  induction n with
  | zero =>
    intro _ he
    rw [Nat.pow_zero, Nat.div_one, Nat.div_one] at he
    refine Ev.step (f := fun _ => some (sgnN a b)) (fun k => ?_) (Ev.now _)
    simp only [fathomref3_Cmp.l0]
    rw [if_neg (by omega), he]; simp [sgnN]
  | succ n ih =>
    intro hn he
    have e1 : (((n + 1 : Nat) : Int) - 1) = (n : Int) := by omega
    rw [e1]
    have ha := div_step a n
    have hb := div_step b n
    have hp : 0 < B32 ^ n := Nat.pow_pos (by decide)
    have less : ∀ x y : Nat, x / B32 ^ n < y / B32 ^ n → x < y := by
      intro x y h
      rcases Nat.lt_or_ge x y with h1 | h1
      · exact h1
      · have := Nat.div_le_div_right (c := B32 ^ n) h1; omega
    by_cases c1 : dg a n < dg b n
    · refine Ev.step (f := fun _ => some (sgnN a b)) (fun k => ?_) (Ev.now _)
      simp only [fathomref3_Cmp.l0, rd_lim]
      rw [if_pos (by omega), if_pos (by omega), if_pos (by omega), if_pos (by omega), if_pos (by omega)]
      have := less a b (by rw [ha, hb, he]; omega)
      unfold sgnN; rw [if_pos this]
    · by_cases c2 : dg b n < dg a n
      · refine Ev.step (f := fun _ => some (sgnN a b)) (fun k => ?_) (Ev.now _)
        simp only [fathomref3_Cmp.l0, rd_lim]
        rw [if_pos (by omega), if_pos (by omega), if_pos (by omega), if_pos (by omega), if_neg (by omega), if_pos (by omega)]
        have := less b a (by rw [ha, hb, he]; omega)
        unfold sgnN; rw [if_neg (by omega), if_pos this]
      · have hw : wrap64 ((n : Int) - 1) = (n : Int) - 1 := by unfold wrap64; omega
        refine Ev.step (f := fun k => fathomref3_Cmp.l0 k (lim a) (lim b) ((n : Int) - 1)) (fun k => ?_) (ih (by omega) (by rw [ha, hb, he]; congr 1; omega))
        simp only [fathomref3_Cmp.l0, rd_lim]
        rw [if_pos (by omega), if_pos (by omega), if_pos (by omega), if_pos (by omega), if_neg (by omega), if_neg (by omega), hw]

theorem cmp_ev {a b : Nat} (hs : (lim a).length < 1073741824) : Ev (fun k => fathomref3_Cmp.f k (lim a) (lim b)) (sgnN a b) := by
  have la := lt_len a
  have lb := lt_len b
  by_cases hl : (lim a).length = (lim b).length
  · have h0 : a / B32 ^ (lim a).length = b / B32 ^ (lim a).length := by
      rw [Nat.div_eq_of_lt la, Nat.div_eq_of_lt (by rw [hl]; exact lb)]
    refine Ev.congr (fun k => ?_) (cmp_loop hl hs (lim a).length (Nat.le_refl _) h0)
    unfold fathomref3_Cmp.f
    have hw : wrap64 (((lim a).length : Int) - 1) = ((lim a).length : Int) - 1 := by unfold wrap64; omega
    rw [if_pos (by omega), hw]
  · refine Ev.congr (f := fun _ => some (sgnN a b)) (fun k => ?_) (Ev.now _)
    unfold fathomref3_Cmp.f
    rw [if_neg (by omega)]
    by_cases h : (lim a).length < (lim b).length
    · rw [if_pos (by omega)]
      have := (len_lim b _).1 h
      unfold sgnN; rw [if_pos (by omega)]
    · rw [if_neg (by omega)]
      have := (len_lim a _).1 (show (lim b).length < (lim a).length by omega)
      unfold sgnN; rw [if_neg (by omega), if_pos (by omega)]

/-! Sums and differences -/
theorem mod_step (n i : Nat) : n % B32 ^ (i + 1) = n % B32 ^ i + B32 ^ i * dg n i := by
  unfold dg; exact Nat.mod_pow_succ

theorem dg_zero {n i : Nat} (h : ¬ i < (lim n).length) : dg n i = 0 := by
  have : n < B32 ^ i := by
    rcases Nat.lt_or_ge n (B32 ^ i) with h1 | h1
    · exact h1
    · exact absurd ((len_lim n i).2 h1) h
  unfold dg; rw [Nat.div_eq_of_lt this]; rfl

theorem mod_all {n i : Nat} (h : ¬ i < (lim n).length) : n % B32 ^ i = n := by
  refine Nat.mod_eq_of_lt ?_
  rcases Nat.lt_or_ge n (B32 ^ i) with h1 | h1
  · exact h1
  · exact absurd ((len_lim n i).2 h1) h

theorem sum_alg {v pe pc q r s t u : Nat} (h : v + q = r + s) (h2 : pe + pc = q + t + u) : v + pe + pc = r + t + (s + u) := by omega
theorem less_alg {v pe pc q r s t u : Nat} (h : v + r = s + q) (h2 : pe + (t + q) = u + pc) : v + pe + (r + t) = s + u + pc := by omega
theorem some_lt {i p q : Nat} (h : ¬ (¬ i < p ∧ ¬ i < q)) : i + 1 ≤ p + q := by omega
theorem carry {c u v : Nat} (hc : c ≤ 1) (hu : u < 4294967296) (hv : v < 4294967296) : ∃ e c' : Nat, e + 4294967296 * c' = c + u + v ∧ e < 4294967296 ∧ c' ≤ 1 :=
  ⟨(c + u + v) % 4294967296, (c + u + v) / 4294967296, by omega, by omega, by omega⟩
theorem borrow {c u v : Nat} (hc : c ≤ 1) (hu : u < 4294967296) (hv : v < 4294967296) : ∃ e c' : Nat, e + (v + c) = u + 4294967296 * c' ∧ e < 4294967296 ∧ c' ≤ 1 := by
  by_cases h : u < v + c
  · exact ⟨u + 4294967296 - (v + c), 1, by omega, by omega, by omega⟩
  · exact ⟨u - (v + c), 0, by omega, by omega, by omega⟩
theorem wrap64_next {i : Nat} (h : i < 2147483648) : wrap64 ((i : Int) + 1) = ((i + 1 : Nat) : Int) := by unfold wrap64; omega
theorem wrap64_id {z : Int} (h1 : -9223372036854775808 ≤ z) (h2 : z < 9223372036854775808) : wrap64 z = z := by unfold wrap64; omega

/-- One limb of a sum. -/
theorem sum_one {c u v e c' : Nat} (hc : c ≤ 1) (hu : u < 4294967296) (hv : v < 4294967296) (h : e + 4294967296 * c' = c + u + v) (he : e < 4294967296) (hc' : c' ≤ 1) :
    (((c : Int) + (u : Int) % 18446744073709551616) % 18446744073709551616 + (v : Int) % 18446744073709551616) % 18446744073709551616 % 4294967296 = e ∧
    (((c : Int) + (u : Int) % 18446744073709551616) % 18446744073709551616 + (v : Int) % 18446744073709551616) % 18446744073709551616 / 4294967296 = c' ∧
    (((c : Int) + (v : Int) % 18446744073709551616)) % 18446744073709551616 % 4294967296 = (if u = 0 then (e : Int) else ((c : Int) + (v : Int)) % 4294967296) ∧
    (((c : Int) + (v : Int) % 18446744073709551616)) % 18446744073709551616 / 4294967296 = (if u = 0 then (c' : Int) else ((c : Int) + (v : Int)) / 4294967296) ∧
    (((c : Int) + (u : Int) % 18446744073709551616)) % 18446744073709551616 % 4294967296 = (if v = 0 then (e : Int) else ((c : Int) + (u : Int)) % 4294967296) ∧
    (((c : Int) + (u : Int) % 18446744073709551616)) % 18446744073709551616 / 4294967296 = (if v = 0 then (c' : Int) else ((c : Int) + (u : Int)) / 4294967296) := by
  refine ⟨by omega, by omega, ?_, ?_, ?_, ?_⟩ <;> split <;> omega

theorem sum_loop {a b : Nat} (ha : (lim a).length < 1073741824) (hb : (lim b).length < 1073741824) (d : Nat) : ∀ (i : Nat) (x : List Int) (c : Nat), (lim a).length + (lim b).length - i = d → i ≤ (lim a).length + (lim b).length → x.length = i → Lb x → c ≤ 1 →
    nv x + B32 ^ i * c = a % B32 ^ i + b % B32 ^ i → Ev (fun k => fathomref3_Sum.l0 k (lim a) (lim b) x (c : Int) (i : Int)) (lim (a + b)) := by
  have stop : ∀ (i : Nat) (x : List Int) (c : Nat), ¬ i < (lim a).length → ¬ i < (lim b).length → i ≤ (lim a).length + (lim b).length → x.length = i → Lb x → c ≤ 1 →
      nv x + B32 ^ i * c = a % B32 ^ i + b % B32 ^ i → Ev (fun k => fathomref3_Sum.l0 k (lim a) (lim b) x (c : Int) (i : Int)) (lim (a + b)) := by
    intro i x c h1 h2 hi hx hl hc hv
    rw [mod_all h1, mod_all h2] at hv
    have hc2 : 0 ≤ (c : Int) % 4294967296 ∧ (c : Int) % 4294967296 < 4294967296 := by clear hv; omega
    have hc3 : ((c : Int) % 4294967296).toNat = c := by clear hv; omega
    have ht := trim_ev (lb_snoc hl hc2) (by rw [List.length_append, hx]; clear hv; simp; omega)
    have e : nv (x ++ [(c : Int) % 4294967296]) = a + b := by
      rw [nv_snoc, hx, ← hv, hc3]
    rw [e] at ht
    clear hv e
    refine Ev.step (f := fun k => fathomref3_Sum.j1 k (lim a) (lim b) x (c : Int) (i : Int) false) (fun k => ?_) ?_
    · simp only [fathomref3_Sum.l0]; rw [if_neg (by omega), decide_eq_false (by omega)]
    · refine Ev.step (f := fun k => (fathomref3_Trim.f k (x ++ [(c : Int) % 4294967296])).bind fun t => some t) (fun k => ?_) (Ev.bind ht (Ev.now _))
      simp only [fathomref3_Sum.j1, Bool.false_eq_true, if_false]
      rw [if_pos (by omega)]
  induction d with
  | zero =>
    intro i x c hd hi hx hl hc hv
    exact stop i x c (by clear hv; omega) (by clear hv; omega) hi hx hl hc hv
  | succ d ih =>
    intro i x c hd hi hx hl hc hv
    by_cases hend : ¬ i < (lim a).length ∧ ¬ i < (lim b).length
    · exact stop i x c hend.1 hend.2 hi hx hl hc hv
    · obtain ⟨e, c', hsum, helt, hcle⟩ := carry hc (dg_lt a i) (dg_lt b i)
      have hone := sum_one hc (dg_lt a i) (dg_lt b i) hsum helt hcle
      have hval : nv (x ++ [(e : Int)]) + B32 ^ (i + 1) * c' = a % B32 ^ (i + 1) + b % B32 ^ (i + 1) := by
        rw [nv_snoc, hx, mod_step, mod_step, Int.toNat_natCast]
        have e1 : B32 ^ (i + 1) * c' = B32 ^ i * (4294967296 * c') := by rw [Nat.pow_succ, Nat.mul_assoc]
        rw [e1]
        have e2 : B32 ^ i * e + B32 ^ i * (4294967296 * c') = B32 ^ i * c + B32 ^ i * dg a i + B32 ^ i * dg b i := by
          rw [← Nat.mul_add, ← Nat.mul_add, ← Nat.mul_add, hsum]
        exact sum_alg hv e2
      have q2 := some_lt hend
      have hstep := ih (i + 1) (x ++ [(e : Int)]) c' (by clear hv hval hone hsum ih stop; omega) q2 (by rw [List.length_append, hx]; rfl) (lb_snoc hl ⟨Int.natCast_nonneg _, Int.ofNat_lt.2 helt⟩) hcle hval
      have hz1 : ¬ i < (lim a).length → dg a i = 0 := dg_zero
      have hz2 : ¬ i < (lim b).length → dg b i = 0 := dg_zero
      clear ih hval hv hl hsum stop hcle helt
      have hw : wrap64 ((i : Int) + 1) = ((i + 1 : Nat) : Int) := wrap64_next (by clear hone; omega)
      have hlim : x.length < 35184372088832 := by clear hone; omega
      refine Ev.step (f := fun k => fathomref3_Sum.j1 k (lim a) (lim b) x (c : Int) (i : Int) true) (fun k => ?_) ?_
      · simp only [fathomref3_Sum.l0]
        by_cases h1 : i < (lim a).length
        · rw [if_pos (by clear hone; omega)]
        · rw [if_neg (by clear hone; omega), decide_eq_true (by clear hone; omega)]
      · refine Ev.step (fun k => ?_) hstep
        simp only [fathomref3_Sum.j1, if_true, rd_lim, hw, wrap_u64]
        have hi0 : (0 : Int) ≤ (i : Int) := Int.natCast_nonneg _
        by_cases h1 : i < (lim a).length
        · rw [if_pos (Int.ofNat_lt.2 h1), if_pos hi0]
          by_cases h2 : i < (lim b).length
          · rw [if_pos (Int.ofNat_lt.2 h2), if_pos hlim, hone.1, hone.2.1]
          · rw [if_neg (fun h => h2 (Int.ofNat_lt.1 h)), if_pos hlim, hone.2.2.2.2.1, hone.2.2.2.2.2, if_pos (hz2 h2), if_pos (hz2 h2)]
        · have h2 : i < (lim b).length := by clear hone; omega
          rw [if_neg (fun h => h1 (Int.ofNat_lt.1 h)), if_pos (Int.ofNat_lt.2 h2), if_pos hi0, if_pos hlim, hone.2.2.1, hone.2.2.2.1, if_pos (hz1 h1), if_pos (hz1 h1)]

/-- Sum. -/
theorem sum_ev {a b : Nat} (ha : (lim a).length < 1073741824) (hb : (lim b).length < 1073741824) : Ev (fun k => fathomref3_Sum.f k (lim a) (lim b)) (lim (a + b)) :=
  sum_loop ha hb _ 0 [] 0 rfl (by omega) rfl lb_nil (by omega) (by simp [nv, Nat.mod_one])

/-- One limb of a difference. -/
theorem less_one {c u v e c' : Nat} (hc : c ≤ 1) (hu : u < 4294967296) (hv : v < 4294967296) (h : e + (v + c) = u + 4294967296 * c') (he : e < 4294967296) (hc' : c' ≤ 1) :
    (wrap64 (wrap64 (-(c : Int) + wrap64 (u : Int)) - wrap64 (v : Int))) % 18446744073709551616 % 4294967296 = e ∧
    (wrap64 (wrap64 (-(c : Int) + wrap64 (u : Int)) - wrap64 (v : Int))) / 4294967296 = -(c' : Int) ∧
    (wrap64 (-(c : Int) + wrap64 (u : Int))) % 18446744073709551616 % 4294967296 = (if v = 0 then (e : Int) else ((u : Int) - (c : Int)) % 4294967296) ∧
    (wrap64 (-(c : Int) + wrap64 (u : Int))) / 4294967296 = (if v = 0 then -(c' : Int) else ((u : Int) - (c : Int)) / 4294967296) := by
  have e1 : wrap64 (u : Int) = u := wrap64_id (by omega) (by omega)
  have e2 : wrap64 (v : Int) = v := wrap64_id (by omega) (by omega)
  have e3 : wrap64 (-(c : Int) + (u : Int)) = -(c : Int) + (u : Int) := wrap64_id (by omega) (by omega)
  have e4 : wrap64 (-(c : Int) + (u : Int) - (v : Int)) = -(c : Int) + (u : Int) - (v : Int) := wrap64_id (by omega) (by omega)
  rw [e1, e2, e3, e4]
  refine ⟨by omega, by omega, ?_, ?_⟩ <;> split <;> omega

theorem less_loop {a b : Nat} (hab : b ≤ a) (ha : (lim a).length < 1073741824) (d : Nat) : ∀ (i : Nat) (x : List Int) (c : Nat), (lim a).length - i = d → i ≤ (lim a).length → x.length = i → Lb x → c ≤ 1 →
    nv x + b % B32 ^ i = a % B32 ^ i + B32 ^ i * c → Ev (fun k => fathomref3_Less.l0 k (lim a) (lim b) x (-(c : Int)) (i : Int)) (lim (a - b)) := by
  induction d with
  | zero =>
    intro i x c hd hi hx hl hc hv
    have h1 : ¬ i < (lim a).length := by clear hv; omega
    have h2 : b < B32 ^ i := by
      have := lt_len a
      have e : (lim a).length = i := by clear hv; omega
      rw [e] at this
      exact Nat.lt_of_le_of_lt hab this
    rw [mod_all h1, Nat.mod_eq_of_lt h2] at hv
    have hlt := nv_lt hl
    rw [hx] at hlt
    have hc0 : c = 0 := by
      rcases Nat.eq_zero_or_pos c with h | h
      · exact h
      · have h1 : c = 1 := by clear hv; omega
        rw [h1, Nat.mul_one] at hv
        generalize B32 ^ i = P at hv hlt h2
        exfalso; omega
    rw [hc0, Nat.mul_zero, Nat.add_zero] at hv
    have hv2 : nv x = a - b := by omega
    have ht := trim_ev hl (by clear hv hv2; omega)
    rw [hv2] at ht
    rw [hc0]
    clear hv hlt hv2
    refine Ev.step (f := fun k => (fathomref3_Trim.f k x).bind fun t => some t) (fun k => ?_) (Ev.bind ht (Ev.now _))
    simp only [fathomref3_Less.l0]
    rw [if_neg (by omega)]
  | succ d ih =>
    intro i x c hd hi hx hl hc hv
    have h1 : i < (lim a).length := by clear hv; omega
    obtain ⟨e, c', hsum, helt, hcle⟩ := borrow hc (dg_lt a i) (dg_lt b i)
    have hone := less_one hc (dg_lt a i) (dg_lt b i) hsum helt hcle
    have hval : nv (x ++ [(e : Int)]) + b % B32 ^ (i + 1) = a % B32 ^ (i + 1) + B32 ^ (i + 1) * c' := by
      rw [nv_snoc, hx, mod_step, mod_step, Int.toNat_natCast]
      have e1 : B32 ^ (i + 1) * c' = B32 ^ i * (4294967296 * c') := by rw [Nat.pow_succ, Nat.mul_assoc]
      rw [e1]
      have e2 : B32 ^ i * e + (B32 ^ i * dg b i + B32 ^ i * c) = B32 ^ i * dg a i + B32 ^ i * (4294967296 * c') := by
        rw [← Nat.mul_add, ← Nat.mul_add, ← Nat.mul_add, hsum]
      exact less_alg hv e2
    have hstep := ih (i + 1) (x ++ [(e : Int)]) c' (by clear hv hval hone hsum ih; omega) h1 (by rw [List.length_append, hx]; rfl) (lb_snoc hl ⟨Int.natCast_nonneg _, Int.ofNat_lt.2 helt⟩) hcle hval
    have hz2 : ¬ i < (lim b).length → dg b i = 0 := dg_zero
    clear ih hval hv hl hsum hcle helt
    have hw : wrap64 ((i : Int) + 1) = ((i + 1 : Nat) : Int) := wrap64_next (by clear hone; omega)
    have hlim : x.length < 35184372088832 := by clear hone; omega
    have hi0 : (0 : Int) ≤ (i : Int) := Int.natCast_nonneg _
    refine Ev.step (fun k => ?_) hstep
    simp only [fathomref3_Less.l0, rd_lim, hw, wrap_u64]
    rw [if_pos (Int.ofNat_lt.2 h1), if_pos hi0]
    by_cases h2 : i < (lim b).length
    · rw [if_pos (Int.ofNat_lt.2 h2), if_pos hlim, hone.1, hone.2.1]
    · rw [if_neg (fun h => h2 (Int.ofNat_lt.1 h)), if_pos hlim, hone.2.2.1, hone.2.2.2, if_pos (hz2 h2), if_pos (hz2 h2)]

/-- Less. -/
theorem less_ev {a b : Nat} (hab : b ≤ a) (ha : (lim a).length < 1073741824) : Ev (fun k => fathomref3_Less.f k (lim a) (lim b)) (lim (a - b)) :=
  less_loop hab ha _ 0 [] 0 rfl (by omega) rfl lb_nil (by omega) (by simp [nv, Nat.mod_one])
end Go.Proofs.Ytfloeiagdegpjaa.Q
