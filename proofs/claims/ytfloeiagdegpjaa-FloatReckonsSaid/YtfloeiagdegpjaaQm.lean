/- Whole numbers as limbs: the reference's functions over them come to the numbers' own. No program runs here. -/
import Derived.Test.YtfloeiagdegpjaaQb
import Derived.Test.YtfloeiagdegpjaaR2
import Derived.Test.YtfloeiagdegpjaaR6
import Derived.Test.YtfloeiagdegpjaaPd
import Derived.Test.YtfloeiagdegpjaaRe
import Derived.Test.YtfloeiagdegpjaaR9
namespace Go.Proofs.Ytfloeiagdegpjaa.Q
section
open Go.RowKit Go.Proofs.YtfloeiagdegpjaaW.PrintWords Go.Proofs.Ytfloeiagdegpjaa.Rf
set_option linter.unusedVariables false
set_option linter.unusedSimpArgs false

/-- A limb's weight. -/
abbrev B32 : Nat := 4294967296

/-- What a list of limbs stands for, the lowest first. -/
def nv : List Int → Nat
  | [] => 0
  | x :: l => x.toNat + B32 * nv l

/-- All are limbs. -/
def Lb (l : List Int) : Prop := ∀ x ∈ l, 0 ≤ x ∧ x < 4294967296

/-- The limb at place i. -/
def dg (n i : Nat) : Nat := n / B32 ^ i % B32

/-- A number's limbs, none of nought on top. -/
def lim (n : Nat) : List Int := if h : n = 0 then [] else ((n % B32 : Nat) : Int) :: lim (n / B32)
termination_by n
decreasing_by exact Nat.div_lt_self (by omega) (by decide)

theorem lim_zero : lim 0 = [] := by rw [lim]; simp
theorem lim_pos {n : Nat} (h : 0 < n) : lim n = ((n % B32 : Nat) : Int) :: lim (n / B32) := by rw [lim, dif_neg (by omega)]

theorem nv_lim (n : Nat) : nv (lim n) = n := by
  induction n using Nat.strongRecOn with
  | _ n ih =>
    rcases Nat.eq_zero_or_pos n with rfl | h
    · rw [lim_zero]; rfl
    · rw [lim_pos h, nv, ih (n / B32) (Nat.div_lt_self h (by decide))]
      simp only [Int.toNat_natCast]
      exact Nat.mod_add_div n B32

theorem lb_lim (n : Nat) : Lb (lim n) := by
  induction n using Nat.strongRecOn with
  | _ n ih =>
    rcases Nat.eq_zero_or_pos n with rfl | h
    · rw [lim_zero]; intro x hx; cases hx
    · rw [lim_pos h]
      intro x hx
      rcases List.mem_cons.1 hx with rfl | hx
      · have := Nat.mod_lt n (show 0 < B32 by decide)
        have e : B32 = 4294967296 := rfl
        omega
      · exact ih _ (Nat.div_lt_self h (by decide)) x hx

theorem lb_cons {x : Int} {l : List Int} (h : Lb (x :: l)) : (0 ≤ x ∧ x < 4294967296) ∧ Lb l := ⟨h x (by simp), fun y hy => h y (by simp [hy])⟩
theorem lb_nil : Lb [] := fun x hx => by cases hx
theorem lb_snoc {l : List Int} {x : Int} (h : Lb l) (hx : 0 ≤ x ∧ x < 4294967296) : Lb (l ++ [x]) := by
  intro y hy
  rcases List.mem_append.1 hy with h1 | h1
  · exact h y h1
  · rw [List.mem_singleton.1 h1]; exact hx

theorem nv_lt {l : List Int} (h : Lb l) : nv l < B32 ^ l.length := by
  induction l with
  | nil => simp [nv]
  | cons x l ih =>
    obtain ⟨hx, hl⟩ := lb_cons h
    have := ih hl
    rw [nv, List.length_cons, Nat.pow_succ, Nat.mul_comm (B32 ^ l.length)]
    have e : B32 = 4294967296 := rfl
    have h2 : B32 * (nv l + 1) ≤ B32 * B32 ^ l.length := Nat.mul_le_mul_left _ this
    rw [Nat.mul_add, Nat.mul_one] at h2
    omega

theorem nv_snoc (l : List Int) (x : Int) : nv (l ++ [x]) = nv l + B32 ^ l.length * x.toNat := by
  induction l with
  | nil => simp [nv]
  | cons y l ih =>
    rw [List.cons_append, nv, ih, nv, List.length_cons, Nat.pow_succ, Nat.mul_add, Nat.mul_comm (B32 ^ l.length) B32, Nat.mul_assoc, Nat.add_assoc]

theorem nv_zeros (n : Nat) : nv (List.replicate n 0) = 0 := by
  induction n with
  | zero => rfl
  | succ n ih => rw [List.replicate_succ, nv, ih]; rfl

theorem lb_zeros (n : Nat) : Lb (List.replicate n 0) := by
  intro x hx
  rw [(List.mem_replicate.1 hx).2]; omega

theorem dg_lt (n i : Nat) : dg n i < 4294967296 := Nat.mod_lt _ (by decide)

theorem dg_succ (n i : Nat) : dg n (i + 1) = dg (n / B32) i := by
  unfold dg
  rw [Nat.pow_succ, Nat.mul_comm, Nat.div_div_eq_div_mul]

/-- A list's limb, of whatever place. -/
theorem rd_nv {l : List Int} (h : Lb l) (i : Nat) : rd l (i : Int) = (dg (nv l) i : Nat) := by
  unfold rd
  rw [Int.toNat_natCast]
  induction l generalizing i with
  | nil => simp [dg, nv]
  | cons x l ih =>
    obtain ⟨hx, hl⟩ := lb_cons h
    have e : B32 = 4294967296 := rfl
    cases i with
    | zero =>
      simp only [List.getD_cons_zero, dg, nv, Nat.pow_zero, Nat.div_one, Nat.add_mul_mod_self_left]
      rw [Nat.mod_eq_of_lt (by omega)]; omega
    | succ i =>
      rw [List.getD_cons_succ, ih hl, dg_succ]
      congr 2
      rw [nv, Nat.add_mul_div_left _ _ (by decide), Nat.div_eq_of_lt (by omega)]; omega

theorem rd_lim (n i : Nat) : rd (lim n) (i : Int) = (dg n i : Nat) := by
  rw [rd_nv (lb_lim n), nv_lim]

theorem len_lim (n i : Nat) : i < (lim n).length ↔ B32 ^ i ≤ n := by
  induction i generalizing n with
  | zero =>
    rcases Nat.eq_zero_or_pos n with rfl | h
    · rw [lim_zero]; simp
    · rw [lim_pos h]; simp; omega
  | succ i ih =>
    rcases Nat.eq_zero_or_pos n with rfl | h
    · rw [lim_zero]
      have : 0 < B32 ^ (i + 1) := Nat.pow_pos (by decide)
      simp
    · rw [lim_pos h, List.length_cons, Nat.succ_lt_succ_iff, ih, Nat.pow_succ, Nat.le_div_iff_mul_le (by decide)]

theorem len_le {n i : Nat} (h : n < B32 ^ i) : (lim n).length ≤ i := by
  rcases Nat.lt_or_ge i (lim n).length with h1 | h1
  · have := (len_lim n i).1 h1; omega
  · exact h1

theorem lt_len (n : Nat) : n < B32 ^ (lim n).length := by
  rcases Nat.lt_or_ge n (B32 ^ (lim n).length) with h | h
  · exact h
  · have := (len_lim n (lim n).length).2 h; omega

/-- The limbs of a number are the only list without nought on top. -/
theorem lim_of {l : List Int} (h : Lb l) (ht : ∀ n, l.length = n + 1 → rd l (n : Int) ≠ 0) : l = lim (nv l) := by
  induction l with
  | nil => rw [nv, lim_zero]
  | cons x l ih =>
    obtain ⟨hx, hl⟩ := lb_cons h
    have e : B32 = 4294967296 := rfl
    have hpos : 0 < nv (x :: l) := by
      rcases Nat.eq_zero_or_pos (nv (x :: l)) with h0 | h0
      · exfalso
        have := ht l.length rfl
        rw [rd_nv h, h0] at this
        simp [dg] at this
      · exact h0
    have hm : nv (x :: l) % B32 = x.toNat := by
      rw [nv, Nat.add_mul_mod_self_left, Nat.mod_eq_of_lt (by omega)]
    have hd : nv (x :: l) / B32 = nv l := by
      rw [nv, Nat.add_mul_div_left _ _ (by decide), Nat.div_eq_of_lt (by omega)]; omega
    rw [lim_pos hpos, hm, hd]
    have := ih hl (fun n hn => by
      have := ht (n + 1) (by rw [List.length_cons, hn])
      unfold rd at this ⊢
      rw [Int.toNat_natCast] at this ⊢
      simpa using this)
    rw [← this]
    congr 1; omega

theorem nv_take_snoc {l : List Int} (h : Lb l) {n : Nat} (hn : n < l.length) : nv (l.take (n + 1)) = nv (l.take n) + B32 ^ n * (rd l (n : Int)).toNat := by
  rw [List.take_succ_eq_append_getElem hn, nv_snoc]
  unfold rd
  rw [Int.toNat_natCast, List.getD_eq_getElem?_getD, List.getElem?_eq_getElem hn, Option.getD_some, List.length_take, Nat.min_eq_left (by omega)]

theorem lb_take {l : List Int} (h : Lb l) (n : Nat) : Lb (l.take n) := fun x hx => h x (List.mem_of_mem_take hx)

/-- Trim: the number's own limbs. -/
theorem trim_ev {l : List Int} (h : Lb l) (hm : l.length < 4611686018427387904) : Ev (fun k => fathomref3_Trim.f k l) (lim (nv l)) := by
  have key : ∀ n : Nat, n ≤ l.length → nv (l.take n) = nv l → Ev (fun k => fathomref3_Trim.l0 k l (n : Int)) (lim (nv l)) := by
    intro n
    induction n with
    | zero =>
      intro _ hv
      refine Ev.step (f := fun _ => some (lim (nv l))) (fun k => ?_) (Ev.now _)
      simp only [fathomref3_Trim.l0]
      rw [if_neg (by omega), if_pos (by omega), if_pos (by omega)]
      rw [← hv]; simp [nv, lim_zero]
    | succ n ih =>
      intro hn hv
      have hw : wrap64 (((n + 1 : Nat) : Int) - 1) = (n : Int) := by unfold wrap64; omega
      by_cases hz : rd l (n : Int) = 0
      · have hv2 : nv (l.take n) = nv l := by
          rw [← hv, nv_take_snoc h (by omega), hz]; simp
        refine Ev.step (f := fun k => fathomref3_Trim.l0 k l (n : Int)) (fun k => ?_) (ih (by omega) hv2)
        simp only [fathomref3_Trim.l0]
        rw [if_pos (by omega), hw, if_pos (by omega), if_pos (by omega), if_pos hz]
      · refine Ev.step (f := fun _ => some (lim (nv l))) (fun k => ?_) (Ev.now _)
        simp only [fathomref3_Trim.l0]
        rw [if_pos (by omega), hw, if_pos (by omega), if_pos (by omega), if_neg hz, if_pos (by omega), if_pos (by omega), Int.toNat_natCast]
        congr 1
        rw [← hv]
        refine lim_of (lb_take h _) (fun m hm => ?_)
        rw [List.length_take, Nat.min_eq_left hn] at hm
        have : m = n := by omega
        subst this
        unfold rd at hz ⊢
        rw [Int.toNat_natCast] at hz ⊢
        rw [List.getD_eq_getElem?_getD] at hz ⊢
        rw [List.getElem?_take_of_lt (by omega)]
        exact hz
  exact key l.length (Nat.le_refl _) (by rw [List.take_length])

theorem of_ev {a : Int} (h0 : 0 ≤ a) (h1 : a < 18446744073709551616) : Ev (fun k => fathomref3_Of.f k a) (lim a.toNat) := by
  have hl : Lb [a % 4294967296, a / 4294967296 % 4294967296] := by
    intro x hx
    simp at hx
    rcases hx with rfl | rfl <;> omega
  have hv : nv [a % 4294967296, a / 4294967296 % 4294967296] = a.toNat := by
    simp only [nv, B32]; omega
  have := trim_ev hl (by simp)
  rw [hv] at this
  exact Ev.bind this (Ev.now _)

/-- How many bits. -/
def bl (n : Nat) : Int := if n = 0 then 0 else (n.log2 : Int) + 1

theorem bl_zero : bl 0 = 0 := rfl
theorem bl_pos {n : Nat} (h : 0 < n) : bl n = (n.log2 : Int) + 1 := by unfold bl; rw [if_neg (by omega)]
theorem bl_half {n : Nat} (h : 0 < n) : bl n = bl (n / 2) + 1 := by
  rw [bl_pos h]
  rcases Nat.eq_zero_or_pos (n / 2) with h2 | h2
  · have : n = 1 := by omega
    subst this; rfl
  · rw [bl_pos h2, Nat.log2_def, if_pos (by omega)]; omega

theorem len_loop (d : Nat) : ∀ (n : Nat) (s : Int), bl n = d → 0 ≤ s → s + d < 9223372036854775808 → Ev (fun k => fathomref3_Len.l0 k s (n : Int)) (s + d) := by
  induction d with
  | zero =>
    intro n s hn hs _
    have : n = 0 := by
      rcases Nat.eq_zero_or_pos n with h | h
      · exact h
      · rw [bl_pos h] at hn; omega
    subst this
    refine Ev.step (f := fun _ => some (s + ((0 : Nat) : Int))) (fun k => ?_) (Ev.now _)
    simp [fathomref3_Len.l0]
  | succ d ih =>
    intro n s hn hs hb
    have hpos : 0 < n := by
      rcases Nat.eq_zero_or_pos n with h | h
      · subst h; rw [bl_zero] at hn; omega
      · exact h
    have h2 := bl_half hpos
    have := ih (n / 2) (s + 1) (by omega) (by omega) (by omega)
    have e : s + 1 + (d : Int) = s + ((d + 1 : Nat) : Int) := by omega
    rw [e] at this
    refine Ev.step (f := fun k => fathomref3_Len.l0 k (s + 1) ((n / 2 : Nat) : Int)) (fun k => ?_) this
    simp only [fathomref3_Len.l0]
    have hw : wrap64 (s + 1) = s + 1 := by unfold wrap64; omega
    rw [if_neg (by omega), hw]; rfl

theorem bl_top {n m : Nat} (hn : 0 < n) (hm : (lim n).length = m + 1) : bl n = 32 * m + bl (dg n m) := by
  have h1 := (len_lim n m).1 (by omega)
  have h2 := lt_len n
  rw [hm, Nat.pow_succ] at h2
  have hd : dg n m = n / B32 ^ m := by
    unfold dg
    exact Nat.mod_eq_of_lt (Nat.div_lt_of_lt_mul h2)
  have hp : 0 < B32 ^ m := Nat.pow_pos (by decide)
  have hq : 0 < n / B32 ^ m := Nat.div_pos h1 hp
  rw [hd, bl_pos hn, bl_pos hq]
  have e : B32 ^ m = 2 ^ (32 * m) := by rw [Nat.pow_mul]
  rw [e]
  have : (n / 2 ^ (32 * m)).log2 = n.log2 - 32 * m := by
    have h3 : 32 * m ≤ n.log2 := (Nat.le_log2 (by omega)).2 (by rw [← e]; exact h1)
    refine (Nat.log2_eq_iff (by rw [← e]; omega)).2 ⟨?_, ?_⟩
    · rw [Nat.le_div_iff_mul_le (Nat.two_pow_pos _), ← Nat.pow_add]
      have : n.log2 - 32 * m + 32 * m = n.log2 := by omega
      rw [this]; exact Nat.log2_self_le (by omega)
    · refine Nat.div_lt_of_lt_mul ?_
      rw [← Nat.pow_add]
      have : 32 * m + (n.log2 - 32 * m + 1) = n.log2 + 1 := by omega
      rw [this]; exact Nat.lt_log2_self
  rw [this]
  have h3 : 32 * m ≤ n.log2 := (Nat.le_log2 (by omega)).2 (by rw [← e]; exact h1)
  omega

theorem bl_digit (n i : Nat) : 0 ≤ bl (dg n i) ∧ bl (dg n i) ≤ 32 := by
  have h := dg_lt n i
  generalize dg n i = d at *
  rcases Nat.eq_zero_or_pos d with h0 | h0
  · subst h0; rw [bl_zero]; omega
  · rw [bl_pos h0]
    have : d.log2 < 32 := (Nat.log2_lt (by omega)).2 h
    omega

/-- Len: the number of bits. -/
theorem len_ev {n : Nat} (hs : (lim n).length < 1073741824) : Ev (fun k => fathomref3_Len.f k (lim n)) (bl n) := by
  rcases Nat.eq_zero_or_pos n with rfl | hn
  · refine Ev.congr (f := fun _ => some (bl 0)) (fun k => ?_) (Ev.now _)
    unfold fathomref3_Len.f; rw [lim_zero]; rfl
  · obtain ⟨m, hm⟩ : ∃ m, (lim n).length = m + 1 := by
      have := (len_lim n 0).2 (by rw [Nat.pow_zero]; exact hn)
      exact ⟨(lim n).length - 1, by omega⟩
    have hb := bl_digit n m
    have hloop := len_loop (bl (dg n m)).toNat (dg n m) (32 * m) (by omega) (by omega) (by omega)
    rw [show (32 * (m : Int) + ((bl (dg n m)).toNat : Int)) = bl n by rw [bl_top hn hm]; omega] at hloop
    refine Ev.congr (fun k => ?_) hloop
    unfold fathomref3_Len.f
    have hw : wrap64 (((lim n).length : Int) - 1) = (m : Int) := by unfold wrap64; omega
    have hw2 : wrap64 (32 * (m : Int)) = 32 * (m : Int) := by unfold wrap64; omega
    rw [if_neg (by omega), hw, if_pos (by omega), if_pos (by omega), hw2, rd_lim]

/-- Cmp: which is the greater. -/
def sgnN (a b : Nat) : Int := if a < b then -1 else if b < a then 1 else 0

theorem div_step (n i : Nat) : n / B32 ^ i = n / B32 ^ (i + 1) * B32 + dg n i := by
  unfold dg
  rw [Nat.pow_succ, ← Nat.div_div_eq_div_mul]
  have := Nat.div_add_mod (n / B32 ^ i) B32
  rw [Nat.mul_comm] at this; omega

theorem cmp_loop {a b : Nat} (hl : (lim a).length = (lim b).length) (hs : (lim a).length < 1073741824) (n : Nat) : n ≤ (lim a).length → a / B32 ^ n = b / B32 ^ n →
    Ev (fun k => fathomref3_Cmp.l0 k (lim a) (lim b) ((n : Int) - 1)) (sgnN a b) := by
  induction n with
  | zero =>
    intro _ he
    rw [Nat.pow_zero, Nat.div_one, Nat.div_one] at he
    refine Ev.step (f := fun _ => some (sgnN a b)) (fun k => ?_) (Ev.now _)
    simp only [fathomref3_Cmp.l0]
    rw [if_neg (by omega), he]; simp [sgnN]
  | succ n ih =>
    intro hn he
    have e1 : (((n + 1 : Nat) : Int) - 1) = (n : Int) := by omega
    rw [e1]
    have ha := div_step a n
    have hb := div_step b n
    have hp : 0 < B32 ^ n := Nat.pow_pos (by decide)
    have less : ∀ x y : Nat, x / B32 ^ n < y / B32 ^ n → x < y := by
      intro x y h
      rcases Nat.lt_or_ge x y with h1 | h1
      · exact h1
      · have := Nat.div_le_div_right (c := B32 ^ n) h1; omega
    by_cases c1 : dg a n < dg b n
    · refine Ev.step (f := fun _ => some (sgnN a b)) (fun k => ?_) (Ev.now _)
      simp only [fathomref3_Cmp.l0, rd_lim]
      rw [if_pos (by omega), if_pos (by omega), if_pos (by omega), if_pos (by omega), if_pos (by omega)]
      have := less a b (by rw [ha, hb, he]; omega)
      unfold sgnN; rw [if_pos this]
    · by_cases c2 : dg b n < dg a n
      · refine Ev.step (f := fun _ => some (sgnN a b)) (fun k => ?_) (Ev.now _)
        simp only [fathomref3_Cmp.l0, rd_lim]
        rw [if_pos (by omega), if_pos (by omega), if_pos (by omega), if_pos (by omega), if_neg (by omega), if_pos (by omega)]
        have := less b a (by rw [ha, hb, he]; omega)
        unfold sgnN; rw [if_neg (by omega), if_pos this]
      · have hw : wrap64 ((n : Int) - 1) = (n : Int) - 1 := by unfold wrap64; omega
        refine Ev.step (f := fun k => fathomref3_Cmp.l0 k (lim a) (lim b) ((n : Int) - 1)) (fun k => ?_) (ih (by omega) (by rw [ha, hb, he]; congr 1; omega))
        simp only [fathomref3_Cmp.l0, rd_lim]
        rw [if_pos (by omega), if_pos (by omega), if_pos (by omega), if_pos (by omega), if_neg (by omega), if_neg (by omega), hw]

theorem cmp_ev {a b : Nat} (hs : (lim a).length < 1073741824) : Ev (fun k => fathomref3_Cmp.f k (lim a) (lim b)) (sgnN a b) := by
  have la := lt_len a
  have lb := lt_len b
  by_cases hl : (lim a).length = (lim b).length
  · have h0 : a / B32 ^ (lim a).length = b / B32 ^ (lim a).length := by
      rw [Nat.div_eq_of_lt la, Nat.div_eq_of_lt (by rw [hl]; exact lb)]
    refine Ev.congr (fun k => ?_) (cmp_loop hl hs (lim a).length (Nat.le_refl _) h0)
    unfold fathomref3_Cmp.f
    have hw : wrap64 (((lim a).length : Int) - 1) = ((lim a).length : Int) - 1 := by unfold wrap64; omega
    rw [if_pos (by omega), hw]
  · refine Ev.congr (f := fun _ => some (sgnN a b)) (fun k => ?_) (Ev.now _)
    unfold fathomref3_Cmp.f
    rw [if_neg (by omega)]
    by_cases h : (lim a).length < (lim b).length
    · rw [if_pos (by omega)]
      have := (len_lim b _).1 h
      unfold sgnN; rw [if_pos (by omega)]
    · rw [if_neg (by omega)]
      have := (len_lim a _).1 (show (lim b).length < (lim a).length by omega)
      unfold sgnN; rw [if_neg (by omega), if_pos (by omega)]

/-! Sums and differences -/
theorem mod_step (n i : Nat) : n % B32 ^ (i + 1) = n % B32 ^ i + B32 ^ i * dg n i := by
  unfold dg; exact Nat.mod_pow_succ

theorem dg_zero {n i : Nat} (h : ¬ i < (lim n).length) : dg n i = 0 := by
  have : n < B32 ^ i := by
    rcases Nat.lt_or_ge n (B32 ^ i) with h1 | h1
    · exact h1
    · exact absurd ((len_lim n i).2 h1) h
  unfold dg; rw [Nat.div_eq_of_lt this]; rfl

theorem mod_all {n i : Nat} (h : ¬ i < (lim n).length) : n % B32 ^ i = n := by
  refine Nat.mod_eq_of_lt ?_
  rcases Nat.lt_or_ge n (B32 ^ i) with h1 | h1
  · exact h1
  · exact absurd ((len_lim n i).2 h1) h

theorem sum_alg {v pe pc q r s t u : Nat} (h : v + q = r + s) (h2 : pe + pc = q + t + u) : v + pe + pc = r + t + (s + u) := by omega
theorem less_alg {v pe pc q r s t u : Nat} (h : v + r = s + q) (h2 : pe + (t + q) = u + pc) : v + pe + (r + t) = s + u + pc := by omega
theorem some_lt {i p q : Nat} (h : ¬ (¬ i < p ∧ ¬ i < q)) : i + 1 ≤ p + q := by omega
theorem carry {c u v : Nat} (hc : c ≤ 1) (hu : u < 4294967296) (hv : v < 4294967296) : ∃ e c' : Nat, e + 4294967296 * c' = c + u + v ∧ e < 4294967296 ∧ c' ≤ 1 :=
  ⟨(c + u + v) % 4294967296, (c + u + v) / 4294967296, by omega, by omega, by omega⟩
theorem borrow {c u v : Nat} (hc : c ≤ 1) (hu : u < 4294967296) (hv : v < 4294967296) : ∃ e c' : Nat, e + (v + c) = u + 4294967296 * c' ∧ e < 4294967296 ∧ c' ≤ 1 := by
  by_cases h : u < v + c
  · exact ⟨u + 4294967296 - (v + c), 1, by omega, by omega, by omega⟩
  · exact ⟨u - (v + c), 0, by omega, by omega, by omega⟩
theorem wrap64_next {i : Nat} (h : i < 2147483648) : wrap64 ((i : Int) + 1) = ((i + 1 : Nat) : Int) := by unfold wrap64; omega
theorem wrap64_id {z : Int} (h1 : -9223372036854775808 ≤ z) (h2 : z < 9223372036854775808) : wrap64 z = z := by unfold wrap64; omega

/-- One limb of a sum. -/
theorem sum_one {c u v e c' : Nat} (hc : c ≤ 1) (hu : u < 4294967296) (hv : v < 4294967296) (h : e + 4294967296 * c' = c + u + v) (he : e < 4294967296) (hc' : c' ≤ 1) :
    (((c : Int) + (u : Int) % 18446744073709551616) % 18446744073709551616 + (v : Int) % 18446744073709551616) % 18446744073709551616 % 4294967296 = e ∧
    (((c : Int) + (u : Int) % 18446744073709551616) % 18446744073709551616 + (v : Int) % 18446744073709551616) % 18446744073709551616 / 4294967296 = c' ∧
    (((c : Int) + (v : Int) % 18446744073709551616)) % 18446744073709551616 % 4294967296 = (if u = 0 then (e : Int) else ((c : Int) + (v : Int)) % 4294967296) ∧
    (((c : Int) + (v : Int) % 18446744073709551616)) % 18446744073709551616 / 4294967296 = (if u = 0 then (c' : Int) else ((c : Int) + (v : Int)) / 4294967296) ∧
    (((c : Int) + (u : Int) % 18446744073709551616)) % 18446744073709551616 % 4294967296 = (if v = 0 then (e : Int) else ((c : Int) + (u : Int)) % 4294967296) ∧
    (((c : Int) + (u : Int) % 18446744073709551616)) % 18446744073709551616 / 4294967296 = (if v = 0 then (c' : Int) else ((c : Int) + (u : Int)) / 4294967296) := by
  refine ⟨by omega, by omega, ?_, ?_, ?_, ?_⟩ <;> split <;> omega

theorem sum_loop {a b : Nat} (ha : (lim a).length < 1073741824) (hb : (lim b).length < 1073741824) (d : Nat) : ∀ (i : Nat) (x : List Int) (c : Nat), (lim a).length + (lim b).length - i = d → i ≤ (lim a).length + (lim b).length → x.length = i → Lb x → c ≤ 1 →
    nv x + B32 ^ i * c = a % B32 ^ i + b % B32 ^ i → Ev (fun k => fathomref3_Sum.l0 k (lim a) (lim b) x (c : Int) (i : Int)) (lim (a + b)) := by
  have stop : ∀ (i : Nat) (x : List Int) (c : Nat), ¬ i < (lim a).length → ¬ i < (lim b).length → i ≤ (lim a).length + (lim b).length → x.length = i → Lb x → c ≤ 1 →
      nv x + B32 ^ i * c = a % B32 ^ i + b % B32 ^ i → Ev (fun k => fathomref3_Sum.l0 k (lim a) (lim b) x (c : Int) (i : Int)) (lim (a + b)) := by
    intro i x c h1 h2 hi hx hl hc hv
    rw [mod_all h1, mod_all h2] at hv
    have hc2 : 0 ≤ (c : Int) % 4294967296 ∧ (c : Int) % 4294967296 < 4294967296 := by clear hv; omega
    have hc3 : ((c : Int) % 4294967296).toNat = c := by clear hv; omega
    have ht := trim_ev (lb_snoc hl hc2) (by rw [List.length_append, hx]; clear hv; simp; omega)
    have e : nv (x ++ [(c : Int) % 4294967296]) = a + b := by
      rw [nv_snoc, hx, ← hv, hc3]
    rw [e] at ht
    clear hv e
    refine Ev.step (f := fun k => fathomref3_Sum.j1 k (lim a) (lim b) x (c : Int) (i : Int) false) (fun k => ?_) ?_
    · simp only [fathomref3_Sum.l0]; rw [if_neg (by omega), decide_eq_false (by omega)]
    · refine Ev.step (f := fun k => (fathomref3_Trim.f k (x ++ [(c : Int) % 4294967296])).bind fun t => some t) (fun k => ?_) (Ev.bind ht (Ev.now _))
      simp only [fathomref3_Sum.j1, Bool.false_eq_true, if_false]
      rw [if_pos (by omega)]
  induction d with
  | zero =>
    intro i x c hd hi hx hl hc hv
    exact stop i x c (by clear hv; omega) (by clear hv; omega) hi hx hl hc hv
  | succ d ih =>
    intro i x c hd hi hx hl hc hv
    by_cases hend : ¬ i < (lim a).length ∧ ¬ i < (lim b).length
    · exact stop i x c hend.1 hend.2 hi hx hl hc hv
    · obtain ⟨e, c', hsum, helt, hcle⟩ := carry hc (dg_lt a i) (dg_lt b i)
      have hone := sum_one hc (dg_lt a i) (dg_lt b i) hsum helt hcle
      have hval : nv (x ++ [(e : Int)]) + B32 ^ (i + 1) * c' = a % B32 ^ (i + 1) + b % B32 ^ (i + 1) := by
        rw [nv_snoc, hx, mod_step, mod_step, Int.toNat_natCast]
        have e1 : B32 ^ (i + 1) * c' = B32 ^ i * (4294967296 * c') := by rw [Nat.pow_succ, Nat.mul_assoc]
        rw [e1]
        have e2 : B32 ^ i * e + B32 ^ i * (4294967296 * c') = B32 ^ i * c + B32 ^ i * dg a i + B32 ^ i * dg b i := by
          rw [← Nat.mul_add, ← Nat.mul_add, ← Nat.mul_add, hsum]
        exact sum_alg hv e2
      have q2 := some_lt hend
      have hstep := ih (i + 1) (x ++ [(e : Int)]) c' (by clear hv hval hone hsum ih stop; omega) q2 (by rw [List.length_append, hx]; rfl) (lb_snoc hl ⟨Int.natCast_nonneg _, Int.ofNat_lt.2 helt⟩) hcle hval
      have hz1 : ¬ i < (lim a).length → dg a i = 0 := dg_zero
      have hz2 : ¬ i < (lim b).length → dg b i = 0 := dg_zero
      clear ih hval hv hl hsum stop hcle helt
      have hw : wrap64 ((i : Int) + 1) = ((i + 1 : Nat) : Int) := wrap64_next (by clear hone; omega)
      have hlim : x.length < 35184372088832 := by clear hone; omega
      refine Ev.step (f := fun k => fathomref3_Sum.j1 k (lim a) (lim b) x (c : Int) (i : Int) true) (fun k => ?_) ?_
      · simp only [fathomref3_Sum.l0]
        by_cases h1 : i < (lim a).length
        · rw [if_pos (by clear hone; omega)]
        · rw [if_neg (by clear hone; omega), decide_eq_true (by clear hone; omega)]
      · refine Ev.step (fun k => ?_) hstep
        simp only [fathomref3_Sum.j1, if_true, rd_lim, hw, wrap_u64]
        have hi0 : (0 : Int) ≤ (i : Int) := Int.natCast_nonneg _
        by_cases h1 : i < (lim a).length
        · rw [if_pos (Int.ofNat_lt.2 h1), if_pos hi0]
          by_cases h2 : i < (lim b).length
          · rw [if_pos (Int.ofNat_lt.2 h2), if_pos hlim, hone.1, hone.2.1]
          · rw [if_neg (fun h => h2 (Int.ofNat_lt.1 h)), if_pos hlim, hone.2.2.2.2.1, hone.2.2.2.2.2, if_pos (hz2 h2), if_pos (hz2 h2)]
        · have h2 : i < (lim b).length := by clear hone; omega
          rw [if_neg (fun h => h1 (Int.ofNat_lt.1 h)), if_pos (Int.ofNat_lt.2 h2), if_pos hi0, if_pos hlim, hone.2.2.1, hone.2.2.2.1, if_pos (hz1 h1), if_pos (hz1 h1)]

/-- Sum. -/
theorem sum_ev {a b : Nat} (ha : (lim a).length < 1073741824) (hb : (lim b).length < 1073741824) : Ev (fun k => fathomref3_Sum.f k (lim a) (lim b)) (lim (a + b)) :=
  sum_loop ha hb _ 0 [] 0 rfl (by omega) rfl lb_nil (by omega) (by simp [nv, Nat.mod_one])

/-- One limb of a difference. -/
theorem less_one {c u v e c' : Nat} (hc : c ≤ 1) (hu : u < 4294967296) (hv : v < 4294967296) (h : e + (v + c) = u + 4294967296 * c') (he : e < 4294967296) (hc' : c' ≤ 1) :
    (wrap64 (wrap64 (-(c : Int) + wrap64 (u : Int)) - wrap64 (v : Int))) % 18446744073709551616 % 4294967296 = e ∧
    (wrap64 (wrap64 (-(c : Int) + wrap64 (u : Int)) - wrap64 (v : Int))) / 4294967296 = -(c' : Int) ∧
    (wrap64 (-(c : Int) + wrap64 (u : Int))) % 18446744073709551616 % 4294967296 = (if v = 0 then (e : Int) else ((u : Int) - (c : Int)) % 4294967296) ∧
    (wrap64 (-(c : Int) + wrap64 (u : Int))) / 4294967296 = (if v = 0 then -(c' : Int) else ((u : Int) - (c : Int)) / 4294967296) := by
  have e1 : wrap64 (u : Int) = u := wrap64_id (by omega) (by omega)
  have e2 : wrap64 (v : Int) = v := wrap64_id (by omega) (by omega)
  have e3 : wrap64 (-(c : Int) + (u : Int)) = -(c : Int) + (u : Int) := wrap64_id (by omega) (by omega)
  have e4 : wrap64 (-(c : Int) + (u : Int) - (v : Int)) = -(c : Int) + (u : Int) - (v : Int) := wrap64_id (by omega) (by omega)
  rw [e1, e2, e3, e4]
  refine ⟨by omega, by omega, ?_, ?_⟩ <;> split <;> omega

theorem less_loop {a b : Nat} (hab : b ≤ a) (ha : (lim a).length < 1073741824) (d : Nat) : ∀ (i : Nat) (x : List Int) (c : Nat), (lim a).length - i = d → i ≤ (lim a).length → x.length = i → Lb x → c ≤ 1 →
    nv x + b % B32 ^ i = a % B32 ^ i + B32 ^ i * c → Ev (fun k => fathomref3_Less.l0 k (lim a) (lim b) x (-(c : Int)) (i : Int)) (lim (a - b)) := by
  induction d with
  | zero =>
    intro i x c hd hi hx hl hc hv
    have h1 : ¬ i < (lim a).length := by clear hv; omega
    have h2 : b < B32 ^ i := by
      have := lt_len a
      have e : (lim a).length = i := by clear hv; omega
      rw [e] at this
      exact Nat.lt_of_le_of_lt hab this
    rw [mod_all h1, Nat.mod_eq_of_lt h2] at hv
    have hlt := nv_lt hl
    rw [hx] at hlt
    have hc0 : c = 0 := by
      rcases Nat.eq_zero_or_pos c with h | h
      · exact h
      · have h1 : c = 1 := by clear hv; omega
        rw [h1, Nat.mul_one] at hv
        generalize B32 ^ i = P at hv hlt h2
        exfalso; omega
    rw [hc0, Nat.mul_zero, Nat.add_zero] at hv
    have hv2 : nv x = a - b := by omega
    have ht := trim_ev hl (by clear hv hv2; omega)
    rw [hv2] at ht
    rw [hc0]
    clear hv hlt hv2
    refine Ev.step (f := fun k => (fathomref3_Trim.f k x).bind fun t => some t) (fun k => ?_) (Ev.bind ht (Ev.now _))
    simp only [fathomref3_Less.l0]
    rw [if_neg (by omega)]
  | succ d ih =>
    intro i x c hd hi hx hl hc hv
    have h1 : i < (lim a).length := by clear hv; omega
    obtain ⟨e, c', hsum, helt, hcle⟩ := borrow hc (dg_lt a i) (dg_lt b i)
    have hone := less_one hc (dg_lt a i) (dg_lt b i) hsum helt hcle
    have hval : nv (x ++ [(e : Int)]) + b % B32 ^ (i + 1) = a % B32 ^ (i + 1) + B32 ^ (i + 1) * c' := by
      rw [nv_snoc, hx, mod_step, mod_step, Int.toNat_natCast]
      have e1 : B32 ^ (i + 1) * c' = B32 ^ i * (4294967296 * c') := by rw [Nat.pow_succ, Nat.mul_assoc]
      rw [e1]
      have e2 : B32 ^ i * e + (B32 ^ i * dg b i + B32 ^ i * c) = B32 ^ i * dg a i + B32 ^ i * (4294967296 * c') := by
        rw [← Nat.mul_add, ← Nat.mul_add, ← Nat.mul_add, hsum]
      exact less_alg hv e2
    have hstep := ih (i + 1) (x ++ [(e : Int)]) c' (by clear hv hval hone hsum ih; omega) h1 (by rw [List.length_append, hx]; rfl) (lb_snoc hl ⟨Int.natCast_nonneg _, Int.ofNat_lt.2 helt⟩) hcle hval
    have hz2 : ¬ i < (lim b).length → dg b i = 0 := dg_zero
    clear ih hval hv hl hsum hcle helt
    have hw : wrap64 ((i : Int) + 1) = ((i + 1 : Nat) : Int) := wrap64_next (by clear hone; omega)
    have hlim : x.length < 35184372088832 := by clear hone; omega
    have hi0 : (0 : Int) ≤ (i : Int) := Int.natCast_nonneg _
    refine Ev.step (fun k => ?_) hstep
    simp only [fathomref3_Less.l0, rd_lim, hw, wrap_u64]
    rw [if_pos (Int.ofNat_lt.2 h1), if_pos hi0]
    by_cases h2 : i < (lim b).length
    · rw [if_pos (Int.ofNat_lt.2 h2), if_pos hlim, hone.1, hone.2.1]
    · rw [if_neg (fun h => h2 (Int.ofNat_lt.1 h)), if_pos hlim, hone.2.2.1, hone.2.2.2, if_pos (hz2 h2), if_pos (hz2 h2)]

/-- Less. -/
theorem less_ev {a b : Nat} (hab : b ≤ a) (ha : (lim a).length < 1073741824) : Ev (fun k => fathomref3_Less.f k (lim a) (lim b)) (lim (a - b)) :=
  less_loop hab ha _ 0 [] 0 rfl (by omega) rfl lb_nil (by omega) (by simp [nv, Nat.mod_one])
end
end Go.Proofs.Ytfloeiagdegpjaa.Q
namespace Go.Proofs.Ytfloeiagdegpjaa.Q
section
open Go.RowKit Go.Proofs.YtfloeiagdegpjaaW.PrintWords Go.Proofs.Ytfloeiagdegpjaa.Rf
set_option linter.unusedVariables false
set_option linter.unusedSimpArgs false

/-! Shifts and bits of 64-bit words -/
theorem or_low {k a b : Nat} (ha : a < 2 ^ k) (hb : a + b * 2 ^ k < 18446744073709551616) : Go.bits .or .u64 (a : Int) ((b * 2 ^ k : Nat) : Int) = ((a + b * 2 ^ k : Nat) : Int) := by
  rw [u64_or _ _ (by omega) (by omega) (by omega) (by omega)]
  have := Nat.two_pow_add_eq_or_of_lt ha b
  rw [Int.toNat_natCast, Int.toNat_natCast, Nat.mul_comm b, Nat.or_comm, ← this, Nat.add_comm]
theorem shl_nat {x s : Nat} (hs : s ≤ 64) (hx : x * 2 ^ s < 18446744073709551616) : shl .u64 (x : Int) (s : Int) = ((x * 2 ^ s : Nat) : Int) := by
  unfold shl
  rw [Int.toNat_natCast, Nat.min_eq_left (show s ≤ IntKind.u64.bits from hs), wrap_u64]
  have : (x : Int) * 2 ^ s = ((x * 2 ^ s : Nat) : Int) := by simp
  rw [this]
  exact Int.emod_eq_of_lt (Int.natCast_nonneg _) (Int.ofNat_lt.2 hx)
theorem shr_nat {x s : Nat} (hs : s ≤ 64) : shr .u64 (x : Int) (s : Int) = ((x / 2 ^ s : Nat) : Int) := by
  unfold shr
  rw [Int.toNat_natCast, Nat.min_eq_left (show s ≤ IntKind.u64.bits from hs)]
  simp
theorem tdiv_nat (a : Nat) : Int.tdiv (a : Int) 32 = ((a / 32 : Nat) : Int) := by
  rw [Int.tdiv_eq_ediv_of_nonneg (Int.natCast_nonneg _)]; omega
theorem tmod_nat (a : Nat) : Int.tmod (a : Int) 32 = ((a % 32 : Nat) : Int) := by
  rw [Int.tmod_eq_emod_of_nonneg (Int.natCast_nonneg _)]; omega
theorem wrap64_nat {n : Nat} (h : n < 9223372036854775808) : wrap64 (n : Int) = n := wrap64_id (by omega) (by omega)
theorem wrapu_nat {n : Nat} (h : n < 18446744073709551616) : IntKind.u64.wrap (n : Int) = n := by rw [wrap_u64]; omega

/-! Up2 -/
theorem up2_one {c d e s : Nat} (hs : s < 32) (hc : c < 2 ^ s) (hd : d < 4294967296) :
    Go.bits .or .u64 (c : Int) (shl .u64 (IntKind.u64.wrap (d : Int)) (IntKind.u64.wrap (s : Int))) = ((c + d * 2 ^ s : Nat) : Int) ∧ (c + d * 2 ^ s) / 4294967296 < 2 ^ s := by
  have hp : 2 ^ s ≤ 2147483648 := by
    have : (2 : Nat) ^ s ≤ 2 ^ 31 := Nat.pow_le_pow_right (by omega) (by omega)
    simpa using this
  have hb : c + d * 2 ^ s < 4294967296 * 2 ^ s := by
    have : (d + 1) * 2 ^ s ≤ 4294967296 * 2 ^ s := Nat.mul_le_mul_right _ (by omega)
    rw [Nat.add_mul, Nat.one_mul] at this; omega
  refine ⟨?_, Nat.div_lt_of_lt_mul hb⟩
  rw [wrapu_nat (by omega), wrapu_nat (by omega), shl_nat (by omega) (by omega), or_low hc (by omega)]

theorem up2_alg {v P c d S e c' M Q : Nat} (h : v + P * c = Q * M * S) (h2 : e + B32 * c' = c + d * S) : v + P * e + P * B32 * c' = Q * M * S + P * d * S := by
  have e1 : P * e + P * B32 * c' = P * c + P * d * S := by
    rw [Nat.mul_assoc, ← Nat.mul_add, h2, Nat.mul_add, Nat.mul_assoc]
  omega

theorem up2_loop {n q s : Nat} (hn : (lim n).length < 1073741824) (hq : q < 1073741824) (hs : s < 32) (d : Nat) : ∀ (i : Nat) (x : List Int) (c : Nat), (lim n).length - i = d → i ≤ (lim n).length → x.length = q + i → Lb x → c < 2 ^ s →
    nv x + B32 ^ (q + i) * c = B32 ^ q * (n % B32 ^ i) * 2 ^ s → Ev (fun k => fathomref3_Up2.l0 k (lim n) ((32 * q + s : Nat) : Int) x (c : Int) (i : Int)) (lim (n * 2 ^ (32 * q + s))) := by
  have ts : Int.tmod ((32 * q + s : Nat) : Int) 32 = (s : Int) := by rw [tmod_nat]; congr 1; omega
  induction d with
  | zero =>
    intro i x c hd hi hx hl hc hv
    have h1 : ¬ i < (lim n).length := by clear hv; omega
    rw [mod_all h1] at hv
    have hp : 2 ^ s ≤ 2147483648 := by
      have : (2 : Nat) ^ s ≤ 2 ^ 31 := Nat.pow_le_pow_right (by omega) (by clear hv; omega)
      simpa using this
    have hc2 : 0 ≤ (c : Int) % 4294967296 ∧ (c : Int) % 4294967296 < 4294967296 := by clear hv; omega
    have hc3 : ((c : Int) % 4294967296).toNat = c := by clear hv; omega
    have ht := trim_ev (lb_snoc hl hc2) (by rw [List.length_append, hx]; clear hv; simp; omega)
    have e : nv (x ++ [(c : Int) % 4294967296]) = n * 2 ^ (32 * q + s) := by
      rw [nv_snoc, hx, hc3, hv, Nat.pow_add, Nat.pow_mul, ← Nat.mul_assoc, Nat.mul_comm n]
    rw [e] at ht
    have hlim : x.length < 35184372088832 := by clear hv; omega
    refine Ev.step (f := fun k => (fathomref3_Trim.f k (x ++ [(c : Int) % 4294967296])).bind fun t => some t) (fun k => ?_) (Ev.bind ht (Ev.now _))
    simp only [fathomref3_Up2.l0]
    rw [if_neg (fun h => h1 (Int.ofNat_lt.1 h)), if_pos hlim]
  | succ d ih =>
    intro i x c hd hi hx hl hc hv
    have h1 : i < (lim n).length := by clear hv; omega
    have hw : wrap64 ((i : Int) + 1) = ((i + 1 : Nat) : Int) := wrap64_next (by clear hv; omega)
    have hlim : x.length < 35184372088832 := by clear hv hw; omega
    have hi0 : (0 : Int) ≤ (i : Int) := Int.natCast_nonneg _
    have hs0 : (0 : Int) ≤ IntKind.u64.wrap (s : Int) := by rw [wrapu_nat (by clear hv hw; omega)]; exact Int.natCast_nonneg _
    have hd1 : (lim n).length - (i + 1) = d := by clear hv hw; omega
    obtain ⟨hone, hcle⟩ := up2_one (e := 0) hs hc (dg_lt n i)
    obtain ⟨e, c', he, hc'⟩ : ∃ e c' : Nat, e = (c + dg n i * 2 ^ s) % 4294967296 ∧ c' = (c + dg n i * 2 ^ s) / 4294967296 := ⟨_, _, rfl, rfl⟩
    rw [← hc'] at hcle
    have hsum : e + B32 * c' = c + dg n i * 2 ^ s := by rw [he, hc']; exact Nat.mod_add_div _ _
    have helt : e < 4294967296 := by rw [he]; exact Nat.mod_lt _ (by decide)
    have hval : nv (x ++ [(e : Int)]) + B32 ^ (q + (i + 1)) * c' = B32 ^ q * (n % B32 ^ (i + 1)) * 2 ^ s := by
      rw [nv_snoc, hx, mod_step, Int.toNat_natCast, ← Nat.add_assoc q i 1, Nat.pow_succ, up2_alg hv hsum, Nat.pow_add, Nat.mul_add, Nat.add_mul, ← Nat.mul_assoc]
    have hstep := ih (i + 1) (x ++ [(e : Int)]) c' hd1 h1 (by rw [List.length_append, hx]; rfl) (lb_snoc hl ⟨Int.natCast_nonneg _, Int.ofNat_lt.2 helt⟩) hcle hval
    clear ih hval hv hl hsum hcle helt
    refine Ev.step (fun k => ?_) hstep
    simp only [fathomref3_Up2.l0, rd_lim, hw, ts]
    rw [if_pos (Int.ofNat_lt.2 h1), if_pos hi0, if_pos hs0, if_pos hlim, hone]
    have g1 : ((c + dg n i * 2 ^ s : Nat) : Int) % 4294967296 = (e : Int) := by rw [he]; rfl
    have g2 : ((c + dg n i * 2 ^ s : Nat) : Int) / 4294967296 = (c' : Int) := by rw [hc']; rfl
    rw [g1, g2]

/-- Up2: times a power of 2. -/
theorem up2_ev {n a : Nat} (hn : (lim n).length < 1073741824) (ha : a < 1073741824) : Ev (fun k => fathomref3_Up2.f k (lim n) (a : Int)) (lim (n * 2 ^ a)) := by
  rcases Nat.eq_zero_or_pos n with rfl | h0
  · refine Ev.congr (f := fun _ => some []) (fun k => ?_) ?_
    · unfold fathomref3_Up2.f; rw [lim_zero]; rfl
    · rw [Nat.zero_mul, lim_zero]; exact Ev.now _
  · have hl : 0 < (lim n).length := (len_lim n 0).2 (by rw [Nat.pow_zero]; exact h0)
    have hd : 32 * (a / 32) + a % 32 = a := by omega
    have := up2_loop (q := a / 32) (s := a % 32) hn (by omega) (by omega) _ 0 (List.replicate (a / 32) 0) 0 rfl (by omega) (by simp) (lb_zeros _) (Nat.two_pow_pos _) (by rw [nv_zeros]; simp [Nat.mod_one])
    rw [hd] at this
    refine Ev.congr (fun k => ?_) this
    unfold fathomref3_Up2.f
    rw [if_neg (by omega), tdiv_nat, wrap64_nat (by omega), if_pos (by omega), if_pos (by omega)]
    rfl

/-! Times -/
theorem nv_set {l : List Int} {i : Nat} (hi : i < l.length) (v : Int) : nv (l.set i v) + B32 ^ i * (rd l (i : Int)).toNat = nv l + B32 ^ i * v.toNat := by
  unfold rd
  rw [Int.toNat_natCast]
  induction l generalizing i with
  | nil => simp at hi
  | cons x l ih =>
    cases i with
    | zero => simp [nv]; omega
    | succ i =>
      have := ih (i := i) (by simpa using hi)
      simp only [List.set_cons_succ, nv, List.getD_cons_succ, Nat.pow_succ]
      rw [Nat.mul_comm (B32 ^ i), Nat.mul_assoc, Nat.mul_assoc, Nat.add_assoc, ← Nat.mul_add, this, Nat.mul_add, Nat.add_assoc]

theorem lb_set {l : List Int} (h : Lb l) (i : Nat) {v : Int} (hv : 0 ≤ v ∧ v < 4294967296) : Lb (l.set i v) := by
  intro x hx
  rcases List.mem_or_eq_of_mem_set hx with h1 | h1
  · exact h x h1
  · rw [h1]; exact hv

theorem rd_set_ne {l : List Int} {i j : Nat} (h : i ≠ j) (v : Int) : rd (l.set i v) (j : Int) = rd l (j : Int) := by
  unfold rd
  rw [Int.toNat_natCast, List.getD_eq_getElem?_getD, List.getD_eq_getElem?_getD, List.getElem?_set_ne h]

theorem times_one {c u d w : Nat} (hc : c < 4294967296) (hu : u < 4294967296) (hd : d < 4294967296) (hw : w < 4294967296) :
    IntKind.u64.wrap (IntKind.u64.wrap ((c : Int) + IntKind.u64.wrap (u : Int)) + IntKind.u64.wrap (IntKind.u64.wrap (d : Int) * IntKind.u64.wrap (w : Int))) = ((c + u + d * w : Nat) : Int) ∧ (c + u + d * w) / 4294967296 < 4294967296 := by
  have hm : d * w ≤ 4294967295 * 4294967295 := Nat.mul_le_mul (by omega) (by omega)
  rw [wrapu_nat (by omega), wrapu_nat (by omega), wrapu_nat (by omega)]
  have e : (d : Int) * (w : Int) = ((d * w : Nat) : Int) := by simp
  rw [e]
  generalize d * w = p at *
  rw [wrapu_nat (by omega)]
  simp only [wrap_u64]
  omega

theorem times_alg {v' v P u c e c' d w A B C : Nat} (hset : v' + P * u = v + P * e) (h : v + P * c = A + B * d * C) (hP : True) (h2 : e + B32 * c' = c + u + d * w) : v' + P * B32 * c' = A + (B * d * C + P * (d * w)) := by
  have e1 : P * e + P * B32 * c' = P * c + P * u + P * (d * w) := by
    rw [Nat.mul_assoc, ← Nat.mul_add, h2, Nat.mul_add, Nat.mul_add]
  omega

theorem times_in {a b i : Nat} (ha : (lim a).length < 1073741824) (hb : (lim b).length < 1073741824) (hi : i < (lim a).length) {res : List Int}
    (next : ∀ x : List Int, x.length = (lim a).length + (lim b).length → Lb x → (∀ j, i + 1 + (lim b).length ≤ j → rd x (j : Int) = 0) → nv x = a % B32 ^ (i + 1) * b → Ev (fun k => fathomref3_Times.l0 k (lim a) (lim b) x ((i + 1 : Nat) : Int)) res)
    (d : Nat) : ∀ (j : Nat) (x : List Int) (c : Nat), (lim b).length - j = d → j ≤ (lim b).length → x.length = (lim a).length + (lim b).length → Lb x → c < 4294967296 → (∀ j, i + (lim b).length ≤ j → rd x (j : Int) = 0) →
    nv x + B32 ^ (i + j) * c = a % B32 ^ i * b + B32 ^ i * dg a i * (b % B32 ^ j) → Ev (fun k => fathomref3_Times.l1 k (lim a) (lim b) x (i : Int) (c : Int) (j : Int)) res := by
  have hi0 : (0 : Int) ≤ (i : Int) := Int.natCast_nonneg _
  have hw0 : wrap64 ((i : Int) + 1) = ((i + 1 : Nat) : Int) := wrap64_next (by omega)
  induction d with
  | zero =>
    intro j x c hd hj hx hl hc hz hv
    have h1 : ¬ j < (lim b).length := by clear hv hz next; omega
    have hjb : j = (lim b).length := by clear hv hz next; omega
    rw [mod_all h1] at hv
    have hlt : i + (lim b).length < x.length := by clear hv hz next; omega
    have hset := nv_set hlt (c : Int)
    rw [hz _ (Nat.le_refl _), Int.toNat_natCast, show (0 : Int).toNat = 0 from rfl, Nat.mul_zero, Nat.add_zero] at hset
    rw [hjb] at hv
    have hval : nv (x.set (i + (lim b).length) (c : Int)) = a % B32 ^ (i + 1) * b := by
      rw [hset, hv, mod_step, Nat.add_mul]
    have hstep := next (x.set (i + (lim b).length) (c : Int)) (by rw [List.length_set, hx]) (lb_set hl _ ⟨Int.natCast_nonneg _, Int.ofNat_lt.2 hc⟩) (fun j hj => by
      rw [rd_set_ne (by clear hv hz next hval hset; omega)]
      exact hz j (by clear hv hz next hval hset; omega)) hval
    clear next hval hset hv hz
    refine Ev.step (fun k => ?_) hstep
    have hw1 : wrap64 ((i : Int) + ((lim b).length : Int)) = ((i + (lim b).length : Nat) : Int) := by
      rw [← Int.natCast_add]; exact wrap64_nat (by omega)
    simp only [fathomref3_Times.l1, hw0, hw1]
    rw [if_neg (fun h => h1 (Int.ofNat_lt.1 h)), if_pos (Int.natCast_nonneg _), if_pos (Int.ofNat_lt.2 hlt), Int.toNat_natCast]
    have g : (c : Int) % 4294967296 = c := Int.emod_eq_of_lt (Int.natCast_nonneg _) (by omega)
    rw [g]
  | succ d ih =>
    intro j x c hd hj hx hl hc hz hv
    have h1 : j < (lim b).length := by clear hv hz next; omega
    have hlt : i + j < x.length := by clear hv hz next; omega
    have hw : wrap64 ((j : Int) + 1) = ((j + 1 : Nat) : Int) := wrap64_next (by clear hv hz next; omega)
    have hij : i + j < 9223372036854775808 := by clear hv hz next hw hw0; omega
    have hw1 : wrap64 ((i : Int) + (j : Int)) = ((i + j : Nat) : Int) := by
      rw [← Int.natCast_add]; exact wrap64_nat hij
    have hd1 : (lim b).length - (j + 1) = d := by clear hv hz next hw hw0 hw1; omega
    have hne : ∀ m, i + (lim b).length ≤ m → i + j ≠ m := by clear hv hz next hw hw0 hw1; omega
    have hu := dg_lt (nv x) (i + j)
    have hru := rd_nv hl (i + j)
    obtain ⟨hone, hcle⟩ := times_one hc hu (dg_lt a i) (dg_lt b j)
    obtain ⟨u, hu2⟩ : ∃ u, u = dg (nv x) (i + j) := ⟨_, rfl⟩
    rw [← hu2] at hu hru hone hcle
    obtain ⟨e, c', he, hc'⟩ : ∃ e c' : Nat, e = (c + u + dg a i * dg b j) % 4294967296 ∧ c' = (c + u + dg a i * dg b j) / 4294967296 := ⟨_, _, rfl, rfl⟩
    rw [← hc'] at hcle
    have hsum : e + B32 * c' = c + u + dg a i * dg b j := by rw [he, hc']; exact Nat.mod_add_div _ _
    have helt : e < 4294967296 := by rw [he]; exact Nat.mod_lt _ (by decide)
    have hset := nv_set hlt (e : Int)
    rw [hru, Int.toNat_natCast, Int.toNat_natCast] at hset
    have hval : nv (x.set (i + j) (e : Int)) + B32 ^ (i + (j + 1)) * c' = a % B32 ^ i * b + B32 ^ i * dg a i * (b % B32 ^ (j + 1)) := by
      rw [mod_step, ← Nat.add_assoc i j 1, Nat.pow_succ, times_alg hset hv trivial hsum, Nat.mul_add, Nat.pow_add]
      congr 2
      rw [Nat.mul_assoc, Nat.mul_assoc, Nat.mul_left_comm (B32 ^ j)]
    have hstep := ih (j + 1) (x.set (i + j) (e : Int)) c' hd1 h1 (by rw [List.length_set, hx]) (lb_set hl _ ⟨Int.natCast_nonneg _, Int.ofNat_lt.2 helt⟩) hcle (fun m hm => by
      rw [rd_set_ne (hne m hm)]
      exact hz m hm) hval
    clear ih hval hv hl hsum hcle helt hset hz next hu2
    refine Ev.step (fun k => ?_) hstep
    simp only [fathomref3_Times.l1, rd_lim, hw, hw1, hru]
    rw [if_pos (Int.ofNat_lt.2 h1), if_pos (Int.natCast_nonneg _), if_pos (Int.ofNat_lt.2 hlt), if_pos hi0, if_pos (Int.ofNat_lt.2 hi), if_pos (Int.natCast_nonneg _), hone, Int.toNat_natCast]
    have g1 : ((c + u + dg a i * dg b j : Nat) : Int) % 4294967296 = (e : Int) := by rw [he]; rfl
    have g2 : ((c + u + dg a i * dg b j : Nat) : Int) / 4294967296 = (c' : Int) := by rw [hc']; rfl
    rw [g1, g2]

theorem times_out {a b : Nat} (ha : (lim a).length < 1073741824) (hb : (lim b).length < 1073741824) (d : Nat) : ∀ (i : Nat) (x : List Int), (lim a).length - i = d → i ≤ (lim a).length → x.length = (lim a).length + (lim b).length → Lb x → (∀ j, i + (lim b).length ≤ j → rd x (j : Int) = 0) →
    nv x = a % B32 ^ i * b → Ev (fun k => fathomref3_Times.l0 k (lim a) (lim b) x (i : Int)) (lim (a * b)) := by
  induction d with
  | zero =>
    intro i x hd hi hx hl hz hv
    have h1 : ¬ i < (lim a).length := by clear hv hz; omega
    rw [mod_all h1] at hv
    have ht := trim_ev hl (by clear hv hz; omega)
    rw [hv] at ht
    refine Ev.step (f := fun k => (fathomref3_Trim.f k x).bind fun t => some t) (fun k => ?_) (Ev.bind ht (Ev.now _))
    simp only [fathomref3_Times.l0]
    rw [if_neg (fun h => h1 (Int.ofNat_lt.1 h))]
  | succ d ih =>
    intro i x hd hi hx hl hz hv
    have h1 : i < (lim a).length := by clear hv hz ih; omega
    refine Ev.step (f := fun k => fathomref3_Times.l1 k (lim a) (lim b) x (i : Int) 0 0) (fun k => ?_) ?_
    · simp only [fathomref3_Times.l0]
      rw [if_pos (Int.ofNat_lt.2 h1)]
    · exact times_in ha hb h1 (fun y hy hly hzy hvy => ih (i + 1) y (by clear hv hz hvy hzy; omega) h1 hy hly hzy hvy) _ 0 x 0 rfl (Nat.zero_le _) hx hl (by decide) hz (by rw [hv]; simp [Nat.mod_one])

/-- Times. -/
theorem times_ev {a b : Nat} (ha : (lim a).length < 1073741824) (hb : (lim b).length < 1073741824) : Ev (fun k => fathomref3_Times.f k (lim a) (lim b)) (lim (a * b)) := by
  have := times_out ha hb _ 0 (List.replicate ((lim a).length + (lim b).length) 0) rfl (Nat.zero_le _) (by simp) (lb_zeros _) (fun j _ => by
    unfold rd; rw [Int.toNat_natCast, List.getD_eq_getElem?_getD, List.getElem?_replicate]; split <;> rfl) (by rw [nv_zeros]; simp [Nat.mod_one])
  refine Ev.congr (fun k => ?_) this
  have hw1 : wrap64 (((lim a).length : Int) + ((lim b).length : Int)) = (((lim a).length + (lim b).length : Nat) : Int) := by
    rw [← Int.natCast_add]; exact wrap64_nat (by omega)
  unfold fathomref3_Times.f
  rw [hw1, if_pos (Int.natCast_nonneg _), Int.toNat_natCast, if_pos (by omega)]
  rfl
end
end Go.Proofs.Ytfloeiagdegpjaa.Q
namespace Go.Proofs.Ytfloeiagdegpjaa.Q
section
open Go.RowKit Go.Proofs.YtfloeiagdegpjaaW.PrintWords Go.Proofs.Ytfloeiagdegpjaa.Rf
set_option linter.unusedVariables false
set_option linter.unusedSimpArgs false

theorem and_mask {k : Nat} {x : Int} (h0 : 0 ≤ x) (h1 : x < 18446744073709551616) (hk : k < 64) {m : Int} (hm : m = ((2 ^ k - 1 : Nat) : Int)) : Go.bits .and .u64 x m = ((x.toNat % 2 ^ k : Nat) : Int) := by
  have hp : 2 ^ k ≤ 2 ^ 63 := Nat.pow_le_pow_right (by omega) (by omega)
  have hq : 2 ^ 63 = 9223372036854775808 := by decide
  have hr := Nat.two_pow_pos k
  rw [hm, u64_and _ _ h0 h1 (by omega) (by omega), Int.toNat_natCast, Nat.and_two_pow_sub_one_eq_mod]

/-- A double's number in least places. -/
def dv (x : Int) : Nat := _root_.Fl.val Ieee.double (x.toNat % 9223372036854775808)

theorem dv_lt (x : Int) : dv x < 2 ^ 2100 := by
  unfold dv
  have h : x.toNat % 9223372036854775808 ≤ 9223372036854775807 := by omega
  refine Nat.lt_of_le_of_lt (_root_.Fl.val_mono Ieee.double h) ?_
  decide +kernel

theorem len_pow {n k : Nat} (h : n < 2 ^ k) (hk : k < 30000000) : (lim n).length < 1073741824 := by
  have e : B32 ^ (k / 32 + 1) = 2 ^ (32 * (k / 32 + 1)) := by rw [Nat.pow_mul]
  have : n < B32 ^ (k / 32 + 1) := by
    rw [e]
    exact Nat.lt_of_lt_of_le h (Nat.pow_le_pow_right (by omega) (by omega))
  have := len_le this
  omega

theorem p1075 : (2 : Nat) ^ 1075 = 2 * 2 ^ 1074 := by decide +kernel
theorem p1076 : (2 : Nat) ^ 1076 = 4 * 2 ^ 1074 := by decide +kernel

theorem len_dv (x : Int) : (lim (dv x)).length < 1073741824 := len_pow (dv_lt x) (by omega)

theorem dv_small {x : Int} (h : x.toNat % 9223372036854775808 < 4503599627370496) : dv x = x.toNat % 4503599627370496 := by
  unfold dv _root_.Fl.val
  have hb : Ieee.double.binade = 4503599627370496 := by decide
  rw [hb, if_pos h]
  omega

theorem dv_great {x : Int} (h : ¬ x.toNat % 9223372036854775808 < 4503599627370496) : dv x = (x.toNat % 4503599627370496 + 4503599627370496) * 2 ^ (x.toNat / 4503599627370496 % 2048 - 1) := by
  unfold dv _root_.Fl.val
  have hb : Ieee.double.binade = 4503599627370496 := by decide
  rw [hb, if_neg h]
  have e1 : x.toNat % 9223372036854775808 % 4503599627370496 = x.toNat % 4503599627370496 := by omega
  have e2 : x.toNat % 9223372036854775808 / 4503599627370496 = x.toNat / 4503599627370496 % 2048 := by omega
  rw [e1, e2, Nat.add_comm]

theorem units_ev {x : Int} (h0 : 0 ≤ x) (h1 : x < 18446744073709551616) : Ev (fun k => fathomlaw3_units.f k x) (lim (dv x)) := by
  have m1 : Go.bits .and .u64 (x / 4503599627370496) 2047 = ((x.toNat / 4503599627370496 % 2048 : Nat) : Int) := by
    rw [and_mask (k := 11) (by omega) (by omega) (by omega) (by decide)]
    congr 2; omega
  have m2 : Go.bits .and .u64 x 4503599627370495 = ((x.toNat % 4503599627370496 : Nat) : Int) :=
    and_mask (k := 52) h0 h1 (by omega) (by decide)
  have m3 : Go.bits .or .u64 ((x.toNat % 4503599627370496 : Nat) : Int) 4503599627370496 = ((x.toNat % 4503599627370496 + 4503599627370496 : Nat) : Int) :=
    or_low (k := 52) (a := x.toNat % 4503599627370496) (b := 1) (Nat.mod_lt _ (by decide)) (by omega)
  by_cases h : x.toNat % 9223372036854775808 < 4503599627370496
  · have hof := of_ev (a := ((x.toNat % 4503599627370496 : Nat) : Int)) (Int.natCast_nonneg _) (by omega)
    rw [Int.toNat_natCast] at hof
    rw [dv_small h]
    refine Ev.congr (fun k => ?_) (Ev.bind hof (Ev.now _))
    unfold fathomlaw3_units.f
    rw [m1, if_pos (by omega), m2]
  · have hof := of_ev (a := ((x.toNat % 4503599627370496 + 4503599627370496 : Nat) : Int)) (Int.natCast_nonneg _) (by omega)
    rw [Int.toNat_natCast] at hof
    have hlen : (lim (x.toNat % 4503599627370496 + 4503599627370496)).length < 1073741824 := len_pow (k := 64) (by omega) (by omega)
    have hup := up2_ev (n := x.toNat % 4503599627370496 + 4503599627370496) (a := x.toNat / 4503599627370496 % 2048 - 1) hlen (by omega)
    rw [← dv_great h] at hup
    refine Ev.congr (fun k => ?_) (Ev.bind (f := fun k t => (fathomref3_Up2.f k t ((x.toNat / 4503599627370496 % 2048 - 1 : Nat) : Int)).bind some) hof (Ev.bind hup (Ev.now _)))
    unfold fathomlaw3_units.f
    have hw : wrap64 (wrap64 ((x.toNat / 4503599627370496 % 2048 : Nat) : Int) - 1) = ((x.toNat / 4503599627370496 % 2048 - 1 : Nat) : Int) := by
      rw [wrap64_nat (n := x.toNat / 4503599627370496 % 2048) (by omega), wrap64_id (by omega) (by omega)]; omega
    rw [m1, if_neg (by omega), m2, m3, hw]

theorem top_ev {x : Int} (h0 : 0 ≤ x) (h1 : x < 18446744073709551616) : Ev (fun k => fathomlaw3_top.f k x) (lim (dv x)) := by
  by_cases h : x = 9218868437227405312
  · have hof := of_ev (a := 1) (by omega) (by omega)
    have hup := up2_ev (n := 1) (a := 2098) (len_pow (k := 1) (by omega) (by omega)) (by omega)
    have e : dv x = 1 * 2 ^ 2098 := by rw [h]; decide +kernel
    rw [e]
    refine Ev.congr (fun k => ?_) (Ev.bind (f := fun k t => (fathomref3_Up2.f k t 2098).bind some) hof (Ev.bind hup (Ev.now _)))
    unfold fathomlaw3_top.f
    rw [if_pos h]
  · refine Ev.congr (fun k => ?_) (Ev.bind (units_ev h0 h1) (Ev.now _))
    unfold fathomlaw3_top.f
    rw [if_neg h]

/-! Between the middles -/
theorem inf_double : Ieee.double.infRung = 9218868437227405312 := by decide
theorem sign_double : Ieee.double.signWeight = 9223372036854775808 := by decide
theorem least_double : Ieee.double.leastPlace = -1074 := by decide

theorem word_plus (r : Nat) : Ieee.double.word false r = r := by simp [Ieee.Format.word]

theorem read_plus {x : Nat} (hx : x < 9218868437227405312) : ∃ m p, Ieee.double.read x = .number false m p ∧ -1074 ≤ p ∧ _root_.Fl.val Ieee.double x = m * 2 ^ (p + 1074).toNat := by
  obtain ⟨m, p, h1, h2, h3, _⟩ := _root_.Fl.read_fin _root_.Fl.good_double x (by rw [sign_double, inf_double]; omega)
  rw [sign_double] at h1 h3
  have e1 : x % 9223372036854775808 = x := by omega
  have e2 : (x / 9223372036854775808 % 2 == 1) = false := by
    have : x / 9223372036854775808 = 0 := by omega
    rw [this]; rfl
  rw [e2] at h1
  rw [e1, least_double] at h3
  rw [least_double] at h2
  exact ⟨m, p, h1, h2, by rw [h3]; congr 2⟩

theorem div_between {x y : Nat} (hx : x < 9218868437227405312) (hy : y < 9218868437227405312) (hy0 : y ≠ 0) :
    ∃ r, r ≤ 9218868437227405312 ∧ Ieee.double.div x y = some r ∧
      (0 < r → (_root_.Fl.val Ieee.double r + _root_.Fl.val Ieee.double (r - 1)) * _root_.Fl.val Ieee.double y ≤ _root_.Fl.val Ieee.double x * 2 ^ 1075) ∧
      (r < 9218868437227405312 → _root_.Fl.val Ieee.double x * 2 ^ 1075 ≤ (_root_.Fl.val Ieee.double r + _root_.Fl.val Ieee.double (r + 1)) * _root_.Fl.val Ieee.double y) := by
  obtain ⟨m, i, rx, hi, vx⟩ := read_plus hx
  obtain ⟨n, j, ry, hj, vy⟩ := read_plus hy
  have hn : 0 < n := by
    rcases Nat.eq_zero_or_pos n with h | h
    · exfalso
      rw [h, Nat.zero_mul] at vy
      have := _root_.Fl.val_pos (f := Ieee.double) (r := y) (by omega)
      omega
    · exact h
  obtain ⟨r, h1, h2⟩ := _root_.Fl.div_numbers Ieee.double (by decide) false false m n i j hn
  have hle := h2.le
  rw [inf_double] at hle
  have hab : (((i + 1074).toNat + 1074 : Nat) : Int) - ((j + 1074).toNat : Nat) = i - j - Ieee.double.leastPlace := by rw [least_double]; omega
  refine ⟨r, hle, ?_, fun h => ?_, fun h => ?_⟩
  · show ((Ieee.double.read x).quotient (Ieee.double.fractionBits + 2) (Ieee.double.read y)).map Ieee.double.write = _
    rw [rx, ry, h1]
    exact congrArg some (word_plus r)
  · have := (_root_.Fl.frac_lo Ieee.double m n (i - j) hn hab _).1 (h2.low h).1
    rw [Nat.mul_assoc, ← vy] at this
    refine Nat.le_trans (Nat.le_of_eq ?_) (Nat.le_trans this (Nat.le_of_eq ?_))
    · rw [Nat.add_comm]
    · rw [vx, Nat.pow_add, p1075]
      generalize (2 : Nat) ^ 1074 = P
      simp only [Nat.mul_assoc, Nat.mul_left_comm, Nat.mul_comm]
  · have := (_root_.Fl.frac_hi Ieee.double m n (i - j) hn hab _).1 (h2.high (by rw [inf_double]; exact h)).1
    rw [Nat.mul_assoc _ n, ← vy] at this
    refine Nat.le_trans (Nat.le_of_eq ?_) this
    rw [vx, Nat.pow_add, p1075]
    generalize (2 : Nat) ^ 1074 = P
    simp only [Nat.mul_assoc, Nat.mul_left_comm, Nat.mul_comm]

theorem no_root {v P : Nat} (hv : 0 < v) (hP : 1 < P) (h : v * P ≤ 1 * 1) : False := by
  have : 1 * P ≤ v * P := Nat.mul_le_mul_right _ hv
  omega

theorem sqrt_between {x : Nat} (hx : x < 9218868437227405312) (hx0 : x ≠ 0) :
    ∃ r, 0 < r ∧ r < 9218868437227405312 ∧ Ieee.double.sqrt x = some r ∧
      (_root_.Fl.val Ieee.double r + _root_.Fl.val Ieee.double (r - 1)) * (_root_.Fl.val Ieee.double r + _root_.Fl.val Ieee.double (r - 1)) ≤ _root_.Fl.val Ieee.double x * 2 ^ 1076 ∧
      _root_.Fl.val Ieee.double x * 2 ^ 1076 ≤ (_root_.Fl.val Ieee.double r + _root_.Fl.val Ieee.double (r + 1)) * (_root_.Fl.val Ieee.double r + _root_.Fl.val Ieee.double (r + 1)) := by
  obtain ⟨m, i, rx, hi, vx⟩ := read_plus hx
  have hm : 0 < m := by
    rcases Nat.eq_zero_or_pos m with h | h
    · exfalso
      rw [h, Nat.zero_mul] at vx
      have := _root_.Fl.val_pos (f := Ieee.double) (r := x) (by omega)
      omega
    · exact h
  obtain ⟨r, h1, h2⟩ := _root_.Fl.sqrt_number Ieee.double (by decide) m i hm
  have hle := h2.le
  rw [inf_double] at hle
  have hab : (((i + 1074).toNat + 1074 : Nat) : Int) - (0 : Nat) = i - 2 * Ieee.double.leastPlace := by rw [least_double]; omega
  have e : 4 * m * 2 ^ ((i + 1074).toNat + 1074) = _root_.Fl.val Ieee.double x * 2 ^ 1076 := by
    rw [vx, Nat.pow_add, p1076]
    generalize (2 : Nat) ^ 1074 = P
    simp only [Nat.mul_assoc, Nat.mul_left_comm, Nat.mul_comm]
  have lo : ∀ c, (_root_.Fl.rootOf Ieee.double m i).lo c → c * c ≤ _root_.Fl.val Ieee.double x * 2 ^ 1076 := fun c h => by
    have := (_root_.Fl.rootOf_lo Ieee.double m i hab c).1 h
    rw [Nat.pow_zero, Nat.mul_one, e] at this; exact this
  have hi' : ∀ c, (_root_.Fl.rootOf Ieee.double m i).hi c → _root_.Fl.val Ieee.double x * 2 ^ 1076 ≤ c * c := fun c h => by
    have := (_root_.Fl.rootOf_hi Ieee.double m i hab c).1 h
    rw [Nat.pow_zero, Nat.mul_one, e] at this; exact this
  have hr0 : 0 < r := by
    rcases Nat.eq_zero_or_pos r with h | h
    · exfalso
      have := hi' _ (h2.high (by rw [h, inf_double]; decide)).1
      rw [h] at this
      have e1 : _root_.Fl.val Ieee.double 0 + _root_.Fl.val Ieee.double (0 + 1) = 1 := by decide +kernel
      rw [e1] at this
      have hp := _root_.Fl.val_pos (f := Ieee.double) (r := x) (by omega)
      exact no_root hp (by decide +kernel) this
    · exact h
  have hr1 : r < 9218868437227405312 := by
    rcases Nat.lt_or_ge r 9218868437227405312 with h | h
    · exact h
    · exfalso
      have hr : r = Ieee.double.infRung := by rw [inf_double]; omega
      have h3 := lo _ (h2.low hr0).1
      have h4 : _root_.Fl.val Ieee.double r * _root_.Fl.val Ieee.double r ≤ _root_.Fl.val Ieee.double x * 2 ^ 1076 :=
        Nat.le_trans (Nat.mul_le_mul (Nat.le_add_left _ _) (Nat.le_add_left _ _)) h3
      rw [hr, _root_.Fl.val_inf_double] at h4
      have h5 : _root_.Fl.val Ieee.double x ≤ 2 ^ 2098 := by
        rw [← _root_.Fl.val_inf_double]
        exact _root_.Fl.val_mono Ieee.double (by rw [inf_double]; omega)
      have h6 := Nat.le_trans h4 (Nat.mul_le_mul_right _ h5)
      have h7 : ¬ 2 ^ 2098 * 2 ^ 2098 ≤ 2 ^ 2098 * 2 ^ 1076 := by decide +kernel
      exact h7 h6
  refine ⟨r, hr0, hr1, ?_, ?_, ?_⟩
  · show ((Ieee.double.read x).root (Ieee.double.fractionBits + 2)).map Ieee.double.write = _
    rw [rx, h1]
    exact congrArg some (word_plus r)
  · have := lo _ (h2.low hr0).1
    rw [Nat.add_comm] at this; exact this
  · exact hi' _ (h2.high (by rw [inf_double]; exact hr1)).1
end
end Go.Proofs.Ytfloeiagdegpjaa.Q
namespace Go.Proofs.Ytfloeiagdegpjaa.Q
section
open Go.RowKit Go.Proofs.YtfloeiagdegpjaaW.PrintWords Go.Proofs.Ytfloeiagdegpjaa.Rf
set_option linter.unusedVariables false
set_option linter.unusedSimpArgs false

theorem dg_at0 (n : Nat) : dg n 0 = n % 4294967296 := by unfold dg; rw [Nat.pow_zero, Nat.div_one]
theorem dg_at1 (n : Nat) : dg n 1 = n / 4294967296 % 4294967296 := by unfold dg; rw [Nat.pow_one]
theorem rd_lim0 (n : Nat) : rd (lim n) 0 = (dg n 0 : Nat) := rd_lim n 0
theorem rd_lim1 (n : Nat) : rd (lim n) 1 = (dg n 1 : Nat) := rd_lim n 1

theorem pair64 {u v : Nat} (hu : u < 4294967296) (hv : v < 4294967296) : Go.bits .or .u64 (IntKind.u64.wrap (u : Int)) (IntKind.u64.wrap (IntKind.u64.wrap (v : Int) * 4294967296)) = ((u + v * 4294967296 : Nat) : Int) := by
  rw [wrapu_nat (n := u) (by omega), wrapu_nat (n := v) (by omega)]
  have e : (v : Int) * 4294967296 = ((v * 2 ^ 32 : Nat) : Int) := by omega
  rw [e, wrapu_nat (by omega)]
  exact or_low (k := 32) hu (by omega)

/-- Low64: the lowest 64 bits. -/
theorem low64_eq (n : Nat) : fathomref3_Low64.f (lim n) = some ((n % 18446744073709551616 : Nat) : Int) := by
  have l0 := len_lim n 0
  have l1 := len_lim n 1
  rw [Nat.pow_zero] at l0
  rw [Nat.pow_one] at l1
  have e : B32 = 4294967296 := rfl
  rw [e] at l1
  have d0 := dg_at0 n
  have d1 := dg_at1 n
  unfold fathomref3_Low64.f
  by_cases h1 : 1 < (lim n).length
  · rw [if_pos (by omega), if_pos (by omega), if_pos (by omega), if_pos (by omega), rd_lim0, rd_lim1, pair64 (dg_lt n 0) (dg_lt n 1), d0, d1]
    congr 2; omega
  · by_cases h0 : 0 < (lim n).length
    · rw [if_pos (by omega), if_pos (by omega), if_neg (by omega), rd_lim0, wrapu_nat (by omega), d0]
      congr 2; omega
    · rw [if_neg (by omega), if_neg (by omega)]
      congr 1; omega

/-! Down2 -/
theorem shl32_one {s : Nat} (hs : s < 32) : (shl .u32 1 (s : Int) - 1) % 4294967296 = ((2 ^ s - 1 : Nat) : Int) := by
  have hp : 2 ^ s ≤ 2147483648 := by
    have : (2 : Nat) ^ s ≤ 2 ^ 31 := Nat.pow_le_pow_right (by omega) (by omega)
    simpa using this
  have h0 := Nat.two_pow_pos s
  unfold shl
  rw [Int.toNat_natCast, Nat.min_eq_left (show s ≤ IntKind.u32.bits from by have : IntKind.u32.bits = 32 := rfl; omega), wrap_u32]
  have : (1 : Int) * 2 ^ s = ((2 ^ s : Nat) : Int) := by simp
  rw [this]
  omega

theorem and32_mask {u s : Nat} (hu : u < 4294967296) (hs : s < 32) : Go.bits .and .u32 (u : Int) ((2 ^ s - 1 : Nat) : Int) = ((u % 2 ^ s : Nat) : Int) := by
  have hp : 2 ^ s ≤ 2147483648 := by
    have : (2 : Nat) ^ s ≤ 2 ^ 31 := Nat.pow_le_pow_right (by omega) (by omega)
    simpa using this
  have h0 := Nat.two_pow_pos s
  rw [u32_and _ _ (by omega) (by omega) (by omega) (by omega), Int.toNat_natCast, Int.toNat_natCast, Nat.and_two_pow_sub_one_eq_mod]

theorem b32_split {s : Nat} (hs : s ≤ 32) : B32 = 2 ^ s * 2 ^ (32 - s) := by
  rw [← Nat.pow_add, show s + (32 - s) = 32 by omega]

theorem dg_low {n q s : Nat} (hs : s ≤ 32) : dg n q % 2 ^ s = n / B32 ^ q % 2 ^ s := by
  unfold dg
  rw [b32_split hs]
  exact Nat.mod_mul_right_mod _ _ _

theorem low_mod {n q s : Nat} (hs : s ≤ 32) : n % 2 ^ (32 * q + s) = n % B32 ^ q + B32 ^ q * (dg n q % 2 ^ s) := by
  have e : (2 : Nat) ^ (32 * q + s) = B32 ^ q * 2 ^ s := by rw [Nat.pow_add, Nat.pow_mul]
  rw [e, Nat.mod_mul, dg_low hs]

theorem down_digit {n i s : Nat} (hs : s < 32) : (dg n i + dg n (i + 1) * 4294967296) / 2 ^ s % 4294967296 = n / B32 ^ i / 2 ^ s % 4294967296 := by
  have e1 : dg n (i + 1) = n / B32 ^ i / B32 % B32 := by unfold dg; rw [Nat.pow_succ, ← Nat.div_div_eq_div_mul]
  have e0 : dg n i = n / B32 ^ i % B32 := rfl
  rw [e0, e1]
  generalize n / B32 ^ i = m
  have hb := b32_split (s := s) (by omega)
  have hp := Nat.two_pow_pos s
  have hm : m = m % B32 + m / B32 % B32 * 4294967296 + 2 ^ s * (2 ^ (32 - s) * (B32 * (m / B32 / B32))) := by
    have h1 := Nat.mod_add_div m B32
    have h2 := Nat.mod_add_div (m / B32) B32
    rw [← Nat.mul_assoc (2 ^ s), ← hb]
    have e : B32 = 4294967296 := rfl
    rw [e] at h1 h2 ⊢
    omega
  generalize hu : m % B32 + m / B32 % B32 * 4294967296 = u at *
  rw [hm, Nat.add_mul_div_left _ _ hp]
  have : 2 ^ (32 - s) * (B32 * (m / B32 / B32)) = 4294967296 * (2 ^ (32 - s) * (m / B32 / B32)) := by
    rw [Nat.mul_left_comm]
  rw [this, Nat.add_mul_mod_self_left]

theorem dg_down {n q s j : Nat} : dg (n / 2 ^ (32 * q + s)) j = n / B32 ^ (q + j) / 2 ^ s % 4294967296 := by
  unfold dg
  rw [Nat.div_div_eq_div_mul, Nat.div_div_eq_div_mul]
  congr 2
  rw [Nat.pow_add, Nat.pow_mul, Nat.pow_add, Nat.mul_assoc, Nat.mul_assoc]
  congr 1
  exact Nat.mul_comm _ _

theorem down_limbs {n q s : Nat} (hn : (lim n).length < 1073741824) (hq : q < 1073741824) (hs : s < 32) (st : Bool) (d : Nat) : ∀ (j : Nat) (x : List Int), (lim n).length - (q + j) = d → q + j ≤ (lim n).length → x.length = j → Lb x →
    nv x = n / 2 ^ (32 * q + s) % B32 ^ j → Ev (fun k => fathomref3_Down2.l1 k (lim n) ((32 * q + s : Nat) : Int) st x ((q + j : Nat) : Int)) (lim (n / 2 ^ (32 * q + s)), st) := by
  have ts : Int.tmod ((32 * q + s : Nat) : Int) 32 = (s : Int) := by rw [tmod_nat]; congr 1; omega
  have hs0 : (0 : Int) ≤ IntKind.u64.wrap (s : Int) := by rw [wrapu_nat (by omega)]; exact Int.natCast_nonneg _
  have hws : IntKind.u64.wrap (s : Int) = (s : Int) := wrapu_nat (by omega)
  induction d with
  | zero =>
    intro j x hd hj hx hl hv
    have h1 : ¬ q + j < (lim n).length := by clear hv ts hs0 hws; omega
    have hxl : x.length < 4611686018427387904 := by clear hv ts hs0 hws; omega
    have e : q + j = (lim n).length := by clear hv ts hs0 hws; omega
    have hlt : n / 2 ^ (32 * q + s) < B32 ^ j := by
      refine Nat.div_lt_of_lt_mul ?_
      have h2 := lt_len n
      rw [← e, Nat.pow_add] at h2
      refine Nat.lt_of_lt_of_le h2 (Nat.mul_le_mul_right _ ?_)
      rw [Nat.pow_add, Nat.pow_mul]
      exact Nat.le_mul_of_pos_right _ (Nat.two_pow_pos _)
    rw [Nat.mod_eq_of_lt hlt] at hv
    have ht := trim_ev hl hxl
    rw [hv] at ht
    refine Ev.step (f := fun k => (fathomref3_Trim.f k x).bind fun t => some (t, st)) (fun k => ?_) (Ev.bind ht (Ev.now _))
    simp only [fathomref3_Down2.l1]
    rw [if_neg (fun h => h1 (Int.ofNat_lt.1 h))]
  | succ d ih =>
    intro j x hd hj hx hl hv
    have h1 : q + j < (lim n).length := by clear hv ts hs0 hws; omega
    have hlim : x.length < 35184372088832 := by clear hv ts hs0 hws; omega
    have hw : wrap64 (((q + j : Nat) : Int) + 1) = ((q + j + 1 : Nat) : Int) := wrap64_next (by clear hv ts hs0 hws; omega)
    have hd1 : (lim n).length - (q + (j + 1)) = d := by clear hv hw ts hs0 hws; omega
    have hval : nv (x ++ [((dg (n / 2 ^ (32 * q + s)) j : Nat) : Int)]) = n / 2 ^ (32 * q + s) % B32 ^ (j + 1) := by
      rw [nv_snoc, hx, hv, Int.toNat_natCast, mod_step]
    have hstep := ih (j + 1) (x ++ [((dg (n / 2 ^ (32 * q + s)) j : Nat) : Int)]) hd1 h1 (by rw [List.length_append, hx]; rfl) (lb_snoc hl ⟨Int.natCast_nonneg _, Int.ofNat_lt.2 (dg_lt _ _)⟩) hval
    have hdig : dg (n / 2 ^ (32 * q + s)) j = (dg n (q + j) + dg n (q + j + 1) * 4294967296) / 2 ^ s % 4294967296 := by
      rw [dg_down, down_digit hs]
    have hz : ¬ q + j + 1 < (lim n).length → dg n (q + j + 1) = 0 := dg_zero
    have hu := dg_lt n (q + j)
    have hv2 := dg_lt n (q + j + 1)
    clear ih hval hv hl
    refine Ev.step (fun k => ?_) hstep
    simp only [fathomref3_Down2.l1, rd_lim, hw, ts, hws]
    rw [hws] at hs0
    rw [if_pos (Int.ofNat_lt.2 h1), if_pos (Int.natCast_nonneg _)]
    by_cases h2 : q + j + 1 < (lim n).length
    · have g := rd_lim n (q + j + 1)
      rw [if_pos (Int.ofNat_lt.2 h2), if_pos (Int.natCast_nonneg _), if_pos hs0, if_pos hlim, pair64 hu hv2, shr_nat (by omega), hdig]
      rfl
    · have hz2 := hz h2
      rw [if_neg (fun h => h2 (Int.ofNat_lt.1 h)), if_pos hs0, if_pos hlim, wrapu_nat (Nat.lt_trans hu (by decide)), shr_nat (by omega), hdig, hz2, Nat.zero_mul, Nat.add_zero]
      rfl

theorem down_scan {n q s : Nat} (hn : (lim n).length < 1073741824) (hql : q < (lim n).length) (hs : s < 32) (d : Nat) : ∀ i : Nat, q - i = d → i ≤ q →
    Ev (fun k => fathomref3_Down2.l0 k (lim n) ((32 * q + s : Nat) : Int) (decide (n % B32 ^ i ≠ 0)) (i : Int)) (lim (n / 2 ^ (32 * q + s)), decide (n % 2 ^ (32 * q + s) ≠ 0)) := by
  have tq : Int.tdiv ((32 * q + s : Nat) : Int) 32 = (q : Int) := by rw [tdiv_nat]; congr 1; omega
  have ts : Int.tmod ((32 * q + s : Nat) : Int) 32 = (s : Int) := by rw [tmod_nat]; congr 1; omega
  have hwq : wrap64 (q : Int) = q := wrap64_nat (by omega)
  have hws : IntKind.u64.wrap (s : Int) = (s : Int) := wrapu_nat (by omega)
  induction d with
  | zero =>
    intro i hd hi
    have e : i = q := by clear tq ts hwq hws; omega
    subst e
    have fin : ∀ b : Bool, b = decide (n % 2 ^ (32 * i + s) ≠ 0) → Ev (fun k => fathomref3_Down2.j1 k (lim n) ((32 * i + s : Nat) : Int) b) (lim (n / 2 ^ (32 * i + s)), decide (n % 2 ^ (32 * i + s) ≠ 0)) := by
      intro b hb
      have := down_limbs (q := i) (s := s) hn (by clear tq ts hwq hws hb; omega) hs b _ 0 [] rfl (by clear tq ts hwq hws hb; omega) rfl lb_nil (by rw [Nat.pow_zero, Nat.mod_one]; rfl)
      rw [hb] at this ⊢
      refine Ev.step (fun k => ?_) this
      rw [fathomref3_Down2.j1, tq, hwq]; rfl
    have hlow := low_mod (n := n) (q := i) (s := s) (by omega)
    by_cases h0 : n % B32 ^ i = 0
    · rw [h0, Nat.zero_add] at hlow
      refine Ev.step (fun k => ?_) (fin _ rfl)
      simp only [fathomref3_Down2.l0, tq, ts, hwq, hws, rd_lim]
      rw [if_neg (by omega), if_neg (by rw [decide_eq_false (by rw [h0]; decide)]; decide), if_pos (Int.natCast_nonneg _), if_pos (Int.ofNat_lt.2 hql), if_pos (Int.natCast_nonneg _), shl32_one hs, and32_mask (dg_lt n i) hs]
      congr 1
      have hp : 0 < B32 ^ i := Nat.pow_pos (by decide)
      rw [hlow]
      by_cases hz : dg n i % 2 ^ s = 0
      · rw [hz, Nat.mul_zero]; decide
      · rw [bne_iff_ne.2 (by omega), decide_eq_true (by
          intro h
          rcases Nat.mul_eq_zero.1 h with h | h
          · omega
          · exact hz h)]
    · have hb : decide (n % 2 ^ (32 * i + s) ≠ 0) = true := decide_eq_true (by
        intro h
        rw [hlow] at h
        have := Nat.add_eq_zero_iff.1 h
        exact h0 this.1)
      refine Ev.step (fun k => ?_) (fin true hb.symm)
      simp only [fathomref3_Down2.l0, tq, ts, hwq, hws, rd_lim]
      rw [if_neg (by omega), if_pos (decide_eq_true h0)]
  | succ d ih =>
    intro i hd hi
    have h1 : i < q := by clear tq ts hwq hws; omega
    have hw : wrap64 ((i : Int) + 1) = ((i + 1 : Nat) : Int) := wrap64_next (by clear tq ts hwq hws; omega)
    have hi2 : i < (lim n).length := by clear tq ts hwq hws hw; omega
    have hstep := ih (i + 1) (by clear tq ts hwq hws hw ih; omega) h1
    have hm := mod_step n i
    by_cases h0 : n % B32 ^ i = 0
    · rw [h0, Nat.zero_add] at hm
      refine Ev.step (fun k => ?_) hstep
      simp only [fathomref3_Down2.l0, tq, ts, hwq, hws, rd_lim, hw]
      rw [if_pos (Int.ofNat_lt.2 h1), if_neg (by rw [decide_eq_false (by rw [h0]; decide)]; decide), if_pos (Int.natCast_nonneg _), if_pos (Int.ofNat_lt.2 hi2)]
      congr 1
      have hp : 0 < B32 ^ i := Nat.pow_pos (by decide)
      rw [hm]
      by_cases hz : dg n i = 0
      · rw [hz, Nat.mul_zero]; decide
      · rw [bne_iff_ne.2 (by omega), decide_eq_true (by
          intro h
          rcases Nat.mul_eq_zero.1 h with h | h
          · omega
          · exact hz h)]
    · have hb : decide (n % B32 ^ (i + 1) ≠ 0) = true := decide_eq_true (by
        intro h
        rw [hm] at h
        have := Nat.add_eq_zero_iff.1 h
        exact h0 this.1)
      rw [hb] at hstep
      refine Ev.step (fun k => ?_) hstep
      simp only [fathomref3_Down2.l0, tq, ts, hwq, hws, rd_lim, hw]
      rw [if_pos (Int.ofNat_lt.2 h1), if_pos (decide_eq_true h0)]

theorem bl_le {n a : Nat} (h : bl n ≤ a) : n < 2 ^ a := by
  rcases Nat.eq_zero_or_pos n with rfl | h0
  · exact Nat.two_pow_pos _
  · rw [bl_pos h0] at h
    exact Nat.lt_of_lt_of_le Nat.lt_log2_self (Nat.pow_le_pow_right (by omega) (by omega))
theorem bl_gt {n a : Nat} (h : (a : Int) < bl n) : 2 ^ a ≤ n := by
  rcases Nat.eq_zero_or_pos n with rfl | h0
  · rw [bl_zero] at h; omega
  · rw [bl_pos h0] at h
    exact (Nat.le_log2 (by omega)).1 (by omega)
theorem bl_nn (n : Nat) : 0 ≤ bl n := by
  unfold bl; split <;> omega

/-- Down2: a quotient by a power of 2, and whether something was left. -/
theorem down2_ev {n a : Nat} (hn : (lim n).length < 1073741824) : Ev (fun k => fathomref3_Down2.f k (lim n) (a : Int)) (lim (n / 2 ^ a), decide (n % 2 ^ a ≠ 0)) := by
  by_cases h : bl n ≤ a
  · have hlt := bl_le h
    refine Ev.congr (f := fun k => (fathomref3_Len.f k (lim n)).bind fun _ => some (lim (n / 2 ^ a), decide (n % 2 ^ a ≠ 0))) (fun k => ?_) (Ev.bind (len_ev hn) (Ev.now _))
    unfold fathomref3_Down2.f
    cases hk : fathomref3_Len.f k (lim n) with
    | none => rfl
    | some v =>
      obtain ⟨K, hK⟩ := len_ev hn
      have : v = bl n := by
        have h1 := hK (max K k) (Nat.le_max_left _ _)
        have h2 := at_rounds (g := fun k => fathomref3_Len.f k (lim n)) (fun k => fathomref3_Len.mono _ k) (Nat.le_max_right K k) hk
        dsimp only at h1 h2
        rw [h1] at h2
        exact (Option.some.inj h2).symm
      rw [this]
      simp only [Option.bind_some]
      rw [if_pos h, Nat.div_eq_of_lt hlt, lim_zero, Nat.mod_eq_of_lt hlt]
      have l0 := len_lim n 0
      rw [Nat.pow_zero] at l0
      congr 2
      exact decide_eq_decide.2 (by omega)
  · have hge := bl_gt (n := n) (a := a) (by omega)
    have hd : 32 * (a / 32) + a % 32 = a := by omega
    have hql : a / 32 < (lim n).length := by
      refine (len_lim n _).2 (Nat.le_trans ?_ hge)
      show (2 ^ 32) ^ (a / 32) ≤ _
      rw [← Nat.pow_mul]
      exact Nat.pow_le_pow_right (by omega) (by omega)
    have := down_scan (q := a / 32) (s := a % 32) hn hql (by omega) _ 0 rfl (Nat.zero_le _)
    rw [hd, Nat.pow_zero, Nat.mod_one] at this
    refine Ev.congr (fun k => ?_) (Ev.bind (f := fun k t => if (a : Int) ≥ t then some ([], decide ((((lim n).length : Nat) : Int) > 0)) else fathomref3_Down2.l0 k (lim n) (a : Int) false 0) (len_ev hn) (Ev.congr (fun k => ?_) this))
    · rfl
    · rw [if_neg h]; rfl

theorem fuel4 {a b c d k : Nat} (h : a + b + c + d + 1 ≤ k + 1) : a ≤ k ∧ b ≤ k ∧ c ≤ k ∧ d ≤ k := by omega
theorem fuel3 {a b c k : Nat} (h : a + b + c + 1 ≤ k + 1) : a ≤ k ∧ b ≤ k ∧ c ≤ k := by omega
theorem fuel3' {a b c k : Nat} (h : a + b + c ≤ k) : a ≤ k ∧ b ≤ k ∧ c ≤ k := by omega
theorem fuel_out {a k : Nat} (h : a + 1 ≤ k) : ∃ m, k = m + 1 := ⟨k - 1, by omega⟩
/-! Divide -/
theorem quot_bit {i t : Nat} : dg (2 ^ (i + 1) * t) (i / 32) = 2 ^ (i % 32 + 1) * (t % 2 ^ (31 - i % 32)) := by
  have e : (2 : Nat) ^ (i + 1) = B32 ^ (i / 32) * 2 ^ (i % 32 + 1) := by
    show _ = (2 ^ 32) ^ (i / 32) * _
    rw [← Nat.pow_mul, ← Nat.pow_add]; congr 1; omega
  unfold dg
  have hs : i % 32 < 32 := Nat.mod_lt _ (by omega)
  rw [e, Nat.mul_assoc, Nat.mul_div_cancel_left _ (Nat.pow_pos (by decide)), b32_split (s := i % 32 + 1) (by omega), Nat.mul_mod_mul_left]
  congr 3; omega

theorem or_bit {u s : Nat} (hs : s < 32) : Go.bits .or .u32 ((2 ^ (s + 1) * (u % 2 ^ (31 - s)) : Nat) : Int) (shl .u32 1 (s : Int)) = ((2 ^ (s + 1) * (u % 2 ^ (31 - s)) + 2 ^ s : Nat) : Int) ∧ 2 ^ (s + 1) * (u % 2 ^ (31 - s)) + 2 ^ s < 4294967296 := by
  have hu : u % 2 ^ (31 - s) < 2 ^ (31 - s) := Nat.mod_lt _ (Nat.two_pow_pos _)
  generalize u % 2 ^ (31 - s) = v at *
  have hb : 2 ^ (s + 1) * (v + 1) ≤ 4294967296 := by
    have e : 4294967296 = 2 ^ (s + 1) * 2 ^ (31 - s) := by
      rw [← Nat.pow_add, show s + 1 + (31 - s) = 32 by omega]
    rw [e]
    exact Nat.mul_le_mul_left _ hu
  have hp := Nat.two_pow_pos s
  have h2 : 2 ^ (s + 1) = 2 * 2 ^ s := Nat.pow_succ'
  rw [Nat.mul_add, Nat.mul_one] at hb
  have hlt : 2 ^ (s + 1) * v + 2 ^ s < 4294967296 := by omega
  refine ⟨?_, hlt⟩
  have hsh : shl .u32 1 (s : Int) = ((2 ^ s : Nat) : Int) := by
    unfold shl
    rw [Int.toNat_natCast, Nat.min_eq_left (show s ≤ IntKind.u32.bits from by have : IntKind.u32.bits = 32 := rfl; omega), wrap_u32]
    have : (1 : Int) * 2 ^ s = ((2 ^ s : Nat) : Int) := by simp
    rw [this]; omega
  rw [hsh, u32_or _ _ (by omega) (by omega) (by omega) (by omega), Int.toNat_natCast, Int.toNat_natCast, ← Nat.two_pow_add_eq_or_of_lt (by omega) v]

theorem sub_half {r q : Nat} (h : r < q + q) : r - q < q := by omega
theorem set_bit {v' v p q : Nat} (h : v' + p = v + (p + q)) : v' = v + q := by omega
theorem move_bit {p q r n : Nat} (h : p + r = n) (hq : q ≤ r) : p + q + (r - q) = n := by omega

theorem divide_loop {d n D : Nat} (hd0 : 0 < d) (hn : (lim n).length < 1073741824) (hD : D < 33554432) (hdl : (lim d).length < 1073741824) (m : Nat) : ∀ (x : List Int) (r t : Nat), x.length = D → m ≤ 32 * D → Lb x → nv x = 2 ^ m * t → r < d * 2 ^ m → nv x * d + r = n →
    Ev (fun k => fathomref3_Divide.l0 k (lim d) x (lim r) ((m : Int) - 1)) (lim (n / d), lim (n % d)) := by
  have rlen : ∀ r, r ≤ n → (lim r).length < 1073741824 := fun r hr => by
    have h := lt_len n
    have := len_le (Nat.lt_of_le_of_lt hr h)
    omega
  induction m with
  | zero =>
    intro x r t hx hm hl hv hr he
    rw [Nat.pow_zero, Nat.mul_one] at hr
    have hq : n / d = nv x := by
      rw [← he, Nat.add_comm, Nat.add_mul_div_right _ _ hd0, Nat.div_eq_of_lt hr, Nat.zero_add]
    have hrm : n % d = r := by
      rw [← he, Nat.add_comm, Nat.add_mul_mod_self_right, Nat.mod_eq_of_lt hr]
    have ht := trim_ev hl (by omega)
    rw [hq, hrm]
    refine Ev.step (f := fun k => (fathomref3_Trim.f k x).bind fun t => some (t, lim r)) (fun k => ?_) (Ev.bind ht (Ev.now _))
    simp only [fathomref3_Divide.l0]
    rw [if_neg (by decide)]
  | succ i ih =>
    intro x r t hx hm hl hv hr he
    have e1 : (((i + 1 : Nat) : Int) - 1) = (i : Int) := by omega
    rw [e1]
    have hrn : r ≤ n := by rw [← he]; exact Nat.le_add_left _ _
    have hi30 : i < 1073741824 := by clear hv hr he; omega
    have hpow : d * 2 ^ (i + 1) = d * 2 ^ i + d * 2 ^ i := by rw [Nat.pow_succ, Nat.mul_two, Nat.mul_add]
    have hw : wrap64 ((i : Int) - 1) = (i : Int) - 1 := wrap64_id (by clear hv hr he hpow; omega) (by clear hv hr he hpow; omega)
    have hwq : wrap64 ((i / 32 : Nat) : Int) = ((i / 32 : Nat) : Int) := wrap64_nat (by clear hv hr he hpow hw; omega)
    have hws : IntKind.u64.wrap ((i % 32 : Nat) : Int) = ((i % 32 : Nat) : Int) := wrapu_nat (by clear hv hr he hpow hw hwq; omega)
    have hq : i / 32 < x.length := by clear hv hr he hpow hw hwq hws; omega
    have hs : i % 32 < 32 := Nat.mod_lt _ (by decide)
    have hij : 32 * (i / 32) + i % 32 = i := Nat.div_add_mod i 32
    have hup := up2_ev (n := d) (a := i) hdl hi30
    have hcmp := cmp_ev (a := r) (b := d * 2 ^ i) (rlen r hrn)
    by_cases hc : d * 2 ^ i ≤ r
    · have hless := less_ev hc (rlen r hrn)
      obtain ⟨hor, hor2⟩ := or_bit (u := t) hs
      have hrd : rd x ((i / 32 : Nat) : Int) = ((2 ^ (i % 32 + 1) * (t % 2 ^ (31 - i % 32)) : Nat) : Int) := by
        rw [rd_nv hl, hv, quot_bit]
      generalize 2 ^ (i % 32 + 1) * (t % 2 ^ (31 - i % 32)) = u at hor hor2 hrd
      have hset := nv_set hq ((u + 2 ^ (i % 32) : Nat) : Int)
      rw [hrd, Int.toNat_natCast, Int.toNat_natCast, Nat.mul_add] at hset
      have hbit : B32 ^ (i / 32) * 2 ^ (i % 32) = 2 ^ i := by
        show (2 ^ 32) ^ (i / 32) * _ = _
        rw [← Nat.pow_mul, ← Nat.pow_add, hij]
      rw [hbit] at hset
      have hnv : nv (x.set (i / 32) ((u + 2 ^ (i % 32) : Nat) : Int)) = nv x + 2 ^ i := by
        exact set_bit hset
      have hv2 : nv (x.set (i / 32) ((u + 2 ^ (i % 32) : Nat) : Int)) = 2 ^ i * (2 * t + 1) := by
        rw [hnv, hv, Nat.pow_succ, Nat.mul_add, Nat.mul_one, Nat.mul_assoc]
      have hr2 : r - d * 2 ^ i < d * 2 ^ i := by
        rw [hpow] at hr
        exact sub_half hr
      have he2 : nv (x.set (i / 32) ((u + 2 ^ (i % 32) : Nat) : Int)) * d + (r - d * 2 ^ i) = n := by
        rw [hnv, Nat.add_mul, Nat.mul_comm (2 ^ i) d]
        exact move_bit he hc
      have hstep := ih (x.set (i / 32) ((u + 2 ^ (i % 32) : Nat) : Int)) (r - d * 2 ^ i) (2 * t + 1) (by rw [List.length_set]; exact hx) (Nat.le_trans (Nat.le_succ i) hm) (lb_set hl _ ⟨Int.natCast_nonneg _, Int.ofNat_lt.2 hor2⟩) hv2 hr2 he2
      have hsg : sgnN r (d * 2 ^ i) ≥ 0 := by unfold sgnN; rw [if_neg (Nat.not_lt.2 hc)]; split <;> decide
      obtain ⟨K1, H1⟩ := hup
      obtain ⟨K2, H2⟩ := hcmp
      obtain ⟨K3, H3⟩ := hless
      obtain ⟨K4, H4⟩ := hstep
      clear ih hv hr he hpow hc hset hnv hv2 hr2 he2
      refine ⟨K1 + K2 + K3 + K4 + 1, fun k hk => ?_⟩
      obtain ⟨k, rfl⟩ := fuel_out hk
      obtain ⟨q1, q2, q3, q4⟩ := fuel4 hk
      dsimp only [-Nat.reducePow, -Int.reducePow] at H1 H2 H3 H4 ⊢
      rw [fathomref3_Divide.l0, if_pos (Int.natCast_nonneg _), H1 _ q1, Option.bind_some, H2 _ q2, Option.bind_some, if_pos hsg, H3 _ q3, Option.bind_some, tdiv_nat, tmod_nat, hwq, hws, if_pos (Int.natCast_nonneg _), if_pos (Int.ofNat_lt.2 hq), if_pos (Int.natCast_nonneg _), hrd, hor, Int.toNat_natCast, hw]
      exact H4 _ q4
    · have hstep := ih x r (2 * t) hx (Nat.le_trans (Nat.le_succ i) hm) hl (by rw [hv, Nat.pow_succ, Nat.mul_assoc]) (Nat.lt_of_not_le hc) he
      have hsg : ¬ sgnN r (d * 2 ^ i) ≥ 0 := by unfold sgnN; rw [if_pos (Nat.lt_of_not_le hc)]; decide
      obtain ⟨K1, H1⟩ := hup
      obtain ⟨K2, H2⟩ := hcmp
      obtain ⟨K4, H4⟩ := hstep
      clear ih hv hr he hpow hc
      refine ⟨K1 + K2 + K4 + 1, fun k hk => ?_⟩
      obtain ⟨k, rfl⟩ := fuel_out hk
      obtain ⟨q1, q2, q4⟩ := fuel3 hk
      dsimp only [-Nat.reducePow, -Int.reducePow] at H1 H2 H4 ⊢
      rw [fathomref3_Divide.l0, if_pos (Int.natCast_nonneg _), H1 _ q1, Option.bind_some, H2 _ q2, Option.bind_some, if_neg hsg, hw]
      exact H4 _ q4

theorem bl_len {n : Nat} (hn : (lim n).length < 16777216) : bl n ≤ 32 * ((lim n).length : Int) := by
  rcases Nat.eq_zero_or_pos n with rfl | h0
  · rw [bl_zero]; omega
  · rw [bl_pos h0]
    have h := lt_len n
    have e : B32 ^ (lim n).length = 2 ^ (32 * (lim n).length) := by rw [Nat.pow_mul]
    rw [e] at h
    have := (Nat.log2_lt (by omega)).2 h
    omega

/-- Divide: quotient and remainder. -/
theorem divide_ev {n d : Nat} (hd0 : 0 < d) (hn : (lim n).length < 16777216) (hdl : (lim d).length < 16777216) : Ev (fun k => fathomref3_Divide.f k (lim n) (lim d)) (lim (n / d), lim (n % d)) := by
  have b1 := bl_nn n
  have b2 := bl_nn d
  have b3 := bl_len hn
  have b4 := bl_len hdl
  have hn1 := len_ev (n := n) (by omega)
  have hd1 := len_ev (n := d) (by omega)
  have hw : wrap64 (bl n - bl d) = bl n - bl d := wrap64_id (by omega) (by omega)
  have l1 : n < 2 ^ (bl n).toNat := bl_le (by omega)
  have l2 : 2 ^ ((bl d).toNat - 1) ≤ d := by
    refine bl_gt ?_
    have : 0 < bl d := by rw [bl_pos hd0]; omega
    omega
  have hbd : 0 < bl d := by rw [bl_pos hd0]; omega
  by_cases hc : bl n - bl d < 0
  · have hlt : n < d := by
      refine Nat.lt_of_lt_of_le l1 (Nat.le_trans (Nat.pow_le_pow_right (by omega) ?_) l2)
      clear l1 l2; omega
    rw [Nat.div_eq_of_lt hlt, Nat.mod_eq_of_lt hlt, lim_zero]
    obtain ⟨K1, H1⟩ := hn1
    obtain ⟨K2, H2⟩ := hd1
    clear l1 l2
    refine ⟨K1 + K2, fun k hk => ?_⟩
    dsimp only at H1 H2 ⊢
    unfold fathomref3_Divide.f
    rw [H1 _ (by omega), Option.bind_some, H2 _ (by omega), Option.bind_some, hw, if_pos hc]
  · obtain ⟨e, he⟩ : ∃ e : Nat, (e : Int) = bl n - bl d := ⟨(bl n - bl d).toNat, by clear l1 l2; omega⟩
    have hlt : n < d * 2 ^ (e + 1) := by
      refine Nat.lt_of_lt_of_le l1 (Nat.le_trans ?_ (Nat.mul_le_mul_right _ l2))
      rw [← Nat.pow_add]
      refine Nat.pow_le_pow_right (by omega) ?_
      clear l1 l2; omega
    have p4 : e / 32 + 1 ≤ 70368744177664 := by clear l1 l2 hlt; omega
    have hw2 : wrap64 (wrap64 ((e / 32 : Nat) : Int) + 1) = ((e / 32 + 1 : Nat) : Int) := by
      rw [wrap64_nat (n := e / 32) (by clear l1 l2 hlt; omega)]; exact wrap64_next (by clear l1 l2 hlt; omega)
    have hD : e / 32 + 1 < 33554432 := by clear l1 l2 hlt; omega
    have p1 : (lim n).length < 1073741824 := by clear l1 l2 hlt hD; omega
    have p2 : (lim d).length < 1073741824 := by clear l1 l2 hlt hD; omega
    have p3 : e + 1 ≤ 32 * (e / 32 + 1) := by clear l1 l2 hlt hD; omega
    have hloop := divide_loop hd0 (n := n) (D := e / 32 + 1) p1 hD p2 (e + 1) (List.replicate (e / 32 + 1) 0) n 0 (List.length_replicate ..) p3 (lb_zeros _) (by rw [nv_zeros, Nat.mul_zero]) hlt (by rw [nv_zeros, Nat.zero_mul, Nat.zero_add])
    have e1 : (((e + 1 : Nat) : Int) - 1) = (e : Int) := by clear l1 l2 hlt; omega
    rw [e1] at hloop
    obtain ⟨K1, H1⟩ := hn1
    obtain ⟨K2, H2⟩ := hd1
    obtain ⟨K3, H3⟩ := hloop
    clear l1 l2 hlt
    refine ⟨K1 + K2 + K3, fun k hk => ?_⟩
    obtain ⟨q1, q2, q3⟩ := fuel3' hk
    dsimp only at H1 H2 H3 ⊢
    unfold fathomref3_Divide.f
    rw [H1 _ q1, Option.bind_some, H2 _ q2, Option.bind_some, hw, if_neg hc, ← he, tdiv_nat, hw2, if_pos (Int.natCast_nonneg _), Int.toNat_natCast, if_pos p4]
    exact H3 _ q3

/-! SquareRoot -/
theorem sqrt_loop {n M : Nat} (hM : M < 1000000) (m : Nat) : ∀ w : Nat, m ≤ M → w + 2 ^ m ≤ 2 ^ M → w * w ≤ n → n < (w + 2 ^ m) * (w + 2 ^ m) →
    ∃ s, s * s ≤ n ∧ n < (s + 1) * (s + 1) ∧ Ev (fun k => fathomref3_SquareRoot.l0 k (lim n) (lim w) ((m : Int) - 1)) (lim s, decide (s * s = n)) := by
  induction m with
  | zero =>
    intro w hm hb h1 h2
    rw [Nat.pow_zero] at h2
    refine ⟨w, h1, h2, ?_⟩
    have hwl : w < 2 ^ M := by
      refine Nat.lt_of_lt_of_le ?_ hb
      exact Nat.lt_add_of_pos_right (Nat.two_pow_pos _)
    have lw : (lim w).length < 1073741824 := len_pow hwl (by clear hb h1 h2 hwl; omega)
    have lww : (lim (w * w)).length < 1073741824 := by
      refine len_pow (k := M + M) ?_ (by clear hb h1 h2 hwl; omega)
      rw [Nat.pow_add]
      exact Nat.mul_lt_mul_of_lt_of_le hwl (Nat.le_of_lt hwl) (Nat.two_pow_pos _)
    obtain ⟨K1, H1⟩ := times_ev lw lw
    obtain ⟨K2, H2⟩ := cmp_ev (b := n) lww
    have hsg : (sgnN (w * w) n == 0) = decide (w * w = n) := by
      unfold sgnN
      by_cases he : w * w = n
      · rw [decide_eq_true he, he, if_neg (Nat.lt_irrefl _), if_neg (Nat.lt_irrefl _)]; rfl
      · rw [decide_eq_false he, if_pos (Nat.lt_of_le_of_ne h1 he)]; rfl
    clear hb h1 h2 hwl
    refine ⟨K1 + K2 + 1, fun k hk => ?_⟩
    obtain ⟨k, rfl⟩ : ∃ m, k = m + 1 := ⟨k - 1, by omega⟩
    dsimp only at H1 H2 ⊢
    rw [fathomref3_SquareRoot.l0, if_neg (by decide), H1 _ (by omega), Option.bind_some, H2 _ (by omega), Option.bind_some, hsg]
  | succ i ih =>
    intro w hm hb h1 h2
    have e1 : (((i + 1 : Nat) : Int) - 1) = (i : Int) := by clear hb h1 h2; omega
    have hiM : i ≤ M := Nat.le_trans (Nat.le_succ i) hm
    have hi : i < 1000000 := Nat.lt_of_le_of_lt hiM hM
    have hwr : wrap64 ((i : Int) - 1) = (i : Int) - 1 := wrap64_id (by clear hb h1 h2; omega) (by clear hb h1 h2; omega)
    have hpow : 2 ^ (i + 1) = 2 ^ i + 2 ^ i := by rw [Nat.pow_succ, Nat.mul_two]
    have hpos := Nat.two_pow_pos i
    rw [hpow] at hb h2
    have hsl : w + 2 ^ i < 2 ^ M := by
      generalize 2 ^ M = P at hb ⊢
      generalize 2 ^ i = Q at hb hpos ⊢
      omega
    have hwl : w < 2 ^ M := Nat.lt_of_le_of_lt (Nat.le_add_right _ _) hsl
    have hk : M < 30000000 ∧ M + M < 30000000 := by clear hb h1 h2 hsl hwl hpow hpos; omega
    have lw : (lim w).length < 1073741824 := len_pow hwl hk.1
    have ls : (lim (w + 2 ^ i)).length < 1073741824 := len_pow hsl hk.1
    have lp : (lim (2 ^ i)).length < 1073741824 := len_pow (Nat.lt_of_le_of_lt (Nat.le_add_left _ _) hsl) hk.1
    have lss : (lim ((w + 2 ^ i) * (w + 2 ^ i))).length < 1073741824 := by
      refine len_pow (k := M + M) ?_ hk.2
      rw [Nat.pow_add]
      exact Nat.mul_lt_mul_of_lt_of_le hsl (Nat.le_of_lt hsl) (Nat.two_pow_pos _)
    obtain ⟨K1, H1⟩ := of_ev (a := 1) (by decide) (by decide)
    have hup := up2_ev (n := 1) (a := i) (len_pow (k := 1) (by decide) (by decide)) (by clear hb h1 h2 hsl hwl hpow hpos lss ls lw lp; omega)
    rw [Nat.one_mul] at hup
    obtain ⟨K2, H2⟩ := hup
    obtain ⟨K3, H3⟩ := sum_ev lw lp
    obtain ⟨K4, H4⟩ := times_ev ls ls
    obtain ⟨K5, H5⟩ := cmp_ev (b := n) lss
    rw [e1]
    by_cases hc : (w + 2 ^ i) * (w + 2 ^ i) ≤ n
    · obtain ⟨s, g1, g2, g3⟩ := ih (w + 2 ^ i) hiM (by rw [Nat.add_assoc]; exact hb) hc (by rw [Nat.add_assoc]; exact h2)
      have hsg : sgnN ((w + 2 ^ i) * (w + 2 ^ i)) n ≤ 0 := by
        unfold sgnN; split
        · decide
        · rw [if_neg (Nat.not_lt.2 hc)]; decide
      refine ⟨s, g1, g2, ?_⟩
      obtain ⟨K6, H6⟩ := g3
      clear hb h1 h2 hsl hwl hpow hpos lss ls lw lp g1 g2 hc ih
      refine ⟨K1 + K2 + K3 + K4 + K5 + K6 + 1, fun k hk => ?_⟩
      obtain ⟨k, rfl⟩ : ∃ m, k = m + 1 := ⟨k - 1, by omega⟩
      dsimp only [-Nat.reducePow, -Int.reducePow] at H1 H2 H3 H4 H5 H6 ⊢
      have H1' : ∀ k, K1 ≤ k → fathomref3_Of.f k 1 = some (lim 1) := H1
      rw [fathomref3_SquareRoot.l0, if_pos (Int.natCast_nonneg _), H1' _ (by omega), Option.bind_some, H2 _ (by omega), Option.bind_some, H3 _ (by omega), Option.bind_some, H4 _ (by omega), Option.bind_some, H5 _ (by omega), Option.bind_some, if_pos hsg, hwr]
      exact H6 _ (by omega)
    · obtain ⟨s, g1, g2, g3⟩ := ih w hiM (Nat.le_of_lt hsl) h1 (Nat.lt_of_not_le hc)
      have hsg : ¬ sgnN ((w + 2 ^ i) * (w + 2 ^ i)) n ≤ 0 := by
        unfold sgnN; rw [if_neg (fun h => hc (Nat.le_of_lt h)), if_pos (Nat.lt_of_not_le hc)]; decide
      refine ⟨s, g1, g2, ?_⟩
      obtain ⟨K6, H6⟩ := g3
      clear hb h1 h2 hsl hwl hpow hpos lss ls lw lp g1 g2 hc ih
      refine ⟨K1 + K2 + K3 + K4 + K5 + K6 + 1, fun k hk => ?_⟩
      obtain ⟨k, rfl⟩ : ∃ m, k = m + 1 := ⟨k - 1, by omega⟩
      dsimp only [-Nat.reducePow, -Int.reducePow] at H1 H2 H3 H4 H5 H6 ⊢
      have H1' : ∀ k, K1 ≤ k → fathomref3_Of.f k 1 = some (lim 1) := H1
      rw [fathomref3_SquareRoot.l0, if_pos (Int.natCast_nonneg _), H1' _ (by omega), Option.bind_some, H2 _ (by omega), Option.bind_some, H3 _ (by omega), Option.bind_some, H4 _ (by omega), Option.bind_some, H5 _ (by omega), Option.bind_some, if_neg hsg, hwr]
      exact H6 _ (by omega)

/-- SquareRoot: the root's whole part, and whether nothing was left. -/
theorem sqrt_ev {n : Nat} (hn : (lim n).length < 10000) :
    ∃ s, s * s ≤ n ∧ n < (s + 1) * (s + 1) ∧ Ev (fun k => fathomref3_SquareRoot.f k (lim n)) (lim s, decide (s * s = n)) := by
  have b1 := bl_nn n
  have b3 := bl_len (n := n) (by omega)
  obtain ⟨e, he⟩ : ∃ e : Nat, (e : Int) = bl n := ⟨(bl n).toNat, by omega⟩
  have l1 : n < 2 ^ e := bl_le (by omega)
  have hM : (e + 1) / 2 + 1 < 1000000 := by clear l1; omega
  have hlt : n < (0 + 2 ^ ((e + 1) / 2 + 1)) * (0 + 2 ^ ((e + 1) / 2 + 1)) := by
    rw [Nat.zero_add, ← Nat.pow_add]
    exact Nat.lt_of_lt_of_le l1 (Nat.pow_le_pow_right (by omega) (by clear l1; omega))
  obtain ⟨s, g1, g2, g3⟩ := sqrt_loop hM ((e + 1) / 2 + 1) 0 (Nat.le_refl _) (Nat.le_of_eq (Nat.zero_add _)) (Nat.zero_le _) hlt
  refine ⟨s, g1, g2, ?_⟩
  obtain ⟨K1, H1⟩ := len_ev (n := n) (by clear l1 hlt; omega)
  obtain ⟨K2, H2⟩ := g3
  clear l1 hlt g1 g2
  refine ⟨K1 + K2, fun k hk => ?_⟩
  dsimp only at H1 H2 ⊢
  have hw1 : wrap64 (bl n + 1) = ((e + 1 : Nat) : Int) := by rw [← he]; exact wrap64_next (by omega)
  have ht : Int.tdiv ((e + 1 : Nat) : Int) 2 = (((e + 1) / 2 : Nat) : Int) := by
    rw [Int.tdiv_eq_ediv_of_nonneg (Int.natCast_nonneg _)]; omega
  have hw2 : wrap64 (((e + 1) / 2 : Nat) : Int) = ((((e + 1) / 2 + 1 : Nat) : Int) - 1) := by
    rw [wrap64_nat (by omega)]; omega
  unfold fathomref3_SquareRoot.f
  rw [H1 _ (by omega), Option.bind_some, hw1, ht, hw2]
  have := H2 k (by omega)
  rw [lim_zero] at this
  exact this
end
end Go.Proofs.Ytfloeiagdegpjaa.Q
