/- Whole numbers as limbs, on: the reference's Up2 and Times. No program runs here. -/
import Derived.Test.YtfloeiagdegpjaaQc
import Derived.Test.YtfloeiagdegpjaaR6
namespace Go.Proofs.Ytfloeiagdegpjaa.Q
open Go.RowKit Go.Proofs.YtfloeiagdegpjaaW.PrintWords Go.Proofs.Ytfloeiagdegpjaa.Rf
set_option linter.unusedVariables false
set_option linter.unusedSimpArgs false

/-! Shifts and bits of 64-bit words -/
theorem or_low {k a b : Nat} (ha : a < 2 ^ k) (hb : a + b * 2 ^ k < 18446744073709551616) : Go.bits .or .u64 (a : Int) ((b * 2 ^ k : Nat) : Int) = ((a + b * 2 ^ k : Nat) : Int) := by
  rw [u64_or _ _ (by omega) (by omega) (by omega) (by omega)]
  have := Nat.two_pow_add_eq_or_of_lt ha b
  rw [Int.toNat_natCast, Int.toNat_natCast, Nat.mul_comm b, Nat.or_comm, ← this, Nat.add_comm]
theorem shl_nat {x s : Nat} (hs : s ≤ 64) (hx : x * 2 ^ s < 18446744073709551616) : shl .u64 (x : Int) (s : Int) = ((x * 2 ^ s : Nat) : Int) := by
  unfold shl
  rw [Int.toNat_natCast, Nat.min_eq_left (show s ≤ IntKind.u64.bits from hs), wrap_u64]
  have : (x : Int) * 2 ^ s = ((x * 2 ^ s : Nat) : Int) := by simp
  rw [this]
  exact Int.emod_eq_of_lt (Int.natCast_nonneg _) (Int.ofNat_lt.2 hx)
theorem shr_nat {x s : Nat} (hs : s ≤ 64) : shr .u64 (x : Int) (s : Int) = ((x / 2 ^ s : Nat) : Int) := by
  unfold shr
  rw [Int.toNat_natCast, Nat.min_eq_left (show s ≤ IntKind.u64.bits from hs)]
  simp
theorem tdiv_nat (a : Nat) : Int.tdiv (a : Int) 32 = ((a / 32 : Nat) : Int) := by
  rw [Int.tdiv_eq_ediv_of_nonneg (Int.natCast_nonneg _)]; omega
theorem tmod_nat (a : Nat) : Int.tmod (a : Int) 32 = ((a % 32 : Nat) : Int) := by
  rw [Int.tmod_eq_emod_of_nonneg (Int.natCast_nonneg _)]; omega
theorem wrap64_nat {n : Nat} (h : n < 9223372036854775808) : wrap64 (n : Int) = n := wrap64_id (by omega) (by omega)
theorem wrapu_nat {n : Nat} (h : n < 18446744073709551616) : IntKind.u64.wrap (n : Int) = n := by rw [wrap_u64]; omega

/-! Up2 -/
theorem up2_one {c d e s : Nat} (hs : s < 32) (hc : c < 2 ^ s) (hd : d < 4294967296) :
    Go.bits .or .u64 (c : Int) (shl .u64 (IntKind.u64.wrap (d : Int)) (IntKind.u64.wrap (s : Int))) = ((c + d * 2 ^ s : Nat) : Int) ∧ (c + d * 2 ^ s) / 4294967296 < 2 ^ s := by
  have hp : 2 ^ s ≤ 2147483648 := by
    have : (2 : Nat) ^ s ≤ 2 ^ 31 := Nat.pow_le_pow_right (by omega) (by omega)
    simpa using this
  have hb : c + d * 2 ^ s < 4294967296 * 2 ^ s := by
    have : (d + 1) * 2 ^ s ≤ 4294967296 * 2 ^ s := Nat.mul_le_mul_right _ (by omega)
    rw [Nat.add_mul, Nat.one_mul] at this; omega
  refine ⟨?_, Nat.div_lt_of_lt_mul hb⟩
  rw [wrapu_nat (by omega), wrapu_nat (by omega), shl_nat (by omega) (by omega), or_low hc (by omega)]

theorem up2_alg {v P c d S e c' M Q : Nat} (h : v + P * c = Q * M * S) (h2 : e + B32 * c' = c + d * S) : v + P * e + P * B32 * c' = Q * M * S + P * d * S := by
  have e1 : P * e + P * B32 * c' = P * c + P * d * S := by
    rw [Nat.mul_assoc, ← Nat.mul_add, h2, Nat.mul_add, Nat.mul_assoc]
  omega

theorem up2_loop {n q s : Nat} (hn : (lim n).length < 1073741824) (hq : q < 1073741824) (hs : s < 32) (d : Nat) : ∀ (i : Nat) (x : List Int) (c : Nat), (lim n).length - i = d → i ≤ (lim n).length → x.length = q + i → Lb x → c < 2 ^ s →
    nv x + B32 ^ (q + i) * c = B32 ^ q * (n % B32 ^ i) * 2 ^ s → Ev (fun k => fathomref3_Up2.l0 k (lim n) ((32 * q + s : Nat) : Int) x (c : Int) (i : Int)) (lim (n * 2 ^ (32 * q + s))) := by
  have ts : Int.tmod ((32 * q + s : Nat) : Int) 32 = (s : Int) := by rw [tmod_nat]; congr 1; omega
  induction d with
  | zero =>
    intro i x c hd hi hx hl hc hv
    have h1 : ¬ i < (lim n).length := by clear hv; omega
    rw [mod_all h1] at hv
    have hp : 2 ^ s ≤ 2147483648 := by
      have : (2 : Nat) ^ s ≤ 2 ^ 31 := Nat.pow_le_pow_right (by omega) (by clear hv; omega)
      simpa using this
    have hc2 : 0 ≤ (c : Int) % 4294967296 ∧ (c : Int) % 4294967296 < 4294967296 := by clear hv; omega
    have hc3 : ((c : Int) % 4294967296).toNat = c := by clear hv; omega
    have ht := trim_ev (lb_snoc hl hc2) (by rw [List.length_append, hx]; clear hv; simp; omega)
    have e : nv (x ++ [(c : Int) % 4294967296]) = n * 2 ^ (32 * q + s) := by
      rw [nv_snoc, hx, hc3, hv, Nat.pow_add, Nat.pow_mul, ← Nat.mul_assoc, Nat.mul_comm n]
    rw [e] at ht
    have hlim : x.length < 35184372088832 := by clear hv; omega
    refine Ev.step (f := fun k => (fathomref3_Trim.f k (x ++ [(c : Int) % 4294967296])).bind fun t => some t) (fun k => ?_) (Ev.bind ht (Ev.now _))
    simp only [fathomref3_Up2.l0]
    rw [if_neg (fun h => h1 (Int.ofNat_lt.1 h)), if_pos hlim]
  | succ d ih =>
    intro i x c hd hi hx hl hc hv
    have h1 : i < (lim n).length := by clear hv; omega
    have hw : wrap64 ((i : Int) + 1) = ((i + 1 : Nat) : Int) := wrap64_next (by clear hv; omega)
    have hlim : x.length < 35184372088832 := by clear hv hw; omega
    have hi0 : (0 : Int) ≤ (i : Int) := Int.natCast_nonneg _
    have hs0 : (0 : Int) ≤ IntKind.u64.wrap (s : Int) := by rw [wrapu_nat (by clear hv hw; omega)]; exact Int.natCast_nonneg _
    have hd1 : (lim n).length - (i + 1) = d := by clear hv hw; omega
    obtain ⟨hone, hcle⟩ := up2_one (e := 0) hs hc (dg_lt n i)
    obtain ⟨e, c', he, hc'⟩ : ∃ e c' : Nat, e = (c + dg n i * 2 ^ s) % 4294967296 ∧ c' = (c + dg n i * 2 ^ s) / 4294967296 := ⟨_, _, rfl, rfl⟩
    rw [← hc'] at hcle
    have hsum : e + B32 * c' = c + dg n i * 2 ^ s := by rw [he, hc']; exact Nat.mod_add_div _ _
    have helt : e < 4294967296 := by rw [he]; exact Nat.mod_lt _ (by decide)
    have hval : nv (x ++ [(e : Int)]) + B32 ^ (q + (i + 1)) * c' = B32 ^ q * (n % B32 ^ (i + 1)) * 2 ^ s := by
      rw [nv_snoc, hx, mod_step, Int.toNat_natCast, ← Nat.add_assoc q i 1, Nat.pow_succ, up2_alg hv hsum, Nat.pow_add, Nat.mul_add, Nat.add_mul, ← Nat.mul_assoc]
    have hstep := ih (i + 1) (x ++ [(e : Int)]) c' hd1 h1 (by rw [List.length_append, hx]; rfl) (lb_snoc hl ⟨Int.natCast_nonneg _, Int.ofNat_lt.2 helt⟩) hcle hval
    clear ih hval hv hl hsum hcle helt
    refine Ev.step (fun k => ?_) hstep
    simp only [fathomref3_Up2.l0, rd_lim, hw, ts]
    rw [if_pos (Int.ofNat_lt.2 h1), if_pos hi0, if_pos hs0, if_pos hlim, hone]
    have g1 : ((c + dg n i * 2 ^ s : Nat) : Int) % 4294967296 = (e : Int) := by rw [he]; rfl
    have g2 : ((c + dg n i * 2 ^ s : Nat) : Int) / 4294967296 = (c' : Int) := by rw [hc']; rfl
    rw [g1, g2]

/-- Up2: times a power of 2. -/
theorem up2_ev {n a : Nat} (hn : (lim n).length < 1073741824) (ha : a < 1073741824) : Ev (fun k => fathomref3_Up2.f k (lim n) (a : Int)) (lim (n * 2 ^ a)) := by
  rcases Nat.eq_zero_or_pos n with rfl | h0
  · refine Ev.congr (f := fun _ => some []) (fun k => ?_) ?_
    · unfold fathomref3_Up2.f; rw [lim_zero]; rfl
    · rw [Nat.zero_mul, lim_zero]; exact Ev.now _
  · have hl : 0 < (lim n).length := (len_lim n 0).2 (by rw [Nat.pow_zero]; exact h0)
    have hd : 32 * (a / 32) + a % 32 = a := by omega
    have := up2_loop (q := a / 32) (s := a % 32) hn (by omega) (by omega) _ 0 (List.replicate (a / 32) 0) 0 rfl (by omega) (by simp) (lb_zeros _) (Nat.two_pow_pos _) (by rw [nv_zeros]; simp [Nat.mod_one])
    rw [hd] at this
    refine Ev.congr (fun k => ?_) this
    unfold fathomref3_Up2.f
    rw [if_neg (by omega), tdiv_nat, wrap64_nat (by omega), if_pos (by omega), if_pos (by omega)]
    rfl

/-! Times -/
theorem nv_set {l : List Int} {i : Nat} (hi : i < l.length) (v : Int) : nv (l.set i v) + B32 ^ i * (rd l (i : Int)).toNat = nv l + B32 ^ i * v.toNat := by
  unfold rd
  rw [Int.toNat_natCast]
  induction l generalizing i with
  | nil => simp at hi
  | cons x l ih =>
    cases i with
    | zero => simp [nv]; omega
    | succ i =>
      have := ih (i := i) (by simpa using hi)
      simp only [List.set_cons_succ, nv, List.getD_cons_succ, Nat.pow_succ]
      rw [Nat.mul_comm (B32 ^ i), Nat.mul_assoc, Nat.mul_assoc, Nat.add_assoc, ← Nat.mul_add, this, Nat.mul_add, Nat.add_assoc]

theorem lb_set {l : List Int} (h : Lb l) (i : Nat) {v : Int} (hv : 0 ≤ v ∧ v < 4294967296) : Lb (l.set i v) := by
  intro x hx
  rcases List.mem_or_eq_of_mem_set hx with h1 | h1
  · exact h x h1
  · rw [h1]; exact hv

theorem rd_set_ne {l : List Int} {i j : Nat} (h : i ≠ j) (v : Int) : rd (l.set i v) (j : Int) = rd l (j : Int) := by
  unfold rd
  rw [Int.toNat_natCast, List.getD_eq_getElem?_getD, List.getD_eq_getElem?_getD, List.getElem?_set_ne h]

theorem times_one {c u d w : Nat} (hc : c < 4294967296) (hu : u < 4294967296) (hd : d < 4294967296) (hw : w < 4294967296) :
    IntKind.u64.wrap (IntKind.u64.wrap ((c : Int) + IntKind.u64.wrap (u : Int)) + IntKind.u64.wrap (IntKind.u64.wrap (d : Int) * IntKind.u64.wrap (w : Int))) = ((c + u + d * w : Nat) : Int) ∧ (c + u + d * w) / 4294967296 < 4294967296 := by
  have hm : d * w ≤ 4294967295 * 4294967295 := Nat.mul_le_mul (by omega) (by omega)
  rw [wrapu_nat (by omega), wrapu_nat (by omega), wrapu_nat (by omega)]
  have e : (d : Int) * (w : Int) = ((d * w : Nat) : Int) := by simp
  rw [e]
  generalize d * w = p at *
  rw [wrapu_nat (by omega)]
  simp only [wrap_u64]
  omega

theorem times_alg {v' v P u c e c' d w A B C : Nat} (hset : v' + P * u = v + P * e) (h : v + P * c = A + B * d * C) (hP : True) (h2 : e + B32 * c' = c + u + d * w) : v' + P * B32 * c' = A + (B * d * C + P * (d * w)) := by
  have e1 : P * e + P * B32 * c' = P * c + P * u + P * (d * w) := by
    rw [Nat.mul_assoc, ← Nat.mul_add, h2, Nat.mul_add, Nat.mul_add]
  omega

theorem times_in {a b i : Nat} (ha : (lim a).length < 1073741824) (hb : (lim b).length < 1073741824) (hi : i < (lim a).length) {res : List Int}
    (next : ∀ x : List Int, x.length = (lim a).length + (lim b).length → Lb x → (∀ j, i + 1 + (lim b).length ≤ j → rd x (j : Int) = 0) → nv x = a % B32 ^ (i + 1) * b → Ev (fun k => fathomref3_Times.l0 k (lim a) (lim b) x ((i + 1 : Nat) : Int)) res)
    (d : Nat) : ∀ (j : Nat) (x : List Int) (c : Nat), (lim b).length - j = d → j ≤ (lim b).length → x.length = (lim a).length + (lim b).length → Lb x → c < 4294967296 → (∀ j, i + (lim b).length ≤ j → rd x (j : Int) = 0) →
    nv x + B32 ^ (i + j) * c = a % B32 ^ i * b + B32 ^ i * dg a i * (b % B32 ^ j) → Ev (fun k => fathomref3_Times.l1 k (lim a) (lim b) x (i : Int) (c : Int) (j : Int)) res := by
  have hi0 : (0 : Int) ≤ (i : Int) := Int.natCast_nonneg _
  have hw0 : wrap64 ((i : Int) + 1) = ((i + 1 : Nat) : Int) := wrap64_next (by omega)
  induction d with
  | zero =>
    intro j x c hd hj hx hl hc hz hv
    have h1 : ¬ j < (lim b).length := by clear hv hz next; omega
    have hjb : j = (lim b).length := by clear hv hz next; omega
    rw [mod_all h1] at hv
    have hlt : i + (lim b).length < x.length := by clear hv hz next; omega
    have hset := nv_set hlt (c : Int)
    rw [hz _ (Nat.le_refl _), Int.toNat_natCast, show (0 : Int).toNat = 0 from rfl, Nat.mul_zero, Nat.add_zero] at hset
    rw [hjb] at hv
    have hval : nv (x.set (i + (lim b).length) (c : Int)) = a % B32 ^ (i + 1) * b := by
      rw [hset, hv, mod_step, Nat.add_mul]
    have hstep := next (x.set (i + (lim b).length) (c : Int)) (by rw [List.length_set, hx]) (lb_set hl _ ⟨Int.natCast_nonneg _, Int.ofNat_lt.2 hc⟩) (fun j hj => by
      rw [rd_set_ne (by clear hv hz next hval hset; omega)]
      exact hz j (by clear hv hz next hval hset; omega)) hval
    clear next hval hset hv hz
    refine Ev.step (fun k => ?_) hstep
    have hw1 : wrap64 ((i : Int) + ((lim b).length : Int)) = ((i + (lim b).length : Nat) : Int) := by
      rw [← Int.natCast_add]; exact wrap64_nat (by omega)
    simp only [fathomref3_Times.l1, hw0, hw1]
    rw [if_neg (fun h => h1 (Int.ofNat_lt.1 h)), if_pos (Int.natCast_nonneg _), if_pos (Int.ofNat_lt.2 hlt), Int.toNat_natCast]
    have g : (c : Int) % 4294967296 = c := Int.emod_eq_of_lt (Int.natCast_nonneg _) (by omega)
    rw [g]
  | succ d ih =>
    intro j x c hd hj hx hl hc hz hv
    have h1 : j < (lim b).length := by clear hv hz next; omega
    have hlt : i + j < x.length := by clear hv hz next; omega
    have hw : wrap64 ((j : Int) + 1) = ((j + 1 : Nat) : Int) := wrap64_next (by clear hv hz next; omega)
    have hij : i + j < 9223372036854775808 := by clear hv hz next hw hw0; omega
    have hw1 : wrap64 ((i : Int) + (j : Int)) = ((i + j : Nat) : Int) := by
      rw [← Int.natCast_add]; exact wrap64_nat hij
    have hd1 : (lim b).length - (j + 1) = d := by clear hv hz next hw hw0 hw1; omega
    have hne : ∀ m, i + (lim b).length ≤ m → i + j ≠ m := by clear hv hz next hw hw0 hw1; omega
    have hu := dg_lt (nv x) (i + j)
    have hru := rd_nv hl (i + j)
    obtain ⟨hone, hcle⟩ := times_one hc hu (dg_lt a i) (dg_lt b j)
    obtain ⟨u, hu2⟩ : ∃ u, u = dg (nv x) (i + j) := ⟨_, rfl⟩
    rw [← hu2] at hu hru hone hcle
    obtain ⟨e, c', he, hc'⟩ : ∃ e c' : Nat, e = (c + u + dg a i * dg b j) % 4294967296 ∧ c' = (c + u + dg a i * dg b j) / 4294967296 := ⟨_, _, rfl, rfl⟩
    rw [← hc'] at hcle
    have hsum : e + B32 * c' = c + u + dg a i * dg b j := by rw [he, hc']; exact Nat.mod_add_div _ _
    have helt : e < 4294967296 := by rw [he]; exact Nat.mod_lt _ (by decide)
    have hset := nv_set hlt (e : Int)
    rw [hru, Int.toNat_natCast, Int.toNat_natCast] at hset
    have hval : nv (x.set (i + j) (e : Int)) + B32 ^ (i + (j + 1)) * c' = a % B32 ^ i * b + B32 ^ i * dg a i * (b % B32 ^ (j + 1)) := by
      rw [mod_step, ← Nat.add_assoc i j 1, Nat.pow_succ, times_alg hset hv trivial hsum, Nat.mul_add, Nat.pow_add]
      congr 2
      rw [Nat.mul_assoc, Nat.mul_assoc, Nat.mul_left_comm (B32 ^ j)]
    have hstep := ih (j + 1) (x.set (i + j) (e : Int)) c' hd1 h1 (by rw [List.length_set, hx]) (lb_set hl _ ⟨Int.natCast_nonneg _, Int.ofNat_lt.2 helt⟩) hcle (fun m hm => by
      rw [rd_set_ne (hne m hm)]
      exact hz m hm) hval
    clear ih hval hv hl hsum hcle helt hset hz next hu2
    refine Ev.step (fun k => ?_) hstep
    simp only [fathomref3_Times.l1, rd_lim, hw, hw1, hru]
    rw [if_pos (Int.ofNat_lt.2 h1), if_pos (Int.natCast_nonneg _), if_pos (Int.ofNat_lt.2 hlt), if_pos hi0, if_pos (Int.ofNat_lt.2 hi), if_pos (Int.natCast_nonneg _), hone, Int.toNat_natCast]
    have g1 : ((c + u + dg a i * dg b j : Nat) : Int) % 4294967296 = (e : Int) := by rw [he]; rfl
    have g2 : ((c + u + dg a i * dg b j : Nat) : Int) / 4294967296 = (c' : Int) := by rw [hc']; rfl
    rw [g1, g2]

theorem times_out {a b : Nat} (ha : (lim a).length < 1073741824) (hb : (lim b).length < 1073741824) (d : Nat) : ∀ (i : Nat) (x : List Int), (lim a).length - i = d → i ≤ (lim a).length → x.length = (lim a).length + (lim b).length → Lb x → (∀ j, i + (lim b).length ≤ j → rd x (j : Int) = 0) →
    nv x = a % B32 ^ i * b → Ev (fun k => fathomref3_Times.l0 k (lim a) (lim b) x (i : Int)) (lim (a * b)) := by
  induction d with
  | zero =>
    intro i x hd hi hx hl hz hv
    have h1 : ¬ i < (lim a).length := by clear hv hz; omega
    rw [mod_all h1] at hv
    have ht := trim_ev hl (by clear hv hz; omega)
    rw [hv] at ht
    refine Ev.step (f := fun k => (fathomref3_Trim.f k x).bind fun t => some t) (fun k => ?_) (Ev.bind ht (Ev.now _))
    simp only [fathomref3_Times.l0]
    rw [if_neg (fun h => h1 (Int.ofNat_lt.1 h))]
  | succ d ih =>
    intro i x hd hi hx hl hz hv
    have h1 : i < (lim a).length := by clear hv hz ih; omega
    refine Ev.step (f := fun k => fathomref3_Times.l1 k (lim a) (lim b) x (i : Int) 0 0) (fun k => ?_) ?_
    · simp only [fathomref3_Times.l0]
      rw [if_pos (Int.ofNat_lt.2 h1)]
    · exact times_in ha hb h1 (fun y hy hly hzy hvy => ih (i + 1) y (by clear hv hz hvy hzy; omega) h1 hy hly hzy hvy) _ 0 x 0 rfl (Nat.zero_le _) hx hl (by decide) hz (by rw [hv]; simp [Nat.mod_one])

/-- Times. -/
theorem times_ev {a b : Nat} (ha : (lim a).length < 1073741824) (hb : (lim b).length < 1073741824) : Ev (fun k => fathomref3_Times.f k (lim a) (lim b)) (lim (a * b)) := by
  have := times_out ha hb _ 0 (List.replicate ((lim a).length + (lim b).length) 0) rfl (Nat.zero_le _) (by simp) (lb_zeros _) (fun j _ => by
    unfold rd; rw [Int.toNat_natCast, List.getD_eq_getElem?_getD, List.getElem?_replicate]; split <;> rfl) (by rw [nv_zeros]; simp [Nat.mod_one])
  refine Ev.congr (fun k => ?_) this
  have hw1 : wrap64 (((lim a).length : Int) + ((lim b).length : Int)) = (((lim a).length + (lim b).length : Nat) : Int) := by
    rw [← Int.natCast_add]; exact wrap64_nat (by omega)
  unfold fathomref3_Times.f
  rw [hw1, if_pos (Int.natCast_nonneg _), Int.toNat_natCast, if_pos (by omega)]
  rfl
end Go.Proofs.Ytfloeiagdegpjaa.Q
