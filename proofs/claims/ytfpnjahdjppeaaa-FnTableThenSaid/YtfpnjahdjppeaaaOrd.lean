/- A bound for the least common multiple of numbers with a small sum, and the order of a list that exchanges the numbers below its length. No program is in sight. -/
import Derived.Test.YtfpnjahdjppeaaaPerm
namespace Go.Proofs.Ytfpnjahdjppeaaa
open Go.RowKit
set_option linter.unusedVariables false

/-- the primes up to 256, each with a number c such that the power q of it that is at most 256 has q^8 <= 2^(c + q) -/
def PL : List (Nat × Nat) := [(2, 16), (3, 17), (5, 14), (7, 16), (11, 17), (13, 17), (17, 16), (19, 15), (23, 14), (29, 10), (31, 9), (37, 5), (41, 2), (43, 1), (47, 0), (53, 0), (59, 0), (61, 0), (67, 0), (71, 0), (73, 0), (79, 0), (83, 0), (89, 0), (97, 0), (101, 0), (103, 0), (107, 0), (109, 0), (113, 0), (127, 0), (131, 0), (137, 0), (139, 0), (149, 0), (151, 0), (157, 0), (163, 0), (167, 0), (173, 0), (179, 0), (181, 0), (191, 0), (193, 0), (197, 0), (199, 0), (211, 0), (223, 0), (227, 0), (229, 0), (233, 0), (239, 0), (241, 0), (251, 0)]
def prodE : List (Nat × Nat) → (Nat → Nat) → Nat
  | [], _ => 1
  | x :: r, E => x.1 ^ E x.1 * prodE r E
def tE (p e : Nat) : Nat := if e = 0 then 0 else p ^ e
theorem tE_max (p a b : Nat) : tE p (max a b) ≤ tE p a + tE p b := by
  rcases Nat.le_total a b with h | h
  · rw [Nat.max_eq_right h]; omega
  · rw [Nat.max_eq_left h]; omega
def termE (E : Nat → Nat) (p : Nat) : Nat := tE p (E p)
def sumE : List (Nat × Nat) → (Nat → Nat) → Nat
  | [], _ => 0
  | x :: r, E => termE E x.1 + sumE r E
def sumC : List (Nat × Nat) → Nat
  | [] => 0
  | x :: r => x.2 + sumC r
/-- how often p divides a number, at most f times -/
def vp (p : Nat) : Nat → Nat → Nat
  | 0, _ => 0
  | f + 1, l => if l % p = 0 then 1 + vp p f (l / p) else 0
theorem vp_le (p f l : Nat) : vp p f l ≤ f := by
  induction f generalizing l with
  | zero => exact Nat.le_refl _
  | succ f ih =>
    simp only [vp]
    split
    · have := ih (l / p); omega
    · omega
theorem vp_dvd : ∀ l, l < 257 → 0 < l → l ∣ prodE PL (fun p => vp p 8 l) := by decide +kernel
theorem vp_sum : ∀ l, l < 257 → 0 < l → sumE PL (fun p => vp p 8 l) ≤ l := by decide +kernel
theorem PL_ok : ∀ x ∈ PL, ∀ e, e < 9 → x.1 ^ e ≤ 256 → (x.1 ^ e) ^ 8 ≤ 2 ^ (x.2 + (if e = 0 then 0 else x.1 ^ e)) := by decide +kernel
theorem PL_pos : ∀ x ∈ PL, 0 < x.1 := by decide +kernel
theorem sumC_PL : sumC PL = 169 := by decide +kernel

theorem prodE_dvd {E F : Nat → Nat} (h : ∀ p, E p ≤ F p) (L : List (Nat × Nat)) : prodE L E ∣ prodE L F := by
  induction L with
  | nil => exact Nat.dvd_refl _
  | cons x r ih => exact Nat.mul_dvd_mul (Nat.pow_dvd_pow _ (h _)) ih
theorem sumE_max (E F : Nat → Nat) (L : List (Nat × Nat)) : sumE L (fun p => max (E p) (F p)) ≤ sumE L E + sumE L F := by
  induction L with
  | nil => exact Nat.le_refl _
  | cons x r ih =>
    simp only [sumE]
    have : termE (fun p => max (E p) (F p)) x.1 ≤ termE E x.1 + termE F x.1 := tE_max _ _ _
    omega
theorem termE_le {E : Nat → Nat} {L : List (Nat × Nat)} {x : Nat × Nat} (h : x ∈ L) : termE E x.1 ≤ sumE L E := by
  induction L with
  | nil => cases h
  | cons y r ih =>
    simp only [sumE]
    cases h with
    | head => omega
    | tail _ h => have := ih h; omega
theorem prodE_pos {E : Nat → Nat} {L : List (Nat × Nat)} (h : ∀ x ∈ L, 0 < x.1) : 0 < prodE L E := by
  induction L with
  | nil => exact Nat.one_pos
  | cons x r ih => exact Nat.mul_pos (Nat.pow_pos (h x List.mem_cons_self)) (ih fun y hy => h y (List.mem_cons_of_mem _ hy))
theorem prodE_bd {E : Nat → Nat} (L : List (Nat × Nat)) (h : ∀ x ∈ L, (x.1 ^ E x.1) ^ 8 ≤ 2 ^ (x.2 + termE E x.1)) : prodE L E ^ 8 ≤ 2 ^ (sumC L + sumE L E) := by
  induction L with
  | nil => exact Nat.le_refl _
  | cons x r ih =>
    simp only [prodE, sumC, sumE]
    rw [Nat.mul_pow, show x.2 + sumC r + (termE E x.1 + sumE r E) = (x.2 + termE E x.1) + (sumC r + sumE r E) from by omega, Nat.pow_add]
    exact Nat.mul_le_mul (h x List.mem_cons_self) (ih fun y hy => h y (List.mem_cons_of_mem _ hy))
/-- the greatest power of p in one of some numbers -/
def maxE : List Nat → Nat → Nat
  | [], _ => 0
  | l :: r, p => max (vp p 8 l) (maxE r p)
theorem maxE_le (ls : List Nat) (p : Nat) : maxE ls p ≤ 8 := by
  induction ls with
  | nil => exact Nat.zero_le _
  | cons l r ih => exact Nat.max_le.2 ⟨vp_le _ _ _, ih⟩
theorem maxE_mem {ls : List Nat} {l : Nat} (h : l ∈ ls) (p : Nat) : vp p 8 l ≤ maxE ls p := by
  induction ls with
  | nil => cases h
  | cons x r ih =>
    cases h with
    | head => exact Nat.le_max_left _ _
    | tail _ h => exact Nat.le_trans (ih h) (Nat.le_max_right _ _)
theorem sumE_zero (L : List (Nat × Nat)) : sumE L (maxE []) = 0 := by
  induction L with
  | nil => rfl
  | cons x r ih => simp only [sumE, ih]; rfl
theorem maxE_sum {ls : List Nat} (h : ∀ l ∈ ls, 0 < l ∧ l < 257) : sumE PL (maxE ls) ≤ ls.sum := by
  induction ls with
  | nil => rw [sumE_zero]; exact Nat.zero_le _
  | cons l r ih =>
    have h1 := sumE_max (fun p => vp p 8 l) (maxE r) PL
    have h2 := vp_sum l (h l List.mem_cons_self).2 (h l List.mem_cons_self).1
    have h3 := ih fun y hy => h y (List.mem_cons_of_mem _ hy)
    rw [List.sum_cons]
    have h4 : sumE PL (maxE (l :: r)) = sumE PL (fun p => max (vp p 8 l) (maxE r p)) := rfl
    omega
theorem le_sum {ls : List Nat} {l : Nat} (h : l ∈ ls) : l ≤ ls.sum := by
  induction ls with
  | nil => cases h
  | cons x r ih =>
    rw [List.sum_cons]
    cases h with
    | head => omega
    | tail _ h => have := ih h; omega
theorem le_of_pow8 {M a b : Nat} (h : M ^ 8 ≤ 2 ^ b) (hb : b ≤ a * 8) : M ≤ 2 ^ a := by
  rcases Nat.lt_or_ge (2 ^ a) M with hlt | hge
  · exfalso
    have h1 : (2 ^ a) ^ 8 < M ^ 8 := Nat.pow_lt_pow_left hlt (by decide)
    have h2 : 2 ^ b ≤ 2 ^ (a * 8) := Nat.pow_le_pow_right (by decide) hb
    rw [Nat.pow_mul] at h2
    omega
  · exact hge
/-- numbers with a sum of at most 256 have a common multiple of at most 2^54 -/
theorem lcm_bd (ls : List Nat) (h : ∀ l ∈ ls, 0 < l) (hs : ls.sum ≤ 256) : ∃ M, 0 < M ∧ M ≤ 2 ^ 54 ∧ ∀ l ∈ ls, l ∣ M := by
  have h1 : ∀ l ∈ ls, 0 < l ∧ l < 257 := fun l hl => ⟨h l hl, by have := le_sum hl; omega⟩
  have hsum := maxE_sum h1
  refine ⟨prodE PL (maxE ls), prodE_pos PL_pos, ?_, fun l hl => Nat.dvd_trans (vp_dvd l (h1 l hl).2 (h1 l hl).1) (prodE_dvd (fun p => maxE_mem hl p) PL)⟩
  have hb := prodE_bd (E := maxE ls) PL (fun x hx => by
    have ht := termE_le (E := maxE ls) hx
    refine PL_ok x hx (maxE ls x.1) (by have := maxE_le ls x.1; omega) ?_
    by_cases e : maxE ls x.1 = 0
    · rw [e, Nat.pow_zero]; omega
    · unfold termE tE at ht
      rw [if_neg e] at ht
      omega)
  exact le_of_pow8 hb (by rw [sumC_PL]; omega)

/-- how many numbers below n have a mark -/
def cnt (f : Nat → Bool) : Nat → Nat
  | 0 => 0
  | n + 1 => cnt f n + (if f n = true then 1 else 0)
theorem cnt_le (f : Nat → Bool) (n : Nat) : cnt f n ≤ n := by
  induction n with
  | zero => exact Nat.le_refl _
  | succ n ih =>
    simp only [cnt]
    split <;> omega
theorem cnt_congr {f g : Nat → Bool} {n : Nat} (h : ∀ j, j < n → f j = g j) : cnt f n = cnt g n := by
  induction n with
  | zero => rfl
  | succ n ih =>
    simp only [cnt]
    rw [ih fun j hj => h j (by omega), h n (by omega)]
theorem cnt_add {f g : Nat → Bool} {n a : Nat} (ha : a < n) (hf : f a = false) (hg : ∀ j, g j = (f j || a == j)) : cnt g n = cnt f n + 1 := by
  induction n with
  | zero => omega
  | succ n ih =>
    simp only [cnt]
    by_cases e : a = n
    · subst e
      have h1 : cnt g a = cnt f a := cnt_congr fun j hj => by
        rw [hg]
        have : (a == j) = false := by simp; omega
        rw [this, Bool.or_false]
      rw [h1, hg a, hf]
      simp
    · have h1 := ih (by omega)
      have h2 : g n = f n := by
        rw [hg]
        have : (a == n) = false := by simp; omega
        rw [this, Bool.or_false]
      rw [h1, h2]
      omega
/-- the lengths of the cycles whose least number is below k -/
def cycN (xs : List Int) : Nat → List Nat
  | 0 => []
  | k + 1 => if seenB xs k k = false then cycN xs k ++ [per xs k] else cycN xs k
theorem cycL_map (xs : List Int) (k : Nat) : cycL xs k = (cycN xs k).map (fun n : Nat => (n : Int)) := by
  induction k with
  | zero => rfl
  | succ k ih =>
    simp only [cycL, cycN]
    split
    · rw [ih, List.map_append]; rfl
    · exact ih
/-- what has been seen behind i steps from k -/
def seenJ (xs : List Int) (k i j : Nat) : Bool := seenB xs k j || (List.range i).any fun q => it xs q k == j
theorem seenJ_succ (xs : List Int) (k i j : Nat) : seenJ xs k (i + 1) j = (seenJ xs k i j || it xs i k == j) := by
  unfold seenJ
  rw [List.range_succ, List.any_append]
  simp [Bool.or_assoc]
section
variable {xs : List Int} (P : Pm xs)
include P
theorem seenJ_new {k i : Nat} (hk : k < xs.length) (h : seenB xs k k = false) (hi : i < per xs k) : seenJ xs k i (it xs i k) = false := by
  unfold seenJ
  rw [seenB_it P hk, h, Bool.false_or, List.any_eq_false]
  intro q hq
  have := it_ne P hk (List.mem_range.1 hq) hi
  simpa using this
theorem cnt_seenJ {k : Nat} (hk : k < xs.length) (h : seenB xs k k = false) (i : Nat) (hi : i ≤ per xs k) : cnt (seenJ xs k i) xs.length = cnt (seenB xs k) xs.length + i := by
  induction i with
  | zero => exact cnt_congr fun j _ => by simp [seenJ]
  | succ i ih =>
    rw [cnt_add (f := seenJ xs k i) (a := it xs i k) (it_lt P hk) (seenJ_new P hk h (by omega)) (fun j => seenJ_succ xs k i j), ih (by omega)]
    omega
theorem cycN_sum {k : Nat} (hk : k ≤ xs.length) : (cycN xs k).sum = cnt (seenB xs k) xs.length := by
  induction k with
  | zero =>
    have : cnt (seenB xs 0) xs.length = cnt (fun _ => false) xs.length := cnt_congr fun j _ => seenB_zero j
    rw [this]
    simp only [cycN, List.sum_nil]
    generalize xs.length = n
    induction n with
    | zero => rfl
    | succ n ih => simp only [cnt]; rw [← ih]; rfl
  | succ k ih =>
    have ih := ih (by omega)
    simp only [cycN]
    cases h : seenB xs k k with
    | false =>
      rw [if_pos rfl, List.sum_append, ih, List.sum_singleton]
      rw [← cnt_seenJ P (by omega) h _ (Nat.le_refl _)]
      exact cnt_congr fun j hj => (seenB_succ P (by omega) hj).symm
    | true =>
      rw [if_neg (by decide), ih]
      exact cnt_congr fun j hj => (seenB_old P (by omega) hj h).symm
theorem cycN_pos {k : Nat} (hk : k ≤ xs.length) : ∀ l ∈ cycN xs k, 0 < l := by
  induction k with
  | zero => intro l hl; cases hl
  | succ k ih =>
    intro l hl
    simp only [cycN] at hl
    split at hl
    · rw [List.mem_append] at hl
      rcases hl with h | h
      · exact ih (by omega) l h
      · rw [List.mem_singleton] at h
        have := (per_spec P (k := k) (by omega)).1
        omega
    · exact ih (by omega) l hl
theorem per_mem {k j : Nat} (hk : k ≤ xs.length) (hj : j < xs.length) (h : seenB xs k j = true) : per xs j ∈ cycN xs k := by
  induction k with
  | zero => rw [seenB_zero] at h; cases h
  | succ k ih =>
    simp only [cycN]
    cases hq : seenB xs k k with
    | false =>
      rw [if_pos rfl, List.mem_append]
      rw [seenB_succ P (by omega) hj, Bool.or_eq_true, List.any_eq_true] at h
      rcases h with h | ⟨i, _, e⟩
      · exact .inl (ih (by omega) h)
      · rw [beq_iff_eq] at e
        rw [← e, per_it P (by omega), List.mem_singleton]
        exact .inr rfl
    | true =>
      rw [if_neg (by decide)]
      exact ih (by omega) (by rwa [seenB_old P (by omega) hj hq] at h)
end
/-- the least common multiple of the periods of the numbers below k -/
def ordN (xs : List Int) : Nat → Nat
  | 0 => 1
  | k + 1 => Nat.lcm (ordN xs k) (per xs k)
/-- the least common multiple of the first k numbers of a list -/
def lcmT (ls : List Int) : Nat → Nat
  | 0 => 1
  | k + 1 => Nat.lcm (lcmT ls k) (ls.getD k 0).toNat
theorem lcmT_app (ls ms : List Int) (k : Nat) (hk : k ≤ ls.length) : lcmT (ls ++ ms) k = lcmT ls k := by
  induction k with
  | zero => rfl
  | succ k ih =>
    simp only [lcmT]
    rw [ih (by omega)]
    congr 2
    simp [List.getD, List.getElem?_append_left (show k < ls.length by omega)]
theorem ordN_dvd (xs : List Int) {k n : Nat} (h : k ≤ n) : ordN xs k ∣ ordN xs n := by
  induction n with
  | zero => obtain rfl : k = 0 := by omega
            exact Nat.dvd_refl _
  | succ n ih =>
    by_cases e : k = n + 1
    · subst e; exact Nat.dvd_refl _
    · exact Nat.dvd_trans (ih (by omega)) (Nat.dvd_lcm_left _ _)
theorem lcmT_dvd (ls : List Int) {k n : Nat} (h : k ≤ n) : lcmT ls k ∣ lcmT ls n := by
  induction n with
  | zero => obtain rfl : k = 0 := by omega
            exact Nat.dvd_refl _
  | succ n ih =>
    by_cases e : k = n + 1
    · subst e; exact Nat.dvd_refl _
    · exact Nat.dvd_trans (ih (by omega)) (Nat.dvd_lcm_left _ _)
theorem per_dvd (xs : List Int) {j n : Nat} (h : j < n) : per xs j ∣ ordN xs n := Nat.dvd_trans (Nat.dvd_lcm_right _ _) (ordN_dvd xs (show j + 1 ≤ n from h))
section
variable {xs : List Int} (P : Pm xs)
include P
theorem lcmT_cyc {k : Nat} (hk : k ≤ xs.length) : lcmT (cycL xs k) (cycL xs k).length = ordN xs k := by
  induction k with
  | zero => rfl
  | succ k ih =>
    have ih := ih (by omega)
    simp only [cycL, ordN]
    cases hq : seenB xs k k with
    | false =>
      rw [if_pos rfl, List.length_append, List.length_singleton]
      simp only [lcmT]
      rw [lcmT_app _ _ _ (Nat.le_refl _), ih]
      congr 1
      simp [List.getD]
    | true =>
      rw [if_neg (by decide), ih]
      obtain ⟨i, hi⟩ := (seenB_iff P (by omega)).1 hq
      have h1 := per_dvd xs hi
      rw [per_it P (by omega)] at h1
      exact (Nat.lcm_eq_left h1).symm
theorem ordN_pos {k : Nat} (hk : k ≤ xs.length) : 0 < ordN xs k := by
  induction k with
  | zero => exact Nat.one_pos
  | succ k ih => exact Nat.lcm_pos (ih (by omega)) (per_spec P (by omega)).1
omit P in
theorem ordN_lcm {M k : Nat} (hk : k ≤ xs.length) (h : ∀ j, j < k → per xs j ∣ M) : ordN xs k ∣ M := by
  induction k with
  | zero => exact Nat.one_dvd _
  | succ k ih => exact Nat.lcm_dvd (ih (by omega) fun j hj => h j (by omega)) (h k (by omega))
theorem ordN_bd (h256 : xs.length ≤ 256) {k : Nat} (hk : k ≤ xs.length) : ordN xs k ≤ 18014398509481984 := by
  have hs := cycN_sum P (Nat.le_refl xs.length)
  have hc := cnt_le (seenB xs xs.length) xs.length
  obtain ⟨M, h0, h1, h2⟩ := lcm_bd (cycN xs xs.length) (cycN_pos P (Nat.le_refl _)) (by omega)
  have hd : ordN xs k ∣ M := ordN_lcm hk fun j hj => h2 _ (per_mem P (Nat.le_refl _) (by omega) ((seenB_iff P (by omega)).2 ⟨0, by show j < xs.length; omega⟩))
  exact Nat.le_trans (Nat.le_of_dvd h0 hd) h1
end
end Go.Proofs.Ytfpnjahdjppeaaa
