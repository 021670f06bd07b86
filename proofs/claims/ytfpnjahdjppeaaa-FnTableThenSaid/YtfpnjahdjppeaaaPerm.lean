/- Lists that exchange the numbers below their length: the steps from a number, its period, and which numbers are the least of their cycle. No program is in sight. -/
import Derived.Test.YtfpnjahdjppeaaaTabA
namespace Go.Proofs.Ytfpnjahdjppeaaa
open Go.RowKit
set_option linter.unusedVariables false

theorem pigeon : ∀ (n : Nat) (f : Nat → Nat), (∀ i, i ≤ n → f i < n) → ∃ i j, i < j ∧ j ≤ n ∧ f i = f j := by
  intro n
  induction n with
  | zero => intro f h; exact absurd (h 0 (Nat.le_refl _)) (by omega)
  | succ n ih =>
    intro f h
    by_cases hx : ∃ i, i ≤ n ∧ f i = f (n + 1)
    · obtain ⟨i, hi, e⟩ := hx
      exact ⟨i, n + 1, by omega, Nat.le_refl _, e⟩
    · have hx' : ∀ i, i ≤ n → f i ≠ f (n + 1) := fun i hi e => hx ⟨i, hi, e⟩
      have key := ih (fun i => if f i = n then f (n + 1) else f i) (fun i hi => by
        have h1 := h i (by omega)
        have h2 := h (n + 1) (by omega)
        have h3 := hx' i hi
        show (if f i = n then f (n + 1) else f i) < n
        by_cases e : f i = n
        · rw [if_pos e]; omega
        · rw [if_neg e]; omega)
      obtain ⟨i, j, hij, hj, e⟩ := key
      refine ⟨i, j, hij, by omega, ?_⟩
      have h3 := hx' i (by omega)
      have h4 := hx' j hj
      by_cases e1 : f i = n <;> by_cases e2 : f j = n
      · omega
      · rw [if_pos e1, if_neg e2] at e; omega
      · rw [if_neg e1, if_pos e2] at e; omega
      · rw [if_neg e1, if_neg e2] at e; exact e

/-- the number behind another one -/
def nx (xs : List Int) (k : Nat) : Nat := (xs.getD k 0).toNat
/-- the number i steps behind another one -/
def it (xs : List Int) : Nat → Nat → Nat
  | 0, k => k
  | i + 1, k => nx xs (it xs i k)
/-- a list that exchanges the numbers below its length -/
structure Pm (xs : List Int) : Prop where
  nn : ∀ k, k < xs.length → xs.getD k 0 = (nx xs k : Int)
  lt : ∀ k, k < xs.length → nx xs k < xs.length
  inj : ∀ i j, i < xs.length → j < xs.length → nx xs i = nx xs j → i = j

theorem hasB_mem {zs : List Int} {x : Int} : hasB zs x = true ↔ x ∈ zs := by
  unfold hasB
  rw [List.any_eq_true]
  constructor
  · rintro ⟨y, hy, e⟩
    rw [beq_iff_eq] at e
    exact e ▸ hy
  · intro h
    exact ⟨x, h, by simp⟩
theorem okP_new {m : Int} {xs : List Int} {n k : Nat} (h : okP m xs n = true) (hk : k < n) : hasB (xs.take k) (xs.getD k 0) = false := by
  have h1 : okP m xs (k + 1) = true := by
    rcases hq : okP m xs (k + 1) with _ | _
    · rw [okP_le (n := n) (by omega) hq] at h; exact h
    · rfl
  simp only [okP, Bool.and_eq_true] at h1
  simpa using h1.2.2
theorem okP_of {m : Int} {xs : List Int} {n : Nat} (h1 : ∀ k, k < n → inB (xs.getD k 0) 0 m = true) (h2 : ∀ k, k < n → hasB (xs.take k) (xs.getD k 0) = false) : okP m xs n = true := by
  induction n with
  | zero => rfl
  | succ n ih =>
    simp only [okP]
    rw [ih (fun k hk => h1 k (by omega)) (fun k hk => h2 k (by omega)), h1 n (by omega), h2 n (by omega)]
    rfl
theorem getD_take_mem {xs : List Int} {i k : Nat} (h : i < k) (hl : i < xs.length) : xs.getD i 0 ∈ xs.take k := by
  have : xs.getD i 0 = (xs.take k)[i]'(by rw [List.length_take]; omega) := by
    simp [List.getD, List.getElem?_eq_getElem hl]
  rw [this]
  exact List.getElem_mem _
theorem tblB_pm {l : Int} {xs : List Int} (h : tblB l xs = true) : Pm xs := by
  obtain ⟨h1, h2, h3⟩ := tblB_t h
  have hbd := tblB_bd h
  have hn : ∀ k, k < xs.length → xs.getD k 0 = (nx xs k : Int) := fun k hk => by
    have := hbd.2.2 k hk
    unfold nx
    omega
  refine ⟨hn, fun k hk => ?_, ?_⟩
  · have := hbd.2.2 k hk
    have := hn k hk
    omega
  · have key : ∀ i j, i < j → j < xs.length → nx xs i ≠ nx xs j := fun i j hij hj e => by
      have h4 := okP_new h3 hj
      have h5 := getD_take_mem (xs := xs) hij (by omega)
      rw [hn i (by omega), e, ← hn j hj] at h5
      rw [hasB_mem.2 h5] at h4
      cases h4
    intro i j hi hj e
    rcases Nat.lt_trichotomy i j with h | h | h
    · exact absurd e (key i j h hj)
    · exact h
    · exact absurd e.symm (key j i h hi)
/-- the other way round -/
theorem pm_tblB {l : Int} {xs : List Int} (h : Pm xs) (h1 : inB l 1 8 = true) (h2 : (xs.length : Int) = pw l) : tblB l xs = true := by
  refine tblB_yes h1 h2 (okP_of (fun k hk => ?_) (fun k hk => ?_))
  · have := h.lt k hk
    rw [h.nn k hk]
    exact inB_of (by omega)
  · rcases hq : hasB (xs.take k) (xs.getD k 0) with _ | _
    · rfl
    · exfalso
      have hm := hasB_mem.1 hq
      obtain ⟨i, hi, e⟩ := List.getElem_of_mem hm
      rw [List.length_take] at hi
      have hik : i < k := by omega
      have hx : xs.getD i 0 = xs.getD k 0 := by
        rw [← e]
        simp [List.getD, List.getElem?_eq_getElem (show i < xs.length by omega)]
      have := h.inj i k (by omega) hk (by unfold nx; rw [hx])
      omega

section
variable {xs : List Int} (P : Pm xs)
include P
theorem it_lt {i k : Nat} (hk : k < xs.length) : it xs i k < xs.length := by
  induction i with
  | zero => exact hk
  | succ i ih => exact P.lt _ ih
theorem it_inj {i a b : Nat} (ha : a < xs.length) (hb : b < xs.length) (h : it xs i a = it xs i b) : a = b := by
  induction i with
  | zero => exact h
  | succ i ih => exact ih (P.inj _ _ (it_lt P ha) (it_lt P hb) h)
omit P in
theorem it_add (i j k : Nat) : it xs (i + j) k = it xs i (it xs j k) := by
  induction i with
  | zero => rw [Nat.zero_add]; rfl
  | succ i ih => rw [Nat.succ_add]; simp only [it]; rw [ih]
theorem it_back {k : Nat} (hk : k < xs.length) : ∃ m, 1 ≤ m ∧ m ≤ xs.length ∧ it xs m k = k := by
  obtain ⟨i, j, hij, hj, e⟩ := pigeon xs.length (fun i => it xs i k) (fun i _ => it_lt P hk)
  refine ⟨j - i, by omega, by omega, ?_⟩
  have h2 : it xs i (it xs (j - i) k) = it xs i k := by
    rw [← it_add, show i + (j - i) = j from by omega]
    exact e.symm
  exact it_inj P (it_lt P hk) hk h2
end

/-- the least number of steps, from m on, that leads back to k -/
def perF (xs : List Int) (k : Nat) : Nat → Nat → Nat
  | 0, m => m
  | f + 1, m => if it xs m k = k then m else perF xs k f (m + 1)
/-- the period of a number -/
def per (xs : List Int) (k : Nat) : Nat := perF xs k xs.length 1
theorem perF_spec (xs : List Int) (k : Nat) : ∀ (f m q : Nat), m ≤ q → q ≤ m + f → it xs q k = k → (m ≤ perF xs k f m ∧ perF xs k f m ≤ q ∧ it xs (perF xs k f m) k = k ∧ ∀ i, m ≤ i → i < perF xs k f m → it xs i k ≠ k) := by
  intro f
  induction f with
  | zero =>
    intro m q h1 h2 h3
    have : q = m := by omega
    subst this
    exact ⟨Nat.le_refl _, Nat.le_refl _, h3, fun i a b => by simp only [perF] at b; omega⟩
  | succ f ih =>
    intro m q h1 h2 h3
    simp only [perF]
    by_cases e : it xs m k = k
    · rw [if_pos e]
      exact ⟨Nat.le_refl _, h1, e, fun i a b => by omega⟩
    · rw [if_neg e]
      have hne : q ≠ m := fun h => e (h ▸ h3)
      obtain ⟨a, b, c, d⟩ := ih (m + 1) q (by omega) (by omega) h3
      refine ⟨by omega, b, c, fun i hi hlt => ?_⟩
      by_cases h : i = m
      · rw [h]; exact e
      · exact d i (by omega) hlt

section
variable {xs : List Int} (P : Pm xs)
include P
theorem per_spec {k : Nat} (hk : k < xs.length) : 1 ≤ per xs k ∧ per xs k ≤ xs.length ∧ it xs (per xs k) k = k ∧ ∀ i, 1 ≤ i → i < per xs k → it xs i k ≠ k := by
  obtain ⟨m, h1, h2, h3⟩ := it_back P hk
  obtain ⟨a, b, c, d⟩ := perF_spec xs k xs.length 1 m h1 (by omega) h3
  exact ⟨a, by unfold per; omega, c, d⟩
theorem it_per {k : Nat} (hk : k < xs.length) (q : Nat) : it xs (q * per xs k) k = k := by
  induction q with
  | zero => rw [Nat.zero_mul]; rfl
  | succ q ih => rw [Nat.succ_mul, it_add, (per_spec P hk).2.2.1, ih]
theorem it_mod {k : Nat} (hk : k < xs.length) (i : Nat) : it xs i k = it xs (i % per xs k) k := by
  have h : i = i % per xs k + i / per xs k * per xs k := by have := Nat.mod_add_div i (per xs k); rw [Nat.mul_comm] at this; omega
  conv => lhs; rw [h]
  rw [it_add, it_per P hk]
theorem it_dvd {k : Nat} (hk : k < xs.length) {i : Nat} (h : it xs i k = k) : per xs k ∣ i := by
  rw [it_mod P hk] at h
  have hp := per_spec P hk
  have hm := Nat.mod_lt i (show 0 < per xs k by omega)
  rcases Nat.eq_zero_or_pos (i % per xs k) with h0 | h0
  · exact Nat.dvd_of_mod_eq_zero h0
  · exact absurd h (hp.2.2.2 _ h0 hm)
theorem it_ne {k : Nat} (hk : k < xs.length) {i j : Nat} (hij : i < j) (hj : j < per xs k) : it xs i k ≠ it xs j k := fun e => by
  have h2 : it xs i (it xs (j - i) k) = it xs i k := by
    rw [← it_add, show i + (j - i) = j from by omega]
    exact e.symm
  have h3 := it_inj P (it_lt P hk) hk h2
  exact (per_spec P hk).2.2.2 (j - i) (by omega) (by omega) h3
/-- from every number of a cycle one comes back -/
theorem it_round {k : Nat} (hk : k < xs.length) (i : Nat) : ∃ j, j < per xs k ∧ it xs j (it xs i k) = k := by
  have hp := per_spec P hk
  have hm := Nat.mod_lt i (show 0 < per xs k by omega)
  by_cases h0 : i % per xs k = 0
  · refine ⟨0, by omega, ?_⟩
    rw [it_mod P hk i, h0]
    rfl
  · refine ⟨per xs k - i % per xs k, by omega, ?_⟩
    rw [it_mod P hk i, ← it_add, show per xs k - i % per xs k + i % per xs k = per xs k from by omega]
    exact hp.2.2.1
theorem per_it {k : Nat} (hk : k < xs.length) (i : Nat) : per xs (it xs i k) = per xs k := by
  have key : ∀ k, k < xs.length → ∀ i, per xs (it xs i k) ∣ per xs k := fun k hk i => by
    refine it_dvd P (it_lt P hk) ?_
    rw [← it_add, Nat.add_comm, it_add, (per_spec P hk).2.2.1]
  refine Nat.dvd_antisymm (key k hk i) ?_
  obtain ⟨j, _, e⟩ := it_round P hk i
  have := key (it xs i k) (it_lt P hk) j
  rwa [e] at this
end

/-- whether a number below k lies on the cycle of j -/
def seenB (xs : List Int) (k j : Nat) : Bool := (List.range xs.length).any fun i => decide (it xs i j < k)
section
variable {xs : List Int} (P : Pm xs)
include P
theorem seenB_iff {k j : Nat} (hj : j < xs.length) : seenB xs k j = true ↔ ∃ i, it xs i j < k := by
  unfold seenB
  rw [List.any_eq_true]
  constructor
  · rintro ⟨i, _, h⟩
    exact ⟨i, of_decide_eq_true h⟩
  · rintro ⟨i, h⟩
    have hp := per_spec P hj
    have hm := Nat.mod_lt i (show 0 < per xs j by omega)
    refine ⟨i % per xs j, List.mem_range.2 (by omega), decide_eq_true ?_⟩
    rwa [← it_mod P hj]
theorem seenB_it {k j : Nat} (hj : j < xs.length) (i : Nat) : seenB xs k (it xs i j) = seenB xs k j := by
  rw [Bool.eq_iff_iff, seenB_iff P (it_lt P hj), seenB_iff P hj]
  constructor
  · rintro ⟨a, h⟩
    exact ⟨a + i, by rwa [it_add]⟩
  · rintro ⟨a, h⟩
    obtain ⟨q, _, e⟩ := it_round P hj i
    exact ⟨a + q, by rwa [it_add, e]⟩
omit P in
theorem seenB_zero (j : Nat) : seenB xs 0 j = false := by
  unfold seenB
  rw [List.any_eq_false]
  intro i _
  simp
/-- what has been seen behind i steps from k -/
theorem seenB_succ {k j : Nat} (hk : k < xs.length) (hj : j < xs.length) : seenB xs (k + 1) j = (seenB xs k j || (List.range (per xs k)).any fun i => it xs i k == j) := by
  rw [Bool.eq_iff_iff, Bool.or_eq_true, seenB_iff P hj, seenB_iff P hj, List.any_eq_true]
  constructor
  · rintro ⟨i, h⟩
    by_cases h1 : it xs i j < k
    · exact .inl ⟨i, h1⟩
    · have e : it xs i j = k := by omega
      right
      obtain ⟨q, hq, e2⟩ := it_round P hj i
      rw [e] at e2
      have hpp : per xs k = per xs j := by rw [← e]; exact per_it P hj i
      exact ⟨q, List.mem_range.2 (by omega), by simp [e2]⟩
  · rintro (⟨i, h⟩ | ⟨i, _, e⟩)
    · exact ⟨i, by omega⟩
    · rw [beq_iff_eq] at e
      obtain ⟨q, _, e2⟩ := it_round P hk i
      rw [e] at e2
      exact ⟨q, by omega⟩
/-- a number that has been seen: nothing new -/
theorem seenB_old {k j : Nat} (hk : k < xs.length) (hj : j < xs.length) (h : seenB xs k k = true) : seenB xs (k + 1) j = seenB xs k j := by
  rw [seenB_succ P hk hj]
  rcases hq : (List.range (per xs k)).any fun i => it xs i k == j with _ | _
  · rw [Bool.or_false]
  · rw [List.any_eq_true] at hq
    obtain ⟨i, _, e⟩ := hq
    rw [beq_iff_eq] at e
    rw [← e, seenB_it P hk, h]
    rfl
/-- the least of its cycle -/
theorem seenB_first {k : Nat} (hk : k < xs.length) : seenB xs k k = false ↔ ∀ i, 1 ≤ i → i < per xs k → k < it xs i k := by
  rw [← Bool.not_eq_true, seenB_iff P hk]
  constructor
  · intro h i h1 h2
    have h3 : ¬ it xs i k < k := fun hh => h ⟨i, hh⟩
    have h4 := (per_spec P hk).2.2.2 i h1 h2
    omega
  · rintro h ⟨i, hi⟩
    rw [it_mod P hk] at hi
    have hm := Nat.mod_lt i (show 0 < per xs k by have := per_spec P hk; omega)
    rcases Nat.eq_zero_or_pos (i % per xs k) with h0 | h0
    · rw [h0] at hi; exact absurd hi (by simp [it])
    · have := h _ h0 hm; omega
end

/-- the lengths of the cycles whose least number is below k -/
def cycL (xs : List Int) : Nat → List Int
  | 0 => []
  | k + 1 => if seenB xs k k = false then cycL xs k ++ [(per xs k : Int)] else cycL xs k
theorem cycL_len (xs : List Int) (k : Nat) : (cycL xs k).length ≤ k := by
  induction k with
  | zero => simp [cycL]
  | succ k ih =>
    simp only [cycL]
    split
    · simp; omega
    · omega
end Go.Proofs.Ytfpnjahdjppeaaa
