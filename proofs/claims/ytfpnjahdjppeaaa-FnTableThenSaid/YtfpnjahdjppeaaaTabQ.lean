/- Plain facts on tables: the order of a table. -/
import Derived.Test.YtfpnjahdjppeaaaTabP
import Derived.Test.YtfpnjahdjppeaaaTabO
namespace Go.Proofs.Ytfpnjahdjppeaaa
open Go.RowKit
set_option linter.unusedVariables false
set_option linter.unusedSimpArgs false

/-- a table so many times behind itself -/
def pwL (xs : List Int) : Nat → List Int
  | 0 => xs
  | q + 1 => thenL (pwL xs q) xs
theorem pwL_len (xs : List Int) (q : Nat) : (pwL xs q).length = xs.length := by
  induction q with
  | zero => rfl
  | succ q ih => simp only [pwL]; rw [thenL_len, ih]
theorem pwL_tbl {l : Int} {xs : List Int} (h : tblB l xs = true) (q : Nat) : tblB l (pwL xs q) = true := by
  induction q with
  | zero => exact h
  | succ q ih => exact then_tbl ih h
theorem pwL_nx {xs : List Int} {j : Nat} (hj : j < xs.length) (q : Nat) : nx (pwL xs q) j = it xs (q + 1) j := by
  induction q with
  | zero => rfl
  | succ q ih =>
    simp only [pwL]
    rw [nx_then (by rw [pwL_len]; exact hj), ih]
    rfl
/-- the first j words stay -/
def idP (ts : List Int) : Nat → Bool
  | 0 => true
  | j + 1 => idP ts j && (ts.getD j 0 == (j : Int))
theorem idP_iff (ts : List Int) (j : Nat) : idP ts j = true ↔ ∀ i, i < j → ts.getD i 0 = (i : Int) := by
  induction j with
  | zero => exact ⟨fun _ i h => by omega, fun _ => rfl⟩
  | succ j ih =>
    simp only [idP, Bool.and_eq_true, beq_iff_eq]
    rw [ih]
    constructor
    · rintro ⟨h1, h2⟩ i hi
      rcases Nat.lt_or_ge i j with h | h
      · exact h1 i h
      · obtain rfl : i = j := by omega
        exact h2
    · exact fun h => ⟨fun i hi => h i (by omega), h j (by omega)⟩
theorem prod_bd : ∀ (ls : List Nat), (∀ l ∈ ls, 0 < l ∧ l ≤ 16) → ls.prod ^ 3 ≤ 3 ^ ls.sum := by
  intro ls
  induction ls with
  | nil => intro _; simp
  | cons a t ih =>
    intro h
    have h1 := ih fun l hl => h l (List.mem_cons_of_mem _ hl)
    have h2 := h a (by simp)
    have h3 : a ^ 3 ≤ 3 ^ a := by
      have key : ∀ a, a < 17 → 0 < a → a ^ 3 ≤ 3 ^ a := by decide
      exact key a (by omega) h2.1
    rw [List.prod_cons, List.sum_cons, Nat.mul_pow, Nat.pow_add]
    exact Nat.mul_le_mul h3 h1
theorem mem_dvd_prod : ∀ (ls : List Nat) (l : Nat), l ∈ ls → l ∣ ls.prod := by
  intro ls
  induction ls with
  | nil => intro l h; cases h
  | cons a t ih =>
    intro l h
    rw [List.prod_cons]
    rcases List.mem_cons.1 h with rfl | h
    · exact Nat.dvd_mul_right _ _
    · exact Nat.dvd_trans (ih l h) (Nat.dvd_mul_left _ _)
theorem prod_pos : ∀ (ls : List Nat), (∀ l ∈ ls, 0 < l) → 0 < ls.prod := by
  intro ls
  induction ls with
  | nil => intro _; simp
  | cons a t ih =>
    intro h
    rw [List.prod_cons]
    exact Nat.mul_pos (h a (by simp)) (ih fun l hl => h l (List.mem_cons_of_mem _ hl))
section
variable {xs : List Int} (P : Pm xs)
include P
theorem it_ord {j : Nat} (hj : j < xs.length) : it xs (ordN xs xs.length) j = j := by
  obtain ⟨q, hq⟩ := per_dvd xs (n := xs.length) hj
  rw [hq, Nat.mul_comm]
  exact it_per P hj q
theorem ord_dvd {k : Nat} (h : ∀ j, j < xs.length → it xs k j = j) : ordN xs xs.length ∣ k :=
  ordN_lcm (Nat.le_refl _) fun j hj => it_dvd P hj (h j hj)
theorem pw_id {q : Nat} (hq : q + 1 ≤ ordN xs xs.length) : idP (pwL xs q) xs.length = decide (q + 1 = ordN xs xs.length) := by
  rw [Bool.eq_iff_iff, decide_eq_true_iff, idP_iff]
  constructor
  · intro h
    have hd : ordN xs xs.length ∣ q + 1 := ord_dvd P fun j hj => by
      have h1 := h j hj
      have h2 := pwL_nx hj q
      unfold nx at h2
      rw [h1] at h2
      omega
    have := Nat.le_of_dvd (by omega) hd
    omega
  · intro e j hj
    have h2 := pwL_nx hj q
    rw [e, it_ord P hj] at h2
    have h0 : 0 ≤ (pwL xs q).getD j 0 := by
      cases q with
      | zero => have := P.nn j hj; show 0 ≤ xs.getD j 0; omega
      | succ q =>
        simp only [pwL]
        rw [thenL_at (by rw [pwL_len]; exact hj)]
        have h3 : nx (pwL xs q) j < xs.length := by rw [pwL_nx hj q]; exact it_lt P hj
        have := P.nn _ h3
        omega
    unfold nx at h2
    omega
theorem ordN_small (h16 : xs.length ≤ 16) : ordN xs xs.length ≤ 350 := by
  have hs := cycN_sum P (Nat.le_refl xs.length)
  have hc := cnt_le (seenB xs xs.length) xs.length
  have hp := cycN_pos P (Nat.le_refl xs.length)
  have hb := prod_bd (cycN xs xs.length) fun l hl => ⟨hp l hl, by have := le_sum hl; omega⟩
  have hd : ordN xs xs.length ∣ (cycN xs xs.length).prod := ordN_lcm (Nat.le_refl _) fun j hj => mem_dvd_prod _ _ (per_mem P (Nat.le_refl _) hj ((seenB_iff P hj).2 ⟨0, by show j < xs.length; omega⟩))
  have h1 := Nat.le_of_dvd (prod_pos _ hp) hd
  have h2 : (3 : Nat) ^ (cycN xs xs.length).sum ≤ 3 ^ 16 := Nat.pow_le_pow_right (by omega) (by omega)
  rcases Nat.lt_or_ge 350 (cycN xs xs.length).prod with h | h
  · have h3 : 351 ^ 3 ≤ (cycN xs xs.length).prod ^ 3 := Nat.pow_le_pow_left h 3
    have h4 : (351 : Nat) ^ 3 ≤ 3 ^ 16 := by omega
    exact absurd h4 (by decide)
  · omega
theorem it_backL {i j : Nat} (hj : j < xs.length) : it (backL xs) i (it xs i j) = j := by
  induction i with
  | zero => rfl
  | succ i ih =>
    have h1 : it (backL xs) (i + 1) (it xs (i + 1) j) = it (backL xs) i (it (backL xs) 1 (it xs (i + 1) j)) := it_add i 1 _
    rw [h1]
    show it (backL xs) i (nx (backL xs) (nx xs (it xs i j))) = j
    rw [back_nx P (it_lt P hj), ih]
theorem ord_back_dvd : ordN (backL xs) (backL xs).length ∣ ordN xs xs.length :=
  ord_dvd (pm_back P) fun j hj => by
    rw [backL_len] at hj
    have := it_backL P (i := ordN xs xs.length) hj
    rwa [it_ord P hj] at this
theorem ord_back : ordN (backL xs) (backL xs).length = ordN xs xs.length := by
  refine Nat.dvd_antisymm (ord_back_dvd P) ?_
  have := ord_back_dvd (pm_back P)
  rwa [back_back P] at this
end
end Go.Proofs.Ytfpnjahdjppeaaa
