/- Plain facts on tables: the table back. -/
import Derived.Test.YtfpnjahdjppeaaaPerm
import Derived.Test.YtfpnjahdjppeaaaTabT
import Derived.Test.YtfpnjahdjppeaaaTabA
namespace Go.Proofs.Ytfpnjahdjppeaaa
open Go.RowKit
set_option linter.unusedVariables false
set_option linter.unusedSimpArgs false

theorem ext_getD {xs ys : List Int} (h : xs.length = ys.length) (h2 : ∀ k, k < xs.length → xs.getD k 0 = ys.getD k 0) : xs = ys := by
  refine List.ext_getElem h fun i h1 h3 => ?_
  have := h2 i h1
  rw [List.getD_eq_getElem?_getD, List.getD_eq_getElem?_getD, List.getElem?_eq_getElem h1, List.getElem?_eq_getElem h3] at this
  exact this
theorem backF_is {xs : List Int} {n j k : Nat} (hk : k < n) (hj : (j : Int) = xs.getD k 0) (hu : ∀ i, i < n → (j : Int) = xs.getD i 0 → i = k) : backF xs n j = (k : Int) := by
  induction n with
  | zero => omega
  | succ n ih =>
    unfold backF
    by_cases h : (j : Int) = xs.getD n 0
    · rw [if_pos h, hu n (by omega) h]
    · rw [if_neg h]
      have hkn : k ≠ n := fun e => h (by rw [← e]; exact hj)
      exact ih (by omega) (fun i hi e => hu i (by omega) e)
section
variable {xs : List Int} (P : Pm xs)
include P
theorem back_at {k : Nat} (hk : k < xs.length) : (backL xs).getD (nx xs k) 0 = (k : Int) := by
  rw [backL_at xs (P.lt k hk)]
  refine backF_is hk (P.nn k hk).symm (fun i hi e => ?_)
  rw [P.nn i hi] at e
  exact P.inj i k hi hk (by omega)
theorem nx_surj {j : Nat} (hj : j < xs.length) : ∃ k, k < xs.length ∧ nx xs k = j := by
  obtain ⟨m, hm, _, h⟩ := it_back P hj
  obtain ⟨m', rfl⟩ : ∃ m', m = m' + 1 := ⟨m - 1, by omega⟩
  exact ⟨it xs m' j, it_lt P hj, h⟩
theorem back_nx {k : Nat} (hk : k < xs.length) : nx (backL xs) (nx xs k) = k := by
  unfold nx
  have := back_at P hk
  unfold nx at this
  rw [this]
  rfl
theorem pm_back : Pm (backL xs) := by
  refine ⟨fun j hj => ?_, fun j hj => ?_, fun i j hi hj e => ?_⟩
  · rw [backL_len] at hj
    obtain ⟨k, hk, rfl⟩ := nx_surj P hj
    rw [back_at P hk, back_nx P hk]
  · rw [backL_len] at hj ⊢
    obtain ⟨k, hk, rfl⟩ := nx_surj P hj
    rw [back_nx P hk]
    exact hk
  · rw [backL_len] at hi hj
    obtain ⟨k, hk, rfl⟩ := nx_surj P hi
    obtain ⟨q, hq, rfl⟩ := nx_surj P hj
    rw [back_nx P hk, back_nx P hq] at e
    rw [e]
theorem back_back : backL (backL xs) = xs := by
  refine ext_getD (by rw [backL_len, backL_len]) fun k hk => ?_
  rw [backL_len, backL_len] at hk
  have h1 := back_at (pm_back P) (k := nx xs k) (by rw [backL_len]; exact P.lt k hk)
  rw [back_nx P hk] at h1
  rw [h1, P.nn k hk]
end
theorem thenL_at {xs ys : List Int} {k : Nat} (hk : k < xs.length) : (thenL xs ys).getD k 0 = ys.getD (nx xs k) 0 := by
  unfold thenL nx
  simp [List.getD_eq_getElem?_getD, List.getElem?_map, List.getElem?_eq_getElem hk]
theorem then_back {xs : List Int} (P : Pm xs) {k : Nat} (hk : k < xs.length) : (thenL xs (backL xs)).getD k 0 = (k : Int) := by
  rw [thenL_at hk, back_at P hk]
theorem back_tbl {l : Int} {xs : List Int} (h : tblB l xs = true) : tblB l (backL xs) = true := by
  obtain ⟨h1, h2, _⟩ := tblB_t h
  exact pm_tblB (pm_back (tblB_pm h)) h1 (by rw [backL_len]; exact h2)
theorem nx_then {xs ys : List Int} {k : Nat} (hk : k < xs.length) : nx (thenL xs ys) k = nx ys (nx xs k) := by
  unfold nx
  rw [thenL_at hk]
  rfl
theorem pm_then {xs ys : List Int} (P : Pm xs) (Q : Pm ys) (hl : xs.length = ys.length) : Pm (thenL xs ys) := by
  refine ⟨fun k hk => ?_, fun k hk => ?_, fun i j hi hj e => ?_⟩
  · rw [thenL_len] at hk
    rw [thenL_at hk, nx_then hk, Q.nn _ (by rw [← hl]; exact P.lt k hk)]
  · rw [thenL_len] at hk ⊢
    rw [nx_then hk, hl]
    exact Q.lt _ (by rw [← hl]; exact P.lt k hk)
  · rw [thenL_len] at hi hj
    rw [nx_then hi, nx_then hj] at e
    exact P.inj i j hi hj (Q.inj _ _ (by rw [← hl]; exact P.lt i hi) (by rw [← hl]; exact P.lt j hj) e)
theorem then_tbl {l : Int} {xs ys : List Int} (h : tblB l xs = true) (h' : tblB l ys = true) : tblB l (thenL xs ys) = true := by
  obtain ⟨h1, h2, _⟩ := tblB_t h
  obtain ⟨_, h4, _⟩ := tblB_t h'
  exact pm_tblB (pm_then (tblB_pm h) (tblB_pm h') (by omega)) h1 (by rw [thenL_len]; exact h2)
end Go.Proofs.Ytfpnjahdjppeaaa
