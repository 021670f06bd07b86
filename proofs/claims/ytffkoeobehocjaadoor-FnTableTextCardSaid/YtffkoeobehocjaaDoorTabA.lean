/- Contracts of both TableBack, TableThen and TableKeeps. -/
import Derived.Test.YtffkoeobehocjaaDoorTabV
import Derived.Test.YtffkoeobehocjaaDoorOnes
namespace Go.Proofs.YtffkoeobehocjaaDoor
open Go.RowKit
set_option linter.unusedVariables false

theorem okP_at {m : Int} {xs : List Int} {n k : Nat} (h : okP m xs n = true) (hk : k < n) : inB (xs.getD k 0) 0 m = true := by
  have h1 : okP m xs (k + 1) = true := by
    rcases hq : okP m xs (k + 1) with _ | _
    · rw [okP_le (n := n) (by omega) hq] at h; exact h
    · rfl
  simp only [okP, Bool.and_eq_true] at h1
  exact h1.2.1
theorem tblB_t {l : Int} {xs : List Int} (h : tblB l xs = true) : inB l 1 8 = true ∧ (xs.length : Int) = pw l ∧ okP (pw l - 1) xs xs.length = true := by
  unfold tblB at h
  rw [Bool.and_eq_true, Bool.and_eq_true] at h
  exact ⟨h.1, of_decide_eq_true h.2.1, h.2.2⟩
/-- a valid table has 2 to 256 words, each below its length -/
theorem tblB_bd {l : Int} {xs : List Int} (h : tblB l xs = true) : 2 ≤ xs.length ∧ xs.length ≤ 256 ∧ ∀ k, k < xs.length → 0 ≤ xs.getD k 0 ∧ xs.getD k 0 < xs.length := by
  obtain ⟨h1, h2, h3⟩ := tblB_t h
  have hlv := inB_t h1
  have hp := pw_bd hlv.1 hlv.2
  refine ⟨by omega, by omega, fun k hk => ?_⟩
  have := inB_t (okP_at h3 hk)
  omega
theorem tblB_at {l : Int} {xs : List Int} (h : tblB l xs = true) {k : Nat} (hk : k < xs.length) : ∃ t : Nat, xs.getD k 0 = (t : Int) ∧ t < xs.length := by
  have := (tblB_bd h).2.2 k hk
  exact ⟨(xs.getD k 0).toNat, by omega, by omega⟩

/-- where the words of the first k places lie -/
def backF (xs : List Int) : Nat → Nat → Int
  | 0, _ => 0
  | k + 1, j => if (j : Int) = xs.getD k 0 then (k : Int) else backF xs k j
def backL (xs : List Int) : List Int := (List.range xs.length).map fun j => backF xs xs.length j
theorem backL_len (xs : List Int) : (backL xs).length = xs.length := by simp [backL]
theorem backL_at (xs : List Int) {j : Nat} (h : j < xs.length) : (backL xs).getD j 0 = backF xs xs.length j := by
  simp [backL, List.getD, List.getElem?_map, List.getElem?_range h]
/-- what TableBack answers -/
def tblBack (l : Int) (xs : List Int) : List Int := if tblB l xs = true then backL xs else []
theorem tblBack_y {l : Int} {xs : List Int} (h : tblB l xs = true) : tblBack l xs = backL xs := if_pos h
theorem tblBack_n {l : Int} {xs : List Int} (h : tblB l xs = false) : tblBack l xs = [] := if_neg (by rw [h]; decide)

theorem tblBack_bd (l : Int) (xs : List Int) (h : xs.length ≤ 1048576) : (tblBack l xs).length ≤ 1048576 := by
  unfold tblBack
  split
  · rw [backL_len]; exact h
  · simp

end Go.Proofs.YtffkoeobehocjaaDoor
