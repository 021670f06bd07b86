/- A word of a text is no longer than the text. -/
import Derived.Test.YtffkoeobehocjaaDoorCut
namespace Go.Proofs.YtffkoeobehocjaaDoor
set_option linter.unusedVariables false

theorem cutW_mem2 (l : List UInt8) (k : Nat) : ∀ x, x ∈ cutW l k → x.length ≤ l.length := by
  induction k with
  | zero => intro x hx; cases hx
  | succ k ih =>
    intro x hx
    unfold cutW at hx
    split at hx
    · rw [List.mem_append] at hx
      rcases hx with hx | hx
      · exact ih x hx
      · simp only [List.mem_singleton] at hx
        rw [hx]
        simp
        omega
    · exact ih x hx
theorem cutL_len2 (l : List UInt8) (j : Nat) : ((cutL l).getD j []).length ≤ l.length := by
  rw [List.getD_eq_getElem?_getD]
  by_cases h : j < (cutL l).length
  · rw [List.getElem?_eq_getElem h, Option.getD_some]
    have hm := List.getElem_mem h
    have : ∀ x, x ∈ cutL l → x.length ≤ l.length := by
      intro x hx
      unfold cutL at hx
      rw [List.mem_append] at hx
      rcases hx with hx | hx
      · exact cutW_mem2 l _ x hx
      · simp only [List.mem_singleton] at hx
        rw [hx]
        simp
    exact this _ hm
  · rw [List.getElem?_eq_none (by omega)]
    simp
end Go.Proofs.YtffkoeobehocjaaDoor
