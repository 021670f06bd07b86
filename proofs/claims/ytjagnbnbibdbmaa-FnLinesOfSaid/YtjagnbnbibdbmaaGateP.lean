/- Plain laws of gates: one line more; two equal lines. No program is in sight. -/
import Derived.Test.YtjagnbnbibdbmaaGateS
namespace Go.Proofs.Ytjagnbnbibdbmaa
open Go.RowKit
set_option linter.unusedVariables false

theorem okP_mono {m m' : Int} (hm : m ≤ m') {zs : List Int} {n : Nat} (h : okP m zs n = true) : okP m' zs n = true := by
  induction n with
  | zero => rfl
  | succ n ih =>
    simp only [okP, Bool.and_eq_true] at h ⊢
    have h1 := inB_t h.2.1
    exact ⟨ih h.1, inB_of ⟨by omega, by omega⟩, h.2.2⟩
theorem gateB_more {l : Int} {g : Gt} (h : gateB l g = true) (h8 : ¬ l = 8) : gateB (l + 1) g = true := by
  unfold gateB at *
  simp only [Bool.and_eq_true] at h ⊢
  have h1 := inB_t h.1.1.1
  exact ⟨⟨⟨inB_of ⟨by omega, by omega⟩, h.1.1.2⟩, okP_mono (by omega) h.1.2⟩, h.2⟩
theorem gateB_twice (l a : Int) : gateB l ⟨1, a, a, 0⟩ = false := by
  have e : linesOf ⟨1, a, a, 0⟩ = [a, a] := rfl
  have h2 : okP (l - 1) [a, a] 2 = false := by
    simp [okP, hasB]
  unfold gateB
  rw [e]
  simp only [List.length_cons, List.length_nil, Nat.zero_add, Nat.reduceAdd]
  rw [h2]
  simp
theorem linesOf_none {g : Gt} (h : linesOf g = []) : g.k < 0 ∨ 4 < g.k := by
  unfold linesOf at h
  by_cases e0 : g.k = 0
  · rw [if_pos e0] at h; cases h
  · rw [if_neg e0] at h
    by_cases e1 : g.k = 1 ∨ g.k = 3
    · rw [if_pos e1] at h; cases h
    · rw [if_neg e1] at h
      by_cases e2 : g.k = 2 ∨ g.k = 4
      · rw [if_pos e2] at h; cases h
      · omega
theorem linesOf_first {g : Gt} (h : linesOf g ≠ []) : (linesOf g).getD 0 0 = g.a := by
  unfold linesOf at *
  by_cases e0 : g.k = 0
  · rw [if_pos e0]; rfl
  · rw [if_neg e0] at *
    by_cases e1 : g.k = 1 ∨ g.k = 3
    · rw [if_pos e1]; rfl
    · rw [if_neg e1] at *
      by_cases e2 : g.k = 2 ∨ g.k = 4
      · rw [if_pos e2]; rfl
      · rw [if_neg e2] at h; exact absurd rfl h
end Go.Proofs.Ytjagnbnbibdbmaa
