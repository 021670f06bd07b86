/- Plain laws of formulas: a further step OpNot of the last bit turns it. -/
import Derived.Test.YtfnebpocngjcmaaFormO
namespace Go.Proofs.Ytfnebpocngjcmaa
open Go.RowKit
set_option linter.unusedVariables false

theorem allBits_app (w : Int) (i : Nat) (gs hs : List St) {k : Nat} (hk : k ≤ gs.length) : allBits w i (gs ++ hs) k = allBits w i gs k := by
  induction k with
  | zero => rfl
  | succ k ih =>
    have e : (gs ++ hs).getD k s0 = gs.getD k s0 := by
      rw [List.getD_eq_getElem?_getD, List.getD_eq_getElem?_getD, List.getElem?_append_left (by omega)]
    simp only [allBits]
    rw [ih (by omega), e]
theorem formOut_y {i w : Int} {gs : List St} (h : formB i gs = true) (h' : wordB i w = true) : formOut i gs w = (allBits w i.toNat gs gs.length).getD (i.toNat + gs.length - 1) 0 := by
  have hf := formB_t h
  have hl := formBits_len h h'
  unfold formOut
  rw [hl, if_neg (by omega), formBits_y h h', List.getD_eq_getElem?_getD, List.getD_eq_getElem?_getD, List.getElem?_drop]
  rw [show i.toNat + (gs.length - 1) = i.toNat + gs.length - 1 by omega]
theorem formOut_not {i w : Int} {gs : List St} (h : formB i gs = true) (h' : wordB i w = true) (h2 : formB i (gs ++ [⟨3, i + gs.length - 1, 0⟩]) = true) :
    formOut i (gs ++ [⟨3, i + gs.length - 1, 0⟩]) w = 1 - formOut i gs w := by
  have hf := formB_t h
  rw [formOut_y h h', formOut_y h2 h']
  have e1 : (gs ++ [(⟨3, i + gs.length - 1, 0⟩ : St)]).length = gs.length + 1 := by simp
  have e2 : (gs ++ [(⟨3, i + gs.length - 1, 0⟩ : St)]).getD gs.length s0 = ⟨3, i + gs.length - 1, 0⟩ := by
    rw [List.getD_eq_getElem?_getD, List.getElem?_append_right (Nat.le_refl _)]
    simp
  rw [e1]
  simp only [allBits]
  rw [e2, allBits_app w i.toNat gs _ (Nat.le_refl _)]
  have hl := allBits_len w i.toNat gs gs.length
  rw [show i.toNat + (gs.length + 1) - 1 = (allBits w i.toNat gs gs.length).length by omega]
  rw [List.getD_eq_getElem?_getD, List.getElem?_append_right (Nat.le_refl _)]
  simp only [Nat.sub_self, List.getElem?_cons_zero, Option.getD_some]
  rw [show (i + (gs.length : Int) - 1).toNat = i.toNat + gs.length - 1 by omega]
  rfl
theorem onesP_not {i : Int} {gs : List St} (h : formB i gs = true) (h2 : formB i (gs ++ [⟨3, i + gs.length - 1, 0⟩]) = true) {k : Nat} (hk : (k : Int) ≤ 2 ^ i.toNat) :
    onesP i (gs ++ [⟨3, i + gs.length - 1, 0⟩]) k = k - onesP i gs k ∧ 0 ≤ onesP i gs k := by
  have hf := formB_t h
  induction k with
  | zero => simp [onesP]
  | succ k ih =>
    have ih' := ih (by omega)
    have hw : wordB i k = true := wordB_of ⟨by omega, by omega, by omega, by
      have : ((k : Int) + 1) ≤ 2 ^ i.toNat := by exact_mod_cast hk
      show (k : Int) < pw i
      unfold pw
      omega⟩
    have hb : isBit (formOut i gs k) := by
      rw [formOut_y h hw]
      exact getD_bit (allBits_bit k i.toNat gs gs.length) _
    have hb2 : 0 ≤ formOut i gs k := by unfold isBit at hb; omega
    simp only [onesP]
    rw [ih'.1, formOut_not h hw h2]
    refine ⟨?_, by omega⟩
    push_cast
    omega
theorem formOnes_not {i : Int} {gs : List St} (h : formB i gs = true) (h2 : formB i (gs ++ [⟨3, i + gs.length - 1, 0⟩]) = true) :
    formOnes i (gs ++ [⟨3, i + gs.length - 1, 0⟩]) = 2 ^ i.toNat - formOnes i gs := by
  unfold formOnes
  rw [if_pos h, if_pos h2, (onesP_not h h2 (k := 2 ^ i.toNat) (by simp)).1]
  simp
theorem onesP_nonneg {i : Int} {gs : List St} (h : formB i gs = true) {k : Nat} (hk : (k : Int) ≤ 2 ^ i.toNat) : 0 ≤ onesP i gs k := by
  have hf := formB_t h
  induction k with
  | zero => simp [onesP]
  | succ k ih =>
    have ih' := ih (by omega)
    have hw : wordB i k = true := wordB_of ⟨by omega, by omega, by omega, by
      have : ((k : Int) + 1) ≤ 2 ^ i.toNat := by exact_mod_cast hk
      show (k : Int) < pw i
      unfold pw
      omega⟩
    have hb : isBit (formOut i gs k) := by
      rw [formOut_y h hw]
      exact getD_bit (allBits_bit k i.toNat gs gs.length) _
    have hb2 : 0 ≤ formOut i gs k := by unfold isBit at hb; omega
    simp only [onesP]
    omega
end Go.Proofs.Ytfnebpocngjcmaa
