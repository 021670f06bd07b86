/- What both ReadGates answer, by their candidate; the two are the same; a valid gate's text reads back; a text with a blank behind it is refused. No program is in sight. -/
import Derived.Test.YtffkoeobehocjaaDoorRdP
namespace Go.Proofs.YtffkoeobehocjaaDoor
open Go.RowKit
set_option linter.unusedVariables false

/-- the candidate fits the text -/
def rdOk (c : Gt) (l : List UInt8) : Bool := decide (gateTx c = l) && decide (l ≠ [])
/-- the gate that is answered -/
def rdG (c : Gt) (l : List UInt8) : Gt := if rdOk c l = true then c else ⟨0, 0, 0, 0⟩
theorem rdOk_t {c : Gt} {l : List UInt8} (h : rdOk c l = true) : gateTx c = l ∧ l ≠ [] := by
  unfold rdOk at h
  rw [Bool.and_eq_true] at h
  exact ⟨of_decide_eq_true h.1, of_decide_eq_true h.2⟩
theorem rdOk_of {c : Gt} {l : List UInt8} (h : gateTx c = l) (h2 : l ≠ []) : rdOk c l = true := by
  unfold rdOk
  rw [Bool.and_eq_true]
  exact ⟨decide_eq_true h, decide_eq_true h2⟩
theorem rdOk_no {c : Gt} {l : List UInt8} (h : gateTx c = l → l = []) : rdOk c l = false := by
  cases e : rdOk c l with
  | false => rfl
  | true => exact absurd (h (rdOk_t e).1) (rdOk_t e).2
theorem rdG_t {c : Gt} {l : List UInt8} (h : rdOk c l = true) : rdG c l = c := if_pos h
theorem rdG_f {c : Gt} {l : List UInt8} (h : rdOk c l = false) : rdG c l = ⟨0, 0, 0, 0⟩ := if_neg (by rw [h]; simp)
theorem rd_same (l : List UInt8) : rdOk (candI l) l = rdOk (candS l) l ∧ rdG (candI l) l = rdG (candS l) l := by
  by_cases hl : l = []
  · have h1 : ∀ c, rdOk c l = false := fun c => rdOk_no fun _ => hl
    exact ⟨(h1 _).trans (h1 _).symm, (rdG_f (h1 _)).trans (rdG_f (h1 _)).symm⟩
  · obtain ⟨h1, h2⟩ := cand_same l hl
    by_cases e : gateTx (candS l) = l
    · have e2 := h2 e
      rw [e2]
      exact ⟨rfl, rfl⟩
    · have h3 : rdOk (candS l) l = false := rdOk_no fun x => absurd x e
      have h4 : rdOk (candI l) l = false := rdOk_no fun x => absurd (h1.2 x) e
      exact ⟨h4.trans h3.symm, (rdG_f h4).trans (rdG_f h3).symm⟩
theorem val_of_tx {g : Gt} {l : List UInt8} (hl : l ≠ []) (e : gateTx g = l) : gateB 8 g = true := by
  cases h : gateB 8 g with
  | true => rfl
  | false =>
    unfold gateTx at e
    rw [h] at e
    exact absurd e.symm hl
theorem gateTx_ne {g : Gt} (h : gateB 8 g = true) : gateTx g ≠ [] := by
  have h5 := gateB_fivex h
  unfold gateTx
  rw [if_pos h]
  intro e
  have e1 := (List.append_eq_nil_iff.1 e).1
  rcases h5 with h | h | h | h | h <;> (rw [h] at e1; exact absurd e1 (by decide))
theorem rd_back (g : Gt) (h : gateB 8 g = true) : rdOk (candI (gateTx g)) (gateTx g) = true ∧ rdG (candI (gateTx g)) (gateTx g) = g := by
  have e := (back_any g h).2
  have h1 : rdOk (candI (gateTx g)) (gateTx g) = true := by rw [e]; exact rdOk_of rfl (gateTx_ne h)
  exact ⟨h1, (rdG_t h1).trans e⟩
theorem rd_blank (c : Gt) (l : List UInt8) : rdOk c (l ++ [32]) = false := by
  refine rdOk_no fun e => absurd e fun e => ?_
  have hv := val_of_tx (by simp) e
  have h5 := gateB_fivex hv
  have hne : 1 ≤ (linesOf c).length := by
    rcases h5 with h | h | h | h | h <;> simp [linesOf, h]
  obtain ⟨k, ek⟩ : ∃ k, (linesOf c).length = k + 1 := ⟨(linesOf c).length - 1, by omega⟩
  have hl := fun k hk => gate_lines hv (k := k) hk
  unfold gateTx at e
  rw [if_pos hv, tail1_eq _ _ fun j hj => hl j hj, ek, tail1] at e
  have hz := hl k (by omega)
  have e2 : kindS c.k ++ (tail1 (linesOf c) k ++ [32, UInt8.ofNat (48 + ((linesOf c).getD k 0).toNat)]) = (kindS c.k ++ (tail1 (linesOf c) k ++ [32])) ++ [UInt8.ofNat (48 + ((linesOf c).getD k 0).toNat)] := by simp
  rw [e2] at e
  have e3 := (List.append_inj' e rfl).2
  simp only [List.cons.injEq, and_true] at e3
  have e4 := congrArg UInt8.toNat e3
  rw [UInt8.toNat_ofNat'] at e4
  have : (32 : UInt8).toNat = 32 := rfl
  omega
end Go.Proofs.YtffkoeobehocjaaDoor
