/- The bits of a formula, and contracts of l4Bits and spec.FormBits. -/
import Derived.Test.YtpahhgehamgkaaaFormL
namespace Go.Proofs.Ytpahhgehamgkaaa
open Go.RowKit
set_option linter.unusedVariables false

/-- the bits of a word -/
def insB (w : Int) (i : Nat) : List Int := (List.range i).map fun k : Nat => bt w k
/-- what an operation makes of two bits -/
def bitOp (o x y : Int) : Int := if o = 0 then x * y else if o = 1 then max x y else if o = 2 then (x + y) % 2 else 1 - x
/-- the bits of a word and of the first k steps -/
def allBits (w : Int) (i : Nat) (gs : List St) : Nat → List Int
  | 0 => insB w i
  | k + 1 => allBits w i gs k ++ [bitOp (gs.getD k s0).o ((allBits w i gs k).getD (gs.getD k s0).x.toNat 0) ((allBits w i gs k).getD (gs.getD k s0).y.toNat 0)]
theorem insB_succ (w : Int) (i : Nat) : insB w (i + 1) = insB w i ++ [bt w i] := by
  unfold insB
  rw [List.range_succ, List.map_append]
  rfl
theorem insB_len (w : Int) (i : Nat) : (insB w i).length = i := by simp [insB]
theorem allBits_len (w : Int) (i : Nat) (gs : List St) (k : Nat) : (allBits w i gs k).length = i + k := by
  induction k with
  | zero => exact insB_len w i
  | succ k ih => simp only [allBits, List.length_append, ih, List.length_singleton]; omega
def isBit (x : Int) : Prop := x = 0 ∨ x = 1
theorem bitOp_bit {o x y : Int} (hx : isBit x) (hy : isBit y) : isBit (bitOp o x y) := by
  unfold bitOp isBit at *
  by_cases h0 : o = 0
  · rw [if_pos h0]
    rcases hx with rfl | rfl <;> rcases hy with rfl | rfl <;> decide
  · rw [if_neg h0]
    by_cases h1 : o = 1
    · rw [if_pos h1]
      rcases hx with rfl | rfl <;> rcases hy with rfl | rfl <;> decide
    · rw [if_neg h1]
      by_cases h2 : o = 2
      · rw [if_pos h2]
        rcases hx with rfl | rfl <;> rcases hy with rfl | rfl <;> decide
      · rw [if_neg h2]
        rcases hx with rfl | rfl <;> decide
theorem getD_bit {zs : List Int} (h : ∀ z ∈ zs, isBit z) (j : Nat) : isBit (zs.getD j 0) := by
  rcases Nat.lt_or_ge j zs.length with hj | hj
  · rw [List.getD, List.getElem?_eq_getElem hj]
    exact h _ (List.getElem_mem hj)
  · rw [List.getD, List.getElem?_eq_none hj]
    exact .inl rfl
theorem allBits_bit (w : Int) (i : Nat) (gs : List St) (k : Nat) : ∀ z ∈ allBits w i gs k, isBit z := by
  induction k with
  | zero =>
    intro z hz
    simp only [allBits, insB, List.mem_map] at hz
    obtain ⟨q, _, rfl⟩ := hz
    have := bt_bd w q
    unfold isBit
    omega
  | succ k ih =>
    intro z hz
    simp only [allBits, List.mem_append, List.mem_singleton] at hz
    rcases hz with h | rfl
    · exact ih z h
    · exact bitOp_bit (getD_bit ih _) (getD_bit ih _)
/-- what FormBits answers -/
def formBits (i : Int) (gs : List St) (w : Int) : List Int := if (formB i gs && wordB i w) = true then (allBits w i.toNat gs gs.length).drop i.toNat else []
theorem formBits_y {i w : Int} {gs : List St} (h : formB i gs = true) (h' : wordB i w = true) : formBits i gs w = (allBits w i.toNat gs gs.length).drop i.toNat := if_pos (by rw [h, h']; rfl)
theorem formBits_n {i w : Int} {gs : List St} (h : formB i gs = false ∨ wordB i w = false) : formBits i gs w = [] := if_neg (by rcases h with h | h <;> rw [h] <;> simp)
theorem formBits_len {i w : Int} {gs : List St} (h : formB i gs = true) (h' : wordB i w = true) : (formBits i gs w).length = gs.length := by
  rw [formBits_y h h', List.length_drop, allBits_len]
  omega
theorem formBits_bd (i w : Int) (gs : List St) (h : gs.length ≤ 1048576) : (formBits i gs w).length ≤ 1048576 := by
  cases hq : (formB i gs && wordB i w) with
  | true =>
    rw [Bool.and_eq_true] at hq
    rw [formBits_len hq.1 hq.2]
    exact h
  | false =>
    unfold formBits
    rw [hq]
    simp
theorem formP_at {i : Int} {gs : List St} {n k : Nat} (h : formP i gs n = true) (hk : k < n) : stB (i + k - 1) (gs.getD k s0) = true := by
  have h1 : formP i gs (k + 1) = true := by
    rcases hq : formP i gs (k + 1) with _ | _
    · rw [formP_le (n := n) (by omega) hq] at h; exact h
    · rfl
  simp only [formP, Bool.and_eq_true] at h1
  exact h1.2
/-- where the bits of a valid step lie -/
theorem stB_form {last : Int} {g : St} (h : stB last g = true) (hl : 0 ≤ last) : 0 ≤ g.o ∧ g.o ≤ 3 ∧ 0 ≤ g.x ∧ g.x ≤ last ∧ 0 ≤ g.y ∧ g.y ≤ last := by
  unfold stB at h
  simp only [Bool.and_eq_true] at h
  have h1 := inB_t h.1
  have h2 := inB_t h.2.1
  have h3 := h.2.2
  by_cases e : g.o = 3
  · rw [if_pos e] at h3
    have : g.y = 0 := by simpa using h3
    omega
  · rw [if_neg e] at h3
    rw [Bool.and_eq_true] at h3
    have := inB_t h3.1
    omega
theorem own_drop {w : World} {B g o i : Nat} {xs : List Value} (h : Own w B (some ⟨g, o, none⟩) xs) : Own w B (some ⟨g, o + i, none⟩) (xs.drop i) := fun hn => by
  rw [List.length_drop] at hn
  obtain ⟨g', o', e, h1, h2, hc⟩ := h (by omega)
  cases e
  refine ⟨g, o + i, rfl, h1, h2, fun j u hu => ?_⟩
  rw [List.getElem?_drop] at hu
  have := hc _ _ hu
  rwa [← Nat.add_assoc] at this

end Go.Proofs.Ytpahhgehamgkaaa
