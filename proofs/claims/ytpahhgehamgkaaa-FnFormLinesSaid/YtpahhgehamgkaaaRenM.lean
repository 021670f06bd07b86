/- What Rename answers. No program is in sight. -/
import Derived.Test.YtpahhgehamgkaaaStepsM
namespace Go.Proofs.Ytpahhgehamgkaaa
open Go.RowKit
set_option linter.unusedVariables false

/-- a gate with other lines -/
def renG (ns : List Int) (g : Gt) : Gt :=
  ⟨g.k, ns.getD g.a.toNat 0, if 1 < (linesOf g).length then ns.getD g.b.toNat 0 else 0, if 2 < (linesOf g).length then ns.getD g.c.toNat 0 else 0⟩
/-- names of lines: each of the lines once -/
def namesB (l : Int) (ns : List Int) : Bool := decide ((ns.length : Int) = l) && okP (l - 1) ns ns.length
theorem namesB_len {l : Int} {ns : List Int} (h : ¬ (ns.length : Int) = l) : namesB l ns = false := by unfold namesB; rw [decide_eq_false h]; rfl
theorem namesB_no {l : Int} {ns : List Int} {k : Nat} (hk : k ≤ ns.length) (h : okP (l - 1) ns k = false) : namesB l ns = false := by unfold namesB; rw [okP_le hk h, Bool.and_false]
theorem namesB_yes {l : Int} {ns : List Int} (hl : (ns.length : Int) = l) (ho : okP (l - 1) ns ns.length = true) : namesB l ns = true := by unfold namesB; rw [decide_eq_true hl, ho]; rfl
/-- what Rename answers -/
def renL (l : Int) (gs : List Gt) (ns : List Int) : List Gt := if (circB l gs && namesB l ns) = true then gs.map (renG ns) else []
theorem renL_y {l : Int} {gs : List Gt} {ns : List Int} (h : circB l gs = true) (h' : namesB l ns = true) : renL l gs ns = gs.map (renG ns) := if_pos (by rw [h, h']; rfl)
theorem renL_n {l : Int} {gs : List Gt} {ns : List Int} (h : circB l gs = false ∨ namesB l ns = false) : renL l gs ns = [] := if_neg (by rcases h with h | h <;> rw [h] <;> simp)
theorem renL_bd (l : Int) (gs : List Gt) (ns : List Int) (h : gs.length ≤ 1048576) : (renL l gs ns).length ≤ 1048576 := by
  unfold renL
  split
  · rw [List.length_map]; exact h
  · simp
theorem ren_snoc (gs : List Gt) (ns : List Int) {k : Nat} (hk : k < gs.length) : gcells ((gs.map (renG ns)).take (k + 1)) = gcells ((gs.map (renG ns)).take k) ++ (renG ns (gs.getD k g0)).cells := by
  rw [List.take_succ_eq_append_getElem (by rw [List.length_map]; exact hk), gcells_app, gcells_one]
  simp [List.getD, List.getElem?_eq_getElem hk]
/-- what is known of a valid gate: its kind, how many lines it has, and where these lie -/
theorem gateB_form {l : Int} {g : Gt} (h : gateB l g = true) :
    (g.k = 0 ∧ (linesOf g).length = 1 ∧ g.b = 0 ∧ g.c = 0 ∧ 0 ≤ g.a ∧ g.a < l) ∨ ((g.k = 1 ∨ g.k = 3) ∧ (linesOf g).length = 2 ∧ g.c = 0 ∧ 0 ≤ g.a ∧ g.a < l ∧ 0 ≤ g.b ∧ g.b < l) ∨
      ((g.k = 2 ∨ g.k = 4) ∧ (linesOf g).length = 3 ∧ 0 ≤ g.a ∧ g.a < l ∧ 0 ≤ g.b ∧ g.b < l ∧ 0 ≤ g.c ∧ g.c < l) := by
  obtain ⟨k, a, b, c⟩ := g
  have hln := fun i hi => gateB_lines h (i := i) hi
  unfold gateB at h
  simp only [Bool.and_eq_true] at h
  obtain ⟨⟨⟨h1, h2⟩, h3⟩, h4⟩ := h
  have hk := inB_t h2
  have h5 : k = 0 ∨ k = 1 ∨ k = 2 ∨ k = 3 ∨ k = 4 := by omega
  rcases h5 with rfl | rfl | rfl | rfl | rfl
  · left
    have e : linesOf ⟨0, a, b, c⟩ = [a] := rfl
    rw [e] at hln
    have q := hln 0 (by simp)
    simp [restZ] at h4
    simp at q
    exact ⟨rfl, rfl, h4.1, h4.2, q.1, q.2.1⟩
  · right; left
    have e : linesOf ⟨1, a, b, c⟩ = [a, b] := rfl
    rw [e] at hln
    have q := hln 0 (by simp)
    have r := hln 1 (by simp)
    simp [restZ] at h4
    simp at q r
    exact ⟨.inl rfl, rfl, h4, q.1, q.2.1, r.1, r.2.1⟩
  · right; right
    have e : linesOf ⟨2, a, b, c⟩ = [a, b, c] := rfl
    rw [e] at hln
    have q := hln 0 (by simp)
    have r := hln 1 (by simp)
    have s := hln 2 (by simp)
    simp at q r s
    exact ⟨.inl rfl, rfl, q.1, q.2.1, r.1, r.2.1, s.1, s.2.1⟩
  · right; left
    have e : linesOf ⟨3, a, b, c⟩ = [a, b] := rfl
    rw [e] at hln
    have q := hln 0 (by simp)
    have r := hln 1 (by simp)
    simp [restZ] at h4
    simp at q r
    exact ⟨.inr rfl, rfl, h4, q.1, q.2.1, r.1, r.2.1⟩
  · right; right
    have e : linesOf ⟨4, a, b, c⟩ = [a, b, c] := rfl
    rw [e] at hln
    have q := hln 0 (by simp)
    have r := hln 1 (by simp)
    have s := hln 2 (by simp)
    simp at q r s
    exact ⟨.inr rfl, rfl, q.1, q.2.1, r.1, r.2.1, s.1, s.2.1⟩
theorem gateB_kind' {l : Int} {g : Gt} (h : gateB l g = true) : inB g.k 0 4 = true := by
  unfold gateB at h
  simp only [Bool.and_eq_true] at h
  exact h.1.1.2
end Go.Proofs.Ytpahhgehamgkaaa
