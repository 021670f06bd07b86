/- What the readers of a gate answer, and the plain law: a valid gate's text reads back as the gate. No program is in sight. -/
import Derived.Test.YtffkoeobehocjaaDoorCut
import Derived.Test.YtffkoeobehocjaaDoorTxt
namespace Go.Proofs.YtffkoeobehocjaaDoor
open Go.RowKit
set_option linter.unusedVariables false

/-- the kind of a name; -1 if it is none -/
def kindOf (nm : List UInt8) : Int := if nm = [110, 111, 116] then 0 else if nm = [99, 111, 112, 121] then 1 else if nm = [98, 111, 116, 104] then 2 else if nm = [115, 119, 97, 112] then 3 else if nm = [105, 102] then 4 else -1
/-- spec's line of the k-th word -/
def dgS (ws : List (List UInt8)) (k : Nat) : Int := if k < ws.length then digL (ws.getD k []) else 0
/-- impl's line of the k-th word -/
def dgI (ws : List (List UInt8)) (k : Nat) : Int := if k < ws.length ∧ (ws.getD k []).length = 1 then (((ws.getD k []).getD 0 0).toNat : Int) - 48 else 0
def candS (l : List UInt8) : Gt := ⟨kindOf ((cutL l).getD 0 []), dgS (cutL l) 1, dgS (cutL l) 2, dgS (cutL l) 3⟩
def candI (l : List UInt8) : Gt := ⟨kindOf ((cutL l).getD 0 []), dgI (cutL l) 1, dgI (cutL l) 2, dgI (cutL l) 3⟩
/-- the letters of one-digit lines -/
def tail1 (zs : List Int) : Nat → List UInt8
  | 0 => []
  | k + 1 => tail1 zs k ++ [32, UInt8.ofNat (48 + (zs.getD k 0).toNat)]
theorem tail1_eq (zs : List Int) (k : Nat) (h : ∀ j, j < k → 0 ≤ zs.getD j 0 ∧ zs.getD j 0 ≤ 7) : tailS zs k = tail1 zs k := by
  induction k with
  | zero => rfl
  | succ k ih =>
    have h1 := h k (by omega)
    rw [tailS, tail1, ih fun j hj => h j (by omega)]
    have : Lib.decDigits (zs.getD k 0).toNat = [UInt8.ofNat (48 + (zs.getD k 0).toNat)] := by
      unfold Lib.decDigits
      rw [dif_pos (by omega)]
    rw [this]
def eqG4 (g h : Gt) : Bool := decide (g.k = h.k) && decide (g.a = h.a) && decide (g.b = h.b) && decide (g.c = h.c)
theorem eqG4_t {g h : Gt} (e : eqG4 g h = true) : g = h := by
  unfold eqG4 at e
  simp only [Bool.and_eq_true, decide_eq_true_eq] at e
  obtain ⟨⟨⟨h1, h2⟩, h3⟩, h4⟩ := e
  cases g
  cases h
  simp_all
def back1 (g : Gt) : Bool := eqG4 (candS (kindS g.k ++ tail1 (linesOf g) (linesOf g).length)) g && eqG4 (candI (kindS g.k ++ tail1 (linesOf g) (linesOf g).length)) g
theorem back_all1 : ∀ a : Fin 8, back1 ⟨0, (a.val : Int), 0, 0⟩ = true := by decide +kernel
theorem back_all2 : ∀ a b : Fin 8, back1 ⟨1, (a.val : Int), (b.val : Int), 0⟩ = true ∧ back1 ⟨3, (a.val : Int), (b.val : Int), 0⟩ = true := by decide +kernel
theorem back_all3 : ∀ a b c : Fin 8, back1 ⟨2, (a.val : Int), (b.val : Int), (c.val : Int)⟩ = true ∧ back1 ⟨4, (a.val : Int), (b.val : Int), (c.val : Int)⟩ = true := by decide +kernel
theorem fin_of {x : Int} (h : 0 ≤ x ∧ x ≤ 7) : ∃ a : Fin 8, x = (a.val : Int) := ⟨⟨x.toNat, by omega⟩, by simp; omega⟩
theorem back_g (g : Gt) (h : gateB 8 g = true) : back1 g = true := by
  have hl := fun k hk => gate_lines h (k := k) hk
  have h5 := gateB_fivex h
  have hr : restZ g = true := by
    unfold gateB at h
    simp only [Bool.and_eq_true] at h
    exact h.2
  obtain ⟨k, a, b, c⟩ := g
  simp only at h5
  rcases h5 with rfl | rfl | rfl | rfl | rfl
  · have h0 : 0 ≤ a ∧ a ≤ 7 := hl 0 (by simp [linesOf])
    simp [restZ] at hr
    obtain ⟨rfl, rfl⟩ := hr
    obtain ⟨x, rfl⟩ := fin_of h0
    exact back_all1 x
  · have h0 : 0 ≤ a ∧ a ≤ 7 := hl 0 (by simp [linesOf])
    have h1 : 0 ≤ b ∧ b ≤ 7 := hl 1 (by simp [linesOf])
    simp [restZ] at hr
    subst hr
    obtain ⟨x, rfl⟩ := fin_of h0
    obtain ⟨y, rfl⟩ := fin_of h1
    exact (back_all2 x y).1
  · have h0 : 0 ≤ a ∧ a ≤ 7 := hl 0 (by simp [linesOf])
    have h1 : 0 ≤ b ∧ b ≤ 7 := hl 1 (by simp [linesOf])
    have h2 : 0 ≤ c ∧ c ≤ 7 := hl 2 (by simp [linesOf])
    obtain ⟨x, rfl⟩ := fin_of h0
    obtain ⟨y, rfl⟩ := fin_of h1
    obtain ⟨z, rfl⟩ := fin_of h2
    exact (back_all3 x y z).1
  · have h0 : 0 ≤ a ∧ a ≤ 7 := hl 0 (by simp [linesOf])
    have h1 : 0 ≤ b ∧ b ≤ 7 := hl 1 (by simp [linesOf])
    simp [restZ] at hr
    subst hr
    obtain ⟨x, rfl⟩ := fin_of h0
    obtain ⟨y, rfl⟩ := fin_of h1
    exact (back_all2 x y).2
  · have h0 : 0 ≤ a ∧ a ≤ 7 := hl 0 (by simp [linesOf])
    have h1 : 0 ≤ b ∧ b ≤ 7 := hl 1 (by simp [linesOf])
    have h2 : 0 ≤ c ∧ c ≤ 7 := hl 2 (by simp [linesOf])
    obtain ⟨x, rfl⟩ := fin_of h0
    obtain ⟨y, rfl⟩ := fin_of h1
    obtain ⟨z, rfl⟩ := fin_of h2
    exact (back_all3 x y z).2
/-- a valid gate's text reads back as the gate, by either reader -/
theorem back_any (g : Gt) (h : gateB 8 g = true) : candS (gateTx g) = g ∧ candI (gateTx g) = g := by
  have hb := back_g g h
  have e : gateTx g = kindS g.k ++ tail1 (linesOf g) (linesOf g).length := by
    unfold gateTx
    rw [if_pos h, tail1_eq _ _ fun j hj => gate_lines h hj]
  rw [e]
  unfold back1 at hb
  rw [Bool.and_eq_true] at hb
  exact ⟨eqG4_t hb.1, eqG4_t hb.2⟩
/-- the two readers' candidates fit a text at the same time, and are then the same -/
theorem cand_same (l : List UInt8) (hl : l ≠ []) : (gateTx (candS l) = l ↔ gateTx (candI l) = l) ∧ (gateTx (candS l) = l → candS l = candI l) := by
  have val : ∀ g, gateTx g = l → gateB 8 g = true := fun g e => by
    cases h : gateB 8 g with
    | true => rfl
    | false =>
      unfold gateTx at e
      rw [h] at e
      exact absurd e.symm hl
  have one : gateTx (candS l) = l → candI l = candS l := fun e => by
    have := (back_any _ (val _ e)).2
    rwa [e] at this
  have two : gateTx (candI l) = l → candS l = candI l := fun e => by
    have := (back_any _ (val _ e)).1
    rwa [e] at this
  exact ⟨⟨fun e => by rw [one e]; exact e, fun e => by rw [two e]; exact e⟩, fun e => (one e).symm⟩
end Go.Proofs.YtffkoeobehocjaaDoor
