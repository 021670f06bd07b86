/- Contracts of eqIntS, markIntS and heldIntS: lists of numbers are compared, marked and read again. -/
import Derived.Test.YtfpnjahdjppeaaaGates
namespace Go.Proofs.Ytfpnjahdjppeaaa
open Go.RowKit

def eqL (xs ys : List Int) : Bool := decide (xs = ys)
theorem eqL_refl (xs : List Int) : eqL xs xs = true := decide_eq_true rfl
theorem take_eq_snoc {xs ys : List Int} {k : Nat} (hx : k < xs.length) (hy : k < ys.length) (h : xs.take k = ys.take k) (he : xs.getD k 0 = ys.getD k 0) : xs.take (k + 1) = ys.take (k + 1) := by
  rw [List.take_succ_eq_append_getElem hx, List.take_succ_eq_append_getElem hy, h]
  simp only [List.getD, List.getElem?_eq_getElem hx, List.getElem?_eq_getElem hy, Option.getD_some] at he
  rw [he]

/-- n numbers from k on -/
def marks (k : Int) (n : Nat) : List Int := (List.range n).map fun i : Nat => k + (i : Int)
theorem marks_len (k : Int) (n : Nat) : (marks k n).length = n := by simp [marks]
theorem marks_at (k : Int) (n j : Nat) (h : j < n) : (marks k n).getD j 0 = k + j := by
  simp [marks, List.getD, List.getElem?_map, List.getElem?_range h]

theorem Own.open1 {w : World} {B : Nat} {A : Option Addr} {zs : List Int} (h : Own w B A (zs.map (Value.int .i64))) (hn : 0 < zs.length) :
    ∃ g o, A = some ⟨g, o, none⟩ ∧ B ≤ g ∧ g < w.heap.size ∧ ∀ j, j < zs.length → w.cell? ⟨g, o + j, none⟩ = some (.int .i64 (zs.getD j 0)) ∧ w.frozen? ⟨g, o + j, none⟩ = false := by
  obtain ⟨g, o, e, h1, h2, hc⟩ := h (by simpa using hn)
  refine ⟨g, o, e, h1, h2, fun j hj => ?_⟩
  have := hc j (.int .i64 zs[j]) (by rw [List.getElem?_map, List.getElem?_eq_getElem hj]; rfl)
  rw [this.1]
  exact ⟨by simp [List.getD, List.getElem?_eq_getElem hj], this.2⟩
theorem own_of {w : World} {B g o : Nat} {zs : List Int} (h1 : B ≤ g) (h2 : g < w.heap.size) (hc : ∀ j, j < zs.length → w.cell? ⟨g, o + j, none⟩ = some (.int .i64 (zs.getD j 0)) ∧ w.frozen? ⟨g, o + j, none⟩ = false) :
    Own w B (some ⟨g, o, none⟩) (zs.map (Value.int .i64)) := fun _ => by
  refine ⟨g, o, rfl, h1, h2, fun j u hu => ?_⟩
  rw [List.getElem?_map] at hu
  rcases Nat.lt_or_ge j zs.length with hj | hj
  · rw [List.getElem?_eq_getElem hj] at hu
    simp only [Option.map_some, Option.some.injEq] at hu
    rw [← hu, (hc j hj).1]
    exact ⟨by simp [List.getD, List.getElem?_eq_getElem hj], (hc j hj).2⟩
  · rw [List.getElem?_eq_none hj] at hu
    cases hu

theorem frozen_set (w : World) (a b : Addr) (u : Value) : (w.setCell a u).frozen? b = w.frozen? b := by go_simp

end Go.Proofs.Ytfpnjahdjppeaaa
