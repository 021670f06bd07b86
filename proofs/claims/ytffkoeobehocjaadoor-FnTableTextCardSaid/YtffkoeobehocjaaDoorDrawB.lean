/- What a draw leaves: the reader and all other blocks; stores into a slice of the call's own. -/
import Derived.Test.YtffkoeobehocjaaDoorDrawW
import Derived.Test.YtffkoeobehocjaaDoorAppend
import Derived.Test.YtffkoeobehocjaaDoorSl
import Derived.Deep.RegionHeld3
namespace Go.Proofs.YtffkoeobehocjaaDoor
open Go.RowKit
set_option linter.unusedVariables false

theorem RdAt.only {w w' : World} {r p g : Nat} (h : RdAt w r p) (hb : w.grownBy w' (some g)) (hg : r < g) : RdAt w' r p := by
  have hl := h.lt
  obtain ⟨A, n, c, zs, h1, h2, h3, h4, h5⟩ := h
  exact ⟨A, n, c, zs, h1.grown hb (fun e => by cases e; omega), h2, h3, h4, h5.keep fun q hq => World.cell?_of_block (hb.block q.block (by omega) (fun e => by cases e; omega))⟩
theorem RdAt.onlyO {w w' : World} {r p : Nat} {row : Option Nat} (h : RdAt w r p) (hb : w.grownBy w' row) (hg : ∀ g, row = some g → r < g) : RdAt w' r p := by
  cases row with
  | none => exact h.below ⟨hb.os, hb.tape, hb.output, hb.size, fun k hk => hb.block k hk (by simp)⟩
  | some g => exact h.only hb (hg g rfl)
theorem Rd.onlyO {w w' : World} {r p : Nat} {row : Option Nat} (h : Rd w r p) (hb : w.grownBy w' row) (hg : ∀ g, row = some g → r < g) : Rd w' r p := by
  obtain ⟨q, hq, h⟩ := h
  exact ⟨q, hq, h.onlyO hb hg⟩

/-- only block r and blocks from B on have turned -/
def From (B r : Nat) (w w' : World) : Prop := w'.os = w.os ∧ w'.tape = w.tape ∧ w'.output = w.output ∧ w.heap.size ≤ w'.heap.size ∧ ∀ k, k < B → k ≠ r → w'.heap[k]? = w.heap[k]?
theorem From.refl (B r : Nat) (w : World) : From B r w w := ⟨rfl, rfl, rfl, Nat.le_refl _, fun _ _ _ => rfl⟩
theorem From.only {B r : Nat} {a w w' : World} {row : Option Nat} (h : From B r a w) (hg : w.grownBy w' row) (hB : B ≤ w.heap.size) (hr : ∀ g, row = some g → B ≤ g ∨ g = r) : From B r a w' :=
  ⟨hg.os.trans h.1, hg.tape.trans h.2.1, hg.output.trans h.2.2.1, Nat.le_trans h.2.2.2.1 hg.size, fun k hk hn => (hg.block k (by omega) (fun e => by rcases hr k e.symm with e' | e' <;> omega)).trans (h.2.2.2.2 k hk hn)⟩
theorem From.alloc {B r : Nat} {a w : World} (h : From B r a w) (hB : B ≤ w.heap.size) (o : Obj) : From B r a (w.alloc o) := h.only (World.grownBy_alloc w o none) hB (by simp)
theorem From.setCell {B r : Nat} {a w : World} (h : From B r a w) (hB : B ≤ w.heap.size) {p : Addr} (hp : B ≤ p.block) (u : Value) : From B r a (w.setCell p u) :=
  h.only (only_setCell (g := p.block) (World.grownBy.refl _ _) (.inl rfl) u) hB (fun g e => by cases e; exact .inl hp)
theorem From.drewN {B r : Nat} {a w : World} (h : From B r a w) (d : Nat) : From B r a (w.drewN d) := h
theorem From.drew {B r : Nat} {a w : World} (h : From B r a w) : From B r a w.drew := h
theorem From.grown {r : Nat} {a w : World} (h : From a.heap.size r a w) : a.grownBy w (some r) := ⟨h.1, h.2.1, h.2.2.1, h.2.2.2.1, fun k hk hn => h.2.2.2.2 k hk (fun e => hn (by rw [e]))⟩

theorem own_set {w : World} {B g n cap size : Nat} {t : TypeId} {xs : List Value} (h : w.ownsRow B t size (.slice (some ⟨g, 0, none⟩) n cap) n xs) (i : Nat) (u : Value) :
    (w.setCell ⟨g, i, none⟩ u).ownsRow B t size (.slice (some ⟨g, 0, none⟩) n cap) n (xs.set i u) := by
  obtain ⟨h1, h2⟩ := h
  rcases h2 with ⟨h0, _⟩ | ⟨g', cap', cur, e, hB, hg, hn, hm, hs, ht⟩
  · cases h0
  · cases e
    refine ⟨by rw [List.length_set]; exact h1, .inr ⟨g, cap, cur.setIfInBounds i u, rfl, hB, ?_, hn, hm, by rw [Array.size_setIfInBounds]; exact hs, ?_⟩⟩
    · exact Blk.set_ (w := w) (g := g) (t := t) (cs := cur) hg i u
    · rw [Array.toList_setIfInBounds, List.take_set, ht]
end Go.Proofs.YtffkoeobehocjaaDoor
