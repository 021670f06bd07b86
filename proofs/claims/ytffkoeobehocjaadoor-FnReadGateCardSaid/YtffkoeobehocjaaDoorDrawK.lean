/- Contracts of DrawLinesOf and DrawGateValid. -/
import Derived.Test.YtffkoeobehocjaaDoorDrawG
import Derived.Test.YtffkoeobehocjaaDoorDraws4
import Derived.Test.YtffkoeobehocjaaDoorNature
namespace Go.Proofs.YtffkoeobehocjaaDoor
open Go.RowKit
set_option linter.unusedVariables false

theorem IntsIn.alloc {k : IntKind} {w : World} {A : Option Addr} {n c : Nat} {zs : List Int} (h : IntsIn k w A n c zs) (o : Obj) : IntsIn k (w.alloc o) A n c zs := by
  obtain ⟨hnc, hcm, hz, hwf, hr⟩ := h
  exact ⟨hnc, hcm, hz, hwf, (hr.below ((Below.refl _ _).alloc (Nat.le_refl _) o)).more (by simp)⟩
theorem results_tmp_cell_ok {fn : Func} {p u : Tmp} {ty : TypeId} {tmps : Array Value} {P : Program} {w : World} {a : Addr} {v : Value} (h : fn.results = #[.tmp u, .cell p ty]) (ha : tmps.getD p undef = .pointer (some a))
    (hv : (loadVar ty a).run P w = .ok v w) : (results fn tmps).run P w = .ok (.tuple #[tmps.getD u undef, v]) w := by
  have h1 : (results fn tmps).run P w = ((asAddr (tmps.getD p undef)).run P w).andThen fun a w₁ => ((loadVar ty a).run P w₁).andThen fun v w₂ => .ok (.tuple #[tmps.getD u undef, v]) w₂ := by
    simp only [results, h]
    simp [Sem.run_bind, Result.andThen]
  rw [h1, ha]
  show Result.andThen ((loadVar ty a).run P w) _ = _
  rw [hv]
  rfl
/-- the four cells of the result are set -/
theorem res_set {w wb w3 : World} {t : TypeId} (hw : wb = w.alloc (.cells #[.int .i64 0, .int .i64 0, .int .i64 0, .int .i64 0] t)) (hb : Below wb.heap.size wb w3) (k a b c : Int) :
    ∃ wE, wE = ((((w3.setCell ⟨w.heap.size, 0, none⟩ (.int .i64 k)).setCell ⟨w.heap.size, 1, none⟩ (.int .i64 a)).setCell ⟨w.heap.size, 2, none⟩ (.int .i64 b)).setCell ⟨w.heap.size, 3, none⟩ (.int .i64 c)) ∧
      Blk wE w.heap.size t #[.int .i64 k, .int .i64 a, .int .i64 b, .int .i64 c] ∧ Below w.heap.size w wE := by
  refine ⟨_, rfl, ?_, ?_⟩
  · have h0 := (Blk.new w t #[.int .i64 0, .int .i64 0, .int .i64 0, .int .i64 0])
    rw [← hw] at h0
    have h1 := h0.below hb h0.lt
    exact (((h1.set_ 0 _).set_ 1 _).set_ 2 _).set_ 3 _
  · have hs : w.heap.size ≤ wb.heap.size := by rw [hw]; simp
    have h1 : Below w.heap.size w wb := by rw [hw]; exact (Below.refl _ _).alloc (Nat.le_refl _) _
    have h2 := h1.trans (hb.mono hs)
    exact below_of_only h2 (only_setCell (p := ⟨w.heap.size, 3, none⟩) (only_setCell (p := ⟨w.heap.size, 2, none⟩) (only_setCell (p := ⟨w.heap.size, 1, none⟩) (only_setCell (p := ⟨w.heap.size, 0, none⟩) (World.grownBy.refl _ _) (Or.inl rfl) _) (Or.inl rfl) _) (Or.inl rfl) _) (Or.inl rfl) _) (Nat.le_refl _) h2.size
theorem res_blk {w wb w3 : World} {t : TypeId} (hw : wb = w.alloc (.cells #[.int .i64 0, .int .i64 0, .int .i64 0, .int .i64 0] t)) (hb : Below wb.heap.size wb w3) :
    Blk w3 w.heap.size t #[.int .i64 0, .int .i64 0, .int .i64 0, .int .i64 0] := by
  have h0 := (Blk.new w t #[.int .i64 0, .int .i64 0, .int .i64 0, .int .i64 0])
  rw [← hw] at h0
  exact h0.below hb h0.lt

end Go.Proofs.YtffkoeobehocjaaDoor
