/- Contract of impl.numbersIn at a blank. -/
import Derived.RangeFuncNested
import Derived.RangeFuncBox
import Derived.RangeFuncBound
import Derived.RangeFuncCalls
import Derived.RangeFuncLeaves
import Derived.Shelf.Abstract
import Derived.Shelf.RegionOpen
import Derived.OwnWalkIn
import Derived.TacticsInMore
import Derived.LoopNIn
import Derived.LoopIn
import Derived.Maps.AppendAt
import Derived.Maps.OwnIn
import Derived.Laws.ResultCell
import Derived.Test.YtffkoeobehocjaaDoorSqI
import Derived.Test.YtffkoeobehocjaaDoorJoA
namespace Go.Proofs.YtffkoeobehocjaaDoor
open Go.RowKit Go.Shelf
set_option linter.unusedVariables false
set_option linter.unusedSimpArgs false

attribute [local go_sem] Oper.semAt_some

theorem results_cells2 {fn : Func} {p u : Tmp} {t1 t2 : TypeId} (h : fn.results = #[.cell p t1, .cell u t2]) {tmps : Array Value} {P : Program} {w : World} {a b : Addr} {v1 v2 : Value} (ha : tmps.getD p undef = .pointer (some a)) (hb : tmps.getD u undef = .pointer (some b))
    (hv1 : (loadVar t1 a).run P w = .ok v1 w) (hv2 : (loadVar t2 b).run P w = .ok v2 w) : (results fn tmps).run P w = .ok (.tuple #[v1, v2]) w := by
  have e1 : (asAddr (tmps.getD p undef)).run P w = .ok a w := by rw [ha]; rfl
  have e2 : (asAddr (tmps.getD u undef)).run P w = .ok b w := by rw [hb]; rfl
  rw [Array.getD_eq_getD_getElem?] at e1 e2
  simp only [results, h]
  simp [Sem.run_bind, Result.andThen]
  simp only [e1, hv1, e2, hv2]
theorem load_ints {w : World} {B : Nat} {t : TypeId} {v : Value} (h : Boxed w B t v) : (loadVar 22 ⟨B, 0, none⟩).run Tryd.prog w = .ok v w := by
  have a := Tryd.isAgg22
  have c := h.cell
  unfold loadVar
  go_simp
theorem load_truth {w : World} {B : Nat} {t : TypeId} {v : Value} (h : Boxed w B t v) : (loadVar 4 ⟨B, 0, none⟩).run Tryd.prog w = .ok v w := by
  have a := Tryd.isAgg4
  have c := h.cell
  unfold loadVar
  go_simp
set_option maxHeartbeats 1000000 in
theorem splitSeq_any (s sep : ByteArray) (w : World) :
    Calls Tryd.prog 57 #[.string s, .string sep] w fun e w' => e = .returned (.func (.func 83) #[] #[.pointer (some ⟨w.heap.size + 1, 0, none⟩), .pointer (some ⟨w.heap.size, 0, none⟩), .pointer (some ⟨w.heap.size + 1 + 1, 0, none⟩)]) ∧
      w' = ((w.alloc (.cells #[.string s] 9)).alloc (.cells #[.string sep] 9)).alloc (.cells #[.int .i64 0] 3) := by
  go_enter Tryd.func57, Tryd.ntmps57
  go_wp2
  go_ret
  exact ⟨rfl, rfl⟩
/-- the two error variables of strconv hold errors -/
def ErrVars (w : World) : Prop := (∃ t p, w.cell? ⟨0, 0, none⟩ = some (.iface t p)) ∧ ∃ t p, w.cell? ⟨1, 0, none⟩ = some (.iface t p)
theorem ErrVars.below {w w' : World} (h : ErrVars w) (hb : Below w.heap.size w w') : ErrVars w' := by
  obtain ⟨⟨t, p, h1⟩, ⟨t2, p2, h2⟩⟩ := h
  have l1 := Lib.lt_of_cell h1
  have l2 := Lib.lt_of_cell h2
  exact ⟨⟨t, p, (hb.cell (p := ⟨0, 0, none⟩) (by simpa using l1)).trans h1⟩, ⟨t2, p2, (hb.cell (p := ⟨1, 0, none⟩) (by simpa using l2)).trans h2⟩⟩
theorem atoi_any (x : List UInt8) (hx : x.length ≤ 2000001) (w : World) (hE : ErrVars w) :
    Calls Tryd.prog 58 #[.string ⟨x.toArray⟩] w fun e w' => ((okF x = true ∧ (-9223372036854775808 ≤ vaF x ∧ vaF x ≤ 9223372036854775807) ∧ e = .returned (.tuple #[.int .i64 (vaF x), .nilIface])) ∨ (okF x = false ∧ ∃ (z : Int) (t : TypeId) (N : Addr), e = .returned (.tuple #[.int .i64 z, .iface t (.pointer (some N))]))) ∧ Below w.heap.size w w' := by
  have hs : (⟨x.toArray⟩ : ByteArray).size = x.length := by simp [ByteArray.size]
  obtain ⟨⟨t1, p1, h1⟩, ⟨t2, p2, h2⟩⟩ := hE
  rcases hx2 : Lib.atoiAll x with v | _ | _
  · refine (Tryd.strconv_Atoi_ok ⟨x.toArray⟩ (by omega) v hx2 w).mono ?_
    rintro e w' ⟨rfl, hw⟩
    have e1 : okF x = true := by unfold okF; rw [hx2]
    have e2 : vaF x = v := by unfold vaF; rw [hx2]
    rw [e2]
    refine ⟨.inl ⟨e1, Lib.atoiAll_bounds hx2, rfl⟩, ?_⟩
    rcases hw with rfl | ⟨t, rfl⟩
    · exact Below.refl _ _
    · exact Lib.bytesWorld_below _ _ _
  · refine (Any.strconv_Atoi_syntax Tryd.laysC172 ⟨x.toArray⟩ (by omega) hx2 (.iface t1 p1) w h1 (Or.inr ⟨t1, p1, rfl⟩)).mono ?_
    rintro e w' ⟨N, rfl, _, _, hb⟩
    have e1 : okF x = false := by unfold okF; rw [hx2]
    exact ⟨.inr ⟨e1, _, _, _, rfl⟩, hb⟩
  · refine (Tryd.strconv_Atoi_range ⟨x.toArray⟩ (by omega) hx2 (.iface t2 p2) w h2 (Or.inr ⟨t2, p2, rfl⟩)).mono ?_
    rintro e w' ⟨N, rfl, _, _, hb⟩
    have e1 : okF x = false := by unfold okF; rw [hx2]
    exact ⟨.inr ⟨e1, _, _, _, rfl⟩, hb⟩
end Go.Proofs.YtffkoeobehocjaaDoor
