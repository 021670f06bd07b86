/- Contracts of natures, nature, some and impl.LinesOf. -/
import Derived.Test.YtfpnjahdjppeaaaGates
import Derived.Deep.WholeRow
namespace Go.Proofs.Ytfpnjahdjppeaaa
open Go.RowKit

/-- what is known of all kinds -/
def nats : Array Value := #[.string ⟨#[110, 111, 116]⟩, .int .i64 1, .int .i64 1, .int .i64 1, .string ⟨#[99, 111, 112, 121]⟩, .int .i64 3, .int .i64 2, .int .i64 1,
  .string ⟨#[98, 111, 116, 104]⟩, .int .i64 7, .int .i64 4, .int .i64 5, .string ⟨#[115, 119, 97, 112]⟩, .int .i64 3, .int .i64 3, .int .i64 3, .string ⟨#[105, 102]⟩, .int .i64 7, .int .i64 6, .int .i64 7]

theorem results_cell {fn : Func} {p : Tmp} {ty : TypeId} (h : fn.results = #[.cell p ty]) (tmps : Array Value) (P : Program) (w : World) :
    (results fn tmps).run P w = ((asAddr (tmps.getD p undef)).run P w).andThen fun a w₁ => (loadVar ty a).run P w₁ := by
  simp only [results, h]
  simp [Sem.run_bind, Result.andThen]
theorem results_cell_ok {fn : Func} {p : Tmp} {ty : TypeId} {tmps : Array Value} {P : Program} {w : World} {a : Addr} {v : Value} (h : fn.results = #[.cell p ty]) (ha : tmps.getD p undef = .pointer (some a))
    (hv : (loadVar ty a).run P w = .ok v w) : (results fn tmps).run P w = .ok v w := by
  rw [results_cell h, ha]
  exact hv
theorem results_cell2_ok {fn : Func} {p u : Tmp} {ty : TypeId} {tmps : Array Value} {P : Program} {w : World} {a : Addr} {v : Value} (h : fn.results = #[.cell p ty, .tmp u]) (ha : tmps.getD p undef = .pointer (some a))
    (hv : (loadVar ty a).run P w = .ok v w) : (results fn tmps).run P w = .ok (.tuple #[v, tmps.getD u undef]) w := by
  rw [results_cell_tmp h, ha]
  show Result.andThen ((loadVar ty a).run P w) _ = _
  rw [hv]
  rfl
theorem nats_one : nats.all (·.oneCell') = true := by kernel_rfl

/-- what is known of a kind -/
def natOf (k : Int) : Array Value :=
  if k = 0 then #[.string ⟨#[110, 111, 116]⟩, .int .i64 1, .int .i64 1, .int .i64 1]
  else if k = 1 then #[.string ⟨#[99, 111, 112, 121]⟩, .int .i64 3, .int .i64 2, .int .i64 1]
  else if k = 2 then #[.string ⟨#[98, 111, 116, 104]⟩, .int .i64 7, .int .i64 4, .int .i64 5]
  else if k = 3 then #[.string ⟨#[115, 119, 97, 112]⟩, .int .i64 3, .int .i64 3, .int .i64 3]
  else if k = 4 then #[.string ⟨#[105, 102]⟩, .int .i64 7, .int .i64 6, .int .i64 7]
  else #[.string ⟨#[]⟩, .int .i64 0, .int .i64 0, .int .i64 0]

theorem load_blk {P : Program} {w : World} {g : Nat} {t ty : TypeId} {cs : Array Value} {d : TypeDesc} (h : Blk w g t cs) (hu : P.underlying ty = some d) (hd : (match d with | .struct _ | .array _ _ => true | _ => false) = true) (hi : (P.info? ty).map (·.size) = some cs.size) :
    (loadVar ty ⟨g, 0, none⟩).run P w = .ok (.agg cs) w := run_loadVar_row _ _ t ty cs (0, 0) _ h hu hd hi
theorem natOf_size (k : Int) : (natOf k).size = 4 := by
  unfold natOf
  repeat' split
  all_goals rfl

end Go.Proofs.Ytfpnjahdjppeaaa
