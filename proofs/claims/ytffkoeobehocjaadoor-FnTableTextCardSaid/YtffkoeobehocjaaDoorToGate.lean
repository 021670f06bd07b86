/- Contract of toGate: the gate is copied field by field. -/
import Derived.Test.YtffkoeobehocjaaDoorNature
namespace Go.Proofs.YtffkoeobehocjaaDoor
open Go.RowKit

theorem gate_size {cs : Array Value} (h : cs.size = 4) : (Tryd.prog.info? 40).map (·.size) = some cs.size := by rw [h]; kernel_rfl

theorem toGate_any (k a b c : Int) (w : World) :
    Calls Tryd.prog 25 #[.agg #[.int .i64 k, .int .i64 a, .int .i64 b, .int .i64 c]] w fun e w' => e = .returned (.agg #[.int .i64 k, .int .i64 a, .int .i64 b, .int .i64 c]) ∧ Below w.heap.size w w' := by
  go_enter Tryd.func25, Tryd.ntmps25
  go_wp2
  have hB : ∀ o1 o3 : Obj, Blk (((w.alloc o1).alloc (.cells #[.int .i64 k, .int .i64 a, .int .i64 b, .int .i64 c] 40)).alloc o3) (w.heap.size + 1) 40 #[.int .i64 k, .int .i64 a, .int .i64 b, .int .i64 c] := fun o1 o3 => by
    have h0 := (Blk.new (w.alloc o1) 40 #[.int .i64 k, .int .i64 a, .int .i64 b, .int .i64 c]).alloc o3
    simpa using h0
  exact bodyPost_ret (v := .agg #[.int .i64 k, .int .i64 a, .int .i64 b, .int .i64 c]) (results_cell_ok Tryd.results25 rfl (load_blk (hB _ _) Tryd.underlying40 rfl (gate_size rfl))) rfl ⟨rfl, (((Below.refl _ _).alloc (Nat.le_refl _) _).alloc (by simp) _).alloc (by simp; omega) _⟩
end Go.Proofs.YtffkoeobehocjaaDoor
