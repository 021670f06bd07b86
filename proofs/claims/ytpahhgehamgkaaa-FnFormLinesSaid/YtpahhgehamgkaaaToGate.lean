/- Contract of toGate: the gate is copied field by field. -/
import Derived.Test.YtpahhgehamgkaaaNature
namespace Go.Proofs.Ytpahhgehamgkaaa
open Go.RowKit

theorem gate_size {cs : Array Value} (h : cs.size = 4) : (Try.prog.info? 48).map (·.size) = some cs.size := by rw [h]; kernel_rfl

theorem toGate_any (k a b c : Int) (w : World) :
    Calls Try.prog 28 #[.agg #[.int .i64 k, .int .i64 a, .int .i64 b, .int .i64 c]] w fun e w' => e = .returned (.agg #[.int .i64 k, .int .i64 a, .int .i64 b, .int .i64 c]) ∧ Below w.heap.size w w' := by
  go_enter Try.func28, Try.ntmps28
  go_wp2
  have hB : ∀ o1 o3 : Obj, Blk (((w.alloc o1).alloc (.cells #[.int .i64 k, .int .i64 a, .int .i64 b, .int .i64 c] 48)).alloc o3) (w.heap.size + 1) 48 #[.int .i64 k, .int .i64 a, .int .i64 b, .int .i64 c] := fun o1 o3 => by
    have h0 := (Blk.new (w.alloc o1) 48 #[.int .i64 k, .int .i64 a, .int .i64 b, .int .i64 c]).alloc o3
    simpa using h0
  exact bodyPost_ret (v := .agg #[.int .i64 k, .int .i64 a, .int .i64 b, .int .i64 c]) (results_cell_ok Try.results28 rfl (load_blk (hB _ _) Try.underlying48 rfl (gate_size rfl))) rfl ⟨rfl, (((Below.refl _ _).alloc (Nat.le_refl _) _).alloc (by simp) _).alloc (by simp; omega) _⟩
end Go.Proofs.Ytpahhgehamgkaaa
