/- Contract of toGate: the gate is copied field by field. -/
import Derived.Test.YtfpnjahdjppeaaaNature
namespace Go.Proofs.Ytfpnjahdjppeaaa
open Go.RowKit

theorem gate_size {cs : Array Value} (h : cs.size = 4) : (Try.prog.info? 54).map (·.size) = some cs.size := by rw [h]; kernel_rfl

end Go.Proofs.Ytfpnjahdjppeaaa
