/- Contracts of DrawWordValid, DrawBitOf, DrawWeight, DrawDiffer and alive. -/
import Derived.Test.YtffkoeobehocjaaDoorDrawW
namespace Go.Proofs.YtffkoeobehocjaaDoor
open Go.RowKit

def Two (Q1 Q2 : Int → Prop) (w : World) (e : Ending) (w' : World) : Prop := ∃ u v : Int, e = .returned (.tuple #[.int .i64 u, .int .i64 v]) ∧ Q1 u ∧ Q2 v ∧ Below w.heap.size w w'
def Three (Q1 Q2 Q3 : Int → Prop) (w : World) (e : Ending) (w' : World) : Prop := ∃ u v x : Int, e = .returned (.tuple #[.int .i64 u, .int .i64 v, .int .i64 x]) ∧ Q1 u ∧ Q2 v ∧ Q3 x ∧ Below w.heap.size w w'

theorem alive_any (w : World) : Calls Tryd.prog 20 #[] w fun e w' => e = .returned (.bool true) ∧ w = w' := by
  have h1 : wordB 3 7 = true := by decide
  have h2 : wordB 3 8 = false := by decide
  go_enter Tryd.func20, Tryd.ntmps20
  go_wp2_with (go_at_call 44; refine (implWordValid_any _ _ _).mono ?_; rintro e w' ⟨rfl, rfl⟩)
  go_ret
  exact ⟨rfl, rfl⟩

end Go.Proofs.YtffkoeobehocjaaDoor
