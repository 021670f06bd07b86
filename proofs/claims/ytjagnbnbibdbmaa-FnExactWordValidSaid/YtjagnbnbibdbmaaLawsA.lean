/- Walks of the laws FnExactConstants and FnExactWordValid: each returns true and writes nothing that was there. -/
import Derived.Test.YtjagnbnbibdbmaaWords
namespace Go.Proofs.Ytjagnbnbibdbmaa
open Go.RowKit

theorem walk_FnExactConstants (w : World) :
    Calls Try.prog 3 #[] w fun e w' => e = .returned (.bool true) ∧ Below w.heap.size w w' := by
  go_enter Try.func3, Try.ntmps3
  go_wp2
  go_ret
  exact ⟨rfl, Below.refl _ _⟩

theorem walk_FnExactWordValid (a0 a1 : Int) (w : World) (_b0 : -9223372036854775808 ≤ a0 ∧ a0 ≤ 9223372036854775807) (_b1 : -9223372036854775808 ≤ a1 ∧ a1 ≤ 9223372036854775807) :
    Calls Try.prog 4 #[.int .i64 a0, .int .i64 a1] w fun e w' => e = .returned (.bool true) ∧ Below w.heap.size w w' := by
  go_enter Try.func4, Try.ntmps4
  go_wp2_with (first
    | (go_at_call 17; refine (specWordValid_any _ _ _).mono ?_; rintro e w' ⟨rfl, rfl⟩)
    | (go_at_call 18; refine (implWordValid_any _ _ _).mono ?_; rintro e w' ⟨rfl, rfl⟩))
  go_ret
  exact ⟨rfl, Below.refl _ _⟩
end Go.Proofs.Ytjagnbnbibdbmaa
