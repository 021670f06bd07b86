/- Walks of the laws FnExactBitOf, FnExactWeight, FnExactDiffer: each returns true and writes nothing that was there. -/
import Derived.Test.YtjagnbnbibdbmaaDiffer
namespace Go.Proofs.Ytjagnbnbibdbmaa
open Go.RowKit

theorem walk_FnExactBitOf (a0 a1 a2 : Int) (w : World) (b0 : -9223372036854775808 ≤ a0 ∧ a0 ≤ 9223372036854775807) (_b1 : -9223372036854775808 ≤ a1 ∧ a1 ≤ 9223372036854775807) (_b2 : -9223372036854775808 ≤ a2 ∧ a2 ≤ 9223372036854775807) :
    Calls Try.prog 5 #[.int .i64 a0, .int .i64 a1, .int .i64 a2] w fun e w' => e = .returned (.bool true) ∧ Below w.heap.size w w' := by
  go_enter Try.func5, Try.ntmps5
  go_wp2_with (first | (go_at_call 19; refine (specBitOf_any _ _ _ _ b0).mono ?_; rintro e w' ⟨rfl, rfl⟩) | (go_at_call 20; refine (implBitOf_any _ _ _ _ b0).mono ?_; rintro e w' ⟨rfl, rfl⟩))
  go_ret
  exact ⟨rfl, Below.refl _ _⟩

theorem walk_FnExactWeight (a0 a1 : Int) (w : World) (_b0 : -9223372036854775808 ≤ a0 ∧ a0 ≤ 9223372036854775807) (_b1 : -9223372036854775808 ≤ a1 ∧ a1 ≤ 9223372036854775807) :
    Calls Try.prog 7 #[.int .i64 a0, .int .i64 a1] w fun e w' => e = .returned (.bool true) ∧ Below w.heap.size w w' := by
  go_enter Try.func7, Try.ntmps7
  go_wp2_with (first | (go_at_call 23; refine (specWeight_any _ _ _).mono ?_; rintro e w' ⟨rfl, rfl⟩) | (go_at_call 24; refine (implWeight_any _ _ _).mono ?_; rintro e w' ⟨rfl, rfl⟩))
  go_ret
  exact ⟨rfl, Below.refl _ _⟩

theorem walk_FnExactDiffer (a0 a1 a2 : Int) (w : World) (_b0 : -9223372036854775808 ≤ a0 ∧ a0 ≤ 9223372036854775807) (_b1 : -9223372036854775808 ≤ a1 ∧ a1 ≤ 9223372036854775807) (_b2 : -9223372036854775808 ≤ a2 ∧ a2 ≤ 9223372036854775807) :
    Calls Try.prog 9 #[.int .i64 a0, .int .i64 a1, .int .i64 a2] w fun e w' => e = .returned (.bool true) ∧ Below w.heap.size w w' := by
  go_enter Try.func9, Try.ntmps9
  go_wp2_with (first | (go_at_call 26; refine (specDiffer_any _ _ _ _).mono ?_; rintro e w' ⟨rfl, rfl⟩) | (go_at_call 27; refine (implDiffer_any _ _ _ _).mono ?_; rintro e w' ⟨rfl, rfl⟩))
  go_ret
  exact ⟨rfl, Below.refl _ _⟩
end Go.Proofs.Ytjagnbnbibdbmaa
