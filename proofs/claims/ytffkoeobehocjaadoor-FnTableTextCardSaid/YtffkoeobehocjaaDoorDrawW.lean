/- Contracts of l20Word and of the draws of words. -/
import Derived.Test.YtffkoeobehocjaaDoorDraw
namespace Go.Proofs.YtffkoeobehocjaaDoor
open Go.RowKit

theorem pw_bd0 {l : Int} (h1 : 0 ≤ l) (h8 : l ≤ 8) : 1 ≤ pw l ∧ pw l ≤ 256 := by
  by_cases h : l = 0
  · subst h; decide
  · have := pw_bd (l := l) (by omega) h8; omega
theorem shl_one0 {l : Int} (h1 : 0 ≤ l) (h8 : l ≤ 8) : wrap64 (2 ^ l.toNat) = pw l := by
  have := pw_bd0 h1 h8
  show wrap64 (pw l) = pw l
  exact IntWalk.wrap64_in _ (by omega)

theorem Rd.drew {w : World} {r p : Nat} (h : Rd w r p) : Rd w.drew r p := h
theorem pair_cell (a b v : Int) (h0 : 0 ≤ v) (h1 : v < 2) : ∃ x : Int, (x = a ∨ x = b) ∧ (#[.int .i64 a, .int .i64 b] : Array Value)[v.toNat]? = some (.int .i64 x) := by
  have : v = 0 ∨ v = 1 := by omega
  rcases this with rfl | rfl
  · exact ⟨a, .inl rfl, rfl⟩
  · exact ⟨b, .inr rfl, rfl⟩

end Go.Proofs.YtffkoeobehocjaaDoor
