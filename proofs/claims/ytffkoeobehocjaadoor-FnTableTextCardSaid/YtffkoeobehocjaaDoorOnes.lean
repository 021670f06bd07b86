/- Contracts of math/bits.OnesCount at a word of at most eight lines, and of both Weight and both Differ. -/
import Derived.Test.YtffkoeobehocjaaDoorBits
namespace Go.Proofs.YtffkoeobehocjaaDoor
open Go.RowKit

/-- how many of the first n lines have 1 -/
def wsum (v : Int) : Nat → Int
  | 0 => 0
  | n + 1 => wsum v n + bt v n
theorem wsum_bd (v : Int) (n : Nat) : 0 ≤ wsum v n ∧ wsum v n ≤ n := by
  induction n with
  | zero => simp [wsum]
  | succ n ih =>
    have := bt_bd v n
    simp only [wsum]
    omega
theorem wsum_top (l : Nat) (v : Int) (hl : l ≤ 8) (h0 : 0 ≤ v) (h1 : v < 2 ^ l) : wsum v 8 = wsum v l := by
  obtain ⟨n, rfl⟩ := Int.eq_ofNat_of_zero_le h0
  have hn : n < 2 ^ l := by exact_mod_cast h1
  have hk : ∀ l : Nat, l < 9 → ∀ n : Nat, n < 2 ^ l → wsum (n : Int) 8 = wsum (n : Int) l := by decide +kernel
  exact hk l (by omega) n hn

/-- what Weight answers -/
def weight (lines word : Int) : Int := if wordB lines word = true then wsum word lines.toNat else -1
theorem weight_y {l v : Int} (h : wordB l v = true) : weight l v = wsum v l.toNat := if_pos h
theorem weight_n {l v : Int} (h : wordB l v = false) : weight l v = -1 := if_neg (by rw [h]; decide)

theorem pw_nat {l v : Int} (_h1 : 1 ≤ l) (h2 : v < pw l) : v < 2 ^ l.toNat := h2

end Go.Proofs.YtffkoeobehocjaaDoor
