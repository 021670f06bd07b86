/- Contracts of both Keeps, and walks of the laws FnExactGateValid and FnExactKeeps: each returns true and writes nothing that was there. -/
import Derived.Test.YtjagnbnbibdbmaaGateI
import Derived.Test.YtjagnbnbibdbmaaToGate
namespace Go.Proofs.Ytjagnbnbibdbmaa
open Go.RowKit

def keepsB (l : Int) (g : Gt) : Bool := gateB l g && (g.k == 3 || g.k == 4)

theorem cells_after {w w1 : World} {t : TypeId} {k a b c : Int} (h : Below (w.alloc (.cells #[.int .i64 k, .int .i64 a, .int .i64 b, .int .i64 c] t)).heap.size (w.alloc (.cells #[.int .i64 k, .int .i64 a, .int .i64 b, .int .i64 c] t)) w1) :
    (w1.cell? ⟨w.heap.size, 0, none⟩ = some (.int .i64 k) ∧ w1.cell? ⟨w.heap.size, 1, none⟩ = some (.int .i64 a) ∧ w1.cell? ⟨w.heap.size, 2, none⟩ = some (.int .i64 b) ∧ w1.cell? ⟨w.heap.size, 3, none⟩ = some (.int .i64 c)) ∧ Below w.heap.size w w1 := by
  have hB := (Blk.new w t #[.int .i64 k, .int .i64 a, .int .i64 b, .int .i64 c]).below h (by simp)
  exact ⟨⟨hB.cell 0, hB.cell 1, hB.cell 2, hB.cell 3⟩, ((Below.refl _ _).alloc (Nat.le_refl _) _).trans (h.mono (by simp))⟩

theorem specKeeps_any (l : Int) (g : Gt) (w : World) :
    Calls Try.prog 36 #[.int .i64 l, g.val] w fun e w' => e = .returned (.bool (keepsB l g)) ∧ Below w.heap.size w w' := by
  obtain ⟨k, a, b, c⟩ := g
  unfold Gt.val
  go_enter Try.func36, Try.ntmps36
  go_wp2_with fail
  refine (specGateValid_any l ⟨k, a, b, c⟩ _).mono ?_
  rintro e w1 ⟨rfl, hb⟩
  obtain ⟨hx, hb1⟩ := cells_after hb
  clear hb
  cases hg : gateB l ⟨k, a, b, c⟩ with
  | false =>
    have Hk : Hid (keepsB l ⟨k, a, b, c⟩ = false) := Lib.hid (by simp [keepsB, hg])
    go_wp2_with fail
    go_ret
    exact ⟨ret_bool Hk.out.symm, hb1⟩
  | true =>
    have Hk : Hid (keepsB l ⟨k, a, b, c⟩ = (k == 3 || k == 4)) := Lib.hid (by simp [keepsB, hg])
    cases h3 : (k == 3)
    · cases h4 : (k == 4)
      all_goals
        go_wp2_with fail
        go_ret
        exact ⟨ret_bool (by rw [Hk.out, h3, h4]; rfl), hb1⟩
    · go_wp2_with fail
      go_ret
      exact ⟨ret_bool (by rw [Hk.out, h3]; rfl), hb1⟩
theorem implKeeps_any (l : Int) (g : Gt) (w : World) :
    Calls Try.prog 37 #[.int .i64 l, g.val] w fun e w' => e = .returned (.bool (keepsB l g)) ∧ Below w.heap.size w w' := by
  obtain ⟨k, a, b, c⟩ := g
  unfold Gt.val
  go_enter Try.func37, Try.ntmps37
  go_wp2_with fail
  refine (implGateValid_any l ⟨k, a, b, c⟩ _).mono ?_
  rintro e w1 ⟨rfl, hb⟩
  obtain ⟨hx, hb1⟩ := cells_after hb
  clear hb
  cases hg : gateB l ⟨k, a, b, c⟩ with
  | false =>
    have Hk : Hid (keepsB l ⟨k, a, b, c⟩ = false) := Lib.hid (by simp [keepsB, hg])
    go_wp2_with fail
    go_ret
    exact ⟨ret_bool Hk.out.symm, hb1⟩
  | true =>
    have Hk : Hid (keepsB l ⟨k, a, b, c⟩ = (k == 3 || k == 4)) := Lib.hid (by simp [keepsB, hg])
    cases h3 : (k == 3)
    · cases h4 : (k == 4)
      all_goals
        go_wp2_with fail
        go_ret
        exact ⟨ret_bool (by rw [Hk.out, h3, h4]; rfl), hb1⟩
    · go_wp2_with fail
      go_ret
      exact ⟨ret_bool (by rw [Hk.out, h3]; rfl), hb1⟩
theorem walk_FnExactGateValid (l : Int) (g : Gt) (w : World) (_b0 : -9223372036854775808 ≤ l ∧ l ≤ 9223372036854775807) :
    Calls Try.prog 11 #[.int .i64 l, g.val] w fun e w' => e = .returned (.bool true) ∧ Below w.heap.size w w' := by
  obtain ⟨k, a, b, c⟩ := g
  unfold Gt.val
  go_enter Try.func11, Try.ntmps11
  go_wp2_with fail
  refine (toGate_any k a b c _).mono ?_
  rintro e w1 ⟨rfl, h1⟩
  go_wp2_with fail
  refine (specGateValid_any l ⟨k, a, b, c⟩ _).mono ?_
  rintro e w2 ⟨rfl, h2⟩
  have W2 := h1.trans (h2.mono h1.size)
  obtain ⟨hx, hb2⟩ := cells_after W2
  go_wp2_with fail
  refine (toGate_any k a b c _).mono ?_
  rintro e w3 ⟨rfl, h3⟩
  go_wp2_with fail
  refine (implGateValid_any l ⟨k, a, b, c⟩ _).mono ?_
  rintro e w4 ⟨rfl, h4⟩
  have hb4 := (hb2.trans (h3.mono hb2.size)).trans (h4.mono (Nat.le_trans hb2.size h3.size))
  obtain ⟨q, hq⟩ : ∃ q, q = gateB l ⟨k, a, b, c⟩ := ⟨_, rfl⟩
  rw [← hq]
  clear hq
  cases q
  all_goals
    go_wp2_with fail
    go_ret
    exact ⟨rfl, hb4⟩
theorem walk_FnExactKeeps (l : Int) (g : Gt) (w : World) (_b0 : -9223372036854775808 ≤ l ∧ l ≤ 9223372036854775807) :
    Calls Try.prog 12 #[.int .i64 l, g.val] w fun e w' => e = .returned (.bool true) ∧ Below w.heap.size w w' := by
  obtain ⟨k, a, b, c⟩ := g
  unfold Gt.val
  go_enter Try.func12, Try.ntmps12
  go_wp2_with fail
  refine (toGate_any k a b c _).mono ?_
  rintro e w1 ⟨rfl, h1⟩
  go_wp2_with fail
  refine (specKeeps_any l ⟨k, a, b, c⟩ _).mono ?_
  rintro e w2 ⟨rfl, h2⟩
  have W2 := h1.trans (h2.mono h1.size)
  obtain ⟨hx, hb2⟩ := cells_after W2
  go_wp2_with fail
  refine (toGate_any k a b c _).mono ?_
  rintro e w3 ⟨rfl, h3⟩
  go_wp2_with fail
  refine (implKeeps_any l ⟨k, a, b, c⟩ _).mono ?_
  rintro e w4 ⟨rfl, h4⟩
  have hb4 := (hb2.trans (h3.mono hb2.size)).trans (h4.mono (Nat.le_trans hb2.size h3.size))
  obtain ⟨q, hq⟩ : ∃ q, q = keepsB l ⟨k, a, b, c⟩ := ⟨_, rfl⟩
  rw [← hq]
  clear hq
  cases q
  all_goals
    go_wp2_with fail
    go_ret
    exact ⟨rfl, hb4⟩
end Go.Proofs.Ytjagnbnbibdbmaa
