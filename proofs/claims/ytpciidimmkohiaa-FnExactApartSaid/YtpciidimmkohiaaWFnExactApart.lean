/- Walk of the law FnExactApart: it returns true and writes nothing that was there. -/
import Derived.Test.YtpciidimmkohiaaApS
namespace Go.Proofs.Ytpciidimmkohiaa
open Go.RowKit
set_option linter.unusedVariables false

set_option maxHeartbeats 4000000 in
theorem walk_FnExactApart (a0 : Int) (g1 : Gt) (g2 : Gt) (w : World) (hb900 : -9223372036854775808 ≤ a0 ∧ a0 ≤ 9223372036854775807) :
    Calls Try.prog 5 #[.int .i64 a0, g1.val, g2.val] w fun e w' => e = .returned (.bool true) ∧ Below w.heap.size w w' := by
  obtain ⟨k1, a1, b1, c1⟩ := g1
  try unfold Gt.val
  obtain ⟨k2, a2, b2, c2⟩ := g2
  try unfold Gt.val
  obtain ⟨R0, eR0⟩ : ∃ R, R = apartB a0 ⟨k1, a1, b1, c1⟩ ⟨k2, a2, b2, c2⟩ := ⟨_, rfl⟩
  have HR0 := Lib.hid eR0
  clear eR0
  have ne0 : (R0 != R0) = false := by simp
  go_enter Try.func5, Try.ntmps5
  go_wp2_with fail
  refine (Calls.idBelow (toGate_any k1 a1 b1 c1 _)).mono ?_
  rintro e w1 ⟨rfl, hb1⟩
  obtain ⟨B1, B2, Ww1⟩ := box2 hb1
  have zB1 := B1.lt
  have zB2 := B2.lt
  have zw1 := Ww1.size
  have q1_0 : w1.cell? ⟨w.heap.size, 0, none⟩ = some (.int .i64 k1) := B1.cell 0
  have q1_1 : w1.cell? ⟨w.heap.size, 1, none⟩ = some (.int .i64 a1) := B1.cell 1
  have q1_2 : w1.cell? ⟨w.heap.size, 2, none⟩ = some (.int .i64 b1) := B1.cell 2
  have q1_3 : w1.cell? ⟨w.heap.size, 3, none⟩ = some (.int .i64 c1) := B1.cell 3
  have q2_0 : w1.cell? ⟨w.heap.size + 1, 0, none⟩ = some (.int .i64 k2) := B2.cell 0
  have q2_1 : w1.cell? ⟨w.heap.size + 1, 1, none⟩ = some (.int .i64 a2) := B2.cell 1
  have q2_2 : w1.cell? ⟨w.heap.size + 1, 2, none⟩ = some (.int .i64 b2) := B2.cell 2
  have q2_3 : w1.cell? ⟨w.heap.size + 1, 3, none⟩ = some (.int .i64 c2) := B2.cell 3
  go_wp2_with fail
  clear q1_0 q1_1 q1_2 q1_3 q2_0 q2_1 q2_2 q2_3
  refine (Calls.idBelow (toGate_any k2 a2 b2 c2 _)).mono ?_
  rintro e w2 ⟨rfl, hb2⟩
  have Ww2 := bnext Ww1 hb2 (Nat.le_refl _)
  replace B1 := B1.next hb2
  replace B2 := B2.next hb2
  have zw2 := hb2.size
  have q1_0 : w2.cell? ⟨w.heap.size, 0, none⟩ = some (.int .i64 k1) := B1.cell 0
  have q1_1 : w2.cell? ⟨w.heap.size, 1, none⟩ = some (.int .i64 a1) := B1.cell 1
  have q1_2 : w2.cell? ⟨w.heap.size, 2, none⟩ = some (.int .i64 b1) := B1.cell 2
  have q1_3 : w2.cell? ⟨w.heap.size, 3, none⟩ = some (.int .i64 c1) := B1.cell 3
  have q2_0 : w2.cell? ⟨w.heap.size + 1, 0, none⟩ = some (.int .i64 k2) := B2.cell 0
  have q2_1 : w2.cell? ⟨w.heap.size + 1, 1, none⟩ = some (.int .i64 a2) := B2.cell 1
  have q2_2 : w2.cell? ⟨w.heap.size + 1, 2, none⟩ = some (.int .i64 b2) := B2.cell 2
  have q2_3 : w2.cell? ⟨w.heap.size + 1, 3, none⟩ = some (.int .i64 c2) := B2.cell 3
  go_wp2_with fail
  clear q1_0 q1_1 q1_2 q1_3 q2_0 q2_1 q2_2 q2_3
  have hF := Calls.idBelow (specApart_any a0 ⟨k1, a1, b1, c1⟩ ⟨k2, a2, b2, c2⟩ w2)
  rw [← HR0.out] at hF
  refine hF.mono ?_
  clear hF
  rintro e w3 ⟨rfl, hb3⟩
  have Ww3 := bnext Ww2 hb3 (Nat.le_refl _)
  replace B1 := B1.next hb3
  replace B2 := B2.next hb3
  have zw3 := hb3.size
  have q1_0 : w3.cell? ⟨w.heap.size, 0, none⟩ = some (.int .i64 k1) := B1.cell 0
  have q1_1 : w3.cell? ⟨w.heap.size, 1, none⟩ = some (.int .i64 a1) := B1.cell 1
  have q1_2 : w3.cell? ⟨w.heap.size, 2, none⟩ = some (.int .i64 b1) := B1.cell 2
  have q1_3 : w3.cell? ⟨w.heap.size, 3, none⟩ = some (.int .i64 c1) := B1.cell 3
  have q2_0 : w3.cell? ⟨w.heap.size + 1, 0, none⟩ = some (.int .i64 k2) := B2.cell 0
  have q2_1 : w3.cell? ⟨w.heap.size + 1, 1, none⟩ = some (.int .i64 a2) := B2.cell 1
  have q2_2 : w3.cell? ⟨w.heap.size + 1, 2, none⟩ = some (.int .i64 b2) := B2.cell 2
  have q2_3 : w3.cell? ⟨w.heap.size + 1, 3, none⟩ = some (.int .i64 c2) := B2.cell 3
  go_wp2_with fail
  clear q1_0 q1_1 q1_2 q1_3 q2_0 q2_1 q2_2 q2_3
  refine (Calls.idBelow (toGate_any k1 a1 b1 c1 _)).mono ?_
  rintro e w4 ⟨rfl, hb4⟩
  have Ww4 := bnext Ww3 hb4 (Nat.le_refl _)
  replace B1 := B1.next hb4
  replace B2 := B2.next hb4
  have zw4 := hb4.size
  have q1_0 : w4.cell? ⟨w.heap.size, 0, none⟩ = some (.int .i64 k1) := B1.cell 0
  have q1_1 : w4.cell? ⟨w.heap.size, 1, none⟩ = some (.int .i64 a1) := B1.cell 1
  have q1_2 : w4.cell? ⟨w.heap.size, 2, none⟩ = some (.int .i64 b1) := B1.cell 2
  have q1_3 : w4.cell? ⟨w.heap.size, 3, none⟩ = some (.int .i64 c1) := B1.cell 3
  have q2_0 : w4.cell? ⟨w.heap.size + 1, 0, none⟩ = some (.int .i64 k2) := B2.cell 0
  have q2_1 : w4.cell? ⟨w.heap.size + 1, 1, none⟩ = some (.int .i64 a2) := B2.cell 1
  have q2_2 : w4.cell? ⟨w.heap.size + 1, 2, none⟩ = some (.int .i64 b2) := B2.cell 2
  have q2_3 : w4.cell? ⟨w.heap.size + 1, 3, none⟩ = some (.int .i64 c2) := B2.cell 3
  go_wp2_with fail
  clear q1_0 q1_1 q1_2 q1_3 q2_0 q2_1 q2_2 q2_3
  refine (Calls.idBelow (toGate_any k2 a2 b2 c2 _)).mono ?_
  rintro e w5 ⟨rfl, hb5⟩
  have Ww5 := bnext Ww4 hb5 (Nat.le_refl _)
  replace B1 := B1.next hb5
  replace B2 := B2.next hb5
  have zw5 := hb5.size
  have q1_0 : w5.cell? ⟨w.heap.size, 0, none⟩ = some (.int .i64 k1) := B1.cell 0
  have q1_1 : w5.cell? ⟨w.heap.size, 1, none⟩ = some (.int .i64 a1) := B1.cell 1
  have q1_2 : w5.cell? ⟨w.heap.size, 2, none⟩ = some (.int .i64 b1) := B1.cell 2
  have q1_3 : w5.cell? ⟨w.heap.size, 3, none⟩ = some (.int .i64 c1) := B1.cell 3
  have q2_0 : w5.cell? ⟨w.heap.size + 1, 0, none⟩ = some (.int .i64 k2) := B2.cell 0
  have q2_1 : w5.cell? ⟨w.heap.size + 1, 1, none⟩ = some (.int .i64 a2) := B2.cell 1
  have q2_2 : w5.cell? ⟨w.heap.size + 1, 2, none⟩ = some (.int .i64 b2) := B2.cell 2
  have q2_3 : w5.cell? ⟨w.heap.size + 1, 3, none⟩ = some (.int .i64 c2) := B2.cell 3
  go_wp2_with fail
  clear q1_0 q1_1 q1_2 q1_3 q2_0 q2_1 q2_2 q2_3
  have hF := Calls.idBelow (implApart_any a0 ⟨k1, a1, b1, c1⟩ ⟨k2, a2, b2, c2⟩ w5)
  rw [← HR0.out] at hF
  refine hF.mono ?_
  clear hF
  rintro e w6 ⟨rfl, hb6⟩
  have Ww6 := bnext Ww5 hb6 (Nat.le_refl _)
  replace B1 := B1.next hb6
  replace B2 := B2.next hb6
  have zw6 := hb6.size
  have q1_0 : w6.cell? ⟨w.heap.size, 0, none⟩ = some (.int .i64 k1) := B1.cell 0
  have q1_1 : w6.cell? ⟨w.heap.size, 1, none⟩ = some (.int .i64 a1) := B1.cell 1
  have q1_2 : w6.cell? ⟨w.heap.size, 2, none⟩ = some (.int .i64 b1) := B1.cell 2
  have q1_3 : w6.cell? ⟨w.heap.size, 3, none⟩ = some (.int .i64 c1) := B1.cell 3
  have q2_0 : w6.cell? ⟨w.heap.size + 1, 0, none⟩ = some (.int .i64 k2) := B2.cell 0
  have q2_1 : w6.cell? ⟨w.heap.size + 1, 1, none⟩ = some (.int .i64 a2) := B2.cell 1
  have q2_2 : w6.cell? ⟨w.heap.size + 1, 2, none⟩ = some (.int .i64 b2) := B2.cell 2
  have q2_3 : w6.cell? ⟨w.heap.size + 1, 3, none⟩ = some (.int .i64 c2) := B2.cell 3
  go_wp2_with fail
  go_ret
  exact ⟨rfl, Ww6⟩
end Go.Proofs.Ytpciidimmkohiaa
