/- Walk of the law FnExactStepGates: it returns true and writes nothing that was there. -/
import Derived.Test.YtpahhgehamgkaaaStI
namespace Go.Proofs.Ytpahhgehamgkaaa
open Go.RowKit
set_option linter.unusedVariables false

set_option maxHeartbeats 4000000 in
theorem walk_FnExactStepGates (g0 : St) (a1 : Int) (w : World) (hb901 : -9223372036854775808 ≤ a1 ∧ a1 ≤ 9223372036854775807) :
    Calls Try.prog 5 #[g0.val, .int .i64 a1] w fun e w' => e = .returned (.bool true) ∧ Below w.heap.size w w' := by
  obtain ⟨o0, x0, y0⟩ := g0
  try unfold St.val
  obtain ⟨R0, eR0⟩ : ∃ R, R = stepG o0 x0 y0 a1 := ⟨_, rfl⟩
  have rl0 := stepG_bd o0 x0 y0 a1
  rw [← eR0] at rl0
  have HR0 := Lib.hid eR0
  clear eR0
  go_enter Try.func5, Try.ntmps5
  go_wp2_with fail
  refine (Calls.idBelow (toStep_any o0 x0 y0 _)).mono ?_
  rintro e w1 ⟨rfl, hb1⟩
  obtain ⟨B0, Ww1⟩ := box1 hb1
  have zB0 := B0.lt
  have zw1 := Ww1.size
  have q0_0 : w1.cell? ⟨w.heap.size, 0, none⟩ = some (.int .i64 o0) := B0.cell 0
  have q0_1 : w1.cell? ⟨w.heap.size, 1, none⟩ = some (.int .i64 x0) := B0.cell 1
  have q0_2 : w1.cell? ⟨w.heap.size, 2, none⟩ = some (.int .i64 y0) := B0.cell 2
  go_wp2_with fail
  clear q0_0 q0_1 q0_2
  have hF := specStepGates_any o0 x0 y0 a1 w1
  rw [← HR0.out] at hF
  refine hF.mono ?_
  clear hF
  rintro e w2 ⟨A102, c102, rfl, nc102, S102, hb2⟩
  have Ww2 := bnext Ww1 hb2 (Nat.le_refl _)
  replace B0 := B0.next hb2
  have zw2 := hb2.size
  replace S102 := Sl.of_own S102
  have q0_0 : w2.cell? ⟨w.heap.size, 0, none⟩ = some (.int .i64 o0) := B0.cell 0
  have q0_1 : w2.cell? ⟨w.heap.size, 1, none⟩ = some (.int .i64 x0) := B0.cell 1
  have q0_2 : w2.cell? ⟨w.heap.size, 2, none⟩ = some (.int .i64 y0) := B0.cell 2
  go_wp2_with fail
  clear q0_0 q0_1 q0_2
  refine (Calls.idBelow (toStep_any o0 x0 y0 _)).mono ?_
  rintro e w3 ⟨rfl, hb3⟩
  have Ww3 := bnext Ww2 hb3 (Nat.le_refl _)
  replace B0 := B0.next hb3
  replace S102 := S102.next hb3
  have zw3 := hb3.size
  have q0_0 : w3.cell? ⟨w.heap.size, 0, none⟩ = some (.int .i64 o0) := B0.cell 0
  have q0_1 : w3.cell? ⟨w.heap.size, 1, none⟩ = some (.int .i64 x0) := B0.cell 1
  have q0_2 : w3.cell? ⟨w.heap.size, 2, none⟩ = some (.int .i64 y0) := B0.cell 2
  go_wp2_with fail
  clear q0_0 q0_1 q0_2
  have hF := implStepGates_any o0 x0 y0 a1 w3
  rw [← HR0.out] at hF
  refine hF.mono ?_
  clear hF
  rintro e w4 ⟨A104, c104, rfl, nc104, S104, hb4⟩
  have Ww4 := bnext Ww3 hb4 (Nat.le_refl _)
  replace B0 := B0.next hb4
  replace S102 := S102.next hb4
  have zw4 := hb4.size
  replace S104 := Sl.of_own S104
  have q0_0 : w4.cell? ⟨w.heap.size, 0, none⟩ = some (.int .i64 o0) := B0.cell 0
  have q0_1 : w4.cell? ⟨w.heap.size, 1, none⟩ = some (.int .i64 x0) := B0.cell 1
  have q0_2 : w4.cell? ⟨w.heap.size, 2, none⟩ = some (.int .i64 y0) := B0.cell 2
  go_wp2_with fail
  clear q0_0 q0_1 q0_2
  refine (Calls.idBelow (eqGateS_same A104 A102 R0.length c104 c102 _ _ R0 _ (S104.reads (n := R0.length) (size := 4) (by simp [gcells_len]) (by omega)) (S102.reads (n := R0.length) (size := 4) (by simp [gcells_len]) (by omega)) S104.1 S102.1 rfl (by omega))).mono ?_
  rintro e w5 ⟨rfl, hb5⟩
  have Ww5 := bnext Ww4 hb5 (Nat.le_refl _)
  replace B0 := B0.next hb5
  replace S102 := S102.next hb5
  replace S104 := S104.next hb5
  have zw5 := hb5.size
  have q0_0 : w5.cell? ⟨w.heap.size, 0, none⟩ = some (.int .i64 o0) := B0.cell 0
  have q0_1 : w5.cell? ⟨w.heap.size, 1, none⟩ = some (.int .i64 x0) := B0.cell 1
  have q0_2 : w5.cell? ⟨w.heap.size, 2, none⟩ = some (.int .i64 y0) := B0.cell 2
  go_wp2_with fail
  clear q0_0 q0_1 q0_2
  refine (markGateS_sl A104 c104 _ _ R0 (1) _ S104 (by omega) (by omega) (by omega)).mono ?_
  rintro e w6 ⟨rfl, S104m, hb6⟩
  have hBw6 := hb6.below (B := w.heap.size) (by omega) (by omega)
  have Ww6 := Ww5.trans hBw6
  replace B0 := B0.chg hb6 (by omega)
  replace S102 := S102.chg hb6 (by omega)
  have zw6 := hb6.size
  replace S104 := S104m
  have q0_0 : w6.cell? ⟨w.heap.size, 0, none⟩ = some (.int .i64 o0) := B0.cell 0
  have q0_1 : w6.cell? ⟨w.heap.size, 1, none⟩ = some (.int .i64 x0) := B0.cell 1
  have q0_2 : w6.cell? ⟨w.heap.size, 2, none⟩ = some (.int .i64 y0) := B0.cell 2
  go_wp2_with fail
  clear q0_0 q0_1 q0_2
  refine (Calls.toBelow (heldGateS_any A104 R0.length c104 _ (1) _ (S104.reads (n := R0.length) (size := 4) (by simp [gcells_len, marksG_len]) (by omega)) (by omega) (by omega) (by omega))).mono ?_
  rintro e w7 ⟨rfl, hb7⟩
  have Ww7 := bnext Ww6 hb7 (Nat.le_refl _)
  replace B0 := B0.next hb7
  replace S102 := S102.next hb7
  replace S104 := S104.next hb7
  have zw7 := hb7.size
  have q0_0 : w7.cell? ⟨w.heap.size, 0, none⟩ = some (.int .i64 o0) := B0.cell 0
  have q0_1 : w7.cell? ⟨w.heap.size, 1, none⟩ = some (.int .i64 x0) := B0.cell 1
  have q0_2 : w7.cell? ⟨w.heap.size, 2, none⟩ = some (.int .i64 y0) := B0.cell 2
  go_wp2_with fail
  clear q0_0 q0_1 q0_2
  refine (Calls.idBelow (toStep_any o0 x0 y0 _)).mono ?_
  rintro e w8 ⟨rfl, hb8⟩
  have Ww8 := bnext Ww7 hb8 (Nat.le_refl _)
  replace B0 := B0.next hb8
  replace S102 := S102.next hb8
  replace S104 := S104.next hb8
  have zw8 := hb8.size
  have q0_0 : w8.cell? ⟨w.heap.size, 0, none⟩ = some (.int .i64 o0) := B0.cell 0
  have q0_1 : w8.cell? ⟨w.heap.size, 1, none⟩ = some (.int .i64 x0) := B0.cell 1
  have q0_2 : w8.cell? ⟨w.heap.size, 2, none⟩ = some (.int .i64 y0) := B0.cell 2
  go_wp2_with fail
  clear q0_0 q0_1 q0_2
  have hF := implStepGates_any o0 x0 y0 a1 w8
  rw [← HR0.out] at hF
  refine hF.mono ?_
  clear hF
  rintro e w9 ⟨A109, c109, rfl, nc109, S109, hb9⟩
  have Ww9 := bnext Ww8 hb9 (Nat.le_refl _)
  replace B0 := B0.next hb9
  replace S102 := S102.next hb9
  replace S104 := S104.next hb9
  have zw9 := hb9.size
  replace S109 := Sl.of_own S109
  have q0_0 : w9.cell? ⟨w.heap.size, 0, none⟩ = some (.int .i64 o0) := B0.cell 0
  have q0_1 : w9.cell? ⟨w.heap.size, 1, none⟩ = some (.int .i64 x0) := B0.cell 1
  have q0_2 : w9.cell? ⟨w.heap.size, 2, none⟩ = some (.int .i64 y0) := B0.cell 2
  go_wp2_with fail
  clear q0_0 q0_1 q0_2
  refine (Calls.idBelow (eqGateS_same A109 A102 R0.length c109 c102 _ _ R0 _ (S109.reads (n := R0.length) (size := 4) (by simp [gcells_len]) (by omega)) (S102.reads (n := R0.length) (size := 4) (by simp [gcells_len]) (by omega)) S109.1 S102.1 rfl (by omega))).mono ?_
  rintro e w10 ⟨rfl, hb10⟩
  have Ww10 := bnext Ww9 hb10 (Nat.le_refl _)
  replace B0 := B0.next hb10
  replace S102 := S102.next hb10
  replace S104 := S104.next hb10
  replace S109 := S109.next hb10
  have zw10 := hb10.size
  have q0_0 : w10.cell? ⟨w.heap.size, 0, none⟩ = some (.int .i64 o0) := B0.cell 0
  have q0_1 : w10.cell? ⟨w.heap.size, 1, none⟩ = some (.int .i64 x0) := B0.cell 1
  have q0_2 : w10.cell? ⟨w.heap.size, 2, none⟩ = some (.int .i64 y0) := B0.cell 2
  go_wp2_with fail
  clear q0_0 q0_1 q0_2
  refine (Calls.toBelow (heldGateS_any A104 R0.length c104 _ (1) _ (S104.reads (n := R0.length) (size := 4) (by simp [gcells_len, marksG_len]) (by omega)) (by omega) (by omega) (by omega))).mono ?_
  rintro e w11 ⟨rfl, hb11⟩
  have Ww11 := bnext Ww10 hb11 (Nat.le_refl _)
  replace B0 := B0.next hb11
  replace S102 := S102.next hb11
  replace S104 := S104.next hb11
  replace S109 := S109.next hb11
  have zw11 := hb11.size
  have q0_0 : w11.cell? ⟨w.heap.size, 0, none⟩ = some (.int .i64 o0) := B0.cell 0
  have q0_1 : w11.cell? ⟨w.heap.size, 1, none⟩ = some (.int .i64 x0) := B0.cell 1
  have q0_2 : w11.cell? ⟨w.heap.size, 2, none⟩ = some (.int .i64 y0) := B0.cell 2
  go_wp2_with fail
  go_ret
  exact ⟨rfl, Ww11⟩
end Go.Proofs.Ytpahhgehamgkaaa
