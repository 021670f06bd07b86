/- Walk of the law FnExactRipple: it returns true and writes nothing that was there. -/
import Derived.Test.YtpciidimmkohiaaRip
namespace Go.Proofs.Ytpciidimmkohiaa
open Go.RowKit
set_option linter.unusedVariables false

set_option maxHeartbeats 4000000 in
theorem walk_FnExactRipple (a0 : Int) (w : World) (hb900 : -9223372036854775808 ≤ a0 ∧ a0 ≤ 9223372036854775807) :
    Calls Try.prog 3 #[.int .i64 a0] w fun e w' => e = .returned (.bool true) ∧ Below w.heap.size w w' := by
  obtain ⟨R0, eR0⟩ : ∃ R, R = rip a0 := ⟨_, rfl⟩
  have rl0 := rip_bd a0
  rw [← eR0] at rl0
  have HR0 := Lib.hid eR0
  clear eR0
  go_enter Try.func3, Try.ntmps3
  go_wp2_with fail
  have hF := specRipple_any a0 w hb900
  rw [← HR0.out] at hF
  refine hF.mono ?_
  clear hF
  rintro e w1 ⟨A101, c101, rfl, nc101, S101, hb1⟩
  have Ww1 := hb1
  have zw1 := hb1.size
  replace S101 := Sl.of_own S101
  go_wp2_with fail
  have hF := implRipple_any a0 w1
  rw [← HR0.out] at hF
  refine hF.mono ?_
  clear hF
  rintro e w2 ⟨A102, c102, rfl, nc102, S102, hb2⟩
  have Ww2 := bnext Ww1 hb2 (Nat.le_refl _)
  replace S101 := S101.next hb2
  have zw2 := hb2.size
  replace S102 := Sl.of_own S102
  go_wp2_with fail
  refine (Calls.idBelow (eqGateS_same A102 A101 R0.length c102 c101 _ _ R0 _ (S102.reads (n := R0.length) (size := 4) (by simp [gcells_len]) (by omega)) (S101.reads (n := R0.length) (size := 4) (by simp [gcells_len]) (by omega)) S102.1 S101.1 rfl (by omega))).mono ?_
  rintro e w3 ⟨rfl, hb3⟩
  have Ww3 := bnext Ww2 hb3 (Nat.le_refl _)
  replace S101 := S101.next hb3
  replace S102 := S102.next hb3
  have zw3 := hb3.size
  go_wp2_with fail
  refine (markGateS_sl A102 c102 _ _ R0 (1) _ S102 (by omega) (by omega) (by omega)).mono ?_
  rintro e w4 ⟨rfl, S102m, hb4⟩
  have hBw4 := hb4.below (B := w.heap.size) (by omega) (by omega)
  have Ww4 := Ww3.trans hBw4
  replace S101 := S101.chg hb4 (by omega)
  have zw4 := hb4.size
  replace S102 := S102m
  go_wp2_with fail
  refine (Calls.toBelow (heldGateS_any A102 R0.length c102 _ (1) _ (S102.reads (n := R0.length) (size := 4) (by simp [gcells_len, marksG_len]) (by omega)) (by omega) (by omega) (by omega))).mono ?_
  rintro e w5 ⟨rfl, hb5⟩
  have Ww5 := bnext Ww4 hb5 (Nat.le_refl _)
  replace S101 := S101.next hb5
  replace S102 := S102.next hb5
  have zw5 := hb5.size
  go_wp2_with fail
  have hF := implRipple_any a0 w5
  rw [← HR0.out] at hF
  refine hF.mono ?_
  clear hF
  rintro e w6 ⟨A106, c106, rfl, nc106, S106, hb6⟩
  have Ww6 := bnext Ww5 hb6 (Nat.le_refl _)
  replace S101 := S101.next hb6
  replace S102 := S102.next hb6
  have zw6 := hb6.size
  replace S106 := Sl.of_own S106
  go_wp2_with fail
  refine (Calls.idBelow (eqGateS_same A106 A101 R0.length c106 c101 _ _ R0 _ (S106.reads (n := R0.length) (size := 4) (by simp [gcells_len]) (by omega)) (S101.reads (n := R0.length) (size := 4) (by simp [gcells_len]) (by omega)) S106.1 S101.1 rfl (by omega))).mono ?_
  rintro e w7 ⟨rfl, hb7⟩
  have Ww7 := bnext Ww6 hb7 (Nat.le_refl _)
  replace S101 := S101.next hb7
  replace S102 := S102.next hb7
  replace S106 := S106.next hb7
  have zw7 := hb7.size
  go_wp2_with fail
  refine (Calls.toBelow (heldGateS_any A102 R0.length c102 _ (1) _ (S102.reads (n := R0.length) (size := 4) (by simp [gcells_len, marksG_len]) (by omega)) (by omega) (by omega) (by omega))).mono ?_
  rintro e w8 ⟨rfl, hb8⟩
  have Ww8 := bnext Ww7 hb8 (Nat.le_refl _)
  replace S101 := S101.next hb8
  replace S102 := S102.next hb8
  replace S106 := S106.next hb8
  have zw8 := hb8.size
  go_wp2_with fail
  go_ret
  exact ⟨rfl, Ww8⟩
end Go.Proofs.Ytpciidimmkohiaa
