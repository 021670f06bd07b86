/- Walk of the law FnExactCircuitShort: it returns true and writes nothing that was there. -/
import Derived.Test.YtpahhgehamgkaaaShoS
namespace Go.Proofs.Ytpahhgehamgkaaa
open Go.RowKit
set_option linter.unusedVariables false

set_option maxHeartbeats 4000000 in
theorem walk_FnExactCircuitShort (a0 : Int) (A1 : Option Addr) (n1 c1 : Nat) (xs1 : List Gt) (w : World) (hb900 : -9223372036854775808 ≤ a0 ∧ a0 ≤ 9223372036854775807) (h1 : GatesIn w A1 n1 c1 xs1) :
    Calls Try.prog 4 #[.int .i64 a0, .slice A1 n1 c1] w fun e w' => e = .returned (.bool true) ∧ Below w.heap.size w w' := by
  obtain ⟨hnc1, hcm1, hz1, hwf1, hR1⟩ := h1
  unfold maxLen at hcm1
  obtain rfl := hz1
  by_cases hn1 : 1048576 < xs1.length
  · go_enter Try.func4, Try.ntmps4
    go_wp2_with fail
    refine (szGate_big A1 xs1.length c1 (1048576) _ (by omega) (by omega) (by omega) (by omega)).mono ?_
    rintro e w' ⟨rfl, rfl⟩
    go_wp2_with fail
    go_ret
    exact ⟨rfl, Below.refl _ _⟩
  obtain ⟨R0, eR0⟩ : ∃ R, R = shoL a0 xs1 := ⟨_, rfl⟩
  have rl0 := shoL_bd a0 xs1 (by omega)
  rw [← eR0] at rl0
  have HR0 := Lib.hid eR0
  clear eR0
  go_enter Try.func4, Try.ntmps4
  go_wp2_with fail
  refine (szGate_ok A1 xs1.length c1 (1048576) _ (by omega) (by omega)).mono ?_
  rintro e w' ⟨rfl, rfl⟩
  go_wp2_with fail
  refine (toGateS_any A1 xs1.length c1 _ xs1 _ hR1 (Nat.le_refl _) rfl (by omega)).mono ?_
  rintro e w1 ⟨A101, c101, rfl, nc101, S101, hb1⟩
  have Ww1 := hb1
  replace hR1 := hR1.next hb1 (Nat.le_refl _)
  have zw1 := hb1.size
  replace S101 := Sl.of_own S101
  go_wp2_with fail
  have hF := specCircuitShort_any a0 A101 xs1.length c101 _ xs1 _ (S101.reads (n := xs1.length) (size := 4) (by simp [gcells_len]) (by omega)) S101.1 rfl nc101 (by omega)
  rw [← HR0.out] at hF
  refine hF.mono ?_
  clear hF
  rintro e w2 ⟨A102, c102, rfl, nc102, S102, hb2⟩
  have Ww2 := bnext Ww1 hb2 (Nat.le_refl _)
  replace hR1 := hR1.next hb2 Ww1.size
  replace S101 := S101.next hb2
  have zw2 := hb2.size
  replace S102 := Sl.of_own S102
  clear S101
  go_wp2_with fail
  refine (toGateS_any A1 xs1.length c1 _ xs1 _ hR1 Ww2.size rfl (by omega)).mono ?_
  rintro e w3 ⟨A103, c103, rfl, nc103, S103, hb3⟩
  have Ww3 := bnext Ww2 hb3 (Nat.le_refl _)
  replace hR1 := hR1.next hb3 Ww2.size
  replace S102 := S102.next hb3
  have zw3 := hb3.size
  replace S103 := Sl.of_own S103
  go_wp2_with fail
  have hF := implCircuitShort_any a0 A103 xs1.length c103 _ xs1 _ (S103.reads (n := xs1.length) (size := 4) (by simp [gcells_len]) (by omega)) S103.1 rfl nc103 (by omega)
  rw [← HR0.out] at hF
  refine hF.mono ?_
  clear hF
  rintro e w4 ⟨A104, c104, rfl, nc104, S104, hb4⟩
  have Ww4 := bnext Ww3 hb4 (Nat.le_refl _)
  replace hR1 := hR1.next hb4 Ww3.size
  replace S102 := S102.next hb4
  replace S103 := S103.next hb4
  have zw4 := hb4.size
  replace S104 := Sl.of_own S104
  go_wp2_with fail
  refine (Calls.idBelow (eqGateS_same A104 A102 R0.length c104 c102 _ _ R0 _ (S104.reads (n := R0.length) (size := 4) (by simp [gcells_len]) (by omega)) (S102.reads (n := R0.length) (size := 4) (by simp [gcells_len]) (by omega)) S104.1 S102.1 rfl (by omega))).mono ?_
  rintro e w5 ⟨rfl, hb5⟩
  have Ww5 := bnext Ww4 hb5 (Nat.le_refl _)
  replace hR1 := hR1.next hb5 Ww4.size
  replace S102 := S102.next hb5
  replace S103 := S103.next hb5
  replace S104 := S104.next hb5
  have zw5 := hb5.size
  go_wp2_with fail
  refine (toGateS_any A1 xs1.length c1 _ xs1 _ hR1 Ww5.size rfl (by omega)).mono ?_
  rintro e w6 ⟨A106, c106, rfl, nc106, S106, hb6⟩
  have Ww6 := bnext Ww5 hb6 (Nat.le_refl _)
  replace hR1 := hR1.next hb6 Ww5.size
  replace S102 := S102.next hb6
  replace S103 := S103.next hb6
  replace S104 := S104.next hb6
  have zw6 := hb6.size
  replace S106 := Sl.of_own S106
  go_wp2_with fail
  refine (Calls.idBelow (eqGateS_same A103 A106 xs1.length c103 c106 _ _ xs1 _ (S103.reads (n := xs1.length) (size := 4) (by simp [gcells_len]) (by omega)) (S106.reads (n := xs1.length) (size := 4) (by simp [gcells_len]) (by omega)) S103.1 S106.1 rfl (by omega))).mono ?_
  rintro e w7 ⟨rfl, hb7⟩
  have Ww7 := bnext Ww6 hb7 (Nat.le_refl _)
  replace hR1 := hR1.next hb7 Ww6.size
  replace S102 := S102.next hb7
  replace S103 := S103.next hb7
  replace S104 := S104.next hb7
  replace S106 := S106.next hb7
  have zw7 := hb7.size
  clear S106
  go_wp2_with fail
  refine (markGateS_sl A103 c103 _ _ xs1 (1) _ S103 (by omega) (by omega) (by omega)).mono ?_
  rintro e w8 ⟨rfl, S103m, hb8⟩
  have hBw8 := hb8.below (B := w.heap.size) (by omega) (by omega)
  have Ww8 := Ww7.trans hBw8
  replace hR1 := hR1.below hBw8
  replace S102 := S102.chg hb8 (by omega)
  replace S104 := S104.chg hb8 (by omega)
  have zw8 := hb8.size
  replace S103 := S103m
  go_wp2_with fail
  refine (Calls.idBelow (eqGateS_same A104 A102 R0.length c104 c102 _ _ R0 _ (S104.reads (n := R0.length) (size := 4) (by simp [gcells_len]) (by omega)) (S102.reads (n := R0.length) (size := 4) (by simp [gcells_len]) (by omega)) S104.1 S102.1 rfl (by omega))).mono ?_
  rintro e w9 ⟨rfl, hb9⟩
  have Ww9 := bnext Ww8 hb9 (Nat.le_refl _)
  replace hR1 := hR1.next hb9 Ww8.size
  replace S102 := S102.next hb9
  replace S103 := S103.next hb9
  replace S104 := S104.next hb9
  have zw9 := hb9.size
  go_wp2_with fail
  refine (markGateS_sl A104 c104 _ _ R0 (1) _ S104 (by omega) (by omega) (by omega)).mono ?_
  rintro e w10 ⟨rfl, S104m, hb10⟩
  have hBw10 := hb10.below (B := w.heap.size) (by omega) (by omega)
  have Ww10 := Ww9.trans hBw10
  replace hR1 := hR1.below hBw10
  replace S102 := S102.chg hb10 (by omega)
  replace S103 := S103.chg hb10 (by omega)
  have zw10 := hb10.size
  replace S104 := S104m
  go_wp2_with fail
  refine (Calls.toBelow (heldGateS_any A104 R0.length c104 _ (1) _ (S104.reads (n := R0.length) (size := 4) (by simp [gcells_len, marksG_len]) (by omega)) (by omega) (by omega) (by omega))).mono ?_
  rintro e w11 ⟨rfl, hb11⟩
  have Ww11 := bnext Ww10 hb11 (Nat.le_refl _)
  replace hR1 := hR1.next hb11 Ww10.size
  replace S102 := S102.next hb11
  replace S103 := S103.next hb11
  replace S104 := S104.next hb11
  have zw11 := hb11.size
  go_wp2_with fail
  refine (toGateS_any A1 xs1.length c1 _ xs1 _ hR1 Ww11.size rfl (by omega)).mono ?_
  rintro e w12 ⟨A112, c112, rfl, nc112, S112, hb12⟩
  have Ww12 := bnext Ww11 hb12 (Nat.le_refl _)
  replace hR1 := hR1.next hb12 Ww11.size
  replace S102 := S102.next hb12
  replace S103 := S103.next hb12
  replace S104 := S104.next hb12
  have zw12 := hb12.size
  replace S112 := Sl.of_own S112
  go_wp2_with fail
  have hF := implCircuitShort_any a0 A112 xs1.length c112 _ xs1 _ (S112.reads (n := xs1.length) (size := 4) (by simp [gcells_len]) (by omega)) S112.1 rfl nc112 (by omega)
  rw [← HR0.out] at hF
  refine hF.mono ?_
  clear hF
  rintro e w13 ⟨A113, c113, rfl, nc113, S113, hb13⟩
  have Ww13 := bnext Ww12 hb13 (Nat.le_refl _)
  replace hR1 := hR1.next hb13 Ww12.size
  replace S102 := S102.next hb13
  replace S103 := S103.next hb13
  replace S104 := S104.next hb13
  replace S112 := S112.next hb13
  have zw13 := hb13.size
  replace S113 := Sl.of_own S113
  clear S112
  go_wp2_with fail
  refine (Calls.idBelow (eqGateS_same A113 A102 R0.length c113 c102 _ _ R0 _ (S113.reads (n := R0.length) (size := 4) (by simp [gcells_len]) (by omega)) (S102.reads (n := R0.length) (size := 4) (by simp [gcells_len]) (by omega)) S113.1 S102.1 rfl (by omega))).mono ?_
  rintro e w14 ⟨rfl, hb14⟩
  have Ww14 := bnext Ww13 hb14 (Nat.le_refl _)
  replace hR1 := hR1.next hb14 Ww13.size
  replace S102 := S102.next hb14
  replace S103 := S103.next hb14
  replace S104 := S104.next hb14
  replace S113 := S113.next hb14
  have zw14 := hb14.size
  go_wp2_with fail
  refine (Calls.toBelow (heldGateS_any A104 R0.length c104 _ (1) _ (S104.reads (n := R0.length) (size := 4) (by simp [gcells_len, marksG_len]) (by omega)) (by omega) (by omega) (by omega))).mono ?_
  rintro e w15 ⟨rfl, hb15⟩
  have Ww15 := bnext Ww14 hb15 (Nat.le_refl _)
  replace hR1 := hR1.next hb15 Ww14.size
  replace S102 := S102.next hb15
  replace S103 := S103.next hb15
  replace S104 := S104.next hb15
  replace S113 := S113.next hb15
  have zw15 := hb15.size
  go_wp2_with fail
  go_ret
  exact ⟨rfl, Ww15⟩
end Go.Proofs.Ytpahhgehamgkaaa
