/- Walk of the law FnExactCircuitJoin: it returns true and writes nothing that was there. -/
import Derived.Test.YtpciidimmkohiaaJoin
namespace Go.Proofs.Ytpciidimmkohiaa
open Go.RowKit
set_option linter.unusedVariables false

set_option maxHeartbeats 4000000 in
theorem walk_FnExactCircuitJoin (a0 : Int) (A1 : Option Addr) (n1 c1 : Nat) (xs1 : List Gt) (A2 : Option Addr) (n2 c2 : Nat) (xs2 : List Gt) (w : World) (hb900 : -9223372036854775808 ≤ a0 ∧ a0 ≤ 9223372036854775807) (h1 : GatesIn w A1 n1 c1 xs1) (h2 : GatesIn w A2 n2 c2 xs2) :
    Calls Try.prog 11 #[.int .i64 a0, .slice A1 n1 c1, .slice A2 n2 c2] w fun e w' => e = .returned (.bool true) ∧ Below w.heap.size w w' := by
  obtain ⟨hnc1, hcm1, hz1, hwf1, hR1⟩ := h1
  unfold maxLen at hcm1
  obtain rfl := hz1
  obtain ⟨hnc2, hcm2, hz2, hwf2, hR2⟩ := h2
  unfold maxLen at hcm2
  obtain rfl := hz2
  by_cases hn1 : 1048576 < xs1.length
  · go_enter Try.func11, Try.ntmps11
    go_wp2_with fail
    refine (szGate_big A1 xs1.length c1 (1048576) _ (by omega) (by omega) (by omega) (by omega)).mono ?_
    rintro e w' ⟨rfl, rfl⟩
    go_wp2_with fail
    go_ret
    exact ⟨rfl, Below.refl _ _⟩
  by_cases hn2 : 1048576 < xs1.length + xs2.length
  · go_enter Try.func11, Try.ntmps11
    go_wp2_with fail
    refine (szGate_ok A1 xs1.length c1 (1048576) _ (by omega) (by omega)).mono ?_
    rintro e w' ⟨rfl, rfl⟩
    go_wp2_with fail
    refine (szGate_big A2 xs2.length c2 (1048576 - (xs1.length : Int)) _ (by omega) (by omega) (by omega) (by omega)).mono ?_
    rintro e w' ⟨rfl, rfl⟩
    go_wp2_with fail
    go_ret
    exact ⟨rfl, Below.refl _ _⟩
  obtain ⟨R0, eR0⟩ : ∃ R, R = joinL a0 xs1 xs2 := ⟨_, rfl⟩
  have rl0 := joinL_bd a0 xs1 xs2
  rw [← eR0] at rl0
  have HR0 := Lib.hid eR0
  clear eR0
  obtain ⟨R1, eR1⟩ : ∃ R, R = joinB a0 xs1 xs2 := ⟨_, rfl⟩
  have HR1 := Lib.hid eR1
  clear eR1
  have ne1 : (R1 != R1) = false := by simp
  go_enter Try.func11, Try.ntmps11
  go_wp2_with fail
  refine (szGate_ok A1 xs1.length c1 (1048576) _ (by omega) (by omega)).mono ?_
  rintro e w' ⟨rfl, rfl⟩
  go_wp2_with fail
  refine (szGate_ok A2 xs2.length c2 (1048576 - (xs1.length : Int)) _ (by omega) (by omega)).mono ?_
  rintro e w' ⟨rfl, rfl⟩
  go_wp2_with fail
  refine (toGateS_any A1 xs1.length c1 _ xs1 _ hR1 (Nat.le_refl _) rfl (by omega)).mono ?_
  rintro e w1 ⟨A101, c101, rfl, nc101, S101, hb1⟩
  have Ww1 := hb1
  replace hR1 := hR1.next hb1 (Nat.le_refl _)
  replace hR2 := hR2.next hb1 (Nat.le_refl _)
  have zw1 := hb1.size
  replace S101 := Sl.of_own S101
  go_wp2_with fail
  refine (toGateS_any A2 xs2.length c2 _ xs2 _ hR2 Ww1.size rfl (by omega)).mono ?_
  rintro e w2 ⟨A102, c102, rfl, nc102, S102, hb2⟩
  have Ww2 := bnext Ww1 hb2 (Nat.le_refl _)
  replace hR1 := hR1.next hb2 Ww1.size
  replace hR2 := hR2.next hb2 Ww1.size
  replace S101 := S101.next hb2
  have zw2 := hb2.size
  replace S102 := Sl.of_own S102
  go_wp2_with fail
  have hF := specCircuitJoin_any a0 A101 xs1.length c101 _ xs1 A102 xs2.length c102 _ xs2 _ (S101.reads (n := xs1.length) (size := 4) (by simp [gcells_len]) (by omega)) S101.1 rfl nc101 (by omega) (S102.reads (n := xs2.length) (size := 4) (by simp [gcells_len]) (by omega)) S102.1 rfl nc102 (by omega)
  rw [← HR0.out] at hF
  rw [← HR1.out] at hF
  refine hF.mono ?_
  clear hF
  rintro e w3 ⟨A103, c103, rfl, nc103, S103, hb3⟩
  have Ww3 := bnext Ww2 hb3 (Nat.le_refl _)
  replace hR1 := hR1.next hb3 Ww2.size
  replace hR2 := hR2.next hb3 Ww2.size
  replace S101 := S101.next hb3
  replace S102 := S102.next hb3
  have zw3 := hb3.size
  replace S103 := Sl.of_own S103
  clear S101
  clear S102
  go_wp2_with fail
  refine (toGateS_any A1 xs1.length c1 _ xs1 _ hR1 Ww3.size rfl (by omega)).mono ?_
  rintro e w4 ⟨A104, c104, rfl, nc104, S104, hb4⟩
  have Ww4 := bnext Ww3 hb4 (Nat.le_refl _)
  replace hR1 := hR1.next hb4 Ww3.size
  replace hR2 := hR2.next hb4 Ww3.size
  replace S103 := S103.next hb4
  have zw4 := hb4.size
  replace S104 := Sl.of_own S104
  go_wp2_with fail
  refine (toGateS_any A2 xs2.length c2 _ xs2 _ hR2 Ww4.size rfl (by omega)).mono ?_
  rintro e w5 ⟨A105, c105, rfl, nc105, S105, hb5⟩
  have Ww5 := bnext Ww4 hb5 (Nat.le_refl _)
  replace hR1 := hR1.next hb5 Ww4.size
  replace hR2 := hR2.next hb5 Ww4.size
  replace S103 := S103.next hb5
  replace S104 := S104.next hb5
  have zw5 := hb5.size
  replace S105 := Sl.of_own S105
  go_wp2_with fail
  have hF := implCircuitJoin_any a0 A104 xs1.length c104 _ xs1 A105 xs2.length c105 _ xs2 _ (S104.reads (n := xs1.length) (size := 4) (by simp [gcells_len]) (by omega)) S104.1 rfl nc104 (by omega) (S105.reads (n := xs2.length) (size := 4) (by simp [gcells_len]) (by omega)) S105.1 rfl nc105 (by omega)
  rw [← HR0.out] at hF
  rw [← HR1.out] at hF
  refine hF.mono ?_
  clear hF
  rintro e w6 ⟨A106, c106, rfl, nc106, S106, hb6⟩
  have Ww6 := bnext Ww5 hb6 (Nat.le_refl _)
  replace hR1 := hR1.next hb6 Ww5.size
  replace hR2 := hR2.next hb6 Ww5.size
  replace S103 := S103.next hb6
  replace S104 := S104.next hb6
  replace S105 := S105.next hb6
  have zw6 := hb6.size
  replace S106 := Sl.of_own S106
  go_wp2_with fail
  refine (Calls.idBelow (eqGateS_same A106 A103 R0.length c106 c103 _ _ R0 _ (S106.reads (n := R0.length) (size := 4) (by simp [gcells_len]) (by omega)) (S103.reads (n := R0.length) (size := 4) (by simp [gcells_len]) (by omega)) S106.1 S103.1 rfl (by omega))).mono ?_
  rintro e w7 ⟨rfl, hb7⟩
  have Ww7 := bnext Ww6 hb7 (Nat.le_refl _)
  replace hR1 := hR1.next hb7 Ww6.size
  replace hR2 := hR2.next hb7 Ww6.size
  replace S103 := S103.next hb7
  replace S104 := S104.next hb7
  replace S105 := S105.next hb7
  replace S106 := S106.next hb7
  have zw7 := hb7.size
  go_wp2_with fail
  refine (toGateS_any A1 xs1.length c1 _ xs1 _ hR1 Ww7.size rfl (by omega)).mono ?_
  rintro e w8 ⟨A108, c108, rfl, nc108, S108, hb8⟩
  have Ww8 := bnext Ww7 hb8 (Nat.le_refl _)
  replace hR1 := hR1.next hb8 Ww7.size
  replace hR2 := hR2.next hb8 Ww7.size
  replace S103 := S103.next hb8
  replace S104 := S104.next hb8
  replace S105 := S105.next hb8
  replace S106 := S106.next hb8
  have zw8 := hb8.size
  replace S108 := Sl.of_own S108
  go_wp2_with fail
  refine (Calls.idBelow (eqGateS_same A104 A108 xs1.length c104 c108 _ _ xs1 _ (S104.reads (n := xs1.length) (size := 4) (by simp [gcells_len]) (by omega)) (S108.reads (n := xs1.length) (size := 4) (by simp [gcells_len]) (by omega)) S104.1 S108.1 rfl (by omega))).mono ?_
  rintro e w9 ⟨rfl, hb9⟩
  have Ww9 := bnext Ww8 hb9 (Nat.le_refl _)
  replace hR1 := hR1.next hb9 Ww8.size
  replace hR2 := hR2.next hb9 Ww8.size
  replace S103 := S103.next hb9
  replace S104 := S104.next hb9
  replace S105 := S105.next hb9
  replace S106 := S106.next hb9
  replace S108 := S108.next hb9
  have zw9 := hb9.size
  clear S108
  go_wp2_with fail
  refine (toGateS_any A2 xs2.length c2 _ xs2 _ hR2 Ww9.size rfl (by omega)).mono ?_
  rintro e w10 ⟨A110, c110, rfl, nc110, S110, hb10⟩
  have Ww10 := bnext Ww9 hb10 (Nat.le_refl _)
  replace hR1 := hR1.next hb10 Ww9.size
  replace hR2 := hR2.next hb10 Ww9.size
  replace S103 := S103.next hb10
  replace S104 := S104.next hb10
  replace S105 := S105.next hb10
  replace S106 := S106.next hb10
  have zw10 := hb10.size
  replace S110 := Sl.of_own S110
  go_wp2_with fail
  refine (Calls.idBelow (eqGateS_same A105 A110 xs2.length c105 c110 _ _ xs2 _ (S105.reads (n := xs2.length) (size := 4) (by simp [gcells_len]) (by omega)) (S110.reads (n := xs2.length) (size := 4) (by simp [gcells_len]) (by omega)) S105.1 S110.1 rfl (by omega))).mono ?_
  rintro e w11 ⟨rfl, hb11⟩
  have Ww11 := bnext Ww10 hb11 (Nat.le_refl _)
  replace hR1 := hR1.next hb11 Ww10.size
  replace hR2 := hR2.next hb11 Ww10.size
  replace S103 := S103.next hb11
  replace S104 := S104.next hb11
  replace S105 := S105.next hb11
  replace S106 := S106.next hb11
  replace S110 := S110.next hb11
  have zw11 := hb11.size
  clear S110
  go_wp2_with fail
  refine (markGateS_sl A104 c104 _ _ xs1 (1) _ S104 (by omega) (by omega) (by omega)).mono ?_
  rintro e w12 ⟨rfl, S104m, hb12⟩
  have hBw12 := hb12.below (B := w.heap.size) (by omega) (by omega)
  have Ww12 := Ww11.trans hBw12
  replace hR1 := hR1.below hBw12
  replace hR2 := hR2.below hBw12
  replace S103 := S103.chg hb12 (by omega)
  replace S105 := S105.chg hb12 (by omega)
  replace S106 := S106.chg hb12 (by omega)
  have zw12 := hb12.size
  replace S104 := S104m
  go_wp2_with fail
  refine (markGateS_sl A105 c105 _ _ xs2 (1 + 4 * xs1.length) _ S105 (by omega) (by omega) (by omega)).mono ?_
  rintro e w13 ⟨rfl, S105m, hb13⟩
  have hBw13 := hb13.below (B := w.heap.size) (by omega) (by omega)
  have Ww13 := Ww12.trans hBw13
  replace hR1 := hR1.below hBw13
  replace hR2 := hR2.below hBw13
  replace S103 := S103.chg hb13 (by omega)
  replace S104 := S104.chg hb13 (by omega)
  replace S106 := S106.chg hb13 (by omega)
  have zw13 := hb13.size
  replace S105 := S105m
  go_wp2_with fail
  refine (Calls.idBelow (eqGateS_same A106 A103 R0.length c106 c103 _ _ R0 _ (S106.reads (n := R0.length) (size := 4) (by simp [gcells_len]) (by omega)) (S103.reads (n := R0.length) (size := 4) (by simp [gcells_len]) (by omega)) S106.1 S103.1 rfl (by omega))).mono ?_
  rintro e w14 ⟨rfl, hb14⟩
  have Ww14 := bnext Ww13 hb14 (Nat.le_refl _)
  replace hR1 := hR1.next hb14 Ww13.size
  replace hR2 := hR2.next hb14 Ww13.size
  replace S103 := S103.next hb14
  replace S104 := S104.next hb14
  replace S105 := S105.next hb14
  replace S106 := S106.next hb14
  have zw14 := hb14.size
  go_wp2_with fail
  refine (markGateS_sl A106 c106 _ _ R0 (1) _ S106 (by omega) (by omega) (by omega)).mono ?_
  rintro e w15 ⟨rfl, S106m, hb15⟩
  have hBw15 := hb15.below (B := w.heap.size) (by omega) (by omega)
  have Ww15 := Ww14.trans hBw15
  replace hR1 := hR1.below hBw15
  replace hR2 := hR2.below hBw15
  replace S103 := S103.chg hb15 (by omega)
  replace S104 := S104.chg hb15 (by omega)
  replace S105 := S105.chg hb15 (by omega)
  have zw15 := hb15.size
  replace S106 := S106m
  go_wp2_with fail
  refine (Calls.toBelow (heldGateS_any A106 R0.length c106 _ (1) _ (S106.reads (n := R0.length) (size := 4) (by simp [gcells_len, marksG_len]) (by omega)) (by omega) (by omega) (by omega))).mono ?_
  rintro e w16 ⟨rfl, hb16⟩
  have Ww16 := bnext Ww15 hb16 (Nat.le_refl _)
  replace hR1 := hR1.next hb16 Ww15.size
  replace hR2 := hR2.next hb16 Ww15.size
  replace S103 := S103.next hb16
  replace S104 := S104.next hb16
  replace S105 := S105.next hb16
  replace S106 := S106.next hb16
  have zw16 := hb16.size
  go_wp2_with fail
  refine (toGateS_any A1 xs1.length c1 _ xs1 _ hR1 Ww16.size rfl (by omega)).mono ?_
  rintro e w17 ⟨A117, c117, rfl, nc117, S117, hb17⟩
  have Ww17 := bnext Ww16 hb17 (Nat.le_refl _)
  replace hR1 := hR1.next hb17 Ww16.size
  replace hR2 := hR2.next hb17 Ww16.size
  replace S103 := S103.next hb17
  replace S104 := S104.next hb17
  replace S105 := S105.next hb17
  replace S106 := S106.next hb17
  have zw17 := hb17.size
  replace S117 := Sl.of_own S117
  go_wp2_with fail
  refine (toGateS_any A2 xs2.length c2 _ xs2 _ hR2 Ww17.size rfl (by omega)).mono ?_
  rintro e w18 ⟨A118, c118, rfl, nc118, S118, hb18⟩
  have Ww18 := bnext Ww17 hb18 (Nat.le_refl _)
  replace hR1 := hR1.next hb18 Ww17.size
  replace hR2 := hR2.next hb18 Ww17.size
  replace S103 := S103.next hb18
  replace S104 := S104.next hb18
  replace S105 := S105.next hb18
  replace S106 := S106.next hb18
  replace S117 := S117.next hb18
  have zw18 := hb18.size
  replace S118 := Sl.of_own S118
  go_wp2_with fail
  have hF := implCircuitJoin_any a0 A117 xs1.length c117 _ xs1 A118 xs2.length c118 _ xs2 _ (S117.reads (n := xs1.length) (size := 4) (by simp [gcells_len]) (by omega)) S117.1 rfl nc117 (by omega) (S118.reads (n := xs2.length) (size := 4) (by simp [gcells_len]) (by omega)) S118.1 rfl nc118 (by omega)
  rw [← HR0.out] at hF
  rw [← HR1.out] at hF
  refine hF.mono ?_
  clear hF
  rintro e w19 ⟨A119, c119, rfl, nc119, S119, hb19⟩
  have Ww19 := bnext Ww18 hb19 (Nat.le_refl _)
  replace hR1 := hR1.next hb19 Ww18.size
  replace hR2 := hR2.next hb19 Ww18.size
  replace S103 := S103.next hb19
  replace S104 := S104.next hb19
  replace S105 := S105.next hb19
  replace S106 := S106.next hb19
  replace S117 := S117.next hb19
  replace S118 := S118.next hb19
  have zw19 := hb19.size
  replace S119 := Sl.of_own S119
  clear S117
  clear S118
  go_wp2_with fail
  refine (Calls.idBelow (eqGateS_same A119 A103 R0.length c119 c103 _ _ R0 _ (S119.reads (n := R0.length) (size := 4) (by simp [gcells_len]) (by omega)) (S103.reads (n := R0.length) (size := 4) (by simp [gcells_len]) (by omega)) S119.1 S103.1 rfl (by omega))).mono ?_
  rintro e w20 ⟨rfl, hb20⟩
  have Ww20 := bnext Ww19 hb20 (Nat.le_refl _)
  replace hR1 := hR1.next hb20 Ww19.size
  replace hR2 := hR2.next hb20 Ww19.size
  replace S103 := S103.next hb20
  replace S104 := S104.next hb20
  replace S105 := S105.next hb20
  replace S106 := S106.next hb20
  replace S119 := S119.next hb20
  have zw20 := hb20.size
  go_wp2_with fail
  refine (Calls.toBelow (heldGateS_any A106 R0.length c106 _ (1) _ (S106.reads (n := R0.length) (size := 4) (by simp [gcells_len, marksG_len]) (by omega)) (by omega) (by omega) (by omega))).mono ?_
  rintro e w21 ⟨rfl, hb21⟩
  have Ww21 := bnext Ww20 hb21 (Nat.le_refl _)
  replace hR1 := hR1.next hb21 Ww20.size
  replace hR2 := hR2.next hb21 Ww20.size
  replace S103 := S103.next hb21
  replace S104 := S104.next hb21
  replace S105 := S105.next hb21
  replace S106 := S106.next hb21
  replace S119 := S119.next hb21
  have zw21 := hb21.size
  go_wp2_with fail
  go_ret
  exact ⟨rfl, Ww21⟩
end Go.Proofs.Ytpciidimmkohiaa
