/- Walk of the law FnExactUselessPair: it returns true and writes nothing that was there. -/
import Derived.Test.YtpahhgehamgkaaaUseS
namespace Go.Proofs.Ytpahhgehamgkaaa
open Go.RowKit
set_option linter.unusedVariables false

set_option maxHeartbeats 4000000 in
theorem walk_FnExactUselessPair (a0 : Int) (A1 : Option Addr) (n1 c1 : Nat) (xs1 : List Gt) (w : World) (hb900 : -9223372036854775808 ≤ a0 ∧ a0 ≤ 9223372036854775807) (h1 : GatesIn w A1 n1 c1 xs1) :
    Calls Try.prog 3 #[.int .i64 a0, .slice A1 n1 c1] w fun e w' => e = .returned (.bool true) ∧ Below w.heap.size w w' := by
  obtain ⟨hnc1, hcm1, hz1, hwf1, hR1⟩ := h1
  unfold maxLen at hcm1
  obtain rfl := hz1
  by_cases hn1 : 1048576 < xs1.length
  · go_enter Try.func3, Try.ntmps3
    go_wp2_with fail
    refine (szGate_big A1 xs1.length c1 (1048576) _ (by omega) (by omega) (by omega) (by omega)).mono ?_
    rintro e w' ⟨rfl, rfl⟩
    go_wp2_with fail
    go_ret
    exact ⟨rfl, Below.refl _ _⟩
  obtain ⟨R0, eR0⟩ : ∃ R, R = useA (usL a0 xs1) := ⟨_, rfl⟩
  have HR0 := Lib.hid eR0
  clear eR0
  have ne0 : (R0 != R0) = false := by simp
  obtain ⟨R1, eR1⟩ : ∃ R, R = useB (usL a0 xs1) := ⟨_, rfl⟩
  have HR1 := Lib.hid eR1
  clear eR1
  have ne1 : (R1 != R1) = false := by simp
  go_enter Try.func3, Try.ntmps3
  go_wp2_with fail
  refine (szGate_ok A1 xs1.length c1 (1048576) _ (by omega) (by omega)).mono ?_
  rintro e w' ⟨rfl, rfl⟩
  go_wp2_with fail
  refine (toGateS_any A1 xs1.length c1 _ xs1 _ hR1 (Nat.le_refl _) rfl (by omega)).mono ?_
  rintro e w1 ⟨A101, c101, rfl, nc101, S101, hb1⟩
  have Ww1 := hb1
  replace hR1 := hR1.next hb1 (Nat.le_refl _)
  have zw1 := hb1.size
  replace S101 := Sl.of_own S101
  go_wp2_with fail
  have hF := Calls.idBelow (specUselessPair_any a0 A101 xs1.length c101 _ xs1 _ (S101.reads (n := xs1.length) (size := 4) (by simp [gcells_len]) (by omega)) S101.1 rfl nc101 (by omega))
  rw [← HR0.out] at hF
  rw [← HR1.out] at hF
  refine hF.mono ?_
  clear hF
  rintro e w2 ⟨rfl, hb2⟩
  have Ww2 := bnext Ww1 hb2 (Nat.le_refl _)
  replace hR1 := hR1.next hb2 Ww1.size
  replace S101 := S101.next hb2
  have zw2 := hb2.size
  clear S101
  go_wp2_with fail
  refine (toGateS_any A1 xs1.length c1 _ xs1 _ hR1 Ww2.size rfl (by omega)).mono ?_
  rintro e w3 ⟨A103, c103, rfl, nc103, S103, hb3⟩
  have Ww3 := bnext Ww2 hb3 (Nat.le_refl _)
  replace hR1 := hR1.next hb3 Ww2.size
  have zw3 := hb3.size
  replace S103 := Sl.of_own S103
  go_wp2_with fail
  have hF := Calls.idBelow (implUselessPair_any a0 A103 xs1.length c103 _ xs1 _ (S103.reads (n := xs1.length) (size := 4) (by simp [gcells_len]) (by omega)) S103.1 rfl nc103 (by omega))
  rw [← HR0.out] at hF
  rw [← HR1.out] at hF
  refine hF.mono ?_
  clear hF
  rintro e w4 ⟨rfl, hb4⟩
  have Ww4 := bnext Ww3 hb4 (Nat.le_refl _)
  replace hR1 := hR1.next hb4 Ww3.size
  replace S103 := S103.next hb4
  have zw4 := hb4.size
  go_wp2_with fail
  refine (toGateS_any A1 xs1.length c1 _ xs1 _ hR1 Ww4.size rfl (by omega)).mono ?_
  rintro e w5 ⟨A105, c105, rfl, nc105, S105, hb5⟩
  have Ww5 := bnext Ww4 hb5 (Nat.le_refl _)
  replace hR1 := hR1.next hb5 Ww4.size
  replace S103 := S103.next hb5
  have zw5 := hb5.size
  replace S105 := Sl.of_own S105
  go_wp2_with fail
  refine (Calls.idBelow (eqGateS_same A103 A105 xs1.length c103 c105 _ _ xs1 _ (S103.reads (n := xs1.length) (size := 4) (by simp [gcells_len]) (by omega)) (S105.reads (n := xs1.length) (size := 4) (by simp [gcells_len]) (by omega)) S103.1 S105.1 rfl (by omega))).mono ?_
  rintro e w6 ⟨rfl, hb6⟩
  have Ww6 := bnext Ww5 hb6 (Nat.le_refl _)
  replace hR1 := hR1.next hb6 Ww5.size
  replace S103 := S103.next hb6
  replace S105 := S105.next hb6
  have zw6 := hb6.size
  clear S105
  go_wp2_with fail
  go_ret
  exact ⟨rfl, Ww6⟩
end Go.Proofs.Ytpahhgehamgkaaa
