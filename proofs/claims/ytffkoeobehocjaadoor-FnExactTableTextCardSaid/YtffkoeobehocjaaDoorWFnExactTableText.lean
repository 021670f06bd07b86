/- Walk of the law FnExactTableText: it returns true and writes nothing that was there, where strconv's table is laid. -/
import Derived.Test.YtffkoeobehocjaaDoorTxtJ
namespace Go.Proofs.YtffkoeobehocjaaDoor
open Go.RowKit
set_option linter.unusedVariables false

set_option maxHeartbeats 4000000 in
set_option maxRecDepth 50000 in
theorem walk_FnExactTableText (a0 : Int) (A1 : Option Addr) (n1 c1 : Nat) (xs1 : List Int) (w : World) (hb900 : -9223372036854775808 ≤ a0 ∧ a0 ≤ 9223372036854775807) (h1 : IntsIn .i64 w A1 n1 c1 xs1) (ht : Tab10 w) :
    Calls Tryd.prog 6 #[.int .i64 a0, .slice A1 n1 c1] w fun e w' => e = .returned (.bool true) ∧ Below w.heap.size w w' := by
  obtain ⟨hnc1, hcm1, hz1, hwf1, hR1⟩ := h1
  unfold maxLen at hcm1
  obtain rfl := hz1
  by_cases hn1 : 1048576 < xs1.length
  · clear ht
    go_enter Tryd.func6, Tryd.ntmps6
    go_wp2_with fail
    go_ret
    exact ⟨rfl, Below.refl _ _⟩
  have HT := Lib.hid ht
  clear ht
  obtain ⟨R0, eR0⟩ : ∃ R, R = tabTx a0 xs1 := ⟨_, rfl⟩
  have HR0 := Lib.hid eR0
  clear eR0
  go_enter Tryd.func6, Tryd.ntmps6
  go_wp2_with fail
  refine (toIntS_any A1 xs1.length c1 _ xs1 _ hR1 (Nat.le_refl _) rfl (by omega)).mono ?_
  rintro e w1 ⟨A101, c101, rfl, nc101, S101, hb1⟩
  have Ww1 := hb1
  replace hR1 := hR1.next hb1 (Nat.le_refl _)
  have zw1 := hb1.size
  replace S101 := Sl.of_own S101
  go_wp2_with fail
  have hF := Calls.idBelow (specTableText_any a0 A101 xs1.length c101 _ xs1 _ (S101.reads (n := xs1.length) (size := 1) (by simp) (by omega)) S101.1 rfl nc101 (by omega))
  rw [← HR0.out] at hF
  refine hF.mono ?_
  clear hF
  rintro e w2 ⟨rfl, hb2⟩
  have Ww2 := bnext Ww1 hb2 (Nat.le_refl _)
  replace hR1 := hR1.next hb2 Ww1.size
  have zw2 := hb2.size
  clear S101
  go_wp2_with fail
  refine (toIntS_any A1 xs1.length c1 _ xs1 _ hR1 Ww2.size rfl (by omega)).mono ?_
  rintro e w3 ⟨A103, c103, rfl, nc103, S103, hb3⟩
  have Ww3 := bnext Ww2 hb3 (Nat.le_refl _)
  replace hR1 := hR1.next hb3 Ww2.size
  have zw3 := hb3.size
  replace S103 := Sl.of_own S103
  go_wp2_with fail
  have hF := Calls.idBelow (implTableText_any a0 A103 xs1.length c103 _ xs1 _ (S103.reads (n := xs1.length) (size := 1) (by simp) (by omega)) S103.1 rfl nc103 (by omega) (HT.out.on Ww3))
  rw [← HR0.out] at hF
  refine hF.mono ?_
  clear hF
  rintro e w4 ⟨rfl, hb4⟩
  have Ww4 := bnext Ww3 hb4 (Nat.le_refl _)
  replace hR1 := hR1.next hb4 Ww3.size
  replace S103 := S103.next hb4
  have zw4 := hb4.size
  go_wp2_with fail
  refine (toIntS_any A1 xs1.length c1 _ xs1 _ hR1 Ww4.size rfl (by omega)).mono ?_
  rintro e w5 ⟨A105, c105, rfl, nc105, S105, hb5⟩
  have Ww5 := bnext Ww4 hb5 (Nat.le_refl _)
  replace hR1 := hR1.next hb5 Ww4.size
  replace S103 := S103.next hb5
  have zw5 := hb5.size
  replace S105 := Sl.of_own S105
  go_wp2_with fail
  refine (Calls.drewBelow (eqIntS_any A103 A105 xs1.length xs1.length c103 c105 _ _ xs1 xs1 _ (S103.reads (n := xs1.length) (size := 1) (by simp) (by omega)) (S105.reads (n := xs1.length) (size := 1) (by simp) (by omega)) rfl rfl (by omega))).mono ?_
  rintro e w6 ⟨rfl, hb6⟩
  have Ww6 := bnext Ww5 hb6 (Nat.le_refl _)
  rw [eqL_refl]
  clear S105
  go_wp2_with fail
  go_ret
  exact ⟨rfl, Ww6⟩
end Go.Proofs.YtffkoeobehocjaaDoor
