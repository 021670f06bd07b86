/- Walk of the law FnExactReadTable: it returns true and writes nothing that was there, where strconv's table and its two error variables are laid. -/
import Derived.Test.YtffkoeobehocjaaDoorTdI
import Derived.Test.YtffkoeobehocjaaDoorIntsB
import Derived.Test.YtffkoeobehocjaaDoorShp
namespace Go.Proofs.YtffkoeobehocjaaDoor
open Go.RowKit
set_option linter.unusedVariables false
set_option linter.unusedSimpArgs false

set_option maxHeartbeats 4000000 in
set_option maxRecDepth 50000 in
theorem walk_FnExactReadTable (s : ByteArray) (w : World) (hT : Tab10 w) (hE : ErrVars w) :
    Calls Tryd.prog 3 #[.string s] w fun e w' => e = .returned (.bool true) ∧ Below w.heap.size w w' := by
  obtain ⟨l, es⟩ : ∃ l : List UInt8, s = ⟨l.toArray⟩ := ⟨s.data.toList, by cases s; simp⟩
  have hsz : s.size = l.length := by rw [es]; simp [ByteArray.size]
  have ES := Lib.hid es
  clear es
  by_cases hlen : l.length ≤ 1048576
  · have hlen' : ¬ 1048576 < (l.length : Int) := by omega
    have H1 := Lib.hid (fun W => specReadTable_any l (by omega) W)
    have H2 := Lib.hid (fun W hE hT => implReadTable_any l (by omega) W hE hT)
    rw [← ES.out] at H1 H2
    unfold RetT at H1 H2
    have rl := rtL_len l
    obtain ⟨R, eR⟩ : ∃ R, R = rtL l := ⟨_, rfl⟩
    obtain ⟨N, eN⟩ : ∃ N, N = rtN l := ⟨_, rfl⟩
    obtain ⟨b, eb⟩ : ∃ b, b = tdOk l := ⟨_, rfl⟩
    rw [← eR] at H1 H2 rl
    rw [← eN, ← eb] at H1 H2
    have HT := Lib.hid hT
    have HE := Lib.hid hE
    have hbb : (b != b) = false := by simp
    clear eR eN eb hT hE
    go_enter Tryd.func3, Tryd.ntmps3
    go_wp2_with fail
    refine (H1.out _).mono ?_
    rintro e w1 ⟨A1, c1, rfl, nc1, S1, hb1⟩
    have W1 := hb1
    replace S1 := Sl.of_own S1
    have zw1 := hb1.size
    go_wp2_with fail
    refine (H2.out _ (HE.out.below W1) (HT.out.on W1)).mono ?_
    rintro e w2 ⟨A2, c2, rfl, nc2, S2, hb2⟩
    have W2 := bnext W1 hb2 (Nat.le_refl _)
    replace S1 := S1.next hb2
    replace S2 := Sl.of_own S2
    have zw2 := hb2.size
    go_wp2_with fail
    refine (Calls.drewBelow (eqIntS_any A2 A1 R.length R.length c2 c1 _ _ R R _ (S2.reads (n := R.length) (size := 1) (by simp) (by omega)) (S1.reads (n := R.length) (size := 1) (by simp) (by omega)) rfl rfl (by omega))).mono ?_
    rintro e w3 ⟨rfl, hb3⟩
    have W3 := bnext W2 hb3 (Nat.le_refl _)
    replace S1 := S1.next hb3
    replace S2 := S2.next hb3
    have zw3 := hb3.size
    rw [eqL_refl]
    go_wp2_with fail
    refine (markIntS_sl A2 c2 _ _ R (1) _ S2 (by omega) (by omega) (by omega)).mono ?_
    rintro e w4 ⟨rfl, S2m, hb4⟩
    have hB4 := hb4.below (B := w.heap.size) (by omega) (by omega)
    have W4 := W3.trans hB4
    replace S1 := S1.chg hb4 (by omega)
    have zw4 := hb4.size
    replace S2 := S2m
    go_wp2_with fail
    refine (Calls.toBelow (heldIntS_any A2 R.length c2 _ (1) _ (S2.reads (n := R.length) (size := 1) (by simp [marks_len]) (by omega)) (by omega) (by omega) (by omega))).mono ?_
    rintro e w5 ⟨rfl, hb5⟩
    have W5 := bnext W4 hb5 (Nat.le_refl _)
    replace S1 := S1.next hb5
    replace S2 := S2.next hb5
    have zw5 := hb5.size
    go_wp2_with fail
    refine (H2.out _ (HE.out.below W5) (HT.out.on W5)).mono ?_
    rintro e w6 ⟨A6, c6, rfl, nc6, S6, hb6⟩
    have W6 := bnext W5 hb6 (Nat.le_refl _)
    replace S1 := S1.next hb6
    replace S2 := S2.next hb6
    replace S6 := Sl.of_own S6
    have zw6 := hb6.size
    go_wp2_with fail
    refine (Calls.drewBelow (eqIntS_any A6 A1 R.length R.length c6 c1 _ _ R R _ (S6.reads (n := R.length) (size := 1) (by simp) (by omega)) (S1.reads (n := R.length) (size := 1) (by simp) (by omega)) rfl rfl (by omega))).mono ?_
    rintro e w7 ⟨rfl, hb7⟩
    have W7 := bnext W6 hb7 (Nat.le_refl _)
    replace S2 := S2.next hb7
    have zw7 := hb7.size
    rw [eqL_refl]
    clear S1 S6
    go_wp2_with fail
    refine (Calls.toBelow (heldIntS_any A2 R.length c2 _ (1) _ (S2.reads (n := R.length) (size := 1) (by simp [marks_len]) (by omega)) (by omega) (by omega) (by omega))).mono ?_
    rintro e w8 ⟨rfl, hb8⟩
    have W8 := bnext W7 hb8 (Nat.le_refl _)
    go_wp2_with fail
    go_ret
    exact ⟨rfl, W8⟩
  · have hlen' : 1048576 < (l.length : Int) := by omega
    clear hT hE
    go_enter Tryd.func3, Tryd.ntmps3
    go_wp2_with fail
    go_ret
    exact ⟨rfl, Below.refl _ _⟩
end Go.Proofs.YtffkoeobehocjaaDoor
