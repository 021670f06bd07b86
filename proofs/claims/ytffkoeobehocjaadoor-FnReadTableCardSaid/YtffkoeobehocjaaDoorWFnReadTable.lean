/- Walk of the law FnReadTable: it returns true and writes nothing that was there, where strconv's table and its two error variables are laid. -/
import Derived.Test.YtffkoeobehocjaaDoorDrawZ
import Derived.Test.YtffkoeobehocjaaDoorTdI
import Derived.Test.YtffkoeobehocjaaDoorSame
namespace Go.Proofs.YtffkoeobehocjaaDoor
open Go.RowKit
set_option linter.unusedVariables false
set_option linter.unusedSimpArgs false

set_option maxHeartbeats 4000000 in
set_option maxRecDepth 50000 in
theorem walk_FnReadTable (A : Option Addr) (n c : Nat) (zs : List Int) (w : World) (h : IntsIn .u8 w A n c zs) (hT : Tab10 w) (hE : ErrVars w) :
    Calls Tryd.prog 5 #[.slice A n c] w fun e w' => e = .returned (.bool true) ∧ Below w.heap.size w w' := by
  have hn1 : n ≤ 9223372036854775807 := by have := h.1; have := h.2.1; unfold maxLen at this; omega
  by_cases hn : 1048576 < n
  · clear h hT hE
    go_enter Tryd.func5, Tryd.ntmps5
    go_wp2_with fail
    go_ret
    exact ⟨rfl, Below.refl _ _⟩
  · have HD := Lib.hid (drawReadTable_any A n c zs w h)
    have HT := Lib.hid hT
    have HE := Lib.hid hE
    clear h hT hE
    go_enter Tryd.func5, Tryd.ntmps5
    go_wp2_with fail
    refine HD.out.mono ?_
    rintro e w1 ⟨⟨l, rfl, hl⟩, hb⟩
    have H1 := Lib.hid (fun W => specReadTable_any l (by omega) W)
    have H2 := Lib.hid (fun W hE hT => implReadTable_any l (by omega) W hE hT)
    have H3 := Lib.hid (fun W hE hT => implReadTable_any (l ++ [32]) (by simp; omega) W hE hT)
    unfold RetT at H1 H2 H3
    rw [show rtN (l ++ [32]) = 0 by unfold rtN; rw [if_neg (by rw [td_blank]; simp)], show rtL (l ++ [32]) = [] by unfold rtL; rw [if_neg (by rw [td_blank]; simp)], td_blank] at H3
    have rl := rtL_len l
    have HY : Hid (tdOk l = true → tabTx (rtN l) (rtL l) = l) := Lib.hid fun h => by
      unfold rtN rtL
      rw [if_pos h, if_pos h]
      exact (tdOk_t h).1
    have HF : Hid (tdOk l = false → rtN l = 0 ∧ rtL l = []) := Lib.hid fun h => by
      unfold rtN rtL
      rw [if_neg (by rw [h]; simp), if_neg (by rw [h]; simp)]
      exact ⟨rfl, rfl⟩
    have HA := Lib.hid (fun W => add_tx l [32] (by omega) (by simp) W)
    obtain ⟨R, eR⟩ : ∃ R, R = rtL l := ⟨_, rfl⟩
    obtain ⟨N, eN⟩ : ∃ N, N = rtN l := ⟨_, rfl⟩
    obtain ⟨b, eb⟩ : ∃ b, b = tdOk l := ⟨_, rfl⟩
    obtain ⟨lb, elb⟩ : ∃ lb, lb = l ++ [32] := ⟨_, rfl⟩
    rw [← eR] at H1 H2 rl HY HF
    rw [← eN, ← eb] at H1 H2 HY HF
    rw [← elb] at H3 HA
    have hbb : (b != b) = false := by simp
    clear eR eN eb elb HD
    have hs1 := hb.size
    go_wp2_with fail
    refine (H2.out w1 (HE.out.below hb) (HT.out.on hb)).mono ?_
    rintro e w2 ⟨A2, c2, rfl, nc2, o2, hb2⟩
    have hb02 := bnext hb hb2 (Nat.le_refl _)
    have S2 := Sl.of_own o2
    clear o2 hb2 hb
    go_wp2_with fail
    refine (H1.out w2).mono ?_
    rintro e w3 ⟨A3, c3, rfl, nc3, o3, hb3⟩
    have hb03 := bnext hb02 hb3 (Nat.le_refl _)
    have S3 := Sl.of_own o3
    replace S2 := S2.next hb3
    clear o3 hb3 hb02
    have CX := Lib.hid (sameInts_bel A2 A3 R.length R.length c2 c3 _ _ R R w3 (S2.reads (n := R.length) (size := 1) (by simp) (by omega)) (S3.reads (n := R.length) (size := 1) (by simp) (by omega)) rfl rfl (by omega))
    rw [eqL_refl] at CX
    go_wp2_with fail
    refine CX.out.mono ?_
    rintro e w4 ⟨rfl, hb4⟩
    have hb04 := bnext hb03 hb4 (Nat.le_refl _)
    replace S2 := S2.next hb4
    have HS2 := Lib.hid S2
    clear S2 S3 hb4 hb03 CX
    cases b with
    | false =>
      obtain ⟨rfl, rfl⟩ := HF.out rfl
      go_wp2_with (go_at_call 20; refine (alive_any _).mono ?_; rintro e w' ⟨rfl, rfl⟩)
      go_ret
      exact ⟨rfl, hb04⟩
    | true =>
      have hY := Lib.hid (HY.out rfl)
      have A1 := HA.out
      have C3 := Lib.hid (H3.out w4 (HE.out.below hb04) (HT.out.on hb04))
      go_wp2_with fail
      refine C3.out.mono ?_
      rintro e w5 ⟨A5, c5, rfl, nc5, o5, hb5⟩
      have hb05 := bnext hb04 hb5 (Nat.le_refl _)
      have S2 := HS2.out.next hb5
      have CT := Lib.hid (implTableText_any N A2 R.length c2 _ R w5 (S2.reads (n := R.length) (size := 1) (by simp) (by omega)) S2.1 rfl nc2 (by omega) (HT.out.on hb05))
      rw [hY.out] at CT
      have hll : (l == l) = true := by simp
      clear S2 o5 hb5
      go_wp2_with fail
      refine CT.out.mono ?_
      rintro e w6 ⟨rfl, hb6⟩
      go_wp2_with fail
      go_ret
      exact ⟨rfl, bnext hb05 hb6 (Nat.le_refl _)⟩
end Go.Proofs.YtffkoeobehocjaaDoor
