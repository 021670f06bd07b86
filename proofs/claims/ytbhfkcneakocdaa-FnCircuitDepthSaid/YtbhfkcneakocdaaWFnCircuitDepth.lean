/- Walk of the law FnCircuitDepth. -/
import Derived.Test.YtbhfkcneakocdaaDrawL
import Derived.Test.YtbhfkcneakocdaaCircP
import Derived.Test.YtbhfkcneakocdaaBackS
namespace Go.Proofs.Ytbhfkcneakocdaa
open Go.RowKit
set_option linter.unusedVariables false

set_option maxHeartbeats 4000000 in
set_option maxRecDepth 50000 in
theorem walk_FnCircuitDepth (A : Option Addr) (n c : Nat) (zs : List Int) (w : World) (h : IntsIn .u8 w A n c zs) :
    Calls Try.prog 6 #[.slice A n c] w fun e w' => e = .returned (.bool true) ∧ Below w.heap.size w w' := by
  have hn1 : n ≤ 9223372036854775807 := by have := h.1; have := h.2.1; unfold maxLen at this; omega
  by_cases hn : 1048576 < n
  · clear h
    go_enter Try.func6, Try.ntmps6
    go_wp2_with fail
    go_ret
    exact ⟨rfl, Below.refl _ _⟩
  · have HD := Lib.hid (drawCircuitDepth_any A n c zs w h)
    clear h
    go_enter Try.func6, Try.ntmps6
    go_wp2_with fail
    refine HD.out.mono ?_
    rintro e w1 ⟨⟨l, gs, A1, c1, he, l0, l1, h26, hc, ho⟩, hb⟩
    have hs1 := hb.size
    obtain ⟨m, hm⟩ : ∃ m, m = gs.length := ⟨_, rfl⟩
    have R0 := ho.reads (by rw [gcells_len, ← hm]) (show 0 < 4 by omega)
    rw [← hm] at hc h26 he
    subst he
    have HM := Lib.hid hm
    have CI := Lib.hid (fun W (hw : Below w1.heap.size w1 W) => implCircuitDepth_any l A1 m c1 w1.heap.size gs W (R0.below hw) hw.size hm.symm hc (by omega))
    have CS := Lib.hid (fun W (hw : Below w1.heap.size w1 W) => specCircuitDepth_any l A1 m c1 w1.heap.size gs W (R0.below hw) hw.size hm.symm hc (by omega))
    have CB := Lib.hid (fun W (hw : Below w1.heap.size w1 W) => implCircuitBack_any l A1 m c1 w1.heap.size gs W (R0.below hw) hw.size hm.symm hc (by omega))
    cases hv : circB l gs with
    | false =>
      have e1 := circDepth_n hv
      rw [e1] at CI CS
      clear ho R0 HD hv hm e1 CB
      go_wp2_with fail
      refine (CI.out w1 (Below.refl _ _)).mono ?_
      rintro e w2 ⟨rfl, hb2⟩
      go_wp2_with fail
      refine (CS.out w2 hb2).mono ?_
      rintro e w3 ⟨rfl, hb3⟩
      have hb13 := hb2.trans (hb3.mono hb2.size)
      go_wp2_with (go_at_call 11; refine (alive_any _).mono ?_; rintro e w' ⟨rfl, rfl⟩)
      go_ret
      exact ⟨rfl, bnext hb hb13 (Nat.le_refl _)⟩
    | true =>
      have e1 : circDepth l gs = depN gs := circDepth_y hv
      have e2 : circBack l gs = gs.reverse := by unfold circBack; rw [hv]; rfl
      have e3 : circDepth l gs.reverse = circDepth l gs := by
        rw [e1, ← depN_rev]
        exact circDepth_y (by rw [circB_rev]; exact hv)
      have hq0 := depN_pos gs
      have hq1 := depN_len gs
      have hq2 := depN_lines hv
      have hlb := inB_t (circB_t hv).2.1
      rw [← e1] at hq0 hq1 hq2
      obtain ⟨q, hq⟩ : ∃ q, q = circDepth l gs := ⟨_, rfl⟩
      rw [← hq] at CI CS e3 hq0 hq1 hq2
      rw [← hm] at hq1 hq2
      rw [e2] at CB
      have hl2 : gs.reverse.length = m := by rw [List.length_reverse]; exact hm.symm
      have C2 := Lib.hid (fun W (A2 : Option Addr) c2 (hc2 : m ≤ c2) (hR : Reads W W.heap.size 4 A2 m (gcells gs.reverse)) => implCircuitDepth_any l A2 m c2 W.heap.size gs.reverse W hR (Nat.le_refl _) hl2 hc2 (by omega))
      rw [e3] at C2
      have HL2 := Lib.hid hl2
      obtain ⟨X, hX⟩ : ∃ X, X = q * l := ⟨_, rfl⟩
      have hX0 : 0 ≤ X ∧ X ≤ 1000 := by
        rw [hX]
        constructor
        · exact Int.mul_nonneg hq0 (by omega)
        · have h1 : q * l ≤ 26 * l := Int.mul_le_mul_of_nonneg_right (by omega) (by omega)
          omega
      rw [← hX] at hq2
      have hw : wrap64 (q * l) = X := by rw [← hX]; exact IntWalk.wrap64_in _ ⟨by omega, by omega⟩
      have HX := Lib.hid hw
      clear ho R0 HD hv hm e1 e2 e3 hq hl2 hw
      go_wp2_with fail
      refine (CI.out w1 (Below.refl _ _)).mono ?_
      rintro e w2 ⟨rfl, hb2⟩
      go_wp2_with fail
      refine (CS.out w2 hb2).mono ?_
      rintro e w3 ⟨rfl, hb3⟩
      have hb13 := hb2.trans (hb3.mono hb2.size)
      go_wp2_with fail
      refine (CB.out w3 hb13).mono ?_
      rintro e w4 ⟨A2, c2, rfl, hc2, ho2, hb4⟩
      have R2 := ho2.reads (n := m) (size := 4) (by rw [gcells_len, HL2.out]) (by omega)
      rw [HL2.out] at hc2 ⊢
      have hb14 := hb13.trans (hb4.mono hb13.size)
      have C3 := Lib.hid (C2.out w4 A2 c2 hc2 R2)
      have hXl : (m : Int) ≤ X := hq2
      clear R2 ho2 C2 CB hX
      go_wp2_with fail
      refine C3.out.mono ?_
      rintro e w5 ⟨rfl, hb5⟩
      have hw := HX.out
      go_wp2_with fail
      go_ret
      exact ⟨rfl, bnext (bnext hb hb14 (Nat.le_refl _)) hb5 (Nat.le_refl _)⟩
end Go.Proofs.Ytbhfkcneakocdaa
