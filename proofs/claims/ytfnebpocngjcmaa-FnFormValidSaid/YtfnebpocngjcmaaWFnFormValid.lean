/- Walk of the law FnFormValid. -/
import Derived.Test.YtfnebpocngjcmaaDraws3
namespace Go.Proofs.Ytfnebpocngjcmaa
open Go.RowKit
set_option linter.unusedVariables false

set_option maxHeartbeats 2000000 in
set_option maxRecDepth 50000 in
theorem walk_FnFormValid (A : Option Addr) (n c : Nat) (zs : List Int) (w : World) (h : IntsIn .u8 w A n c zs) :
    Calls Try.prog 5 #[.slice A n c] w fun e w' => e = .returned (.bool true) ∧ Below w.heap.size w w' := by
  have hn1 : n ≤ 9223372036854775807 := by have := h.1; have := h.2.1; unfold maxLen at this; omega
  by_cases hn : 1048576 < n
  · clear h
    go_enter Try.func5, Try.ntmps5
    go_wp2_with fail
    go_ret
    exact ⟨rfl, Below.refl _ _⟩
  · have HD := Lib.hid (drawFormValid_any A n c zs w h)
    clear h
    go_enter Try.func5, Try.ntmps5
    go_wp2_with fail
    refine HD.out.mono ?_
    rintro e w1 ⟨⟨i, gs, A1, c1, he, hi0, hi4, h3, hc, ho⟩, hb⟩
    have hs1 := hb.size
    obtain ⟨m, hm⟩ : ∃ m, m = gs.length := ⟨_, rfl⟩
    have R0 := ho.reads (by rw [scells_len, ← hm]) (show 0 < 3 by omega)
    rw [← hm] at hc h3 he
    subst he
    have CI := Lib.hid (fun W (hw : Below w1.heap.size w1 W) => implFormValid_any i A1 m c1 w1.heap.size gs W (R0.below hw) hw.size hm.symm hc (by omega))
    have CS := Lib.hid (fun W (hw : Below w1.heap.size w1 W) => specFormValid_any i A1 m c1 w1.heap.size gs W (R0.below hw) hw.size hm.symm hc (by omega))
    have CN := Lib.hid (fun W => implFormValid_any i none 0 0 0 [] W Reads.none_ (Nat.zero_le _) rfl (Nat.le_refl _) (by omega))
    rw [formB_nil] at CN
    have HM := Lib.hid hm
    cases hv : formB i gs with
    | false =>
      rw [hv] at CI CS
      clear ho R0 HD hv hm
      go_wp2_with fail
      refine (CI.out w1 (Below.refl _ _)).mono ?_
      rintro e w2 ⟨rfl, hb2⟩
      go_wp2_with fail
      refine (CS.out w2 hb2).mono ?_
      rintro e w3 ⟨rfl, hb3⟩
      have hb13 := hb2.trans (hb3.mono hb2.size)
      go_wp2_with fail
      refine (CN.out w3).mono ?_
      rintro e w4 ⟨rfl, hb4⟩
      have hb14 := hb13.trans (hb4.mono hb13.size)
      go_wp2_with (go_at_call 22; refine (alive_any _).mono ?_; rintro e w' ⟨rfl, rfl⟩)
      go_ret
      exact ⟨rfl, bnext hb hb14 (Nat.le_refl _)⟩
    | true =>
      by_cases h2 : m < 2
      · have h2' : (m : Int) < 2 := by omega
        rw [hv] at CI CS
        clear ho R0 HD hv hm
        go_wp2_with fail
        refine (CI.out w1 (Below.refl _ _)).mono ?_
        rintro e w2 ⟨rfl, hb2⟩
        go_wp2_with fail
        refine (CS.out w2 hb2).mono ?_
        rintro e w3 ⟨rfl, hb3⟩
        have hb13 := hb2.trans (hb3.mono hb2.size)
        go_wp2_with fail
        refine (CN.out w3).mono ?_
        rintro e w4 ⟨rfl, hb4⟩
        have hb14 := hb13.trans (hb4.mono hb13.size)
        go_wp2_with (go_at_call 22; refine (alive_any _).mono ?_; rintro e w' ⟨rfl, rfl⟩)
        go_ret
        exact ⟨rfl, bnext hb hb14 (Nat.le_refl _)⟩
      · have h2' : ¬ (m : Int) < 2 := by omega
        have hlt : (gs.take (m - 1)).length = m - 1 := by rw [List.length_take]; omega
        have RT : Reads w1 w1.heap.size 3 A1 (m - 1) (scells (gs.take (m - 1))) := by
          refine ⟨by rw [scells_len, hlt], fun _ => ?_⟩
          obtain ⟨ad, e, hsp, hbk, hcl⟩ := R0.2 (by omega)
          refine ⟨ad, e, hsp, hbk, fun j u hu => hcl j u ?_⟩
          rw [scells_take, List.getElem?_take] at hu
          split at hu
          · exact hu
          · cases hu
        have CT := Lib.hid (fun W (hw : Below w1.heap.size w1 W) => implFormValid_any i A1 (m - 1) c1 w1.heap.size (gs.take (m - 1)) W (RT.below hw) hw.size hlt (by omega) (by omega))
        rw [formB_take hv (by omega) (by omega)] at CT
        rw [hv] at CI CS
        clear ho R0 RT HD hv hlt hm
        go_wp2_with fail
        refine (CI.out w1 (Below.refl _ _)).mono ?_
        rintro e w2 ⟨rfl, hb2⟩
        go_wp2_with fail
        refine (CS.out w2 hb2).mono ?_
        rintro e w3 ⟨rfl, hb3⟩
        have hb13 := hb2.trans (hb3.mono hb2.size)
        go_wp2_with fail
        refine (CT.out w3 hb13).mono ?_
        rintro e w3' ⟨rfl, hb3'⟩
        have hb13' := hb13.trans (hb3'.mono hb13.size)
        go_wp2_with fail
        refine (CN.out w3').mono ?_
        rintro e w4 ⟨rfl, hb4⟩
        have hb14 := hb13'.trans (hb4.mono hb13'.size)
        go_wp2_with (go_at_call 22; refine (alive_any _).mono ?_; rintro e w' ⟨rfl, rfl⟩)
        go_ret
        exact ⟨rfl, bnext hb hb14 (Nat.le_refl _)⟩
end Go.Proofs.Ytfnebpocngjcmaa
