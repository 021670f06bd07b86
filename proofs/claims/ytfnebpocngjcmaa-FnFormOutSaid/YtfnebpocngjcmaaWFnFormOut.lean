/- Walk of the law FnFormOut. -/
import Derived.Test.YtfnebpocngjcmaaDraws3b
import Derived.Test.YtfnebpocngjcmaaFormP
import Derived.Deep.RegionHeld3
namespace Go.Proofs.Ytfnebpocngjcmaa
open Go.RowKit
set_option linter.unusedVariables false
set_option linter.unusedSimpArgs false

theorem more_pack {w3 wA wB : World} {T : TypeId} {o1 o2 : Obj} {AA : Option Addr} {cA m : Nat} {vB : Value} {xs ys : List Value}
    (grA : (w3.alloc o1).grownBy wA (some w3.heap.size)) (grB : (wA.alloc o2).grownBy wB (Value.slice AA m cA).ownBlock)
    (ownA : wA.ownsRow w3.heap.size T 3 (.slice AA m cA) m xs) (ownB : wB.ownsRow w3.heap.size T 3 vB (m + 1) ys) (hl : ys.length = (m + 1) * 3) :
    ∃ gB cB, vB = .slice (some ⟨gB, 0, none⟩) (m + 1) cB ∧ m + 1 ≤ cB ∧ Below w3.heap.size w3 wB ∧ Reads wB wB.heap.size 3 (some ⟨gB, 0, none⟩) (m + 1) ys := by
  obtain ⟨gB, cB, rfl, h1, h2, h3, h4⟩ := own_pos ownB (by omega)
  have hA := grA.size
  simp only [World.size_alloc] at hA
  refine ⟨gB, cB, rfl, h3, ?_, (own_owns ownB).1.reads hl (by omega)⟩
  exact ((((Below.refl w3.heap.size w3).alloc (Nat.le_refl _) o1).grown grA (by simp) (fun q e => by have := Option.some.inj e; omega)).alloc (by omega) o2).grown grB (by simp; omega) (fun q e => (ownA.lt q e).1)
theorem formOut_no {i w : Int} {gs : List St} (h : (formB i gs && wordB i w) = false) : formOut i gs w = -1 := by
  unfold formOut
  rw [formBits_n (by
    cases h' : formB i gs
    · exact .inl rfl
    · rw [h'] at h; exact .inr (by simpa using h))]
  rfl

set_option maxHeartbeats 2000000 in
set_option maxRecDepth 50000 in
theorem walk_FnFormOut (A : Option Addr) (n c : Nat) (zs : List Int) (w : World) (h : IntsIn .u8 w A n c zs) :
    Calls Try.prog 10 #[.slice A n c] w fun e w' => e = .returned (.bool true) ∧ Below w.heap.size w w' := by
  have hn1 : n ≤ 9223372036854775807 := by have := h.1; have := h.2.1; unfold maxLen at this; omega
  by_cases hn : 1048576 < n
  · clear h
    go_enter Try.func10, Try.ntmps10
    go_wp2_with fail
    go_ret
    exact ⟨rfl, Below.refl _ _⟩
  · have HD := Lib.hid (drawFormOut_any A n c zs w h)
    clear h
    go_enter Try.func10, Try.ntmps10
    go_wp2_with fail
    refine HD.out.mono ?_
    rintro e w1 ⟨⟨i, gs, A1, c1, v, he, hi0, hi4, h3, hc, hv0, hv1, ho⟩, hb⟩
    have hs1 := hb.size
    obtain ⟨m, hm⟩ : ∃ m, m = gs.length := ⟨_, rfl⟩
    have R0 := ho.reads (by rw [scells_len, ← hm]) (show 0 < 3 by omega)
    rw [← hm] at hc h3 he
    subst he
    have CI := Lib.hid (fun W (hw : Below w1.heap.size w1 W) => implFormOut_any i A1 m c1 w1.heap.size gs v W (R0.below hw) hw.size hm.symm hc (by omega))
    have CS := Lib.hid (fun W (hw : Below w1.heap.size w1 W) => specFormOut_any i A1 m c1 w1.heap.size gs v W (R0.below hw) hw.size hm.symm hc (by omega))
    have CB := Lib.hid (fun W (hw : Below w1.heap.size w1 W) => implFormBits_any i A1 m c1 w1.heap.size gs v W (R0.below hw) hw.size hm.symm hc (by omega))
    have HM := Lib.hid hm
    cases hv : (formB i gs && wordB i v) with
    | false =>
      have e1 := formOut_no hv
      rw [e1] at CI CS
      clear ho R0 HD hv hm e1 CB
      go_wp2_with fail
      refine (CI.out w1 (Below.refl _ _)).mono ?_
      rintro e w2 ⟨rfl, hb2⟩
      go_wp2_with fail
      refine (CS.out w2 hb2).mono ?_
      rintro e w3 ⟨rfl, hb3⟩
      have hb13 := hb2.trans (hb3.mono hb2.size)
      go_wp2_with (go_at_call 22; refine (alive_any _).mono ?_; rintro e w' ⟨rfl, rfl⟩)
      go_ret
      exact ⟨rfl, bnext hb hb13 (Nat.le_refl _)⟩
    | true =>
      rw [Bool.and_eq_true] at hv
      have hf := formB_t hv.1
      have hlb := formBits_len hv.1 hv.2
      obtain ⟨ii, gi, gz0, gz1, gz2⟩ := info_parts infoStep
      obtain ⟨q, hq⟩ : ∃ q, q = formOut i gs v := ⟨_, rfl⟩
      obtain ⟨ys, hys⟩ : ∃ ys, ys = formBits i gs v := ⟨_, rfl⟩
      have hyl : ys.length = m := by rw [hys, hlb, hm]
      have hyq : ys.getD (m - 1) 0 = q := by
        rw [hq, hys]
        unfold formOut
        rw [if_neg (by omega), hlb, hm]
      have hqb : isBit q := by
        rw [← hyq, hys]
        exact getD_bit (formBits_bit i v gs) _
      obtain ⟨g2, hg2⟩ : ∃ g2 : List St, g2 = gs ++ [⟨3, i + (m : Int) - 1, 0⟩] := ⟨_, rfl⟩
      have hl2 : g2.length = m + 1 := by rw [hg2, List.length_append, ← hm]; rfl
      have H2 : Hid (formB i g2 = true → formOut i g2 v = 1 - q) := Lib.hid (fun h => by
        rw [hg2, hm] at h ⊢
        rw [hq]
        exact formOut_not hv.1 hv.2 h)
      have hc2 : scells g2 = scells gs ++ [.int .i64 3, .int .i64 (i + (m : Int) - 1), .int .i64 0] := by rw [hg2, scells_app]; rfl
      have HC2 := Lib.hid hc2
      have HL2 := Lib.hid hl2
      rw [← hq] at CI CS
      rw [← hys] at CB
      have HYL := Lib.hid hyl
      have HYQ := Lib.hid hyq
      have hm3 : m ≤ 3 := h3
      have hm1 : 1 ≤ m := by omega
      have hq0 : 0 ≤ q ∧ q ≤ 1 := by unfold isBit at hqb; omega
      have own0 := fun (W : World) (h : w1.heap.size ≤ W.heap.size) => World.ownsRow_made (base := W.heap.size) (e := 46) (size := 3) W #[] 0 (Nat.le_refl _) (by simp [maxLen]) rfl
      have OWN0 := Lib.hid own0
      have one3 := scells_ok gs
      have hiB : i ≤ 3 := hf.2.1
      clear ho HD hv hq hg2 hl2 hc2 own0 hm hys hyl hyq hqb hlb hf
      go_wp2_with fail
      refine (CI.out w1 (Below.refl _ _)).mono ?_
      rintro e w2 ⟨rfl, hb2⟩
      go_wp2_with fail
      refine (CS.out w2 hb2).mono ?_
      rintro e w2' ⟨rfl, hb2'⟩
      have hb12' := hb2.trans (hb2'.mono hb2.size)
      go_wp2_with fail
      refine (CB.out w2' hb12').mono ?_
      rintro e w3 ⟨A2, c2, rfl, hc2, O2, hb3⟩
      have hb13 := hb12'.trans (hb3.mono hb12'.size)
      rw [HYL.out] at hc2 ⊢
      obtain ⟨gy, oy, rfl, hgy1, hgy2, hyc⟩ := O2 (by rw [List.length_map, HYL.out]; omega)
      have hcy : w3.cell? ⟨gy, oy + (m - 1), none⟩ = some (.int .i64 q) := by
        have hlt : m - 1 < ys.length := by have := HYL.out; omega
        have e1 : ys[m - 1] = q := by
          have := HYQ.out
          rwa [List.getD_eq_getElem?_getD, List.getElem?_eq_getElem hlt] at this
        exact (hyc (m - 1) _ (by rw [List.getElem?_map, List.getElem?_eq_getElem hlt, e1]; rfl)).1
      have HCY := Lib.hid hcy
      have R3 := R0.below hb13
      have own3 := OWN0.out w3 hb13.size
      have rd3 := R3.next ((Below.refl w3.heap.size w3).alloc (Nat.le_refl _) (Obj.cells #[] 46)) hb13.size
      have hs13 := hb13.size
      have hsA : ∀ wA : World, (w3.alloc (Obj.cells #[] 46)).grownBy wA (some w3.heap.size) → w3.heap.size ≤ wA.heap.size := fun wA h => by have := h.size; simp at this; omega
      have HSA := Lib.hid hsA
      have hV : ∀ (wB : World) (gB cB : Nat), m + 1 ≤ cB → Reads wB wB.heap.size 3 (some ⟨gB, 0, none⟩) (m + 1) (scells g2) → Hid (∀ W, Below wB.heap.size wB W → Calls Try.prog 17 #[.int .i64 i, .slice (some ⟨gB, 0, none⟩) (m + 1) cB] W fun e w' => e = .returned (.bool (formB i g2)) ∧ Below W.heap.size W w') := fun wB gB cB hc RB => Lib.hid (fun W hw => implFormValid_any i (some ⟨gB, 0, none⟩) (m + 1) cB wB.heap.size g2 W (RB.below hw) hw.size HL2.out hc (by omega))
      have hO : ∀ (wB : World) (gB cB : Nat), m + 1 ≤ cB → Reads wB wB.heap.size 3 (some ⟨gB, 0, none⟩) (m + 1) (scells g2) → Hid (∀ W, Below wB.heap.size wB W → Calls Try.prog 24 #[.int .i64 i, .slice (some ⟨gB, 0, none⟩) (m + 1) cB, .int .i64 v] W fun e w' => e = .returned (.int .i64 (formOut i g2 v)) ∧ Below W.heap.size W w') := fun wB gB cB hc RB => Lib.hid (fun W hw => implFormOut_any i (some ⟨gB, 0, none⟩) (m + 1) cB wB.heap.size g2 v W (RB.below hw) hw.size HL2.out hc (by omega))
      have HV := Lib.hid hV
      have HO := Lib.hid hO
      clear hV hO
      have hgy2' := hgy2
      have hm2 : (m : Int) - 1 < (m : Int) := by omega
      have hm4 : (0 : Int) ≤ (m : Int) - 1 := by omega
      cases hv2 : formB i g2 with
      | false =>
        rw [hv2] at HV
        clear hv2
        go_wp2_with (first
          | (at_builtin; (refine wpList_append_any _ rfl (.tmp 39) (.tmp 40) _ rfl w3.heap.size 46 ii (.agg #[.int .i64 0, .int .i64 0, .int .i64 0]) 3 24 Try.underlying25 gi gz0 gz1 gz2 rfl (by decide) (.slice (some ⟨w3.heap.size, 0, none⟩) 0 0) 0 [] rfl own3 w1.heap.size A1 m c1 (scells gs) rfl rd3 one3 (by unfold maxLen; omega) (by omega) (by simp) ?_; intro vA wA ownA grA atA; simp only [Nat.zero_add, List.nil_append] at ownA; obtain ⟨AA, cA, eA, hcA⟩ := own_shape ownA; subst eA; have hlwA := ownA.lt; have hsA := HSA.out wA grA))
          | (at_builtin; (refine wpList_append_own _ rfl (.tmp 41) (.tmp 48) 25 rfl w3.heap.size 46 ii (.agg #[.int .i64 0, .int .i64 0, .int .i64 0]) 3 24 Try.underlying25 gi gz0 gz1 gz2 rfl (by decide) _ _ _ rfl (ownA.alloc _) ⟨wA.heap.size, 0, none⟩ 1 1 [.int .i64 3, .int .i64 (i + (m : Int) - 1), .int .i64 0] rfl rfl (cells_newS _ _ _ (by first | rfl | simp | simp [World.setCell])) (by simp [Value.oneCell']) (by unfold maxLen; omega) (by omega) (by simp; omega) ?_; intro vB wB ownB grB _; rw [← HC2.out] at ownB; obtain ⟨gB, cB, eB, hcB, hb3B, RB⟩ := more_pack grA grB ownA ownB (by rw [scells_len, HL2.out]); subst eB; clear grA grB ownA ownB hlwA; have hcyB := (hb3B.cell (p := ⟨gy, oy + (m - 1), none⟩) hgy2).trans HCY.out; have CV := HV.out _ _ _ hcB RB; have CO := HO.out _ _ _ hcB RB))
          | (go_at_call 17; (with_reducible refine (CV.out _ (Below.refl _ _)).mono ?_); rintro e w4 ⟨rfl, hb4⟩))
        go_ret
        exact ⟨rfl, bnext (bnext hb (bnext hb13 hb3B (Nat.le_refl _)) (Nat.le_refl _)) hb4 (by have := hb.size; omega)⟩
      | true =>
        rw [H2.out hv2] at HO
        rw [hv2] at HV
        clear hv2
        go_wp2_with (first
          | (at_builtin; (refine wpList_append_any _ rfl (.tmp 39) (.tmp 40) _ rfl w3.heap.size 46 ii (.agg #[.int .i64 0, .int .i64 0, .int .i64 0]) 3 24 Try.underlying25 gi gz0 gz1 gz2 rfl (by decide) (.slice (some ⟨w3.heap.size, 0, none⟩) 0 0) 0 [] rfl own3 w1.heap.size A1 m c1 (scells gs) rfl rd3 one3 (by unfold maxLen; omega) (by omega) (by simp) ?_; intro vA wA ownA grA atA; simp only [Nat.zero_add, List.nil_append] at ownA; obtain ⟨AA, cA, eA, hcA⟩ := own_shape ownA; subst eA; have hlwA := ownA.lt; have hsA := HSA.out wA grA))
          | (at_builtin; (refine wpList_append_own _ rfl (.tmp 41) (.tmp 48) 25 rfl w3.heap.size 46 ii (.agg #[.int .i64 0, .int .i64 0, .int .i64 0]) 3 24 Try.underlying25 gi gz0 gz1 gz2 rfl (by decide) _ _ _ rfl (ownA.alloc _) ⟨wA.heap.size, 0, none⟩ 1 1 [.int .i64 3, .int .i64 (i + (m : Int) - 1), .int .i64 0] rfl rfl (cells_newS _ _ _ (by first | rfl | simp | simp [World.setCell])) (by simp [Value.oneCell']) (by unfold maxLen; omega) (by omega) (by simp; omega) ?_; intro vB wB ownB grB _; rw [← HC2.out] at ownB; obtain ⟨gB, cB, eB, hcB, hb3B, RB⟩ := more_pack grA grB ownA ownB (by rw [scells_len, HL2.out]); subst eB; clear grA grB ownA ownB hlwA; have hcyB := (hb3B.cell (p := ⟨gy, oy + (m - 1), none⟩) hgy2).trans HCY.out; have CV := HV.out _ _ _ hcB RB; have CO := HO.out _ _ _ hcB RB))
          | (go_at_call 17; (with_reducible refine (CV.out _ (Below.refl _ _)).mono ?_); rintro e w4 ⟨rfl, hb4⟩)
          | (go_at_call 24; (with_reducible refine (CO.out _ hb4).mono ?_); rintro e w5 ⟨rfl, hb5⟩))
        go_ret
        exact ⟨rfl, bnext (bnext (bnext hb (bnext hb13 hb3B (Nat.le_refl _)) (Nat.le_refl _)) hb4 (by have := hb.size; omega)) hb5 (by have := hb.size; omega)⟩
end Go.Proofs.Ytfnebpocngjcmaa
