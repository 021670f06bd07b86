/- Walk of the law FnFormBits. -/
import Derived.Test.YtfnebpocngjcmaaDraws3b
import Derived.Test.YtfnebpocngjcmaaFormP
import Derived.Test.YtfnebpocngjcmaaSame
namespace Go.Proofs.Ytfnebpocngjcmaa
open Go.RowKit
set_option linter.unusedVariables false

theorem allBits_ins (w : Int) (i : Nat) (gs : List St) (k : Nat) : insB w i ++ (allBits w i gs k).drop i = allBits w i gs k := by
  have h : (allBits w i gs k).take i = insB w i := by
    induction k with
    | zero =>
      show (insB w i).take i = insB w i
      rw [List.take_of_length_le (by rw [insB_len]; omega)]
    | succ k ih =>
      have hl := allBits_len w i gs k
      simp only [allBits]
      rw [List.take_append_of_le_length (by omega), ih]
  rw [← h, List.take_append_drop]
theorem allBits_pre (w : Int) (i : Nat) (gs : List St) {k m j : Nat} (hk : k ≤ m) (hj : j < i + k) : (allBits w i gs m).getD j 0 = (allBits w i gs k).getD j 0 := by
  induction m with
  | zero =>
    obtain rfl : k = 0 := by omega
    rfl
  | succ m ih =>
    by_cases h : k = m + 1
    · rw [h]
    · have hl := allBits_len w i gs m
      rw [← ih (by omega)]
      simp only [allBits]
      rw [List.getD_eq_getElem?_getD, List.getElem?_append_left (by omega), List.getD_eq_getElem?_getD]
theorem allBits_step (w : Int) (i : Nat) (gs : List St) {k m x y : Nat} {o : Int} (hk : k < m) (hg : gs.getD k s0 = ⟨o, x, y⟩) (hx : x < i + k) (hy : y < i + k) :
    (allBits w i gs m).getD (i + k) 0 = bitOp o ((allBits w i gs m).getD x 0) ((allBits w i gs m).getD y 0) := by
  rw [allBits_pre w i gs (k := k + 1) (by omega) (show i + k < i + (k + 1) by omega), allBits_pre w i gs (k := k) (by omega) hx, allBits_pre w i gs (k := k) (by omega) hy]
  have hl := allBits_len w i gs k
  simp only [allBits]
  rw [List.getD_eq_getElem?_getD, List.getElem?_append_right (by omega), hg, hl]
  simp

set_option maxHeartbeats 4000000 in
set_option maxRecDepth 50000 in
theorem walk_FnFormBits (A : Option Addr) (n c : Nat) (zs : List Int) (w : World) (h : IntsIn .u8 w A n c zs) :
    Calls Try.prog 9 #[.slice A n c] w fun e w' => e = .returned (.bool true) ∧ Below w.heap.size w w' := by
  have hn1 : n ≤ 9223372036854775807 := by have := h.1; have := h.2.1; unfold maxLen at this; omega
  by_cases hn : 1048576 < n
  · clear h
    go_enter Try.func9, Try.ntmps9
    go_wp2_with fail
    go_ret
    exact ⟨rfl, Below.refl _ _⟩
  · have HD := Lib.hid (drawFormBits_any A n c zs w h)
    clear h
    go_enter Try.func9, Try.ntmps9
    go_wp2_with fail
    refine HD.out.mono ?_
    rintro e w1 ⟨⟨i, gs, A1, c1, v, he, hi0, hi4, h3, hc, hv0, hv1, ho⟩, hb⟩
    have hs1 := hb.size
    obtain ⟨p, rfl⟩ := Int.eq_ofNat_of_zero_le hi0
    obtain ⟨m, hm⟩ : ∃ m, m = gs.length := ⟨_, rfl⟩
    have R0 := ho.reads (by rw [scells_len, ← hm]) (show 0 < 3 by omega)
    rw [← hm] at hc h3 he
    subst he
    have CI := Lib.hid (fun W (hw : Below w1.heap.size w1 W) => implFormBits_any p A1 m c1 w1.heap.size gs v W (R0.below hw) hw.size hm.symm hc (by omega))
    have CS := Lib.hid (fun W (hw : Below w1.heap.size w1 W) => specFormBits_any p A1 m c1 w1.heap.size gs v W (R0.below hw) hw.size hm.symm hc (by omega))
    have HM := Lib.hid hm
    have hyl := formBits_bd p v gs (by omega)
    obtain ⟨ys, hys⟩ : ∃ ys, ys = formBits p gs v := ⟨_, rfl⟩
    rw [← hys] at CI CS hyl
    have HY := Lib.hid hys
    clear hys hm HD ho
    go_wp2_with fail
    refine (CI.out w1 (Below.refl _ _)).mono ?_
    rintro e w2 ⟨A2, c2, rfl, hc2, O2, hb2⟩
    have S2 := Sl.of_own O2
    clear O2
    go_wp2_with fail
    refine (CS.out w2 hb2).mono ?_
    rintro e w3 ⟨A3, c3, rfl, hc3, O3, hb3⟩
    replace S2 := S2.next hb3
    have S3 := Sl.of_own O3
    clear O3
    have hb13 := hb2.trans (hb3.mono hb2.size)
    go_wp2_with fail
    refine (sameInts_bel A2 A3 ys.length ys.length c2 c3 _ _ ys ys w3 (S2.reads (n := ys.length) (size := 1) (by simp) (by omega)) (S3.reads (n := ys.length) (size := 1) (by simp) (by omega)) rfl rfl (by omega)).mono ?_
    rintro e w4 ⟨rfl, hb4⟩
    have hb14 := hb13.trans (hb4.mono hb13.size)
    rw [eqL_refl]
    replace S2 := S2.next hb4
    have R4 := R0.below hb14
    have W4 := bnext hb hb14 (Nat.le_refl _)
    have hs14 := hb14.size
    clear S3 CI CS hb2 hb3 hb4 hb13
    cases hv : (formB p gs && wordB p v) with
    | false =>
      have h0 : ys = [] := by
        rw [HY.out]
        exact formBits_n (by
          cases h : formB p gs
          · exact .inl rfl
          · rw [h] at hv; exact .inr (by simpa using hv))
      subst h0
      clear HY
      go_wp2_with (go_at_call 22; refine (alive_any _).mono ?_; rintro e w' ⟨rfl, rfl⟩)
      go_ret
      exact ⟨rfl, W4⟩
    | true =>
      rw [Bool.and_eq_true] at hv
      have hf := formB_t hv.1
      have hwd := wordB_t hv.2
      have HP := Lib.hid hf.2.2.2.2
      have hyl2 : ys.length = m := by rw [HY.out, formBits_len hv.1 hv.2]; exact HM.out.symm
      have HA : Hid (insB v p ++ ys = allBits v p gs m) := Lib.hid (by
        rw [HY.out, formBits_y hv.1 hv.2, HM.out]
        exact allBits_ins v p gs gs.length)
      have HB := Lib.hid (fun k (hk : k < p) => bitOf_y hv.2 (line := (k : Int)) (inB_of ⟨by omega, by omega⟩))
      have HS := Lib.hid (fun k hk => stB_form (formP_at hf.2.2.2.2 (k := k) hk))
      have hp3 : p ≤ 3 := by omega
      have hp1 : 1 ≤ p := by omega
      have hm1 : 1 ≤ m := by have := HM.out; omega
      obtain ⟨ii, hi, hz0, hz1, hz2⟩ := info_parts infoInt
      have hne : ((m : Int) == 0) = false := by rw [beq_eq_false_iff_ne]; omega
      have RD := Lib.hid (S2.reads (n := m) (size := 1) (by rw [List.length_map, hyl2]; omega) (by omega))
      have HO0 := Lib.hid (World.ownsRow_made (base := w4.heap.size) (e := 3) (size := 1) w4 #[] 0 (Nat.le_refl _) (by simp [maxLen]) rfl)
      rw [hyl2] at hc2 ⊢
      have HLY := Lib.hid hyl2
      have S2s := S2.1
      clear hv hf hwd hyl2 hyl S2 HY
      go_wp2_with fail
      go_loopg [7, 8] p (fun gh s j wr => ∃ k : Nat, k ≤ p ∧ gh = p - k ∧ j = .int .i64 k ∧ wr.ownsRow w4.heap.size 3 1 s k ((insB v k).map (Value.int .i64)) ∧ Below w4.heap.size w4 wr)
      case atStart => exact ⟨0, Nat.zero_le _, rfl, rfl, HO0.out, (Below.refl _ _).alloc (Nat.le_refl _) _⟩
      case round =>
        obtain ⟨k, hk, hg, rfl, hown, hbr⟩ := hrel
        have Hg := Lib.hid hg
        have hs := hbr.size
        have hlw := hown.lt
        obtain ⟨A5, c5, rfl, hc5⟩ := own_shape hown
        have Hown := Lib.hid hown
        clear hg hown
        by_cases hlt : k < p
        · have hlt' : (k : Int) < (p : Int) := by omega
          have Hsn := Lib.hid (insB_succ v k)
          have hbk := HB.out k hlt
          obtain ⟨z, ez⟩ : ∃ z, z = bt v k := ⟨_, rfl⟩
          rw [← ez] at Hsn hbk
          have C1 := Lib.hid (fun W => by have := implBitOf_any (p : Int) v (k : Int) W (by omega); rw [hbk] at this; exact this)
          clear ez hbk
          go_wp2_with fail
          refine (C1.out _).mono ?_
          rintro e w' ⟨rfl, rfl⟩
          go_wp2_with (at_builtin; refine wpList_append_own _ rfl _ _ 37 rfl w4.heap.size 3 ii (.int .i64 0) 1 8 Try.underlying37 hi hz0 hz1 hz2 rfl (by decide) _ _ _ rfl (Hown.out.alloc _) ⟨wr.heap.size, 0, none⟩ 1 1 [.int .i64 z] rfl rfl (cell_one_new _ _ _) (by simp [Value.oneCell']) (by unfold maxLen; omega) (by omega) (by simp; omega) ?_; intro v' w6 hown' hgrow _)
          have hb' := (hbr.alloc hs (Obj.cells #[.int .i64 z] 3)).grown hgrow (by simp; omega) (fun q e => (hlw q e).1)
          clear hlw hgrow
          go_wp2_with fail
          go_roundg (p - (k + 1))
          case measure => have := Hg.out; omega
          case rel => exact ⟨k + 1, by omega, rfl, by go_num, by rw [Hsn.out]; simpa using hown', hb'⟩
        · have hlt' : ¬ (k : Int) < (p : Int) := by omega
          obtain rfl : k = p := by omega
          have rd5 := RD.out.below (hbr.mono S2s)
          have hone := ints_oneCell .i64 ys
          go_wp2_with (at_builtin; (refine wpList_append_any _ rfl _ _ 37 rfl w4.heap.size 3 ii (.int .i64 0) 1 8 Try.underlying37 hi hz0 hz1 hz2 rfl (by decide) (.slice A5 k c5) k ((insB v k).map (Value.int .i64)) rfl Hown.out _ A2 m c2 (ys.map (Value.int .i64)) rfl rd5 hone (by unfold maxLen; omega) (by omega) (by omega) ?_; intro v' w6 hown' hgrow _))
          have HL5 : Hid ((insB v k).map (Value.int .i64) ++ ys.map (Value.int .i64) = (allBits v k gs m).map (Value.int .i64)) := Lib.hid (by rw [← List.map_append, HA.out])
          rw [HL5.out] at hown'
          have hb6 := (hbr.mono (Nat.le_refl _)).grown hgrow hs (fun q e => (hlw q e).1)
          obtain ⟨gB, cB, rfl, hgB1, hgB2, hcB, hcB2⟩ := own_pos hown' (by omega)
          have OB := Lib.hid ((own_reads hown' rfl).open1 (by rw [allBits_len]) (by omega))
          have R6 := Lib.hid (R4.below (hb6.mono hs14))
          have W6 := bnext W4 hb6 (by have := hb.size; omega)
          have hs6 := hb6.size
          have HAB := Lib.hid (fun j => getD_bit (allBits_bit v k gs m) j)
          clear hown' hgrow rd5 hone hlw
          go_wp2_with fail
          go_loopg [9] m (fun gh j wr => ∃ q : Nat, q ≤ m ∧ gh = m - q ∧ j = .int .i64 q ∧ wr = w6)
          case atStart => exact ⟨0, Nat.zero_le _, rfl, rfl, rfl⟩
          case round =>
            obtain ⟨q, hq, hg, rfl, rfl⟩ := hrel
            have Hg := Lib.hid hg
            clear hg
            by_cases hqm : q < m
            · have hqm' : (q : Int) < (m : Int) := by omega
              obtain ⟨b, o, rfl, hbB, hcell⟩ := R6.out.openS HM.out.symm (by omega)
              obtain ⟨gb, go, eb, hgb, hoc⟩ := OB.out
              cases eb
              have hgat := hcell q hqm
              have hst := HS.out q (by have := HM.out; omega) (by omega)
              obtain ⟨g, eg⟩ : ∃ g, g = gs.getD q s0 := ⟨_, rfl⟩
              rw [← eg] at hgat hst
              obtain ⟨op, x, y⟩ := g
              simp only at hst
              obtain ⟨x', rfl⟩ := Int.eq_ofNat_of_zero_le hst.2.2.1
              obtain ⟨y', rfl⟩ := Int.eq_ofNat_of_zero_le hst.2.2.2.2.1
              obtain ⟨op', rfl⟩ := Int.eq_ofNat_of_zero_le hst.1
              have hx3 : x' < k + q := by omega
              have hy3 : y' < k + q := by omega
              have hstep := allBits_step v k gs hqm eg.symm hx3 hy3
              obtain ⟨q0, q1, q2⟩ := hgat
              simp only at q0 q1 q2
              have hx := hoc x' (by omega)
              have hy := hoc y' (by omega)
              have hz := hoc (k + q) (by omega)
              have bx := HAB.out x'
              have by_ := HAB.out y'
              obtain ⟨X, eX⟩ : ∃ X, X = (allBits v k gs m).getD x' 0 := ⟨_, rfl⟩
              obtain ⟨Y, eY⟩ : ∃ Y, Y = (allBits v k gs m).getD y' 0 := ⟨_, rfl⟩
              rw [← eX] at hx bx hstep
              rw [← eY] at hy by_ hstep
              obtain ⟨Z, eZ⟩ : ∃ Z, Z = bitOp op' X Y := ⟨_, rfl⟩
              rw [hstep, ← eZ] at hz
              have i1 : (x' : Int) < (k : Int) + (m : Int) := by omega
              have i2 : (y' : Int) < (k : Int) + (m : Int) := by omega
              have i3 : (k : Int) + (q : Int) < (k : Int) + (m : Int) := by omega
              have h4 : op' = 0 ∨ op' = 1 ∨ op' = 2 ∨ op' = 3 := by omega
              clear hcell hoc eg hst eX eY hstep
              simp only [Nat.zero_add] at hx hy hz
              rcases h4 with rfl | rfl | rfl | rfl <;> rcases bx with rfl | rfl <;> rcases by_ with rfl | rfl
              all_goals (simp [bitOp] at eZ; subst eZ)
              all_goals
                go_wp2_with fail
                go_roundg (m - (q + 1))
                case measure => have := Hg.out; omega
                case rel => exact ⟨q + 1, by omega, rfl, by go_num, rfl⟩
            · have hqm' : ¬ (q : Int) < (m : Int) := by omega
              go_wp2_with fail
              go_ret
              exact ⟨rfl, W6⟩
end Go.Proofs.Ytfnebpocngjcmaa
