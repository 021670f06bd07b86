/- Walk of the law FnTableThen. -/
import Derived.Test.YtfpnjahdjppeaaaDrawTT
import Derived.Test.YtfpnjahdjppeaaaTabS
import Derived.Test.YtfpnjahdjppeaaaSame
namespace Go.Proofs.Ytfpnjahdjppeaaa
open Go.RowKit
set_option linter.unusedVariables false
set_option linter.unusedSimpArgs false

theorem thenL_ne {l : Int} {xs ys : List Int} (h : tblB l xs = true) (h' : tblB l ys = true) : 2 ≤ (tblThen l xs ys).length := by
  rw [tblThen_y h h', thenL_len]
  exact (tblB_bd h).1

set_option maxHeartbeats 8000000 in
set_option maxRecDepth 50000 in
theorem walk_FnTableThen (A : Option Addr) (n c : Nat) (zs : List Int) (w : World) (h : IntsIn .u8 w A n c zs) :
    Calls Try.prog 6 #[.slice A n c] w fun e w' => e = .returned (.bool true) ∧ Below w.heap.size w w' := by
  have hn1 : n ≤ 9223372036854775807 := by have := h.1; have := h.2.1; unfold maxLen at this; omega
  by_cases hn : 1048576 < n
  · clear h
    go_enter Try.func6, Try.ntmps6
    go_wp2_with fail
    go_ret
    exact ⟨rfl, Below.refl _ _⟩
  · have HD := Lib.hid (drawTableThen_any A n c zs w h)
    clear h
    go_enter Try.func6, Try.ntmps6
    go_wp2_with fail
    refine HD.out.mono ?_
    rintro e w1 ⟨⟨l, xs, ys, A1, A2, c1, c2, he, h17, h256, hc, hc', ho, ho'⟩, hb⟩
    have hs1 := hb.size
    obtain ⟨m, hm⟩ : ∃ m, m = xs.length := ⟨_, rfl⟩
    obtain ⟨m', hm'⟩ : ∃ m, m = ys.length := ⟨_, rfl⟩
    have R1 := ho.reads (n := m) (size := 1) (by simp [hm]) (by omega)
    have R2 := ho'.reads (n := m') (size := 1) (by simp [hm']) (by omega)
    rw [← hm] at hc h17 he
    rw [← hm'] at hc' h256 he
    subst he
    have CI := Lib.hid (fun W (hw : Below w1.heap.size w1 W) => implTableThen_any l A1 m c1 w1.heap.size xs A2 m' c2 w1.heap.size ys W (R1.below hw) hw.size hm.symm hc (by omega) (R2.below hw) hw.size hm'.symm hc' (by omega))
    have CS := Lib.hid (fun W (hw : Below w1.heap.size w1 W) => specTableThen_any l A1 m c1 w1.heap.size xs A2 m' c2 w1.heap.size ys W (R1.below hw) hw.size hm.symm hc (by omega) (R2.below hw) hw.size hm'.symm hc' (by omega))
    cases hv : (tblB l xs && tblB l ys) with
    | false =>
      have hn : tblThen l xs ys = [] := tblThen_n (by
        cases h : tblB l xs
        · exact .inl rfl
        · rw [h] at hv; exact .inr (by simpa using hv))
      rw [hn] at CI CS
      clear ho ho' R1 R2 HD hv hm hm' hn
      go_wp2_with fail
      refine (CI.out w1 (Below.refl _ _)).mono ?_
      rintro e w2 ⟨A3, c3, rfl, hc3, O3, hb2⟩
      have S3 := Sl.of_own O3
      clear O3
      go_wp2_with fail
      refine (CS.out w2 hb2).mono ?_
      rintro e w3 ⟨A4, c4, rfl, hc4, O4, hb3⟩
      replace S3 := S3.next hb3
      have S4 := Sl.of_own O4
      clear O4
      have hb13 := hb2.trans (hb3.mono hb2.size)
      go_wp2_with fail
      refine (sameInts_bel A3 A4 0 0 c3 c4 _ _ [] [] w3 (S3.reads (n := 0) (size := 1) (by simp) (by omega)) (S4.reads (n := 0) (size := 1) (by simp) (by omega)) rfl rfl (by omega)).mono ?_
      rintro e w4 ⟨rfl, hb4⟩
      rw [eqL_refl]
      have hb14 := hb13.trans (hb4.mono hb13.size)
      go_wp2_with (go_at_call 11; refine (alive_any _).mono ?_; rintro e w' ⟨rfl, rfl⟩)
      go_ret
      exact ⟨rfl, bnext hb hb14 (Nat.le_refl _)⟩
    | true =>
      rw [Bool.and_eq_true] at hv
      obtain ⟨hvx, hvy⟩ := hv
      have P := tblB_pm hvx
      have Q := tblB_pm hvy
      have hmm : m = m' := by
        have h1 := (tblB_t hvx).2.1
        have h2 := (tblB_t hvy).2.1
        omega
      subst hmm
      have hm2 := (tblB_bd hvx).1
      rw [← hm] at hm2
      have hxy : xs.length = ys.length := by omega
      have hvt := then_tbl hvx hvy
      have hvbx := back_tbl hvx
      have hvby := back_tbl hvy
      have hbt := back_then P Q hxy
      have hod := then_odd P Q hxy
      rw [tblThen_y hvx hvy] at CI CS
      have CV := Lib.hid (fun W (A : Option Addr) (c B : Nat) h hB hz hc => implTableValid_any l A m c B (thenL xs ys) W h hB hz hc (by omega))
      rw [hvt] at CV
      have CBt := Lib.hid (fun W (A : Option Addr) (c B : Nat) h hB hz hc => implTableBack_any l A m c B (thenL xs ys) W h hB hz hc (by omega))
      rw [tblBack_y hvt, hbt] at CBt
      have CBx := Lib.hid (fun W (hw : Below w1.heap.size w1 W) => implTableBack_any l A1 m c1 w1.heap.size xs W (R1.below hw) hw.size hm.symm hc (by omega))
      rw [tblBack_y hvx] at CBx
      have CBy := Lib.hid (fun W (hw : Below w1.heap.size w1 W) => implTableBack_any l A2 m c2 w1.heap.size ys W (R2.below hw) hw.size hm'.symm hc' (by omega))
      rw [tblBack_y hvy] at CBy
      have CTT := Lib.hid (fun W (A A' : Option Addr) (c c' B B' : Nat) h hB hz hc h' hB' hz' hc' => implTableThen_any l A m c B (backL ys) A' m c' B' (backL xs) W h hB hz hc (by omega) h' hB' hz' hc' (by omega))
      rw [tblThen_y hvby hvbx] at CTT
      have COt := Lib.hid (fun W (A : Option Addr) (c B : Nat) h hB hz hc => implTableOdd_any l A m c B (thenL xs ys) W h hB hz hc (by omega))
      rw [tblOdd_is hvt, hod] at COt
      have COx := Lib.hid (fun W (hw : Below w1.heap.size w1 W) => implTableOdd_any l A1 m c1 w1.heap.size xs W (R1.below hw) hw.size hm.symm hc (by omega))
      rw [tblOdd_is hvx] at COx
      have COy := Lib.hid (fun W (hw : Below w1.heap.size w1 W) => implTableOdd_any l A2 m c2 w1.heap.size ys W (R2.below hw) hw.size hm'.symm hc' (by omega))
      rw [tblOdd_is hvy] at COy
      have ltt : (thenL xs ys).length = m := by rw [thenL_len]; exact hm.symm
      have lbx : (backL xs).length = m := by rw [backL_len]; exact hm.symm
      have lby : (backL ys).length = m := by rw [backL_len]; exact hm'.symm
      have lbb : (thenL (backL ys) (backL xs)).length = m := by rw [thenL_len, backL_len]; exact hm'.symm
      obtain ⟨bx, ebx⟩ : ∃ b, b = backL xs := ⟨_, rfl⟩
      obtain ⟨by_, eby⟩ : ∃ b, b = backL ys := ⟨_, rfl⟩
      rw [← ebx] at CBt CBx CTT lbx lbb
      rw [← eby] at CBt CBy CTT lby lbb
      obtain ⟨bb, ebb⟩ : ∃ b, b = thenL by_ bx := ⟨_, rfl⟩
      rw [← ebb] at CBt CTT lbb
      obtain ⟨ts, ets⟩ : ∃ t, t = thenL xs ys := ⟨_, rfl⟩
      rw [← ets] at CI CS CV CBt COt ltt
      obtain ⟨o1, eo1⟩ : ∃ o, o = oddP xs := ⟨_, rfl⟩
      obtain ⟨o2, eo2⟩ : ∃ o, o = oddP ys := ⟨_, rfl⟩
      rw [← eo1] at COt COx
      rw [← eo2] at COt COy
      have LT := Lib.hid ltt
      have LX := Lib.hid lbx
      have LY := Lib.hid lby
      have LB := Lib.hid lbb
      have hm0 : ((m : Int) == 0) = false := by rw [beq_eq_false_iff_ne]; omega
      have ho12 : ((o1 != o2) == (o1 != o2)) = true := by simp
      clear ho ho' R1 R2 HD hvx hvy hm hm' P Q hxy hvt hvbx hvby hbt hod ltt lbx lby lbb ebx eby ebb ets eo1 eo2
      go_wp2_with fail
      refine (CI.out w1 (Below.refl _ _)).mono ?_
      rintro e w2 ⟨A3, c3, rfl, hc3, O3, hb2⟩
      rw [LT.out] at hc3 ⊢
      have S3 := Sl.of_own O3
      clear O3
      go_wp2_with fail
      refine (CS.out w2 hb2).mono ?_
      rintro e w3 ⟨A4, c4, rfl, hc4, O4, hb3⟩
      rw [LT.out] at hc4 ⊢
      replace S3 := S3.next hb3
      have S4 := Sl.of_own O4
      have hb13 := hb2.trans (hb3.mono hb2.size)
      have C4 := Lib.hid (sameInts_bel A3 A4 m m c3 c4 _ _ ts ts w3 (S3.reads (n := m) (size := 1) (by simp [LT.out]) (by omega)) (S4.reads (n := m) (size := 1) (by simp [LT.out]) (by omega)) LT.out LT.out (by omega))
      clear O4 S4 CI CS hb2 hb3
      go_wp2_with fail
      refine C4.out.mono ?_
      rintro e w4 ⟨rfl, hb4⟩
      rw [eqL_refl]
      have hb14 := hb13.trans (hb4.mono hb13.size)
      replace S3 := S3.next hb4
      have C5 := Lib.hid (CV.out w4 A3 c3 _ (S3.reads (n := m) (size := 1) (by simp [LT.out]) (by omega)) S3.1 LT.out hc3)
      clear C4 CV hb4 hb13
      go_wp2_with fail
      refine C5.out.mono ?_
      rintro e w5 ⟨rfl, hb5⟩
      have hb15 := hb14.trans (hb5.mono hb14.size)
      replace S3 := S3.next hb5
      have C6 := Lib.hid (CBt.out w5 A3 c3 _ (S3.reads (n := m) (size := 1) (by simp [LT.out]) (by omega)) S3.1 LT.out hc3)
      clear C5 CBt hb5 hb14
      go_wp2_with fail
      refine C6.out.mono ?_
      rintro e w6 ⟨A6, c6, rfl, hc6, O6, hb6⟩
      rw [LB.out] at hc6 ⊢
      have hb16 := hb15.trans (hb6.mono hb15.size)
      replace S3 := S3.next hb6
      have S6 := Sl.of_own O6
      have C7 := Lib.hid (CBy.out w6 hb16)
      clear O6 C6 CBy hb6 hb15
      go_wp2_with fail
      refine C7.out.mono ?_
      rintro e w7 ⟨A7, c7, rfl, hc7, O7, hb7⟩
      rw [LY.out] at hc7 ⊢
      have hb17 := hb16.trans (hb7.mono hb16.size)
      replace S3 := S3.next hb7
      replace S6 := S6.next hb7
      have S7 := Sl.of_own O7
      have C8 := Lib.hid (CBx.out w7 hb17)
      clear O7 C7 CBx hb7 hb16
      go_wp2_with fail
      refine C8.out.mono ?_
      rintro e w8 ⟨A8, c8, rfl, hc8, O8, hb8⟩
      rw [LX.out] at hc8 ⊢
      have hb18 := hb17.trans (hb8.mono hb17.size)
      replace S3 := S3.next hb8
      replace S6 := S6.next hb8
      replace S7 := S7.next hb8
      have S8 := Sl.of_own O8
      have C9 := Lib.hid (CTT.out w8 A7 A8 c7 c8 _ _ (S7.reads (n := m) (size := 1) (by simp [LY.out]) (by omega)) S7.1 LY.out hc7 (S8.reads (n := m) (size := 1) (by simp [LX.out]) (by omega)) S8.1 LX.out hc8)
      clear O8 C8 CTT hb8 hb17 S7 S8
      go_wp2_with fail
      refine C9.out.mono ?_
      rintro e w9 ⟨A9, c9, rfl, hc9, O9, hb9⟩
      rw [LB.out] at hc9 ⊢
      have hb19 := hb18.trans (hb9.mono hb18.size)
      replace S3 := S3.next hb9
      replace S6 := S6.next hb9
      have S9 := Sl.of_own O9
      have C10 := Lib.hid (sameInts_bel A6 A9 m m c6 c9 _ _ bb bb w9 (S6.reads (n := m) (size := 1) (by simp [LB.out]) (by omega)) (S9.reads (n := m) (size := 1) (by simp [LB.out]) (by omega)) LB.out LB.out (by omega))
      clear O9 C9 hb9 hb18 S6 S9
      go_wp2_with fail
      refine C10.out.mono ?_
      rintro e w10 ⟨rfl, hb10⟩
      rw [eqL_refl]
      have hb110 := hb19.trans (hb10.mono hb19.size)
      replace S3 := S3.next hb10
      have C11 := Lib.hid (COt.out w10 A3 c3 _ (S3.reads (n := m) (size := 1) (by simp [LT.out]) (by omega)) S3.1 LT.out hc3)
      clear C10 COt hb10 hb19 S3
      go_wp2_with fail
      refine C11.out.mono ?_
      rintro e w11 ⟨rfl, hb11⟩
      have hb111 := hb110.trans (hb11.mono hb110.size)
      go_wp2_with fail
      refine (COx.out w11 hb111).mono ?_
      rintro e w12 ⟨rfl, hb12⟩
      have hb112 := hb111.trans (hb12.mono hb111.size)
      go_wp2_with fail
      refine (COy.out w12 hb112).mono ?_
      rintro e w13 ⟨rfl, hb13⟩
      have hb113 := hb112.trans (hb13.mono hb112.size)
      clear hb11 hb12 hb13 hb110 hb111 hb112 COx COy C11
      go_wp2_with fail
      go_ret
      exact ⟨by cases o1 <;> cases o2 <;> rfl, bnext hb hb113 (Nat.le_refl _)⟩
end Go.Proofs.Ytfpnjahdjppeaaa
