/- Walk of the law FnTableBack. -/
import Derived.Test.YtfpnjahdjppeaaaDrawT
import Derived.Test.YtfpnjahdjppeaaaTabP
import Derived.Test.YtfpnjahdjppeaaaSame
namespace Go.Proofs.Ytfpnjahdjppeaaa
open Go.RowKit
set_option linter.unusedVariables false
set_option linter.unusedSimpArgs false

theorem drawTableBack_any (A : Option Addr) (n c : Nat) (zs : List Int) (w : World) (h : IntsIn .u8 w A n c zs) :
    Calls Try.prog 13 #[.slice A n c] w fun e w' => DrawnT w.heap.size w e w' ∧ Below w.heap.size w w' := by
  go_enter Try.func13, Try.ntmps13
  go_wp2_with fail
  refine (l20Open_any A n c zs w h).mono ?_
  rintro e w1 ⟨r, rfl, hr, hd, hb⟩
  have hd' : Rd w1 r 0 := ⟨0, Nat.le_refl _, hd⟩
  go_wp2_with fail
  refine (l20Table_rd 9 r 0 w1 hd' (by omega) (by omega)).mono ?_
  rintro e w2 ⟨⟨l, xs, A2, c2, rfl, l0, l9, h3, hc, ho⟩, hr2, hg2⟩
  have hb2 := below_of_only hb hg2 hr hb.size
  have hs := hb.size
  go_wp2_with fail
  go_ret2
  exact ⟨⟨l, xs, A2, c2, rfl, l0, l9, h3, hc, ho.mono hs⟩, hb2⟩

set_option maxHeartbeats 4000000 in
set_option maxRecDepth 50000 in
theorem walk_FnTableBack (A : Option Addr) (n c : Nat) (zs : List Int) (w : World) (h : IntsIn .u8 w A n c zs) :
    Calls Try.prog 4 #[.slice A n c] w fun e w' => e = .returned (.bool true) ∧ Below w.heap.size w w' := by
  have hn1 : n ≤ 9223372036854775807 := by have := h.1; have := h.2.1; unfold maxLen at this; omega
  by_cases hn : 1048576 < n
  · clear h
    go_enter Try.func4, Try.ntmps4
    go_wp2_with fail
    go_ret
    exact ⟨rfl, Below.refl _ _⟩
  · have HD := Lib.hid (drawTableBack_any A n c zs w h)
    clear h
    go_enter Try.func4, Try.ntmps4
    go_wp2_with fail
    refine HD.out.mono ?_
    rintro e w1 ⟨⟨l, xs, A1, c1, he, l0, l9, h3, hc, ho⟩, hb⟩
    have hs1 := hb.size
    obtain ⟨m, hm⟩ : ∃ m, m = xs.length := ⟨_, rfl⟩
    have R0 := ho.reads (n := m) (size := 1) (by simp [hm]) (by omega)
    rw [← hm] at hc h3 he
    subst he
    have CI := Lib.hid (fun W (hw : Below w1.heap.size w1 W) => implTableBack_any l A1 m c1 w1.heap.size xs W (R0.below hw) hw.size hm.symm hc (by omega))
    have CS := Lib.hid (fun W (hw : Below w1.heap.size w1 W) => specTableBack_any l A1 m c1 w1.heap.size xs W (R0.below hw) hw.size hm.symm hc (by omega))
    have CV := Lib.hid (fun W (hw : Below w1.heap.size w1 W) => Calls.drewBelow (specTableValid_any l A1 m c1 w1.heap.size xs W (R0.below hw) hm.symm hc (by omega)))
    have CT := Lib.hid (fun W (hw : Below w1.heap.size w1 W) (ys : List Int) (A : Option Addr) (c B : Nat) h hB hz hc => implTableThen_any l A1 m c1 w1.heap.size xs A m c B ys W (R0.below hw) hw.size hm.symm (by omega) (by omega) h hB hz hc (by omega))
    have CB := Lib.hid (fun W (ys : List Int) (A : Option Addr) (c B : Nat) h hB hz hc => implTableBack_any l A m c B ys W h hB hz hc (by omega))
    have SM := Lib.hid (fun W (hw : Below w1.heap.size w1 W) (A : Option Addr) (c B : Nat) h => sameInts_bel A A1 m m c c1 B w1.heap.size xs xs W h (R0.below hw) hm.symm hm.symm (by omega))
    simp only [eqL_refl] at SM
    cases hv : tblB l xs with
    | false =>
      rw [tblBack_n hv] at CI CS
      rw [hv] at CV
      clear ho R0 HD hv hm CT CB SM
      go_wp2_with fail
      refine (CI.out w1 (Below.refl _ _)).mono ?_
      rintro e w2 ⟨A2, c2, rfl, hc2, O2, hb2⟩
      have S2 := Sl.of_own O2
      clear O2
      go_wp2_with fail
      refine (CS.out w2 hb2).mono ?_
      rintro e w3 ⟨A3, c3, rfl, hc3, O3, hb3⟩
      replace S2 := S2.next hb3
      have S3 := Sl.of_own O3
      clear O3
      have hb13 := hb2.trans (hb3.mono hb2.size)
      go_wp2_with fail
      refine (sameInts_bel A2 A3 0 0 c2 c3 _ _ [] [] w3 (S2.reads (n := 0) (size := 1) (by simp) (by omega)) (S3.reads (n := 0) (size := 1) (by simp) (by omega)) rfl rfl (by omega)).mono ?_
      rintro e w4 ⟨rfl, hb4⟩
      rw [eqL_refl]
      have hb14 := hb13.trans (hb4.mono hb13.size)
      go_wp2_with fail
      refine (CV.out w4 hb14).mono ?_
      rintro e w5 ⟨rfl, hb5⟩
      have hb15 := hb14.trans (hb5.mono hb14.size)
      go_wp2_with (go_at_call 11; refine (alive_any _).mono ?_; rintro e w' ⟨rfl, rfl⟩)
      go_ret
      exact ⟨rfl, bnext hb hb15 (Nat.le_refl _)⟩
    | true =>
      have P := tblB_pm hv
      have hvb := back_tbl hv
      have hbl : (backL xs).length = m := by rw [backL_len]; exact hm.symm
      have hbb := back_back P
      have htl : (thenL xs (backL xs)).length = m := by rw [thenL_len]; exact hm.symm
      have HTA := Lib.hid (fun k (hk : k < m) => then_back P (k := k) (by omega))
      have htt := tblThen_y hv hvb
      have hyb := tblBack_y hvb
      rw [hbb] at hyb
      rw [tblBack_y hv] at CI CS
      rw [hv] at CV
      have CT' := Lib.hid (fun W (hw : Below w1.heap.size w1 W) => CT.out W hw (backL xs))
      have CB' := Lib.hid (fun W => CB.out W (backL xs))
      rw [htt] at CT'
      rw [hyb] at CB'
      obtain ⟨ys, eys⟩ : ∃ ys, ys = backL xs := ⟨_, rfl⟩
      rw [← eys] at CI CS CT' CB' hbl htl HTA
      obtain ⟨ts, ets⟩ : ∃ ts, ts = thenL xs ys := ⟨_, rfl⟩
      rw [← ets] at CT' htl HTA
      have hm256 : m ≤ 300 := by omega
      have HM := Lib.hid hm
      have HBL := Lib.hid hbl
      have HTL := Lib.hid htl
      have hmm : ((m : Int) == (m : Int)) = true := by simp
      clear ho R0 HD hv hm P hvb hbb htt hyb eys ets CT CB hbl htl
      go_wp2_with fail
      refine (CI.out w1 (Below.refl _ _)).mono ?_
      rintro e w2 ⟨A2, c2, rfl, hc2, O2, hb2⟩
      have S2 := Sl.of_own O2
      rw [HBL.out] at hc2 ⊢
      clear O2
      go_wp2_with fail
      refine (CS.out w2 hb2).mono ?_
      rintro e w3 ⟨A3, c3, rfl, hc3, O3, hb3⟩
      rw [HBL.out] at hc3 ⊢
      replace S2 := S2.next hb3
      have S3 := Sl.of_own O3
      clear O3
      have hb13 := hb2.trans (hb3.mono hb2.size)
      go_wp2_with fail
      refine (sameInts_bel A2 A3 m m c2 c3 _ _ ys ys w3 (S2.reads (n := m) (size := 1) (by simp [HBL.out]) (by omega)) (S3.reads (n := m) (size := 1) (by simp [HBL.out]) (by omega)) HBL.out HBL.out (by omega)).mono ?_
      rintro e w4 ⟨rfl, hb4⟩
      rw [eqL_refl]
      have hb14 := hb13.trans (hb4.mono hb13.size)
      replace S2 := S2.next hb4
      clear S3 hb2 hb3 hb4 hb13
      go_wp2_with fail
      refine (CV.out w4 hb14).mono ?_
      rintro e w5 ⟨rfl, hb5⟩
      have hb15 := hb14.trans (hb5.mono hb14.size)
      replace S2 := S2.next hb5
      have C6 := Lib.hid (CT'.out w5 hb15 A2 c2 _ (S2.reads (n := m) (size := 1) (by simp [HBL.out]) (by omega)) S2.1 HBL.out hc2)
      clear hb5 hb14
      go_wp2_with fail
      refine C6.out.mono ?_
      rintro e w6 ⟨A6, c6, rfl, hc6, O6, hb6⟩
      rw [HTL.out] at hc6 ⊢
      have hb16 := hb15.trans (hb6.mono hb15.size)
      replace S2 := S2.next hb6
      have S6 := Sl.of_own O6
      have RT := Lib.hid (S6.reads (n := m) (size := 1) (by simp [HTL.out]) (by omega))
      clear O6 S6 hb6 hb15 C6
      go_wp2_with fail
      go_loopg [7] m (fun gh i wr => ∃ k : Nat, k ≤ m ∧ gh = m - k ∧ i = .int .i64 k ∧ w6 = wr)
      case atStart => exact ⟨0, Nat.zero_le _, rfl, rfl, rfl⟩
      case round =>
        obtain ⟨k, hk, hg, rfl, rfl⟩ := hrel
        have Hg := Lib.hid hg
        clear hg
        by_cases hlt : k < m
        · have hlt' : (k : Int) < (m : Int) := by omega
          obtain ⟨b, o, rfl, hbB, hcell⟩ := RT.out.open1 HTL.out (by omega)
          have hc1 := hcell k hlt
          rw [HTA.out k hlt] at hc1
          have hne : ((k : Int) != (k : Int)) = false := by simp
          clear hcell
          go_wp2_with fail
          go_roundg (m - (k + 1))
          case measure => have := Hg.out; omega
          case rel => exact ⟨k + 1, by omega, rfl, by go_num, rfl⟩
        · have hlt' : ¬ (k : Int) < (m : Int) := by omega
          have C7 := Lib.hid (CB'.out w6 A2 c2 _ (S2.reads (n := m) (size := 1) (by simp [HBL.out]) (by omega)) S2.1 HBL.out hc2)
          clear S2
          go_wp2_with fail
          refine C7.out.mono ?_
          rintro e w7 ⟨A7, c7, rfl, hc7, O7, hb7⟩
          rw [← HM.out] at hc7 ⊢
          have hb17 := hb16.trans (hb7.mono hb16.size)
          have S7 := Sl.of_own O7
          have C8 := Lib.hid (SM.out w7 hb17 A7 c7 _ (S7.reads (n := m) (size := 1) (by simp [HM.out]) (by omega)))
          clear O7 S7 C7 hb7
          go_wp2_with fail
          refine C8.out.mono ?_
          rintro e w8 ⟨rfl, hb8⟩
          have hb18 := hb17.trans (hb8.mono hb17.size)
          go_wp2_with fail
          go_ret
          exact ⟨rfl, bnext hb hb18 (Nat.le_refl _)⟩
end Go.Proofs.Ytfpnjahdjppeaaa
