/- Walk of the law FnTableCycles. -/
import Derived.Test.YtfpnjahdjppeaaaDrawT
import Derived.Test.YtfpnjahdjppeaaaTabR
namespace Go.Proofs.Ytfpnjahdjppeaaa
open Go.RowKit
set_option linter.unusedVariables false
set_option linter.unusedSimpArgs false

theorem drawTableCycles_any (A : Option Addr) (n c : Nat) (zs : List Int) (w : World) (h : IntsIn .u8 w A n c zs) :
    Calls Try.prog 18 #[.slice A n c] w fun e w' => DrawnT w.heap.size w e w' ∧ Below w.heap.size w w' := by
  go_enter Try.func18, Try.ntmps18
  go_wp2_with fail
  refine (l20Open_any A n c zs w h).mono ?_
  rintro e w1 ⟨r, rfl, hr, hd, hb⟩
  have hd' : Rd w1 r 0 := ⟨0, Nat.le_refl _, hd⟩
  go_wp2_with fail
  refine (l20Table_rd 9 r 0 w1 hd' (by omega) (by omega)).mono ?_
  rintro e w2 ⟨⟨l, xs, A2, c2, rfl, l0, l9, h3, hc, ho⟩, hr2, hg2⟩
  have hb2 := below_of_only hb hg2 hr hb.size
  have hs := hb.size
  go_wp2_with fail
  go_ret2
  exact ⟨⟨l, xs, A2, c2, rfl, l0, l9, h3, hc, ho.mono hs⟩, hb2⟩
theorem cyc_le (xs : List Int) : cyc xs ≤ xs.length := cycL_len xs xs.length
theorem tblCycles_is {l : Int} {xs : List Int} (h : tblB l xs = true) : tblCycles l xs = (cyc xs : Int) := tblCycles_y h

set_option maxHeartbeats 4000000 in
set_option maxRecDepth 50000 in
theorem walk_FnTableCycles (A : Option Addr) (n c : Nat) (zs : List Int) (w : World) (h : IntsIn .u8 w A n c zs) :
    Calls Try.prog 5 #[.slice A n c] w fun e w' => e = .returned (.bool true) ∧ Below w.heap.size w w' := by
  have hn1 : n ≤ 9223372036854775807 := by have := h.1; have := h.2.1; unfold maxLen at this; omega
  by_cases hn : 1048576 < n
  · clear h
    go_enter Try.func5, Try.ntmps5
    go_wp2_with fail
    go_ret
    exact ⟨rfl, Below.refl _ _⟩
  · have HD := Lib.hid (drawTableCycles_any A n c zs w h)
    obtain ⟨ii, hi, hz0, hz1, hz2⟩ := info_parts info_int
    clear h
    go_enter Try.func5, Try.ntmps5
    go_wp2_with fail
    refine HD.out.mono ?_
    rintro e w1 ⟨⟨l, xs, A1, c1, he, l0, l9, h3, hc, ho⟩, hb⟩
    have hs1 := hb.size
    obtain ⟨m, hm⟩ : ∃ m, m = xs.length := ⟨_, rfl⟩
    have R0 := ho.reads (n := m) (size := 1) (by simp [hm]) (by omega)
    rw [← hm] at hc h3 he
    subst he
    have CI := Lib.hid (fun W (hw : Below w1.heap.size w1 W) => implTableCycles_any l A1 m c1 w1.heap.size xs W (R0.below hw) hw.size hm.symm hc (by omega))
    have CS := Lib.hid (fun W (hw : Below w1.heap.size w1 W) => specTableCycles_any l A1 m c1 w1.heap.size xs W (R0.below hw) hw.size hm.symm hc (by omega))
    cases hv : tblB l xs with
    | false =>
      rw [tblCycles_n hv] at CI CS
      clear ho R0 HD hv hm
      go_wp2_with fail
      refine (CI.out w1 (Below.refl _ _)).mono ?_
      rintro e w2 ⟨rfl, hb2⟩
      go_wp2_with fail
      refine (CS.out w2 hb2).mono ?_
      rintro e w3 ⟨rfl, hb3⟩
      have hb13 := hb2.trans (hb3.mono hb2.size)
      go_wp2_with (go_at_call 11; refine (alive_any _).mono ?_; rintro e w' ⟨rfl, rfl⟩)
      go_ret
      exact ⟨rfl, bnext hb hb13 (Nat.le_refl _)⟩
    | true =>
      have P := tblB_pm hv
      have hbd := tblB_bd hv
      have hcy := cyc_le xs
      have hvb := back_tbl hv
      have HSW := Lib.hid (fun k (h1 : 1 ≤ k) (h2 : k < m) => sw_cyc P h1 (by omega))
      have HST := Lib.hid (fun k (h1 : 1 ≤ k) (h2 : k < m) => tblCycles_is (sw_tbl hv h1 (k := k) (by omega)))
      have CX := Lib.hid (fun k W (A : Option Addr) (c B : Nat) h hB hc => implTableCycles_any l A m c B (sw xs k) W h hB (by rw [sw_len, hm]) hc (by omega))
      have CB := Lib.hid (fun W (hw : Below w1.heap.size w1 W) => implTableBack_any l A1 m c1 w1.heap.size xs W (R0.below hw) hw.size hm.symm hc (by omega))
      rw [tblBack_y hv] at CB
      have CO := Lib.hid (fun W (A : Option Addr) (c B : Nat) h hB hz hc => implTableCycles_any l A m c B (backL xs) W h hB hz hc (by omega))
      rw [tblCycles_is hvb, cyc_back P] at CO
      rw [tblCycles_is hv] at CI CS
      have hbl : (backL xs).length = m := by rw [backL_len]; exact hm.symm
      obtain ⟨ys, eys⟩ : ∃ ys, ys = backL xs := ⟨_, rfl⟩
      rw [← eys] at CB CO hbl
      have HBL := Lib.hid hbl
      obtain ⟨N, eN⟩ : ∃ N, N = cyc xs := ⟨_, rfl⟩
      rw [← eN] at CI CS CO hcy HSW
      have hN17 : N ≤ 17 ∧ N ≤ m := by omega
      have hN0 : ¬ (N : Int) < 0 := by omega
      have hNm : (N : Int) ≤ (m : Int) := by omega
      have one1 := ints_oneCell .i64 xs
      have HM := Lib.hid hm
      have HR0 := Lib.hid R0
      have RB := Lib.hid (fun W (hw : Below w1.heap.size w1 W) => R0.below hw)
      clear ho R0 HD hv hm P hbd hvb eys eN hbl hcy
      go_wp2_with fail
      refine (CI.out w1 (Below.refl _ _)).mono ?_
      rintro e w2 ⟨rfl, hb2⟩
      go_wp2_with fail
      refine (CS.out w2 hb2).mono ?_
      rintro e w3 ⟨rfl, hb3⟩
      have hb13 := hb2.trans (hb3.mono hb2.size)
      clear hb2 hb3 CI CS
      go_wp2_with fail
      go_loopg [6] m (fun gh i wr => ∃ q : Nat, q ≤ m ∧ gh = m - q ∧ i = .int .i64 ((q + 1 : Nat) : Int) ∧ Below w1.heap.size w1 wr)
      case atStart => exact ⟨0, Nat.zero_le _, rfl, rfl, hb13⟩
      case round =>
        obtain ⟨q, hq, hg, rfl, hbq⟩ := hrel
        have Hg := Lib.hid hg
        have hsq := hbq.size
        clear hg
        obtain ⟨k, ek⟩ : ∃ k, k = q + 1 := ⟨_, rfl⟩
        rw [← ek]
        by_cases hlt : k < m
        · have hlt' : (k : Int) < (m : Int) := by omega
          have hk1 : 1 ≤ k := by omega
          obtain ⟨b, o, rfl, hbB, hcell⟩ := HR0.out.open1 HM.out.symm (by omega)
          have hc0 := hcell k hlt
          have hc1 := hcell (k - 1) (by omega)
          obtain ⟨j, hj⟩ : ∃ j, k = j + 1 := ⟨k - 1, by omega⟩
          have hjk : k - 1 = j := by omega
          rw [hjk] at hc1
          have hsw : sw xs k = (xs.set j (xs.getD k 0)).set k (xs.getD j 0) := by unfold sw; rw [hjk]
          obtain ⟨x0, ex0⟩ : ∃ x, x = xs.getD k 0 := ⟨_, rfl⟩
          obtain ⟨x1, ex1⟩ : ∃ x, x = xs.getD j 0 := ⟨_, rfl⟩
          rw [← ex0] at hc0 hsw
          rw [← ex1] at hc1 hsw
          have Hsw := Lib.hid hsw
          have CXk := Lib.hid (CX.out k)
          rw [HST.out k hk1 hlt] at CXk
          have hcc := HSW.out k hk1 hlt
          obtain ⟨Mv, eM⟩ : ∃ M, M = cyc (sw xs k) := ⟨_, rfl⟩
          rw [← eM] at CXk hcc
          obtain ⟨b1, e1⟩ : ∃ b1, ((Mv : Int) != (N : Int) - 1) = b1 := ⟨_, rfl⟩
          obtain ⟨b2, e2⟩ : ∃ b2, ((Mv : Int) != (N : Int) + 1) = b2 := ⟨_, rfl⟩
          have Hb12 : Hid ((b1 && b2) = false) := Lib.hid (by
            rcases hcc with h | h
            · have : b1 = false := by rw [← e1]; simp; omega
              rw [this]; rfl
            · have : b2 = false := by rw [← e2]; simp; omega
              rw [this]; simp)
          have HJ := Lib.hid hj
          have HEK := Lib.hid ek
          have hjm : j < m := by omega
          have hjm' : (j : Int) < (m : Int) := by omega
          have hkj : (k : Int) - 1 = (j : Int) := by omega
          have hne2 : ¬ k = j := by omega
          have hne3 : ¬ j = k := by omega
          have hbqa := hbq.alloc hsq (.cells #[] 3)
          have own0 := World.ownsRow_made (base := w1.heap.size) (e := 3) (size := 1) wr #[] 0 hsq (by simp [maxLen]) rfl
          have rdq := RB.out _ hbqa
          have hk300 : k ≤ 300 := by omega
          clear hcell ex0 ex1 hsw eM hcc hj ek hjk HSW HST CX
          go_upto_region 15 with (at_builtin; (refine wpList_append_any _ rfl _ _ 23 rfl w1.heap.size 3 ii (.int .i64 0) 1 8 Try.underlying23 hi hz0 hz1 hz2 rfl (by decide) (.slice (some ⟨wr.heap.size, 0, none⟩) 0 0) 0 [] rfl own0 _ (some ⟨b, o, none⟩) m c1 (xs.map (Value.int .i64)) rfl rdq one1 (by unfold maxLen; omega) (by omega) (by simp; omega) ?_; intro v4 w4 own4 gr4 _; rw [Nat.zero_add, List.nil_append] at own4; have hb14 := hbqa.grown gr4 (by simp; omega) (fun q e => by cases e; exact hsq); have hs14 := hb14.size; obtain ⟨g, cap, rfl, hgB, hgl, hgc, hgm⟩ := own_pos own4 (by omega); have hne : ¬ b = g := (by omega); have hne' : ¬ g = b := (by omega); have d0 : w4.cell? ⟨b, o + k, none⟩ = some (.int .i64 x0) := (hb14.cell (p := ⟨b, o + k, none⟩) hbB).trans hc0; have d1 : w4.cell? ⟨b, o + j, none⟩ = some (.int .i64 x1) := (hb14.cell (p := ⟨b, o + j, none⟩) hbB).trans hc1; obtain ⟨u0, f0⟩ := own_get own4 (i := j) hjm HM.out.symm; obtain ⟨u1, f1⟩ := own_get own4 (i := k) hlt HM.out.symm; have own5 := own_put (i := k) (own_put (i := j) own4 x0) x1; have gr5 : w4.grownBy ((w4.setCell ⟨g, j, none⟩ (.int .i64 x0)).setCell ⟨g, k, none⟩ (.int .i64 x1)) (some g) := only_setCell (p := ⟨g, k, none⟩) (only_setCell (p := ⟨g, j, none⟩) (World.grownBy.refl _ _) (Or.inl rfl) _) (Or.inl rfl) _; have hb15 := hb14.grown gr5 hs14 (fun q e => by cases e; exact hgB); clear own4 gr4 hbqa own0 rdq gr5))
          obtain ⟨w5, hw5⟩ : ∃ w5, w5 = (w4.setCell ⟨g, j, none⟩ (.int .i64 x0)).setCell ⟨g, k, none⟩ (.int .i64 x1) := ⟨_, rfl⟩
          rw [← hw5] at own5 hb15 ⊢
          rw [← Hsw.out] at own5
          clear hw5 d0 d1 u0 u1 f0 f1 hb14 hs14 hc0 hc1
          have hs15 := hb15.size
          have C6 := Lib.hid (CXk.out w5 _ _ _ (own_reads own5 rfl) (Nat.le_refl _) hgc)
          clear own5 CXk
          go_wp2_with fail
          refine C6.out.mono ?_
          rintro e w6 ⟨rfl, hb6⟩
          have hb16 := hb15.trans (hb6.mono hs15)
          have h12 := Hb12.out
          clear hb6 C6
          cases b1 with
          | false =>
            go_wp2_with fail
            go_roundg (m - (q + 1))
            case measure => have := Hg.out; have := HEK.out; omega
            case rel => exact ⟨q + 1, by have := HEK.out; omega, rfl, by have := HEK.out; go_num, hb16⟩
          | true =>
            have hb2f : b2 = false := by simpa using h12
            subst hb2f
            clear h12
            go_wp2_with fail
            go_roundg (m - (q + 1))
            case measure => have := Hg.out; have := HEK.out; omega
            case rel => exact ⟨q + 1, by have := HEK.out; omega, rfl, by have := HEK.out; go_num, hb16⟩
        · have hlt' : ¬ (k : Int) < (m : Int) := by omega
          have hNe : ((N : Int) == (N : Int)) = true := by simp
          clear ek
          have C8 := Lib.hid (CB.out wr hbq)
          go_wp2_with fail
          refine C8.out.mono ?_
          rintro e w8 ⟨A8, c8, rfl, hc8, O8, hb8⟩
          rw [HBL.out] at hc8 ⊢
          have hb18 := hbq.trans (hb8.mono hbq.size)
          have S8 := Sl.of_own O8
          have C9 := Lib.hid (CO.out w8 A8 c8 _ (S8.reads (n := m) (size := 1) (by simp [HBL.out]) (by omega)) S8.1 HBL.out hc8)
          clear O8 S8 hb8
          go_wp2_with fail
          refine C9.out.mono ?_
          rintro e w9 ⟨rfl, hb9⟩
          have hb19 := hb18.trans (hb9.mono hb18.size)
          go_wp2_with fail
          go_ret
          exact ⟨rfl, bnext hb hb19 (Nat.le_refl _)⟩
end Go.Proofs.Ytfpnjahdjppeaaa
