/- Walk of the law FnTableOrder. -/
import Derived.Test.YtfpnjahdjppeaaaDrawT
import Derived.Test.YtfpnjahdjppeaaaTabQ
namespace Go.Proofs.Ytfpnjahdjppeaaa
open Go.RowKit
set_option linter.unusedVariables false
set_option linter.unusedSimpArgs false

theorem drawTableOrder_any (A : Option Addr) (n c : Nat) (zs : List Int) (w : World) (h : IntsIn .u8 w A n c zs) :
    Calls Try.prog 24 #[.slice A n c] w fun e w' => DrawnT w.heap.size w e w' ∧ Below w.heap.size w w' := by
  go_enter Try.func24, Try.ntmps24
  go_wp2_with fail
  refine (l20Open_any A n c zs w h).mono ?_
  rintro e w1 ⟨r, rfl, hr, hd, hb⟩
  have hd' : Rd w1 r 0 := ⟨0, Nat.le_refl _, hd⟩
  go_wp2_with fail
  refine (l20Table_rd 9 r 0 w1 hd' (by omega) (by omega)).mono ?_
  rintro e w2 ⟨⟨l, xs, A2, c2, rfl, l0, l9, h3, hc, ho⟩, hr2, hg2⟩
  have hb2 := below_of_only hb hg2 hr hb.size
  have hs := hb.size
  go_wp2_with fail
  go_ret2
  exact ⟨⟨l, xs, A2, c2, rfl, l0, l9, h3, hc, ho.mono hs⟩, hb2⟩

set_option maxHeartbeats 4000000 in
set_option maxRecDepth 50000 in
theorem walk_FnTableOrder (A : Option Addr) (n c : Nat) (zs : List Int) (w : World) (h : IntsIn .u8 w A n c zs) :
    Calls Try.prog 7 #[.slice A n c] w fun e w' => e = .returned (.bool true) ∧ Below w.heap.size w w' := by
  have hn1 : n ≤ 9223372036854775807 := by have := h.1; have := h.2.1; unfold maxLen at this; omega
  by_cases hn : 1048576 < n
  · clear h
    go_enter Try.func7, Try.ntmps7
    go_wp2_with fail
    go_ret
    exact ⟨rfl, Below.refl _ _⟩
  · have HD := Lib.hid (drawTableOrder_any A n c zs w h)
    clear h
    go_enter Try.func7, Try.ntmps7
    go_wp2_with fail
    refine HD.out.mono ?_
    rintro e w1 ⟨⟨l, xs, A1, c1, he, l0, l9, h3, hc, ho⟩, hb⟩
    have hs1 := hb.size
    obtain ⟨m, hm⟩ : ∃ m, m = xs.length := ⟨_, rfl⟩
    have R0 := ho.reads (n := m) (size := 1) (by simp [hm]) (by omega)
    rw [← hm] at hc h3 he
    subst he
    have CI := Lib.hid (fun W (hw : Below w1.heap.size w1 W) => implTableOrder_any l A1 m c1 w1.heap.size xs W (R0.below hw) hw.size hm.symm hc (by omega))
    have CS := Lib.hid (fun W (hw : Below w1.heap.size w1 W) => specTableOrder_any l A1 m c1 w1.heap.size xs W (R0.below hw) hw.size hm.symm hc (by omega))
    cases hv : tblB l xs with
    | false =>
      rw [tblOrder_n hv] at CI CS
      clear ho R0 HD hv hm
      go_wp2_with fail
      refine (CI.out w1 (Below.refl _ _)).mono ?_
      rintro e w2 ⟨rfl, hb2⟩
      go_wp2_with fail
      refine (CS.out w2 hb2).mono ?_
      rintro e w3 ⟨rfl, hb3⟩
      have hb13 := hb2.trans (hb3.mono hb2.size)
      go_wp2_with (go_at_call 11; refine (alive_any _).mono ?_; rintro e w' ⟨rfl, rfl⟩)
      go_ret
      exact ⟨rfl, bnext hb hb13 (Nat.le_refl _)⟩
    | true =>
      have P := tblB_pm hv
      have hbd := tblB_bd hv
      have hlw : m ≤ 16 := by
        have h2 := (tblB_t hv).2.1
        rw [← hm] at h2
        have hl := inB_t (tblB_t hv).1
        have h8 : l = 1 ∨ l = 2 ∨ l = 3 ∨ l = 4 ∨ l = 5 ∨ l = 6 ∨ l = 7 ∨ l = 8 := by omega
        have p5 : pw 5 = 32 ∧ pw 6 = 64 ∧ pw 7 = 128 ∧ pw 8 = 256 ∧ pw 4 = 16 ∧ pw 3 = 8 ∧ pw 2 = 4 ∧ pw 1 = 2 := by decide
        rcases h8 with rfl | rfl | rfl | rfl | rfl | rfl | rfl | rfl <;> omega
      have hsm := ordN_small P (by omega)
      have hpo := ordN_pos P (Nat.le_refl xs.length)
      have hob := ord_back P
      have hvb := back_tbl hv
      have hyb := tblOrder_y hvb
      rw [hob] at hyb
      rw [tblOrder_y hv] at CI CS
      have HPI := Lib.hid (fun q hq => pw_id P (q := q) hq)
      have HPT := Lib.hid (fun q => tblThen_y (pwL_tbl hv q) hv)
      have HPL := Lib.hid (fun q => pwL_len xs q)
      have CT := Lib.hid (fun W (hw : Below w1.heap.size w1 W) q (A : Option Addr) (c B : Nat) h hB hz hc => implTableThen_any l A m c B (pwL xs q) A1 m c1 w1.heap.size xs W h hB hz hc (by omega) (R0.below hw) hw.size hm.symm (by omega) (by omega))
      have CB := Lib.hid (fun W (hw : Below w1.heap.size w1 W) => implTableBack_any l A1 m c1 w1.heap.size xs W (R0.below hw) hw.size hm.symm hc (by omega))
      rw [tblBack_y hv] at CB
      have CO := Lib.hid (fun W (A : Option Addr) (c B : Nat) h hB hz hc => implTableOrder_any l A m c B (backL xs) W h hB hz hc (by omega))
      rw [hyb] at CO
      have hbl : (backL xs).length = m := by rw [backL_len]; exact hm.symm
      obtain ⟨ys, eys⟩ : ∃ ys, ys = backL xs := ⟨_, rfl⟩
      rw [← eys] at CB CO hbl
      have HBL := Lib.hid hbl
      rw [← hm] at CI CS HPI HPL hsm hpo CO
      obtain ⟨N, eN⟩ : ∃ N, N = ordN xs m := ⟨_, rfl⟩
      rw [← eN] at CI CS HPI hsm hpo CO
      have hN0 : ¬ (N : Int) < 0 := by omega
      have hN1 : (N : Int) ≤ 1000 := by omega
      have R0' := Lib.hid R0
      clear ho R0 HD hv hm P hbd hob hvb hyb eys eN hbl
      go_wp2_with fail
      refine (CI.out w1 (Below.refl _ _)).mono ?_
      rintro e w2 ⟨rfl, hb2⟩
      go_wp2_with fail
      refine (CS.out w2 hb2).mono ?_
      rintro e w3 ⟨rfl, hb3⟩
      have hb13 := hb2.trans (hb3.mono hb2.size)
      clear hb2 hb3 CI CS
      go_wp2_with fail
      go_loopg [6, 7] N (fun gh v i wr => ∃ q : Nat, q ≤ N ∧ gh = N - q ∧ i = .int .i64 ((q + 1 : Nat) : Int) ∧ (∃ (A : Option Addr) (c : Nat), v = .slice A m c ∧ m ≤ c ∧ Reads wr wr.heap.size 1 A m ((pwL xs q).map (Value.int .i64))) ∧ Below w1.heap.size w1 wr)
      case atStart => exact ⟨0, Nat.zero_le _, rfl, rfl, ⟨_, c1, rfl, hc, (R0'.out.below hb13).more hb13.size⟩, hb13⟩
      case round =>
        obtain ⟨q, hq, hg, rfl, ⟨Aq, cq, rfl, hcq, hrq⟩, hbq⟩ := hrel
        have Hg := Lib.hid hg
        have Hrq := Lib.hid hrq
        clear hg hrq
        by_cases hlt : q < N
        · have hk1 : ((q + 1 : Nat) : Int) ≤ (N : Int) := by omega
          have hk2 : ((q + 1 : Nat) : Int) ≤ 1000 := by omega
          have hid := HPI.out q (by omega)
          obtain ⟨bq, ebq⟩ : ∃ b, b = decide (q + 1 = N) := ⟨_, rfl⟩
          have hke : (((q + 1 : Nat) : Int) == (N : Int)) = bq := by rw [ebq, Bool.eq_iff_iff, decide_eq_true_iff]; simp; omega
          rw [← ebq] at hid
          have Hid2 := Lib.hid hid
          have Hke := Lib.hid hke
          have HLq := Lib.hid (HPL.out q)
          have HPTq := Lib.hid (HPT.out q)
          have HCT := Lib.hid (fun W (hw : Below w1.heap.size w1 W) => CT.out W hw q)
          have HNX : Hid (thenL (pwL xs q) xs = pwL xs (q + 1)) := Lib.hid rfl
          obtain ⟨ts, ets⟩ : ∃ ts, ts = pwL xs q := ⟨_, rfl⟩
          rw [← ets] at Hrq Hid2 HLq HPTq HCT HNX
          clear hid ebq hke ets
          obtain ⟨K, eK⟩ : ∃ K : Int, K = ((q + 1 : Nat) : Int) := ⟨_, rfl⟩
          rw [← eK] at hk1 hk2 Hke ⊢
          have HK := Lib.hid eK
          clear eK
          go_wp2_with fail
          go_loopg [8, 9] m (fun gh s i wr2 => ∃ j : Nat, j ≤ m ∧ gh = m - j ∧ i = .int .i64 j ∧ s = .bool (idP ts j) ∧ wr = wr2)
          case atStart => exact ⟨0, Nat.zero_le _, rfl, rfl, rfl, rfl⟩
          case round =>
            obtain ⟨j, hj, hg2, rfl, rfl, rfl⟩ := hrel
            have Hg2 := Lib.hid hg2
            clear hg2
            by_cases hjm : j < m
            · have hjm' : (j : Int) < (m : Int) := by omega
              obtain ⟨b, o, rfl, hbB, hcell⟩ := Hrq.out.open1 HLq.out (by omega)
              have hc1 := hcell j hjm
              obtain ⟨z, ez⟩ : ∃ z, z = ts.getD j 0 := ⟨_, rfl⟩
              have hs : idP ts (j + 1) = (idP ts j && (ts.getD j 0 == (j : Int))) := rfl
              rw [← ez] at hc1 hs
              obtain ⟨p, ep⟩ : ∃ p, p = idP ts j := ⟨_, rfl⟩
              rw [← ep] at hs ⊢
              have Hs := Lib.hid hs
              clear hcell ez hs ep
              cases p with
              | false =>
                go_wp2_with fail
                go_roundg (m - (j + 1))
                case measure => have := Hg2.out; omega
                case rel => exact ⟨j + 1, by omega, rfl, by go_num, by rw [Hs.out]; rfl, rfl⟩
              | true =>
                go_wp2_with fail
                go_roundg (m - (j + 1))
                case measure => have := Hg2.out; omega
                case rel => exact ⟨j + 1, by omega, rfl, by go_num, by rw [Hs.out]; rfl, rfl⟩
            · have hjm' : ¬ (j : Int) < (m : Int) := by omega
              obtain rfl : j = m := by omega
              rw [Hid2.out]
              have hke := Hke.out
              have C7 := Lib.hid (HCT.out wr hbq Aq cq _ Hrq.out (Nat.le_refl _) HLq.out hcq)
              rw [HPTq.out, HNX.out] at C7
              have HLn := Lib.hid (HPL.out (q + 1))
              obtain ⟨us, eus⟩ : ∃ us, us = pwL xs (q + 1) := ⟨_, rfl⟩
              rw [← eus] at C7 HLn
              have HUS := Lib.hid eus
              have hKb : K + 1 ≤ 1001 := by omega
              have hK0 : 0 ≤ K := by have := HK.out; omega
              clear eus
              cases bq
              all_goals
                go_wp2_with fail
                refine C7.out.mono ?_
                rintro e w7 ⟨A7, c7, rfl, hc7, O7, hb7⟩
                rw [HLn.out] at hc7 ⊢
                have hb17 := hbq.trans (hb7.mono hbq.size)
                have S7 := Sl.of_own O7
                have R7 := Lib.hid (S7.reads (n := j) (size := 1) (by simp [HLn.out]) (by omega))
                clear O7 S7 hb7
                go_wp2_with fail
                go_roundg (N - (q + 1))
                case measure => have := Hg.out; omega
                case rel => exact ⟨q + 1, by omega, rfl, by rw [HK.out]; rfl, ⟨A7, c7, rfl, hc7, by rw [← HUS.out]; exact R7.out⟩, hb17⟩
        · have hk1 : ¬ ((q + 1 : Nat) : Int) ≤ (N : Int) := by omega
          obtain ⟨K, eK⟩ : ∃ K : Int, K = ((q + 1 : Nat) : Int) := ⟨_, rfl⟩
          rw [← eK] at hk1 ⊢
          have hNe : ((N : Int) == (N : Int)) = true := by simp
          clear eK
          have C8 := Lib.hid (CB.out wr hbq)
          go_wp2_with fail
          refine C8.out.mono ?_
          rintro e w8 ⟨A8, c8, rfl, hc8, O8, hb8⟩
          rw [HBL.out] at hc8 ⊢
          have hb18 := hbq.trans (hb8.mono hbq.size)
          have S8 := Sl.of_own O8
          have C9 := Lib.hid (CO.out w8 A8 c8 _ (S8.reads (n := m) (size := 1) (by simp [HBL.out]) (by omega)) S8.1 HBL.out hc8)
          clear O8 S8 hb8
          go_wp2_with fail
          refine C9.out.mono ?_
          rintro e w9 ⟨rfl, hb9⟩
          have hb19 := hb18.trans (hb9.mono hb18.size)
          go_wp2_with fail
          go_ret
          exact ⟨rfl, bnext hb hb19 (Nat.le_refl _)⟩
end Go.Proofs.Ytfpnjahdjppeaaa
