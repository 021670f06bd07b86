/- Contract of spec.UselessPair. -/
import Derived.Test.YtpahhgehamgkaaaUseI
namespace Go.Proofs.Ytpahhgehamgkaaa
open Go.RowKit
set_option linter.unusedVariables false
set_option linter.unusedSimpArgs false

set_option maxHeartbeats 4000000 in
set_option maxRecDepth 50000 in
theorem specUselessPair_any (l : Int) (A : Option Addr) (n c B : Nat) (gs : List Gt) (w : World) (h : Reads w B 4 A n (gcells gs)) (hB : B ≤ w.heap.size) (hz : gs.length = n) (hc : n ≤ c) (hn : n ≤ 1048576) :
    Calls Try.prog 8 #[.int .i64 l, .slice A n c] w fun e w' => e = .returned (.tuple #[.int .i64 (useA (usL l gs)), .int .i64 (useB (usL l gs))]) ∧ Below w.heap.size w w' := by
  have HT := Lib.hid (fun W (hb : Below w.heap.size w W) => specCircuitValid_any l A n c B gs W (h.next hb hB) (Nat.le_trans hB hb.size) hz hc hn)
  cases hv : circB l gs with
  | false =>
    have Hr := Lib.hid (usL_no hv)
    rw [hv] at HT
    clear hv h hz
    by_cases h0 : n = 0
    · subst h0
      go_enter Try.func8, Try.ntmps8
      go_wp2_with fail
      refine wp_loop_rounds 1 ?_
      rw [rounds_succ]
      go_wp2_with fail
      go_ret2
      exact ⟨ret_pair Hr.out, Below.refl _ _⟩
    · have hn0 : (0 : Int) < (n : Int) := by omega
      go_enter Try.func8, Try.ntmps8
      go_wp2_with fail
      refine wp_loop_rounds 1 ?_
      rw [rounds_succ]
      go_wp2_with fail
      refine (HT.out _ (Below.refl _ _)).mono ?_
      rintro e w1 ⟨rfl, hb1⟩
      go_wp2_with fail
      go_ret2
      exact ⟨ret_pair Hr.out, hb1⟩
  | true =>
    have Hr := Lib.hid (usL_y hv)
    have HV := Lib.hid (fun k hk => circB_mem hv (k := k) hk)
    rw [hv] at HT
    have HR := Lib.hid h
    have HZ := Lib.hid hz
    rw [Hr.out]
    clear h hz hv
    go_enter Try.func8, Try.ntmps8
    go_wp2_with fail
    go_loopg [6] n (fun gh i wr => ∃ k : Nat, k ≤ n ∧ gh = n - k ∧ i = .int .i64 k ∧ NoU gs k ∧ Below w.heap.size w wr)
    case atStart => exact ⟨0, Nat.zero_le _, rfl, rfl, NoU.zero gs, Below.refl _ _⟩
    case round =>
      obtain ⟨k, hk, hg, rfl, hno, hb⟩ := hrel
      have Hg := Lib.hid hg
      have Hno := Lib.hid hno
      clear hg hno
      by_cases hlt : k < n
      · have hlt' : (k : Int) < (n : Int) := by omega
        obtain ⟨b, o, rfl, hbB, hcell⟩ := HR.out.openG HZ.out (by omega)
        have Hcell := Lib.hid hcell
        clear hcell
        go_wp2_with fail
        refine (HT.out _ hb).mono ?_
        rintro e w1 ⟨rfl, hb1⟩
        have hb01 := Lib.hid (bnext hb hb1 (Nat.le_refl _))
        have hsz1 := hb01.out.size
        go_wp2_with fail
        go_loopg [7] (n - (k + 1)) (fun gh i wr2 => ∃ m : Nat, k + 1 ≤ m ∧ m ≤ n ∧ gh = n - m ∧ i = .int .i64 m ∧ NoF gs k m ∧ Below w1.heap.size w1 wr2)
        case atStart => exact ⟨k + 1, Nat.le_refl _, by omega, rfl, by go_num, NoF.zero gs k, Below.refl _ _⟩
        case round =>
          obtain ⟨m, hkm, hm, hg2, rfl, hnf, hb2⟩ := hrel
          have Hg2 := Lib.hid hg2
          have Hnf := Lib.hid hnf
          have hsz2 := hb2.size
          have hb02 := Lib.hid (bnext hb01.out hb2 (Nat.le_refl _))
          clear hg2 hnf
          by_cases hlt2 : m < n
          · have hlt2' : (m : Int) < (n : Int) := by omega
            have hgat := (Hcell.out k hlt).below hb02.out (by omega)
            have hgat2 := (Hcell.out m hlt2).below hb02.out (by omega)
            have Hgm := Lib.hid (HV.out m (by have := HZ.out; omega))
            have hf0 := frN_zero gs k m
            obtain ⟨g, eg⟩ : ∃ g, g = gs.getD k g0 := ⟨_, rfl⟩
            obtain ⟨g2, eg2⟩ : ∃ g2, g2 = gs.getD m g0 := ⟨_, rfl⟩
            rw [← eg] at hgat hf0
            rw [← eg2] at hgat2 hf0 Hgm
            have Eg2 := Lib.hid eg2
            obtain ⟨x0, x1, x2, x3⟩ := g
            obtain ⟨y0, y1, y2, y3⟩ := g2
            have Hgat2 := Lib.hid hgat2
            obtain ⟨q0, q1, q2, q3⟩ := hgat
            obtain ⟨p0, p1, p2, p3⟩ := hgat2
            simp only at q0 q1 q2 q3 p0 p1 p2 p3
            have heql := gate_eql x0 x1 x2 x3 y0 y1 y2 y3
            rw [← hf0] at heql
            clear hf0 eg eg2
            have hbw : b < wr.heap.size := by omega
            go_wp2_with fail
            go_quiet (fail)
            clear heql q0 q1 q2 q3 p0 p1 p2 p3
            go_wp2_with fail
            go_loopg [8, 9] (m - (k + 1)) (fun gh v i wr3 => ∃ j : Nat, k + 1 ≤ j ∧ j ≤ m ∧ gh = m - j ∧ i = .int .i64 j ∧ v = .bool (frN gs k m (j - (k + 1))) ∧ Below wr.heap.size wr wr3)
            case atStart => exact ⟨k + 1, Nat.le_refl _, by omega, rfl, by go_num, by rw [Nat.sub_self], by first | exact Below.refl _ _ | exact below_drewN (Below.refl _ _) _⟩
            case round =>
              obtain ⟨j, hkj, hj, hg3, rfl, rfl, hb3⟩ := hrel
              have Hg3 := Lib.hid hg3
              have hb03 := Lib.hid (bnext hb2 hb3 (Nat.le_refl _))
              have hb003 := Lib.hid (bnext hb02.out hb3 (Nat.le_refl _))
              have hfs := frN_succ gs k m (j - (k + 1))
              rw [show j - (k + 1) + 1 = j + 1 - (k + 1) by omega, show k + 1 + (j - (k + 1)) = j by omega, ← Eg2.out] at hfs
              obtain ⟨f, ef⟩ : ∃ f, f = frN gs k m (j - (k + 1)) := ⟨_, rfl⟩
              rw [← ef] at hfs ⊢
              have Ef := Lib.hid ef
              clear hg3 ef
              by_cases hjm : j < m
              · have hjm' : (j : Int) < (m : Int) := by omega
                cases f with
                | false =>
                  have Hs := Lib.hid (Hnf.out.succ (m := m) (frN_le (m := j - (k + 1)) (m' := m - (k + 1)) (by omega) Ef.out.symm))
                  clear hfs
                  go_wp2_with fail
                  go_roundg (n - (m + 1))
                  case measure => have := Hg2.out; omega
                  case rel => exact ⟨m + 1, by omega, by omega, rfl, by go_num, Hs.out, hb03.out⟩
                | true =>
                  have hjn : (j : Int) < (n : Int) := by omega
                  have hgat3 := (Hcell.out j (by omega)).below hb003.out (by omega)
                  have hgat4 := Hgat2.out.below hb3 hbw
                  have hgj := HV.out j (by have := HZ.out; omega)
                  obtain ⟨g3, eg3⟩ : ∃ g3, g3 = gs.getD j g0 := ⟨_, rfl⟩
                  rw [← eg3] at hgat3 hgj hfs
                  have hap := apartB_y hgj Hgm.out
                  rw [Bool.true_and, ← hap] at hfs
                  have HA := Lib.hid (fun W => specApart_any l g3 ⟨y0, y1, y2, y3⟩ W)
                  obtain ⟨z0, z1, z2, z3⟩ := g3
                  obtain ⟨q0, q1, q2, q3⟩ := hgat3
                  obtain ⟨p0, p1, p2, p3⟩ := hgat4
                  simp only at q0 q1 q2 q3 p0 p1 p2 p3
                  have heql := gate_eql z0 z1 z2 z3 y0 y1 y2 y3
                  obtain ⟨s, es⟩ : ∃ s, s = sameG ⟨z0, z1, z2, z3⟩ ⟨y0, y1, y2, y3⟩ := ⟨_, rfl⟩
                  obtain ⟨p, ep⟩ : ∃ p, p = apartB l ⟨z0, z1, z2, z3⟩ ⟨y0, y1, y2, y3⟩ := ⟨_, rfl⟩
                  rw [← es] at heql hfs
                  rw [← ep] at HA hfs
                  unfold Gt.val at HA
                  dsimp only at HA
                  have Hfs := Lib.hid hfs
                  clear eg3 hgj hap es ep hfs
                  cases s with
                  | true =>
                    go_wp2_with fail
                    refine wp_region_noPanic ?_
                    refine wp_region_held_drew (S := fun W => (W.cell? ⟨b, o + j * 4, none⟩ = some (.int .i64 z0) ∧ W.cell? ⟨b, o + j * 4 + 1, none⟩ = some (.int .i64 z1) ∧ W.cell? ⟨b, o + j * 4 + 2, none⟩ = some (.int .i64 z2) ∧ W.cell? ⟨b, o + j * 4 + 3, none⟩ = some (.int .i64 z3)) ∧ W.cell? ⟨b, o + m * 4, none⟩ = some (.int .i64 y0) ∧ W.cell? ⟨b, o + m * 4 + 1, none⟩ = some (.int .i64 y1) ∧ W.cell? ⟨b, o + m * 4 + 2, none⟩ = some (.int .i64 y2) ∧ W.cell? ⟨b, o + m * 4 + 3, none⟩ = some (.int .i64 y3)) (by kernel_rfl) (⟨⟨q0, q1, q2, q3⟩, p0, p1, p2, p3⟩) (fun hHeld => ?_)
                    refine wpAnyH_take (i := 0) (oi := _) (v := ?_) rfl (by kernel_rfl) (by kernel_rfl) (by kernel_rfl) (fun _ _ _ h => h) (Or.inl ⟨by rfl, ?_⟩) (by assumption) ?_
                    rotate_left
                    · (intro w hSw; (try dsimp only at hSw); go_simp; try with_reducible rfl)
                    (try simp only [List.getElem_toArray, List.getElem_cons_zero, List.getElem_cons_succ, Act.put, List.setIfInBounds_toArray, List.set_cons_zero, List.set_cons_succ])
                    refine wpAnyH_take (i := 1) (oi := _) (v := ?_) rfl (by kernel_rfl) (by kernel_rfl) (by kernel_rfl) (fun _ _ _ h => h) (Or.inl ⟨by rfl, ?_⟩) (by assumption) ?_
                    rotate_left
                    · (intro w hSw; (try dsimp only at hSw); go_simp; try with_reducible rfl)
                    (try simp only [List.getElem_toArray, List.getElem_cons_zero, List.getElem_cons_succ, Act.put, List.setIfInBounds_toArray, List.set_cons_zero, List.set_cons_succ])
                    refine wpAnyH_take (i := 2) (oi := _) (v := ?_) rfl (by kernel_rfl) (by kernel_rfl) (by kernel_rfl) (fun _ _ _ h => h) (Or.inl ⟨by rfl, ?_⟩) (by assumption) ?_
                    rotate_left
                    · (intro w hSw; (try dsimp only at hSw); go_simp; try with_reducible rfl)
                    (try simp only [List.getElem_toArray, List.getElem_cons_zero, List.getElem_cons_succ, Act.put, List.setIfInBounds_toArray, List.set_cons_zero, List.set_cons_succ])
                    refine wpAnyH_take (i := 3) (oi := _) (v := ?_) rfl (by kernel_rfl) (by kernel_rfl) (by kernel_rfl) (fun _ _ _ h => h) (Or.inl ⟨by rfl, ?_⟩) (by assumption) ?_
                    rotate_left
                    · (intro w hSw; (try dsimp only at hSw); go_simp; try with_reducible rfl)
                    (try simp only [List.getElem_toArray, List.getElem_cons_zero, List.getElem_cons_succ, Act.put, List.setIfInBounds_toArray, List.set_cons_zero, List.set_cons_succ])
                    refine wpAnyH_take (i := 4) (oi := _) (v := ?_) rfl (by kernel_rfl) (by kernel_rfl) (by kernel_rfl) (fun _ _ _ h => h) (Or.inl ⟨by rfl, ?_⟩) (by assumption) ?_
                    rotate_left
                    · (intro w hSw; (try dsimp only at hSw); go_simp; try with_reducible rfl)
                    (try simp only [List.getElem_toArray, List.getElem_cons_zero, List.getElem_cons_succ, Act.put, List.setIfInBounds_toArray, List.set_cons_zero, List.set_cons_succ])
                    refine wpAnyH_take (i := 5) (oi := _) (v := ?_) rfl (by kernel_rfl) (by kernel_rfl) (by kernel_rfl) (fun _ _ _ h => h) (Or.inl ⟨by rfl, ?_⟩) (by assumption) ?_
                    rotate_left
                    · (intro w hSw; (try dsimp only at hSw); go_simp; try with_reducible rfl)
                    (try simp only [List.getElem_toArray, List.getElem_cons_zero, List.getElem_cons_succ, Act.put, List.setIfInBounds_toArray, List.set_cons_zero, List.set_cons_succ])
                    refine wpAnyH_take (i := 6) (oi := _) (v := ?_) rfl (by kernel_rfl) (by kernel_rfl) (by kernel_rfl) (fun _ _ _ h => h) (Or.inl ⟨by rfl, ?_⟩) (by assumption) ?_
                    rotate_left
                    · (intro w hSw; (try dsimp only at hSw); go_simp; try with_reducible rfl)
                    (try simp only [List.getElem_toArray, List.getElem_cons_zero, List.getElem_cons_succ, Act.put, List.setIfInBounds_toArray, List.set_cons_zero, List.set_cons_succ])
                    refine wpAnyH_take (i := 7) (oi := _) (v := ?_) rfl (by kernel_rfl) (by kernel_rfl) (by kernel_rfl) (fun _ _ _ h => h) (Or.inl ⟨by rfl, ?_⟩) (by assumption) ?_
                    rotate_left
                    · (intro w hSw; (try dsimp only at hSw); go_simp; try with_reducible rfl)
                    (try simp only [List.getElem_toArray, List.getElem_cons_zero, List.getElem_cons_succ, Act.put, List.setIfInBounds_toArray, List.set_cons_zero, List.set_cons_succ])
                    refine wpAnyH_take (i := 8) (oi := _) (v := ?_) rfl (by kernel_rfl) (by kernel_rfl) (by kernel_rfl) (fun _ _ _ h => h) (Or.inl ⟨by rfl, ?_⟩) (by assumption) ?_
                    rotate_left
                    · (intro w hSw; (try dsimp only at hSw); go_simp; try with_reducible rfl)
                    (try simp only [List.getElem_toArray, List.getElem_cons_zero, List.getElem_cons_succ, Act.put, List.setIfInBounds_toArray, List.set_cons_zero, List.set_cons_succ])
                    refine wpAnyH_take (i := 9) (oi := _) (v := ?_) rfl (by kernel_rfl) (by kernel_rfl) (by kernel_rfl) (fun _ _ _ h => h) (Or.inl ⟨by rfl, ?_⟩) (by assumption) ?_
                    rotate_left
                    · (intro w hSw; (try dsimp only at hSw); go_simp; try with_reducible rfl)
                    (try simp only [List.getElem_toArray, List.getElem_cons_zero, List.getElem_cons_succ, Act.put, List.setIfInBounds_toArray, List.set_cons_zero, List.set_cons_succ])
                    refine wpAnyH_take (i := 10) (oi := _) (v := undef) rfl (by kernel_rfl) (by kernel_rfl) (by kernel_rfl) (fun _ _ _ h => h) (Or.inr ⟨by rfl, rfl⟩) (by assumption) ?_
                    (try simp only [List.getElem_toArray, List.getElem_cons_zero, List.getElem_cons_succ, Act.put, List.setIfInBounds_toArray, List.set_cons_zero, List.set_cons_succ])
                    refine wpAnyH_take (i := 11) (oi := _) (v := undef) rfl (by kernel_rfl) (by kernel_rfl) (by kernel_rfl) (fun _ _ _ h => h) (Or.inr ⟨by rfl, rfl⟩) (by assumption) ?_
                    (try simp only [List.getElem_toArray, List.getElem_cons_zero, List.getElem_cons_succ, Act.put, List.setIfInBounds_toArray, List.set_cons_zero, List.set_cons_succ])
                    refine wpAnyH_take (i := 12) (oi := _) (v := undef) rfl (by kernel_rfl) (by kernel_rfl) (by kernel_rfl) (fun _ _ _ h => h) (Or.inr ⟨by rfl, rfl⟩) (by assumption) ?_
                    (try simp only [List.getElem_toArray, List.getElem_cons_zero, List.getElem_cons_succ, Act.put, List.setIfInBounds_toArray, List.set_cons_zero, List.set_cons_succ])
                    refine wpAnyH_take (i := 13) (oi := _) (v := undef) rfl (by kernel_rfl) (by kernel_rfl) (by kernel_rfl) (fun _ _ _ h => h) (Or.inr ⟨by rfl, rfl⟩) (by assumption) ?_
                    (try simp only [List.getElem_toArray, List.getElem_cons_zero, List.getElem_cons_succ, Act.put, List.setIfInBounds_toArray, List.set_cons_zero, List.set_cons_succ])
                    refine wpAnyH_take (i := 14) (oi := _) (v := undef) rfl (by kernel_rfl) (by kernel_rfl) (by kernel_rfl) (fun _ _ _ h => h) (Or.inr ⟨by rfl, rfl⟩) (by assumption) ?_
                    (try simp only [List.getElem_toArray, List.getElem_cons_zero, List.getElem_cons_succ, Act.put, List.setIfInBounds_toArray, List.set_cons_zero, List.set_cons_succ])
                    refine wpAnyH_take (i := 15) (oi := _) (v := undef) rfl (by kernel_rfl) (by kernel_rfl) (by kernel_rfl) (fun _ _ _ h => h) (Or.inr ⟨by rfl, rfl⟩) (by assumption) ?_
                    (try simp only [List.getElem_toArray, List.getElem_cons_zero, List.getElem_cons_succ, Act.put, List.setIfInBounds_toArray, List.set_cons_zero, List.set_cons_succ])
                    refine wpAnyH_take (i := 16) (oi := _) (v := undef) rfl (by kernel_rfl) (by kernel_rfl) (by kernel_rfl) (fun _ _ _ h => h) (Or.inr ⟨by rfl, rfl⟩) (by assumption) ?_
                    (try simp only [List.getElem_toArray, List.getElem_cons_zero, List.getElem_cons_succ, Act.put, List.setIfInBounds_toArray, List.set_cons_zero, List.set_cons_succ])
                    refine wpAnyH_take (i := 17) (oi := _) (v := undef) rfl (by kernel_rfl) (by kernel_rfl) (by kernel_rfl) (fun _ _ _ h => h) (Or.inr ⟨by rfl, rfl⟩) (by assumption) ?_
                    (try simp only [List.getElem_toArray, List.getElem_cons_zero, List.getElem_cons_succ, Act.put, List.setIfInBounds_toArray, List.set_cons_zero, List.set_cons_succ])
                    refine wpAnyH_take (i := 18) (oi := _) (v := undef) rfl (by kernel_rfl) (by kernel_rfl) (by kernel_rfl) (fun _ _ _ h => h) (Or.inr ⟨by rfl, rfl⟩) (by assumption) ?_
                    (try simp only [List.getElem_toArray, List.getElem_cons_zero, List.getElem_cons_succ, Act.put, List.setIfInBounds_toArray, List.set_cons_zero, List.set_cons_succ])
                    refine wpAnyH_take (i := 19) (oi := _) (v := undef) rfl (by kernel_rfl) (by kernel_rfl) (by kernel_rfl) (fun _ _ _ h => h) (Or.inr ⟨by rfl, rfl⟩) (by assumption) ?_
                    (try simp only [List.getElem_toArray, List.getElem_cons_zero, List.getElem_cons_succ, Act.put, List.setIfInBounds_toArray, List.set_cons_zero, List.set_cons_succ])
                    refine wpAnyH_take (i := 20) (oi := _) (v := ?_) rfl (by kernel_rfl) (by kernel_rfl) (by kernel_rfl) (fun _ _ _ h => h) (Or.inl ⟨by rfl, ?_⟩) (by assumption) ?_
                    rotate_left
                    · (intro w hSw; (try dsimp only at hSw); go_simp; try with_reducible rfl)
                    (try simp only [List.getElem_toArray, List.getElem_cons_zero, List.getElem_cons_succ, Act.put, List.setIfInBounds_toArray, List.set_cons_zero, List.set_cons_succ])
                    refine wpAnyH_take (i := 21) (oi := _) (v := ?_) rfl (by kernel_rfl) (by kernel_rfl) (by kernel_rfl) (fun _ _ _ h => h) (Or.inl ⟨by rfl, ?_⟩) (by assumption) ?_
                    rotate_left
                    · (intro w hSw; (try dsimp only at hSw); go_simp; try with_reducible rfl)
                    (try simp only [List.getElem_toArray, List.getElem_cons_zero, List.getElem_cons_succ, Act.put, List.setIfInBounds_toArray, List.set_cons_zero, List.set_cons_succ])
                    refine wpAnyH_done (by kernel_rfl) ?_ _
                    refine NoPanic.normal ?_
                    clear heql
                    go_wp2_with fail
                    go_roundg (m - (j + 1))
                    case measure => have := Hg3.out; omega
                    case rel => exact ⟨j + 1, by omega, by omega, rfl, by go_num, by rw [Hfs.out]; rfl, hb3.drew⟩
                  | false =>
                    go_wp2_with fail
                    refine wp_region_noPanic ?_
                    refine wp_region_held_drew (S := fun W => (W.cell? ⟨b, o + j * 4, none⟩ = some (.int .i64 z0) ∧ W.cell? ⟨b, o + j * 4 + 1, none⟩ = some (.int .i64 z1) ∧ W.cell? ⟨b, o + j * 4 + 2, none⟩ = some (.int .i64 z2) ∧ W.cell? ⟨b, o + j * 4 + 3, none⟩ = some (.int .i64 z3)) ∧ W.cell? ⟨b, o + m * 4, none⟩ = some (.int .i64 y0) ∧ W.cell? ⟨b, o + m * 4 + 1, none⟩ = some (.int .i64 y1) ∧ W.cell? ⟨b, o + m * 4 + 2, none⟩ = some (.int .i64 y2) ∧ W.cell? ⟨b, o + m * 4 + 3, none⟩ = some (.int .i64 y3)) (by kernel_rfl) (⟨⟨q0, q1, q2, q3⟩, p0, p1, p2, p3⟩) (fun hHeld => ?_)
                    refine wpAnyH_take (i := 0) (oi := _) (v := ?_) rfl (by kernel_rfl) (by kernel_rfl) (by kernel_rfl) (fun _ _ _ h => h) (Or.inl ⟨by rfl, ?_⟩) (by assumption) ?_
                    rotate_left
                    · (intro w hSw; (try dsimp only at hSw); go_simp; try with_reducible rfl)
                    (try simp only [List.getElem_toArray, List.getElem_cons_zero, List.getElem_cons_succ, Act.put, List.setIfInBounds_toArray, List.set_cons_zero, List.set_cons_succ])
                    refine wpAnyH_take (i := 1) (oi := _) (v := ?_) rfl (by kernel_rfl) (by kernel_rfl) (by kernel_rfl) (fun _ _ _ h => h) (Or.inl ⟨by rfl, ?_⟩) (by assumption) ?_
                    rotate_left
                    · (intro w hSw; (try dsimp only at hSw); go_simp; try with_reducible rfl)
                    (try simp only [List.getElem_toArray, List.getElem_cons_zero, List.getElem_cons_succ, Act.put, List.setIfInBounds_toArray, List.set_cons_zero, List.set_cons_succ])
                    refine wpAnyH_take (i := 2) (oi := _) (v := ?_) rfl (by kernel_rfl) (by kernel_rfl) (by kernel_rfl) (fun _ _ _ h => h) (Or.inl ⟨by rfl, ?_⟩) (by assumption) ?_
                    rotate_left
                    · (intro w hSw; (try dsimp only at hSw); go_simp; try with_reducible rfl)
                    (try simp only [List.getElem_toArray, List.getElem_cons_zero, List.getElem_cons_succ, Act.put, List.setIfInBounds_toArray, List.set_cons_zero, List.set_cons_succ])
                    refine wpAnyH_take (i := 3) (oi := _) (v := ?_) rfl (by kernel_rfl) (by kernel_rfl) (by kernel_rfl) (fun _ _ _ h => h) (Or.inl ⟨by rfl, ?_⟩) (by assumption) ?_
                    rotate_left
                    · (intro w hSw; (try dsimp only at hSw); go_simp; try with_reducible rfl)
                    (try simp only [List.getElem_toArray, List.getElem_cons_zero, List.getElem_cons_succ, Act.put, List.setIfInBounds_toArray, List.set_cons_zero, List.set_cons_succ])
                    refine wpAnyH_take (i := 4) (oi := _) (v := ?_) rfl (by kernel_rfl) (by kernel_rfl) (by kernel_rfl) (fun _ _ _ h => h) (Or.inl ⟨by rfl, ?_⟩) (by assumption) ?_
                    rotate_left
                    · (intro w hSw; (try dsimp only at hSw); go_simp; try with_reducible rfl)
                    (try simp only [List.getElem_toArray, List.getElem_cons_zero, List.getElem_cons_succ, Act.put, List.setIfInBounds_toArray, List.set_cons_zero, List.set_cons_succ])
                    refine wpAnyH_take (i := 5) (oi := _) (v := ?_) rfl (by kernel_rfl) (by kernel_rfl) (by kernel_rfl) (fun _ _ _ h => h) (Or.inl ⟨by rfl, ?_⟩) (by assumption) ?_
                    rotate_left
                    · (intro w hSw; (try dsimp only at hSw); go_simp; try with_reducible rfl)
                    (try simp only [List.getElem_toArray, List.getElem_cons_zero, List.getElem_cons_succ, Act.put, List.setIfInBounds_toArray, List.set_cons_zero, List.set_cons_succ])
                    refine wpAnyH_take (i := 6) (oi := _) (v := ?_) rfl (by kernel_rfl) (by kernel_rfl) (by kernel_rfl) (fun _ _ _ h => h) (Or.inl ⟨by rfl, ?_⟩) (by assumption) ?_
                    rotate_left
                    · (intro w hSw; (try dsimp only at hSw); go_simp; try with_reducible rfl)
                    (try simp only [List.getElem_toArray, List.getElem_cons_zero, List.getElem_cons_succ, Act.put, List.setIfInBounds_toArray, List.set_cons_zero, List.set_cons_succ])
                    refine wpAnyH_take (i := 7) (oi := _) (v := ?_) rfl (by kernel_rfl) (by kernel_rfl) (by kernel_rfl) (fun _ _ _ h => h) (Or.inl ⟨by rfl, ?_⟩) (by assumption) ?_
                    rotate_left
                    · (intro w hSw; (try dsimp only at hSw); go_simp; try with_reducible rfl)
                    (try simp only [List.getElem_toArray, List.getElem_cons_zero, List.getElem_cons_succ, Act.put, List.setIfInBounds_toArray, List.set_cons_zero, List.set_cons_succ])
                    refine wpAnyH_take (i := 8) (oi := _) (v := ?_) rfl (by kernel_rfl) (by kernel_rfl) (by kernel_rfl) (fun _ _ _ h => h) (Or.inl ⟨by rfl, ?_⟩) (by assumption) ?_
                    rotate_left
                    · (intro w hSw; (try dsimp only at hSw); go_simp; try with_reducible rfl)
                    (try simp only [List.getElem_toArray, List.getElem_cons_zero, List.getElem_cons_succ, Act.put, List.setIfInBounds_toArray, List.set_cons_zero, List.set_cons_succ])
                    refine wpAnyH_take (i := 9) (oi := _) (v := ?_) rfl (by kernel_rfl) (by kernel_rfl) (by kernel_rfl) (fun _ _ _ h => h) (Or.inl ⟨by rfl, ?_⟩) (by assumption) ?_
                    rotate_left
                    · (intro w hSw; (try dsimp only at hSw); go_simp; try with_reducible rfl)
                    (try simp only [List.getElem_toArray, List.getElem_cons_zero, List.getElem_cons_succ, Act.put, List.setIfInBounds_toArray, List.set_cons_zero, List.set_cons_succ])
                    refine wpAnyH_take (i := 10) (oi := _) (v := ?_) rfl (by kernel_rfl) (by kernel_rfl) (by kernel_rfl) (fun _ _ _ h => h) (Or.inl ⟨by rfl, ?_⟩) (by assumption) ?_
                    rotate_left
                    · (intro w hSw; (try dsimp only at hSw); go_simp; try with_reducible rfl)
                    (try simp only [List.getElem_toArray, List.getElem_cons_zero, List.getElem_cons_succ, Act.put, List.setIfInBounds_toArray, List.set_cons_zero, List.set_cons_succ])
                    refine wpAnyH_take (i := 11) (oi := _) (v := ?_) rfl (by kernel_rfl) (by kernel_rfl) (by kernel_rfl) (fun _ _ _ h => h) (Or.inl ⟨by rfl, ?_⟩) (by assumption) ?_
                    rotate_left
                    · (intro w hSw; (try dsimp only at hSw); go_simp; try with_reducible rfl)
                    (try simp only [List.getElem_toArray, List.getElem_cons_zero, List.getElem_cons_succ, Act.put, List.setIfInBounds_toArray, List.set_cons_zero, List.set_cons_succ])
                    refine wpAnyH_take (i := 12) (oi := _) (v := ?_) rfl (by kernel_rfl) (by kernel_rfl) (by kernel_rfl) (fun _ _ _ h => h) (Or.inl ⟨by rfl, ?_⟩) (by assumption) ?_
                    rotate_left
                    · (intro w hSw; (try dsimp only at hSw); go_simp; try with_reducible rfl)
                    (try simp only [List.getElem_toArray, List.getElem_cons_zero, List.getElem_cons_succ, Act.put, List.setIfInBounds_toArray, List.set_cons_zero, List.set_cons_succ])
                    refine wpAnyH_take (i := 13) (oi := _) (v := ?_) rfl (by kernel_rfl) (by kernel_rfl) (by kernel_rfl) (fun _ _ _ h => h) (Or.inl ⟨by rfl, ?_⟩) (by assumption) ?_
                    rotate_left
                    · (intro w hSw; (try dsimp only at hSw); go_simp; try with_reducible rfl)
                    (try simp only [List.getElem_toArray, List.getElem_cons_zero, List.getElem_cons_succ, Act.put, List.setIfInBounds_toArray, List.set_cons_zero, List.set_cons_succ])
                    refine wpAnyH_take (i := 14) (oi := _) (v := ?_) rfl (by kernel_rfl) (by kernel_rfl) (by kernel_rfl) (fun _ _ _ h => h) (Or.inl ⟨by rfl, ?_⟩) (by assumption) ?_
                    rotate_left
                    · (intro w hSw; (try dsimp only at hSw); go_simp; try with_reducible rfl)
                    (try simp only [List.getElem_toArray, List.getElem_cons_zero, List.getElem_cons_succ, Act.put, List.setIfInBounds_toArray, List.set_cons_zero, List.set_cons_succ])
                    refine wpAnyH_take (i := 15) (oi := _) (v := ?_) rfl (by kernel_rfl) (by kernel_rfl) (by kernel_rfl) (fun _ _ _ h => h) (Or.inl ⟨by rfl, ?_⟩) (by assumption) ?_
                    rotate_left
                    · (intro w hSw; (try dsimp only at hSw); go_simp; try with_reducible rfl)
                    (try simp only [List.getElem_toArray, List.getElem_cons_zero, List.getElem_cons_succ, Act.put, List.setIfInBounds_toArray, List.set_cons_zero, List.set_cons_succ])
                    refine wpAnyH_take (i := 16) (oi := _) (v := ?_) rfl (by kernel_rfl) (by kernel_rfl) (by kernel_rfl) (fun _ _ _ h => h) (Or.inl ⟨by rfl, ?_⟩) (by assumption) ?_
                    rotate_left
                    · (intro w hSw; (try dsimp only at hSw); go_simp; try with_reducible rfl)
                    (try simp only [List.getElem_toArray, List.getElem_cons_zero, List.getElem_cons_succ, Act.put, List.setIfInBounds_toArray, List.set_cons_zero, List.set_cons_succ])
                    refine wpAnyH_take (i := 17) (oi := _) (v := ?_) rfl (by kernel_rfl) (by kernel_rfl) (by kernel_rfl) (fun _ _ _ h => h) (Or.inl ⟨by rfl, ?_⟩) (by assumption) ?_
                    rotate_left
                    · (intro w hSw; (try dsimp only at hSw); go_simp; try with_reducible rfl)
                    (try simp only [List.getElem_toArray, List.getElem_cons_zero, List.getElem_cons_succ, Act.put, List.setIfInBounds_toArray, List.set_cons_zero, List.set_cons_succ])
                    refine wpAnyH_take (i := 18) (oi := _) (v := ?_) rfl (by kernel_rfl) (by kernel_rfl) (by kernel_rfl) (fun _ _ _ h => h) (Or.inl ⟨by rfl, ?_⟩) (by assumption) ?_
                    rotate_left
                    · (intro w hSw; (try dsimp only at hSw); go_simp; try with_reducible rfl)
                    (try simp only [List.getElem_toArray, List.getElem_cons_zero, List.getElem_cons_succ, Act.put, List.setIfInBounds_toArray, List.set_cons_zero, List.set_cons_succ])
                    refine wpAnyH_ready (rs := [19]) (by kernel_rfl) (by simp) ?_
                    refine AllReadyH.cons (o := _) rfl (fun K hK => ?_) AllReadyH.nil
                    go_simp
                    ((refine (HA.out _).mono ?_; rintro e w3 ⟨rfl, hb4⟩))
                    go_wp2_with fail
                    refine hK.out _ _ ⟨⟨cell_next hb4 hHeld.1.1, cell_next hb4 hHeld.1.2.1, cell_next hb4 hHeld.1.2.2.1, cell_next hb4 hHeld.1.2.2.2⟩, cell_next hb4 hHeld.2.1, cell_next hb4 hHeld.2.2.1, cell_next hb4 hHeld.2.2.2.1, cell_next hb4 hHeld.2.2.2.2⟩ (fun hHeld => ?_)
                    clear hK K
                    (try simp only [List.getElem_toArray, List.getElem_cons_zero, List.getElem_cons_succ, Act.put, List.setIfInBounds_toArray, List.set_cons_zero, List.set_cons_succ])
                    refine wpAnyH_take (i := 20) (oi := _) (v := ?_) rfl (by kernel_rfl) (by kernel_rfl) (by kernel_rfl) (fun _ _ _ h => h) (Or.inl ⟨by rfl, ?_⟩) (by assumption) ?_
                    rotate_left
                    · (intro w hSw; (try dsimp only at hSw); go_simp; try with_reducible rfl)
                    (try simp only [List.getElem_toArray, List.getElem_cons_zero, List.getElem_cons_succ, Act.put, List.setIfInBounds_toArray, List.set_cons_zero, List.set_cons_succ])
                    refine wpAnyH_take (i := 21) (oi := _) (v := ?_) rfl (by kernel_rfl) (by kernel_rfl) (by kernel_rfl) (fun _ _ _ h => h) (Or.inl ⟨by rfl, ?_⟩) (by assumption) ?_
                    rotate_left
                    · (intro w hSw; (try dsimp only at hSw); go_simp; try with_reducible rfl)
                    (try simp only [List.getElem_toArray, List.getElem_cons_zero, List.getElem_cons_succ, Act.put, List.setIfInBounds_toArray, List.set_cons_zero, List.set_cons_succ])
                    refine wpAnyH_done (by kernel_rfl) ?_ _
                    refine NoPanic.normal ?_
                    clear heql
                    go_wp2_with fail
                    go_roundg (m - (j + 1))
                    case measure => have := Hg3.out; omega
                    case rel => exact ⟨j + 1, by omega, by omega, rfl, by go_num, by rw [Hfs.out]; rfl, hb3.drew.trans (hb4.mono hb3.size)⟩
              · have hjm' : ¬ (j : Int) < (m : Int) := by omega
                obtain rfl : j = m := by omega
                cases f with
                | false =>
                  have Hs := Lib.hid (Hnf.out.succ Ef.out.symm)
                  clear hfs
                  go_wp2_with fail
                  go_roundg (n - (j + 1))
                  case measure => have := Hg2.out; omega
                  case rel => exact ⟨j + 1, by omega, by omega, rfl, by go_num, Hs.out, hb03.out⟩
                | true =>
                  have Hv := Lib.hid (useP_val (.inr ⟨k, j, rfl, rfl, by omega, by have := HZ.out; omega, Ef.out.symm, Hno.out, Hnf.out⟩))
                  clear hfs
                  go_wp2_with fail
                  go_ret2
                  exact ⟨ret_pair Hv.out, hb003.out⟩
          · have hlt2' : ¬ (m : Int) < (n : Int) := by omega
            obtain rfl : m = n := by omega
            have Hs := Lib.hid (Hno.out.succ (by rw [HZ.out]; exact Hnf.out))
            go_wp2_with fail
            go_roundg (m - (k + 1))
            case measure => have := Hg.out; omega
            case rel => exact ⟨k + 1, by omega, rfl, by go_num, Hs.out, hb02.out⟩
      · have hlt' : ¬ (k : Int) < (n : Int) := by omega
        obtain rfl : k = n := by omega
        have Hv := Lib.hid (useP_val (.inl ⟨rfl, rfl, by rw [HZ.out]; exact Hno.out⟩))
        go_wp2_with fail
        go_ret2
        exact ⟨ret_pair Hv.out, hb⟩
end Go.Proofs.Ytpahhgehamgkaaa
