/- Walk of the law FnLinesOf. -/
import Derived.Test.YtjagnbnbibdbmaaDrawK
import Derived.Test.YtjagnbnbibdbmaaGateI
import Derived.Test.YtjagnbnbibdbmaaGateP
import Derived.Test.YtjagnbnbibdbmaaSame
import Derived.Test.YtjagnbnbibdbmaaSl
namespace Go.Proofs.Ytjagnbnbibdbmaa
open Go.RowKit
set_option linter.unusedVariables false

set_option maxHeartbeats 4000000 in
set_option maxRecDepth 50000 in
theorem walk_FnLinesOf (A : Option Addr) (n c : Nat) (zs : List Int) (w : World) (h : IntsIn .u8 w A n c zs) :
    Calls Try.prog 15 #[.slice A n c] w fun e w' => e = .returned (.bool true) ∧ Below w.heap.size w w' := by
  have hn1 : n ≤ 9223372036854775807 := by have := h.1; have := h.2.1; unfold maxLen at this; omega
  by_cases hn : 1048576 < n
  · clear h
    go_enter Try.func15, Try.ntmps15
    go_wp2_with fail
    go_ret
    exact ⟨rfl, Below.refl _ _⟩
  · have HD := Lib.hid (drawLinesOf_any A n c zs w h)
    clear h
    go_enter Try.func15, Try.ntmps15
    go_wp2_with fail
    refine HD.out.mono ?_
    rintro e w1 ⟨⟨⟨k, a, b, cc⟩, rfl⟩, hb⟩
    have CI := Lib.hid (fun W => implLinesOf_any ⟨k, a, b, cc⟩ W)
    have CS := Lib.hid (fun W => specLinesOf_any ⟨k, a, b, cc⟩ W)
    have hlen := linesOf_len ⟨k, a, b, cc⟩
    have hnone := Lib.hid (fun h => linesOf_none (g := ⟨k, a, b, cc⟩) h)
    have hfirst := Lib.hid (fun h => linesOf_first (g := ⟨k, a, b, cc⟩) h)
    obtain ⟨xs, exs⟩ : ∃ xs, xs = linesOf ⟨k, a, b, cc⟩ := ⟨_, rfl⟩
    rw [← exs] at CI CS hlen hnone hfirst
    clear exs
    obtain ⟨wg, hwg⟩ : ∃ wg, wg = w1.alloc (.cells #[.int .i64 k, .int .i64 a, .int .i64 b, .int .i64 cc] 37) := ⟨_, rfl⟩
    have hbg : Below w1.heap.size w1 wg := by rw [hwg]; exact (Below.refl _ _).alloc (Nat.le_refl _) _
    have hB : Blk wg w1.heap.size 37 #[.int .i64 k, .int .i64 a, .int .i64 b, .int .i64 cc] := by rw [hwg]; exact Blk.new _ _ _
    have HWG := Lib.hid hwg
    clear hwg
    have hbw := bnext hb hbg (Nat.le_refl _)
    clear HD hb hbg
    unfold Gt.val at *
    dsimp only at *
    go_wp2_with fail
    rw [← HWG.out]
    clear HWG
    refine (CI.out wg).mono ?_
    rintro e w2 ⟨A2, c2, rfl, hc2, O2, hb2⟩
    have S2 := Sl.of_own O2
    replace hB := hB.next hb2
    have q0 : w2.cell? ⟨w1.heap.size, 0, none⟩ = some (.int .i64 k) := hB.cell 0
    have q1 : w2.cell? ⟨w1.heap.size, 1, none⟩ = some (.int .i64 a) := hB.cell 1
    have q2 : w2.cell? ⟨w1.heap.size, 2, none⟩ = some (.int .i64 b) := hB.cell 2
    have q3 : w2.cell? ⟨w1.heap.size, 3, none⟩ = some (.int .i64 cc) := hB.cell 3
    clear O2
    go_wp2_with fail
    refine (CS.out w2).mono ?_
    rintro e w3 ⟨A3, c3, rfl, hc3, O3, hb3⟩
    replace S2 := S2.next hb3
    replace hB := hB.next hb3
    have S3 := Sl.of_own O3
    have hb03 := bnext (bnext hbw hb2 (Nat.le_refl _)) hb3 (Nat.le_refl _)
    clear O3 q0 q1 q2 q3
    go_wp2_with fail
    refine (sameInts_bel A2 A3 xs.length xs.length c2 c3 _ _ xs xs w3 (S2.reads (n := xs.length) (size := 1) (by simp) (by omega)) (S3.reads (n := xs.length) (size := 1) (by simp) (by omega)) rfl rfl (by omega)).mono ?_
    rintro e w4 ⟨rfl, hb4⟩
    rw [eqL_refl]
    replace S2 := S2.next hb4
    replace hB := hB.next hb4
    have hb04 := bnext hb03 hb4 (Nat.le_refl _)
    have q0 : w4.cell? ⟨w1.heap.size, 0, none⟩ = some (.int .i64 k) := hB.cell 0
    have q1 : w4.cell? ⟨w1.heap.size, 1, none⟩ = some (.int .i64 a) := hB.cell 1
    have R4 := S2.reads (n := xs.length) (size := 1) (by simp) (by omega)
    clear S2 S3 CI CS hb2 hb3 hb4 hbw hb03
    by_cases h0 : xs.length = 0
    · have hk := hnone.out (List.eq_nil_of_length_eq_zero h0)
      clear hnone hfirst R4
      rw [h0]
      rcases hk with hk | hk
      · go_wp2_with (go_at_call 22; refine (alive_any _).mono ?_; rintro e w' ⟨rfl, rfl⟩)
        go_ret
        exact ⟨rfl, hb04⟩
      · have hk' : ¬ k < 0 := by omega
        go_wp2_with (go_at_call 22; refine (alive_any _).mono ?_; rintro e w' ⟨rfl, rfl⟩)
        go_ret
        exact ⟨rfl, hb04⟩
    · obtain ⟨b2, o2, rfl, hbB, hcell⟩ := R4.open1 rfl (by omega)
      have hc0 := hcell 0 (by omega)
      rw [hfirst.out (fun e => h0 (by rw [e]; rfl)), Nat.add_zero] at hc0
      have h3 : (xs.length : Int) ≤ 3 := by omega
      have h1 : 1 ≤ xs.length := by omega
      clear hnone hfirst R4 hcell
      have h5 : 0 < xs.length := h1
      have h6 : xs.length ≤ 3 := by omega
      have h7 : (a == a) = true := beq_self_eq_true a
      go_upto_region 9 with fail
      go_region_with fail
      all_goals (go_wp2_with fail; go_ret; exact ⟨rfl, below_drewN hb04 1⟩)
end Go.Proofs.Ytjagnbnbibdbmaa
