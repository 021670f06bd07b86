/- Walk of the law FnGateValid. -/
import Derived.Test.YtjagnbnbibdbmaaDrawK
import Derived.Test.YtjagnbnbibdbmaaGateI
import Derived.Test.YtjagnbnbibdbmaaGateP
namespace Go.Proofs.Ytjagnbnbibdbmaa
open Go.RowKit
set_option linter.unusedVariables false

set_option maxHeartbeats 4000000 in
set_option maxRecDepth 50000 in
theorem walk_FnGateValid (A : Option Addr) (n c : Nat) (zs : List Int) (w : World) (h : IntsIn .u8 w A n c zs) :
    Calls Try.prog 16 #[.slice A n c] w fun e w' => e = .returned (.bool true) ∧ Below w.heap.size w w' := by
  have hn1 : n ≤ 9223372036854775807 := by have := h.1; have := h.2.1; unfold maxLen at this; omega
  by_cases hn : 1048576 < n
  · clear h
    go_enter Try.func16, Try.ntmps16
    go_wp2_with fail
    go_ret
    exact ⟨rfl, Below.refl _ _⟩
  · have HD := Lib.hid (drawGateValid_any A n c zs w h)
    clear h
    go_enter Try.func16, Try.ntmps16
    go_wp2_with fail
    refine HD.out.mono ?_
    rintro e w1 ⟨⟨l, ⟨k, a, b, cc⟩, rfl, l0, l1⟩, hb⟩
    have CI := Lib.hid (fun W => implGateValid_any l ⟨k, a, b, cc⟩ W)
    have CS := Lib.hid (fun W => specGateValid_any l ⟨k, a, b, cc⟩ W)
    obtain ⟨wg, hwg⟩ : ∃ wg, wg = w1.alloc (.cells #[.int .i64 k, .int .i64 a, .int .i64 b, .int .i64 cc] 37) := ⟨_, rfl⟩
    have hbg : Below w1.heap.size w1 wg := by rw [hwg]; exact (Below.refl _ _).alloc (Nat.le_refl _) _
    have hB : Blk wg w1.heap.size 37 #[.int .i64 k, .int .i64 a, .int .i64 b, .int .i64 cc] := by rw [hwg]; exact Blk.new _ _ _
    have HWG := Lib.hid hwg
    clear hwg
    have hbw := bnext hb hbg (Nat.le_refl _)
    clear HD hb hbg
    unfold Gt.val at *
    dsimp only at *
    go_wp2_with fail
    rw [← HWG.out]
    clear HWG
    refine (CI.out wg).mono ?_
    rintro e w2 ⟨rfl, hb2⟩
    replace hB := hB.next hb2
    have q0 : w2.cell? ⟨w1.heap.size, 0, none⟩ = some (.int .i64 k) := hB.cell 0
    have q1 : w2.cell? ⟨w1.heap.size, 1, none⟩ = some (.int .i64 a) := hB.cell 1
    have q2 : w2.cell? ⟨w1.heap.size, 2, none⟩ = some (.int .i64 b) := hB.cell 2
    have q3 : w2.cell? ⟨w1.heap.size, 3, none⟩ = some (.int .i64 cc) := hB.cell 3
    go_wp2_with fail
    refine (CS.out w2).mono ?_
    rintro e w3 ⟨rfl, hb3⟩
    replace hB := hB.next hb3
    have hb03 := bnext (bnext hbw hb2 (Nat.le_refl _)) hb3 (Nat.le_refl _)
    clear q0 q1 q2 q3
    have q0 : w3.cell? ⟨w1.heap.size, 0, none⟩ = some (.int .i64 k) := hB.cell 0
    have q1 : w3.cell? ⟨w1.heap.size, 1, none⟩ = some (.int .i64 a) := hB.cell 1
    have q2 : w3.cell? ⟨w1.heap.size, 2, none⟩ = some (.int .i64 b) := hB.cell 2
    have q3 : w3.cell? ⟨w1.heap.size, 3, none⟩ = some (.int .i64 cc) := hB.cell 3
    have hbt : Below w3.heap.size w3 (w3.alloc (.cells #[.int .i64 1, .int .i64 a, .int .i64 a, .int .i64 0] 37)) := (Below.refl _ _).alloc (Nat.le_refl _) _
    have hT : Blk (w3.alloc (.cells #[.int .i64 1, .int .i64 a, .int .i64 a, .int .i64 0] 37)) w3.heap.size 37 #[.int .i64 1, .int .i64 a, .int .i64 a, .int .i64 0] := Blk.new _ _ _
    replace hB := hB.next hbt
    have u0 : (w3.alloc (.cells #[.int .i64 1, .int .i64 a, .int .i64 a, .int .i64 0] 37)).cell? ⟨w1.heap.size, 0, none⟩ = some (.int .i64 k) := hB.cell 0
    have u1 : (w3.alloc (.cells #[.int .i64 1, .int .i64 a, .int .i64 a, .int .i64 0] 37)).cell? ⟨w1.heap.size, 1, none⟩ = some (.int .i64 a) := hB.cell 1
    have u2 : (w3.alloc (.cells #[.int .i64 1, .int .i64 a, .int .i64 a, .int .i64 0] 37)).cell? ⟨w1.heap.size, 2, none⟩ = some (.int .i64 b) := hB.cell 2
    have u3 : (w3.alloc (.cells #[.int .i64 1, .int .i64 a, .int .i64 a, .int .i64 0] 37)).cell? ⟨w1.heap.size, 3, none⟩ = some (.int .i64 cc) := hB.cell 3
    have t0 : (w3.alloc (.cells #[.int .i64 1, .int .i64 a, .int .i64 a, .int .i64 0] 37)).cell? ⟨w3.heap.size, 0, none⟩ = some (.int .i64 1) := hT.cell 0
    have t1 : (w3.alloc (.cells #[.int .i64 1, .int .i64 a, .int .i64 a, .int .i64 0] 37)).cell? ⟨w3.heap.size, 1, none⟩ = some (.int .i64 a) := hT.cell 1
    have t2 : (w3.alloc (.cells #[.int .i64 1, .int .i64 a, .int .i64 a, .int .i64 0] 37)).cell? ⟨w3.heap.size, 2, none⟩ = some (.int .i64 a) := hT.cell 2
    have t3 : (w3.alloc (.cells #[.int .i64 1, .int .i64 a, .int .i64 a, .int .i64 0] 37)).cell? ⟨w3.heap.size, 3, none⟩ = some (.int .i64 0) := hT.cell 3
    have hb0t := bnext hb03 hbt (Nat.le_refl _)
    have CT := Lib.hid (fun W => implGateValid_any l ⟨1, a, a, 0⟩ W)
    rw [gateB_twice] at CT
    unfold Gt.val at CT
    dsimp only at CT
    clear CI CS hb2 hb3 hbw hb03 hbt
    cases hv : gateB l ⟨k, a, b, cc⟩ with
    | false =>
      go_wp2_with fail
      refine (CT.out _).mono ?_
      rintro e w4 ⟨rfl, hb4⟩
      have hb04 := bnext hb0t hb4 (Nat.le_refl _)
      go_wp2_with (go_at_call 22; refine (alive_any _).mono ?_; rintro e w' ⟨rfl, rfl⟩)
      go_ret
      exact ⟨rfl, hb04⟩
    | true =>
      by_cases hl : l = 8
      · subst hl
        go_wp2_with fail
        refine (CT.out _).mono ?_
        rintro e w4 ⟨rfl, hb4⟩
        have hb04 := bnext hb0t hb4 (Nat.le_refl _)
        go_wp2_with (go_at_call 22; refine (alive_any _).mono ?_; rintro e w' ⟨rfl, rfl⟩)
        go_ret
        exact ⟨rfl, hb04⟩
      · have CM := Lib.hid (fun W => implGateValid_any (l + 1) ⟨k, a, b, cc⟩ W)
        rw [gateB_more hv hl] at CM
        unfold Gt.val at CM
        dsimp only at CM
        have hl' : (l == 8) = false := by simp [hl]
        clear hv
        go_wp2_with fail
        refine (CM.out _).mono ?_
        rintro e w4 ⟨rfl, hb4⟩
        have hb04 := bnext hb0t hb4 (Nat.le_refl _)
        have hT4 := hT.next hb4
        clear u0 u1 u2 u3 t0 t1 t2 t3
        have t0 : w4.cell? ⟨w3.heap.size, 0, none⟩ = some (.int .i64 1) := hT4.cell 0
        have t1 : w4.cell? ⟨w3.heap.size, 1, none⟩ = some (.int .i64 a) := hT4.cell 1
        have t2 : w4.cell? ⟨w3.heap.size, 2, none⟩ = some (.int .i64 a) := hT4.cell 2
        have t3 : w4.cell? ⟨w3.heap.size, 3, none⟩ = some (.int .i64 0) := hT4.cell 3
        go_wp2_with fail
        refine (CT.out _).mono ?_
        rintro e w5 ⟨rfl, hb5⟩
        have hb05 := bnext hb04 hb5 (Nat.le_refl _)
        go_wp2_with (go_at_call 22; refine (alive_any _).mono ?_; rintro e w' ⟨rfl, rfl⟩)
        go_ret
        exact ⟨rfl, hb05⟩
end Go.Proofs.Ytjagnbnbibdbmaa
