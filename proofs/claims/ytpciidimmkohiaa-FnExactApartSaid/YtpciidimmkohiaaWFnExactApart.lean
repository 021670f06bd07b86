/- Walk of the law FnExactApart: it returns true and writes nothing that was there. -/
import Derived.Test.YtpciidimmkohiaaApS
namespace Go.Proofs.Ytpciidimmkohiaa
open Go.RowKit
set_option linter.unusedVariables false
set_option linter.unusedSimpArgs false

set_option maxHeartbeats 4000000 in
set_option maxRecDepth 50000 in
theorem walk_FnExactApart (a0 : Int) (g1 : Gt) (g2 : Gt) (w : World) (hb900 : -9223372036854775808 ≤ a0 ∧ a0 ≤ 9223372036854775807) :
    Calls Try.prog 5 #[.int .i64 a0, g1.val, g2.val] w fun e w' => e = .returned (.bool true) ∧ Below w.heap.size w w' := by
  obtain ⟨R, eR⟩ : ∃ R, R = apartB a0 g1 g2 := ⟨_, rfl⟩
  have CS := fun W => specApart_any a0 g1 g2 W
  have CI := fun W => implApart_any a0 g1 g2 W
  rw [← eR] at CS CI
  have HS := Lib.hid CS
  have HI := Lib.hid CI
  clear CS CI eR
  obtain ⟨k1, a1, b1, c1⟩ := g1
  obtain ⟨k2, a2, b2, c2⟩ := g2
  unfold Gt.val at *
  dsimp only at *
  have HW : Hid (∀ w : World, ((w.alloc (.cells #[.int .i64 k1, .int .i64 a1, .int .i64 b1, .int .i64 c1] 28)).alloc (.cells #[.int .i64 k2, .int .i64 a2, .int .i64 b2, .int .i64 c2] 28)).heap.size = w.heap.size + 2) := Lib.hid (fun w => by simp)
  obtain ⟨W0, hW0⟩ : ∃ W0, W0 = (w.alloc (.cells #[.int .i64 k1, .int .i64 a1, .int .i64 b1, .int .i64 c1] 28)).alloc (.cells #[.int .i64 k2, .int .i64 a2, .int .i64 b2, .int .i64 c2] 28) := ⟨_, rfl⟩
  have hbW : Below w.heap.size w W0 := by rw [hW0]; exact ((Below.refl _ _).alloc (Nat.le_refl _) _).alloc (by simp) _
  have T4 : Two4 w W0 ⟨k1, a1, b1, c1⟩ ⟨k2, a2, b2, c2⟩ := by rw [hW0]; exact (two4_of (Below.refl _ _)).1
  have HW0 := Lib.hid hW0
  clear hW0
  go_enter Try.func5, Try.ntmps5
  go_wp2_with fail
  rw [← HW0.out]
  have T4h := Lib.hid T4
  obtain ⟨⟨x0, x1, x2, x3⟩, y0, y1, y2, y3⟩ := T4
  dsimp only at x0 x1 x2 x3 y0 y1 y2 y3
  refine wp_region_noPanic ?_
  refine wp_region_held_drew (S := fun W => (W.cell? ⟨w.heap.size, 0, none⟩ = some (.int .i64 k1) ∧ W.cell? ⟨w.heap.size, 1, none⟩ = some (.int .i64 a1) ∧ W.cell? ⟨w.heap.size, 2, none⟩ = some (.int .i64 b1) ∧ W.cell? ⟨w.heap.size, 3, none⟩ = some (.int .i64 c1)) ∧ (W.cell? ⟨w.heap.size + 1, 0, none⟩ = some (.int .i64 k2) ∧ W.cell? ⟨w.heap.size + 1, 1, none⟩ = some (.int .i64 a2) ∧ W.cell? ⟨w.heap.size + 1, 2, none⟩ = some (.int .i64 b2) ∧ W.cell? ⟨w.heap.size + 1, 3, none⟩ = some (.int .i64 c2))) (by kernel_rfl) (⟨⟨x0, x1, x2, x3⟩, y0, y1, y2, y3⟩) (fun hHeld => ?_)
  refine wpAnyH_take (i := 0) (oi := _) (v := ?_) rfl (by kernel_rfl) (by kernel_rfl) (by kernel_rfl) (fun _ _ _ h => h) (Or.inl ⟨by rfl, ?_⟩) (by assumption) ?_
  rotate_left
  · (intro w hSw; (try dsimp only at hSw); go_simp; try with_reducible rfl)
  (try simp only [List.getElem_toArray, List.getElem_cons_zero, List.getElem_cons_succ, Act.put, List.setIfInBounds_toArray, List.set_cons_zero, List.set_cons_succ])
  refine wpAnyH_take (i := 1) (oi := _) (v := ?_) rfl (by kernel_rfl) (by kernel_rfl) (by kernel_rfl) (fun _ _ _ h => h) (Or.inl ⟨by rfl, ?_⟩) (by assumption) ?_
  rotate_left
  · (intro w hSw; (try dsimp only at hSw); go_simp; try with_reducible rfl)
  (try simp only [List.getElem_toArray, List.getElem_cons_zero, List.getElem_cons_succ, Act.put, List.setIfInBounds_toArray, List.set_cons_zero, List.set_cons_succ])
  refine wpAnyH_take (i := 3) (oi := _) (v := ?_) rfl (by kernel_rfl) (by kernel_rfl) (by kernel_rfl) (fun _ _ _ h => h) (Or.inl ⟨by rfl, ?_⟩) (by assumption) ?_
  rotate_left
  · (intro w hSw; (try dsimp only at hSw); go_simp; try with_reducible rfl)
  (try simp only [List.getElem_toArray, List.getElem_cons_zero, List.getElem_cons_succ, Act.put, List.setIfInBounds_toArray, List.set_cons_zero, List.set_cons_succ])
  refine wpAnyH_ready (rs := [2]) (by kernel_rfl) (by simp) ?_
  refine AllReadyH.cons (o := _) rfl (fun K hK => ?_) AllReadyH.nil
  go_simp
  ((refine (toGate_any k1 a1 b1 c1 _).mono ?_; rintro e w1 ⟨rfl, hb1⟩))
  go_wp2_with fail
  refine hK.out _ _ ⟨⟨cell_next hb1 hHeld.1.1, cell_next hb1 hHeld.1.2.1, cell_next hb1 hHeld.1.2.2.1, cell_next hb1 hHeld.1.2.2.2⟩, cell_next hb1 hHeld.2.1, cell_next hb1 hHeld.2.2.1, cell_next hb1 hHeld.2.2.2.1, cell_next hb1 hHeld.2.2.2.2⟩ (fun hHeld => ?_)
  clear hK K
  (try simp only [List.getElem_toArray, List.getElem_cons_zero, List.getElem_cons_succ, Act.put, List.setIfInBounds_toArray, List.set_cons_zero, List.set_cons_succ])
  refine wpAnyH_ready (rs := [4]) (by kernel_rfl) (by simp) ?_
  refine AllReadyH.cons (o := _) rfl (fun K hK => ?_) AllReadyH.nil
  go_simp
  ((refine (toGate_any k2 a2 b2 c2 _).mono ?_; rintro e w2 ⟨rfl, hb2⟩))
  go_wp2_with fail
  refine hK.out _ _ ⟨⟨cell_next hb2 hHeld.1.1, cell_next hb2 hHeld.1.2.1, cell_next hb2 hHeld.1.2.2.1, cell_next hb2 hHeld.1.2.2.2⟩, cell_next hb2 hHeld.2.1, cell_next hb2 hHeld.2.2.1, cell_next hb2 hHeld.2.2.2.1, cell_next hb2 hHeld.2.2.2.2⟩ (fun hHeld => ?_)
  clear hK K
  (try simp only [List.getElem_toArray, List.getElem_cons_zero, List.getElem_cons_succ, Act.put, List.setIfInBounds_toArray, List.set_cons_zero, List.set_cons_succ])
  refine wpAnyH_ready (rs := [5]) (by kernel_rfl) (by simp) ?_
  refine AllReadyH.cons (o := _) rfl (fun K hK => ?_) AllReadyH.nil
  go_simp
  ((refine (HS.out _).mono ?_; rintro e w3 ⟨rfl, hb3⟩))
  go_wp2_with fail
  refine hK.out _ _ ⟨⟨cell_next hb3 hHeld.1.1, cell_next hb3 hHeld.1.2.1, cell_next hb3 hHeld.1.2.2.1, cell_next hb3 hHeld.1.2.2.2⟩, cell_next hb3 hHeld.2.1, cell_next hb3 hHeld.2.2.1, cell_next hb3 hHeld.2.2.2.1, cell_next hb3 hHeld.2.2.2.2⟩ (fun hHeld => ?_)
  clear hK K
  (try simp only [List.getElem_toArray, List.getElem_cons_zero, List.getElem_cons_succ, Act.put, List.setIfInBounds_toArray, List.set_cons_zero, List.set_cons_succ])
  refine wpAnyH_take (i := 6) (oi := _) (v := ?_) rfl (by kernel_rfl) (by kernel_rfl) (by kernel_rfl) (fun _ _ _ h => h) (Or.inl ⟨by rfl, ?_⟩) (by assumption) ?_
  rotate_left
  · (intro w hSw; (try dsimp only at hSw); go_simp; try with_reducible rfl)
  (try simp only [List.getElem_toArray, List.getElem_cons_zero, List.getElem_cons_succ, Act.put, List.setIfInBounds_toArray, List.set_cons_zero, List.set_cons_succ])
  refine wpAnyH_done (by kernel_rfl) ?_ _
  refine NoPanic.normal ?_
  have hbA : Below W0.heap.size W0 w3 := bnext (bnext ((Below.refl W0.heap.size W0).drew.trans hb1) hb2 (Nat.le_refl _)) hb3 (Nat.le_refl _)
  have hbB := bnext hbW hbA (Nat.le_refl _)
  obtain ⟨⟨x0, x1, x2, x3⟩, y0, y1, y2, y3⟩ := T4h.out.next hbA
  dsimp only at x0 x1 x2 x3 y0 y1 y2 y3
  clear hb1 hb2 hb3
  go_wp2_with fail
  refine wp_region_noPanic ?_
  refine wp_region_held_drew (S := fun W => (W.cell? ⟨w.heap.size, 0, none⟩ = some (.int .i64 k1) ∧ W.cell? ⟨w.heap.size, 1, none⟩ = some (.int .i64 a1) ∧ W.cell? ⟨w.heap.size, 2, none⟩ = some (.int .i64 b1) ∧ W.cell? ⟨w.heap.size, 3, none⟩ = some (.int .i64 c1)) ∧ (W.cell? ⟨w.heap.size + 1, 0, none⟩ = some (.int .i64 k2) ∧ W.cell? ⟨w.heap.size + 1, 1, none⟩ = some (.int .i64 a2) ∧ W.cell? ⟨w.heap.size + 1, 2, none⟩ = some (.int .i64 b2) ∧ W.cell? ⟨w.heap.size + 1, 3, none⟩ = some (.int .i64 c2))) (by kernel_rfl) (⟨⟨x0, x1, x2, x3⟩, y0, y1, y2, y3⟩) (fun hHeld => ?_)
  refine wpAnyH_take (i := 0) (oi := _) (v := ?_) rfl (by kernel_rfl) (by kernel_rfl) (by kernel_rfl) (fun _ _ _ h => h) (Or.inl ⟨by rfl, ?_⟩) (by assumption) ?_
  rotate_left
  · (intro w hSw; (try dsimp only at hSw); go_simp; try with_reducible rfl)
  (try simp only [List.getElem_toArray, List.getElem_cons_zero, List.getElem_cons_succ, Act.put, List.setIfInBounds_toArray, List.set_cons_zero, List.set_cons_succ])
  refine wpAnyH_take (i := 1) (oi := _) (v := ?_) rfl (by kernel_rfl) (by kernel_rfl) (by kernel_rfl) (fun _ _ _ h => h) (Or.inl ⟨by rfl, ?_⟩) (by assumption) ?_
  rotate_left
  · (intro w hSw; (try dsimp only at hSw); go_simp; try with_reducible rfl)
  (try simp only [List.getElem_toArray, List.getElem_cons_zero, List.getElem_cons_succ, Act.put, List.setIfInBounds_toArray, List.set_cons_zero, List.set_cons_succ])
  refine wpAnyH_take (i := 3) (oi := _) (v := ?_) rfl (by kernel_rfl) (by kernel_rfl) (by kernel_rfl) (fun _ _ _ h => h) (Or.inl ⟨by rfl, ?_⟩) (by assumption) ?_
  rotate_left
  · (intro w hSw; (try dsimp only at hSw); go_simp; try with_reducible rfl)
  (try simp only [List.getElem_toArray, List.getElem_cons_zero, List.getElem_cons_succ, Act.put, List.setIfInBounds_toArray, List.set_cons_zero, List.set_cons_succ])
  refine wpAnyH_ready (rs := [2]) (by kernel_rfl) (by simp) ?_
  refine AllReadyH.cons (o := _) rfl (fun K hK => ?_) AllReadyH.nil
  go_simp
  ((refine (toGate_any k1 a1 b1 c1 _).mono ?_; rintro e w4 ⟨rfl, hb1⟩))
  go_wp2_with fail
  refine hK.out _ _ ⟨⟨cell_next hb1 hHeld.1.1, cell_next hb1 hHeld.1.2.1, cell_next hb1 hHeld.1.2.2.1, cell_next hb1 hHeld.1.2.2.2⟩, cell_next hb1 hHeld.2.1, cell_next hb1 hHeld.2.2.1, cell_next hb1 hHeld.2.2.2.1, cell_next hb1 hHeld.2.2.2.2⟩ (fun hHeld => ?_)
  clear hK K
  (try simp only [List.getElem_toArray, List.getElem_cons_zero, List.getElem_cons_succ, Act.put, List.setIfInBounds_toArray, List.set_cons_zero, List.set_cons_succ])
  refine wpAnyH_ready (rs := [4]) (by kernel_rfl) (by simp) ?_
  refine AllReadyH.cons (o := _) rfl (fun K hK => ?_) AllReadyH.nil
  go_simp
  ((refine (toGate_any k2 a2 b2 c2 _).mono ?_; rintro e w5 ⟨rfl, hb2⟩))
  go_wp2_with fail
  refine hK.out _ _ ⟨⟨cell_next hb2 hHeld.1.1, cell_next hb2 hHeld.1.2.1, cell_next hb2 hHeld.1.2.2.1, cell_next hb2 hHeld.1.2.2.2⟩, cell_next hb2 hHeld.2.1, cell_next hb2 hHeld.2.2.1, cell_next hb2 hHeld.2.2.2.1, cell_next hb2 hHeld.2.2.2.2⟩ (fun hHeld => ?_)
  clear hK K
  (try simp only [List.getElem_toArray, List.getElem_cons_zero, List.getElem_cons_succ, Act.put, List.setIfInBounds_toArray, List.set_cons_zero, List.set_cons_succ])
  refine wpAnyH_ready (rs := [5]) (by kernel_rfl) (by simp) ?_
  refine AllReadyH.cons (o := _) rfl (fun K hK => ?_) AllReadyH.nil
  go_simp
  ((refine (HI.out _).mono ?_; rintro e w6 ⟨rfl, hb3⟩))
  go_wp2_with fail
  refine hK.out _ _ ⟨⟨cell_next hb3 hHeld.1.1, cell_next hb3 hHeld.1.2.1, cell_next hb3 hHeld.1.2.2.1, cell_next hb3 hHeld.1.2.2.2⟩, cell_next hb3 hHeld.2.1, cell_next hb3 hHeld.2.2.1, cell_next hb3 hHeld.2.2.2.1, cell_next hb3 hHeld.2.2.2.2⟩ (fun hHeld => ?_)
  clear hK K
  (try simp only [List.getElem_toArray, List.getElem_cons_zero, List.getElem_cons_succ, Act.put, List.setIfInBounds_toArray, List.set_cons_zero, List.set_cons_succ])
  refine wpAnyH_take (i := 6) (oi := _) (v := ?_) rfl (by kernel_rfl) (by kernel_rfl) (by kernel_rfl) (fun _ _ _ h => h) (Or.inl ⟨by rfl, ?_⟩) (by assumption) ?_
  rotate_left
  · (intro w hSw; (try dsimp only at hSw); go_simp; try with_reducible rfl)
  (try simp only [List.getElem_toArray, List.getElem_cons_zero, List.getElem_cons_succ, Act.put, List.setIfInBounds_toArray, List.set_cons_zero, List.set_cons_succ])
  refine wpAnyH_done (by kernel_rfl) ?_ _
  refine NoPanic.normal ?_
  have hbC : Below w3.heap.size w3 w6 := bnext (bnext ((Below.refl w3.heap.size w3).drew.trans hb1) hb2 (Nat.le_refl _)) hb3 (Nat.le_refl _)
  have ne0 : (R != R) = false := by simp
  go_wp2_with fail
  go_ret
  exact ⟨rfl, bnext hbB hbC (Nat.le_refl _)⟩
end Go.Proofs.Ytpciidimmkohiaa
