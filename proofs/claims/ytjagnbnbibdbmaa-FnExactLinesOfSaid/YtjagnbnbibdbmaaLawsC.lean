/- Walk of the law FnExactLinesOf: it returns true and writes nothing that was there. -/
import Derived.Test.YtjagnbnbibdbmaaToGate
import Derived.Test.YtjagnbnbibdbmaaSome
import Derived.Test.YtjagnbnbibdbmaaInts
namespace Go.Proofs.Ytjagnbnbibdbmaa
open Go.RowKit

set_option maxHeartbeats 1000000 in
theorem walk_FnExactLinesOf (g : Gt) (w : World) :
    Calls Try.prog 10 #[g.val] w fun e w' => e = .returned (.bool true) ∧ Below w.heap.size w w' := by
  obtain ⟨k, a, b, c⟩ := g
  unfold Gt.val
  have hl := linesOf_len ⟨k, a, b, c⟩
  obtain ⟨zs, hzs⟩ : ∃ zs, zs = linesOf ⟨k, a, b, c⟩ := ⟨_, rfl⟩
  rw [← hzs] at hl
  have HZ := Lib.hid hzs
  clear hzs
  have he := eqL_refl zs
  have hW0 : ∀ o : Obj, Below (w.alloc o).heap.size (w.alloc o) (w.alloc o) := fun o => Below.refl _ _
  have HW := Lib.hid hW0
  have hWw : ∀ o : Obj, Below w.heap.size w (w.alloc o) := fun o => (Below.refl _ _).alloc (Nat.le_refl _) _
  have HWw := Lib.hid hWw
  clear hW0 hWw
  go_enter Try.func10, Try.ntmps10
  go_wp2_with fail
  refine (toGate_any k a b c _).mono ?_
  rintro e w1 ⟨rfl, h1⟩
  go_wp2_with fail
  refine (specLinesOf_any ⟨k, a, b, c⟩ _).mono ?_
  rintro e w2 ⟨A0, c0, rfl, hc0, ho0, h2⟩
  rw [← HZ.out] at ho0 ⊢
  have W2 := h1.trans (h2.mono h1.size)
  obtain ⟨q2, _⟩ := bcell W2
  go_wp2_with fail
  refine (toGate_any k a b c _).mono ?_
  rintro e w3 ⟨rfl, h3⟩
  clear q2
  go_wp2_with fail
  refine (implLinesOf_any ⟨k, a, b, c⟩ _).mono ?_
  rintro e w4 ⟨A1, c1, rfl, hc1, ho1, h4⟩
  rw [← HZ.out] at ho1 ⊢
  have W4 := (W2.trans (h3.mono W2.size)).trans (h4.mono (Nat.le_trans W2.size h3.size))
  have r0 := ((ho0.below (h3.trans (h4.mono h3.size)) (Nat.le_refl _)).reads (n := zs.length) (size := 1) (by simp) (by omega))
  have r0' := ((ho0.reads (n := zs.length) (size := 1) (by simp) (by omega)).below (h3.trans (h4.mono h3.size)))
  have r1 := (ho1.reads (n := zs.length) (size := 1) (by simp) (by omega))
  go_wp2_with fail
  refine (eqIntS_any A1 A0 zs.length zs.length c1 c0 _ _ zs zs _ r1 r0 rfl rfl (by omega)).mono ?_
  rintro e w5 ⟨rfl, d5, rfl⟩
  rw [he]
  have s13 : w2.heap.size ≤ w3.heap.size := h3.size
  have W5 := below_drewN W4 d5
  go_wp2_with fail
  refine (markIntS_any A1 c1 w3.heap.size zs 1 (w4.drewN d5) (ho1.drewN d5) (by omega) (by omega) (by omega)).mono ?_
  rintro e w6 ⟨rfl, ho6, h6⟩
  have s6 : w4.heap.size ≤ w6.heap.size := h6.size
  have s34 : w3.heap.size ≤ w4.heap.size := h4.size
  have W6 := W5.trans (h6.mono (Nat.le_trans W2.size s13))
  have r6 := r0'.below ((below_drewN (Below.refl _ _) d5).trans (h6.mono s13))
  obtain ⟨q6, _⟩ := bcell W6
  have ro6 := ho6.reads (n := zs.length) (size := 1) (by simp [marks_len]) (by omega)
  go_wp2_with fail
  refine (heldIntS_any A1 zs.length c1 _ 1 _ ro6 (by omega) (by omega) (by omega)).mono ?_
  rintro e w6' ⟨rfl, rfl⟩
  go_wp2_with fail
  refine (toGate_any k a b c _).mono ?_
  rintro e w7 ⟨rfl, h7⟩
  clear q6
  go_wp2_with fail
  refine (implLinesOf_any ⟨k, a, b, c⟩ _).mono ?_
  rintro e w8 ⟨A2, c2, rfl, hc2, ho2, h8⟩
  rw [← HZ.out] at ho2 ⊢
  have s7 : w6.heap.size ≤ w7.heap.size := h7.size
  have W8 := (W6.trans (h7.mono W6.size)).trans (h8.mono (Nat.le_trans W6.size s7))
  have r8 := r6.below ((h7.mono (by omega)).trans (h8.mono (by omega)))
  have r2 := (ho2.reads (n := zs.length) (size := 1) (by simp) (by omega))
  have ho8 := ho6.below (h7.trans (h8.mono s7)) (Nat.le_refl _)
  have ro8 := ho8.reads (n := zs.length) (size := 1) (by simp [marks_len]) (by omega)
  go_wp2_with fail
  refine (eqIntS_any A2 A0 zs.length zs.length c2 c0 _ _ zs zs _ r2 r8 rfl rfl (by omega)).mono ?_
  rintro e w9 ⟨rfl, d9, rfl⟩
  rw [he]
  go_wp2_with fail
  refine (heldIntS_any A1 zs.length c1 _ 1 (w8.drewN d9) (ro8.drewN d9) (by omega) (by omega) (by omega)).mono ?_
  rintro e w10 ⟨rfl, rfl⟩
  go_wp2_with fail
  go_ret
  exact ⟨rfl, (HWw.out _).trans ((below_drewN W8 d9).mono (by simp))⟩
end Go.Proofs.Ytjagnbnbibdbmaa
