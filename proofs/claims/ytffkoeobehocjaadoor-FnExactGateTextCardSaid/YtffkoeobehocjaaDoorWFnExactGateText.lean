/- Walk of the law FnExactGateText: it returns true and writes nothing that was there. -/
import Derived.Test.YtffkoeobehocjaaDoorTxtI
import Derived.Test.YtffkoeobehocjaaDoorToGate
namespace Go.Proofs.YtffkoeobehocjaaDoor
open Go.RowKit
set_option linter.unusedVariables false
set_option linter.unusedSimpArgs false

set_option maxHeartbeats 4000000 in
set_option maxRecDepth 50000 in
theorem walk_FnExactGateText (g : Gt) (w : World) :
    Calls Tryd.prog 7 #[g.val] w fun e w' => e = .returned (.bool true) ∧ Below w.heap.size w w' := by
  have H1 := Lib.hid (fun W => specGateText_any g W)
  have H2 := Lib.hid (fun W => implGateText_any g W)
  obtain ⟨ts, et⟩ : ∃ ts, ts = gateTx g := ⟨_, rfl⟩
  rw [← et] at H1 H2
  clear et
  obtain ⟨k, x, y, z⟩ := g
  have HG := Lib.hid (fun W => toGate_any k x y z W)
  unfold Gt.val at *
  dsimp only at *
  go_enter Tryd.func7, Tryd.ntmps7
  go_wp2_with fail
  refine (HG.out _).mono ?_
  rintro e w1 ⟨rfl, hb1⟩
  obtain ⟨bx, W1⟩ := box1 hb1
  clear hb1
  go_wp2_with fail
  refine (H1.out _).mono ?_
  rintro e w2 ⟨rfl, hb2⟩
  have W2 := bnext W1 hb2 (Nat.le_refl _)
  replace bx := bx.next hb2
  have q0 : w2.cell? ⟨w.heap.size, 0, none⟩ = some (.int .i64 k) := bx.cell 0
  have q1 : w2.cell? ⟨w.heap.size, 1, none⟩ = some (.int .i64 x) := bx.cell 1
  have q2 : w2.cell? ⟨w.heap.size, 2, none⟩ = some (.int .i64 y) := bx.cell 2
  have q3 : w2.cell? ⟨w.heap.size, 3, none⟩ = some (.int .i64 z) := bx.cell 3
  clear hb2 W1
  go_wp2_with fail
  refine (HG.out _).mono ?_
  rintro e w3 ⟨rfl, hb3⟩
  have W3 := bnext W2 hb3 (Nat.le_refl _)
  clear hb3 W2 q0 q1 q2 q3 bx
  go_wp2_with fail
  refine (H2.out _).mono ?_
  rintro e w4 ⟨rfl, hb4⟩
  have W4 := bnext W3 hb4 (Nat.le_refl _)
  clear hb4 W3
  go_wp2_with fail
  go_ret
  exact ⟨rfl, W4⟩
end Go.Proofs.YtffkoeobehocjaaDoor
