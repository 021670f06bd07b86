/- What spec.DrawGateText draws: a gate. -/
import Derived.Test.YtffkoeobehocjaaDoorDrawK
namespace Go.Proofs.YtffkoeobehocjaaDoor
open Go.RowKit
set_option linter.unusedVariables false

set_option maxHeartbeats 2000000 in
theorem drawGateText_any (A : Option Addr) (n c : Nat) (zs : List Int) (w : World) (h : IntsIn .u8 w A n c zs) :
    Calls Tryd.prog 30 #[.slice A n c] w fun e w' => (∃ g : Gt, e = .returned g.val) ∧ Below w.heap.size w w' := by
  obtain ⟨wb, hwb⟩ : ∃ wb, wb = w.alloc (.cells #[.int .i64 0, .int .i64 0, .int .i64 0, .int .i64 0] 40) := ⟨_, rfl⟩
  have hI : IntsIn .u8 wb A n c zs := by rw [hwb]; exact h.alloc _
  have HWB := Lib.hid hwb
  clear hwb h
  go_enter Tryd.func30, Tryd.ntmps30
  go_wp2_with fail
  rw [← HWB.out]
  refine (l20Open_any A n c zs wb hI).mono ?_
  rintro e w1 ⟨r, rfl, hr, hd, hb⟩
  have hd' : Rd w1 r 0 := ⟨0, Nat.le_refl _, hd⟩
  go_wp2_with fail
  refine (pick_rd 8 r 0 w1 hd' (by omega) (by omega)).mono ?_
  rintro e w2 ⟨z, rfl, ⟨z0, z1, _⟩, hr2, hg2⟩
  have hb2 := below_of_only hb hg2 hr hb.size
  go_wp2_with fail
  refine (l20Gate_rd (1 + z) 5 r 1 w2 hr2 (by omega) (by omega) (by omega) (by omega)).mono ?_
  rintro e w3 ⟨⟨k, a, b, cc⟩, rfl, hr3, hg3⟩
  have hb3 := below_of_only hb2 hg3 hr hb2.size
  unfold Gt.val
  dsimp only
  have B0 := res_blk HWB.out hb3
  have x0 : w3.cell? ⟨w.heap.size, 0, none⟩ = some (.int .i64 0) := B0.cell 0
  have x1 : w3.cell? ⟨w.heap.size, 1, none⟩ = some (.int .i64 0) := B0.cell 1
  have x2 : w3.cell? ⟨w.heap.size, 2, none⟩ = some (.int .i64 0) := B0.cell 2
  have x3 : w3.cell? ⟨w.heap.size, 3, none⟩ = some (.int .i64 0) := B0.cell 3
  have y0 := B0.frozen 0
  have y1 := B0.frozen 1
  have y2 := B0.frozen 2
  have y3 := B0.frozen 3
  obtain ⟨wE, hwE, hBE, hbE⟩ := res_set HWB.out hb3 k a b cc
  have HE := Lib.hid hwE
  clear hwE
  go_wp2_with fail
  rw [← HE.out]
  exact bodyPost_ret (v := .agg #[.int .i64 k, .int .i64 a, .int .i64 b, .int .i64 cc]) (results_cell_ok Tryd.results30 rfl (load_blk hBE Tryd.underlying40 rfl (gate_size rfl))) rfl ⟨⟨⟨k, a, b, cc⟩, rfl⟩, hbE⟩
end Go.Proofs.YtffkoeobehocjaaDoor
