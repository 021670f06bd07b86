/- Contracts of DrawLinesOf and DrawGateValid. -/
import Derived.Test.YtjagnbnbibdbmaaDrawG
import Derived.Test.YtjagnbnbibdbmaaDraws4
import Derived.Test.YtjagnbnbibdbmaaNature
namespace Go.Proofs.Ytjagnbnbibdbmaa
open Go.RowKit
set_option linter.unusedVariables false

theorem IntsIn.alloc {k : IntKind} {w : World} {A : Option Addr} {n c : Nat} {zs : List Int} (h : IntsIn k w A n c zs) (o : Obj) : IntsIn k (w.alloc o) A n c zs := by
  obtain ⟨hnc, hcm, hz, hwf, hr⟩ := h
  exact ⟨hnc, hcm, hz, hwf, (hr.below ((Below.refl _ _).alloc (Nat.le_refl _) o)).more (by simp)⟩
theorem results_tmp_cell_ok {fn : Func} {p u : Tmp} {ty : TypeId} {tmps : Array Value} {P : Program} {w : World} {a : Addr} {v : Value} (h : fn.results = #[.tmp u, .cell p ty]) (ha : tmps.getD p undef = .pointer (some a))
    (hv : (loadVar ty a).run P w = .ok v w) : (results fn tmps).run P w = .ok (.tuple #[tmps.getD u undef, v]) w := by
  have h1 : (results fn tmps).run P w = ((asAddr (tmps.getD p undef)).run P w).andThen fun a w₁ => ((loadVar ty a).run P w₁).andThen fun v w₂ => .ok (.tuple #[tmps.getD u undef, v]) w₂ := by
    simp only [results, h]
    simp [Sem.run_bind, Result.andThen]
  rw [h1, ha]
  show Result.andThen ((loadVar ty a).run P w) _ = _
  rw [hv]
  rfl
/-- the four cells of the result are set -/
theorem res_set {w wb w3 : World} {t : TypeId} (hw : wb = w.alloc (.cells #[.int .i64 0, .int .i64 0, .int .i64 0, .int .i64 0] t)) (hb : Below wb.heap.size wb w3) (k a b c : Int) :
    ∃ wE, wE = ((((w3.setCell ⟨w.heap.size, 0, none⟩ (.int .i64 k)).setCell ⟨w.heap.size, 1, none⟩ (.int .i64 a)).setCell ⟨w.heap.size, 2, none⟩ (.int .i64 b)).setCell ⟨w.heap.size, 3, none⟩ (.int .i64 c)) ∧
      Blk wE w.heap.size t #[.int .i64 k, .int .i64 a, .int .i64 b, .int .i64 c] ∧ Below w.heap.size w wE := by
  refine ⟨_, rfl, ?_, ?_⟩
  · have h0 := (Blk.new w t #[.int .i64 0, .int .i64 0, .int .i64 0, .int .i64 0])
    rw [← hw] at h0
    have h1 := h0.below hb h0.lt
    exact (((h1.set_ 0 _).set_ 1 _).set_ 2 _).set_ 3 _
  · have hs : w.heap.size ≤ wb.heap.size := by rw [hw]; simp
    have h1 : Below w.heap.size w wb := by rw [hw]; exact (Below.refl _ _).alloc (Nat.le_refl _) _
    have h2 := h1.trans (hb.mono hs)
    exact below_of_only h2 (only_setCell (p := ⟨w.heap.size, 3, none⟩) (only_setCell (p := ⟨w.heap.size, 2, none⟩) (only_setCell (p := ⟨w.heap.size, 1, none⟩) (only_setCell (p := ⟨w.heap.size, 0, none⟩) (World.grownBy.refl _ _) (Or.inl rfl) _) (Or.inl rfl) _) (Or.inl rfl) _) (Or.inl rfl) _) (Nat.le_refl _) h2.size
theorem res_blk {w wb w3 : World} {t : TypeId} (hw : wb = w.alloc (.cells #[.int .i64 0, .int .i64 0, .int .i64 0, .int .i64 0] t)) (hb : Below wb.heap.size wb w3) :
    Blk w3 w.heap.size t #[.int .i64 0, .int .i64 0, .int .i64 0, .int .i64 0] := by
  have h0 := (Blk.new w t #[.int .i64 0, .int .i64 0, .int .i64 0, .int .i64 0])
  rw [← hw] at h0
  exact h0.below hb h0.lt

set_option maxHeartbeats 2000000 in
theorem drawLinesOf_any (A : Option Addr) (n c : Nat) (zs : List Int) (w : World) (h : IntsIn .u8 w A n c zs) :
    Calls Try.prog 40 #[.slice A n c] w fun e w' => (∃ g : Gt, e = .returned g.val) ∧ Below w.heap.size w w' := by
  obtain ⟨wb, hwb⟩ : ∃ wb, wb = w.alloc (.cells #[.int .i64 0, .int .i64 0, .int .i64 0, .int .i64 0] 37) := ⟨_, rfl⟩
  have hI : IntsIn .u8 wb A n c zs := by rw [hwb]; exact h.alloc _
  have HWB := Lib.hid hwb
  clear hwb h
  go_enter Try.func40, Try.ntmps40
  go_wp2_with fail
  rw [← HWB.out]
  refine (l20Open_any A n c zs wb hI).mono ?_
  rintro e w1 ⟨r, rfl, hr, hd, hb⟩
  have hd' : Rd w1 r 0 := ⟨0, Nat.le_refl _, hd⟩
  go_wp2_with fail
  refine (pick_rd 8 r 0 w1 hd' (by omega) (by omega)).mono ?_
  rintro e w2 ⟨z, rfl, ⟨z0, z1, _⟩, hr2, hg2⟩
  have hb2 := below_of_only hb hg2 hr hb.size
  go_wp2_with fail
  refine (l20Gate_rd (1 + z) 3 r 1 w2 hr2 (by omega) (by omega) (by omega) (by omega)).mono ?_
  rintro e w3 ⟨⟨k, a, b, cc⟩, rfl, hr3, hg3⟩
  have hb3 := below_of_only hb2 hg3 hr hb2.size
  unfold Gt.val
  dsimp only
  have B0 := res_blk HWB.out hb3
  have x0 : w3.cell? ⟨w.heap.size, 0, none⟩ = some (.int .i64 0) := B0.cell 0
  have x1 : w3.cell? ⟨w.heap.size, 1, none⟩ = some (.int .i64 0) := B0.cell 1
  have x2 : w3.cell? ⟨w.heap.size, 2, none⟩ = some (.int .i64 0) := B0.cell 2
  have x3 : w3.cell? ⟨w.heap.size, 3, none⟩ = some (.int .i64 0) := B0.cell 3
  have y0 := B0.frozen 0
  have y1 := B0.frozen 1
  have y2 := B0.frozen 2
  have y3 := B0.frozen 3
  obtain ⟨wE, hwE, hBE, hbE⟩ := res_set HWB.out hb3 k a b cc
  have HE := Lib.hid hwE
  clear hwE
  go_wp2_with fail
  rw [← HE.out]
  exact bodyPost_ret (v := .agg #[.int .i64 k, .int .i64 a, .int .i64 b, .int .i64 cc]) (results_cell_ok Try.results40 rfl (load_blk hBE Try.underlying37 rfl (gate_size rfl))) rfl ⟨⟨⟨k, a, b, cc⟩, rfl⟩, hbE⟩
set_option maxHeartbeats 2000000 in
theorem drawGateValid_any (A : Option Addr) (n c : Nat) (zs : List Int) (w : World) (h : IntsIn .u8 w A n c zs) :
    Calls Try.prog 42 #[.slice A n c] w fun e w' => (∃ (l : Int) (g : Gt), e = .returned (.tuple #[.int .i64 l, g.val]) ∧ -1 ≤ l ∧ l ≤ 9) ∧ Below w.heap.size w w' := by
  obtain ⟨wb, hwb⟩ : ∃ wb, wb = w.alloc (.cells #[.int .i64 0, .int .i64 0, .int .i64 0, .int .i64 0] 37) := ⟨_, rfl⟩
  have hI : IntsIn .u8 wb A n c zs := by rw [hwb]; exact h.alloc _
  have HWB := Lib.hid hwb
  clear hwb h
  go_enter Try.func42, Try.ntmps42
  go_wp2_with fail
  rw [← HWB.out]
  refine (l20Open_any A n c zs wb hI).mono ?_
  rintro e w1 ⟨r, rfl, hr, hd, hb⟩
  have hd' : Rd w1 r 0 := ⟨0, Nat.le_refl _, hd⟩
  go_wp2_with fail
  refine (l20Lines_rd 9 r 0 w1 hd' (by omega) (by omega)).mono ?_
  rintro e w2 ⟨l, rfl, ⟨l0, l1⟩, hr2, hg2⟩
  have hb2 := below_of_only hb hg2 hr hb.size
  go_wp2_with fail
  refine (pick_rd 9 r 2 w2 hr2 (by omega) (by omega)).mono ?_
  rintro e w3 ⟨z, rfl, ⟨z0, z1, _⟩, hr3, hg3⟩
  have hb3 := below_of_only hb2 hg3 hr hb2.size
  have hq : 0 ≤ z / 8 ∧ z / 8 ≤ 1 := by omega
  obtain ⟨M1, M2, hM1, hM2, hM3, hM8⟩ : ∃ M1 M2 : Int, (if l + z / 8 < 1 then (1 : Int) else l + z / 8) = M1 ∧ (if 8 < M1 then (8 : Int) else M1) = M2 ∧ 1 ≤ M2 ∧ M2 ≤ 8 := by
    refine ⟨_, _, rfl, rfl, ?_, ?_⟩ <;> (split <;> split <;> omega)
  go_wp2_with fail
  refine (l20Gate_rd M2 3 r 3 w3 hr3 (by omega) (by omega) hM3 hM8).mono ?_
  rintro e w4 ⟨⟨k, a, b, cc⟩, rfl, hr4, hg4⟩
  have hb4 := below_of_only hb3 hg4 hr hb3.size
  unfold Gt.val
  dsimp only
  have B0 := res_blk HWB.out hb4
  have x0 : w4.cell? ⟨w.heap.size, 0, none⟩ = some (.int .i64 0) := B0.cell 0
  have x1 : w4.cell? ⟨w.heap.size, 1, none⟩ = some (.int .i64 0) := B0.cell 1
  have x2 : w4.cell? ⟨w.heap.size, 2, none⟩ = some (.int .i64 0) := B0.cell 2
  have x3 : w4.cell? ⟨w.heap.size, 3, none⟩ = some (.int .i64 0) := B0.cell 3
  have y0 := B0.frozen 0
  have y1 := B0.frozen 1
  have y2 := B0.frozen 2
  have y3 := B0.frozen 3
  obtain ⟨wE, hwE, hBE, hbE⟩ := res_set HWB.out hb4 k a b cc
  have HE := Lib.hid hwE
  clear hwE
  go_wp2_with fail
  rw [← HE.out]
  exact bodyPost_ret (v := .tuple #[.int .i64 l, .agg #[.int .i64 k, .int .i64 a, .int .i64 b, .int .i64 cc]]) (results_tmp_cell_ok Try.results42 rfl (load_blk hBE Try.underlying37 rfl (gate_size rfl))) rfl ⟨⟨l, ⟨k, a, b, cc⟩, rfl, l0, l1⟩, hbE⟩
end Go.Proofs.Ytjagnbnbibdbmaa
