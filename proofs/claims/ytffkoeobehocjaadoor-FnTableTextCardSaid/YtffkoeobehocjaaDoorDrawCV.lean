/- Contract of l20Circuit where one in none is not valid: a valid circuit is drawn. -/
import Derived.Test.YtffkoeobehocjaaDoorDrawC
import Derived.Test.YtffkoeobehocjaaDoorDrawGV
namespace Go.Proofs.YtffkoeobehocjaaDoor
open Go.RowKit
set_option linter.unusedVariables false
set_option linter.unusedSimpArgs false

/-- some valid gates were drawn -/
def DrawnCV (l : Int) (m : Nat) (r p : Nat) (w : World) (e : Ending) (w' : World) : Prop := ∃ (gs : List Gt) (A : Option Addr) (c : Nat), e = .returned (.slice A gs.length c) ∧ (gs.length ≤ m ∧ gs.all (gateB l) = true) ∧ gs.length ≤ c ∧ Own w' w.heap.size A (gcells gs) ∧ Rd w' r p ∧ w.grownBy w' (some r)
theorem drawnCV_of {l : Int} {m : Nat} {w w1 : World} {r p t n : Nat} {v : Value} {gs : List Gt} {e : Ending} (ho : w1.ownsRow w.heap.size t 4 v n (gcells gs)) (hl : n ≤ m) (hg : gs.all (gateB l) = true) (hr : Rd w1 r p) (hf : From w.heap.size r w w1) (he : e = .returned v) : DrawnCV l m r p w e w1 := by
  have h1 := ho.1
  have hn : n = gs.length := by rw [gcells_len] at h1; omega
  subst hn
  obtain ⟨A, c, rfl, hc⟩ := own_shape ho
  exact ⟨gs, A, c, he, ⟨hl, hg⟩, hc, (owns_own ho).1, hr, hf.grown⟩
theorem all_add {l : Int} {gs : List Gt} {g : Gt} (h : gs.all (gateB l) = true) (hg : gateB l g = true) : (gs ++ [g]).all (gateB l) = true := by
  rw [List.all_append, h]
  simp [hg]
theorem all_getD {l : Int} {gs : List Gt} (h : gs.all (gateB l) = true) {j : Nat} (hj : j < gs.length) : gateB l (gs.getD j g0) = true := by
  rw [List.all_eq_true] at h
  rw [List.getD_eq_getElem?_getD, List.getElem?_eq_getElem hj]
  exact h _ (List.getElem_mem hj)

set_option maxHeartbeats 8000000 in
set_option maxRecDepth 50000 in
theorem l20CircuitV_rd (l most : Int) (mx : Nat) (r p : Nat) (w : World) (h : Rd w r p) (hp : p ≤ 998000) (hl : 1 ≤ l ∧ l ≤ 8) (hm : 0 ≤ most ∧ most ≤ 16) (hmx : most = mx) :
    Calls Tryd.prog 63 #[.pointer (some ⟨r, 0, none⟩), .int .i64 l, .int .i64 most, .int .i64 0] w fun e w' => DrawnCV l mx r (p + 500) w e w' := by
  have hM1 : (if l < 1 then (1 : Int) else l) = l := if_neg (by omega)
  have hM2 : (if 8 < l then (8 : Int) else l) = l := if_neg (by omega)
  obtain ⟨ig, gi, gz0, gz1, gz2⟩ := info_parts infoGate
  have hrl := h.lt
  have HMX := Lib.hid hmx
  clear hmx
  have HO1 := Lib.hid (World.ownsRow_made (base := w.heap.size) (e := 40) (size := 4) w #[] 0 (Nat.le_refl _) (by simp [maxLen]) rfl)
  have CK := Lib.hid (pick_rd (most + 1) r p (w.alloc (.cells #[] 40)) (h.alloc _) (by omega) (by omega))
  go_enter Tryd.func63, Tryd.ntmps63
  go_wp2_with fail
  refine CK.out.mono ?_
  rintro e w1 ⟨K', rfl, ⟨K0, K1, _⟩, hr1, hg1⟩
  obtain ⟨K, rfl⟩ := Int.eq_ofNat_of_zero_le K0
  have hK : K ≤ 16 := by omega
  have hKm : K ≤ mx := by have := HMX.out; omega
  have hf1 := ((From.refl w.heap.size r w).alloc (Nat.le_refl _) (.cells #[] 40)).only hg1 (by simp) (fun q e => .inr (Option.some.inj e).symm)
  have own1 := Lib.hid (HO1.out.kept hg1 (.inr (by simp [Value.ownBlock]; omega)))
  have H1 := Lib.hid hr1
  have HF1 := Lib.hid hf1
  clear CK hr1 hf1 hg1 K0 K1 HO1
  go_wp2_with fail
  go_loopg [9, 10] K (fun gh s j wr => ∃ k : Nat, k ≤ K ∧ gh = K - k ∧ j = .int .i64 (K - k : Nat) ∧ (∃ gs : List Gt, (gs.length = k ∧ gs.all (gateB l) = true) ∧ wr.ownsRow w.heap.size 40 4 s k (gcells gs)) ∧ Rd wr r (p + 1 + 22 * k) ∧ From w.heap.size r w wr)
  case atStart => exact ⟨0, Nat.zero_le _, rfl, rfl, ⟨[], ⟨rfl, rfl⟩, own1.out⟩, H1.out, HF1.out⟩
  case round =>
    obtain ⟨k, hk, hg, rfl, ⟨gs, ⟨hgs, hall⟩, hown⟩, hrd, hfr⟩ := hrel
    have HAll := Lib.hid hall
    clear hall
    have Hg := Lib.hid hg
    obtain ⟨A5, c5, rfl, hc5⟩ := own_shape hown
    have Hown := Lib.hid hown
    clear hg hown
    by_cases hlt : k < K
    · have hlt' : (0 : Int) < ((K - k : Nat) : Int) := by omega
      have hsz := hfr.2.2.2.1
      have C1 := Lib.hid (l20GateV_rd l r (p + 1 + 22 * k) wr hrd (by omega) hl.1 hl.2)
      go_wp2_with fail
      refine C1.out.mono ?_
      rintro e w2 ⟨⟨x0, x1, x2, x3⟩, rfl, hgv, hr2, hg2⟩
      have HX := Lib.hid (all_add HAll.out hgv)
      clear hgv
      have hf2 := hfr.only hg2 hsz (fun g e => .inr (Option.some.inj e).symm)
      have own2 := Hown.out.kept hg2 (by rcases A5 with _ | a <;> simp [Value.ownBlock]; intro e; have := Hown.out.lt a.block rfl; omega)
      have hs2 := hg2.size
      have hrw2 := hr2.lt
      unfold Gt.val
      dsimp only
      clear C1 hfr hg2 hrd
      have ownB := own2.alloc (.cells #[.int .i64 x0, .int .i64 x1, .int .i64 x2, .int .i64 x3] 40)
      have hrB := hr2.alloc (.cells #[.int .i64 x0, .int .i64 x1, .int .i64 x2, .int .i64 x3] 40)
      have hfB := hf2.alloc (by omega) (.cells #[.int .i64 x0, .int .i64 x1, .int .i64 x2, .int .i64 x3] 40)
      have hbB := Blk.new w2 40 #[.int .i64 x0, .int .i64 x1, .int .i64 x2, .int .i64 x3]
      obtain ⟨wB, hwB⟩ : ∃ wB, wB = w2.alloc (.cells #[.int .i64 x0, .int .i64 x1, .int .i64 x2, .int .i64 x3] 40) := ⟨_, rfl⟩
      have hsB : w2.heap.size < wB.heap.size := by rw [hwB]; simp
      rw [← hwB] at ownB hrB hfB hbB
      have HWB := Lib.hid hwB
      clear hwB
      by_cases hk0 : k = 0
      · subst hk0
        have q0 : wB.cell? ⟨w2.heap.size, 0, none⟩ = some (.int .i64 x0) := hbB.cell 0
        have q1 : wB.cell? ⟨w2.heap.size, 1, none⟩ = some (.int .i64 x1) := hbB.cell 1
        have q2 : wB.cell? ⟨w2.heap.size, 2, none⟩ = some (.int .i64 x2) := hbB.cell 2
        have q3 : wB.cell? ⟨w2.heap.size, 3, none⟩ = some (.int .i64 x3) := hbB.cell 3
        go_upto_region 6 with fail
        rw [← HWB.out]
        have hszB : w.heap.size ≤ wB.heap.size := by omega
        have ownL := ownB.alloc (.cells #[.int .i64 x0, .int .i64 x1, .int .i64 x2, .int .i64 x3] 40)
        have hlw := ownL.lt
        have hsW := hszB
        go_wp2_with (at_builtin; refine wpList_append_own _ rfl _ _ 90 rfl w.heap.size 40 ig (.agg #[.int .i64 0, .int .i64 0, .int .i64 0, .int .i64 0]) 4 32 Tryd.underlying90 gi gz0 gz1 gz2 rfl (by decide) _ _ _ rfl (ownL) ⟨wB.heap.size, 0, none⟩ 1 1 [.int .i64 x0, .int .i64 x1, .int .i64 x2, .int .i64 x3] rfl rfl (cells_newAt _ _ _ (by first | rfl | simp | simp [World.setCell])) (by simp [Value.oneCell']) (by unfold maxLen; omega) (by omega) (by simp; omega) ?_; intro v' wZ hown' hgrow _)
        have frZ := (hfB.alloc hsW (.cells #[.int .i64 x0, .int .i64 x1, .int .i64 x2, .int .i64 x3] 40)).only hgrow (by simp; omega) (fun q e => .inl (hlw q e).1)
        have rdZ := (hrB.alloc (.cells #[.int .i64 x0, .int .i64 x1, .int .i64 x2, .int .i64 x3] 40)).onlyO hgrow (fun q e => by have := (hlw q e).1; omega)
        have ownZ : wZ.ownsRow w.heap.size 40 4 v' (0 + 1) (gcells (gs ++ [⟨x0, x1, x2, x3⟩])) := by rw [gcells_app, gcells_one]; exact hown'
        clear hown' hgrow hlw
        go_wp2_with fail
        go_roundg (K - (0 + 1))
        case measure => have := Hg.out; omega
        case rel => exact ⟨0 + 1, by omega, rfl, by go_num, ⟨_, ⟨by simp [hgs], HX.out⟩, ownZ⟩, rdZ.mono (by omega), frZ⟩
      · have hk0' : (0 : Int) < (k : Int) := by omega
        have C2 := Lib.hid (pick_rd 4 r (p + 1 + 22 * k + 20) wB hrB (by omega) (by omega))
        go_upto_region 6 with fail
        rw [← HWB.out]
        go_wp2_with fail
        refine C2.out.mono ?_
        rintro e w3 ⟨z, rfl, ⟨z0, z1, _⟩, hr3, hg3⟩
        have hf3 := hfB.only hg3 (by omega) (fun g e => .inr (Option.some.inj e).symm)
        have own3 := ownB.kept hg3 (by rcases A5 with _ | a <;> simp [Value.ownBlock]; intro e; have := Hown.out.lt a.block rfl; omega)
        have hb3 := hbB.grown hg3 (fun e => by have := Option.some.inj e; omega)
        have hs3 := hg3.size
        have q0 : w3.cell? ⟨w2.heap.size, 0, none⟩ = some (.int .i64 x0) := hb3.cell 0
        have q1 : w3.cell? ⟨w2.heap.size, 1, none⟩ = some (.int .i64 x1) := hb3.cell 1
        have q2 : w3.cell? ⟨w2.heap.size, 2, none⟩ = some (.int .i64 x2) := hb3.cell 2
        have q3 : w3.cell? ⟨w2.heap.size, 3, none⟩ = some (.int .i64 x3) := hb3.cell 3
        have hsz3 : w.heap.size ≤ w3.heap.size := by omega
        clear C2 hg3
        by_cases hz : z = 0
        · subst hz
          obtain ⟨gb, cap, eA, hgB, hgw, hkc, hcm⟩ := own_pos own3 (by omega)
          injection eA with eA1 eA2 eA3
          subst eA1
          subst eA3
          have C3 := Lib.hid (pick_rd (k : Int) r (p + 1 + 22 * k + 20 + 1) w3 hr3 (by omega) (by omega))
          go_wp2_with fail
          refine C3.out.mono ?_
          rintro e w4 ⟨j', rfl, ⟨j0, j1, _⟩, hr4, hg4⟩
          obtain ⟨j, rfl⟩ := Int.eq_ofNat_of_zero_le j0
          have hjk : j < k := by omega
          have hjk' : (j : Int) < (k : Int) := by omega
          have hf4 := hf3.only hg4 hsz3 (fun g e => .inr (Option.some.inj e).symm)
          have own4 := own3.kept hg4 (.inr (by simp [Value.ownBlock]; omega))
          have hb4 := hb3.grown hg4 (fun e => by have := Option.some.inj e; omega)
          have hs4 := hg4.size
          obtain ⟨y, ey⟩ : ∃ y, y = gs.getD j g0 := ⟨_, rfl⟩
          have hat := ownG_cells own4 (j := j) (by omega)
          have HY := Lib.hid (all_add HAll.out (all_getD HAll.out (j := j) (by omega)))
          rw [← ey] at hat HY
          obtain ⟨y0, y1, y2, y3⟩ := y
          obtain ⟨a0, a1, a2, a3⟩ := hat
          dsimp only at a0 a1 a2 a3
          have u0 := hb4.frozen 0
          have u1 := hb4.frozen 1
          have u2 := hb4.frozen 2
          have u3 := hb4.frozen 3
          have v0 : w4.cell? ⟨w2.heap.size, 0, none⟩ = some (.int .i64 x0) := hb4.cell 0
          have v1 : w4.cell? ⟨w2.heap.size, 1, none⟩ = some (.int .i64 x1) := hb4.cell 1
          have v2 : w4.cell? ⟨w2.heap.size, 2, none⟩ = some (.int .i64 x2) := hb4.cell 2
          have v3 : w4.cell? ⟨w2.heap.size, 3, none⟩ = some (.int .i64 x3) := hb4.cell 3
          have hne : ¬ gb = w2.heap.size := by have := Hown.out.lt gb rfl; omega
          clear q0 q1 q2 q3 C3 ey
          go_upto_region 8 with fail
          obtain ⟨wE, hwE⟩ : ∃ wE, wE = ((((w4.setCell ⟨w2.heap.size, 0, none⟩ (.int .i64 y0)).setCell ⟨w2.heap.size, 1, none⟩ (.int .i64 y1)).setCell ⟨w2.heap.size, 2, none⟩ (.int .i64 y2)).setCell ⟨w2.heap.size, 3, none⟩ (.int .i64 y3)) := ⟨_, rfl⟩
          have gE : w4.grownBy wE (some w2.heap.size) := by
            rw [hwE]
            exact only_setCell (p := ⟨w2.heap.size, 3, none⟩) (only_setCell (p := ⟨w2.heap.size, 2, none⟩) (only_setCell (p := ⟨w2.heap.size, 1, none⟩) (only_setCell (p := ⟨w2.heap.size, 0, none⟩) (World.grownBy.refl _ _) (Or.inl rfl) _) (Or.inl rfl) _) (Or.inl rfl) _) (Or.inl rfl) _
          have bE : Blk wE w2.heap.size 40 #[.int .i64 y0, .int .i64 y1, .int .i64 y2, .int .i64 y3] := by
            rw [hwE]
            exact (((hb4.set_ 0 _).set_ 1 _).set_ 2 _).set_ 3 _
          have hfE := hf4.only gE (by omega) (fun g e => .inl (by have := Option.some.inj e; omega))
          have ownE := own4.kept gE (.inr (by simp [Value.ownBlock]; omega))
          have rdE := hr4.onlyO gE (fun q e => by have := Option.some.inj e; omega)
          have hsE := gE.size
          rw [← hwE]
          clear hwE gE hf4 own4 hr4 hb4 hb3 hf3 own3 hr3 u0 u1 u2 u3 v0 v1 v2 v3 a0 a1 a2 a3
          have q0 : wE.cell? ⟨w2.heap.size, 0, none⟩ = some (.int .i64 y0) := bE.cell 0
          have q1 : wE.cell? ⟨w2.heap.size, 1, none⟩ = some (.int .i64 y1) := bE.cell 1
          have q2 : wE.cell? ⟨w2.heap.size, 2, none⟩ = some (.int .i64 y2) := bE.cell 2
          have q3 : wE.cell? ⟨w2.heap.size, 3, none⟩ = some (.int .i64 y3) := bE.cell 3
          have ownL := ownE.alloc (.cells #[.int .i64 y0, .int .i64 y1, .int .i64 y2, .int .i64 y3] 40)
          have hlw := ownL.lt
          have hsW : w.heap.size ≤ wE.heap.size := by omega
          go_wp2_with (at_builtin; refine wpList_append_own _ rfl _ _ 90 rfl w.heap.size 40 ig (.agg #[.int .i64 0, .int .i64 0, .int .i64 0, .int .i64 0]) 4 32 Tryd.underlying90 gi gz0 gz1 gz2 rfl (by decide) _ _ _ rfl (ownL) ⟨wE.heap.size, 0, none⟩ 1 1 [.int .i64 y0, .int .i64 y1, .int .i64 y2, .int .i64 y3] rfl rfl (cells_newAt _ _ _ (by first | rfl | simp | simp [World.setCell])) (by simp [Value.oneCell']) (by unfold maxLen; omega) (by omega) (by simp; omega) ?_; intro v' wZ hown' hgrow _)
          have frZ := (hfE.alloc hsW (.cells #[.int .i64 y0, .int .i64 y1, .int .i64 y2, .int .i64 y3] 40)).only hgrow (by simp; omega) (fun q e => .inl (hlw q e).1)
          have rdZ := (rdE.alloc (.cells #[.int .i64 y0, .int .i64 y1, .int .i64 y2, .int .i64 y3] 40)).onlyO hgrow (fun q e => by have := (hlw q e).1; omega)
          have ownZ : wZ.ownsRow w.heap.size 40 4 v' (k + 1) (gcells (gs ++ [⟨y0, y1, y2, y3⟩])) := by rw [gcells_app, gcells_one]; exact hown'
          clear hown' hgrow hlw
          go_wp2_with fail
          go_roundg (K - (k + 1))
          case measure => have := Hg.out; omega
          case rel => exact ⟨k + 1, by omega, rfl, by go_num, ⟨_, ⟨by simp [hgs], HY.out⟩, ownZ⟩, rdZ.mono (by omega), frZ⟩
        · have hz' : (z == 0) = false := by simp [hz]
          clear hz
          have ownL := own3.alloc (.cells #[.int .i64 x0, .int .i64 x1, .int .i64 x2, .int .i64 x3] 40)
          have hlw := ownL.lt
          have hsW := hsz3
          go_wp2_with (at_builtin; refine wpList_append_own _ rfl _ _ 90 rfl w.heap.size 40 ig (.agg #[.int .i64 0, .int .i64 0, .int .i64 0, .int .i64 0]) 4 32 Tryd.underlying90 gi gz0 gz1 gz2 rfl (by decide) _ _ _ rfl (ownL) ⟨w3.heap.size, 0, none⟩ 1 1 [.int .i64 x0, .int .i64 x1, .int .i64 x2, .int .i64 x3] rfl rfl (cells_newAt _ _ _ (by first | rfl | simp | simp [World.setCell])) (by simp [Value.oneCell']) (by unfold maxLen; omega) (by omega) (by simp; omega) ?_; intro v' wZ hown' hgrow _)
          have frZ := (hf3.alloc hsW (.cells #[.int .i64 x0, .int .i64 x1, .int .i64 x2, .int .i64 x3] 40)).only hgrow (by simp; omega) (fun q e => .inl (hlw q e).1)
          have rdZ := (hr3.alloc (.cells #[.int .i64 x0, .int .i64 x1, .int .i64 x2, .int .i64 x3] 40)).onlyO hgrow (fun q e => by have := (hlw q e).1; omega)
          have ownZ : wZ.ownsRow w.heap.size 40 4 v' (k + 1) (gcells (gs ++ [⟨x0, x1, x2, x3⟩])) := by rw [gcells_app, gcells_one]; exact hown'
          clear hown' hgrow hlw
          go_wp2_with fail
          go_roundg (K - (k + 1))
          case measure => have := Hg.out; omega
          case rel => exact ⟨k + 1, by omega, rfl, by go_num, ⟨_, ⟨by simp [hgs], HX.out⟩, ownZ⟩, rdZ.mono (by omega), frZ⟩
    · have hlt' : ¬ (0 : Int) < ((K - k : Nat) : Int) := by omega
      obtain rfl : k = K := by omega
      have hsz := hfr.2.2.2.1
      have C5 := Lib.hid (odd0_rd r (p + 1 + 22 * k) wr hrd)
      go_wp2_with fail
      refine C5.out.mono ?_
      rintro e w5 ⟨rfl, rfl⟩
      clear C5
      go_wp2_with fail
      go_ret
      exact drawnCV_of Hown.out (by have := HMX.out; omega) HAll.out (hrd.mono (by omega)) hfr rfl
end Go.Proofs.YtffkoeobehocjaaDoor
