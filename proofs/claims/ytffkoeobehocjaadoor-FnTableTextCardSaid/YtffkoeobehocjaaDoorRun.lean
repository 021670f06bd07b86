/- Contracts of spec.GateRun, spec.l2Run and spec.CircuitTable: as much of them as the draws of tables want. -/
import Derived.Test.YtffkoeobehocjaaDoorCirc
import Derived.Test.YtffkoeobehocjaaDoorBits
import Derived.Test.YtffkoeobehocjaaDoorIntsB
import Derived.BigQuiet
import Derived.Deep.RegionHeld3
namespace Go.Proofs.YtffkoeobehocjaaDoor
open Go.RowKit
set_option linter.unusedVariables false
set_option linter.unusedSimpArgs false

def SomeI (w : World) (e : Ending) (w' : World) : Prop := ∃ v : Int, e = .returned (.int .i64 v) ∧ Below w.heap.size w w'

theorem turn_any (v l : Int) (w : World) (h0 : 0 ≤ v) (h1 : v ≤ 511) (l0 : 0 ≤ l) (l1 : l ≤ 7) :
    Calls Tryd.prog 105 #[.int .i64 v, .int .i64 l] w fun e w' => ∃ u : Int, e = .returned (.int .i64 u) ∧ (0 ≤ u ∧ u ≤ v + 128) ∧ w = w' := by
  have CB := Lib.hid (l1Bit_any v l w h0 (by omega) l0 (by omega))
  have hb : bt v l = v / 2 ^ l.toNat % 2 := rfl
  have h8 : l = 0 ∨ l = 1 ∨ l = 2 ∨ l = 3 ∨ l = 4 ∨ l = 5 ∨ l = 6 ∨ l = 7 := by omega
  obtain ⟨P, hP, hP1, hP2⟩ : ∃ P : Int, (2 : Int) ^ l.toNat = P ∧ 1 ≤ P ∧ P ≤ 128 := by
    rcases h8 with rfl | rfl | rfl | rfl | rfl | rfl | rfl | rfl
    · exact ⟨1, rfl, by omega, by omega⟩
    · exact ⟨2, rfl, by omega, by omega⟩
    · exact ⟨4, rfl, by omega, by omega⟩
    · exact ⟨8, rfl, by omega, by omega⟩
    · exact ⟨16, rfl, by omega, by omega⟩
    · exact ⟨32, rfl, by omega, by omega⟩
    · exact ⟨64, rfl, by omega, by omega⟩
    · exact ⟨128, rfl, by omega, by omega⟩
  have hs : wrap64 ((2 : Int) ^ l.toNat) = P := by rw [hP]; exact IntWalk.wrap64_in _ (by omega)
  rw [hP] at hb
  obtain ⟨b, eb⟩ : ∃ b, b = bt v l := ⟨_, rfl⟩
  rw [← eb] at CB hb
  have hv : b = 1 → P ≤ v := fun e => by
    rcases Int.lt_or_le v P with h | h
    · rw [hb, Int.ediv_eq_zero_of_lt h0 h] at e; simp at e
    · exact h
  have HV := Lib.hid hv
  clear eb hb hv h8
  cases hq : (b == 1) with
  | true =>
    have hb1 : b = 1 := by simpa using hq
    have hPv := HV.out hb1
    have hw1 : wrap64 (v - P) = v - P := IntWalk.wrap64_in _ (by omega)
    clear hb1
    go_enter Tryd.func105, Tryd.ntmps105
    go_wp2_with fail
    refine CB.out.mono ?_
    rintro e w1 ⟨rfl, rfl⟩
    go_wp2_with fail
    go_ret
    exact ⟨v - P, rfl, ⟨by omega, by omega⟩, rfl⟩
  | false =>
    have hw1 : wrap64 (v + P) = v + P := IntWalk.wrap64_in _ (by omega)
    go_enter Tryd.func105, Tryd.ntmps105
    go_wp2_with fail
    refine CB.out.mono ?_
    rintro e w1 ⟨rfl, rfl⟩
    go_wp2_with fail
    go_ret
    exact ⟨v + P, rfl, ⟨by omega, by omega⟩, rfl⟩
theorem gateB_small {l : Int} {g : Gt} (h : gateB l g = true) : (0 ≤ g.a ∧ g.a ≤ 7) ∧ (0 ≤ g.b ∧ g.b ≤ 7) ∧ (0 ≤ g.c ∧ g.c ≤ 7) := by
  have h5 : g.k = 0 ∨ g.k = 1 ∨ g.k = 2 ∨ g.k = 3 ∨ g.k = 4 := by
    have h := h
    unfold gateB at h
    simp only [Bool.and_eq_true] at h
    have := inB_t h.1.1.2
    omega
  obtain ⟨k, a, b, c⟩ := g
  simp only at h5
  rcases h5 with rfl | rfl | rfl | rfl | rfl
  all_goals
    simp [gateB, linesOf, okP, restZ, hasB, inB] at h
    dsimp only
    omega

set_option maxHeartbeats 8000000 in
set_option maxRecDepth 50000 in
theorem gateRun_any (l : Int) (g : Gt) (word : Int) (w : World) (hv : gateB l g = true) :
    Calls Tryd.prog 90 #[.int .i64 l, g.val, .int .i64 word] w fun e w' => SomeI w e w' := by
  have HV := Lib.hid (fun W => specGateValid_any l g W)
  rw [hv] at HV
  have hsm := gateB_small hv
  have h5 : g.k = 0 ∨ g.k = 1 ∨ g.k = 2 ∨ g.k = 3 ∨ g.k = 4 := by
    have h := hv
    unfold gateB at h
    simp only [Bool.and_eq_true] at h
    have := inB_t h.1.1.2
    omega
  obtain ⟨k, x, y, z⟩ := g
  unfold Gt.val at *
  dsimp only at *
  clear hv
  cases hw : wordB l word with
  | false =>
    have CW := Lib.hid (fun W => specWordValid_any l word W)
    rw [hw] at CW
    clear hw hsm h5
    go_enter Tryd.func90, Tryd.ntmps90
    go_wp2_with fail
    refine (CW.out _).mono ?_
    rintro e w' ⟨rfl, rfl⟩
    go_wp2_with fail
    go_ret
    exact ⟨-1, rfl, (Below.refl _ _).alloc (Nat.le_refl _) _⟩
  | true =>
    have CW := Lib.hid (fun W => specWordValid_any l word W)
    rw [hw] at CW
    have hwd := wordB_t hw
    have hpw := pw_bd hwd.1 hwd.2.1
    have hw0 : 0 ≤ word ∧ word ≤ 255 := by omega
    obtain ⟨⟨xa, xb⟩, ⟨ya, yb⟩, za, zb⟩ := hsm
    have B1 := Lib.hid (fun W => l1Bit_any word x W (by omega) (by omega) (by omega) (by omega))
    have B2 := Lib.hid (fun W => l1Bit_any word y W (by omega) (by omega) (by omega) (by omega))
    have B3 := Lib.hid (fun W => l1Bit_any word z W (by omega) (by omega) (by omega) (by omega))
    have T1 := Lib.hid (fun W v (h : 0 ≤ v ∧ v ≤ 511) => turn_any v x W h.1 h.2 xa xb)
    have T2 := Lib.hid (fun W v (h : 0 ≤ v ∧ v ≤ 511) => turn_any v y W h.1 h.2 ya yb)
    have T3 := Lib.hid (fun W v (h : 0 ≤ v ∧ v ≤ 511) => turn_any v z W h.1 h.2 za zb)
    obtain ⟨a, ea⟩ : ∃ a, a = bt word x := ⟨_, rfl⟩
    obtain ⟨b, eb⟩ : ∃ b, b = bt word y := ⟨_, rfl⟩
    obtain ⟨c, ec⟩ : ∃ c, c = bt word z := ⟨_, rfl⟩
    rw [← ea] at B1
    rw [← eb] at B2
    rw [← ec] at B3
    have HW0 := Lib.hid hw0
    clear hw hwd hpw ea eb ec xa xb ya yb za zb hw0
    rcases h5 with rfl | rfl | rfl | rfl | rfl
    · go_enter Tryd.func90, Tryd.ntmps90
      go_wp2_with fail
      refine (CW.out _).mono ?_
      rintro e w' ⟨rfl, rfl⟩
      go_wp2_with fail
      refine (HV.out _).mono ?_
      rintro e w1 ⟨rfl, hb1⟩
      obtain ⟨bx, W1⟩ := box1 hb1
      have q0 : w1.cell? ⟨w.heap.size, 0, none⟩ = some (.int .i64 0) := bx.cell 0
      have q1 : w1.cell? ⟨w.heap.size, 1, none⟩ = some (.int .i64 x) := bx.cell 1
      have q2 : w1.cell? ⟨w.heap.size, 2, none⟩ = some (.int .i64 y) := bx.cell 2
      have q3 : w1.cell? ⟨w.heap.size, 3, none⟩ = some (.int .i64 z) := bx.cell 3
      clear hb1 bx
      go_wp2_with fail
      refine (B1.out _).mono ?_
      rintro e w' ⟨rfl, rfl⟩
      go_wp2_with fail
      refine (B2.out _).mono ?_
      rintro e w' ⟨rfl, rfl⟩
      go_wp2_with fail
      refine (B3.out _).mono ?_
      rintro e w' ⟨rfl, rfl⟩
      go_wp2_with fail
      refine (T1.out _ _ (by have := HW0.out; omega)).mono ?_
      rintro e w' ⟨u, rfl, ub, rfl⟩
      go_wp2_with fail
      go_ret
      exact ⟨_, rfl, W1⟩
    · cases h : (a == 1) with
      | false =>
        go_enter Tryd.func90, Tryd.ntmps90
        go_wp2_with fail
        refine (CW.out _).mono ?_
        rintro e w' ⟨rfl, rfl⟩
        go_wp2_with fail
        refine (HV.out _).mono ?_
        rintro e w1 ⟨rfl, hb1⟩
        obtain ⟨bx, W1⟩ := box1 hb1
        have q0 : w1.cell? ⟨w.heap.size, 0, none⟩ = some (.int .i64 1) := bx.cell 0
        have q1 : w1.cell? ⟨w.heap.size, 1, none⟩ = some (.int .i64 x) := bx.cell 1
        have q2 : w1.cell? ⟨w.heap.size, 2, none⟩ = some (.int .i64 y) := bx.cell 2
        have q3 : w1.cell? ⟨w.heap.size, 3, none⟩ = some (.int .i64 z) := bx.cell 3
        clear hb1 bx
        go_wp2_with fail
        refine (B1.out _).mono ?_
        rintro e w' ⟨rfl, rfl⟩
        go_wp2_with fail
        refine (B2.out _).mono ?_
        rintro e w' ⟨rfl, rfl⟩
        go_wp2_with fail
        refine (B3.out _).mono ?_
        rintro e w' ⟨rfl, rfl⟩
        go_wp2_with fail
        go_ret
        exact ⟨_, rfl, W1⟩
      | true =>
        go_enter Tryd.func90, Tryd.ntmps90
        go_wp2_with fail
        refine (CW.out _).mono ?_
        rintro e w' ⟨rfl, rfl⟩
        go_wp2_with fail
        refine (HV.out _).mono ?_
        rintro e w1 ⟨rfl, hb1⟩
        obtain ⟨bx, W1⟩ := box1 hb1
        have q0 : w1.cell? ⟨w.heap.size, 0, none⟩ = some (.int .i64 1) := bx.cell 0
        have q1 : w1.cell? ⟨w.heap.size, 1, none⟩ = some (.int .i64 x) := bx.cell 1
        have q2 : w1.cell? ⟨w.heap.size, 2, none⟩ = some (.int .i64 y) := bx.cell 2
        have q3 : w1.cell? ⟨w.heap.size, 3, none⟩ = some (.int .i64 z) := bx.cell 3
        clear hb1 bx
        go_wp2_with fail
        refine (B1.out _).mono ?_
        rintro e w' ⟨rfl, rfl⟩
        go_wp2_with fail
        refine (B2.out _).mono ?_
        rintro e w' ⟨rfl, rfl⟩
        go_wp2_with fail
        refine (B3.out _).mono ?_
        rintro e w' ⟨rfl, rfl⟩
        go_wp2_with fail
        refine (T2.out _ _ (by have := HW0.out; omega)).mono ?_
        rintro e w' ⟨u, rfl, ub, rfl⟩
        go_wp2_with fail
        go_ret
        exact ⟨_, rfl, W1⟩
    · cases h : (a == 1) with
      | false =>
        go_enter Tryd.func90, Tryd.ntmps90
        go_wp2_with fail
        refine (CW.out _).mono ?_
        rintro e w' ⟨rfl, rfl⟩
        go_wp2_with fail
        refine (HV.out _).mono ?_
        rintro e w1 ⟨rfl, hb1⟩
        obtain ⟨bx, W1⟩ := box1 hb1
        have q0 : w1.cell? ⟨w.heap.size, 0, none⟩ = some (.int .i64 2) := bx.cell 0
        have q1 : w1.cell? ⟨w.heap.size, 1, none⟩ = some (.int .i64 x) := bx.cell 1
        have q2 : w1.cell? ⟨w.heap.size, 2, none⟩ = some (.int .i64 y) := bx.cell 2
        have q3 : w1.cell? ⟨w.heap.size, 3, none⟩ = some (.int .i64 z) := bx.cell 3
        clear hb1 bx
        go_wp2_with fail
        refine (B1.out _).mono ?_
        rintro e w' ⟨rfl, rfl⟩
        go_wp2_with fail
        refine (B2.out _).mono ?_
        rintro e w' ⟨rfl, rfl⟩
        go_wp2_with fail
        refine (B3.out _).mono ?_
        rintro e w' ⟨rfl, rfl⟩
        go_wp2_with fail
        go_ret
        exact ⟨_, rfl, W1⟩
      | true =>
        cases h' : (b == 1) with
        | false =>
          go_enter Tryd.func90, Tryd.ntmps90
          go_wp2_with fail
          refine (CW.out _).mono ?_
          rintro e w' ⟨rfl, rfl⟩
          go_wp2_with fail
          refine (HV.out _).mono ?_
          rintro e w1 ⟨rfl, hb1⟩
          obtain ⟨bx, W1⟩ := box1 hb1
          have q0 : w1.cell? ⟨w.heap.size, 0, none⟩ = some (.int .i64 2) := bx.cell 0
          have q1 : w1.cell? ⟨w.heap.size, 1, none⟩ = some (.int .i64 x) := bx.cell 1
          have q2 : w1.cell? ⟨w.heap.size, 2, none⟩ = some (.int .i64 y) := bx.cell 2
          have q3 : w1.cell? ⟨w.heap.size, 3, none⟩ = some (.int .i64 z) := bx.cell 3
          clear hb1 bx
          go_wp2_with fail
          refine (B1.out _).mono ?_
          rintro e w' ⟨rfl, rfl⟩
          go_wp2_with fail
          refine (B2.out _).mono ?_
          rintro e w' ⟨rfl, rfl⟩
          go_wp2_with fail
          refine (B3.out _).mono ?_
          rintro e w' ⟨rfl, rfl⟩
          go_wp2_with fail
          go_ret
          exact ⟨_, rfl, W1⟩
        | true =>
          go_enter Tryd.func90, Tryd.ntmps90
          go_wp2_with fail
          refine (CW.out _).mono ?_
          rintro e w' ⟨rfl, rfl⟩
          go_wp2_with fail
          refine (HV.out _).mono ?_
          rintro e w1 ⟨rfl, hb1⟩
          obtain ⟨bx, W1⟩ := box1 hb1
          have q0 : w1.cell? ⟨w.heap.size, 0, none⟩ = some (.int .i64 2) := bx.cell 0
          have q1 : w1.cell? ⟨w.heap.size, 1, none⟩ = some (.int .i64 x) := bx.cell 1
          have q2 : w1.cell? ⟨w.heap.size, 2, none⟩ = some (.int .i64 y) := bx.cell 2
          have q3 : w1.cell? ⟨w.heap.size, 3, none⟩ = some (.int .i64 z) := bx.cell 3
          clear hb1 bx
          go_wp2_with fail
          refine (B1.out _).mono ?_
          rintro e w' ⟨rfl, rfl⟩
          go_wp2_with fail
          refine (B2.out _).mono ?_
          rintro e w' ⟨rfl, rfl⟩
          go_wp2_with fail
          refine (B3.out _).mono ?_
          rintro e w' ⟨rfl, rfl⟩
          go_wp2_with fail
          refine (T3.out _ _ (by have := HW0.out; omega)).mono ?_
          rintro e w' ⟨u, rfl, ub, rfl⟩
          go_wp2_with fail
          go_ret
          exact ⟨_, rfl, W1⟩
    · cases h : (a != b) with
      | false =>
        go_enter Tryd.func90, Tryd.ntmps90
        go_wp2_with fail
        refine (CW.out _).mono ?_
        rintro e w' ⟨rfl, rfl⟩
        go_wp2_with fail
        refine (HV.out _).mono ?_
        rintro e w1 ⟨rfl, hb1⟩
        obtain ⟨bx, W1⟩ := box1 hb1
        have q0 : w1.cell? ⟨w.heap.size, 0, none⟩ = some (.int .i64 3) := bx.cell 0
        have q1 : w1.cell? ⟨w.heap.size, 1, none⟩ = some (.int .i64 x) := bx.cell 1
        have q2 : w1.cell? ⟨w.heap.size, 2, none⟩ = some (.int .i64 y) := bx.cell 2
        have q3 : w1.cell? ⟨w.heap.size, 3, none⟩ = some (.int .i64 z) := bx.cell 3
        clear hb1 bx
        go_wp2_with fail
        refine (B1.out _).mono ?_
        rintro e w' ⟨rfl, rfl⟩
        go_wp2_with fail
        refine (B2.out _).mono ?_
        rintro e w' ⟨rfl, rfl⟩
        go_wp2_with fail
        refine (B3.out _).mono ?_
        rintro e w' ⟨rfl, rfl⟩
        go_wp2_with fail
        go_ret
        exact ⟨_, rfl, W1⟩
      | true =>
        go_enter Tryd.func90, Tryd.ntmps90
        go_wp2_with fail
        refine (CW.out _).mono ?_
        rintro e w' ⟨rfl, rfl⟩
        go_wp2_with fail
        refine (HV.out _).mono ?_
        rintro e w1 ⟨rfl, hb1⟩
        obtain ⟨bx, W1⟩ := box1 hb1
        have q0 : w1.cell? ⟨w.heap.size, 0, none⟩ = some (.int .i64 3) := bx.cell 0
        have q1 : w1.cell? ⟨w.heap.size, 1, none⟩ = some (.int .i64 x) := bx.cell 1
        have q2 : w1.cell? ⟨w.heap.size, 2, none⟩ = some (.int .i64 y) := bx.cell 2
        have q3 : w1.cell? ⟨w.heap.size, 3, none⟩ = some (.int .i64 z) := bx.cell 3
        clear hb1 bx
        go_wp2_with fail
        refine (B1.out _).mono ?_
        rintro e w' ⟨rfl, rfl⟩
        go_wp2_with fail
        refine (B2.out _).mono ?_
        rintro e w' ⟨rfl, rfl⟩
        go_wp2_with fail
        refine (B3.out _).mono ?_
        rintro e w' ⟨rfl, rfl⟩
        go_wp2_with fail
        refine wp_region_noPanic ?_
        refine wp_region_held_drew (S := fun W => W.cell? ⟨w.heap.size, 1, none⟩ = some (.int .i64 x) ∧ W.cell? ⟨w.heap.size, 2, none⟩ = some (.int .i64 y) ∧ W.cell? ⟨w.heap.size, 3, none⟩ = some (.int .i64 z)) (by kernel_rfl) (⟨q1, q2, q3⟩) (fun hHeld => ?_)
        refine wpAnyH_take (i := 0) (oi := _) (v := ?_) rfl (by kernel_rfl) (by kernel_rfl) (by kernel_rfl) (fun _ _ _ h => h) (Or.inl ⟨by rfl, ?_⟩) (by assumption) ?_
        rotate_left
        · (intro w hSw; (try dsimp only at hSw); go_simp; try with_reducible rfl)
        (try simp only [List.getElem_toArray, List.getElem_cons_zero, List.getElem_cons_succ, Act.put, List.setIfInBounds_toArray, List.set_cons_zero, List.set_cons_succ])
        refine wpAnyH_take (i := 1) (oi := _) (v := ?_) rfl (by kernel_rfl) (by kernel_rfl) (by kernel_rfl) (fun _ _ _ h => h) (Or.inl ⟨by rfl, ?_⟩) (by assumption) ?_
        rotate_left
        · (intro w hSw; (try dsimp only at hSw); go_simp; try with_reducible rfl)
        (try simp only [List.getElem_toArray, List.getElem_cons_zero, List.getElem_cons_succ, Act.put, List.setIfInBounds_toArray, List.set_cons_zero, List.set_cons_succ])
        refine wpAnyH_take (i := 2) (oi := _) (v := ?_) rfl (by kernel_rfl) (by kernel_rfl) (by kernel_rfl) (fun _ _ _ h => h) (Or.inl ⟨by rfl, ?_⟩) (by assumption) ?_
        rotate_left
        · (intro w hSw; (try dsimp only at hSw); go_simp; try with_reducible rfl)
        (try simp only [List.getElem_toArray, List.getElem_cons_zero, List.getElem_cons_succ, Act.put, List.setIfInBounds_toArray, List.set_cons_zero, List.set_cons_succ])
        refine wpAnyH_take (i := 4) (oi := _) (v := ?_) rfl (by kernel_rfl) (by kernel_rfl) (by kernel_rfl) (fun _ _ _ h => h) (Or.inl ⟨by rfl, ?_⟩) (by assumption) ?_
        rotate_left
        · (intro w hSw; (try dsimp only at hSw); go_simp; try with_reducible rfl)
        (try simp only [List.getElem_toArray, List.getElem_cons_zero, List.getElem_cons_succ, Act.put, List.setIfInBounds_toArray, List.set_cons_zero, List.set_cons_succ])
        refine wpAnyH_take (i := 5) (oi := _) (v := ?_) rfl (by kernel_rfl) (by kernel_rfl) (by kernel_rfl) (fun _ _ _ h => h) (Or.inl ⟨by rfl, ?_⟩) (by assumption) ?_
        rotate_left
        · (intro w hSw; (try dsimp only at hSw); go_simp; try with_reducible rfl)
        (try simp only [List.getElem_toArray, List.getElem_cons_zero, List.getElem_cons_succ, Act.put, List.setIfInBounds_toArray, List.set_cons_zero, List.set_cons_succ])
        refine wpAnyH_ready (rs := [3]) (by kernel_rfl) (by simp) ?_
        refine AllReadyH.cons (o := _) rfl (fun K hK => ?_) AllReadyH.nil
        go_simp
        ((refine (T1.out _ _ (by have := HW0.out; omega)).mono ?_; rintro e w' ⟨u, rfl, ub, rfl⟩))
        go_wp2_with fail
        refine hK.out _ _ (by assumption) (fun hHeld => ?_)
        clear hK K
        (try simp only [List.getElem_toArray, List.getElem_cons_zero, List.getElem_cons_succ, Act.put, List.setIfInBounds_toArray, List.set_cons_zero, List.set_cons_succ])
        refine wpAnyH_ready (rs := [6]) (by kernel_rfl) (by simp) ?_
        refine AllReadyH.cons (o := _) rfl (fun K hK => ?_) AllReadyH.nil
        go_simp
        ((refine (T2.out _ _ (by have := HW0.out; omega)).mono ?_; rintro e w' ⟨u2, rfl, ub2, rfl⟩))
        go_wp2_with fail
        refine hK.out _ _ (by assumption) (fun hHeld => ?_)
        clear hK K
        (try simp only [List.getElem_toArray, List.getElem_cons_zero, List.getElem_cons_succ, Act.put, List.setIfInBounds_toArray, List.set_cons_zero, List.set_cons_succ])
        refine wpAnyH_take (i := 7) (oi := _) (v := ?_) rfl (by kernel_rfl) (by kernel_rfl) (by kernel_rfl) (fun _ _ _ h => h) (Or.inl ⟨by rfl, ?_⟩) (by assumption) ?_
        rotate_left
        · (intro w hSw; (try dsimp only at hSw); go_simp; try with_reducible rfl)
        (try simp only [List.getElem_toArray, List.getElem_cons_zero, List.getElem_cons_succ, Act.put, List.setIfInBounds_toArray, List.set_cons_zero, List.set_cons_succ])
        refine wpAnyH_done (by kernel_rfl) ?_ _
        refine NoPanic.normal ?_
        go_wp2_with fail
        go_ret
        exact ⟨_, rfl, W1.drew⟩
    · cases h : (a == 1) with
      | false =>
        go_enter Tryd.func90, Tryd.ntmps90
        go_wp2_with fail
        refine (CW.out _).mono ?_
        rintro e w' ⟨rfl, rfl⟩
        go_wp2_with fail
        refine (HV.out _).mono ?_
        rintro e w1 ⟨rfl, hb1⟩
        obtain ⟨bx, W1⟩ := box1 hb1
        have q0 : w1.cell? ⟨w.heap.size, 0, none⟩ = some (.int .i64 4) := bx.cell 0
        have q1 : w1.cell? ⟨w.heap.size, 1, none⟩ = some (.int .i64 x) := bx.cell 1
        have q2 : w1.cell? ⟨w.heap.size, 2, none⟩ = some (.int .i64 y) := bx.cell 2
        have q3 : w1.cell? ⟨w.heap.size, 3, none⟩ = some (.int .i64 z) := bx.cell 3
        clear hb1 bx
        go_wp2_with fail
        refine (B1.out _).mono ?_
        rintro e w' ⟨rfl, rfl⟩
        go_wp2_with fail
        refine (B2.out _).mono ?_
        rintro e w' ⟨rfl, rfl⟩
        go_wp2_with fail
        refine (B3.out _).mono ?_
        rintro e w' ⟨rfl, rfl⟩
        go_wp2_with fail
        go_ret
        exact ⟨_, rfl, W1⟩
      | true =>
        cases h' : (b != c) with
        | false =>
          go_enter Tryd.func90, Tryd.ntmps90
          go_wp2_with fail
          refine (CW.out _).mono ?_
          rintro e w' ⟨rfl, rfl⟩
          go_wp2_with fail
          refine (HV.out _).mono ?_
          rintro e w1 ⟨rfl, hb1⟩
          obtain ⟨bx, W1⟩ := box1 hb1
          have q0 : w1.cell? ⟨w.heap.size, 0, none⟩ = some (.int .i64 4) := bx.cell 0
          have q1 : w1.cell? ⟨w.heap.size, 1, none⟩ = some (.int .i64 x) := bx.cell 1
          have q2 : w1.cell? ⟨w.heap.size, 2, none⟩ = some (.int .i64 y) := bx.cell 2
          have q3 : w1.cell? ⟨w.heap.size, 3, none⟩ = some (.int .i64 z) := bx.cell 3
          clear hb1 bx
          go_wp2_with fail
          refine (B1.out _).mono ?_
          rintro e w' ⟨rfl, rfl⟩
          go_wp2_with fail
          refine (B2.out _).mono ?_
          rintro e w' ⟨rfl, rfl⟩
          go_wp2_with fail
          refine (B3.out _).mono ?_
          rintro e w' ⟨rfl, rfl⟩
          go_wp2_with fail
          go_ret
          exact ⟨_, rfl, W1⟩
        | true =>
          go_enter Tryd.func90, Tryd.ntmps90
          go_wp2_with fail
          refine (CW.out _).mono ?_
          rintro e w' ⟨rfl, rfl⟩
          go_wp2_with fail
          refine (HV.out _).mono ?_
          rintro e w1 ⟨rfl, hb1⟩
          obtain ⟨bx, W1⟩ := box1 hb1
          have q0 : w1.cell? ⟨w.heap.size, 0, none⟩ = some (.int .i64 4) := bx.cell 0
          have q1 : w1.cell? ⟨w.heap.size, 1, none⟩ = some (.int .i64 x) := bx.cell 1
          have q2 : w1.cell? ⟨w.heap.size, 2, none⟩ = some (.int .i64 y) := bx.cell 2
          have q3 : w1.cell? ⟨w.heap.size, 3, none⟩ = some (.int .i64 z) := bx.cell 3
          clear hb1 bx
          go_wp2_with fail
          refine (B1.out _).mono ?_
          rintro e w' ⟨rfl, rfl⟩
          go_wp2_with fail
          refine (B2.out _).mono ?_
          rintro e w' ⟨rfl, rfl⟩
          go_wp2_with fail
          refine (B3.out _).mono ?_
          rintro e w' ⟨rfl, rfl⟩
          go_wp2_with fail
          refine wp_region_noPanic ?_
          refine wp_region_held_drew (S := fun W => W.cell? ⟨w.heap.size, 1, none⟩ = some (.int .i64 x) ∧ W.cell? ⟨w.heap.size, 2, none⟩ = some (.int .i64 y) ∧ W.cell? ⟨w.heap.size, 3, none⟩ = some (.int .i64 z)) (by kernel_rfl) (⟨q1, q2, q3⟩) (fun hHeld => ?_)
          refine wpAnyH_take (i := 0) (oi := _) (v := ?_) rfl (by kernel_rfl) (by kernel_rfl) (by kernel_rfl) (fun _ _ _ h => h) (Or.inl ⟨by rfl, ?_⟩) (by assumption) ?_
          rotate_left
          · (intro w hSw; (try dsimp only at hSw); go_simp; try with_reducible rfl)
          (try simp only [List.getElem_toArray, List.getElem_cons_zero, List.getElem_cons_succ, Act.put, List.setIfInBounds_toArray, List.set_cons_zero, List.set_cons_succ])
          refine wpAnyH_take (i := 1) (oi := _) (v := ?_) rfl (by kernel_rfl) (by kernel_rfl) (by kernel_rfl) (fun _ _ _ h => h) (Or.inl ⟨by rfl, ?_⟩) (by assumption) ?_
          rotate_left
          · (intro w hSw; (try dsimp only at hSw); go_simp; try with_reducible rfl)
          (try simp only [List.getElem_toArray, List.getElem_cons_zero, List.getElem_cons_succ, Act.put, List.setIfInBounds_toArray, List.set_cons_zero, List.set_cons_succ])
          refine wpAnyH_take (i := 2) (oi := _) (v := ?_) rfl (by kernel_rfl) (by kernel_rfl) (by kernel_rfl) (fun _ _ _ h => h) (Or.inl ⟨by rfl, ?_⟩) (by assumption) ?_
          rotate_left
          · (intro w hSw; (try dsimp only at hSw); go_simp; try with_reducible rfl)
          (try simp only [List.getElem_toArray, List.getElem_cons_zero, List.getElem_cons_succ, Act.put, List.setIfInBounds_toArray, List.set_cons_zero, List.set_cons_succ])
          refine wpAnyH_take (i := 4) (oi := _) (v := ?_) rfl (by kernel_rfl) (by kernel_rfl) (by kernel_rfl) (fun _ _ _ h => h) (Or.inl ⟨by rfl, ?_⟩) (by assumption) ?_
          rotate_left
          · (intro w hSw; (try dsimp only at hSw); go_simp; try with_reducible rfl)
          (try simp only [List.getElem_toArray, List.getElem_cons_zero, List.getElem_cons_succ, Act.put, List.setIfInBounds_toArray, List.set_cons_zero, List.set_cons_succ])
          refine wpAnyH_take (i := 5) (oi := _) (v := ?_) rfl (by kernel_rfl) (by kernel_rfl) (by kernel_rfl) (fun _ _ _ h => h) (Or.inl ⟨by rfl, ?_⟩) (by assumption) ?_
          rotate_left
          · (intro w hSw; (try dsimp only at hSw); go_simp; try with_reducible rfl)
          (try simp only [List.getElem_toArray, List.getElem_cons_zero, List.getElem_cons_succ, Act.put, List.setIfInBounds_toArray, List.set_cons_zero, List.set_cons_succ])
          refine wpAnyH_ready (rs := [3]) (by kernel_rfl) (by simp) ?_
          refine AllReadyH.cons (o := _) rfl (fun K hK => ?_) AllReadyH.nil
          go_simp
          ((refine (T2.out _ _ (by have := HW0.out; omega)).mono ?_; rintro e w' ⟨u, rfl, ub, rfl⟩))
          go_wp2_with fail
          refine hK.out _ _ (by assumption) (fun hHeld => ?_)
          clear hK K
          (try simp only [List.getElem_toArray, List.getElem_cons_zero, List.getElem_cons_succ, Act.put, List.setIfInBounds_toArray, List.set_cons_zero, List.set_cons_succ])
          refine wpAnyH_ready (rs := [6]) (by kernel_rfl) (by simp) ?_
          refine AllReadyH.cons (o := _) rfl (fun K hK => ?_) AllReadyH.nil
          go_simp
          ((refine (T3.out _ _ (by have := HW0.out; omega)).mono ?_; rintro e w' ⟨u2, rfl, ub2, rfl⟩))
          go_wp2_with fail
          refine hK.out _ _ (by assumption) (fun hHeld => ?_)
          clear hK K
          (try simp only [List.getElem_toArray, List.getElem_cons_zero, List.getElem_cons_succ, Act.put, List.setIfInBounds_toArray, List.set_cons_zero, List.set_cons_succ])
          refine wpAnyH_take (i := 7) (oi := _) (v := ?_) rfl (by kernel_rfl) (by kernel_rfl) (by kernel_rfl) (fun _ _ _ h => h) (Or.inl ⟨by rfl, ?_⟩) (by assumption) ?_
          rotate_left
          · (intro w hSw; (try dsimp only at hSw); go_simp; try with_reducible rfl)
          (try simp only [List.getElem_toArray, List.getElem_cons_zero, List.getElem_cons_succ, Act.put, List.setIfInBounds_toArray, List.set_cons_zero, List.set_cons_succ])
          refine wpAnyH_done (by kernel_rfl) ?_ _
          refine NoPanic.normal ?_
          go_wp2_with fail
          go_ret
          exact ⟨_, rfl, W1.drew⟩

end Go.Proofs.YtffkoeobehocjaaDoor
