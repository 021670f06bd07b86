/- Walk of the law FnGateText: it returns true and writes nothing that was there. -/
import Derived.Test.YtffkoeobehocjaaDoorDrawX
import Derived.Test.YtffkoeobehocjaaDoorRdI
import Derived.Test.YtffkoeobehocjaaDoorGeq
namespace Go.Proofs.YtffkoeobehocjaaDoor
open Go.RowKit
set_option linter.unusedVariables false
set_option linter.unusedSimpArgs false

theorem gateTx_len (g : Gt) : (gateTx g).length ≤ 1000 := by
  cases h : gateB 8 g with
  | false => unfold gateTx; rw [h]; simp
  | true =>
    unfold gateTx
    rw [if_pos h, List.length_append]
    have h1 := kindS_len g.k
    have h2 := tailS_len (linesOf g) (linesOf g).length (fun j hj => by have := gate_lines h hj; omega)
    have h3 : (linesOf g).length ≤ 3 := by
      unfold linesOf
      repeat' split
      all_goals simp
    omega
theorem gateTx_no {g : Gt} (h : gateB 8 g = false) : gateTx g = [] := by
  unfold gateTx
  rw [if_neg (by rw [h]; decide)]

set_option maxHeartbeats 4000000 in
set_option maxRecDepth 50000 in
theorem walk_FnGateText (A : Option Addr) (n c : Nat) (zs : List Int) (w : World) (h : IntsIn .u8 w A n c zs) (hM : MaxLen w) :
    Calls Tryd.prog 9 #[.slice A n c] w fun e w' => e = .returned (.bool true) ∧ Below w.heap.size w w' := by
  have hn1 : n ≤ 9223372036854775807 := by have := h.1; have := h.2.1; unfold maxLen at this; omega
  by_cases hn : 1048576 < n
  · clear h hM
    go_enter Tryd.func9, Tryd.ntmps9
    go_wp2_with fail
    go_ret
    exact ⟨rfl, Below.refl _ _⟩
  · have HD := Lib.hid (drawGateText_any A n c zs w h)
    have HM := Lib.hid hM
    clear h hM
    go_enter Tryd.func9, Tryd.ntmps9
    go_wp2_with fail
    refine HD.out.mono ?_
    rintro e w1 ⟨⟨⟨k, a, b, cc⟩, rfl⟩, hb⟩
    have CI := Lib.hid (fun W => implGateText_any ⟨k, a, b, cc⟩ W)
    have CS := Lib.hid (fun W => specGateText_any ⟨k, a, b, cc⟩ W)
    have CV := Lib.hid (fun W => implGateValid_any 8 ⟨k, a, b, cc⟩ W)
    obtain ⟨wg, hwg⟩ : ∃ wg, wg = w1.alloc (.cells #[.int .i64 k, .int .i64 a, .int .i64 b, .int .i64 cc] 40) := ⟨_, rfl⟩
    have hbg : Below w1.heap.size w1 wg := by rw [hwg]; exact (Below.refl _ _).alloc (Nat.le_refl _) _
    have hB : Blk wg w1.heap.size 40 #[.int .i64 k, .int .i64 a, .int .i64 b, .int .i64 cc] := by rw [hwg]; exact Blk.new _ _ _
    have HWG := Lib.hid hwg
    clear hwg
    have hbw := bnext hb hbg (Nat.le_refl _)
    have hsz := hb.size
    clear HD hb hbg
    have HT := Lib.hid (gateTx_len ⟨k, a, b, cc⟩)
    have HN := Lib.hid (gateTx_no (g := ⟨k, a, b, cc⟩))
    have HY := Lib.hid (rd_back ⟨k, a, b, cc⟩)
    have HZ := Lib.hid (gateTx_ne (g := ⟨k, a, b, cc⟩))
    obtain ⟨l, el⟩ : ∃ l, l = gateTx ⟨k, a, b, cc⟩ := ⟨_, rfl⟩
    rw [← el] at CI CS HT HN HY HZ
    obtain ⟨v, ev⟩ : ∃ v, v = gateB 8 ⟨k, a, b, cc⟩ := ⟨_, rfl⟩
    rw [← ev] at CV HN HY HZ
    clear el ev
    unfold Gt.val at CI CS CV ⊢
    dsimp only at CI CS CV ⊢
    go_wp2_with fail
    rw [← HWG.out]
    clear HWG
    refine (CI.out wg).mono ?_
    rintro e w2 ⟨rfl, hb2⟩
    replace hB := hB.next hb2
    have q0 : w2.cell? ⟨w1.heap.size, 0, none⟩ = some (.int .i64 k) := hB.cell 0
    have q1 : w2.cell? ⟨w1.heap.size, 1, none⟩ = some (.int .i64 a) := hB.cell 1
    have q2 : w2.cell? ⟨w1.heap.size, 2, none⟩ = some (.int .i64 b) := hB.cell 2
    have q3 : w2.cell? ⟨w1.heap.size, 3, none⟩ = some (.int .i64 cc) := hB.cell 3
    go_wp2_with fail
    refine (CS.out w2).mono ?_
    rintro e w3 ⟨rfl, hb3⟩
    replace hB := hB.next hb3
    have hb03 := bnext (bnext hbw hb2 (Nat.le_refl _)) hb3 (Nat.le_refl _)
    clear q0 q1 q2 q3 hb2 hb3
    have q0 : w3.cell? ⟨w1.heap.size, 0, none⟩ = some (.int .i64 k) := hB.cell 0
    have q1 : w3.cell? ⟨w1.heap.size, 1, none⟩ = some (.int .i64 a) := hB.cell 1
    have q2 : w3.cell? ⟨w1.heap.size, 2, none⟩ = some (.int .i64 b) := hB.cell 2
    have q3 : w3.cell? ⟨w1.heap.size, 3, none⟩ = some (.int .i64 cc) := hB.cell 3
    have hll : (l != l) = false := by simp
    have hl2 : (l == l) = true := by simp
    cases v with
    | false =>
      obtain rfl := HN.out rfl
      go_wp2_with fail
      refine (CV.out w3).mono ?_
      rintro e w4 ⟨rfl, hb4⟩
      have hb04 := bnext hb03 hb4 (Nat.le_refl _)
      go_wp2_with (go_at_call 20; refine (alive_any _).mono ?_; rintro e w' ⟨rfl, rfl⟩)
      go_ret
      exact ⟨rfl, hb04⟩
    | true =>
      have hne := HZ.out rfl
      have hle : l.isEmpty = false := by cases l with | nil => exact absurd rfl hne | cons a t => rfl
      have hl3 : (l == ([] : List UInt8)) = false := by simp [hne]
      have CR := Lib.hid (fun W h => implReadGate_any l (by have := HT.out; omega) W h)
      rw [(HY.out rfl).1, (HY.out rfl).2] at CR
      unfold Gt.val at CR
      dsimp only at CR
      have hM3 := Lib.hid (HM.out.below hb03)
      go_wp2_with fail
      refine (CR.out w3 hM3.out).mono ?_
      rintro e w4 ⟨rfl, hb4⟩
      have hb04 := bnext hb03 hb4 (Nat.le_refl _)
      replace hB := hB.next hb4
      have hbt : Below w4.heap.size w4 (w4.alloc (.cells #[.int .i64 k, .int .i64 a, .int .i64 b, .int .i64 cc] 40)) := (Below.refl _ _).alloc (Nat.le_refl _) _
      have hT := Blk.new w4 40 #[.int .i64 k, .int .i64 a, .int .i64 b, .int .i64 cc]
      replace hB := hB.next hbt
      have hb05 := bnext hb04 hbt (Nat.le_refl _)
      clear q0 q1 q2 q3 hb4 hbt
      have u0 : _ = some (Value.int .i64 k) := hB.cell 0
      have u1 : _ = some (Value.int .i64 a) := hB.cell 1
      have u2 : _ = some (Value.int .i64 b) := hB.cell 2
      have u3 : _ = some (Value.int .i64 cc) := hB.cell 3
      have t0 : _ = some (Value.int .i64 k) := hT.cell 0
      have t1 : _ = some (Value.int .i64 a) := hT.cell 1
      have t2 : _ = some (Value.int .i64 b) := hT.cell 2
      have t3 : _ = some (Value.int .i64 cc) := hT.cell 3
      clear hB hT
      have heql := gate_eql_self k a b cc
      go_wp2_with fail
      go_ret
      exact ⟨rfl, hb05⟩
end Go.Proofs.YtffkoeobehocjaaDoor
