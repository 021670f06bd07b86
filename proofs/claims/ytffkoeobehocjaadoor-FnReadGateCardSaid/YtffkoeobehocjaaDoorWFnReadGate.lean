/- Walk of the law FnReadGate: it returns true and writes nothing that was there. -/
import Derived.Test.YtffkoeobehocjaaDoorDrawY
import Derived.Test.YtffkoeobehocjaaDoorRdS
import Derived.Test.YtffkoeobehocjaaDoorRdI
import Derived.Test.YtffkoeobehocjaaDoorGeq
namespace Go.Proofs.YtffkoeobehocjaaDoor
open Go.RowKit
set_option linter.unusedVariables false
set_option linter.unusedSimpArgs false

theorem implReadGate_s2 (l : List UInt8) (hl : l.length ≤ 2000000) (w : World) (hM : MaxLen w) :
    Calls Tryd.prog 28 #[.string ⟨l.toArray⟩] w fun e w' => e = .returned (.tuple #[(rdG (candS l) l).val, .bool (rdOk (candS l) l)]) ∧ Below w.heap.size w w' := by
  have h := implReadGate_any l hl w hM
  rw [(rd_same l).1, (rd_same l).2] at h
  exact h

set_option maxHeartbeats 4000000 in
set_option maxRecDepth 50000 in
theorem walk_FnReadGate (A : Option Addr) (n c : Nat) (zs : List Int) (w : World) (h : IntsIn .u8 w A n c zs) (hM : MaxLen w) :
    Calls Tryd.prog 10 #[.slice A n c] w fun e w' => e = .returned (.bool true) ∧ Below w.heap.size w w' := by
  have hn1 : n ≤ 9223372036854775807 := by have := h.1; have := h.2.1; unfold maxLen at this; omega
  by_cases hn : 1048576 < n
  · clear h hM
    go_enter Tryd.func10, Tryd.ntmps10
    go_wp2_with fail
    go_ret
    exact ⟨rfl, Below.refl _ _⟩
  · have HD := Lib.hid (drawReadGate_any A n c zs w h)
    have HM := Lib.hid hM
    clear h hM
    go_enter Tryd.func10, Tryd.ntmps10
    go_wp2_with fail
    refine HD.out.mono ?_
    rintro e w1 ⟨⟨l, rfl, hl⟩, hb⟩
    have C1 := Lib.hid (fun W h => implReadGate_s2 l (by omega) W h)
    have C2 := Lib.hid (fun W => specReadGate_any l (by omega) W)
    have C3 := Lib.hid (fun W h => implReadGate_s2 (l ++ [32]) (by simp; omega) W h)
    have hno := rd_blank (candS (l ++ [32])) l
    rw [rdG_f hno, hno] at C3
    have HT := Lib.hid (fun h => rdG_t (c := candS l) (l := l) h)
    have HF := Lib.hid (fun h => rdG_f (c := candS l) (l := l) h)
    have HO := Lib.hid (fun h => (rdOk_t (c := candS l) (l := l) h).1)
    have HA := Lib.hid (fun W => add_tx l [32] (by omega) (by simp) W)
    obtain ⟨g, eg⟩ : ∃ g, g = rdG (candS l) l := ⟨_, rfl⟩
    obtain ⟨v, ev⟩ : ∃ v, v = rdOk (candS l) l := ⟨_, rfl⟩
    obtain ⟨m, em⟩ : ∃ m, m = l ++ [32] := ⟨_, rfl⟩
    rw [← eg, ← ev] at C1 C2
    rw [← eg, ← ev] at HT HF
    rw [← ev] at HO
    rw [← em] at C3 HA
    have HG : Hid (v = true → gateTx g = l) := Lib.hid fun h => by rw [HT.out h]; exact HO.out h
    clear eg ev em hno HO HT HD
    obtain ⟨k, a, b, cc⟩ := g
    have CT := Lib.hid (fun W => implGateText_any ⟨k, a, b, cc⟩ W)
    unfold Gt.val at C1 C2 C3 CT
    dsimp only at C1 C2 C3 CT
    have hM1 := Lib.hid (HM.out.below hb)
    have hsz1 := hb.size
    go_wp2_with fail
    refine (C1.out w1 hM1.out).mono ?_
    rintro e w2 ⟨rfl, hb2⟩
    have hb02 := bnext hb hb2 (Nat.le_refl _)
    clear hb hb2 hM1
    obtain ⟨wg, hwg⟩ : ∃ wg, wg = w2.alloc (.cells #[.int .i64 k, .int .i64 a, .int .i64 b, .int .i64 cc] 40) := ⟨_, rfl⟩
    have hbg : Below w2.heap.size w2 wg := by rw [hwg]; exact (Below.refl _ _).alloc (Nat.le_refl _) _
    have hB : Blk wg w2.heap.size 40 #[.int .i64 k, .int .i64 a, .int .i64 b, .int .i64 cc] := by rw [hwg]; exact Blk.new _ _ _
    have hb0g := bnext hb02 hbg (Nat.le_refl _)
    have HWG := Lib.hid hwg
    clear hwg hbg hb02
    go_wp2_with fail
    rw [← HWG.out]
    clear HWG
    refine (C2.out wg).mono ?_
    rintro e w3 ⟨rfl, hb3⟩
    replace hB := hB.next hb3
    have hb03 := bnext hb0g hb3 (Nat.le_refl _)
    clear hb3 hb0g
    obtain ⟨wh, hwh⟩ : ∃ wh, wh = w3.alloc (.cells #[.int .i64 k, .int .i64 a, .int .i64 b, .int .i64 cc] 40) := ⟨_, rfl⟩
    have hbh : Below w3.heap.size w3 wh := by rw [hwh]; exact (Below.refl _ _).alloc (Nat.le_refl _) _
    have hT : Blk wh w3.heap.size 40 #[.int .i64 k, .int .i64 a, .int .i64 b, .int .i64 cc] := by rw [hwh]; exact Blk.new _ _ _
    replace hB := hB.next hbh
    have hb04 := bnext hb03 hbh (Nat.le_refl _)
    have HWH := Lib.hid hwh
    clear hwh hbh hb03
    have t0 : wh.cell? ⟨w3.heap.size, 0, none⟩ = some (.int .i64 k) := hT.cell 0
    have t1 : wh.cell? ⟨w3.heap.size, 1, none⟩ = some (.int .i64 a) := hT.cell 1
    have t2 : wh.cell? ⟨w3.heap.size, 2, none⟩ = some (.int .i64 b) := hT.cell 2
    have t3 : wh.cell? ⟨w3.heap.size, 3, none⟩ = some (.int .i64 cc) := hT.cell 3
    have u0 : wh.cell? ⟨w2.heap.size, 0, none⟩ = some (.int .i64 k) := hB.cell 0
    have u1 : wh.cell? ⟨w2.heap.size, 1, none⟩ = some (.int .i64 a) := hB.cell 1
    have u2 : wh.cell? ⟨w2.heap.size, 2, none⟩ = some (.int .i64 b) := hB.cell 2
    have u3 : wh.cell? ⟨w2.heap.size, 3, none⟩ = some (.int .i64 cc) := hB.cell 3
    have hneq := gate_neq_self k a b cc
    have heql := gate_eql_self 0 0 0 0
    rw [HWH.out] at t0 t1 t2 t3 u0 u1 u2 u3
    have hvv : (v != v) = false := by simp
    have HB := Lib.hid hB
    have HH := Lib.hid hb04
    clear hT hB hb04
    cases v with
    | false =>
      have hz := HF.out rfl
      obtain ⟨rfl, rfl, rfl, rfl⟩ : k = 0 ∧ a = 0 ∧ b = 0 ∧ cc = 0 := by injection hz with h1 h2 h3 h4; exact ⟨h1, h2, h3, h4⟩
      go_wp2_with (go_at_call 20; refine (alive_any _).mono ?_; rintro e w' ⟨rfl, rfl⟩)
      go_ret
      rw [← HWH.out]
      exact ⟨rfl, HH.out⟩
    | true =>
      have hg := HG.out rfl
      rw [hg] at CT
      have hM4 := Lib.hid (HM.out.below HH.out)
      have A1 := HA.out
      go_wp2_with fail
      rw [← HWH.out]
      refine (C3.out wh hM4.out).mono ?_
      rintro e w5 ⟨rfl, hb5⟩
      have hb05 := bnext HH.out hb5 (Nat.le_refl _)
      have hB5 := HB.out.next hb5
      clear t0 t1 t2 t3 u0 u1 u2 u3 hb5
      obtain ⟨wi, hwi⟩ : ∃ wi, wi = w5.alloc (.cells #[.int .i64 0, .int .i64 0, .int .i64 0, .int .i64 0] 40) := ⟨_, rfl⟩
      have hbi : Below w5.heap.size w5 wi := by rw [hwi]; exact (Below.refl _ _).alloc (Nat.le_refl _) _
      replace hB5 := hB5.next hbi
      have hb06 := bnext hb05 hbi (Nat.le_refl _)
      have u0 : wi.cell? ⟨w2.heap.size, 0, none⟩ = some (.int .i64 k) := hB5.cell 0
      have u1 : wi.cell? ⟨w2.heap.size, 1, none⟩ = some (.int .i64 a) := hB5.cell 1
      have u2 : wi.cell? ⟨w2.heap.size, 2, none⟩ = some (.int .i64 b) := hB5.cell 2
      have u3 : wi.cell? ⟨w2.heap.size, 3, none⟩ = some (.int .i64 cc) := hB5.cell 3
      rw [hwi] at u0 u1 u2 u3
      have HWI := Lib.hid hwi
      clear hwi hbi hb05 hB5
      have hll : (l == l) = true := by simp
      go_wp2_with fail
      rw [← HWI.out]
      refine (CT.out wi).mono ?_
      rintro e w6 ⟨rfl, hb6⟩
      have hb07 := bnext hb06 hb6 (Nat.le_refl _)
      go_wp2_with fail
      go_ret
      exact ⟨rfl, hb07⟩
end Go.Proofs.YtffkoeobehocjaaDoor
