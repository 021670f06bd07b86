/- Walk of the law FnExactReadGate: it returns true and writes nothing that was there. -/
import Derived.Test.YtffkoeobehocjaaDoorRdS
import Derived.Test.YtffkoeobehocjaaDoorRdI
import Derived.Test.YtffkoeobehocjaaDoorGs
namespace Go.Proofs.YtffkoeobehocjaaDoor
open Go.RowKit
set_option linter.unusedVariables false
set_option linter.unusedSimpArgs false

theorem implReadGate_s (l : List UInt8) (hl : l.length ≤ 2000000) (w : World) (hM : MaxLen w) :
    Calls Tryd.prog 28 #[.string ⟨l.toArray⟩] w fun e w' => e = .returned (.tuple #[(rdG (candS l) l).val, .bool (rdOk (candS l) l)]) ∧ Below w.heap.size w w' := by
  have h := implReadGate_any l hl w hM
  rw [(rd_same l).1, (rd_same l).2] at h
  exact h

set_option maxHeartbeats 4000000 in
set_option maxRecDepth 50000 in
theorem walk_FnExactReadGate (s : ByteArray) (w : World) (hM : MaxLen w) :
    Calls Tryd.prog 8 #[.string s] w fun e w' => e = .returned (.bool true) ∧ Below w.heap.size w w' := by
  obtain ⟨l, es⟩ : ∃ l : List UInt8, s = ⟨l.toArray⟩ := ⟨s.data.toList, by cases s; simp⟩
  have hsz : s.size = l.length := by rw [es]; simp [ByteArray.size]
  have ES := Lib.hid es
  clear es
  by_cases hlen : l.length ≤ 1048576
  · have hlen' : ¬ 1048576 < (l.length : Int) := by omega
    have H1 := Lib.hid (fun W => specReadGate_any l (by omega) W)
    have H2 := Lib.hid (fun W h => implReadGate_s l (by omega) W h)
    rw [← ES.out] at H1 H2
    obtain ⟨g, eg⟩ : ∃ g, g = rdG (candS l) l := ⟨_, rfl⟩
    obtain ⟨ok, eo⟩ : ∃ ok, ok = rdOk (candS l) l := ⟨_, rfl⟩
    rw [← eg, ← eo] at H1 H2
    clear eg eo
    obtain ⟨k, a, b, c⟩ := g
    unfold Gt.val at H1 H2
    dsimp only at H1 H2
    have HM := Lib.hid hM
    clear hM
    go_enter Tryd.func8, Tryd.ntmps8
    go_wp2_with fail
    refine (H1.out _).mono ?_
    rintro e w1 ⟨rfl, hb1⟩
    have hM1 := Lib.hid ((HM.out.below hb1).below ((Below.refl _ _).alloc (Nat.le_refl _) (.cells #[.int .i64 k, .int .i64 a, .int .i64 b, .int .i64 c] 40)))
    have B1 := Blk.new w1 40 #[.int .i64 k, .int .i64 a, .int .i64 b, .int .i64 c]
    have hz1 := hb1.size
    have W1 := hb1.alloc hz1 (.cells #[.int .i64 k, .int .i64 a, .int .i64 b, .int .i64 c] 40)
    clear hb1
    go_wp2_with fail
    refine (H2.out _ hM1.out).mono ?_
    rintro e w2 ⟨rfl, hb2⟩
    replace B1 := (B1.below hb2 B1.lt).alloc (.cells #[.int .i64 k, .int .i64 a, .int .i64 b, .int .i64 c] 40)
    have B2 := Blk.new w2 40 #[.int .i64 k, .int .i64 a, .int .i64 b, .int .i64 c]
    have hz2 := hb2.size
    simp only [World.size_alloc] at hz2
    have W2 := (W1.trans (hb2.mono (by simp; omega))).alloc (by omega) (.cells #[.int .i64 k, .int .i64 a, .int .i64 b, .int .i64 c] 40)
    clear hb2 W1
    have p0 : _ = some (Value.int .i64 k) := B1.cell 0
    have p1 : _ = some (Value.int .i64 a) := B1.cell 1
    have p2 : _ = some (Value.int .i64 b) := B1.cell 2
    have p3 : _ = some (Value.int .i64 c) := B1.cell 3
    have q0 : _ = some (Value.int .i64 k) := B2.cell 0
    have q1 : _ = some (Value.int .i64 a) := B2.cell 1
    have q2 : _ = some (Value.int .i64 b) := B2.cell 2
    have q3 : _ = some (Value.int .i64 c) := B2.cell 3
    clear B1 B2
    go_wp2_with fail
    refine (eqGate_same k a b c _).mono ?_
    rintro e w3 ⟨rfl, hb3⟩
    have W3 := W2.trans (hb3.mono (by simp; omega))
    clear hb3 W2
    have hoo : (ok != ok) = false := by simp
    go_wp2_with fail
    go_ret
    exact ⟨rfl, W3⟩
  · have hlen' : 1048576 < (l.length : Int) := by omega
    go_enter Tryd.func8, Tryd.ntmps8
    go_wp2_with fail
    go_ret
    exact ⟨rfl, Below.refl _ _⟩
end Go.Proofs.YtffkoeobehocjaaDoor
