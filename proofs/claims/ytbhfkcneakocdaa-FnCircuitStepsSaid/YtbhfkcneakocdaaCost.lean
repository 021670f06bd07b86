/- Contracts of both CircuitCost. -/
import Derived.Test.YtbhfkcneakocdaaCirc
namespace Go.Proofs.Ytbhfkcneakocdaa
open Go.RowKit
set_option linter.unusedVariables false

/-- what a gate of a kind costs -/
def costK (k : Int) : Int := if k = 2 then 5 else if k = 3 then 3 else if k = 4 then 7 else 1
theorem costK_bd (k : Int) : 1 ≤ costK k ∧ costK k ≤ 7 := by
  unfold costK
  repeat' split
  all_goals omega
/-- what the first k gates cost -/
def costN (gs : List Gt) : Nat → Int
  | 0 => 0
  | k + 1 => costN gs k + costK (gs.getD k g0).k
theorem costN_bd (gs : List Gt) (k : Nat) : (k : Int) ≤ costN gs k ∧ costN gs k ≤ 7 * k := by
  induction k with
  | zero => simp [costN]
  | succ k ih =>
    have := costK_bd (gs.getD k g0).k
    simp only [costN]
    omega
/-- what CircuitCost answers -/
def circCost (l : Int) (gs : List Gt) : Int := if circB l gs = true then costN gs gs.length else -1
theorem circCost_y {l : Int} {gs : List Gt} (h : circB l gs = true) : circCost l gs = costN gs gs.length := if_pos h
theorem circCost_n {l : Int} {gs : List Gt} (h : circB l gs = false) : circCost l gs = -1 := if_neg (by rw [h]; decide)
theorem gateB_kind {l : Int} {g : Gt} (h : gateB l g = true) : inB g.k 0 4 = true := by
  unfold gateB at h
  simp only [Bool.and_eq_true] at h
  exact h.1.1.2
theorem nat_idx (k : Int) (h : inB k 0 4 = true) : ∃ (nm : ByteArray) (li ch : Int), ∀ w, (Instr.index 55 (.agg nats) (.int .i64 k)).run Try.prog w = .ok (.agg #[.string nm, .int .i64 li, .int .i64 ch, .int .i64 (costK k)]) w := by
  have := inB_t h
  have h5 : k = 0 ∨ k = 1 ∨ k = 2 ∨ k = 3 ∨ k = 4 := by omega
  rcases h5 with rfl | rfl | rfl | rfl | rfl
  · exact ⟨_, _, _, idx0⟩
  · exact ⟨_, _, _, idx1⟩
  · exact ⟨_, _, _, idx2⟩
  · exact ⟨_, _, _, idx3⟩
  · exact ⟨_, _, _, idx4⟩

theorem fld3 (nm : ByteArray) (li ch co : Int) (w : World) : (Instr.field 54 (.agg #[.string nm, .int .i64 li, .int .i64 ch, .int .i64 co]) 3).run Try.prog w = .ok (.int .i64 co) w := by kernel_rfl

set_option maxHeartbeats 2000000 in
theorem specCircuitCost_any (l : Int) (A : Option Addr) (n c B : Nat) (gs : List Gt) (w : World) (h : Reads w B 4 A n (gcells gs)) (hB : B ≤ w.heap.size) (hz : gs.length = n) (hc : n ≤ c) (hn : n ≤ 1048576) :
    Calls Try.prog 14 #[.int .i64 l, .slice A n c] w fun e w' => e = .returned (.int .i64 (circCost l gs)) ∧ Below w.heap.size w w' := by
  have HT := Lib.hid (specCircuitValid_any l A n c B gs w h hB hz hc hn)
  cases hv : circB l gs with
  | false =>
    have Hr := Lib.hid (circCost_n hv)
    rw [hv] at HT
    clear hv h hz
    go_enter Try.func14, Try.ntmps14
    go_wp2_with fail
    refine HT.out.mono ?_
    rintro e w1 ⟨rfl, hb1⟩
    go_wp2_with fail
    go_ret
    exact ⟨ret_int Hr.out.symm, hb1⟩
  | true =>
    have Hr := Lib.hid (circCost_y hv)
    have HR := Lib.hid h
    have HZ := Lib.hid hz
    have HV := Lib.hid hv
    have HC := Lib.hid (costN_bd gs)
    have h24 : n ≤ 24 := by have := (circB_t hv).2.2; omega
    rw [hv] at HT
    clear hv h hz
    go_enter Try.func14, Try.ntmps14
    go_wp2_with fail
    refine HT.out.mono ?_
    rintro e w1 ⟨rfl, hb1⟩
    clear HT
    go_wp2_with fail
    go_loopg [5, 6] n (fun gh s i wr => ∃ k : Nat, k ≤ n ∧ gh = n - k ∧ i = .int .i64 k ∧ s = .int .i64 (costN gs k) ∧ Below w.heap.size w wr)
    case atStart => exact ⟨0, Nat.zero_le _, rfl, rfl, rfl, hb1⟩
    case round =>
      obtain ⟨k, hk, hg, rfl, rfl, hb⟩ := hrel
      have Hg := Lib.hid hg
      have hs := hb.size
      clear hg
      by_cases hlt : k < n
      · obtain ⟨b, o, rfl, hbB, hcell⟩ := HR.out.openG HZ.out (by omega)
        have hgk := gateB_kind (circB_mem HV.out (k := k) (by have := HZ.out; omega))
        obtain ⟨g, eg⟩ : ∃ g, g = gs.getD k g0 := ⟨_, rfl⟩
        have hb2 : Below w.heap.size w (wr.alloc (.cells #[.int .i64 1, .int .i64 1, .int .i64 5, .int .i64 3, .int .i64 7] 3)) := hb.alloc hs _
        have hgat := (hcell k hlt).below hb2 (by omega)
        have hcs : costN gs (k + 1) = costN gs k + costK (gs.getD k g0).k := rfl
        rw [← eg] at hgat hgk hcs
        obtain ⟨x0, x1, x2, x3⟩ := g
        obtain ⟨q0, q1, q2, q3⟩ := hgat
        simp only at q0 q1 q2 q3 hgk hcs
        have hk4 := inB_t hgk
        obtain ⟨x, rfl⟩ := Int.eq_ofNat_of_zero_le hk4.1
        have hbk := Blk.new wr 3 #[.int .i64 1, .int .i64 1, .int .i64 5, .int .i64 3, .int .i64 7]
        have hx : (wr.alloc (.cells #[.int .i64 1, .int .i64 1, .int .i64 5, .int .i64 3, .int .i64 7] 3)).cell? ⟨wr.heap.size, x, none⟩ = some (.int .i64 (costK x)) := by
          rw [hbk.cell]
          have h5 : x = 0 ∨ x = 1 ∨ x = 2 ∨ x = 3 ∨ x = 4 := by omega
          rcases h5 with rfl | rfl | rfl | rfl | rfl <;> rfl
        have hx5 : (x : Int) < 5 := by omega
        have hlt' : (k : Int) < (n : Int) := by omega
        have hcb := HC.out k
        have hcb1 := costK_bd x
        have Hcs := Lib.hid hcs
        obtain ⟨z, ez⟩ : ∃ z, z = costK (x : Int) := ⟨_, rfl⟩
        obtain ⟨y, ey⟩ : ∃ y, y = costN gs k := ⟨_, rfl⟩
        rw [← ez] at hx hcb1 Hcs
        rw [← ey] at hcb Hcs ⊢
        clear hcell eg hgk hbk hcs ez ey
        go_wp2_with fail
        go_roundg (n - (k + 1))
        case measure => have := Hg.out; omega
        case rel => exact ⟨k + 1, by omega, rfl, by go_num, by rw [Hcs.out], hb2⟩
      · have hlt' : ¬ (k : Int) < (n : Int) := by omega
        have hkn : k = n := by omega
        subst hkn
        go_wp2_with fail
        go_ret
        exact ⟨ret_int (by rw [Hr.out, HZ.out]), hb⟩

set_option maxHeartbeats 2000000 in
set_option maxRecDepth 50000 in
theorem implCircuitCost_any (l : Int) (A : Option Addr) (n c B : Nat) (gs : List Gt) (w : World) (h : Reads w B 4 A n (gcells gs)) (hB : B ≤ w.heap.size) (hz : gs.length = n) (hc : n ≤ c) (hn : n ≤ 1048576) :
    Calls Try.prog 13 #[.int .i64 l, .slice A n c] w fun e w' => e = .returned (.int .i64 (circCost l gs)) ∧ Below w.heap.size w w' := by
  have HT := Lib.hid (implCircuitValid_any l A n c B gs w h hB hz hc hn)
  cases hv : circB l gs with
  | false =>
    have Hr := Lib.hid (circCost_n hv)
    rw [hv] at HT
    clear hv h hz
    go_enter Try.func13, Try.ntmps13
    go_wp2_with fail
    refine HT.out.mono ?_
    rintro e w1 ⟨rfl, hb1⟩
    go_wp2_with fail
    go_ret
    exact ⟨ret_int Hr.out.symm, hb1⟩
  | true =>
    have Hr := Lib.hid (circCost_y hv)
    have HR := Lib.hid h
    have HZ := Lib.hid hz
    have HV := Lib.hid hv
    have HC := Lib.hid (costN_bd gs)
    have h24 : n ≤ 24 := by have := (circB_t hv).2.2; omega
    rw [hv] at HT
    clear hv h hz
    go_enter Try.func13, Try.ntmps13
    go_wp2_with fail
    refine HT.out.mono ?_
    rintro e w1 ⟨rfl, hb1⟩
    clear HT
    go_wp2_with fail
    go_loopg [5, 14] n (fun gh s i wr => ∃ k : Nat, k ≤ n ∧ gh = n - k ∧ i = .int .i64 k ∧ s = .int .i64 (costN gs k) ∧ Below w.heap.size w wr)
    case atStart => exact ⟨0, Nat.zero_le _, rfl, rfl, rfl, hb1⟩
    case round =>
      obtain ⟨k, hk, hg, rfl, rfl, hb⟩ := hrel
      have Hg := Lib.hid hg
      have hs := hb.size
      clear hg
      by_cases hlt : k < n
      · obtain ⟨b, o, rfl, hbB, hcell⟩ := HR.out.openG HZ.out (by omega)
        have hgk := gateB_kind (circB_mem HV.out (k := k) (by have := HZ.out; omega))
        obtain ⟨g, eg⟩ : ∃ g, g = gs.getD k g0 := ⟨_, rfl⟩
        have hgat := (hcell k hlt).below hb (by omega)
        have hcs : costN gs (k + 1) = costN gs k + costK (gs.getD k g0).k := rfl
        rw [← eg] at hgat hgk hcs
        obtain ⟨x0, x1, x2, x3⟩ := g
        obtain ⟨q0, q1, q2, q3⟩ := hgat
        simp only at q0 q1 q2 q3 hgk hcs
        obtain ⟨nm, li, ch, hidx⟩ := nat_idx x0 hgk
        have hlt' : (k : Int) < (n : Int) := by omega
        have hcb := HC.out k
        have hcb1 := costK_bd x0
        have Hcs := Lib.hid hcs
        obtain ⟨z, ez⟩ : ∃ z, z = costK x0 := ⟨_, rfl⟩
        obtain ⟨y, ey⟩ : ∃ y, y = costN gs k := ⟨_, rfl⟩
        rw [← ez] at hcb1 Hcs hidx
        rw [← ey] at hcb Hcs ⊢
        clear hcell eg hgk hcs ez ey
        go_wp2_with fail
        have hf3 := fld3 nm li ch z
        go_region_with (go_at_call 41; (with_reducible refine (natures_any _).mono ?_); rintro e w2 ⟨rfl, hb2⟩; obtain ⟨hc2, hf2⟩ := bcell hb2; have hz2 := hb2.size)
        all_goals
          go_wp2_with fail
          go_roundg (n - (k + 1))
          case measure => have := Hg.out; omega
          case rel => exact ⟨k + 1, by omega, rfl, by go_num, by rw [Hcs.out], (hb.alloc hs _).drew.trans (hb2.mono (by simp; omega))⟩
      · have hlt' : ¬ (k : Int) < (n : Int) := by omega
        have hkn : k = n := by omega
        subst hkn
        go_wp2_with fail
        go_ret
        exact ⟨ret_int (by rw [Hr.out, HZ.out]), hb⟩
end Go.Proofs.Ytbhfkcneakocdaa
