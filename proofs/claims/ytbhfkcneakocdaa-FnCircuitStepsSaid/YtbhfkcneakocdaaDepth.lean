/- Contracts of both CircuitDepth. -/
import Derived.Test.YtbhfkcneakocdaaStepsI
namespace Go.Proofs.Ytbhfkcneakocdaa
open Go.RowKit
set_option linter.unusedVariables false

/-- what CircuitDepth answers -/
def circDepth (l : Int) (gs : List Gt) : Int := if circB l gs = true then mxP (fun x => x) (stepsN gs gs.length) gs.length else -1
theorem circDepth_y {l : Int} {gs : List Gt} (h : circB l gs = true) : circDepth l gs = mxP (fun x => x) (stepsN gs gs.length) gs.length := if_pos h
theorem circDepth_n {l : Int} {gs : List Gt} (h : circB l gs = false) : circDepth l gs = -1 := if_neg (by rw [h]; decide)

theorem depth_bd (gs : List Gt) (n : Nat) (hz : gs.length = n) : ∀ i, i ≤ n → 0 ≤ mxP (fun x => x) (stepsN gs n) i ∧ mxP (fun x => x) (stepsN gs n) i ≤ n := fun i hi =>
  ⟨mxP_pos _ _ _, (mxP_le _ _ _ _ (by omega)).2 fun q hq => by have := stepsN_bd gs n q (by omega); omega⟩

set_option maxHeartbeats 2000000 in
theorem implCircuitDepth_any (l : Int) (A : Option Addr) (n c B : Nat) (gs : List Gt) (w : World) (h : Reads w B 4 A n (gcells gs)) (hB : B ≤ w.heap.size) (hz : gs.length = n) (hc : n ≤ c) (hn : n ≤ 1048576) :
    Calls Try.prog 23 #[.int .i64 l, .slice A n c] w fun e w' => e = .returned (.int .i64 (circDepth l gs)) ∧ Below w.heap.size w w' := by
  have HT := Lib.hid (implCircuitValid_any l A n c B gs w h hB hz hc hn)
  cases hv : circB l gs with
  | false =>
    have Hr := Lib.hid (circDepth_n hv)
    rw [hv] at HT
    clear hv h hz
    go_enter Try.func23, Try.ntmps23
    go_wp2_with fail
    refine HT.out.mono ?_
    rintro e w1 ⟨rfl, hb1⟩
    go_wp2_with fail
    go_ret
    exact ⟨ret_int Hr.out.symm, hb1⟩
  | true =>
    have Hr := Lib.hid (circDepth_y hv)
    have hq := fun W (hb : Below w.heap.size w W) => implCircuitSteps_any l A n c B gs W (h.next hb hB) (Nat.le_trans hB hb.size) hz hc hn
    rw [circSteps_y hv, hz] at hq
    have HQ := Lib.hid hq
    have HD := Lib.hid (depth_bd gs n hz)
    have HL : Hid ((stepsN gs n).length = n) := Lib.hid (stepsN_len gs n)
    have h24 : n ≤ 24 := by have := (circB_t hv).2.2; omega
    rw [hv] at HT
    rw [hz] at Hr
    obtain ⟨zs, ez⟩ : ∃ zs, zs = stepsN gs n := ⟨_, rfl⟩
    rw [← ez] at HQ HD HL Hr
    clear hv h hz hq ez
    go_enter Try.func23, Try.ntmps23
    go_wp2_with fail
    refine HT.out.mono ?_
    rintro e w1 ⟨rfl, hb1⟩
    go_wp2_with fail
    refine (HQ.out _ hb1).mono ?_
    rintro e w2 ⟨A2, c2, rfl, hc2, ho2, hb2⟩
    have hb12 := bnext hb1 hb2 (Nat.le_refl _)
    have HR := Lib.hid (ho2.reads (n := zs.length) (size := 1) (by simp) (by omega))
    rw [HL.out] at HR ⊢
    clear HT HQ ho2
    go_wp2_with fail
    go_loopg [5, 16] n (fun gh s i wr => ∃ k : Nat, k ≤ n ∧ gh = n - k ∧ i = .int .i64 k ∧ s = .int .i64 (mxP (fun x => x) zs k) ∧ wr = w2)
    case atStart => exact ⟨0, Nat.zero_le _, rfl, rfl, rfl, rfl⟩
    case round =>
      obtain ⟨k, hk, hg, rfl, rfl, rfl⟩ := hrel
      have Hg := Lib.hid hg
      have hd := HD.out k hk
      clear hg
      by_cases hlt : k < n
      · have hlt' : (k : Int) < (n : Int) := by omega
        obtain ⟨b, o, rfl, hbB, hcell⟩ := HR.out.open1 HL.out (by omega)
        have hc1 := hcell k hlt
        have hs : mxP (fun x => x) zs (k + 1) = max (mxP (fun x => x) zs k) (zs.getD k 0) := rfl
        obtain ⟨z, ez⟩ : ∃ z, z = zs.getD k 0 := ⟨_, rfl⟩
        obtain ⟨s, es⟩ : ∃ s, s = mxP (fun x => x) zs k := ⟨_, rfl⟩
        rw [← ez] at hc1 hs
        rw [← es] at hs hd ⊢
        obtain ⟨u, eu⟩ : ∃ u, u = max s z := ⟨_, rfl⟩
        have hmx : (if s < z then z else s) = u := by rw [eu]; exact max_form _ _
        have Hu : Hid (mxP (fun x => x) zs (k + 1) = u) := Lib.hid (by rw [hs, eu])
        clear hcell hs ez es eu
        go_wp2_with fail
        go_roundg (n - (k + 1))
        case measure => have := Hg.out; omega
        case rel => exact ⟨k + 1, by omega, rfl, by go_num, by rw [Hu.out], rfl⟩
      · have hlt' : ¬ (k : Int) < (n : Int) := by omega
        obtain rfl : k = n := by omega
        go_wp2_with fail
        go_ret
        exact ⟨ret_int Hr.out.symm, hb12⟩

set_option maxHeartbeats 2000000 in
theorem specCircuitDepth_any (l : Int) (A : Option Addr) (n c B : Nat) (gs : List Gt) (w : World) (h : Reads w B 4 A n (gcells gs)) (hB : B ≤ w.heap.size) (hz : gs.length = n) (hc : n ≤ c) (hn : n ≤ 1048576) :
    Calls Try.prog 24 #[.int .i64 l, .slice A n c] w fun e w' => e = .returned (.int .i64 (circDepth l gs)) ∧ Below w.heap.size w w' := by
  have HT := Lib.hid (specCircuitValid_any l A n c B gs w h hB hz hc hn)
  cases hv : circB l gs with
  | false =>
    have Hr := Lib.hid (circDepth_n hv)
    rw [hv] at HT
    clear hv h hz
    go_enter Try.func24, Try.ntmps24
    go_wp2_with fail
    refine HT.out.mono ?_
    rintro e w1 ⟨rfl, hb1⟩
    go_wp2_with fail
    go_ret
    exact ⟨ret_int Hr.out.symm, hb1⟩
  | true =>
    have Hr := Lib.hid (circDepth_y hv)
    have hq := fun W (hb : Below w.heap.size w W) => specCircuitSteps_any l A n c B gs W (h.next hb hB) (Nat.le_trans hB hb.size) hz hc hn
    rw [circSteps_y hv, hz] at hq
    have HQ := Lib.hid hq
    have HD := Lib.hid (depth_bd gs n hz)
    have HL : Hid ((stepsN gs n).length = n) := Lib.hid (stepsN_len gs n)
    have h24 : n ≤ 24 := by have := (circB_t hv).2.2; omega
    rw [hv] at HT
    rw [hz] at Hr
    obtain ⟨zs, ez⟩ : ∃ zs, zs = stepsN gs n := ⟨_, rfl⟩
    rw [← ez] at HQ HD HL Hr
    clear hv h hz hq ez
    go_enter Try.func24, Try.ntmps24
    go_wp2_with fail
    refine HT.out.mono ?_
    rintro e w1 ⟨rfl, hb1⟩
    go_wp2_with fail
    refine (HQ.out _ hb1).mono ?_
    rintro e w2 ⟨A2, c2, rfl, hc2, ho2, hb2⟩
    have hb12 := bnext hb1 hb2 (Nat.le_refl _)
    have HR := Lib.hid (ho2.reads (n := zs.length) (size := 1) (by simp) (by omega))
    rw [HL.out] at HR ⊢
    clear HT HQ ho2
    go_wp2_with fail
    go_loopg [5, 7] n (fun gh s i wr => ∃ k : Nat, k ≤ n ∧ gh = n - k ∧ i = .int .i64 k ∧ s = .int .i64 (mxP (fun x => x) zs k) ∧ wr = w2)
    case atStart => exact ⟨0, Nat.zero_le _, rfl, rfl, rfl, rfl⟩
    case round =>
      obtain ⟨k, hk, hg, rfl, rfl, rfl⟩ := hrel
      have Hg := Lib.hid hg
      have hd := HD.out k hk
      clear hg
      by_cases hlt : k < n
      · have hlt' : (k : Int) < (n : Int) := by omega
        obtain ⟨b, o, rfl, hbB, hcell⟩ := HR.out.open1 HL.out (by omega)
        have hc1 := hcell k hlt
        have hs : mxP (fun x => x) zs (k + 1) = max (mxP (fun x => x) zs k) (zs.getD k 0) := rfl
        obtain ⟨z, ez⟩ : ∃ z, z = zs.getD k 0 := ⟨_, rfl⟩
        obtain ⟨s, es⟩ : ∃ s, s = mxP (fun x => x) zs k := ⟨_, rfl⟩
        rw [← ez] at hc1 hs
        rw [← es] at hs hd ⊢
        obtain ⟨u, eu⟩ : ∃ u, u = max s z := ⟨_, rfl⟩
        have hmx : (if s < z then z else s) = u := by rw [eu]; exact max_form _ _
        have Hu : Hid (mxP (fun x => x) zs (k + 1) = u) := Lib.hid (by rw [hs, eu])
        clear hcell hs ez es eu
        go_wp2_with fail
        go_roundg (n - (k + 1))
        case measure => have := Hg.out; omega
        case rel => exact ⟨k + 1, by omega, rfl, by go_num, by rw [Hu.out], rfl⟩
      · have hlt' : ¬ (k : Int) < (n : Int) := by omega
        obtain rfl : k = n := by omega
        go_wp2_with fail
        go_ret
        exact ⟨ret_int Hr.out.symm, hb12⟩
end Go.Proofs.Ytbhfkcneakocdaa
