/- Contracts of both TableBack, TableThen and TableKeeps. -/
import Derived.Test.YtfpnjahdjppeaaaTabV
import Derived.Test.YtfpnjahdjppeaaaOnes
namespace Go.Proofs.Ytfpnjahdjppeaaa
open Go.RowKit
set_option linter.unusedVariables false

theorem okP_at {m : Int} {xs : List Int} {n k : Nat} (h : okP m xs n = true) (hk : k < n) : inB (xs.getD k 0) 0 m = true := by
  have h1 : okP m xs (k + 1) = true := by
    rcases hq : okP m xs (k + 1) with _ | _
    · rw [okP_le (n := n) (by omega) hq] at h; exact h
    · rfl
  simp only [okP, Bool.and_eq_true] at h1
  exact h1.2.1
theorem tblB_t {l : Int} {xs : List Int} (h : tblB l xs = true) : inB l 1 8 = true ∧ (xs.length : Int) = pw l ∧ okP (pw l - 1) xs xs.length = true := by
  unfold tblB at h
  rw [Bool.and_eq_true, Bool.and_eq_true] at h
  exact ⟨h.1, of_decide_eq_true h.2.1, h.2.2⟩
/-- a valid table has 2 to 256 words, each below its length -/
theorem tblB_bd {l : Int} {xs : List Int} (h : tblB l xs = true) : 2 ≤ xs.length ∧ xs.length ≤ 256 ∧ ∀ k, k < xs.length → 0 ≤ xs.getD k 0 ∧ xs.getD k 0 < xs.length := by
  obtain ⟨h1, h2, h3⟩ := tblB_t h
  have hlv := inB_t h1
  have hp := pw_bd hlv.1 hlv.2
  refine ⟨by omega, by omega, fun k hk => ?_⟩
  have := inB_t (okP_at h3 hk)
  omega
theorem tblB_at {l : Int} {xs : List Int} (h : tblB l xs = true) {k : Nat} (hk : k < xs.length) : ∃ t : Nat, xs.getD k 0 = (t : Int) ∧ t < xs.length := by
  have := (tblB_bd h).2.2 k hk
  exact ⟨(xs.getD k 0).toNat, by omega, by omega⟩

/-- where the words of the first k places lie -/
def backF (xs : List Int) : Nat → Nat → Int
  | 0, _ => 0
  | k + 1, j => if (j : Int) = xs.getD k 0 then (k : Int) else backF xs k j
def backL (xs : List Int) : List Int := (List.range xs.length).map fun j => backF xs xs.length j
theorem backL_len (xs : List Int) : (backL xs).length = xs.length := by simp [backL]
theorem backL_at (xs : List Int) {j : Nat} (h : j < xs.length) : (backL xs).getD j 0 = backF xs xs.length j := by
  simp [backL, List.getD, List.getElem?_map, List.getElem?_range h]
/-- what TableBack answers -/
def tblBack (l : Int) (xs : List Int) : List Int := if tblB l xs = true then backL xs else []
theorem tblBack_y {l : Int} {xs : List Int} (h : tblB l xs = true) : tblBack l xs = backL xs := if_pos h
theorem tblBack_n {l : Int} {xs : List Int} (h : tblB l xs = false) : tblBack l xs = [] := if_neg (by rw [h]; decide)

theorem tblBack_bd (l : Int) (xs : List Int) (h : xs.length ≤ 1048576) : (tblBack l xs).length ≤ 1048576 := by
  unfold tblBack
  split
  · rw [backL_len]; exact h
  · simp

theorem specTableBack_any (l : Int) (A : Option Addr) (n c B : Nat) (xs : List Int) (w : World) (h : Reads w B 1 A n (xs.map (Value.int .i64))) (hB : B ≤ w.heap.size) (hz : xs.length = n) (hc : n ≤ c) (hn : n ≤ 1048576) :
    Calls Try.prog 16 #[.int .i64 l, .slice A n c] w fun e w' => RetL (tblBack l xs) w e w' := by
  have hT := specTableValid_any l A n c B xs w h hz hc (by omega)
  have HT := Lib.hid hT
  clear hT
  cases hv : tblB l xs with
  | false =>
    have Hr := Lib.hid (tblBack_n hv)
    rw [hv] at HT
    clear hv h hz
    go_enter Try.func16, Try.ntmps16
    go_wp2_with fail
    refine HT.out.mono ?_
    rintro e w1 ⟨rfl, d, rfl⟩
    go_wp2_with fail
    go_ret
    exact retL_nil' Hr.out ((below_drewN (Below.refl _ _) d).alloc (Nat.le_refl _) _) rfl
  | true =>
    have Hr := Lib.hid (tblBack_y hv)
    rw [hv] at HT
    have hbd := tblB_bd hv
    have hat := fun k (hk : k < xs.length) => tblB_at hv hk
    have HA := Lib.hid hat
    have HR := Lib.hid h
    have HZ := Lib.hid hz
    rw [hz] at hbd
    have hmk := run_make_row' (P := Try.prog) 23 3 (.int .i64 0) 8 Try.underlying23 infoInt rfl .i64 .i64 n (by omega) (by omega)
    clear h hz hv hat
    go_enter Try.func16, Try.ntmps16
    go_wp2_with fail
    refine HT.out.mono ?_
    rintro e w1 ⟨rfl, d, rfl⟩
    go_wp2_with fail
    clear hmk
    go_loopw [6] (fun i wr => ∃ k : Nat, k ≤ n ∧ i = .int .i64 k ∧ wr.rowIs w.heap.size 3 n (fun j => .int .i64 (backF xs k j)) ∧ Below w.heap.size w wr) (fun i _ => n - (intOf i).toNat)
    case atStart => exact ⟨0, Nat.zero_le _, rfl, World.rowIs_made _ _ _ _, (below_drewN (Below.refl _ _) d).alloc (Nat.le_refl _) _⟩
    case round =>
      obtain ⟨k, hk, rfl, hrow, hb⟩ := hrel
      have Hrow := Lib.hid hrow
      clear hrow
      by_cases hlt : k < n
      · obtain ⟨b, o, rfl, hbB, hcell⟩ := HR.out.open1 HZ.out (by omega)
        obtain ⟨t, ht1, ht2⟩ := HA.out k (by have := HZ.out; omega)
        have htn : t < n := by have := HZ.out; omega
        have hc1 : wr.cell? ⟨b, o + k, none⟩ = some (.int .i64 t) := (hb.cell (p := ⟨b, o + k, none⟩) (by simp; omega)).trans (by rw [← ht1]; exact hcell k hlt)
        have Ht1 := Lib.hid ht1
        clear hcell ht1
        obtain ⟨x, hx1⟩ : ∃ x, wr.cell? ⟨w.heap.size, t, none⟩ = some x := ⟨_, Hrow.out.cell htn⟩
        have hx2 := Hrow.out.frozen t
        have hlt' : (k : Int) < (n : Int) := by omega
        have htn' : (t : Int) < (n : Int) := by omega
        go_wp2_with fail
        go_roundw
        case rel =>
          refine ⟨k + 1, by omega, by go_num, (Hrow.out.set t _).congr fun j hj => ?_, hb.setCell (by simp) _⟩
          simp only [backF]
          rw [Ht1.out]
          by_cases e : j = t
          · subst e; simp
          · rw [if_neg e, if_neg (by omega)]
        case measure => simp [intOf]; omega
      · have hlt' : ¬ (k : Int) < (n : Int) := by omega
        go_wp2_with fail
        go_ret
        rw [Hr.out]
        refine RetL.of_row Hrow.out hb (Nat.le_refl _) (by rw [backL_len, HZ.out]) (fun j hj => ?_) rfl
        rw [backL_at xs (by have := HZ.out; omega), HZ.out, show k = n from by omega]

theorem implTableBack_any (l : Int) (A : Option Addr) (n c B : Nat) (xs : List Int) (w : World) (h : Reads w B 1 A n (xs.map (Value.int .i64))) (hB : B ≤ w.heap.size) (hz : xs.length = n) (hc : n ≤ c) (hn : n ≤ 1048576) :
    Calls Try.prog 14 #[.int .i64 l, .slice A n c] w fun e w' => RetL (tblBack l xs) w e w' := by
  have hT := implTableValid_any l A n c B xs w h hB hz hc (by omega)
  have HT := Lib.hid hT
  clear hT
  cases hv : tblB l xs with
  | false =>
    have Hr := Lib.hid (tblBack_n hv)
    rw [hv] at HT
    clear hv h hz
    go_enter Try.func14, Try.ntmps14
    go_wp2_with fail
    refine HT.out.mono ?_
    rintro e w1 ⟨rfl, hb1⟩
    go_wp2_with fail
    go_ret
    exact retL_nil' Hr.out hb1 rfl
  | true =>
    have Hr := Lib.hid (tblBack_y hv)
    rw [hv] at HT
    have hbd := tblB_bd hv
    have hat := fun k (hk : k < xs.length) => tblB_at hv hk
    have HA := Lib.hid hat
    have HR := Lib.hid h
    have HZ := Lib.hid hz
    rw [hz] at hbd
    have hmk := run_make_row' (P := Try.prog) 23 3 (.int .i64 0) 8 Try.underlying23 infoInt rfl .i64 .i64 n (by omega) (by omega)
    clear h hz hv hat
    go_enter Try.func14, Try.ntmps14
    go_wp2_with fail
    refine HT.out.mono ?_
    rintro e w1 ⟨rfl, hb1⟩
    have hs1 := hb1.size
    go_wp2_with fail
    clear hmk
    go_loopw [17] (fun i wr => ∃ k : Nat, k ≤ n ∧ i = .int .i64 k ∧ wr.rowIs w1.heap.size 3 n (fun j => .int .i64 (backF xs k j)) ∧ Below w.heap.size w wr) (fun i _ => n - (intOf i).toNat)
    case atStart => exact ⟨0, Nat.zero_le _, rfl, World.rowIs_made _ _ _ _, hb1.alloc hs1 _⟩
    case round =>
      obtain ⟨k, hk, rfl, hrow, hb⟩ := hrel
      have Hrow := Lib.hid hrow
      clear hrow
      by_cases hlt : k < n
      · obtain ⟨b, o, rfl, hbB, hcell⟩ := HR.out.open1 HZ.out (by omega)
        obtain ⟨t, ht1, ht2⟩ := HA.out k (by have := HZ.out; omega)
        have htn : t < n := by have := HZ.out; omega
        have hc1 : wr.cell? ⟨b, o + k, none⟩ = some (.int .i64 t) := (hb.cell (p := ⟨b, o + k, none⟩) (by simp; omega)).trans (by rw [← ht1]; exact hcell k hlt)
        have Ht1 := Lib.hid ht1
        clear hcell ht1
        obtain ⟨x, hx1⟩ : ∃ x, wr.cell? ⟨w1.heap.size, t, none⟩ = some x := ⟨_, Hrow.out.cell htn⟩
        have hx2 := Hrow.out.frozen t
        have hlt' : (k : Int) < (n : Int) := by omega
        have htn' : (t : Int) < (n : Int) := by omega
        go_wp2_with fail
        go_roundw
        case rel =>
          refine ⟨k + 1, by omega, by go_num, (Hrow.out.set t _).congr fun j hj => ?_, hb.setCell (by simp; omega) _⟩
          simp only [backF]
          rw [Ht1.out]
          by_cases e : j = t
          · subst e; simp
          · rw [if_neg e, if_neg (by omega)]
        case measure => simp [intOf]; omega
      · have hlt' : ¬ (k : Int) < (n : Int) := by omega
        go_wp2_with fail
        go_ret
        rw [Hr.out]
        refine RetL.of_row Hrow.out hb hs1 (by rw [backL_len, HZ.out]) (fun j hj => ?_) rfl
        rw [backL_at xs (by have := HZ.out; omega), HZ.out, show k = n from by omega]
end Go.Proofs.Ytfpnjahdjppeaaa
