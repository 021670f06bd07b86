/- Contracts of both Ripple. -/
import Derived.Test.YtpciidimmkohiaaGs
namespace Go.Proofs.Ytpciidimmkohiaa
open Go.RowKit
set_option linter.unusedVariables false

def ripN (n : Nat) : List Gt := (List.range n).map fun k : Nat => ⟨1, k, k + 1, 0⟩
theorem ripN_len (n : Nat) : (ripN n).length = n := by simp [ripN]
theorem ripN_succ (n : Nat) : gcells (ripN (n + 1)) = gcells (ripN n) ++ [.int .i64 1, .int .i64 n, .int .i64 ((n : Int) + 1), .int .i64 0] := by
  unfold ripN
  rw [List.range_succ, List.map_append, gcells_app]
  rfl
/-- what Ripple answers -/
def rip (l : Int) : List Gt := if inB l 1 8 = true then ripN (l - 1).toNat else []
theorem rip_bd (l : Int) : (rip l).length ≤ 1048576 := by
  unfold rip
  split
  · rename_i h
    have := inB_t h
    rw [ripN_len]
    omega
  · simp

set_option maxHeartbeats 1000000 in
theorem implRipple_any (l : Int) (w : World) : Calls Try.prog 16 #[.int .i64 l] w fun e w' => RetG (rip l) w e w' := by
  cases hv : inB l 1 8 with
  | false =>
    have Hr : Hid (rip l = []) := Lib.hid (by unfold rip; rw [hv]; rfl)
    go_enter Try.func16, Try.ntmps16
    go_wp2_with (go_at_call 50; refine (linesOk_any _ _).mono ?_; rintro e w' ⟨rfl, rfl⟩)
    go_ret
    exact retG_nil Hr.out (Below.refl _ _) rfl
  | true =>
    have hl := inB_t hv
    obtain ⟨n, en⟩ : ∃ n : Nat, l = (n : Int) + 1 := ⟨(l - 1).toNat, by omega⟩
    subst en
    have Hr : Hid (rip ((n : Int) + 1) = ripN n) := Lib.hid (by unfold rip; rw [if_pos hv, show (n : Int) + 1 - 1 = n from by omega]; rfl)
    have hn8 : n ≤ 7 := by omega
    have hmk := mk_capG n (by omega)
    have hsub : (n : Int) + 1 - 1 = (n : Int) := by omega
    obtain ⟨ig, gi, gz0, gz1, gz2⟩ := info_parts infoGate
    go_enter Try.func16, Try.ntmps16
    go_wp2_with (go_at_call 50; refine (linesOk_any _ _).mono ?_; rintro e w' ⟨rfl, rfl⟩)
    clear hmk hsub hv
    go_loopg [3, 13] n (fun gh v i wr => ∃ k : Nat, k ≤ n ∧ gh = n - k ∧ i = .int .i64 k ∧ wr.ownsRow w.heap.size 31 4 v k (gcells (ripN k)) ∧ Below w.heap.size w wr)
    case atStart =>
      exact ⟨0, Nat.zero_le _, rfl, rfl, by simpa [ripN, gcells] using World.ownsRow_made (base := w.heap.size) (e := 31) (size := 4) w (madeCells #[.int .i64 0, .int .i64 0, .int .i64 0, .int .i64 0] (n * 4)) n (Nat.le_refl _) (by unfold maxLen; omega) (by simp [size_madeCells]), (Below.refl _ _).alloc (Nat.le_refl _) _⟩
    case round =>
      obtain ⟨k, hk, hg, rfl, hown, hb⟩ := hrel
      have Hg := Lib.hid hg
      have hs := hb.size
      have hlw := hown.lt
      clear hg
      by_cases hlt : k < n
      · have hlt' : (k : Int) < (n : Int) := by omega
        go_wp2_with (at_builtin; refine wpList_append_own _ rfl _ _ 22 rfl w.heap.size 31 ig (.agg #[.int .i64 0, .int .i64 0, .int .i64 0, .int .i64 0]) 4 32 Try.underlying22 gi gz0 gz1 gz2 rfl (by decide) _ _ _ rfl (hown.alloc _) ⟨wr.heap.size, 0, none⟩ 1 1 [.int .i64 1, .int .i64 k, .int .i64 ((k : Int) + 1), .int .i64 0] rfl rfl (cells_new _ _ _) (by simp [Value.oneCell']) (by unfold maxLen; omega) (by omega) (by simp; omega) ?_; intro v' w3 hown' hgrow _)
        have hb' := (hb.alloc hs (Obj.cells #[.int .i64 1, .int .i64 k, .int .i64 ((k : Int) + 1), .int .i64 0] 31)).grown hgrow (by simp; omega) (fun q e => (hlw q e).1)
        clear hown hlw
        go_wp2_with fail
        go_roundg (n - (k + 1))
        case measure => have := Hg.out; omega
        case rel => exact ⟨k + 1, by omega, rfl, by go_num, by rw [ripN_succ]; exact hown', hb'⟩
      · have hlt' : ¬ (k : Int) < (n : Int) := by omega
        obtain rfl : k = n := by omega
        go_wp2_with fail
        go_ret
        rw [Hr.out]
        exact retG_acc hown hb rfl

set_option maxHeartbeats 1000000 in
theorem specRipple_any (l : Int) (w : World) (_hl : -9223372036854775808 ≤ l ∧ l ≤ 9223372036854775807) : Calls Try.prog 15 #[.int .i64 l] w fun e w' => RetG (rip l) w e w' := by
  by_cases h1 : 1 < l
  · cases hv : inB l 1 8 with
    | false =>
      have Hr : Hid (rip l = []) := Lib.hid (by unfold rip; rw [hv]; rfl)
      go_enter Try.func15, Try.ntmps15
      go_wp2_with fail
      refine wp_loop_rounds 1 ?_
      rw [rounds_succ]
      go_wp2_with (go_at_call 49; refine (l1In_any _ _ _ _).mono ?_; rintro e w' ⟨rfl, rfl⟩)
      go_ret
      exact retG_nil Hr.out ((Below.refl _ _).alloc (Nat.le_refl _) _) rfl
    | true =>
      have hl := inB_t hv
      obtain ⟨n, en⟩ : ∃ n : Nat, l = (n : Int) + 1 := ⟨(l - 1).toNat, by omega⟩
      subst en
      have Hr : Hid (rip ((n : Int) + 1) = ripN n) := Lib.hid (by unfold rip; rw [if_pos hv, show (n : Int) + 1 - 1 = n from by omega]; rfl)
      have hn8 : n ≤ 7 := by omega
      obtain ⟨ig, gi, gz0, gz1, gz2⟩ := info_parts infoGate
      go_enter Try.func15, Try.ntmps15
      go_wp2_with fail
      go_loopg [3, 4] n (fun gh v i wr => ∃ k : Nat, k ≤ n ∧ gh = n - k ∧ i = .int .i64 k ∧ wr.ownsRow w.heap.size 31 4 v k (gcells (ripN k)) ∧ Below w.heap.size w wr)
      case atStart =>
        exact ⟨0, Nat.zero_le _, rfl, rfl, by simpa [ripN, gcells] using World.ownsRow_made (base := w.heap.size) (e := 31) (size := 4) w #[] 0 (Nat.le_refl _) (by simp [maxLen]) rfl, (Below.refl _ _).alloc (Nat.le_refl _) _⟩
      case round =>
        obtain ⟨k, hk, hg, rfl, hown, hb⟩ := hrel
        have Hg := Lib.hid hg
        have hs := hb.size
        have hlw := hown.lt
        clear hg
        by_cases hlt : k < n
        · have hlt' : (k : Int) + 1 < (n : Int) + 1 := by omega
          have hltk : (k : Int) < (n : Int) := by omega
          go_wp2_with (first | (go_at_call 49; refine (l1In_any _ _ _ _).mono ?_; rintro e w' ⟨rfl, rfl⟩) | (at_builtin; refine wpList_append_own _ rfl _ _ 22 rfl w.heap.size 31 ig (.agg #[.int .i64 0, .int .i64 0, .int .i64 0, .int .i64 0]) 4 32 Try.underlying22 gi gz0 gz1 gz2 rfl (by decide) _ _ _ rfl (hown.alloc _) ⟨wr.heap.size, 0, none⟩ 1 1 [.int .i64 1, .int .i64 k, .int .i64 ((k : Int) + 1), .int .i64 0] rfl rfl (cells_new _ _ _) (by simp [Value.oneCell']) (by unfold maxLen; omega) (by omega) (by simp; omega) ?_; intro v' w3 hown' hgrow _))
          have hb' := (hb.alloc hs (Obj.cells #[.int .i64 1, .int .i64 k, .int .i64 ((k : Int) + 1), .int .i64 0] 31)).grown hgrow (by simp; omega) (fun q e => (hlw q e).1)
          clear hown hlw
          go_wp2_with fail
          go_roundg (n - (k + 1))
          case measure => have := Hg.out; omega
          case rel => exact ⟨k + 1, by omega, rfl, by go_num, by rw [ripN_succ]; exact hown', hb'⟩
        · have hlt' : ¬ (k : Int) + 1 < (n : Int) + 1 := by omega
          have hltk : ¬ (k : Int) < (n : Int) := by omega
          obtain rfl : k = n := by omega
          go_wp2_with fail
          go_ret
          rw [Hr.out]
          exact retG_acc hown hb rfl
  · have Hr : Hid (rip l = []) := Lib.hid (by
      unfold rip
      split
      · rename_i h
        have := inB_t h
        rw [show (l - 1).toNat = 0 from by omega]
        rfl
      · rfl)
    go_enter Try.func15, Try.ntmps15
    go_wp2_with fail
    refine wp_loop_rounds 1 ?_
    rw [rounds_succ]
    go_wp2_with fail
    go_ret
    exact retG_nil Hr.out ((Below.refl _ _).alloc (Nat.le_refl _) _) rfl
end Go.Proofs.Ytpciidimmkohiaa
