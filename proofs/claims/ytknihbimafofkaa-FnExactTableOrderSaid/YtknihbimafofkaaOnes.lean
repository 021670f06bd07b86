/- Contracts of math/bits.OnesCount at a word of at most eight lines, and of both Weight and both Differ. -/
import Derived.Test.YtknihbimafofkaaBits
namespace Go.Proofs.Ytknihbimafofkaa
open Go.RowKit

/-- how many of the first n lines have 1 -/
def wsum (v : Int) : Nat → Int
  | 0 => 0
  | n + 1 => wsum v n + bt v n
theorem wsum_bd (v : Int) (n : Nat) : 0 ≤ wsum v n ∧ wsum v n ≤ n := by
  induction n with
  | zero => simp [wsum]
  | succ n ih =>
    have := bt_bd v n
    simp only [wsum]
    omega
theorem wsum_top (l : Nat) (v : Int) (hl : l ≤ 8) (h0 : 0 ≤ v) (h1 : v < 2 ^ l) : wsum v 8 = wsum v l := by
  obtain ⟨n, rfl⟩ := Int.eq_ofNat_of_zero_le h0
  have hn : n < 2 ^ l := by exact_mod_cast h1
  have hk : ∀ l : Nat, l < 9 → ∀ n : Nat, n < 2 ^ l → wsum (n : Int) 8 = wsum (n : Int) l := by decide +kernel
  exact hk l (by omega) n hn

theorem ones64_any (x : Int) (w : World) (h0 : 0 ≤ x) (h1 : x ≤ 255) :
    Calls Try.prog 64 #[.int .u64 x] w fun e w' => e = .returned (.int .i64 (wsum x 8)) ∧ w = w' := by
  go_enter Try.func64, Try.ntmps64
  go_wp2
  go_ret
  refine ⟨ret_int ?_, rfl⟩
  obtain ⟨n, rfl⟩ := Int.eq_ofNat_of_zero_le h0
  have hn : n < 256 := by omega
  clear h0 h1 w
  revert n
  decide +kernel

theorem ones_any (x : Int) (w : World) (h0 : 0 ≤ x) (h1 : x ≤ 255) :
    Calls Try.prog 58 #[.int .u64 x] w fun e w' => e = .returned (.int .i64 (wsum x 8)) ∧ w = w' := by
  go_enter Try.func58, Try.ntmps58
  go_wp2_with (go_at_call 64; refine (ones64_any _ _ (by omega) (by omega)).mono ?_; rintro e w' ⟨rfl, rfl⟩)
  go_ret
  exact ⟨rfl, rfl⟩

/-- what Weight answers -/
def weight (lines word : Int) : Int := if wordB lines word = true then wsum word lines.toNat else -1
theorem weight_y {l v : Int} (h : wordB l v = true) : weight l v = wsum v l.toNat := if_pos h
theorem weight_n {l v : Int} (h : wordB l v = false) : weight l v = -1 := if_neg (by rw [h]; decide)

theorem pw_nat {l v : Int} (_h1 : 1 ≤ l) (h2 : v < pw l) : v < 2 ^ l.toNat := h2

theorem implWeight_any (lines word : Int) (w : World) :
    Calls Try.prog 49 #[.int .i64 lines, .int .i64 word] w fun e w' => e = .returned (.int .i64 (weight lines word)) ∧ w = w' := by
  by_cases hw : wordB lines word = true
  · have hb := wordB_t hw
    have hp := pw_bd hb.1 hb.2.1
    have ht := wsum_top lines.toNat word (by omega) hb.2.2.1 hb.2.2.2
    have hr := (weight_y hw).trans ht.symm
    clear ht
    have Hr := Lib.hid hr
    clear hr
    go_enter Try.func49, Try.ntmps49
    go_wp2_with (first | (go_at_call 52; refine (implWordValid_any _ _ _).mono ?_; rintro e w' ⟨rfl, rfl⟩) | (go_at_call 58; refine (ones_any _ _ (by omega) (by omega)).mono ?_; rintro e w' ⟨rfl, rfl⟩))
    go_ret
    exact ⟨ret_int Hr.out.symm, rfl⟩
  · rw [Bool.not_eq_true] at hw
    go_enter Try.func49, Try.ntmps49
    go_wp2_with (go_at_call 52; refine (implWordValid_any _ _ _).mono ?_; rintro e w' ⟨rfl, rfl⟩)
    go_ret
    exact ⟨ret_int (weight_n hw).symm, rfl⟩

theorem specWeight_any (lines word : Int) (w : World) :
    Calls Try.prog 48 #[.int .i64 lines, .int .i64 word] w fun e w' => e = .returned (.int .i64 (weight lines word)) ∧ w = w' := by
  by_cases hw : wordB lines word = true
  · have hb := wordB_t hw
    have hp := pw_bd hb.1 hb.2.1
    have Hr := Lib.hid (weight_y hw)
    go_enter Try.func48, Try.ntmps48
    go_wp2_with (go_at_call 42; refine (specWordValid_any _ _ _).mono ?_; rintro e w' ⟨rfl, rfl⟩)
    go_loop [5, 6] (fun n i => ∃ k : Nat, (k : Int) ≤ lines ∧ i = .int .i64 k ∧ n = .int .i64 (wsum word k)) (fun _ i => (lines - intOf i).toNat)
    case atStart => exact ⟨0, by omega, rfl, rfl⟩
    case round =>
      obtain ⟨k, hk, rfl, rfl⟩ := hrel
      have hs := wsum_bd word k
      have hq := bt_bd word k
      by_cases hlt : (k : Int) < lines
      · go_wp2_with (go_at_call 57; refine (l1Bit_any _ _ _ (by omega) (by omega) (by omega) (by omega)).mono ?_; rintro e w' ⟨rfl, rfl⟩)
        go_round
        case rel => exact ⟨k + 1, by omega, by go_num, rfl⟩
        case measure => simp [intOf]; omega
      · go_wp2_with fail
        go_ret
        refine ⟨ret_int ?_, rfl⟩
        rw [Hr.out, show lines.toNat = k from by omega]
  · rw [Bool.not_eq_true] at hw
    go_enter Try.func48, Try.ntmps48
    go_wp2_with (go_at_call 42; refine (specWordValid_any _ _ _).mono ?_; rintro e w' ⟨rfl, rfl⟩)
    go_ret
    exact ⟨ret_int (weight_n hw).symm, rfl⟩
end Go.Proofs.Ytknihbimafofkaa
