/- The plain laws of bits (sums over the lines) and the contracts of both Differ. -/
import Derived.Test.YtjagnbnbibdbmaaOnes
import Derived.Laws.BitsAllLaws
import Derived.Laws.BitsLemmas
namespace Go.Proofs.Ytjagnbnbibdbmaa
open Go.RowKit

theorem bt_nat (n k : Nat) : bt (n : Int) (k : Int) = if n.testBit k then 1 else 0 := by
  unfold bt
  rw [Int.toNat_natCast, Nat.testBit_eq_decide_div_mod_eq]
  have h : ((n : Int) / 2 ^ k) = ((n / 2 ^ k : Nat) : Int) := by rw [Int.natCast_ediv, Int.natCast_pow]; rfl
  rw [h]
  by_cases h1 : n / 2 ^ k % 2 = 1
  · rw [decide_eq_true h1]; simp; omega
  · rw [decide_eq_false h1]; simp; omega

/-- on how many of the first n lines two words differ -/
def dsum (a b : Int) : Nat → Int
  | 0 => 0
  | n + 1 => dsum a b n + if bt a n = bt b n then 0 else 1
theorem dsum_bd (a b : Int) (n : Nat) : 0 ≤ dsum a b n ∧ dsum a b n ≤ n := by
  induction n with
  | zero => simp [dsum]
  | succ n ih => simp only [dsum]; split <;> omega
theorem dsum_xor (a b n : Nat) : wsum ((a ^^^ b : Nat) : Int) n = dsum a b n := by
  induction n with
  | zero => rfl
  | succ n ih =>
    simp only [wsum, dsum, ih, bt_nat, Nat.testBit_xor]
    cases a.testBit n <;> cases b.testBit n <;> simp
theorem dsum_comm (a b : Int) (n : Nat) : dsum a b n = dsum b a n := by
  induction n with
  | zero => rfl
  | succ n ih => simp only [dsum, ih, eq_comm (a := bt a n)]
theorem dsum_tri (a b c : Int) (n : Nat) : dsum a b n ≤ dsum a c n + dsum c b n := by
  induction n with
  | zero => simp [dsum]
  | succ n ih =>
    simp only [dsum]
    have h1 := bt_bd a n
    have h2 := bt_bd b n
    have h3 := bt_bd c n
    split <;> split <;> split <;> omega
theorem dsum_par (a b : Int) (n : Nat) : dsum a b n % 2 = (wsum a n + wsum b n) % 2 := by
  induction n with
  | zero => rfl
  | succ n ih =>
    simp only [dsum, wsum]
    have h1 := bt_bd a n
    have h2 := bt_bd b n
    split <;> omega
theorem dsum_zero (a : Int) (n : Nat) : dsum a a n = 0 := by
  induction n with
  | zero => rfl
  | succ n ih => simp [dsum, ih]
theorem dsum_none (a : Int) (n : Nat) : dsum a 0 n = wsum a n := by
  induction n with
  | zero => rfl
  | succ n ih =>
    have h0 : bt 0 (n : Int) = 0 := by unfold bt; simp
    have h1 := bt_bd a n
    simp only [dsum, wsum, ih, h0]
    split <;> omega

/-- the word of the first n bits -/
def bsum (v : Int) : Nat → Int
  | 0 => 0
  | n + 1 => bsum v n + bt v n * 2 ^ n
theorem bsum_mod (v : Int) (n : Nat) : bsum v n = v % 2 ^ n := by
  induction n with
  | zero => simp [bsum]
  | succ n ih =>
    simp only [bsum, ih]
    unfold bt
    rw [Int.toNat_natCast, Int.pow_succ]
    have hp : (0 : Int) < 2 ^ n := Int.pow_pos (by decide)
    rw [Int.mul_comm (2 ^ n) 2]
    have h1 := Int.emod_add_mul_ediv v (2 ^ n)
    have h2 := Int.emod_add_mul_ediv (v / 2 ^ n) 2
    have h3 : v / 2 ^ n / 2 = v / (2 * 2 ^ n) := by rw [Int.ediv_ediv_of_nonneg (by omega), Int.mul_comm]
    have h4 := Int.emod_add_mul_ediv v (2 * 2 ^ n)
    rw [← h3] at h4
    generalize hQ : v / 2 ^ n = Q at *
    generalize hR : v % 2 ^ n = R at *
    generalize hS : Q % 2 = S at *
    generalize hT : Q / 2 = T at *
    generalize v % (2 * 2 ^ n) = U at *
    have h5 : (2 : Int) ^ n * Q = 2 ^ n * S + 2 * 2 ^ n * T := by rw [← h2, Int.mul_add, ← Int.mul_assoc, Int.mul_comm (2 ^ n) 2]
    rw [Int.mul_comm S]
    omega
theorem bsum_all {v : Int} (h0 : 0 ≤ v) {n : Nat} (h1 : v < 2 ^ n) : bsum v n = v := by
  rw [bsum_mod v, Int.emod_eq_of_lt h0 h1]
theorem bsum_eq {a b : Int} (n : Nat) (h : dsum a b n = 0) : bsum a n = bsum b n := by
  induction n with
  | zero => rfl
  | succ n ih =>
    have := dsum_bd a b n
    simp only [dsum] at h
    simp only [bsum]
    by_cases hb : bt a n = bt b n
    · rw [if_pos hb] at h; rw [ih (by omega), hb]
    · rw [if_neg hb] at h; omega
theorem dsum_eq {a b : Int} {n : Nat} (ha : 0 ≤ a) (ha' : a < 2 ^ n) (hb : 0 ≤ b) (hb' : b < 2 ^ n) (h : dsum a b n = 0) : a = b := by
  rw [← bsum_all ha ha', ← bsum_all hb hb', bsum_eq n h]

/-- what Differ answers -/
def differ (l a b : Int) : Int := if wordB l a = true ∧ wordB l b = true then dsum a b l.toNat else -1
theorem differ_y {l a b : Int} (h : wordB l a = true) (h' : wordB l b = true) : differ l a b = dsum a b l.toNat := if_pos ⟨h, h'⟩
theorem differ_n {l a b : Int} (h : wordB l a = true → wordB l b = false) : differ l a b = -1 := if_neg (fun x => by rw [h x.1] at x; cases x.2)

theorem xor_word {l a b : Int} (h : wordB l a = true) (h' : wordB l b = true) :
    wordB l (bits .xor .i64 a b) = true ∧ weight l (bits .xor .i64 a b) = differ l a b := by
  have ha := wordB_t h
  have hb := wordB_t h'
  have hp := pw_bd ha.1 ha.2.1
  obtain ⟨m, rfl⟩ := Int.eq_ofNat_of_zero_le ha.2.2.1
  obtain ⟨n, rfl⟩ := Int.eq_ofNat_of_zero_le hb.2.2.1
  have e := i64_xor_nat m n (by omega) (by omega)
  have hm0 : (m : Int) < 2 ^ l.toNat := ha.2.2.2
  have hn0 : (n : Int) < 2 ^ l.toNat := hb.2.2.2
  have hm : m < 2 ^ l.toNat := by exact_mod_cast hm0
  have hn : n < 2 ^ l.toNat := by exact_mod_cast hn0
  have hx : m ^^^ n < 2 ^ l.toNat := Nat.xor_lt_two_pow hm hn
  have hx' : ((m ^^^ n : Nat) : Int) < pw l := by unfold pw; exact_mod_cast hx
  have hw : wordB l (bits .xor .i64 (m : Int) (n : Int)) = true := by rw [e]; exact wordB_of ⟨ha.1, ha.2.1, by omega, hx'⟩
  exact ⟨hw, by rw [weight_y hw, e, dsum_xor, differ_y h h']⟩

theorem implDiffer_any (lines a b : Int) (w : World) :
    Calls Try.prog 27 #[.int .i64 lines, .int .i64 a, .int .i64 b] w fun e w' => e = .returned (.int .i64 (differ lines a b)) ∧ w = w' := by
  by_cases ha : wordB lines a = true
  · by_cases hb : wordB lines b = true
    · have hx := Lib.hid (xor_word ha hb).2
      go_enter Try.func27, Try.ntmps27
      go_wp2_with (first | (go_at_call 18; refine (implWordValid_any _ _ _).mono ?_; rintro e w' ⟨rfl, rfl⟩) | (go_at_call 24; refine (implWeight_any _ _ _).mono ?_; rintro e w' ⟨rfl, rfl⟩))
      go_ret
      exact ⟨ret_int hx.out, rfl⟩
    · rw [Bool.not_eq_true] at hb
      go_enter Try.func27, Try.ntmps27
      go_wp2_with (go_at_call 18; refine (implWordValid_any _ _ _).mono ?_; rintro e w' ⟨rfl, rfl⟩)
      go_ret
      exact ⟨ret_int (differ_n (fun _ => hb)).symm, rfl⟩
  · rw [Bool.not_eq_true] at ha
    go_enter Try.func27, Try.ntmps27
    go_wp2_with (go_at_call 18; refine (implWordValid_any _ _ _).mono ?_; rintro e w' ⟨rfl, rfl⟩)
    go_ret
    exact ⟨ret_int (differ_n (fun h => by rw [ha] at h; cases h)).symm, rfl⟩

theorem specDiffer_any (lines a b : Int) (w : World) :
    Calls Try.prog 26 #[.int .i64 lines, .int .i64 a, .int .i64 b] w fun e w' => e = .returned (.int .i64 (differ lines a b)) ∧ w = w' := by
  by_cases ha : wordB lines a = true
  · by_cases hb : wordB lines b = true
    · have ka := wordB_t ha
      have kb := wordB_t hb
      have hp := pw_bd ka.1 ka.2.1
      have Hr := Lib.hid (differ_y ha hb)
      go_enter Try.func26, Try.ntmps26
      go_wp2_with (go_at_call 17; refine (specWordValid_any _ _ _).mono ?_; rintro e w' ⟨rfl, rfl⟩)
      go_loop [7, 8] (fun n i => ∃ k : Nat, (k : Int) ≤ lines ∧ i = .int .i64 k ∧ n = .int .i64 (dsum a b k)) (fun _ i => (lines - intOf i).toNat)
      case atStart => exact ⟨0, by omega, rfl, rfl⟩
      case round =>
        obtain ⟨k, hk, rfl, rfl⟩ := hrel
        have hs := dsum_bd a b k
        by_cases hlt : (k : Int) < lines
        · by_cases he : bt a k = bt b k
          · have h1 : (bt a k != bt b k) = false := by simp [he]
            have HS := Lib.hid (show dsum a b (k + 1) = dsum a b k by simp [dsum, he])
            clear he
            go_wp2_with (go_at_call 46; refine (l1Bit_any _ _ _ (by omega) (by omega) (by omega) (by omega)).mono ?_; rintro e w' ⟨rfl, rfl⟩)
            go_round
            case rel => exact ⟨k + 1, by omega, by go_num, by rw [HS.out]⟩
            case measure => simp [intOf]; omega
          · have h1 : (bt a k != bt b k) = true := by simp [he]
            have HS := Lib.hid (show dsum a b (k + 1) = dsum a b k + 1 by simp [dsum, he])
            clear he
            go_wp2_with (go_at_call 46; refine (l1Bit_any _ _ _ (by omega) (by omega) (by omega) (by omega)).mono ?_; rintro e w' ⟨rfl, rfl⟩)
            go_round
            case rel => exact ⟨k + 1, by omega, by go_num, by rw [HS.out]⟩
            case measure => simp [intOf]; omega
        · go_wp2_with fail
          go_ret
          refine ⟨ret_int ?_, rfl⟩
          rw [Hr.out, show lines.toNat = k from by omega]
    · rw [Bool.not_eq_true] at hb
      go_enter Try.func26, Try.ntmps26
      go_wp2_with (go_at_call 17; refine (specWordValid_any _ _ _).mono ?_; rintro e w' ⟨rfl, rfl⟩)
      go_ret
      exact ⟨ret_int (differ_n (fun _ => hb)).symm, rfl⟩
  · rw [Bool.not_eq_true] at ha
    go_enter Try.func26, Try.ntmps26
    go_wp2_with (go_at_call 17; refine (specWordValid_any _ _ _).mono ?_; rintro e w' ⟨rfl, rfl⟩)
    go_ret
    exact ⟨ret_int (differ_n (fun h => by rw [ha] at h; cases h)).symm, rfl⟩
end Go.Proofs.Ytjagnbnbibdbmaa
