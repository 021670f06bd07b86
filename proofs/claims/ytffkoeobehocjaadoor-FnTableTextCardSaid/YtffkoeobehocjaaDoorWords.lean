/- Contracts of the functions on words: within, linesOk, WordValid, l1In. -/
import Derived.Test.YtffkoeobehocjaaDoorProg
import Derived.WalkKit
import Derived.WalkLawsBesides
import Derived.WalkSpells
import Derived.Lib.Hide
import Derived.Test.YtffkoeobehocjaaDoorKit
namespace Go.Proofs.YtffkoeobehocjaaDoor
open Go.RowKit

def inB (n lo hi : Int) : Bool := decide (lo ≤ n ∧ n ≤ hi)
theorem inB_t {n lo hi : Int} (h : inB n lo hi = true) : lo ≤ n ∧ n ≤ hi := of_decide_eq_true h
theorem inB_f {n lo hi : Int} (h : inB n lo hi = false) : ¬ (lo ≤ n ∧ n ≤ hi) := of_decide_eq_false h
theorem inB_of {n lo hi : Int} (h : lo ≤ n ∧ n ≤ hi) : inB n lo hi = true := decide_eq_true h
theorem inB_not {n lo hi : Int} (h : ¬ (lo ≤ n ∧ n ≤ hi)) : inB n lo hi = false := decide_eq_false h

theorem within_any (n lo hi : Int) (w : World) :
    Calls Tryd.prog 43 #[.int .i64 n, .int .i64 lo, .int .i64 hi] w fun e w' => e = .returned (.bool (inB n lo hi)) ∧ w = w' := by
  go_enter Tryd.func43, Tryd.ntmps43
  go_wp2
  all_goals
    go_ret
    refine ⟨ret_bool ?_, rfl⟩
    unfold inB
    simp <;> omega

theorem l1In_any (n lo hi : Int) (w : World) :
    Calls Tryd.prog 56 #[.int .i64 n, .int .i64 lo, .int .i64 hi] w fun e w' => e = .returned (.bool (inB n lo hi)) ∧ w = w' := by
  go_enter Tryd.func56, Tryd.ntmps56
  go_wp2
  all_goals
    go_ret
    refine ⟨ret_bool ?_, rfl⟩
    unfold inB
    simp <;> omega

theorem linesOk_any (n : Int) (w : World) :
    Calls Tryd.prog 42 #[.int .i64 n] w fun e w' => e = .returned (.bool (inB n 1 8)) ∧ w = w' := by
  go_enter Tryd.func42, Tryd.ntmps42
  go_wp2_with (go_at_call 43; refine (within_any _ _ _ _).mono ?_; rintro e w' ⟨rfl, rfl⟩)
  go_ret
  exact ⟨rfl, rfl⟩

/-- 2 to the power of a number of lines -/
def pw (l : Int) : Int := 2 ^ l.toNat
theorem pw_bd {l : Int} (h1 : 1 ≤ l) (h8 : l ≤ 8) : 2 ≤ pw l ∧ pw l ≤ 256 := by
  obtain ⟨n, rfl⟩ := Int.eq_ofNat_of_zero_le (show 0 ≤ l by omega)
  have : n = 1 ∨ n = 2 ∨ n = 3 ∨ n = 4 ∨ n = 5 ∨ n = 6 ∨ n = 7 ∨ n = 8 := by omega
  rcases this with rfl | rfl | rfl | rfl | rfl | rfl | rfl | rfl <;> decide
theorem shl_one {l : Int} (h1 : 1 ≤ l) (h8 : l ≤ 8) : wrap64 (2 ^ l.toNat) = pw l := by
  have := pw_bd h1 h8
  show wrap64 (pw l) = pw l
  exact IntWalk.wrap64_in _ (by omega)

/-- a word that is valid -/
def wordB (lines word : Int) : Bool := inB lines 1 8 && inB word 0 (pw lines - 1)
theorem wordB_t {l v : Int} (h : wordB l v = true) : 1 ≤ l ∧ l ≤ 8 ∧ 0 ≤ v ∧ v < pw l := by
  unfold wordB at h
  rw [Bool.and_eq_true] at h
  have h1 := inB_t h.1
  have h2 := inB_t h.2
  omega
theorem wordB_of {l v : Int} (h : 1 ≤ l ∧ l ≤ 8 ∧ 0 ≤ v ∧ v < pw l) : wordB l v = true := by
  unfold wordB
  rw [inB_of (by omega), inB_of (by omega)]; rfl
theorem wordB_not {l v : Int} (h : ¬ (1 ≤ l ∧ l ≤ 8 ∧ 0 ≤ v ∧ v < pw l)) : wordB l v = false := by
  rw [← Bool.not_eq_true]; exact fun h' => h (wordB_t h')

theorem implWordValid_any (lines word : Int) (w : World) :
    Calls Tryd.prog 44 #[.int .i64 lines, .int .i64 word] w fun e w' => e = .returned (.bool (wordB lines word)) ∧ w = w' := by
  unfold wordB
  by_cases hl : 1 ≤ lines ∧ lines ≤ 8
  · have hs := shl_one hl.1 hl.2
    have hp := pw_bd hl.1 hl.2
    have hi := inB_of hl
    go_enter Tryd.func44, Tryd.ntmps44
    go_wp2_with (first
     | (go_at_call 42; refine (linesOk_any _ _).mono ?_; rintro e w' ⟨rfl, rfl⟩)
     | (go_at_call 43; refine (within_any _ _ _ _).mono ?_; rintro e w' ⟨rfl, rfl⟩))
    go_ret
    exact ⟨ret_bool (by simp [hi]), rfl⟩
  · have hi := inB_not hl
    go_enter Tryd.func44, Tryd.ntmps44
    go_wp2_with (first
     | (go_at_call 42; refine (linesOk_any _ _).mono ?_; rintro e w' ⟨rfl, rfl⟩))
    go_ret
    exact ⟨ret_bool (by simp [hi]), rfl⟩

theorem specWordValid_any (lines word : Int) (w : World) :
    Calls Tryd.prog 65 #[.int .i64 lines, .int .i64 word] w fun e w' => e = .returned (.bool (wordB lines word)) ∧ w = w' := by
  unfold wordB
  by_cases hl : 1 ≤ lines ∧ lines ≤ 8
  · have hs := shl_one hl.1 hl.2
    have hp := pw_bd hl.1 hl.2
    have hi := inB_of hl
    go_enter Tryd.func65, Tryd.ntmps65
    go_wp2_with (first
     | (go_at_call 56; refine (l1In_any _ _ _ _).mono ?_; rintro e w' ⟨rfl, rfl⟩))
    go_ret
    exact ⟨ret_bool (by simp [hi]), rfl⟩
  · have hi := inB_not hl
    go_enter Tryd.func65, Tryd.ntmps65
    go_wp2_with (first
     | (go_at_call 56; refine (l1In_any _ _ _ _).mono ?_; rintro e w' ⟨rfl, rfl⟩))
    go_ret
    exact ⟨ret_bool (by simp [hi]), rfl⟩
end Go.Proofs.YtffkoeobehocjaaDoor
