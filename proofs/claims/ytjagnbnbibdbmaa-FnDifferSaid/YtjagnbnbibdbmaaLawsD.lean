/- Walks of the laws FnWordValid, FnBitOf, FnWeight, FnDiffer: each returns true and writes nothing that was there. -/
import Derived.Test.YtjagnbnbibdbmaaDraws4
import Derived.Test.YtjagnbnbibdbmaaDiffer
namespace Go.Proofs.Ytjagnbnbibdbmaa
open Go.RowKit

theorem word_more {l v : Int} (h : wordB l v = true) (h8 : l < 8) : wordB (l + 1) v = true := by
  have hb := wordB_t h
  refine wordB_of ⟨by omega, by omega, hb.2.2.1, ?_⟩
  have : pw (l + 1) = 2 * pw l := by
    unfold pw
    rw [show (l + 1).toNat = l.toNat + 1 from by omega, Int.pow_succ, Int.mul_comm]
  have := pw_bd hb.1 hb.2.1
  omega
theorem word_neg (l : Int) : wordB l (-1) = false := wordB_not (by omega)
theorem word_pw (l : Int) : wordB l (pw l) = false := wordB_not (by omega)

theorem walk_FnWordValid (A : Option Addr) (n c : Nat) (zs : List Int) (w : World) (h : IntsIn .u8 w A n c zs) :
    Calls Try.prog 6 #[.slice A n c] w fun e w' => e = .returned (.bool true) ∧ Below w.heap.size w w' := by
  have hn1 : n ≤ 9223372036854775807 := by have := h.1; have := h.2.1; unfold maxLen at this; omega
  by_cases hn : 1048576 < n
  · clear h
    go_enter Try.func6, Try.ntmps6
    go_wp2_with fail
    go_ret
    exact ⟨rfl, Below.refl _ _⟩
  · go_enter Try.func6, Try.ntmps6
    go_wp2_with fail
    refine (drawWordValid_any A n c zs w h).mono ?_
    rintro e w1 ⟨l, v, rfl, hl, hv, hb⟩
    have h1 := word_neg l
    cases hw : wordB l v with
    | false =>
      go_wp2_with (first | (go_at_call 18; refine (implWordValid_any _ _ _).mono ?_; rintro e w' ⟨rfl, rfl⟩) | (go_at_call 17; refine (specWordValid_any _ _ _).mono ?_; rintro e w' ⟨rfl, rfl⟩) | (go_at_call 22; refine (alive_any _).mono ?_; rintro e w' ⟨rfl, rfl⟩))
      go_ret
      exact ⟨rfl, hb⟩
    | true =>
      have hk := wordB_t hw
      have h2 := word_pw l
      have hs := shl_one hk.1 hk.2.1
      by_cases h8 : l = 8
      · subst h8
        go_wp2_with (first | (go_at_call 18; refine (implWordValid_any _ _ _).mono ?_; rintro e w' ⟨rfl, rfl⟩) | (go_at_call 17; refine (specWordValid_any _ _ _).mono ?_; rintro e w' ⟨rfl, rfl⟩) | (go_at_call 22; refine (alive_any _).mono ?_; rintro e w' ⟨rfl, rfl⟩))
        go_ret
        exact ⟨rfl, hb⟩
      · have h3 := word_more hw (by omega)
        have h9 : (l == 8) = false := by simp [h8]
        clear h8
        go_wp2_with (first | (go_at_call 18; refine (implWordValid_any _ _ _).mono ?_; rintro e w' ⟨rfl, rfl⟩) | (go_at_call 17; refine (specWordValid_any _ _ _).mono ?_; rintro e w' ⟨rfl, rfl⟩) | (go_at_call 22; refine (alive_any _).mono ?_; rintro e w' ⟨rfl, rfl⟩))
        go_ret
        exact ⟨rfl, hb⟩
end Go.Proofs.Ytjagnbnbibdbmaa
