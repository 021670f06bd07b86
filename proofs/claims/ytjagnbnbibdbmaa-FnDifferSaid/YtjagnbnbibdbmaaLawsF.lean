/- Walk of the law FnDiffer: it returns true and writes nothing that was there. -/
import Derived.Test.YtjagnbnbibdbmaaLawsD
namespace Go.Proofs.Ytjagnbnbibdbmaa
open Go.RowKit

set_option maxHeartbeats 1000000 in
theorem walk_FnDiffer (A : Option Addr) (n c : Nat) (zs : List Int) (A' : Option Addr) (n' c' : Nat) (zs' : List Int) (w : World) (h : IntsIn .u8 w A n c zs) (h' : IntsIn .u8 w A' n' c' zs') :
    Calls Try.prog 14 #[.slice A n c, .slice A' n' c'] w fun e w' => e = .returned (.bool true) ∧ Below w.heap.size w w' := by
  have hn1 : n ≤ 9223372036854775807 := by have := h.1; have := h.2.1; unfold maxLen at this; omega
  have hn1' : n' ≤ 9223372036854775807 := by have := h'.1; have := h'.2.1; unfold maxLen at this; omega
  by_cases hn : 1048576 < n
  · clear h h'
    go_enter Try.func14, Try.ntmps14
    go_wp2_with fail
    go_ret
    exact ⟨rfl, Below.refl _ _⟩
  · by_cases hn' : 1048576 < n'
    · clear h h'
      go_enter Try.func14, Try.ntmps14
      go_wp2_with fail
      go_ret
      exact ⟨rfl, Below.refl _ _⟩
    · clear h'
      go_enter Try.func14, Try.ntmps14
      go_wp2_with fail
      refine (drawDiffer_any A n c zs w h).mono ?_
      rintro e w1 ⟨l, a, b, rfl, hl, ha, hb', hb⟩
      by_cases hok : wordB l a = true ∧ wordB l b = true
      · obtain ⟨ka, kb⟩ := hok
        have hk := wordB_t ka
        have hk' := wordB_t kb
        have hp := pw_bd hk.1 hk.2.1
        have hs := shl_one hk.1 hk.2.1
        obtain ⟨C, hC⟩ : ∃ C, (n' : Int) * 5 % pw l = C := ⟨_, rfl⟩
        have hC0 : 0 ≤ C := by rw [← hC]; exact Int.emod_nonneg _ (by omega)
        have hC1 : C < pw l := by rw [← hC]; exact Int.emod_lt_of_pos _ (by omega)
        have kc : wordB l C = true := wordB_of (by omega)
        obtain ⟨x, hx⟩ : ∃ x, x = dsum a b l.toNat := ⟨_, rfl⟩
        obtain ⟨y, hy⟩ : ∃ y, y = dsum a C l.toNat := ⟨_, rfl⟩
        obtain ⟨z, hz⟩ : ∃ z, z = dsum C b l.toNat := ⟨_, rfl⟩
        obtain ⟨u, hu⟩ : ∃ u, u = wsum a l.toNat := ⟨_, rfl⟩
        obtain ⟨v, hv⟩ : ∃ v, v = wsum b l.toNat := ⟨_, rfl⟩
        have g1 : differ l a b = x := by rw [differ_y ka kb, hx]
        have g2 : differ l b a = x := by rw [differ_y kb ka, dsum_comm, hx]
        have g3 : differ l a C = y := by rw [differ_y ka kc, hy]
        have g4 : differ l C b = z := by rw [differ_y kc kb, hz]
        have g5 : weight l a = u := by rw [weight_y ka, hu]
        have g6 : weight l b = v := by rw [weight_y kb, hv]
        have b1 := dsum_bd a b l.toNat
        have b2 := dsum_bd a C l.toNat
        have b3 := dsum_bd C b l.toNat
        have b4 := wsum_bd a l.toNat
        have b5 := wsum_bd b l.toNat
        have t1 := dsum_tri a b C l.toNat
        have t2 := dsum_par a b l.toNat
        have t3 : x = 0 → a = b := fun e => dsum_eq hk.2.2.1 hk.2.2.2 hk'.2.2.1 hk'.2.2.2 (by rw [← hx, e])
        have t4 : a = b → x = 0 := fun e => by rw [hx, e, dsum_zero]
        rw [← hx] at b1 t1 t2
        rw [← hy] at b2 t1
        rw [← hz] at b3 t1
        rw [← hu] at b4 t2
        rw [← hv] at b5 t2
        have t2' : (x % 2 == (u + v) % 2) = true := by simp [t2]
        obtain ⟨q, q1, q2⟩ : ∃ q : Bool, (x == 0) = q ∧ (a == b) = q := by
          by_cases e : a = b
          · exact ⟨true, by simp [t4 e], by simp [e]⟩
          · exact ⟨false, by simpa using fun h => e (t3 h), by simpa using e⟩
        have hl8 : (l.toNat : Int) ≤ 8 := by omega
        clear hx hy hz hu hv t2 t3 t4 ka kb kc
        cases q <;> go_wp2_with (first | (go_at_call 24; refine (implWeight_any _ _ _).mono ?_; rintro e w' ⟨rfl, rfl⟩) | (go_at_call 26; refine (specDiffer_any _ _ _ _).mono ?_; rintro e w' ⟨rfl, rfl⟩) | (go_at_call 27; refine (implDiffer_any _ _ _ _).mono ?_; rintro e w' ⟨rfl, rfl⟩))
        all_goals
          go_ret
          exact ⟨rfl, hb⟩
      · have h1 : differ l a b = -1 := differ_n (fun hw => by rw [← Bool.not_eq_true]; exact fun hi => hok ⟨hw, hi⟩)
        clear hok
        go_wp2_with (first | (go_at_call 26; refine (specDiffer_any _ _ _ _).mono ?_; rintro e w' ⟨rfl, rfl⟩) | (go_at_call 27; refine (implDiffer_any _ _ _ _).mono ?_; rintro e w' ⟨rfl, rfl⟩) | (go_at_call 22; refine (alive_any _).mono ?_; rintro e w' ⟨rfl, rfl⟩))
        go_ret
        exact ⟨rfl, hb⟩
end Go.Proofs.Ytjagnbnbibdbmaa
