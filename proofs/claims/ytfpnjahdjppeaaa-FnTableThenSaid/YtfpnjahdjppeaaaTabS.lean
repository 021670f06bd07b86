/- Plain facts on tables: a table behind another one is odd exactly if one of both alone is. -/
import Derived.Test.YtfpnjahdjppeaaaTabR
namespace Go.Proofs.Ytfpnjahdjppeaaa
open Go.RowKit
set_option linter.unusedVariables false
set_option linter.unusedSimpArgs false

/-- whether a table is odd -/
def oddP (xs : List Int) : Bool := ((xs.length : Int) - (cyc xs : Int)) % 2 == 1
theorem tblOdd_is {l : Int} {xs : List Int} (h : tblB l xs = true) : tblOdd l xs = oddP xs := by
  unfold tblOdd
  rw [h]
  rfl
theorem oddP_sw {xs : List Int} (P : Pm xs) {k : Nat} (hk : 1 ≤ k) (hkl : k < xs.length) : oddP (sw xs k) = !oddP xs := by
  have h := sw_cyc P hk hkl
  unfold oddP
  rw [sw_len]
  have hx : ((xs.length : Int) - (cyc xs : Int)) % 2 = 0 ∨ ((xs.length : Int) - (cyc xs : Int)) % 2 = 1 := by omega
  rcases hx with hx | hx
  · have hy : ((xs.length : Int) - (cyc (sw xs k) : Int)) % 2 = 1 := by omega
    rw [hx, hy]; rfl
  · have hy : ((xs.length : Int) - (cyc (sw xs k) : Int)) % 2 = 0 := by omega
    rw [hx, hy]; rfl
theorem sw_then {xs ys : List Int} {k : Nat} (hk : 1 ≤ k) (hkl : k < xs.length) : thenL (sw xs k) ys = sw (thenL xs ys) k := by
  refine ext_getD (by rw [thenL_len, sw_len, sw_len, thenL_len]) fun j hj => ?_
  rw [thenL_len, sw_len] at hj
  rw [thenL_at (by rw [sw_len]; exact hj), sw_nx hk hkl hj, sw_at hk (by rw [thenL_len]; exact hkl) (by rw [thenL_len]; exact hj), thenL_at (tau_lt hkl hj)]
/-- the law, for one table -/
def Good (xs : List Int) : Prop := ∀ ys, Pm ys → xs.length = ys.length → oddP (thenL xs ys) = (oddP xs != oddP ys)
theorem Good.of_sw {xs : List Int} (P : Pm xs) {k : Nat} (hk : 1 ≤ k) (hkl : k < xs.length) (h : Good (sw xs k)) : Good xs := fun ys Q hl => by
  have h1 := h ys Q (by rw [sw_len]; exact hl)
  rw [sw_then hk hkl, oddP_sw (pm_then P Q hl) hk (by rw [thenL_len]; exact hkl), oddP_sw P hk hkl] at h1
  revert h1
  cases oddP (thenL xs ys) <;> cases oddP xs <;> cases oddP ys <;> decide
theorem good_id {xs : List Int} (P : Pm xs) (h : ∀ j, j < xs.length → nx xs j = j) : Good xs := fun ys Q hl => by
  have e : thenL xs ys = ys := by
    refine ext_getD (by rw [thenL_len, hl]) fun j hj => ?_
    rw [thenL_len] at hj
    rw [thenL_at hj, h j hj]
  have hit : ∀ t j, j < xs.length → it xs t j = j := by
    intro t j hj
    induction t with
    | zero => rfl
    | succ t ih => show nx xs (it xs t j) = j; rw [ih, h j hj]
  have hc : cyc xs = xs.length := by
    unfold cyc
    rw [cyc_cnt, cnt_congr (g := fun _ => true) (fun j hj => (mn_iff P hj).2 fun t => by rw [hit t j hj]; exact Nat.le_refl _)]
    have : ∀ n, cnt (fun _ => true) n = n := by
      intro n
      induction n with
      | zero => rfl
      | succ n ih => simp only [cnt]; rw [ih]; simp
    exact this _
  have ho : oddP xs = false := by
    unfold oddP
    rw [hc, Int.sub_self]
    rfl
  rw [e, ho]
  cases oddP ys <;> rfl
theorem good_move (m : Nat) (hS : ∀ xs, Pm xs → (∀ j, m ≤ j → j < xs.length → nx xs j = j) → Good xs) :
    ∀ d xs, Pm xs → (∀ j, m < j → j < xs.length → nx xs j = j) → m < xs.length → (∃ p, p + d = m ∧ nx xs p = m) → Good xs := by
  intro d
  induction d with
  | zero =>
    rintro xs P hf hm ⟨p, hp, hn⟩
    refine hS xs P fun j h1 h2 => ?_
    rcases Nat.lt_or_ge m j with h | h
    · exact hf j h h2
    · obtain rfl : j = p := by omega
      omega
  | succ d ih =>
    rintro xs P hf hm ⟨p, hp, hn⟩
    have hk : 1 ≤ p + 1 := by omega
    have hkl : p + 1 < xs.length := by omega
    refine Good.of_sw P hk hkl (ih (sw xs (p + 1)) (P.sw hk hkl) (fun j h1 h2 => ?_) (by rw [sw_len]; exact hm) ⟨p + 1, by omega, ?_⟩)
    · rw [sw_len] at h2
      rw [sw_nx hk hkl h2]
      unfold tau
      rw [if_neg (by omega), if_neg (by omega)]
      exact hf j h1 h2
    · rw [sw_nx hk hkl hkl]
      unfold tau
      rw [if_pos rfl]
      exact hn
theorem good_fix : ∀ m xs, Pm xs → (∀ j, m ≤ j → j < xs.length → nx xs j = j) → Good xs := by
  intro m
  induction m with
  | zero => exact fun xs P h => good_id P fun j hj => h j (Nat.zero_le _) hj
  | succ m ih =>
    intro xs P h
    by_cases hm : m < xs.length
    · obtain ⟨p, hp, e⟩ := nx_surj P hm
      have hpm : p ≤ m := by
        rcases Nat.lt_or_ge m p with h2 | h2
        · have := h p h2 hp
          omega
        · exact h2
      exact good_move m ih (m - p) xs P (fun j h1 h2 => h j h1 h2) hm ⟨p, by omega, e⟩
    · exact ih xs P fun j h1 h2 => by omega
theorem then_odd {xs ys : List Int} (P : Pm xs) (Q : Pm ys) (hl : xs.length = ys.length) : oddP (thenL xs ys) = (oddP xs != oddP ys) :=
  good_fix xs.length xs P (fun j h1 h2 => by omega) ys Q hl
theorem back_then {xs ys : List Int} (P : Pm xs) (Q : Pm ys) (hl : xs.length = ys.length) : backL (thenL xs ys) = thenL (backL ys) (backL xs) := by
  have T := pm_then P Q hl
  refine ext_getD (by rw [backL_len, thenL_len, thenL_len, backL_len]; exact hl) fun j hj => ?_
  rw [backL_len, thenL_len] at hj
  obtain ⟨q, hq, rfl⟩ := nx_surj Q (j := j) (by omega)
  obtain ⟨k, hk, rfl⟩ := nx_surj P (j := q) (by omega)
  have h1 := back_at T (k := k) (by rw [thenL_len]; exact hk)
  rw [nx_then hk] at h1
  rw [h1, thenL_at (by rw [backL_len]; exact Q.lt _ hq), back_nx Q hq, back_at P hk]
end Go.Proofs.Ytfpnjahdjppeaaa
