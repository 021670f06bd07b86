/- Plain laws of circuits: costs, steps and depths, forwards and backwards. No program is in sight. -/
import Derived.Test.YtbhfkcneakocdaaDepth
import Derived.Test.YtbhfkcneakocdaaCost
namespace Go.Proofs.Ytbhfkcneakocdaa
open Go.RowKit
set_option linter.unusedVariables false

theorem pigeonP : ∀ (n : Nat) (f : Nat → Nat), (∀ i, i ≤ n → f i < n) → ∃ i j, i < j ∧ j ≤ n ∧ f i = f j := by
  intro n
  induction n with
  | zero => intro f h; exact absurd (h 0 (Nat.le_refl _)) (by omega)
  | succ n ih =>
    intro f h
    by_cases hx : ∃ i, i ≤ n ∧ f i = f (n + 1)
    · obtain ⟨i, hi, e⟩ := hx
      exact ⟨i, n + 1, by omega, Nat.le_refl _, e⟩
    · have hx' : ∀ i, i ≤ n → f i ≠ f (n + 1) := fun i hi e => hx ⟨i, hi, e⟩
      have key := ih (fun i => if f i = n then f (n + 1) else f i) (fun i hi => by
        have h1 := h i (by omega)
        have h2 := h (n + 1) (by omega)
        have h3 := hx' i hi
        show (if f i = n then f (n + 1) else f i) < n
        by_cases e : f i = n
        · rw [if_pos e]; omega
        · rw [if_neg e]; omega)
      obtain ⟨i, j, hij, hj, e⟩ := key
      refine ⟨i, j, hij, by omega, ?_⟩
      have h3 := hx' i (by omega)
      have h4 := hx' j hj
      by_cases e1 : f i = n <;> by_cases e2 : f j = n
      · omega
      · rw [if_pos e1, if_neg e2] at e; omega
      · rw [if_neg e1, if_pos e2] at e; omega
      · rw [if_neg e1, if_neg e2] at e; exact e
/-- an injection of the first n numbers below m -/
theorem inj_le {n m : Nat} {f : Nat → Nat} (hf : ∀ i, i < n → f i < m) (hi : ∀ i j, i < j → j < n → f i ≠ f j) : n ≤ m := by
  rcases Nat.lt_or_ge m n with h | h
  · obtain ⟨i, j, hij, hj, e⟩ := pigeonP m f (fun i hi' => hf i (by omega))
    exact absurd e (hi i j hij (by omega))
  · exact h

theorem rev_getD (gs : List Gt) {k : Nat} (hk : k < gs.length) : gs.reverse.getD k g0 = gs.getD (gs.length - 1 - k) g0 := by
  have h1 : k < gs.reverse.length := by simpa using hk
  have h2 : gs.length - 1 - k < gs.length := by omega
  rw [List.getD_eq_getElem?_getD, List.getD_eq_getElem?_getD, List.getElem?_eq_getElem h1, List.getElem?_eq_getElem h2, List.getElem_reverse]

theorem circB_rev (l : Int) (gs : List Gt) : circB l gs.reverse = circB l gs := by
  unfold circB
  rw [List.all_reverse, List.length_reverse]

/-! costs -/
theorem costN_sum (gs : List Gt) (k : Nat) (hk : k ≤ gs.length) : costN gs k = ((gs.take k).map (fun g => costK g.k)).sum := by
  induction k with
  | zero => simp [costN]
  | succ k ih =>
    simp only [costN]
    rw [ih (by omega), List.take_succ_eq_append_getElem (by omega), List.map_append, List.sum_append]
    simp [List.getD, List.getElem?_eq_getElem (show k < gs.length by omega)]
theorem costN_rev (gs : List Gt) : costN gs.reverse gs.reverse.length = costN gs gs.length := by
  rw [costN_sum _ _ (Nat.le_refl _), costN_sum _ _ (Nat.le_refl _), List.take_of_length_le (Nat.le_refl _), List.take_of_length_le (Nat.le_refl _), List.map_reverse, List.sum_reverse]

/-! steps -/
theorem meets_ex (g h : Gt) : meets g h = true ↔ ∃ x, x ∈ linesOf g ∧ x ∈ linesOf h := by
  unfold meets
  rw [List.any_eq_true]
  constructor
  · rintro ⟨x, hx, hh⟩
    exact ⟨x, hx, mem_hasB.1 hh⟩
  · rintro ⟨x, hx, hh⟩
    exact ⟨x, hx, mem_hasB.2 hh⟩
theorem meets_comm (g h : Gt) : meets g h = meets h g := by
  rw [Bool.eq_iff_iff, meets_ex, meets_ex]
  constructor <;> (rintro ⟨x, h1, h2⟩; exact ⟨x, h2, h1⟩)
/-- the step of gate i -/
def stp (gs : List Gt) (i : Nat) : Int := (stepsN gs gs.length).getD i 0
theorem stp_eq (gs : List Gt) {i : Nat} (hi : i < gs.length) : stp gs i = stepJ gs (stepsN gs i) (gs.getD i g0) i := stepsN_at gs hi
theorem stp_pre (gs : List Gt) {i k : Nat} (hi : i < k) (hk : k ≤ gs.length) : (stepsN gs k).getD i 0 = stp gs i := by
  rw [stp_eq gs (by omega), stepsN_at gs hi]
theorem stp_le (gs : List Gt) {k : Nat} (hk : k < gs.length) (c : Int) (hc : 0 ≤ c) : stp gs k ≤ c + 1 ↔ ∀ i, i < k → meets (gs.getD i g0) (gs.getD k g0) = true → stp gs i ≤ c := by
  rw [stp_eq gs hk, stepJ_le _ _ _ _ _ hc]
  constructor
  · intro h i hi hm
    have := h i hi hm
    rwa [stp_pre gs hi (by omega)] at this
  · intro h i hi hm
    rw [stp_pre gs hi (by omega)]
    exact h i hi hm
theorem stp_pos (gs : List Gt) {k : Nat} (hk : k < gs.length) : 1 ≤ stp gs k := by
  rw [stp_eq gs hk]
  exact stepJ_pos _ _ _ _
theorem stp_lt (gs : List Gt) {i k : Nat} (hi : i < k) (hk : k < gs.length) (hm : meets (gs.getD i g0) (gs.getD k g0) = true) : stp gs i < stp gs k := by
  have h1 := stp_pos gs hk
  have := (stp_le gs hk (stp gs k - 1) (by omega)).1 (by omega) i hi hm
  omega
theorem stp_prev (gs : List Gt) {k : Nat} (hk : k < gs.length) (h1 : stp gs k ≠ 1) : ∃ i, i < k ∧ meets (gs.getD i g0) (gs.getD k g0) = true ∧ stp gs i = stp gs k - 1 := by
  have hp := stp_pos gs hk
  have hno : ¬ (stp gs k ≤ (stp gs k - 2) + 1) := by omega
  rw [stp_le gs hk _ (by omega)] at hno
  apply Classical.byContradiction
  intro hx
  apply hno
  intro i hi hm
  have h2 := stp_lt gs hi hk hm
  apply Classical.byContradiction
  intro h3
  exact hx ⟨i, hi, hm, by omega⟩

/-! chains -/
/-- a chain of d gates, each of which meets the next one, from gate i to gate j -/
def Pth (gs : List Gt) : Nat → Nat → Nat → Prop
  | 0, i, j => i = j ∧ i < gs.length
  | d + 1, i, j => ∃ k, Pth gs d i k ∧ k < j ∧ j < gs.length ∧ meets (gs.getD k g0) (gs.getD j g0) = true
theorem Pth.lt {gs : List Gt} {d i j : Nat} (h : Pth gs d i j) : i < gs.length ∧ j < gs.length ∧ i ≤ j := by
  induction d generalizing j with
  | zero => obtain ⟨rfl, h⟩ := h; exact ⟨h, h, Nat.le_refl _⟩
  | succ d ih =>
    obtain ⟨k, hp, hk, hj, _⟩ := h
    have := ih hp
    exact ⟨this.1, hj, by omega⟩
theorem Pth.front {gs : List Gt} {d i k j : Nat} (hik : i < k) (hm : meets (gs.getD i g0) (gs.getD k g0) = true) (h : Pth gs d k j) : Pth gs (d + 1) i j := by
  induction d generalizing j with
  | zero =>
    obtain ⟨rfl, h⟩ := h
    exact ⟨i, ⟨rfl, by omega⟩, hik, h, hm⟩
  | succ d ih =>
    obtain ⟨q, hp, hq, hj, hm2⟩ := h
    exact ⟨q, ih hp, hq, hj, hm2⟩
theorem Pth.rev {gs : List Gt} {d i j : Nat} (h : Pth gs d i j) : Pth gs.reverse d (gs.length - 1 - j) (gs.length - 1 - i) := by
  induction d generalizing j with
  | zero =>
    obtain ⟨rfl, h⟩ := h
    exact ⟨rfl, by rw [List.length_reverse]; omega⟩
  | succ d ih =>
    obtain ⟨k, hp, hk, hj, hm⟩ := h
    have hl := hp.lt
    refine Pth.front (k := gs.length - 1 - k) (by omega) ?_ (ih hp)
    rw [rev_getD gs (by omega), rev_getD gs (by omega), meets_comm]
    rw [show gs.length - 1 - (gs.length - 1 - j) = j by omega, show gs.length - 1 - (gs.length - 1 - k) = k by omega]
    exact hm
theorem pth_stp {gs : List Gt} {d i j : Nat} (h : Pth gs d i j) : (d : Int) + 1 ≤ stp gs j := by
  induction d generalizing j with
  | zero =>
    obtain ⟨rfl, h⟩ := h
    have := stp_pos gs h
    omega
  | succ d ih =>
    obtain ⟨k, hp, hk, hj, hm⟩ := h
    have h1 := ih hp
    have h2 := stp_lt gs hk hj hm
    omega
theorem stp_pth {gs : List Gt} {d j : Nat} (hj : j < gs.length) (h : (d : Int) + 1 ≤ stp gs j) : ∃ i, Pth gs d i j := by
  induction d generalizing j with
  | zero => exact ⟨j, rfl, hj⟩
  | succ d ih =>
    obtain ⟨i, hi, hm, e⟩ := stp_prev gs hj (by omega)
    obtain ⟨q, hq⟩ := ih (j := i) (by omega) (by omega)
    exact ⟨q, i, hq, hi, hj, hm⟩

/-! depths -/
/-- the greatest step -/
def depN (gs : List Gt) : Int := mxP (fun x => x) (stepsN gs gs.length) gs.length
theorem depN_le (gs : List Gt) (c : Int) (hc : 0 ≤ c) : depN gs ≤ c ↔ ∀ i, i < gs.length → stp gs i ≤ c := mxP_le _ _ _ _ hc
theorem depN_pos (gs : List Gt) : 0 ≤ depN gs := mxP_pos _ _ _
theorem depN_rev_le (gs : List Gt) : depN gs ≤ depN gs.reverse := by
  rw [depN_le _ _ (depN_pos _)]
  intro j hj
  have hp := stp_pos gs hj
  obtain ⟨d, hd⟩ := Int.eq_ofNat_of_zero_le (show 0 ≤ stp gs j - 1 by omega)
  obtain ⟨i, hi⟩ := stp_pth (d := d) hj (by omega)
  have h1 := hi.rev
  have h2 := pth_stp h1
  have h3 := h1.lt
  have h4 := (depN_le gs.reverse (depN gs.reverse) (depN_pos _)).1 (Int.le_refl _) _ h3.2.1
  omega
theorem depN_rev (gs : List Gt) : depN gs.reverse = depN gs := by
  have h1 := depN_rev_le gs
  have h2 := depN_rev_le gs.reverse
  rw [List.reverse_reverse] at h2
  omega
theorem depN_len (gs : List Gt) : depN gs ≤ gs.length := (depth_bd gs gs.length rfl gs.length (Nat.le_refl _)).2
theorem a_mem {l : Int} {g : Gt} (h : gateB l g = true) : g.a ∈ linesOf g ∧ 0 ≤ g.a ∧ g.a < l := by
  unfold gateB at h
  simp only [Bool.and_eq_true] at h
  have hk := inB_t h.1.1.2
  have ho := h.1.2
  have hm : ∃ r, linesOf g = g.a :: r := by
    unfold linesOf
    by_cases e0 : g.k = 0
    · rw [if_pos e0]; exact ⟨_, rfl⟩
    · rw [if_neg e0]
      by_cases e1 : g.k = 1 ∨ g.k = 3
      · rw [if_pos e1]; exact ⟨_, rfl⟩
      · rw [if_neg e1, if_pos (by omega)]; exact ⟨_, rfl⟩
  obtain ⟨r, e⟩ := hm
  have h1 : okP (l - 1) (linesOf g) 1 = true := by
    rcases hq : okP (l - 1) (linesOf g) 1 with _ | _
    · rw [okP_le (n := (linesOf g).length) (by rw [e]; simp) hq] at ho; cases ho
    · rfl
  simp only [okP, Bool.and_eq_true] at h1
  have h2 := inB_t h1.2.1
  rw [e] at h2
  simp at h2
  exact ⟨by rw [e]; simp, by omega, by omega⟩
theorem depN_lines {l : Int} {gs : List Gt} (h : circB l gs = true) : (gs.length : Int) ≤ depN gs * l := by
  have hl := inB_t (circB_t h).2.1
  obtain ⟨L, hL⟩ := Int.eq_ofNat_of_zero_le (show 0 ≤ l by omega)
  obtain ⟨D, hD⟩ := Int.eq_ofNat_of_zero_le (depN_pos gs)
  have hs : ∀ i, i < gs.length → 1 ≤ stp gs i ∧ stp gs i ≤ D := fun i hi => ⟨stp_pos gs hi, by rw [← hD]; exact (depN_le gs _ (depN_pos gs)).1 (Int.le_refl _) i hi⟩
  have ha : ∀ i, i < gs.length → (gs.getD i g0).a ∈ linesOf (gs.getD i g0) ∧ 0 ≤ (gs.getD i g0).a ∧ (gs.getD i g0).a < L := fun i hi => by
    have := a_mem (circB_mem h hi)
    rwa [hL] at this
  have key : gs.length ≤ D * L := by
    refine inj_le (f := fun i => (stp gs i - 1).toNat * L + (gs.getD i g0).a.toNat) ?_ ?_
    · intro i hi
      have h1 := hs i hi
      have h2 := ha i hi
      have h3 : (stp gs i - 1).toNat + 1 ≤ D := by omega
      have h4 : (gs.getD i g0).a.toNat < L := by omega
      calc (stp gs i - 1).toNat * L + (gs.getD i g0).a.toNat < (stp gs i - 1).toNat * L + L := by omega
        _ = ((stp gs i - 1).toNat + 1) * L := by rw [Nat.add_mul, Nat.one_mul]
        _ ≤ D * L := Nat.mul_le_mul_right _ h3
    · intro i j hij hj e
      have h1 := ha i (by omega)
      have h2 := ha j hj
      have q1 := hs i (by omega)
      have q2 := hs j hj
      have hL0 : 0 < L := by omega
      have e1 : (gs.getD i g0).a.toNat = (gs.getD j g0).a.toNat := by
        have := congrArg (· % L) e
        simp only [Nat.mul_add_mod_self_right] at this
        rwa [Nat.mod_eq_of_lt (by omega), Nat.mod_eq_of_lt (by omega)] at this
      have e2 : (stp gs i - 1).toNat = (stp gs j - 1).toNat := by
        rw [e1] at e
        exact Nat.eq_of_mul_eq_mul_right hL0 (by omega)
      have hm : meets (gs.getD i g0) (gs.getD j g0) = true := (meets_ex _ _).2 ⟨_, h1.1, by rw [show (gs.getD i g0).a = (gs.getD j g0).a by omega]; exact h2.1⟩
      have := stp_lt gs hij hj hm
      omega
  rw [hD, hL]
  exact_mod_cast key
end Go.Proofs.Ytbhfkcneakocdaa
