/- In which step each gate of a circuit can be done, told in two ways. No program is in sight. -/
import Derived.Test.YtpahhgehamgkaaaCirc
namespace Go.Proofs.Ytpahhgehamgkaaa
open Go.RowKit
set_option linter.unusedVariables false

theorem mem_hasB {zs : List Int} {x : Int} : hasB zs x = true ↔ x ∈ zs := by
  unfold hasB
  rw [List.any_eq_true]
  constructor
  · rintro ⟨y, hy, e⟩
    rw [beq_iff_eq] at e
    exact e ▸ hy
  · intro h
    exact ⟨x, h, by simp⟩
/-- whether two gates have a line in common -/
def meets (g h : Gt) : Bool := (linesOf g).any fun x => hasB (linesOf h) x
/-- one more than the greatest step of those of the first j gates that meet g, at least 1 -/
def stepJ (gs : List Gt) (out : List Int) (g : Gt) : Nat → Int
  | 0 => 1
  | j + 1 => if meets (gs.getD j g0) g = true then max (stepJ gs out g j) (out.getD j 0 + 1) else stepJ gs out g j
/-- the steps of the first k gates -/
def stepsN (gs : List Gt) : Nat → List Int
  | 0 => []
  | k + 1 => stepsN gs k ++ [stepJ gs (stepsN gs k) (gs.getD k g0) k]
theorem stepsN_len (gs : List Gt) (k : Nat) : (stepsN gs k).length = k := by
  induction k with
  | zero => rfl
  | succ k ih => simp [stepsN, ih]
theorem stepsN_at (gs : List Gt) {j k : Nat} (h : j < k) : (stepsN gs k).getD j 0 = stepJ gs (stepsN gs j) (gs.getD j g0) j := by
  induction k with
  | zero => omega
  | succ k ih =>
    simp only [stepsN]
    by_cases e : j = k
    · subst e
      have := stepsN_len gs j
      simp [List.getD, this]
    · rw [← ih (by omega)]
      have := stepsN_len gs k
      simp [List.getD, List.getElem?_append_left (show j < (stepsN gs k).length by omega)]
theorem stepJ_le (gs : List Gt) (out : List Int) (g : Gt) (j : Nat) (c : Int) (hc : 0 ≤ c) : stepJ gs out g j ≤ c + 1 ↔ ∀ i, i < j → meets (gs.getD i g0) g = true → out.getD i 0 ≤ c := by
  induction j with
  | zero => simp [stepJ]; omega
  | succ j ih =>
    simp only [stepJ]
    constructor
    · intro h i hi hm
      by_cases e : i = j
      · subst e
        rw [if_pos hm] at h
        omega
      · refine (ih.1 ?_) i (by omega) hm
        split at h <;> omega
    · intro h
      have h1 := ih.2 fun i hi => h i (by omega)
      split
      · rename_i hm
        have := h j (by omega) hm
        omega
      · exact h1
theorem stepJ_pos (gs : List Gt) (out : List Int) (g : Gt) (j : Nat) : 1 ≤ stepJ gs out g j := by
  induction j with
  | zero => simp [stepJ]
  | succ j ih =>
    simp only [stepJ]
    split <;> omega
theorem stepsN_bd (gs : List Gt) (k : Nat) : ∀ j, j < k → 1 ≤ (stepsN gs k).getD j 0 ∧ (stepsN gs k).getD j 0 ≤ j + 1 := by
  intro j
  induction j using Nat.strongRecOn with
  | _ j ih =>
    intro hj
    rw [stepsN_at gs hj]
    refine ⟨stepJ_pos _ _ _ _, ?_⟩
    rw [stepJ_le _ _ _ _ _ (by omega)]
    intro i hi _
    have := ih i hi (by omega)
    rw [stepsN_at gs (by omega : i < k), ← stepsN_at gs hi] at this
    omega
/-- the greatest step of those of the first j gates that have a line, or 0 -/
def mxL (gs : List Gt) (out : List Int) (l : Int) : Nat → Int
  | 0 => 0
  | j + 1 => if hasB (linesOf (gs.getD j g0)) l = true then max (mxL gs out l j) (out.getD j 0) else mxL gs out l j
theorem mxL_le (gs : List Gt) (out : List Int) (l : Int) (j : Nat) (c : Int) (hc : 0 ≤ c) : mxL gs out l j ≤ c ↔ ∀ i, i < j → hasB (linesOf (gs.getD i g0)) l = true → out.getD i 0 ≤ c := by
  induction j with
  | zero => simp [mxL]; exact hc
  | succ j ih =>
    simp only [mxL]
    constructor
    · intro h i hi hm
      by_cases e : i = j
      · subst e
        rw [if_pos hm] at h
        omega
      · refine (ih.1 ?_) i (by omega) hm
        split at h <;> omega
    · intro h
      have h1 := ih.2 fun i hi => h i (by omega)
      split
      · rename_i hm
        have := h j (by omega) hm
        omega
      · exact h1
theorem mxL_pos (gs : List Gt) (out : List Int) (l : Int) (j : Nat) : 0 ≤ mxL gs out l j := by
  induction j with
  | zero => simp [mxL]
  | succ j ih =>
    simp only [mxL]
    split <;> omega
/-- the greatest of a number for each of the first i lines of a list, or 0 -/
def mxP (f : Int → Int) (zs : List Int) : Nat → Int
  | 0 => 0
  | i + 1 => max (mxP f zs i) (f (zs.getD i 0))
theorem mxP_le (f : Int → Int) (zs : List Int) (n : Nat) (c : Int) (hc : 0 ≤ c) : mxP f zs n ≤ c ↔ ∀ i, i < n → f (zs.getD i 0) ≤ c := by
  induction n with
  | zero => simp [mxP]; exact hc
  | succ n ih =>
    simp only [mxP]
    constructor
    · intro h i hi
      by_cases e : i = n
      · subst e; omega
      · exact (ih.1 (by omega)) i (by omega)
    · intro h
      have h1 := ih.2 fun i hi => h i (by omega)
      have := h n (by omega)
      omega
theorem mxP_pos (f : Int → Int) (zs : List Int) (n : Nat) : 0 ≤ mxP f zs n := by
  induction n with
  | zero => simp [mxP]
  | succ n ih => simp only [mxP]; omega
theorem meets_iff (g h : Gt) : meets g h = true ↔ ∃ i, i < (linesOf h).length ∧ hasB (linesOf g) ((linesOf h).getD i 0) = true := by
  unfold meets
  rw [List.any_eq_true]
  constructor
  · rintro ⟨x, hx, hh⟩
    have := mem_hasB.1 hh
    obtain ⟨i, hi, e⟩ := List.getElem_of_mem this
    refine ⟨i, hi, ?_⟩
    rw [List.getD, List.getElem?_eq_getElem hi, Option.getD_some, e]
    exact mem_hasB.2 hx
  · rintro ⟨i, hi, hh⟩
    refine ⟨_, mem_hasB.1 hh, mem_hasB.2 ?_⟩
    rw [List.getD, List.getElem?_eq_getElem hi, Option.getD_some]
    exact List.getElem_mem hi
/-- both ways give the same step -/
theorem step_two (gs : List Gt) (out : List Int) (g : Gt) (k : Nat) : stepJ gs out g k = 1 + mxP (fun l => mxL gs out l k) (linesOf g) (linesOf g).length := by
  have h1 := mxP_pos (fun l => mxL gs out l k) (linesOf g) (linesOf g).length
  have h2 := stepJ_pos gs out g k
  have a : stepJ gs out g k ≤ mxP (fun l => mxL gs out l k) (linesOf g) (linesOf g).length + 1 := by
    rw [stepJ_le _ _ _ _ _ h1]
    intro i hi hm
    obtain ⟨q, hq, hh⟩ := (meets_iff _ _).1 hm
    have := (mxP_le (fun l => mxL gs out l k) (linesOf g) (linesOf g).length _ h1).1 (Int.le_refl _) q hq
    exact (mxL_le gs out _ k _ h1).1 this i hi hh
  have b : mxP (fun l => mxL gs out l k) (linesOf g) (linesOf g).length ≤ stepJ gs out g k - 1 := by
    rw [mxP_le _ _ _ _ (by omega)]
    intro q hq
    rw [mxL_le _ _ _ _ _ (by omega)]
    intro i hi hh
    exact (stepJ_le gs out g k (stepJ gs out g k - 1) (by omega)).1 (by omega) i hi ((meets_iff _ _).2 ⟨q, hq, hh⟩)
  omega
theorem mxL_congr (gs : List Gt) (out out' : List Int) (l : Int) (k : Nat) (h : ∀ j, j < k → out.getD j 0 = out'.getD j 0) : mxL gs out l k = mxL gs out' l k := by
  induction k with
  | zero => rfl
  | succ k ih =>
    simp only [mxL]
    rw [ih fun j hj => h j (by omega), h k (by omega)]
/-- when each line was busy last, behind k gates -/
def busyF (gs : List Gt) (k : Nat) (l : Int) : Int := mxL gs (stepsN gs k) l k
theorem busyF_zero (gs : List Gt) (l : Int) : busyF gs 0 l = 0 := rfl
theorem busyF_succ (gs : List Gt) (k : Nat) (l : Int) : busyF gs (k + 1) l = if hasB (linesOf (gs.getD k g0)) l = true then 1 + mxP (busyF gs k) (linesOf (gs.getD k g0)) (linesOf (gs.getD k g0)).length else busyF gs k l := by
  have hc : mxL gs (stepsN gs (k + 1)) l k = busyF gs k l := mxL_congr _ _ _ _ _ fun j hj => by rw [stepsN_at gs (by omega : j < k + 1), ← stepsN_at gs hj]
  have hk : (stepsN gs (k + 1)).getD k 0 = 1 + mxP (busyF gs k) (linesOf (gs.getD k g0)) (linesOf (gs.getD k g0)).length := by
    rw [stepsN_at gs (by omega), step_two]
    rfl
  show mxL gs (stepsN gs (k + 1)) l (k + 1) = _
  simp only [mxL]
  rw [hc, hk]
  split
  · rename_i hh
    obtain ⟨i, hi, e⟩ := List.getElem_of_mem (mem_hasB.1 hh)
    have h1 := mxP_pos (busyF gs k) (linesOf (gs.getD k g0)) (linesOf (gs.getD k g0)).length
    have := (mxP_le (busyF gs k) (linesOf (gs.getD k g0)) (linesOf (gs.getD k g0)).length _ h1).1 (Int.le_refl _) i hi
    rw [List.getD, List.getElem?_eq_getElem hi, Option.getD_some, e] at this
    omega
  · rfl
theorem busyF_bd (gs : List Gt) (k : Nat) (l : Int) : 0 ≤ busyF gs k l ∧ busyF gs k l ≤ k := by
  refine ⟨mxL_pos _ _ _ _, ?_⟩
  unfold busyF
  rw [mxL_le _ _ _ _ _ (by omega)]
  intro i hi _
  have := stepsN_bd gs k i hi
  omega
theorem stepsN_succ (gs : List Gt) (k : Nat) : stepsN gs (k + 1) = stepsN gs k ++ [1 + mxP (busyF gs k) (linesOf (gs.getD k g0)) (linesOf (gs.getD k g0)).length] := by
  simp only [stepsN]
  rw [step_two]
  rfl
/-- what CircuitSteps answers -/
def circSteps (l : Int) (gs : List Gt) : List Int := if circB l gs = true then stepsN gs gs.length else []
theorem circSteps_y {l : Int} {gs : List Gt} (h : circB l gs = true) : circSteps l gs = stepsN gs gs.length := if_pos h
theorem circSteps_n {l : Int} {gs : List Gt} (h : circB l gs = false) : circSteps l gs = [] := if_neg (by rw [h]; decide)
theorem circSteps_bd (l : Int) (gs : List Gt) (h : gs.length ≤ 1048576) : (circSteps l gs).length ≤ 1048576 := by
  unfold circSteps
  split
  · rw [stepsN_len]; exact h
  · simp
theorem okP_get {m : Int} {xs : List Int} {n k : Nat} (h : okP m xs n = true) (hk : k < n) : inB (xs.getD k 0) 0 m = true := by
  have h1 : okP m xs (k + 1) = true := by
    rcases hq : okP m xs (k + 1) with _ | _
    · rw [okP_le (n := n) (by omega) hq] at h; exact h
    · rfl
  simp only [okP, Bool.and_eq_true] at h1
  exact h1.2.1
/-- the lines of a valid gate lie below 8 -/
theorem gateB_lines {l : Int} {g : Gt} (h : gateB l g = true) {i : Nat} (hi : i < (linesOf g).length) : 0 ≤ (linesOf g).getD i 0 ∧ (linesOf g).getD i 0 < l ∧ l ≤ 8 := by
  unfold gateB at h
  simp only [Bool.and_eq_true] at h
  obtain ⟨⟨⟨h1, h2⟩, h3⟩, h4⟩ := h
  have hl := inB_t h1
  have := inB_t (okP_get h3 hi)
  omega
end Go.Proofs.Ytpahhgehamgkaaa
