/- Plain facts on tables: an exchange of neighbours joins two cycles or divides one. -/
import Derived.Test.YtfpnjahdjppeaaaTabQ
import Derived.Test.YtfpnjahdjppeaaaTabC
import Derived.Test.YtfpnjahdjppeaaaWhole
namespace Go.Proofs.Ytfpnjahdjppeaaa
open Go.RowKit
set_option linter.unusedVariables false
set_option linter.unusedSimpArgs false

/-- how many cycles there are -/
def cyc (xs : List Int) : Nat := (cycL xs xs.length).length
/-- the least number of its cycle -/
def mn (xs : List Int) (j : Nat) : Bool := !seenB xs j j
theorem cyc_cnt (xs : List Int) (k : Nat) : (cycL xs k).length = cnt (mn xs) k := by
  induction k with
  | zero => rfl
  | succ k ih =>
    simp only [cycL, cnt]
    by_cases h : seenB xs k k = false
    · have hm : mn xs k = true := by unfold mn; rw [h]; rfl
      rw [if_pos h, if_pos hm, List.length_append, ih]
      rfl
    · have hm : ¬ mn xs k = true := by unfold mn; simpa using h
      rw [if_neg h, if_neg hm, ih]
      rfl
theorem mn_iff {xs : List Int} (P : Pm xs) {j : Nat} (hj : j < xs.length) : mn xs j = true ↔ ∀ t, j ≤ it xs t j := by
  unfold mn
  rw [Bool.not_eq_true', ← Bool.not_eq_true, seenB_iff P hj]
  constructor
  · intro h t
    rcases Nat.lt_or_ge (it xs t j) j with h2 | h2
    · exact absurd ⟨t, h2⟩ h
    · exact h2
  · rintro h ⟨t, h2⟩
    have := h t
    omega
/-- one number is reached from another one -/
def Rc (xs : List Int) (i j : Nat) : Prop := ∃ t, it xs t i = j
theorem Rc.refl (xs : List Int) (i : Nat) : Rc xs i i := ⟨0, rfl⟩
theorem Rc.trans {xs : List Int} {i j k : Nat} (h : Rc xs i j) (h' : Rc xs j k) : Rc xs i k := by
  obtain ⟨s, rfl⟩ := h
  obtain ⟨t, rfl⟩ := h'
  exact ⟨t + s, it_add t s i⟩
theorem Rc.symm {xs : List Int} (P : Pm xs) {i j : Nat} (hi : i < xs.length) (h : Rc xs i j) : Rc xs j i := by
  obtain ⟨s, rfl⟩ := h
  obtain ⟨q, _, e⟩ := it_round P hi s
  exact ⟨q, e⟩
theorem Rc.lt {xs : List Int} (P : Pm xs) {i j : Nat} (hi : i < xs.length) (h : Rc xs i j) : j < xs.length := by
  obtain ⟨s, rfl⟩ := h
  exact it_lt P hi
theorem Rc.next {xs : List Int} {i j : Nat} (h : Rc xs i j) : Rc xs i (nx xs j) := by
  obtain ⟨s, rfl⟩ := h
  exact ⟨s + 1, rfl⟩
/-- the place of a reached number in its round -/
theorem Rc.round {xs : List Int} (P : Pm xs) {i j : Nat} (hi : i < xs.length) (h : Rc xs i j) : ∃ s, 1 ≤ s ∧ s ≤ per xs i ∧ it xs s i = j := by
  obtain ⟨t, rfl⟩ := h
  have hp := per_spec P hi
  rcases Nat.eq_zero_or_pos (t % per xs i) with h0 | h0
  · exact ⟨per xs i, hp.1, Nat.le_refl _, by rw [hp.2.2.1, it_mod P hi t, h0]; rfl⟩
  · have := Nat.mod_lt t (show 0 < per xs i by omega)
    exact ⟨t % per xs i, h0, by omega, (it_mod P hi t).symm⟩
theorem has_min {xs : List Int} (P : Pm xs) : ∀ (b i : Nat), i < b → i < xs.length → ∃ m, Rc xs i m ∧ ∀ t, m ≤ it xs t m := by
  intro b
  induction b with
  | zero => intro i h; omega
  | succ b ih =>
    intro i hb hi
    by_cases h : ∃ t, it xs t i < i
    · obtain ⟨t, ht⟩ := h
      obtain ⟨m, h1, h2⟩ := ih (it xs t i) (by omega) (it_lt P hi)
      exact ⟨m, Rc.trans ⟨t, rfl⟩ h1, h2⟩
    · refine ⟨i, Rc.refl _ _, fun t => ?_⟩
      rcases Nat.lt_or_ge (it xs t i) i with h2 | h2
      · exact absurd ⟨t, h2⟩ h
      · exact h2
theorem min_eq {xs : List Int} (P : Pm xs) {i m m' : Nat} (hi : i < xs.length) (h : Rc xs i m) (h' : Rc xs i m') (hm : ∀ t, m ≤ it xs t m) (hm' : ∀ t, m' ≤ it xs t m') : m = m' := by
  obtain ⟨t, e⟩ := (h.symm P hi).trans h'
  obtain ⟨t', e'⟩ := (h'.symm P hi).trans h
  have h1 := hm t
  have h2 := hm' t'
  omega

/-- two tables that differ by an exchange -/
structure Ex (xs ys : List Int) (u v : Nat) : Prop where
  len : ys.length = xs.length
  hu : u < xs.length
  hv : v < xs.length
  ne : u ≠ v
  at1 : nx ys u = nx xs v
  at2 : nx ys v = nx xs u
  at3 : ∀ j, j < xs.length → j ≠ u → j ≠ v → nx ys j = nx xs j
theorem Ex.swap {xs ys : List Int} {u v : Nat} (h : Ex xs ys u v) : Ex xs ys v u := ⟨h.len, h.hv, h.hu, h.ne.symm, h.at2, h.at1, fun j hj h1 h2 => h.at3 j hj h2 h1⟩
theorem Ex.back {xs ys : List Int} {u v : Nat} (h : Ex xs ys u v) : Ex ys xs u v :=
  ⟨h.len.symm, by rw [h.len]; exact h.hu, by rw [h.len]; exact h.hv, h.ne, h.at2.symm, h.at1.symm, fun j hj h1 h2 => (h.at3 j (by rw [← h.len]; exact hj) h1 h2).symm⟩
theorem Ex.of_sw {xs : List Int} {k : Nat} (hk : 1 ≤ k) (hkl : k < xs.length) : Ex xs (sw xs k) (k - 1) k := by
  refine ⟨sw_len xs k, by omega, hkl, by omega, ?_, ?_, fun j hj h1 h2 => ?_⟩
  · rw [sw_nx hk hkl (by omega)]
    unfold tau
    rw [if_neg (by omega), if_pos rfl]
  · rw [sw_nx hk hkl hkl]
    unfold tau
    rw [if_pos rfl]
  · rw [sw_nx hk hkl hj]
    unfold tau
    rw [if_neg h2, if_neg h1]
section
variable {xs ys : List Int} {u v : Nat} (P : Pm xs) (Q : Pm ys) (E : Ex xs ys u v)
include P E
theorem ex_step (hn : ¬ Rc xs u v) : ∀ s, 1 ≤ s → s ≤ per xs v → it ys s u = it xs s v := by
  intro s
  induction s with
  | zero => intro h; omega
  | succ s ih =>
    intro _ hs
    rcases Nat.eq_zero_or_pos s with h0 | h0
    · subst h0
      exact E.at1
    · show nx ys (it ys s u) = nx xs (it xs s v)
      rw [ih h0 (by omega)]
      refine E.at3 _ (it_lt P E.hv) (fun e => hn ?_) ((per_spec P E.hv).2.2.2 s h0 (by omega))
      exact Rc.symm P E.hv ⟨s, e⟩
theorem ex_reach (hn : ¬ Rc xs u v) {j : Nat} (hj : Rc xs v j) : Rc ys u j := by
  obtain ⟨s, h1, h2, rfl⟩ := hj.round P E.hv
  exact ⟨s, ex_step P E hn s h1 h2⟩
theorem ex_away {j : Nat} (hj : j < xs.length) (h1 : ¬ Rc xs u j) (h2 : ¬ Rc xs v j) (t : Nat) : it ys t j = it xs t j := by
  induction t with
  | zero => rfl
  | succ t ih =>
    show nx ys (it ys t j) = nx xs (it xs t j)
    rw [ih]
    exact E.at3 _ (it_lt P hj) (fun e => h1 (Rc.symm P hj ⟨t, e⟩)) (fun e => h2 (Rc.symm P hj ⟨t, e⟩))
theorem ex_close {j : Nat} (h : Rc xs u j ∨ Rc xs v j) (t : Nat) : Rc xs u (it ys t j) ∨ Rc xs v (it ys t j) := by
  induction t with
  | zero => exact h
  | succ t ih =>
    show Rc xs u (nx ys (it ys t j)) ∨ Rc xs v (nx ys (it ys t j))
    by_cases h1 : it ys t j = u
    · rw [h1, E.at1]
      exact .inr (Rc.refl _ _).next
    · by_cases h2 : it ys t j = v
      · rw [h2, E.at2]
        exact .inl (Rc.refl _ _).next
      · rcases ih with h | h
        · rw [E.at3 _ (h.lt P E.hu) h1 h2]
          exact .inl h.next
        · rw [E.at3 _ (h.lt P E.hv) h1 h2]
          exact .inr h.next
include Q
theorem ex_join_lt (hn : ¬ Rc xs u v) {mu mv : Nat} (h1 : Rc xs u mu) (h2 : Rc xs v mv) (m1 : ∀ t, mu ≤ it xs t mu) (m2 : ∀ t, mv ≤ it xs t mv) (hlt : mu < mv) :
    cnt (mn xs) xs.length = cnt (mn ys) xs.length + 1 := by
  have hn' : ¬ Rc xs v u := fun h => hn (h.symm P E.hv)
  have ruv : ∀ {j}, Rc xs v j → Rc ys u j := fun h => ex_reach P E hn h
  have rvu : ∀ {j}, Rc xs u j → Rc ys v j := fun h => ex_reach P E.swap hn' h
  have yuv := ruv (Rc.refl xs v)
  have hul : u < ys.length := by rw [E.len]; exact E.hu
  have all : ∀ {j}, Rc xs u j ∨ Rc xs v j → Rc ys u j := fun h => by
    rcases h with h | h
    · exact yuv.trans (rvu h)
    · exact ruv h
  have least : ∀ {j}, Rc xs u j ∨ Rc xs v j → Rc ys j mu := fun h => ((all h).symm Q hul).trans (all (.inl h1))
  have hmv : mv < xs.length := h2.lt P E.hv
  have hmu : mu < xs.length := h1.lt P E.hu
  have low : ∀ {j}, Rc xs u j ∨ Rc xs v j → mu ≤ j := fun {j} h => by
    rcases h with h | h
    · obtain ⟨t, e⟩ := (h1.symm P E.hu).trans h
      have := m1 t
      omega
    · obtain ⟨t, e⟩ := (h2.symm P E.hv).trans h
      have := m2 t
      omega
  have dis : ∀ {j}, Rc xs u j → Rc xs v j → False := fun h h' => hn (h.trans (h'.symm P E.hv))
  have fmv : mn ys mv = false := by
    rw [← Bool.not_eq_true, mn_iff Q (by rw [E.len]; exact hmv)]
    intro h
    obtain ⟨t, e⟩ := least (.inr h2)
    have := h t
    omega
  rw [← cnt_add (f := mn ys) (g := fun j => mn ys j || mv == j) hmv fmv (fun j => rfl)]
  refine cnt_congr fun j hj => ?_
  have hjy : j < ys.length := by rw [E.len]; exact hj
  by_cases hu : Rc xs u j
  · have hne : (mv == j) = false := beq_eq_false_iff_ne.2 fun e => dis hu (e ▸ h2)
    rw [hne, Bool.or_false, Bool.eq_iff_iff, mn_iff P hj, mn_iff Q hjy]
    constructor
    · intro h t
      have e := min_eq P E.hu hu h1 h m1
      rw [e]
      exact low (ex_close P E (.inl h1) t)
    · intro h t
      obtain ⟨q, e⟩ := least (.inl hu)
      have h3 := h q
      have h4 := low (.inl hu)
      have e2 : j = mu := by omega
      rw [e2]
      exact m1 t
  · by_cases hv : Rc xs v j
    · have hf : mn ys j = false := by
        rw [← Bool.not_eq_true, mn_iff Q hjy]
        intro h
        obtain ⟨t, e⟩ := least (.inr hv)
        have h3 := h t
        obtain ⟨q, e2⟩ := (h2.symm P E.hv).trans hv
        have := m2 q
        omega
      rw [hf, Bool.false_or, Bool.eq_iff_iff, mn_iff P hj, beq_iff_eq]
      constructor
      · intro h
        exact min_eq P E.hv h2 hv m2 h
      · intro e t
        rw [← e]
        exact m2 t
    · have hne : (mv == j) = false := beq_eq_false_iff_ne.2 fun e => hv (e ▸ h2)
      rw [hne, Bool.or_false, Bool.eq_iff_iff, mn_iff P hj, mn_iff Q hjy]
      constructor
      · intro h t
        rw [ex_away P E hj hu hv t]
        exact h t
      · intro h t
        rw [← ex_away P E hj hu hv t]
        exact h t
theorem ex_join (hn : ¬ Rc xs u v) : cyc xs = cyc ys + 1 := by
  unfold cyc
  rw [cyc_cnt, cyc_cnt, E.len]
  obtain ⟨mu, h1, m1⟩ := has_min P _ u (Nat.lt_succ_self u) E.hu
  obtain ⟨mv, h2, m2⟩ := has_min P _ v (Nat.lt_succ_self v) E.hv
  rcases Nat.lt_trichotomy mu mv with h | h | h
  · exact ex_join_lt P Q E hn h1 h2 m1 m2 h
  · subst h
    exact absurd (h1.trans (h2.symm P E.hv)) hn
  · exact ex_join_lt P Q E.swap (fun h => hn (h.symm P E.hv)) h2 h1 m2 m1 h
theorem ex_split (h : Rc xs u v) : ¬ Rc ys u v := by
  have hp := per_spec P E.hu
  have hex : ∃ s, it xs s u = v := h
  have hmin : ∀ b, (∃ s, s < b ∧ it xs s u = v) → ∃ s, it xs s u = v ∧ ∀ t, t < s → it xs t u ≠ v := by
    intro b
    induction b with
    | zero => rintro ⟨s, h, _⟩; omega
    | succ b ih =>
      rintro ⟨s, hs, e⟩
      by_cases h2 : ∃ t, t < s ∧ it xs t u = v
      · obtain ⟨t, ht, e2⟩ := h2
        exact ih ⟨t, by omega, e2⟩
      · exact ⟨s, e, fun t ht e2 => h2 ⟨t, ht, e2⟩⟩
  obtain ⟨s, hs, hfirst⟩ := (by obtain ⟨s, e⟩ := hex; exact hmin (s + 1) ⟨s, by omega, e⟩ : ∃ s, it xs s u = v ∧ ∀ t, t < s → it xs t u ≠ v)
  have hs1 : 1 ≤ s := by
    rcases Nat.eq_zero_or_pos s with h0 | h0
    · subst h0; exact absurd hs E.ne
    · exact h0
  have hsp : s < per xs u := by
    rcases Nat.lt_or_ge s (per xs u) with h2 | h2
    · exact h2
    · have h3 := it_mod P E.hu s
      rw [hs] at h3
      have := Nat.mod_lt s (show 0 < per xs u by omega)
      exact absurd h3.symm (hfirst _ (by omega))
  have hst : ∀ t, 1 ≤ t → t ≤ s → it ys t v = it xs t u := by
    intro t
    induction t with
    | zero => intro h; omega
    | succ t ih =>
      intro _ ht
      rcases Nat.eq_zero_or_pos t with h0 | h0
      · subst h0
        exact E.at2
      · show nx ys (it ys t v) = nx xs (it xs t u)
        rw [ih h0 (by omega)]
        exact E.at3 _ (it_lt P E.hu) (hp.2.2.2 t h0 (by omega)) (hfirst t (by omega))
  have hss : it ys s v = v := by rw [hst s hs1 (Nat.le_refl _), hs]
  have hmul : ∀ q, it ys (q * s) v = v := by
    intro q
    induction q with
    | zero => rw [Nat.zero_mul]; rfl
    | succ q ih => rw [Nat.succ_mul, it_add, hss, ih]
  intro hr
  obtain ⟨t, e⟩ := Rc.symm Q (by rw [E.len]; exact E.hu) hr
  have hd : t = t % s + t / s * s := by have := Nat.mod_add_div t s; rw [Nat.mul_comm] at this; omega
  rw [hd, it_add, hmul] at e
  have hm := Nat.mod_lt t (show 0 < s by omega)
  rcases Nat.eq_zero_or_pos (t % s) with h0 | h0
  · rw [h0] at e
    exact E.ne e.symm
  · rw [hst _ h0 (by omega)] at e
    exact hp.2.2.2 _ h0 (by omega) e
theorem ex_cyc : cyc xs = cyc ys + 1 ∨ cyc ys = cyc xs + 1 := by
  by_cases h : Rc xs u v
  · exact .inr (ex_join Q P E.back (ex_split P Q E h))
  · exact .inl (ex_join P Q E h)
end
theorem sw_cyc {xs : List Int} (P : Pm xs) {k : Nat} (hk : 1 ≤ k) (hkl : k < xs.length) : cyc xs = cyc (sw xs k) + 1 ∨ cyc (sw xs k) = cyc xs + 1 :=
  ex_cyc P (P.sw hk hkl) (Ex.of_sw hk hkl)
theorem back_mn {xs : List Int} (P : Pm xs) {j : Nat} (hj : j < xs.length) (h : ∀ t, j ≤ it xs t j) (t : Nat) : j ≤ it (backL xs) t j := by
  have h1 := it_backL (pm_back P) (i := t) (j := j) (by rw [backL_len]; exact hj)
  rw [back_back P] at h1
  have hl : it (backL xs) t j < xs.length := by have := it_lt (pm_back P) (i := t) (k := j) (by rw [backL_len]; exact hj); rwa [backL_len] at this
  obtain ⟨q, e⟩ := Rc.symm P hl ⟨t, h1⟩
  rw [← e]
  exact h q
theorem cyc_back {xs : List Int} (P : Pm xs) : cyc (backL xs) = cyc xs := by
  unfold cyc
  rw [cyc_cnt, cyc_cnt, backL_len]
  refine cnt_congr fun j hj => ?_
  rw [Bool.eq_iff_iff, mn_iff P hj, mn_iff (pm_back P) (by rw [backL_len]; exact hj)]
  constructor
  · intro h t
    have := back_mn (pm_back P) (j := j) (by rw [backL_len]; exact hj) h t
    rwa [back_back P] at this
  · exact fun h t => back_mn P hj h t
end Go.Proofs.Ytfpnjahdjppeaaa
