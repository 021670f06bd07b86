/- What the readers of a table answer, and the plain law: both readers answer the same; a valid table's text reads back; a text with a blank behind it is refused. No program is in sight. -/
import Derived.Test.YtffkoeobehocjaaDoorSpl
import Derived.Test.YtffkoeobehocjaaDoorTxtJ
import Derived.Lib.AtoiAllCases
import Derived.Lib.ItoaMem
namespace Go.Proofs.YtffkoeobehocjaaDoor
open Go.RowKit
set_option linter.unusedVariables false

/-- spec's candidate -/
def tbS (l : List UInt8) : List Int := (cutL l).map digL
/-- a word is a number for strconv.Atoi -/
def okF (x : List UInt8) : Bool := match Lib.atoiAll x with | .ok _ => true | _ => false
/-- that number -/
def vaF (x : List UInt8) : Int := match Lib.atoiAll x with | .ok v => v | _ => 0
/-- impl's candidate -/
def tbI (l : List UInt8) : List Int := (cutL l).map vaF
/-- the lines of a table of that length -/
def lnOf (t : List Int) : Int := (Lib.bitLen t.length : Int) - 1
/-- the text of numbers -/
def joinI (t : List Int) : List UInt8 := Lib.join (t.map Lib.itoa) [32]
/-- spec reads a table -/
def tdOk (l : List UInt8) : Bool := decide (tabTx (lnOf (tbS l)) (tbS l) = l) && decide (l ≠ [])
/-- impl reads a table -/
def tiOk (l : List UInt8) : Bool := (cutL l).all okF && (decide (joinI (tbI l) = l) && tblB (lnOf (tbI l)) (tbI l))

theorem tblB_ln {n : Int} {t : List Int} (h : tblB n t = true) : lnOf t = n := by
  obtain ⟨h1, h2, _⟩ := tblB_t h
  have h8 := inB_t h1
  unfold lnOf
  have h9 : n = 1 ∨ n = 2 ∨ n = 3 ∨ n = 4 ∨ n = 5 ∨ n = 6 ∨ n = 7 ∨ n = 8 := by omega
  rcases h9 with rfl | rfl | rfl | rfl | rfl | rfl | rfl | rfl
  · rw [show t.length = 2 by have : pw 1 = 2 := rfl; omega]; decide
  · rw [show t.length = 4 by have : pw 2 = 4 := rfl; omega]; decide
  · rw [show t.length = 8 by have : pw 3 = 8 := rfl; omega]; decide
  · rw [show t.length = 16 by have : pw 4 = 16 := rfl; omega]; decide
  · rw [show t.length = 32 by have : pw 5 = 32 := rfl; omega]; decide
  · rw [show t.length = 64 by have : pw 6 = 64 := rfl; omega]; decide
  · rw [show t.length = 128 by have : pw 7 = 128 := rfl; omega]; decide
  · rw [show t.length = 256 by have : pw 8 = 256 := rfl; omega]; decide

/-! The numerals of up to three digits. -/
def dec3 (v : Nat) : List UInt8 := if v < 10 then [UInt8.ofNat (48 + v)] else if v < 100 then [UInt8.ofNat (48 + v / 10), UInt8.ofNat (48 + v % 10)] else [UInt8.ofNat (48 + v / 10 / 10), UInt8.ofNat (48 + v / 10 % 10), UInt8.ofNat (48 + v % 10)]
theorem dec3_eq {v : Nat} (h : v < 1000) : Lib.decDigits v = dec3 v := by
  unfold dec3
  by_cases h1 : v < 10
  · rw [if_pos h1, Lib.decDigits_one h1]
  · rw [if_neg h1]
    by_cases h2 : v < 100
    · rw [if_pos h2, Lib.decDigits_two h1 h2]
    · rw [if_neg h2, Lib.decDigits, dif_neg h1, Lib.decDigits_two (by omega) (by omega)]
      rfl
def dec3ok (v : Nat) : Bool := decide (digL (dec3 v) = (v : Int)) && (okF (dec3 v) && (decide (vaF (dec3 v) = (v : Int)) && ((dec3 v).all (fun b => decide (b.toNat ≠ 32)) && decide (dec3 v ≠ []))))
theorem dec3_all : ∀ v : Fin 256, dec3ok v.val = true := by decide +kernel
theorem dec_ok {v : Nat} (h : v < 256) : digL (Lib.decDigits v) = (v : Int) ∧ okF (Lib.decDigits v) = true ∧ vaF (Lib.decDigits v) = (v : Int) ∧ (∀ b ∈ Lib.decDigits v, b.toNat ≠ 32) ∧ Lib.decDigits v ≠ [] := by
  rw [dec3_eq (by omega)]
  have h1 := dec3_all ⟨v, h⟩
  unfold dec3ok at h1
  simp only [Bool.and_eq_true, decide_eq_true_eq, List.all_eq_true] at h1
  exact ⟨h1.1, h1.2.1, h1.2.2.1, h1.2.2.2.1, h1.2.2.2.2⟩

/-! The words of a text that was put together. -/
theorem splF_ne (l : List UInt8) : splF l ≠ [] := by
  cases l with
  | nil => simp [splF]
  | cons b l =>
    unfold splF
    split
    · simp
    · cases h : splF l with
      | nil => exact absurd h (splF_ne l)
      | cons x t => simp [putW]
theorem splF_word (x : List UInt8) (h : ∀ b ∈ x, b.toNat ≠ 32) : splF x = [x] := by
  induction x with
  | nil => rfl
  | cons b x ih =>
    rw [splF, if_neg (h b (by simp)), ih fun c hc => h c (by simp [hc])]
    rfl
theorem splF_word_blank (x : List UInt8) (h : ∀ b ∈ x, b.toNat ≠ 32) (l : List UInt8) : splF (x ++ 32 :: l) = x :: splF l := by
  induction x with
  | nil => rw [List.nil_append, splF, if_pos (by decide)]
  | cons b x ih =>
    rw [List.cons_append, splF, if_neg (h b (by simp)), ih fun c hc => h c (by simp [hc])]
    rfl
theorem splF_join (x : List UInt8) (r : List (List UInt8)) (h : ∀ y ∈ x :: r, ∀ b ∈ y, b.toNat ≠ 32) : splF (Lib.join (x :: r) [32]) = x :: r := by
  induction r generalizing x with
  | nil => rw [Lib.join_one, splF_word x (h x (by simp))]
  | cons y r ih =>
    have e : Lib.join (x :: y :: r) [32] = x ++ 32 :: Lib.join (y :: r) [32] := by
      rw [Lib.join_cons, Lib.join_cons]
      simp [Lib.joinTail]
    rw [e, splF_word_blank x (h x (by simp)), ih y fun z hz => h z (by simp only [List.mem_cons] at hz ⊢; exact .inr hz)]
theorem splF_last (l : List UInt8) : splF (l ++ [32]) = splF l ++ [[]] := by
  induction l with
  | nil => rfl
  | cons b l ih =>
    rw [List.cons_append, splF, splF, ih]
    split
    · rfl
    · cases h : splF l with
      | nil => exact absurd h (splF_ne l)
      | cons x t => rfl

/-! A valid table's text. -/
theorem tab_ent {n : Int} {t : List Int} (h : tblB n t = true) : ∀ x ∈ t, ∃ v : Nat, x = (v : Int) ∧ v < 256 := by
  obtain ⟨_, h2, h3⟩ := tblB_bd h
  intro x hx
  obtain ⟨k, hk, rfl⟩ := List.getElem_of_mem hx
  have h4 := h3 k hk
  rw [List.getD_eq_getElem?_getD, List.getElem?_eq_getElem hk, Option.getD_some] at h4
  exact ⟨(t[k]).toNat, by omega, by omega⟩
theorem tab_join {n : Int} {t : List Int} (h : tblB n t = true) : tabTx n t = Lib.join (t.map fun z => Lib.decDigits z.toNat) [32] := by
  obtain ⟨h1, _, _⟩ := tblB_bd h
  have e := wl_join t (by omega)
  unfold wl at e
  rw [List.take_length] at e
  unfold tabTx
  rw [if_pos h, e]
theorem tab_joinI {n : Int} {t : List Int} (h : tblB n t = true) : joinI t = tabTx n t := by
  rw [tab_join h]
  unfold joinI
  congr 1
  refine List.map_congr_left fun x hx => ?_
  obtain ⟨v, rfl, hv⟩ := tab_ent h x hx
  rw [Lib.itoa_nonneg, Int.toNat_natCast]
theorem tab_words {n : Int} {t : List Int} (h : tblB n t = true) : cutL (tabTx n t) = t.map fun z => Lib.decDigits z.toNat := by
  obtain ⟨h1, _, _⟩ := tblB_bd h
  rw [cutL_spl, tab_join h]
  cases t with
  | nil => simp at h1
  | cons a t =>
    rw [List.map_cons]
    refine splF_join _ _ fun y hy b hb => ?_
    rw [← List.map_cons (f := fun z : Int => Lib.decDigits z.toNat), List.mem_map] at hy
    obtain ⟨x, hx, rfl⟩ := hy
    obtain ⟨v, rfl, hv⟩ := tab_ent h x hx
    rw [Int.toNat_natCast] at hb
    exact (dec_ok hv).2.2.2.1 b hb
theorem tab_cands {n : Int} {t : List Int} (h : tblB n t = true) : tbS (tabTx n t) = t ∧ tbI (tabTx n t) = t ∧ (cutL (tabTx n t)).all okF = true := by
  unfold tbS tbI
  rw [tab_words h, List.map_map, List.map_map]
  refine ⟨?_, ?_, ?_⟩
  · conv => rhs; rw [← List.map_id t]
    refine List.map_congr_left fun x hx => ?_
    obtain ⟨v, rfl, hv⟩ := tab_ent h x hx
    simp only [Function.comp, Int.toNat_natCast, id]
    exact (dec_ok hv).1
  · conv => rhs; rw [← List.map_id t]
    refine List.map_congr_left fun x hx => ?_
    obtain ⟨v, rfl, hv⟩ := tab_ent h x hx
    simp only [Function.comp, Int.toNat_natCast, id]
    exact (dec_ok hv).2.2.1
  · rw [List.all_eq_true]
    intro y hy
    rw [List.mem_map] at hy
    obtain ⟨x, hx, rfl⟩ := hy
    obtain ⟨v, rfl, hv⟩ := tab_ent h x hx
    rw [Int.toNat_natCast]
    exact (dec_ok hv).2.1
theorem tab_ne {n : Int} {t : List Int} (h : tblB n t = true) : tabTx n t ≠ [] := by
  intro e
  have h1 := tab_words h
  rw [e] at h1
  obtain ⟨h2, _, _⟩ := tblB_bd h
  have h3 := congrArg List.length h1
  rw [List.length_map] at h3
  have h4 : (cutL []).length = 1 := rfl
  omega
theorem tab_val {n : Int} {t : List Int} (h : tabTx n t ≠ []) : tblB n t = true := by
  cases e : tblB n t with
  | true => rfl
  | false =>
    unfold tabTx at h
    rw [e] at h
    exact absurd rfl h

/-! The laws. -/
theorem tdOk_t {l : List UInt8} (h : tdOk l = true) : tabTx (lnOf (tbS l)) (tbS l) = l ∧ l ≠ [] ∧ tblB (lnOf (tbS l)) (tbS l) = true := by
  unfold tdOk at h
  simp only [Bool.and_eq_true, decide_eq_true_eq] at h
  exact ⟨h.1, h.2, tab_val (by rw [h.1]; exact h.2)⟩
theorem tdOk_of {n : Int} {l : List UInt8} (h : tabTx n (tbS l) = l) (h2 : l ≠ []) : tdOk l = true ∧ n = lnOf (tbS l) := by
  have hv := tab_val (n := n) (t := tbS l) (by rw [h]; exact h2)
  have e := tblB_ln hv
  refine ⟨?_, e.symm⟩
  unfold tdOk
  rw [e, Bool.and_eq_true]
  exact ⟨decide_eq_true h, decide_eq_true h2⟩
theorem tiOk_t {l : List UInt8} (h : tiOk l = true) : (cutL l).all okF = true ∧ joinI (tbI l) = l ∧ tblB (lnOf (tbI l)) (tbI l) = true := by
  unfold tiOk at h
  rw [Bool.and_eq_true, Bool.and_eq_true] at h
  exact ⟨h.1, of_decide_eq_true h.2.1, h.2.2⟩
/-- both readers answer the same -/
theorem td_same (l : List UInt8) : tiOk l = tdOk l ∧ (tdOk l = true → tbI l = tbS l) := by
  have hd : tdOk l = true → tiOk l = true ∧ tbI l = tbS l := fun h => by
    obtain ⟨h1, h2, h3⟩ := tdOk_t h
    obtain ⟨c1, c2, c3⟩ := tab_cands h3
    have hj := tab_joinI h3
    rw [h1] at c1 c2 c3 hj
    have e : tbI l = tbS l := c2
    refine ⟨?_, e⟩
    unfold tiOk
    rw [c3, e, h3, decide_eq_true hj]
    rfl
  have hi : tiOk l = true → tdOk l = true := fun h => by
    obtain ⟨h1, h2, h3⟩ := tiOk_t h
    have hj := (tab_joinI h3).symm.trans h2
    obtain ⟨c1, c2, c3⟩ := tab_cands h3
    rw [hj] at c1 c2 c3
    refine (tdOk_of (n := lnOf (tbI l)) (by rw [c1]; exact hj) (by rw [← hj]; exact tab_ne h3)).1
  refine ⟨?_, fun h => (hd h).2⟩
  cases e : tdOk l with
  | true => exact (hd e).1
  | false =>
    cases e2 : tiOk l with
    | false => rfl
    | true => rw [hi e2] at e; cases e
/-- a valid table's text reads back -/
theorem td_back {n : Int} {t : List Int} (h : tblB n t = true) : tdOk (tabTx n t) = true ∧ tbS (tabTx n t) = t ∧ lnOf t = n := by
  obtain ⟨c1, _, _⟩ := tab_cands h
  exact ⟨(tdOk_of (n := n) (by rw [c1]) (tab_ne h)).1, c1, tblB_ln h⟩
/-- a text with a blank behind it is refused -/
theorem td_blank (l : List UInt8) : tdOk (l ++ [32]) = false := by
  cases e : tdOk (l ++ [32]) with
  | false => rfl
  | true =>
    exfalso
    obtain ⟨h1, h2, h3⟩ := tdOk_t e
    have hw := tab_words h3
    rw [h1, cutL_spl, splF_last] at hw
    have hm : ([] : List UInt8) ∈ (tbS (l ++ [32])).map fun z => Lib.decDigits z.toNat := by rw [← hw]; simp
    rw [List.mem_map] at hm
    obtain ⟨x, hx, ex⟩ := hm
    obtain ⟨v, rfl, hv⟩ := tab_ent h3 x hx
    rw [Int.toNat_natCast] at ex
    exact (dec_ok hv).2.2.2.2 ex
end Go.Proofs.YtffkoeobehocjaaDoor
