/- Contracts of l20Form, DrawFormValid, DrawFormOnes, DrawFormBits, DrawFormOut. -/
import Derived.Test.YtpahhgehamgkaaaDrawF
import Derived.Test.YtpahhgehamgkaaaDraws4
import Derived.Test.YtpahhgehamgkaaaFormV
namespace Go.Proofs.Ytpahhgehamgkaaa
open Go.RowKit
set_option linter.unusedVariables false

/-- a number of inputs and some steps were drawn -/
def DrawnF (B : Nat) (w : World) (e : Ending) (w' : World) : Prop :=
  ∃ (i : Int) (gs : List St) (A : Option Addr) (c : Nat), e = .returned (.tuple #[.int .i64 i, .slice A gs.length c]) ∧ 0 ≤ i ∧ i ≤ 4 ∧ gs.length ≤ 3 ∧ gs.length ≤ c ∧ Own w' B A (scells gs)
theorem l20Form_rd (n : Int) (r p : Nat) (w : World) (h : Rd w r p) (hp : p ≤ 999000) (hn0 : 0 ≤ n) (hn : n ≤ 1000) :
    Calls Try.prog 39 #[.pointer (some ⟨r, 0, none⟩), .int .i64 n] w fun e w' => DrawnF w.heap.size w e w' ∧ Rd w' r (p + 30) ∧ w.grownBy w' (some r) := by
  have q1 : wrap64 (2 * n) = 2 * n := IntWalk.wrap64_in _ (by omega)
  go_enter Try.func39, Try.ntmps39
  go_wp2_with fail
  refine (l20Inputs_rd (2 * n) r p w h (by omega) (by omega)).mono ?_
  rintro e w1 ⟨i, rfl, ⟨hi0, hi4⟩, hr1, hg1⟩
  go_wp2_with fail
  refine (l20FormOf_rd i (2 * n) r (p + 2) w1 hr1 (by omega) (by omega) hi0 hi4).mono ?_
  rintro e w2 ⟨gs, A, c, rfl, h3, hc, ho, hr2, hg2⟩
  go_wp2_with fail
  go_ret2
  exact ⟨⟨i, gs, A, c, rfl, hi0, hi4, h3, hc, ho.mono hg1.size⟩, hr2.mono (by omega), only_trans hg1 hg2⟩

theorem formP_take {i : Int} {gs : List St} {m k : Nat} (h : k ≤ m) : formP i (gs.take m) k = formP i gs k := by
  induction k with
  | zero => rfl
  | succ k ih =>
    have e : (gs.take m).getD k s0 = gs.getD k s0 := by
      rw [List.getD_eq_getElem?_getD, List.getD_eq_getElem?_getD, List.getElem?_take, if_pos (by omega)]
    simp only [formP]
    rw [ih (by omega), e]
theorem formB_take {i : Int} {gs : List St} {m : Nat} (h : formB i gs = true) (h1 : 1 ≤ m) (hm : m ≤ gs.length) : formB i (gs.take m) = true := by
  unfold formB at h ⊢
  rw [Bool.and_eq_true, Bool.and_eq_true] at h
  have hl := inB_t h.2.1
  have e : (gs.take m).length = m := by rw [List.length_take]; omega
  rw [e, Bool.and_eq_true, Bool.and_eq_true]
  refine ⟨h.1, inB_of ⟨by omega, by omega⟩, ?_⟩
  rw [formP_take (Nat.le_refl _)]
  rcases hq : formP i gs m with _ | _
  · rw [formP_le hm hq] at h; exact absurd h.2.2 (by simp)
  · rfl
theorem formB_nil (i : Int) : formB i [] = false := by
  unfold formB
  rw [show inB (([] : List St).length : Int) 1 3 = false from by decide]
  simp
end Go.Proofs.Ytpahhgehamgkaaa
