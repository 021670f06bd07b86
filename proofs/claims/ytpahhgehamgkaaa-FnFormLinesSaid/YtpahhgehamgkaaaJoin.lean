/- Contracts of both CircuitJoin. -/
import Derived.Test.YtpahhgehamgkaaaJoinG
namespace Go.Proofs.Ytpahhgehamgkaaa
open Go.RowKit
set_option linter.unusedVariables false

def joinB (l : Int) (gs hs : List Gt) : Bool := circB l gs && (circB l hs && decide (gs.length + hs.length ≤ 24))
/-- what CircuitJoin answers -/
def joinL (l : Int) (gs hs : List Gt) : List Gt := if joinB l gs hs = true then gs ++ hs else []
theorem joinL_bd (l : Int) (gs hs : List Gt) : (joinL l gs hs).length ≤ 1048576 := by
  unfold joinL
  split
  · rename_i h
    unfold joinB at h
    rw [Bool.and_eq_true, Bool.and_eq_true] at h
    have := of_decide_eq_true h.2.2
    simp
    omega
  · simp
theorem joinL_n {l : Int} {gs hs : List Gt} (h : joinB l gs hs = false) : joinL l gs hs = [] := by unfold joinL; rw [h]; rfl
theorem joinL_y {l : Int} {gs hs : List Gt} (h : joinB l gs hs = true) : joinL l gs hs = gs ++ hs := by unfold joinL; rw [h]; rfl
theorem joinB_a {l : Int} {gs hs : List Gt} (h : circB l gs = false) : joinB l gs hs = false := by unfold joinB; rw [h]; rfl
theorem joinB_b {l : Int} {gs hs : List Gt} (h : circB l hs = false) : joinB l gs hs = false := by unfold joinB; rw [h]; simp
theorem joinB_c {l : Int} {gs hs : List Gt} (h : 24 < gs.length + hs.length) : joinB l gs hs = false := by unfold joinB; rw [decide_eq_false (by omega)]; simp
theorem joinB_y {l : Int} {gs hs : List Gt} (h : circB l gs = true) (h' : circB l hs = true) (h3 : gs.length + hs.length ≤ 24) : joinB l gs hs = true := by unfold joinB; rw [h, h', decide_eq_true h3]; rfl

theorem clipGO_any (A : Option Addr) (n c : Nat) (w : World) (h : n ≤ c) (hn : c ≤ 9223372036854775807) :
    Calls Try.prog 47 #[.slice A n c] w fun e w' => e = .returned (.slice A n n) ∧ w = w' := by
  rcases A with _ | ⟨b, o, r⟩
  all_goals
    go_enter Try.func47, Try.ntmps47
    go_wp2_with fail
    go_ret
    exact ⟨rfl, rfl⟩

theorem own_base {w : World} {base base' e size n : Nat} {v : Value} {xs : List Value} (h : w.ownsRow base e size v n xs) (hb : base' ≤ base) : w.ownsRow base' e size v n xs := by
  refine ⟨h.1, ?_⟩
  rcases h.2 with h | ⟨g, cap, cur, e1, e2, e3⟩
  · exact .inl h
  · exact .inr ⟨g, cap, cur, e1, Nat.le_trans hb e2, e3⟩


end Go.Proofs.Ytpahhgehamgkaaa
