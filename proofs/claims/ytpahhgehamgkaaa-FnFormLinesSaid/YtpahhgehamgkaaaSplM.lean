/- What SplitSwaps answers, and a contract of slices.Clip. -/
import Derived.Test.YtpahhgehamgkaaaRenM
namespace Go.Proofs.Ytpahhgehamgkaaa
open Go.RowKit
set_option linter.unusedVariables false

/-- the gates in place of a gate -/
def splG (g : Gt) : List Gt :=
  if g.k = 3 then [⟨1, g.a, g.b, 0⟩, ⟨1, g.b, g.a, 0⟩, ⟨1, g.a, g.b, 0⟩] else if g.k = 4 then [⟨1, g.c, g.b, 0⟩, ⟨2, g.a, g.b, g.c⟩, ⟨1, g.c, g.b, 0⟩] else [g]
def splL (gs : List Gt) : List Gt := gs.flatMap splG
theorem splG_len (g : Gt) : (splG g).length = 1 ∨ (splG g).length = 3 := by
  unfold splG
  split
  · exact .inr rfl
  · split
    · exact .inr rfl
    · exact .inl rfl
theorem spl_snoc (gs : List Gt) {k : Nat} (hk : k < gs.length) : splL (gs.take (k + 1)) = splL (gs.take k) ++ splG (gs.getD k g0) := by
  unfold splL
  rw [List.take_succ_eq_append_getElem hk, List.flatMap_append]
  simp [List.getD, List.getElem?_eq_getElem hk]
theorem spl_len (gs : List Gt) (k : Nat) (hk : k ≤ gs.length) : (splL (gs.take k)).length ≤ 3 * k := by
  induction k with
  | zero => simp [splL]
  | succ k ih =>
    rw [spl_snoc gs (by omega), List.length_append]
    have := splG_len (gs.getD k g0)
    have := ih (by omega)
    omega
/-- what SplitSwaps answers -/
def splB (l : Int) (gs : List Gt) : Bool := circB l gs && decide ((splL gs).length ≤ 24)
def splR (l : Int) (gs : List Gt) : List Gt := if splB l gs = true then splL gs else []
theorem splR_y {l : Int} {gs : List Gt} (h : splB l gs = true) : splR l gs = splL gs := if_pos h
theorem splR_n {l : Int} {gs : List Gt} (h : splB l gs = false) : splR l gs = [] := if_neg (by rw [h]; decide)
theorem splR_bd (l : Int) (gs : List Gt) : (splR l gs).length ≤ 1048576 := by
  unfold splR
  split
  · rename_i h
    unfold splB at h
    rw [Bool.and_eq_true] at h
    have := of_decide_eq_true h.2
    omega
  · simp
/-- a list of gates in new memory and a truth are returned -/
def RetGB (gs : List Gt) (b : Bool) (w : World) (e : Ending) (w' : World) : Prop :=
  ∃ A c, e = .returned (.tuple #[.slice A gs.length c, .bool b]) ∧ gs.length ≤ c ∧ Own w' w.heap.size A (gcells gs) ∧ Below w.heap.size w w'
theorem retGB_acc {w w1 : World} {gs : List Gt} {b : Bool} {A : Option Addr} {c c' : Nat} {t : TypeId} {n : Nat} {e : Ending} (ho : w1.ownsRow w.heap.size t 4 (.slice A n c) n (gcells gs)) (hc : n ≤ c') (hb : Below w.heap.size w w1) (he : e = .returned (.tuple #[.slice A n c', .bool b])) : RetGB gs b w e w1 := by
  obtain ⟨A2, c2, e2, h1, h2, h3⟩ := retG_acc ho hb rfl
  injection e2 with e2
  injection e2 with e3 e4 e5
  subst e3 e4 e5
  exact ⟨_, c', he, hc, h2, h3⟩
theorem retGB_nil {w w1 : World} {e : Ending} {A : Option Addr} {c : Nat} {gs : List Gt} {b : Bool} (hz : gs = []) (hb : Below w.heap.size w w1) (he : e = .returned (.tuple #[.slice A 0 c, .bool b])) : RetGB gs b w e w1 := by
  subst hz
  exact ⟨A, c, he, Nat.zero_le _, Own.nil _ _ _, hb⟩

theorem clipG_any (b o n c : Nat) (w : World) (h : n ≤ c) (hn : c ≤ 9223372036854775807) :
    Calls Try.prog 47 #[.slice (some ⟨b, o, none⟩) n c] w fun e w' => e = .returned (.slice (some ⟨b, o, none⟩) n n) ∧ w = w' := by
  go_enter Try.func47, Try.ntmps47
  go_wp2_with fail
  go_ret
  exact ⟨rfl, rfl⟩
end Go.Proofs.Ytpahhgehamgkaaa
