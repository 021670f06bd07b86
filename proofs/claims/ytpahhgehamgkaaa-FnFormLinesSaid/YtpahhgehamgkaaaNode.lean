/- Contracts of the nodes of a formula. -/
import Derived.Test.YtpahhgehamgkaaaSs
import Derived.Test.YtpahhgehamgkaaaToGate
namespace Go.Proofs.Ytpahhgehamgkaaa
open Go.RowKit
set_option linter.unusedVariables false

/-- the node that a step hands back -/
def nodeV (o : Nat) (x y : Int) : Value :=
  if o = 0 then .iface 62 (.agg #[.int .i64 x, .int .i64 y]) else if o = 1 then .iface 64 (.agg #[.int .i64 x, .int .i64 y])
  else if o = 2 then .iface 63 (.agg #[.int .i64 x, .int .i64 y]) else .iface 66 (.agg #[.int .i64 x])
set_option maxHeartbeats 1000000 in
theorem node_any (o : Nat) (x y : Int) (w : World) (ho : o ≤ 3) :
    Calls Try.prog 35 #[.agg #[.int .i64 o, .int .i64 x, .int .i64 y]] w fun e w' => e = .returned (nodeV o x y) ∧ Below w.heap.size w w' := by
  have h4 : o = 0 ∨ o = 1 ∨ o = 2 ∨ o = 3 := by omega
  rcases h4 with rfl | rfl | rfl | rfl
  all_goals
    go_enter Try.func35, Try.ntmps35
    go_wp2_with fail
    go_ret
    exact ⟨rfl, (Below.refl _ _).alloc (Nat.le_refl _) _⟩
theorem node_and (x y : Int) (w : World) : Calls Try.prog 35 #[.agg #[.int .i64 0, .int .i64 x, .int .i64 y]] w fun e w' => e = .returned (.iface 62 (.agg #[.int .i64 x, .int .i64 y])) ∧ Below w.heap.size w w' := node_any 0 x y w (by omega)
theorem node_or (x y : Int) (w : World) : Calls Try.prog 35 #[.agg #[.int .i64 1, .int .i64 x, .int .i64 y]] w fun e w' => e = .returned (.iface 64 (.agg #[.int .i64 x, .int .i64 y])) ∧ Below w.heap.size w w' := node_any 1 x y w (by omega)
theorem node_xor (x y : Int) (w : World) : Calls Try.prog 35 #[.agg #[.int .i64 2, .int .i64 x, .int .i64 y]] w fun e w' => e = .returned (.iface 63 (.agg #[.int .i64 x, .int .i64 y])) ∧ Below w.heap.size w w' := node_any 2 x y w (by omega)
theorem node_not (x y : Int) (w : World) : Calls Try.prog 35 #[.agg #[.int .i64 3, .int .i64 x, .int .i64 y]] w fun e w' => e = .returned (.iface 66 (.agg #[.int .i64 x])) ∧ Below w.heap.size w w' := node_any 3 x y w (by omega)
set_option maxHeartbeats 1000000 in
theorem node_else (o x y : Int) (w : World) (h0 : ¬ o = 0) (h1 : ¬ o = 1) (h2 : ¬ o = 2) (h3 : ¬ o = 3) : Calls Try.prog 35 #[.agg #[.int .i64 o, .int .i64 x, .int .i64 y]] w fun e w' => e = .returned .nilIface ∧ Below w.heap.size w w' := by
  have g0 : (o == 0) = false := by simp [h0]
  have g1 : (o == 1) = false := by simp [h1]
  have g2 : (o == 2) = false := by simp [h2]
  have g3 : (o == 3) = false := by simp [h3]
  clear h0 h1 h2 h3
  go_enter Try.func35, Try.ntmps35
  go_wp2_with fail
  go_ret
  exact ⟨rfl, (Below.refl _ _).alloc (Nat.le_refl _) _⟩

theorem copyOf_any (x line : Int) (ad : Nat) (w : World) (hc : w.cell? ⟨ad, 0, none⟩ = some (.int .i64 line)) :
    Calls Try.prog 33 #[.int .i64 x, .pointer (some ⟨ad, 0, none⟩)] w fun e w' => e = .returned (.agg #[.int .i64 1, .int .i64 x, .int .i64 line, .int .i64 0]) ∧ Below w.heap.size w w' := by
  have hlt := World.block_lt_of_cell? _ _ hc
  simp only at hlt
  have hne : ¬ ad = w.heap.size := by omega
  go_enter Try.func33, Try.ntmps33
  go_wp2_with fail
  exact bodyPost_ret (v := .agg #[.int .i64 1, .int .i64 x, .int .i64 line, .int .i64 0]) (results_cell_ok Try.results33 rfl (load_blk (Blk.new w 48 #[.int .i64 1, .int .i64 x, .int .i64 line, .int .i64 0]) Try.underlying48 rfl (gate_size rfl))) rfl ⟨rfl, (Below.refl _ _).alloc (Nat.le_refl _) _⟩
theorem both_any (x y line : Int) (ad : Nat) (w : World) (hc : w.cell? ⟨ad, 0, none⟩ = some (.int .i64 line)) :
    Calls Try.prog 34 #[.int .i64 x, .int .i64 y, .pointer (some ⟨ad, 0, none⟩)] w fun e w' => e = .returned (.agg #[.int .i64 2, .int .i64 x, .int .i64 y, .int .i64 line]) ∧ Below w.heap.size w w' := by
  have hlt := World.block_lt_of_cell? _ _ hc
  simp only at hlt
  have hne : ¬ ad = w.heap.size := by omega
  go_enter Try.func34, Try.ntmps34
  go_wp2_with fail
  exact bodyPost_ret (v := .agg #[.int .i64 2, .int .i64 x, .int .i64 y, .int .i64 line]) (results_cell_ok Try.results34 rfl (load_blk (Blk.new w 48 #[.int .i64 2, .int .i64 x, .int .i64 y, .int .i64 line]) Try.underlying48 rfl (gate_size rfl))) rfl ⟨rfl, (Below.refl _ _).alloc (Nat.le_refl _) _⟩
end Go.Proofs.Ytpahhgehamgkaaa
