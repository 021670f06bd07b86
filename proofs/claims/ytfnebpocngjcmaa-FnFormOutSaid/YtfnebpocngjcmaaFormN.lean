/- Contracts of the nodes of a formula, of slices.Clip and of slices.Clone. -/
import Derived.Test.YtfnebpocngjcmaaFormM
namespace Go.Proofs.Ytfnebpocngjcmaa
open Go.RowKit
set_option linter.unusedVariables false

/-- the node that a step hands back -/
def nodeV (o : Nat) (x y : Int) : Value :=
  if o = 0 then .iface 71 (.agg #[.int .i64 x, .int .i64 y]) else if o = 1 then .iface 73 (.agg #[.int .i64 x, .int .i64 y])
  else if o = 2 then .iface 72 (.agg #[.int .i64 x, .int .i64 y]) else .iface 75 (.agg #[.int .i64 x])
set_option maxHeartbeats 1000000 in
theorem node_any (o : Nat) (x y : Int) (w : World) (ho : o ≤ 3) :
    Calls Try.prog 61 #[.agg #[.int .i64 o, .int .i64 x, .int .i64 y]] w fun e w' => e = .returned (nodeV o x y) ∧ Below w.heap.size w w' := by
  have h4 : o = 0 ∨ o = 1 ∨ o = 2 ∨ o = 3 := by omega
  rcases h4 with rfl | rfl | rfl | rfl
  all_goals
    go_enter Try.func61, Try.ntmps61
    go_wp2_with fail
    go_ret
    exact ⟨rfl, (Below.refl _ _).alloc (Nat.le_refl _) _⟩
set_option maxHeartbeats 2000000 in
theorem andBit_any (x y : Nat) (b o n c : Nat) (X Y : Int) (w : World) (hx : w.cell? ⟨b, o + x, none⟩ = some (.int .i64 X)) (hy : w.cell? ⟨b, o + y, none⟩ = some (.int .i64 Y)) (hxn : x < n) (hyn : y < n) (hb : b < w.heap.size) (bx : isBit X) (by_ : isBit Y) :
    Calls Try.prog 105 #[.agg #[.int .i64 x, .int .i64 y], .slice (some ⟨b, o, none⟩) n c] w fun e w' => e = .returned (.int .i64 (bitOp 0 X Y)) ∧ Below w.heap.size w w' := by
  have i1 : (x : Int) < (n : Int) := by omega
  have i2 : (y : Int) < (n : Int) := by omega
  rcases bx with rfl | rfl <;> rcases by_ with rfl | rfl
  all_goals
    go_enter Try.func105, Try.ntmps105
    go_wp2_with fail
    go_region
    go_wp2_with fail
    go_ret
    exact ⟨rfl, ((Below.refl _ _).alloc (Nat.le_refl _) _).drew⟩
set_option maxHeartbeats 2000000 in
theorem orBit_any (x y : Nat) (b o n c : Nat) (X Y : Int) (w : World) (hx : w.cell? ⟨b, o + x, none⟩ = some (.int .i64 X)) (hy : w.cell? ⟨b, o + y, none⟩ = some (.int .i64 Y)) (hxn : x < n) (hyn : y < n) (hb : b < w.heap.size) (bx : isBit X) (by_ : isBit Y) :
    Calls Try.prog 107 #[.agg #[.int .i64 x, .int .i64 y], .slice (some ⟨b, o, none⟩) n c] w fun e w' => e = .returned (.int .i64 (bitOp 1 X Y)) ∧ Below w.heap.size w w' := by
  have i1 : (x : Int) < (n : Int) := by omega
  have i2 : (y : Int) < (n : Int) := by omega
  rcases bx with rfl | rfl <;> rcases by_ with rfl | rfl
  all_goals
    go_enter Try.func107, Try.ntmps107
    go_wp2_with fail
    go_region
    go_wp2_with fail
    go_ret
    exact ⟨rfl, ((Below.refl _ _).alloc (Nat.le_refl _) _).drew⟩
set_option maxHeartbeats 2000000 in
theorem xorBit_any (x y : Nat) (b o n c : Nat) (X Y : Int) (w : World) (hx : w.cell? ⟨b, o + x, none⟩ = some (.int .i64 X)) (hy : w.cell? ⟨b, o + y, none⟩ = some (.int .i64 Y)) (hxn : x < n) (hyn : y < n) (hb : b < w.heap.size) (bx : isBit X) (by_ : isBit Y) :
    Calls Try.prog 106 #[.agg #[.int .i64 x, .int .i64 y], .slice (some ⟨b, o, none⟩) n c] w fun e w' => e = .returned (.int .i64 (bitOp 2 X Y)) ∧ Below w.heap.size w w' := by
  have i1 : (x : Int) < (n : Int) := by omega
  have i2 : (y : Int) < (n : Int) := by omega
  rcases bx with rfl | rfl <;> rcases by_ with rfl | rfl
  all_goals
    go_enter Try.func106, Try.ntmps106
    go_wp2_with fail
    go_region
    go_wp2_with fail
    go_ret
    exact ⟨rfl, ((Below.refl _ _).alloc (Nat.le_refl _) _).drew⟩
set_option maxHeartbeats 2000000 in
theorem notBit_any (x : Nat) (b o n c : Nat) (X : Int) (w : World) (hx : w.cell? ⟨b, o + x, none⟩ = some (.int .i64 X)) (hxn : x < n) (hb : b < w.heap.size) (bx : isBit X) :
    Calls Try.prog 108 #[.agg #[.int .i64 x], .slice (some ⟨b, o, none⟩) n c] w fun e w' => e = .returned (.int .i64 (1 - X)) ∧ Below w.heap.size w w' := by
  have i1 : (x : Int) < (n : Int) := by omega
  rcases bx with rfl | rfl
  all_goals
    go_enter Try.func108, Try.ntmps108
    go_wp2_with fail
    go_ret
    exact ⟨rfl, (Below.refl _ _).alloc (Nat.le_refl _) _⟩
theorem node_and (x y : Int) (w : World) : Calls Try.prog 61 #[.agg #[.int .i64 0, .int .i64 x, .int .i64 y]] w fun e w' => e = .returned (.iface 71 (.agg #[.int .i64 x, .int .i64 y])) ∧ Below w.heap.size w w' := node_any 0 x y w (by omega)
theorem node_or (x y : Int) (w : World) : Calls Try.prog 61 #[.agg #[.int .i64 1, .int .i64 x, .int .i64 y]] w fun e w' => e = .returned (.iface 73 (.agg #[.int .i64 x, .int .i64 y])) ∧ Below w.heap.size w w' := node_any 1 x y w (by omega)
theorem node_xor (x y : Int) (w : World) : Calls Try.prog 61 #[.agg #[.int .i64 2, .int .i64 x, .int .i64 y]] w fun e w' => e = .returned (.iface 72 (.agg #[.int .i64 x, .int .i64 y])) ∧ Below w.heap.size w w' := node_any 2 x y w (by omega)
theorem node_not (x y : Int) (w : World) : Calls Try.prog 61 #[.agg #[.int .i64 3, .int .i64 x, .int .i64 y]] w fun e w' => e = .returned (.iface 75 (.agg #[.int .i64 x])) ∧ Below w.heap.size w w' := node_any 3 x y w (by omega)
theorem clip_any (A : Option Addr) (n c : Nat) (w : World) (h : n ≤ c) (hn : n ≤ 9223372036854775807) :
    Calls Try.prog 75 #[.slice A n c] w fun e w' => e = .returned (.slice A n n) ∧ w = w' := by
  rcases A with _ | ⟨b, o, r⟩
  all_goals
    go_enter Try.func75, Try.ntmps75
    go_wp2_with fail
    go_ret
    exact ⟨rfl, rfl⟩
set_option maxHeartbeats 2000000 in
theorem clone_any (A : Addr) (n c B : Nat) (zs : List Int) (w : World) (h : Reads w B 1 (some A) n (zs.map (Value.int .i64))) (hB : B ≤ w.heap.size) (hn : n ≤ 1048576) :
    Calls Try.prog 76 #[.slice (some A) n c] w fun e w' => RetL zs w e w' := by
  obtain ⟨ii, hi, hz0, hz1, hz2⟩ := info_parts infoInt
  have HR := Lib.hid h
  have hone := ints_oneCell .i64 zs
  have own0 := World.ownsRow_made (base := w.heap.size) (e := 3) (size := 1) w #[] 0 (Nat.le_refl _) (by simp [maxLen]) rfl
  have rd := h.next ((Below.refl w.heap.size w).alloc (Nat.le_refl _) (Obj.cells #[] 3)) hB
  clear h
  have qT : ∀ (w : World) (a : Option Addr) (n c n' c' : Nat), (binOp .eql 37 (.slice a n c) (.slice none n' c')).run Try.prog w = .ok (.bool a.isNone) w := fun w a n c n' c' => Lib.run_eql_slice_nil w _ _ a n c n' c' Try.underlying37
  go_enter Try.func76, Try.ntmps76
  go_wp2_with (at_builtin; refine wpList_append_any _ rfl _ _ 37 rfl w.heap.size 3 ii (.int .i64 0) 1 8 Try.underlying37 hi hz0 hz1 hz2 rfl (by decide) (.slice (some ⟨w.heap.size, 0, none⟩) 0 0) 0 [] rfl own0 B (some A) n c (zs.map (Value.int .i64)) rfl rd hone (by unfold maxLen; omega) (by omega) (by simp) ?_; intro v' w3 hown' hgrow _)
  have hb' := ((Below.refl w.heap.size w).alloc (Nat.le_refl _) (Obj.cells #[] 3)).grown hgrow (by simp) (fun q e => by simp [Value.ownBlock] at e; omega)
  rw [Nat.zero_add, List.nil_append] at hown'
  go_wp2_with fail
  go_ret
  exact retL_acc hown' hb' rfl
end Go.Proofs.Ytfnebpocngjcmaa
