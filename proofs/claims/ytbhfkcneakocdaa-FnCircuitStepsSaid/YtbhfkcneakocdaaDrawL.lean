/- Contracts of l20Lined and of the draws of circuits. -/
import Derived.Test.YtbhfkcneakocdaaDrawC
import Derived.Test.YtbhfkcneakocdaaDraws4
namespace Go.Proofs.Ytbhfkcneakocdaa
open Go.RowKit
set_option linter.unusedVariables false

/-- a number of lines and some gates were drawn -/
def DrawnLC (B : Nat) (w : World) (e : Ending) (w' : World) : Prop :=
  ∃ (l : Int) (gs : List Gt) (A : Option Addr) (c : Nat), e = .returned (.tuple #[.int .i64 l, .slice A gs.length c]) ∧ -1 ≤ l ∧ l ≤ 9 ∧ gs.length ≤ 26 ∧ gs.length ≤ c ∧ Own w' B A (gcells gs)
theorem l20Lined_rd (n : Int) (r p : Nat) (w : World) (h : Rd w r p) (hp : p ≤ 990000) (hn0 : 0 ≤ n) (hn : n ≤ 1000) :
    Calls Try.prog 32 #[.pointer (some ⟨r, 0, none⟩), .int .i64 n] w fun e w' => DrawnLC w.heap.size w e w' ∧ Rd w' r (p + 502) ∧ w.grownBy w' (some r) := by
  have C1 := Lib.hid (l20Lines_rd (2 * n) r p w h (by omega) (by omega))
  go_enter Try.func32, Try.ntmps32
  go_wp2_with fail
  refine C1.out.mono ?_
  rintro e w1 ⟨l, rfl, ⟨l0, l1⟩, hr1, hg1⟩
  have C2 := Lib.hid (l20Circuit_rd l 10 (2 * n) r (p + 2) w1 hr1 (by omega) ⟨l0, l1⟩ (by omega) (by omega))
  have hs := hg1.size
  go_wp2_with fail
  refine C2.out.mono ?_
  rintro e w2 ⟨gs, A, c, rfl, h26, hc, ho, hr2, hg2⟩
  go_wp2_with fail
  go_ret2
  exact ⟨⟨l, gs, A, c, rfl, l0, l1, h26, hc, ho.mono hs⟩, hr2.mono (by omega), only_trans hg1 hg2⟩
theorem drawCircuitValid_any (A : Option Addr) (n c : Nat) (zs : List Int) (w : World) (h : IntsIn .u8 w A n c zs) :
    Calls Try.prog 8 #[.slice A n c] w fun e w' => DrawnLC w.heap.size w e w' ∧ Below w.heap.size w w' := by
  go_enter Try.func8, Try.ntmps8
  go_wp2_with fail
  refine (l20Open_any A n c zs w h).mono ?_
  rintro e w1 ⟨r, rfl, hr, hd, hb⟩
  have hd' : Rd w1 r 0 := ⟨0, Nat.le_refl _, hd⟩
  go_wp2_with fail
  refine (l20Lined_rd 2 r 0 w1 hd' (by omega) (by omega) (by omega)).mono ?_
  rintro e w2 ⟨⟨l, gs, A2, c2, rfl, l0, l1, h26, hc, ho⟩, hr2, hg2⟩
  have hb2 := below_of_only hb hg2 hr hb.size
  have hs := hb.size
  go_wp2_with fail
  go_ret2
  exact ⟨⟨l, gs, A2, c2, rfl, l0, l1, h26, hc, ho.mono hs⟩, hb2⟩
theorem drawCircuitCost_any (A : Option Addr) (n c : Nat) (zs : List Int) (w : World) (h : IntsIn .u8 w A n c zs) :
    Calls Try.prog 12 #[.slice A n c] w fun e w' => DrawnLC w.heap.size w e w' ∧ Below w.heap.size w w' := by
  go_enter Try.func12, Try.ntmps12
  go_wp2_with fail
  refine (l20Open_any A n c zs w h).mono ?_
  rintro e w1 ⟨r, rfl, hr, hd, hb⟩
  have hd' : Rd w1 r 0 := ⟨0, Nat.le_refl _, hd⟩
  go_wp2_with fail
  refine (l20Lined_rd 9 r 0 w1 hd' (by omega) (by omega) (by omega)).mono ?_
  rintro e w2 ⟨⟨l, gs, A2, c2, rfl, l0, l1, h26, hc, ho⟩, hr2, hg2⟩
  have hb2 := below_of_only hb hg2 hr hb.size
  have hs := hb.size
  go_wp2_with fail
  go_ret2
  exact ⟨⟨l, gs, A2, c2, rfl, l0, l1, h26, hc, ho.mono hs⟩, hb2⟩
theorem drawCircuitSteps_any (A : Option Addr) (n c : Nat) (zs : List Int) (w : World) (h : IntsIn .u8 w A n c zs) :
    Calls Try.prog 16 #[.slice A n c] w fun e w' => DrawnLC w.heap.size w e w' ∧ Below w.heap.size w w' := by
  go_enter Try.func16, Try.ntmps16
  go_wp2_with fail
  refine (l20Open_any A n c zs w h).mono ?_
  rintro e w1 ⟨r, rfl, hr, hd, hb⟩
  have hd' : Rd w1 r 0 := ⟨0, Nat.le_refl _, hd⟩
  go_wp2_with fail
  refine (l20Lined_rd 9 r 0 w1 hd' (by omega) (by omega) (by omega)).mono ?_
  rintro e w2 ⟨⟨l, gs, A2, c2, rfl, l0, l1, h26, hc, ho⟩, hr2, hg2⟩
  have hb2 := below_of_only hb hg2 hr hb.size
  have hs := hb.size
  go_wp2_with fail
  go_ret2
  exact ⟨⟨l, gs, A2, c2, rfl, l0, l1, h26, hc, ho.mono hs⟩, hb2⟩
theorem drawCircuitDepth_any (A : Option Addr) (n c : Nat) (zs : List Int) (w : World) (h : IntsIn .u8 w A n c zs) :
    Calls Try.prog 22 #[.slice A n c] w fun e w' => DrawnLC w.heap.size w e w' ∧ Below w.heap.size w w' := by
  go_enter Try.func22, Try.ntmps22
  go_wp2_with fail
  refine (l20Open_any A n c zs w h).mono ?_
  rintro e w1 ⟨r, rfl, hr, hd, hb⟩
  have hd' : Rd w1 r 0 := ⟨0, Nat.le_refl _, hd⟩
  go_wp2_with fail
  refine (l20Lined_rd 9 r 0 w1 hd' (by omega) (by omega) (by omega)).mono ?_
  rintro e w2 ⟨⟨l, gs, A2, c2, rfl, l0, l1, h26, hc, ho⟩, hr2, hg2⟩
  have hb2 := below_of_only hb hg2 hr hb.size
  have hs := hb.size
  go_wp2_with fail
  go_ret2
  exact ⟨⟨l, gs, A2, c2, rfl, l0, l1, h26, hc, ho.mono hs⟩, hb2⟩
end Go.Proofs.Ytbhfkcneakocdaa
