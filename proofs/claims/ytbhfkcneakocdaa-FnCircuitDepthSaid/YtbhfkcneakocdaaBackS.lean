/- Contracts of both CircuitBack. -/
import Derived.Test.YtbhfkcneakocdaaBack
namespace Go.Proofs.Ytbhfkcneakocdaa
open Go.RowKit
set_option linter.unusedVariables false

/-- what CircuitBack answers -/
def circBack (l : Int) (gs : List Gt) : List Gt := if circB l gs = true then gs.reverse else []
theorem circBack_bd (l : Int) (gs : List Gt) (h : gs.length ≤ 1048576) : (circBack l gs).length ≤ 1048576 := by
  unfold circBack
  split
  · simpa using h
  · simp
theorem rev_take (gs : List Gt) {q j : Nat} (h : j + q + 1 = gs.length) : gs.reverse.take (q + 1) = gs.reverse.take q ++ [gs.getD j g0] := by
  have hq : q < gs.reverse.length := by simp; omega
  rw [List.take_succ_eq_append_getElem hq]
  congr 2
  rw [List.getElem_reverse, List.getD_eq_getElem?_getD, List.getElem?_eq_getElem (by omega)]
  simp
  congr 1
  omega

theorem implCircuitBack_any (l : Int) (A : Option Addr) (n c B : Nat) (gs : List Gt) (w : World) (h : Reads w B 4 A n (gcells gs)) (hB : B ≤ w.heap.size) (hz : gs.length = n) (hc : n ≤ c) (hn : n ≤ 1048576) :
    Calls Try.prog 15 #[.int .i64 l, .slice A n c] w fun e w' => RetG (circBack l gs) w e w' := by
  have HV := Lib.hid (implCircuitValid_any l A n c B gs w h hB hz hc hn)
  have HR := Lib.hid (fun W (hw : Below w.heap.size w W) => backwards_any A n c B gs W (h.below (hw.mono hB)) (Nat.le_trans hB hw.size) hz hn)
  clear h hz
  cases hv : circB l gs with
  | false =>
    have Hr : Hid (circBack l gs = []) := Lib.hid (by unfold circBack; rw [hv]; rfl)
    rw [hv] at HV
    clear hv
    go_enter Try.func15, Try.ntmps15
    go_wp2_with fail
    refine HV.out.mono ?_
    rintro e w1 ⟨rfl, hb1⟩
    go_wp2_with fail
    go_ret
    exact retG_nil Hr.out hb1 rfl
  | true =>
    have Hr : Hid (circBack l gs = gs.reverse) := Lib.hid (by unfold circBack; rw [hv]; rfl)
    rw [hv] at HV
    clear hv
    go_enter Try.func15, Try.ntmps15
    go_wp2_with fail
    refine HV.out.mono ?_
    rintro e w1 ⟨rfl, hb1⟩
    go_wp2_with fail
    refine (HR.out w1 hb1).mono ?_
    rintro e w2 ⟨A2, c2, rfl, hc2, ho2, hb2⟩
    go_wp2_with fail
    go_ret
    rw [Hr.out]
    exact ⟨A2, c2, by rw [List.length_reverse]; rfl, hc2, ho2.mono hb1.size, bnext hb1 hb2 (Nat.le_refl _)⟩

end Go.Proofs.Ytbhfkcneakocdaa
