/- Contract of laws.sameInts: two lists of numbers are compared. -/
import Derived.Test.YtffkoeobehocjaaDoorInts
namespace Go.Proofs.YtffkoeobehocjaaDoor
open Go.RowKit
set_option linter.unusedVariables false

theorem sameInts_any (A A' : Option Addr) (n n' c c' B B' : Nat) (xs ys : List Int) (w : World) (h : Reads w B 1 A n (xs.map (Value.int .i64))) (h' : Reads w B' 1 A' n' (ys.map (Value.int .i64)))
    (hx : xs.length = n) (hy : ys.length = n') (hn : n ≤ 4611686018427387904) :
    Calls Tryd.prog 21 #[.slice A n c, .slice A' n' c'] w fun e w' => e = .returned (.bool (eqL xs ys)) ∧ ∃ d, w' = w.drewN d := by
  by_cases hne : n = n'
  · subst hne
    by_cases h0 : n = 0
    · subst h0
      obtain rfl : xs = [] := List.eq_nil_of_length_eq_zero hx
      obtain rfl : ys = [] := List.eq_nil_of_length_eq_zero hy
      go_enter Tryd.func21, Tryd.ntmps21
      go_wp2
      refine wp_loop_rounds 1 ?_
      rw [rounds_succ]
      go_wp2
      go_ret
      exact ⟨rfl, 0, rfl⟩
    · obtain ⟨b, o, rfl, hb, hc⟩ := h.open1 hx (by omega)
      obtain ⟨b', o', rfl, hb', hc'⟩ := h'.open1 hy (by omega)
      clear h h' h0
      have Hx := Lib.hid hx
      have Hy := Lib.hid hy
      have Hc := Lib.hid hc
      have Hc' := Lib.hid hc'
      clear hx hy hc hc'
      go_enter Tryd.func21, Tryd.ntmps21
      go_wp2
      go_loopw [5] (fun i wr => ∃ k : Nat, k ≤ n ∧ i = .int .i64 k ∧ xs.take k = ys.take k ∧ ∃ d, wr = w.drewN d) (fun i _ => n - (intOf i).toNat)
      case atStart => exact ⟨0, Nat.zero_le _, rfl, rfl, 0, rfl⟩
      case round =>
        obtain ⟨k, hk, rfl, hno, d, rfl⟩ := hrel
        have Hno := Lib.hid hno
        clear hno
        by_cases hlt : k < n
        · have hc := Hc.out k hlt
          have hc' := Hc'.out k hlt
          have hlt' : (k : Int) < (n : Int) := by omega
          obtain ⟨x, ex⟩ : ∃ x, x = xs.getD k 0 := ⟨_, rfl⟩
          obtain ⟨y, ey⟩ : ∃ y, y = ys.getD k 0 := ⟨_, rfl⟩
          rw [← ex] at hc
          rw [← ey] at hc'
          have HX := Lib.hid ex
          have HY := Lib.hid ey
          clear ex ey
          by_cases he : x = y
          · have he' : (x != y) = false := by simp [he]
            have HE := Lib.hid he
            clear he
            go_wp2
            go_quiet (fail)
            go_wp2
            go_roundw
            case rel => exact ⟨k + 1, by omega, by go_num, take_eq_snoc (by have := Hx.out; omega) (by have := Hy.out; omega) Hno.out (by rw [← HX.out, ← HY.out, HE.out]), _, rfl⟩
            case measure => simp [intOf]; omega
          · have he' : (x != y) = true := by simp [he]
            have HE : Hid (eqL xs ys = false) := Lib.hid (decide_eq_false (fun e => he (by rw [HX.out, HY.out, e])))
            clear he
            go_wp2
            go_quiet (fail)
            go_wp2
            go_ret
            exact ⟨ret_bool HE.out.symm, _, World.drewN_drewN _ _ _⟩
        · have hlt' : ¬ (k : Int) < (n : Int) := by omega
          go_wp2
          go_ret
          refine ⟨ret_bool ?_, d, rfl⟩
          have := Hno.out
          rw [List.take_of_length_le (by have := Hx.out; omega), List.take_of_length_le (by have := Hy.out; omega)] at this
          exact (decide_eq_true this).symm
  · have he : (n != n') = true := by simp [hne]
    have he' : ((n : Int) != (n' : Int)) = true := by simp; omega
    have HE : Hid (eqL xs ys = false) := Lib.hid (decide_eq_false (fun e => hne (by rw [← hx, ← hy, e])))
    clear hne h h' hx hy
    go_enter Tryd.func21, Tryd.ntmps21
    go_wp2
    go_ret
    exact ⟨ret_bool HE.out.symm, 0, rfl⟩

theorem sameInts_bel (A A' : Option Addr) (n n' c c' B B' : Nat) (xs ys : List Int) (w : World) (h : Reads w B 1 A n (xs.map (Value.int .i64))) (h' : Reads w B' 1 A' n' (ys.map (Value.int .i64)))
    (hx : xs.length = n) (hy : ys.length = n') (hn : n ≤ 4611686018427387904) :
    Calls Tryd.prog 21 #[.slice A n c, .slice A' n' c'] w fun e w' => e = .returned (.bool (eqL xs ys)) ∧ Below w.heap.size w w' :=
  (sameInts_any A A' n n' c c' B B' xs ys w h h' hx hy hn).mono fun e w' ⟨he, d, hd⟩ => ⟨he, by rw [hd]; exact below_drewN (Below.refl _ _) d⟩
end Go.Proofs.YtffkoeobehocjaaDoor
