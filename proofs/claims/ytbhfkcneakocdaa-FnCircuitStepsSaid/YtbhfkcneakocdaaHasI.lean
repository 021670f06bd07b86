/- Contract of laws.hasInt; plain facts on the steps of gates. -/
import Derived.Test.YtbhfkcneakocdaaGates
import Derived.Test.YtbhfkcneakocdaaCircP
import Derived.Deep.RegionWith
import Derived.Lib.SmallJoins
import Derived.ProofKit
import Derived.Deep.QuietTactic
import Derived.BigQuiet
namespace Go.Proofs.Ytbhfkcneakocdaa
open Go.RowKit

theorem hasInt_any (A : Option Addr) (n c B : Nat) (zs : List Int) (x : Int) (w : World) (h : Reads w B 1 A n (zs.map (Value.int .i64))) (hz : zs.length = n) (hn : n ≤ 4611686018427387904) :
    Calls Try.prog 21 #[.slice A n c, .int .i64 x] w fun e w' => e = .returned (.bool (hasB zs x)) ∧ w = w' := by
  by_cases h0 : n = 0
  · subst h0
    have hzs : zs = [] := List.eq_nil_of_length_eq_zero hz
    subst hzs
    go_enter Try.func21, Try.ntmps21
    go_wp2
    refine wp_loop_rounds 1 ?_
    rw [rounds_succ]
    go_wp2
    go_ret
    exact ⟨rfl, rfl⟩
  · obtain ⟨b, o, rfl, hb, hc⟩ := h.open1 hz (by omega)
    clear h h0
    have Hz := Lib.hid hz
    clear hz
    have Hc := Lib.hid hc
    clear hc
    go_enter Try.func21, Try.ntmps21
    go_wp2
    go_loop [5] (fun i => ∃ k : Nat, k ≤ n ∧ i = .int .i64 k ∧ hasB (zs.take k) x = false) (fun i => n - (intOf i).toNat)
    case atStart => exact ⟨0, Nat.zero_le _, rfl, rfl⟩
    case round =>
      obtain ⟨k, hk, rfl, hno⟩ := hrel
      have Hno := Lib.hid hno
      clear hno
      by_cases hlt : k < n
      · have hc := Hc.out k hlt
        have Hs := Lib.hid (hasB_snoc zs k (by have := Hz.out; omega) x)
        have hlt' : (k : Int) < (n : Int) := by omega
        obtain ⟨z, hz⟩ : ∃ z, z = zs.getD k 0 := ⟨_, rfl⟩
        rw [← hz] at hc
        have HZ := Lib.hid hz
        clear hz
        by_cases he : z = x
        · have he' : (z == x) = true := by simp [he]
          have Hin := Lib.hid (hasB_take (zs := zs) (k := k + 1) (x := x) (by rw [Hs.out, ← HZ.out, he']; simp))
          clear he
          go_wp2
          go_ret
          exact ⟨ret_bool Hin.out.symm, rfl⟩
        · have he' : (z == x) = false := by simp [he]
          clear he
          go_wp2
          go_round
          case rel => exact ⟨k + 1, by omega, by go_num, by rw [Hs.out, Hno.out, ← HZ.out, he']; rfl⟩
          case measure => simp [intOf]; omega
      · have hlt' : ¬ (k : Int) < (n : Int) := by omega
        go_wp2
        go_ret
        refine ⟨ret_bool ?_, rfl⟩
        have := Hno.out
        rw [List.take_of_length_le (by have := Hz.out; omega)] at this
        exact this.symm


/-- the flag of the law FnCircuitSteps behind the first j gates -/
def someN (gs : List Gt) (k j : Nat) : Bool := (stp gs k == 1) || (List.range j).any (fun i => meets (gs.getD i g0) (gs.getD k g0) && (stp gs i == stp gs k - 1))
theorem someN_zero (gs : List Gt) (k : Nat) : someN gs k 0 = (stp gs k == 1) := by simp [someN]
theorem someN_succ (gs : List Gt) (k j : Nat) : someN gs k (j + 1) = (someN gs k j || (meets (gs.getD j g0) (gs.getD k g0) && (stp gs j == stp gs k - 1))) := by
  unfold someN
  rw [List.range_succ, List.any_append, Bool.or_assoc]
  simp
theorem someN_end {gs : List Gt} {k : Nat} (hk : k < gs.length) : someN gs k k = true := by
  unfold someN
  by_cases h : stp gs k = 1
  · rw [h]; rfl
  · obtain ⟨i, hi, hm, he⟩ := stp_prev gs hk h
    rw [Bool.or_eq_true, List.any_eq_true]
    exact .inr ⟨i, List.mem_range.2 hi, by rw [hm, he]; simp⟩
theorem stp_bd (gs : List Gt) {k : Nat} (hk : k < gs.length) : 1 ≤ stp gs k ∧ stp gs k ≤ k + 1 := stepsN_bd gs gs.length k hk
theorem any_snoc (zs ys : List Int) (k : Nat) (hk : k < zs.length) : (zs.take (k + 1)).any (fun x => hasB ys x) = ((zs.take k).any (fun x => hasB ys x) || hasB ys (zs.getD k 0)) := by
  rw [List.take_succ_eq_append_getElem hk, List.any_append]
  simp [List.getD, List.getElem?_eq_getElem hk]
end Go.Proofs.Ytbhfkcneakocdaa
