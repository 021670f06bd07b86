/- Contracts of both CircuitValid. -/
import Derived.Test.YtffkoeobehocjaaDoorGs
import Derived.Test.YtffkoeobehocjaaDoorGateI
namespace Go.Proofs.YtffkoeobehocjaaDoor
open Go.RowKit
set_option linter.unusedVariables false

/-- a circuit that is valid -/
def circB (l : Int) (gs : List Gt) : Bool := gs.all (gateB l) && (inB l 1 8 && decide (gs.length ≤ 24))
theorem circB_t {l : Int} {gs : List Gt} (h : circB l gs = true) : gs.all (gateB l) = true ∧ inB l 1 8 = true ∧ gs.length ≤ 24 := by
  unfold circB at h
  rw [Bool.and_eq_true, Bool.and_eq_true] at h
  exact ⟨h.1, h.2.1, of_decide_eq_true h.2.2⟩
theorem circB_mem {l : Int} {gs : List Gt} (h : circB l gs = true) {k : Nat} (hk : k < gs.length) : gateB l (gs.getD k g0) = true := by
  have h1 := (circB_t h).1
  rw [List.all_eq_true] at h1
  refine h1 _ ?_
  rw [List.getD, List.getElem?_eq_getElem hk]
  exact List.getElem_mem hk
theorem all_take {gs : List Gt} {p : Gt → Bool} {k : Nat} (h : (gs.take k).all p = false) : gs.all p = false := by
  rw [← Bool.not_eq_true] at *
  intro h'
  apply h
  rw [List.all_eq_true] at *
  exact fun x hx => h' x (List.mem_of_mem_take hx)
theorem all_snoc {gs : List Gt} {p : Gt → Bool} {k : Nat} (hk : k < gs.length) : (gs.take (k + 1)).all p = ((gs.take k).all p && p (gs.getD k g0)) := by
  rw [List.take_succ_eq_append_getElem hk, List.all_append]
  simp [List.getD, List.getElem?_eq_getElem hk]
theorem circB_bad {l : Int} {gs : List Gt} {k : Nat} (h : (gs.take k).all (gateB l) = false) : circB l gs = false := by unfold circB; rw [all_take h]; rfl

set_option maxHeartbeats 1000000 in
theorem specCircuitValid_any (l : Int) (A : Option Addr) (n c B : Nat) (gs : List Gt) (w : World) (h : Reads w B 4 A n (gcells gs)) (hB : B ≤ w.heap.size) (hz : gs.length = n) (hc : n ≤ c) (hn : n ≤ 1048576) :
    Calls Tryd.prog 75 #[.int .i64 l, .slice A n c] w fun e w' => e = .returned (.bool (circB l gs)) ∧ Below w.heap.size w w' := by
  have HR := Lib.hid h
  have HZ := Lib.hid hz
  clear h hz
  go_enter Tryd.func75, Tryd.ntmps75
  go_wp2_with fail
  go_loopg [5] n (fun gh i wr => ∃ k : Nat, k ≤ n ∧ gh = n - k ∧ i = .int .i64 k ∧ (gs.take k).all (gateB l) = true ∧ Below w.heap.size w wr)
  case atStart => exact ⟨0, Nat.zero_le _, rfl, rfl, rfl, Below.refl _ _⟩
  case round =>
    obtain ⟨k, hk, hg, rfl, hok, hb⟩ := hrel
    have Hg := Lib.hid hg
    have Hok := Lib.hid hok
    clear hg hok
    by_cases hlt : k < n
    · obtain ⟨b, o, rfl, hbB, hcell⟩ := HR.out.openG HZ.out (by omega)
      have hs := all_snoc (gs := gs) (p := gateB l) (k := k) (by have := HZ.out; omega)
      obtain ⟨g, eg⟩ : ∃ g, g = gs.getD k g0 := ⟨_, rfl⟩
      have hgat := (hcell k hlt).below hb (by omega)
      rw [← eg] at hgat hs
      rw [Hok.out, Bool.true_and] at hs
      have Hs := Lib.hid hs
      have HV := Lib.hid (fun W => specGateValid_any l g W)
      obtain ⟨v, ev⟩ : ∃ v, v = gateB l g := ⟨_, rfl⟩
      rw [← ev] at HV Hs
      obtain ⟨x0, x1, x2, x3⟩ := g
      obtain ⟨q0, q1, q2, q3⟩ := hgat
      simp only at q0 q1 q2 q3
      have hlt' : (k : Int) < (n : Int) := by omega
      clear hcell eg hs ev
      cases v with
      | false =>
        have Hf := Lib.hid (circB_bad Hs.out)
        go_wp2_with fail
        refine (HV.out _).mono ?_
        rintro e w1 ⟨rfl, hb1⟩
        go_wp2_with fail
        go_ret
        exact ⟨ret_bool Hf.out.symm, bnext hb hb1 (Nat.le_refl _)⟩
      | true =>
        go_wp2_with fail
        refine (HV.out _).mono ?_
        rintro e w1 ⟨rfl, hb1⟩
        go_wp2_with fail
        go_roundg (n - (k + 1))
        case measure => have := Hg.out; omega
        case rel => exact ⟨k + 1, by omega, rfl, by go_num, Hs.out, bnext hb hb1 (Nat.le_refl _)⟩
    · have hlt' : ¬ (k : Int) < (n : Int) := by omega
      have Hf : Hid (circB l gs = (inB l 1 8 && decide (n ≤ 24))) := Lib.hid (by
        have h2 := Hok.out
        rw [List.take_of_length_le (by have := HZ.out; omega)] at h2
        unfold circB
        rw [h2, HZ.out]
        rfl)
      by_cases h24 : n ≤ 24
      · have h24' : (n : Int) ≤ 24 := by omega
        rw [decide_eq_true h24] at Hf
        cases hv : inB l 1 8
        all_goals
          rw [hv] at Hf
          go_wp2_with (go_at_call 56; refine (l1In_any _ _ _ _).mono ?_; rintro e w' ⟨rfl, rfl⟩)
          go_ret
          exact ⟨ret_bool Hf.out.symm, hb⟩
      · have h24' : decide ((n : Int) ≤ 24) = false := decide_eq_false (by omega)
        rw [decide_eq_false h24] at Hf
        cases hv : inB l 1 8
        all_goals
          rw [hv] at Hf
          go_wp2_with (go_at_call 56; refine (l1In_any _ _ _ _).mono ?_; rintro e w' ⟨rfl, rfl⟩)
          go_ret
          exact ⟨ret_bool Hf.out.symm, hb⟩

/-- the index of a gate that is not valid, or -1 -/
def IdxP (q : Bool) (w : World) (e : Ending) (w' : World) : Prop := ∃ i : Int, e = .returned (.int .i64 i) ∧ (0 ≤ i ↔ q = false) ∧ -1 ≤ i ∧ i ≤ 1048576 ∧ Below w.heap.size w w'
end Go.Proofs.YtffkoeobehocjaaDoor
