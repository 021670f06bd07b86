/- Contract of spec.GateValid. -/
import Derived.Test.YtffkoeobehocjaaDoorGates
namespace Go.Proofs.YtffkoeobehocjaaDoor
open Go.RowKit

/-- the first k numbers of a list are different and lie in 0..m -/
def okP (m : Int) (zs : List Int) : Nat → Bool
  | 0 => true
  | k + 1 => okP m zs k && (inB (zs.getD k 0) 0 m && !hasB (zs.take k) (zs.getD k 0))
theorem okP_le {m : Int} {zs : List Int} {k n : Nat} (h : k ≤ n) (h' : okP m zs k = false) : okP m zs n = false := by
  induction n with
  | zero => obtain rfl : k = 0 := by omega
            exact h'
  | succ n ih =>
    by_cases e : k = n + 1
    · subst e; exact h'
    · simp [okP, ih (by omega)]
/-- what a gate has beside its lines is 0 -/
def restZ (g : Gt) : Bool := if g.k = 0 then (g.b == 0 && g.c == 0) else if g.k = 1 ∨ g.k = 3 then g.c == 0 else true
/-- a gate that is valid -/
def gateB (l : Int) (g : Gt) : Bool := inB l 1 8 && inB g.k 0 4 && okP (l - 1) (linesOf g) (linesOf g).length && restZ g

theorem Reads.take {w : World} {B n k : Nat} {A : Option Addr} {zs : List Int} (h : Reads w B 1 A n (zs.map (Value.int .i64))) (hz : zs.length = n) (hk : k ≤ n) : Reads w B 1 A k ((zs.take k).map (Value.int .i64)) := by
  refine ⟨by simp [List.length_take]; omega, fun hn => ?_⟩
  obtain ⟨ad, e, hs, hb, hc⟩ := h.2 (by omega)
  refine ⟨ad, e, hs, hb, fun j u hu => hc j u ?_⟩
  rw [List.map_take, List.getElem?_take] at hu
  split at hu
  · exact hu
  · cases hu

theorem quiet_add_left {P : Program} {f : FuncId} {args : Array Value} {w : World} {a n : Nat} {v : Value}
    (h : Calls P f args (w.drewN (a + n)) fun e w' => e = .returned v ∧ w.drewN (a + n) = w') :
    Calls P f args (w.drewN (a + n)) fun e w'' => e = .returned v ∧ ∃ m, w'' = w.drewN (a + m) :=
  h.mono fun _ _ ⟨he, hm⟩ => ⟨he, n, hm.symm⟩
theorem quiet_left {P : Program} {f : FuncId} {args : Array Value} {w : World} {n : Nat} {v : Value}
    (h : Calls P f args (w.drewN n) fun e w' => e = .returned v ∧ w.drewN n = w') : Calls P f args (w.drewN n) fun e w'' => e = .returned v ∧ ∃ m, w'' = w.drewN m :=
  h.mono fun _ _ ⟨he, hm⟩ => ⟨he, n, hm.symm⟩

/-- what spec.GateValid answers, by the gate's list -/
def gateS (l m b c : Int) (zs : List Int) : Bool := inB l 1 8 && decide (0 < zs.length) && okP m zs zs.length && (decide (1 < zs.length) || b == 0) && (decide (2 < zs.length) || c == 0)

set_option maxHeartbeats 2000000 in
theorem specGateValid_core (l m : Int) (k a b c : Int) (zs : List Int) (w : World) (hm : wrap64 (l - 1) = m) (hzs : linesOf ⟨k, a, b, c⟩ = zs) :
    Calls Tryd.prog 46 #[.int .i64 l, .agg #[.int .i64 k, .int .i64 a, .int .i64 b, .int .i64 c]] w fun e w' => e = .returned (.bool (gateS l m b c zs)) ∧ Below w.heap.size w w' := by
  have hl := linesOf_len ⟨k, a, b, c⟩
  have hS : ∀ W, Calls Tryd.prog 48 #[.agg #[.int .i64 k, .int .i64 a, .int .i64 b, .int .i64 c]] W fun e w' => RetL zs W e w' := fun W => by rw [← hzs]; exact specLinesOf_any _ W
  have HS := Lib.hid hS
  rw [hzs] at hl
  clear hS hzs
  have hWw : ∀ o : Obj, Below w.heap.size w (w.alloc o) := fun o => (Below.refl _ _).alloc (Nat.le_refl _) _
  have HWw := Lib.hid hWw
  clear hWw
  go_enter Tryd.func46, Tryd.ntmps46
  go_wp2_with fail
  refine (HS.out _).mono ?_
  rintro e w1 ⟨A, cp, rfl, hcp, ho, hb1⟩
  clear HS
  have hx2 : w1.cell? ⟨w.heap.size, 2, none⟩ = some (.int .i64 b) := (hb1.cell (p := ⟨w.heap.size, 2, none⟩) (by simp)).trans ((Blk.new w _ _).cell 2)
  have hx3 : w1.cell? ⟨w.heap.size, 3, none⟩ = some (.int .i64 c) := (hb1.cell (p := ⟨w.heap.size, 3, none⟩) (by simp)).trans ((Blk.new w _ _).cell 3)
  have hB := (HWw.out _).trans (hb1.mono (by simp))
  clear hb1 HWw
  have hr := ho.reads (n := zs.length) (size := 1) (by simp) (by omega)
  clear ho
  obtain ⟨n, hn⟩ : ∃ n, n = zs.length := ⟨_, rfl⟩
  rw [← hn] at hl hcp hr ⊢
  have Hn := Lib.hid hn
  clear hn
  by_cases h0 : n = 0
  · have Hg : Hid (gateS l m b c zs = false) := Lib.hid (by unfold gateS; rw [← Hn.out, h0]; simp)
    subst h0
    cases hv : inB l 1 8
    all_goals
      go_wp2_with fail
      refine wp_loop_rounds 1 ?_
      rw [rounds_succ]
      go_wp2_with (go_at_call 56; refine (l1In_any _ _ _ _).mono ?_; rintro e w' ⟨rfl, rfl⟩)
      go_ret
      exact ⟨ret_bool Hg.out.symm, hB⟩
  · obtain ⟨bb, oo, rfl, hbb, hcell⟩ := hr.open1 Hn.out.symm (by omega)
    have Hr := Lib.hid hr
    have Hc := Lib.hid hcell
    clear hr hcell
    go_wp2_with fail
    go_loopw [6] (fun i wr => ∃ j : Nat, j ≤ n ∧ i = .int .i64 j ∧ okP m zs j = true ∧ ∃ d, wr = w1.drewN d) (fun i _ => n - (intOf i).toNat)
    case atStart => exact ⟨0, Nat.zero_le _, rfl, rfl, 0, rfl⟩
    case round =>
      obtain ⟨j, hj, rfl, hok, d, rfl⟩ := hrel
      have Hok := Lib.hid hok
      clear hok
      by_cases hlt : j < n
      · have hc := Hc.out j hlt
        have hlt' : (j : Int) < (n : Int) := by omega
        obtain ⟨z, hz⟩ : ∃ z, z = zs.getD j 0 := ⟨_, rfl⟩
        rw [← hz] at hc
        have hs : okP m zs (j + 1) = (inB z 0 m && !hasB (zs.take j) z) := by simp only [okP]; rw [Hok.out, ← hz]; rfl
        have Hs := Lib.hid hs
        clear hs hz
        have hrt := Lib.hid (Hr.out.take Hn.out.symm hj)
        have hlen : (zs.take j).length = j := by rw [List.length_take]; have := Hn.out; omega
        have Hlen := Lib.hid hlen
        clear hlen
        cases hi : inB z 0 m with
        | false =>
          have Hg : Hid (gateS l m b c zs = false) := Lib.hid (by
            have h1 := okP_le (m := m) (zs := zs) (k := j + 1) (n := zs.length) (by have := Hn.out; omega) (by rw [Hs.out, hi]; rfl)
            unfold gateS
            rw [h1]
            simp)
          go_wp2_with fail
          go_quiet ((go_at_call 56; first | exact quiet_add_left (l1In_any _ _ _ _) | exact quiet_left (l1In_any _ _ _ _)))
          go_wp2_with fail
          go_ret
          exact ⟨ret_bool Hg.out.symm, below_drewN (below_drewN hB _) _⟩
        | true =>
          have hjc : j ≤ cp := by omega
          cases hh : hasB (zs.take j) z with
          | true =>
            have Hg : Hid (gateS l m b c zs = false) := Lib.hid (by
              have h1 := okP_le (m := m) (zs := zs) (k := j + 1) (n := zs.length) (by have := Hn.out; omega) (by rw [Hs.out, hi, hh]; rfl)
              unfold gateS
              rw [h1]
              simp)
            go_wp2_with fail
            go_quiet ((first | (go_at_call 56; first | exact quiet_add_left (l1In_any _ _ _ _) | exact quiet_left (l1In_any _ _ _ _)) | (go_at_call 66; first | exact quiet_add_left (l1Has_any _ _ _ _ _ _ _ (hrt.out.drewN _) Hlen.out (by omega)) | exact quiet_left (l1Has_any _ _ _ _ _ _ _ ((hrt.out.drewN _).drewN _) Hlen.out (by omega)))))
            go_wp2_with fail
            go_ret
            exact ⟨ret_bool Hg.out.symm, below_drewN (below_drewN hB _) _⟩
          | false =>
            have Hok1 : Hid (okP m zs (j + 1) = true) := Lib.hid (by rw [Hs.out, hi, hh]; rfl)
            go_wp2_with fail
            go_quiet ((first | (go_at_call 56; first | exact quiet_add_left (l1In_any _ _ _ _) | exact quiet_left (l1In_any _ _ _ _)) | (go_at_call 66; first | exact quiet_add_left (l1Has_any _ _ _ _ _ _ _ (hrt.out.drewN _) Hlen.out (by omega)) | exact quiet_left (l1Has_any _ _ _ _ _ _ _ ((hrt.out.drewN _).drewN _) Hlen.out (by omega)))))
            go_wp2_with fail
            go_roundw
            case rel => exact ⟨j + 1, by omega, by go_num, Hok1.out, _, rfl⟩
            case measure => simp [intOf]; omega
      · have hlt' : ¬ (j : Int) < (n : Int) := by omega
        obtain rfl : j = n := by omega
        have hgs : gateS l m b c zs = (inB l 1 8 && (decide (1 < j) || b == 0) && (decide (2 < j) || c == 0)) := by
          unfold gateS
          rw [← Hn.out, Hok.out, decide_eq_true (show 0 < j by omega)]
          simp
        have Hgs := Lib.hid hgs
        clear hgs
        have hn3 : j = 1 ∨ j = 2 ∨ j = 3 := by omega
        cases hv : inB l 1 8
        · go_wp2_with (go_at_call 56; refine (l1In_any _ _ _ _).mono ?_; rintro e w' ⟨rfl, rfl⟩)
          go_ret
          exact ⟨ret_bool (by rw [Hgs.out, hv]; rfl), below_drewN hB _⟩
        · cases hb0 : (b == 0) <;> cases hc0 : (c == 0) <;> rcases hn3 with rfl | rfl | rfl
          all_goals
            go_wp2_with (go_at_call 56; refine (l1In_any _ _ _ _).mono ?_; rintro e w' ⟨rfl, rfl⟩)
            go_ret
            exact ⟨ret_bool (by rw [Hgs.out, hv, hb0, hc0]; rfl), below_drewN hB _⟩

theorem gateS_eq (l m : Int) (g : Gt) (hm : inB l 1 8 = true → m = l - 1) : gateS l m g.b g.c (linesOf g) = gateB l g := by
  unfold gateS gateB
  cases hv : inB l 1 8
  · rfl
  · rw [hm hv]
    by_cases h : inB g.k 0 4 = true
    · have := inB_t h
      rw [h]
      have h5 : g.k = 0 ∨ g.k = 1 ∨ g.k = 2 ∨ g.k = 3 ∨ g.k = 4 := by omega
      rcases h5 with e | e | e | e | e <;> simp [linesOf, restZ, e] <;> (cases okP (l - 1) _ _ <;> simp)
    · have hn := inB_f (by simpa using h)
      have : linesOf g = [] := by
        unfold linesOf
        rw [if_neg (by omega), if_neg (by omega), if_neg (by omega)]
      rw [Bool.not_eq_true] at h
      rw [this, h]
      simp

theorem specGateValid_any (l : Int) (g : Gt) (w : World) :
    Calls Tryd.prog 46 #[.int .i64 l, g.val] w fun e w' => e = .returned (.bool (gateB l g)) ∧ Below w.heap.size w w' := by
  have h := specGateValid_core l (wrap64 (l - 1)) g.k g.a g.b g.c (linesOf g) w rfl rfl
  rw [gateS_eq l (wrap64 (l - 1)) g (fun hv => by have := inB_t hv; exact IntWalk.wrap64_in _ (by omega))] at h
  exact h
end Go.Proofs.YtffkoeobehocjaaDoor
