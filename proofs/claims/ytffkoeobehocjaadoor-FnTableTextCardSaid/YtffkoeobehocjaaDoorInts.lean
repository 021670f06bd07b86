/- Contracts of eqIntS, markIntS and heldIntS: lists of numbers are compared, marked and read again. -/
import Derived.Test.YtffkoeobehocjaaDoorGates
namespace Go.Proofs.YtffkoeobehocjaaDoor
open Go.RowKit

def eqL (xs ys : List Int) : Bool := decide (xs = ys)
theorem eqL_refl (xs : List Int) : eqL xs xs = true := decide_eq_true rfl
theorem take_eq_snoc {xs ys : List Int} {k : Nat} (hx : k < xs.length) (hy : k < ys.length) (h : xs.take k = ys.take k) (he : xs.getD k 0 = ys.getD k 0) : xs.take (k + 1) = ys.take (k + 1) := by
  rw [List.take_succ_eq_append_getElem hx, List.take_succ_eq_append_getElem hy, h]
  simp only [List.getD, List.getElem?_eq_getElem hx, List.getElem?_eq_getElem hy, Option.getD_some] at he
  rw [he]

theorem eqIntS_any (A A' : Option Addr) (n n' c c' B B' : Nat) (xs ys : List Int) (w : World) (h : Reads w B 1 A n (xs.map (Value.int .i64))) (h' : Reads w B' 1 A' n' (ys.map (Value.int .i64)))
    (hx : xs.length = n) (hy : ys.length = n') (hn : n ≤ 4611686018427387904) :
    Calls Tryd.prog 13 #[.slice A n c, .slice A' n' c'] w fun e w' => e = .returned (.bool (eqL xs ys)) ∧ ∃ d, w' = w.drewN d := by
  by_cases hne : n = n'
  · subst hne
    by_cases h0 : n = 0
    · subst h0
      obtain rfl : xs = [] := List.eq_nil_of_length_eq_zero hx
      obtain rfl : ys = [] := List.eq_nil_of_length_eq_zero hy
      go_enter Tryd.func13, Tryd.ntmps13
      go_wp2
      refine wp_loop_rounds 1 ?_
      rw [rounds_succ]
      go_wp2
      go_ret
      exact ⟨rfl, 0, rfl⟩
    · obtain ⟨b, o, rfl, hb, hc⟩ := h.open1 hx (by omega)
      obtain ⟨b', o', rfl, hb', hc'⟩ := h'.open1 hy (by omega)
      clear h h' h0
      have Hx := Lib.hid hx
      have Hy := Lib.hid hy
      have Hc := Lib.hid hc
      have Hc' := Lib.hid hc'
      clear hx hy hc hc'
      go_enter Tryd.func13, Tryd.ntmps13
      go_wp2
      go_loopw [5] (fun i wr => ∃ k : Nat, k ≤ n ∧ i = .int .i64 k ∧ xs.take k = ys.take k ∧ ∃ d, wr = w.drewN d) (fun i _ => n - (intOf i).toNat)
      case atStart => exact ⟨0, Nat.zero_le _, rfl, rfl, 0, rfl⟩
      case round =>
        obtain ⟨k, hk, rfl, hno, d, rfl⟩ := hrel
        have Hno := Lib.hid hno
        clear hno
        by_cases hlt : k < n
        · have hc := Hc.out k hlt
          have hc' := Hc'.out k hlt
          have hlt' : (k : Int) < (n : Int) := by omega
          obtain ⟨x, ex⟩ : ∃ x, x = xs.getD k 0 := ⟨_, rfl⟩
          obtain ⟨y, ey⟩ : ∃ y, y = ys.getD k 0 := ⟨_, rfl⟩
          rw [← ex] at hc
          rw [← ey] at hc'
          have HX := Lib.hid ex
          have HY := Lib.hid ey
          clear ex ey
          by_cases he : x = y
          · have he' : (x != y) = false := by simp [he]
            have HE := Lib.hid he
            clear he
            go_wp2
            go_quiet (fail)
            go_wp2
            go_roundw
            case rel => exact ⟨k + 1, by omega, by go_num, take_eq_snoc (by have := Hx.out; omega) (by have := Hy.out; omega) Hno.out (by rw [← HX.out, ← HY.out, HE.out]), _, rfl⟩
            case measure => simp [intOf]; omega
          · have he' : (x != y) = true := by simp [he]
            have HE : Hid (eqL xs ys = false) := Lib.hid (decide_eq_false (fun e => he (by rw [HX.out, HY.out, e])))
            clear he
            go_wp2
            go_quiet (fail)
            go_wp2
            go_ret
            exact ⟨ret_bool HE.out.symm, _, World.drewN_drewN _ _ _⟩
        · have hlt' : ¬ (k : Int) < (n : Int) := by omega
          go_wp2
          go_ret
          refine ⟨ret_bool ?_, d, rfl⟩
          have := Hno.out
          rw [List.take_of_length_le (by have := Hx.out; omega), List.take_of_length_le (by have := Hy.out; omega)] at this
          exact (decide_eq_true this).symm
  · have he : (n != n') = true := by simp [hne]
    have he' : ((n : Int) != (n' : Int)) = true := by simp; omega
    have HE : Hid (eqL xs ys = false) := Lib.hid (decide_eq_false (fun e => hne (by rw [← hx, ← hy, e])))
    clear hne h h' hx hy
    go_enter Tryd.func13, Tryd.ntmps13
    go_wp2
    go_ret
    exact ⟨ret_bool HE.out.symm, 0, rfl⟩

/-- n numbers from k on -/
def marks (k : Int) (n : Nat) : List Int := (List.range n).map fun i : Nat => k + (i : Int)
theorem marks_len (k : Int) (n : Nat) : (marks k n).length = n := by simp [marks]
theorem marks_at (k : Int) (n j : Nat) (h : j < n) : (marks k n).getD j 0 = k + j := by
  simp [marks, List.getD, List.getElem?_map, List.getElem?_range h]

theorem Own.open1 {w : World} {B : Nat} {A : Option Addr} {zs : List Int} (h : Own w B A (zs.map (Value.int .i64))) (hn : 0 < zs.length) :
    ∃ g o, A = some ⟨g, o, none⟩ ∧ B ≤ g ∧ g < w.heap.size ∧ ∀ j, j < zs.length → w.cell? ⟨g, o + j, none⟩ = some (.int .i64 (zs.getD j 0)) ∧ w.frozen? ⟨g, o + j, none⟩ = false := by
  obtain ⟨g, o, e, h1, h2, hc⟩ := h (by simpa using hn)
  refine ⟨g, o, e, h1, h2, fun j hj => ?_⟩
  have := hc j (.int .i64 zs[j]) (by rw [List.getElem?_map, List.getElem?_eq_getElem hj]; rfl)
  rw [this.1]
  exact ⟨by simp [List.getD, List.getElem?_eq_getElem hj], this.2⟩
theorem own_of {w : World} {B g o : Nat} {zs : List Int} (h1 : B ≤ g) (h2 : g < w.heap.size) (hc : ∀ j, j < zs.length → w.cell? ⟨g, o + j, none⟩ = some (.int .i64 (zs.getD j 0)) ∧ w.frozen? ⟨g, o + j, none⟩ = false) :
    Own w B (some ⟨g, o, none⟩) (zs.map (Value.int .i64)) := fun _ => by
  refine ⟨g, o, rfl, h1, h2, fun j u hu => ?_⟩
  rw [List.getElem?_map] at hu
  rcases Nat.lt_or_ge j zs.length with hj | hj
  · rw [List.getElem?_eq_getElem hj] at hu
    simp only [Option.map_some, Option.some.injEq] at hu
    rw [← hu, (hc j hj).1]
    exact ⟨by simp [List.getD, List.getElem?_eq_getElem hj], (hc j hj).2⟩
  · rw [List.getElem?_eq_none hj] at hu
    cases hu

theorem frozen_set (w : World) (a b : Addr) (u : Value) : (w.setCell a u).frozen? b = w.frozen? b := by go_simp

theorem markIntS_any (A : Option Addr) (c B : Nat) (zs : List Int) (k : Int) (w : World) (h : Own w B A (zs.map (Value.int .i64))) (hn : zs.length ≤ 4611686018427387904) (k0 : 0 ≤ k) (k1 : k ≤ 4611686018427387000) :
    Calls Tryd.prog 14 #[.slice A zs.length c, .int .i64 k] w fun e w' => e = .returned (.int .i64 (k + zs.length)) ∧ Own w' B A ((marks k zs.length).map (Value.int .i64)) ∧ Below B w w' := by
  by_cases h0 : zs.length = 0
  · obtain rfl : zs = [] := List.eq_nil_of_length_eq_zero h0
    go_enter Tryd.func14, Tryd.ntmps14
    go_wp2
    refine wp_loop_rounds 1 ?_
    rw [rounds_succ]
    go_wp2
    go_ret
    exact ⟨by simp, Own.nil _ _ _, Below.refl _ _⟩
  · obtain ⟨g, o, rfl, hg, hgs, hc⟩ := h.open1 (by omega)
    clear h
    obtain ⟨n, en⟩ : ∃ n, n = zs.length := ⟨_, rfl⟩
    rw [← en] at hc hn h0 ⊢
    clear en
    have Hc := Lib.hid hc
    clear hc
    go_enter Tryd.func14, Tryd.ntmps14
    go_wp2
    go_loopw [1, 5] (fun kv i wr => ∃ j : Nat, j ≤ n ∧ i = .int .i64 j ∧ kv = .int .i64 (k + j) ∧ (∀ t, t < n → wr.cell? ⟨g, o + t, none⟩ = some (.int .i64 (if t < j then k + t else zs.getD t 0)) ∧ wr.frozen? ⟨g, o + t, none⟩ = false) ∧ Below B w wr) (fun _ i _ => n - (intOf i).toNat)
    case atStart => exact ⟨0, Nat.zero_le _, rfl, by simp, fun t ht => by simpa using Hc.out t ht, Below.refl _ _⟩
    case round =>
      obtain ⟨j, hj, rfl, rfl, hcell, hb⟩ := hrel
      by_cases hlt : j < n
      · have hcj := hcell j hlt
        obtain ⟨x, hx1⟩ : ∃ x, wr.cell? ⟨g, o + j, none⟩ = some x := ⟨_, hcj.1⟩
        have hx2 := hcj.2
        have Hcell := Lib.hid hcell
        clear hcell hcj
        have hlt' : (j : Int) < (n : Int) := by omega
        go_wp2
        go_roundw
        case rel =>
          refine ⟨j + 1, by omega, by go_num, by go_num, fun t ht => ?_, hb.setCell (by simpa using hg) _⟩
          have ht' := Hcell.out t ht
          rw [frozen_set]
          refine ⟨?_, ht'.2⟩
          by_cases e : t = j
          · subst e
            rw [if_pos (by omega)]
            go_simp
          · rw [World.cell?_setCell_other _ _ _ _ (by simp; try omega), ht'.1]
            by_cases hlt2 : t < j
            · rw [if_pos hlt2, if_pos (by omega)]
            · rw [if_neg hlt2, if_neg (by omega)]
        case measure => simp [intOf]; omega
      · have Hcell := Lib.hid hcell
        clear hcell
        have hlt' : ¬ (j : Int) < (n : Int) := by omega
        go_wp2
        go_ret
        have hjn : j = n := by omega
        refine ⟨ret_int (by rw [hjn]), own_of hg (Nat.lt_of_lt_of_le hgs hb.size) fun t ht => ?_, hb⟩
        rw [marks_len] at ht
        have ht' := Hcell.out t ht
        rw [ht'.1, if_pos (by omega), marks_at _ _ _ ht]
        exact ⟨rfl, ht'.2⟩

theorem heldIntS_any (A : Option Addr) (n c B : Nat) (k : Int) (w : World) (h : Reads w B 1 A n ((marks k n).map (Value.int .i64))) (hn : n ≤ 4611686018427387904) (k0 : 0 ≤ k) (k1 : k ≤ 4611686018427387000) :
    Calls Tryd.prog 15 #[.slice A n c, .int .i64 k] w fun e w' => e = .returned (.int .i64 (k + n)) ∧ w = w' := by
  by_cases h0 : n = 0
  · subst h0
    go_enter Tryd.func15, Tryd.ntmps15
    go_wp2
    refine wp_loop_rounds 1 ?_
    rw [rounds_succ]
    go_wp2
    go_ret
    exact ⟨by simp, rfl⟩
  · obtain ⟨b, o, rfl, hb, hc⟩ := h.open1 (marks_len k n) (by omega)
    clear h h0
    have Hc := Lib.hid hc
    clear hc
    go_enter Tryd.func15, Tryd.ntmps15
    go_wp2
    go_loop [1, 5] (fun kv i => ∃ j : Nat, j ≤ n ∧ i = .int .i64 j ∧ kv = .int .i64 (k + j)) (fun _ i => n - (intOf i).toNat)
    case atStart => exact ⟨0, Nat.zero_le _, rfl, by simp⟩
    case round =>
      obtain ⟨j, hj, rfl, rfl⟩ := hrel
      by_cases hlt : j < n
      · have hcj := Hc.out j hlt
        rw [marks_at _ _ _ hlt] at hcj
        have hlt' : (j : Int) < (n : Int) := by omega
        have he : ((k + (j : Int)) != (k + (j : Int))) = false := by simp
        go_wp2
        go_round
        case rel => exact ⟨j + 1, by omega, by go_num, by go_num⟩
        case measure => simp [intOf]; omega
      · have hlt' : ¬ (j : Int) < (n : Int) := by omega
        go_wp2
        go_ret
        exact ⟨ret_int (by rw [show j = n from by omega]), rfl⟩
end Go.Proofs.YtffkoeobehocjaaDoor
