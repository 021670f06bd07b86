/- Contracts of toIntS, markIntS, sameInts: lists of numbers are copied, marked and compared; rows of numbers by index. -/
import Derived.Test.YtffkoeobehocjaaDoorInts
import Derived.Test.YtffkoeobehocjaaDoorSl
namespace Go.Proofs.YtffkoeobehocjaaDoor
open Go.RowKit

theorem infoInt : (Tryd.prog.info? 3).map (fun i => (i.zero, i.size, i.bytes)) = some (some (.int .i64 0), 1, 8) := by kernel_rfl

theorem own_of_row {w : World} {B g n : Nat} {t : TypeId} {zs : List Int} {f : Nat → Value} (h : w.rowIs g t n f) (hB : B ≤ g) (hz : zs.length = n) (hf : ∀ j, j < n → f j = .int .i64 (zs.getD j 0)) : Own w B (some ⟨g, 0, none⟩) (zs.map (Value.int .i64)) := by
  subst hz
  exact own_of (zs := zs) hB h.lt (fun j hj => by rw [Nat.zero_add]; exact ⟨by rw [h.cell hj, hf j hj], h.frozen j⟩)
theorem RetL.of_row {w w1 : World} {g n : Nat} {t : TypeId} {zs : List Int} {f : Nat → Value} (h : w1.rowIs g t n f) (hb : Below w.heap.size w w1) (hB : w.heap.size ≤ g) (hz : zs.length = n) (hf : ∀ j, j < n → f j = .int .i64 (zs.getD j 0)) {e : Ending} (he : e = .returned (.slice (some ⟨g, 0, none⟩) n n)) : RetL zs w e w1 := by
  subst hz
  exact ⟨_, _, he, Nat.le_refl _, own_of_row h hB rfl hf, hb⟩

/-- the first k numbers of a list, then 0 -/
def cpAt (xs : List Int) (k j : Nat) : Int := if j < k then xs.getD j 0 else 0

theorem toIntS_any (A : Option Addr) (n c B : Nat) (xs : List Int) (w : World) (h : Reads w B 1 A n (xs.map (Value.int .i64))) (hB : B ≤ w.heap.size) (hz : xs.length = n) (hn : n ≤ 1048576) :
    Calls Tryd.prog 23 #[.slice A n c] w fun e w' => RetL xs w e w' := by
  have hmk := run_make_row' (P := Tryd.prog) 22 3 (.int .i64 0) 8 Tryd.underlying22 infoInt rfl .i64 .i64 n (by omega) (by omega)
  have HR := Lib.hid h
  have HZ := Lib.hid hz
  clear h hz
  go_enter Tryd.func23, Tryd.ntmps23
  go_wp2
  go_loopw [4] (fun i wr => ∃ k : Nat, k ≤ n ∧ i = .int .i64 k ∧ wr.rowIs w.heap.size 3 n (fun j => .int .i64 (cpAt xs k j)) ∧ Below w.heap.size w wr) (fun i _ => n - (intOf i).toNat)
  case atStart => exact ⟨0, Nat.zero_le _, rfl, World.rowIs_made _ _ _ _, (Below.refl _ _).alloc (Nat.le_refl _) _⟩
  case round =>
    obtain ⟨k, hk, rfl, hrow, hb⟩ := hrel
    have Hrow := Lib.hid hrow
    clear hrow
    by_cases hlt : k < n
    · obtain ⟨b, o, rfl, hbB, hcell⟩ := HR.out.open1 HZ.out (by omega)
      obtain ⟨z, hz⟩ : ∃ z, z = xs.getD k 0 := ⟨_, rfl⟩
      have hc1 : wr.cell? ⟨b, o + k, none⟩ = some (.int .i64 z) := (hb.cell (p := ⟨b, o + k, none⟩) (by simp; omega)).trans (by rw [hz]; exact hcell k hlt)
      have HzH := Lib.hid hz
      clear hcell hz
      have hx1 := Hrow.out.cell hlt
      have hx2 := Hrow.out.frozen k
      have hlt' : (k : Int) < (n : Int) := by omega
      obtain ⟨x, hx⟩ : ∃ x, wr.cell? ⟨w.heap.size, k, none⟩ = some x := ⟨_, hx1⟩
      clear hx1
      have hne : ¬ b = w.heap.size := by omega
      go_wp2
      go_roundw
      case rel =>
        refine ⟨k + 1, by omega, by go_num, (Hrow.out.set k _).congr fun j hj => ?_, hb.setCell (by simp) _⟩
        unfold cpAt
        by_cases e : j = k
        · subst e; rw [if_pos rfl, if_pos (by omega), HzH.out]
        · rw [if_neg e]
          by_cases e2 : j < k
          · rw [if_pos e2, if_pos (by omega)]
          · rw [if_neg e2, if_neg (by omega)]
      case measure => simp [intOf]; omega
    · have hlt' : ¬ (k : Int) < (n : Int) := by omega
      go_wp2
      go_ret
      refine RetL.of_row Hrow.out hb (Nat.le_refl _) HZ.out (fun j hj => ?_) rfl
      unfold cpAt
      rw [if_pos (by omega)]

theorem markIntS_sl (A : Option Addr) (c lo hi : Nat) (zs : List Int) (k : Int) (w : World) (h : Sl w lo hi A (zs.map (Value.int .i64))) (hn : zs.length ≤ 4611686018427387904) (k0 : 0 ≤ k) (k1 : k ≤ 4611686018427387000) :
    Calls Tryd.prog 14 #[.slice A zs.length c, .int .i64 k] w fun e w' => e = .returned (.int .i64 (k + zs.length)) ∧ Sl w' lo hi A ((marks k zs.length).map (Value.int .i64)) ∧ Chg lo hi w w' := by
  by_cases h0 : zs.length = 0
  · obtain rfl : zs = [] := List.eq_nil_of_length_eq_zero h0
    go_enter Tryd.func14, Tryd.ntmps14
    go_wp2
    refine wp_loop_rounds 1 ?_
    rw [rounds_succ]
    go_wp2
    go_ret
    exact ⟨by simp, ⟨h.1, fun hn => absurd hn (by simp [marks])⟩, Chg.refl _ _ _⟩
  · obtain ⟨g, o, rfl, hg, hgs, hc0⟩ := h.2 (by simp; omega)
    have hh := h.1
    have hc : ∀ j, j < zs.length → w.cell? ⟨g, o + j, none⟩ = some (.int .i64 (zs.getD j 0)) ∧ w.frozen? ⟨g, o + j, none⟩ = false := fun j hj => by
      have := hc0 j (.int .i64 zs[j]) (by rw [List.getElem?_map, List.getElem?_eq_getElem hj]; rfl)
      rw [this.1]
      exact ⟨by simp [List.getD, List.getElem?_eq_getElem hj], this.2⟩
    clear h hc0
    obtain ⟨n, en⟩ : ∃ n, n = zs.length := ⟨_, rfl⟩
    rw [← en] at hc hn h0 ⊢
    clear en
    have Hc := Lib.hid hc
    clear hc
    go_enter Tryd.func14, Tryd.ntmps14
    go_wp2
    go_loopw [1, 5] (fun kv i wr => ∃ j : Nat, j ≤ n ∧ i = .int .i64 j ∧ kv = .int .i64 (k + j) ∧ (∀ t, t < n → wr.cell? ⟨g, o + t, none⟩ = some (.int .i64 (if t < j then k + t else zs.getD t 0)) ∧ wr.frozen? ⟨g, o + t, none⟩ = false) ∧ w.grownBy wr (some g)) (fun _ i _ => n - (intOf i).toNat)
    case atStart => exact ⟨0, Nat.zero_le _, rfl, by simp, fun t ht => by simpa using Hc.out t ht, World.grownBy.refl _ _⟩
    case round =>
      obtain ⟨j, hj, rfl, rfl, hcell, hb⟩ := hrel
      by_cases hlt : j < n
      · have hcj := hcell j hlt
        obtain ⟨x, hx1⟩ : ∃ x, wr.cell? ⟨g, o + j, none⟩ = some x := ⟨_, hcj.1⟩
        have hx2 := hcj.2
        have Hcell := Lib.hid hcell
        clear hcell hcj
        have hlt' : (j : Int) < (n : Int) := by omega
        go_wp2
        go_roundw
        case rel =>
          refine ⟨j + 1, by omega, by go_num, by go_num, fun t ht => ?_, only_setCell hb (.inl rfl) _⟩
          have ht' := Hcell.out t ht
          rw [frozen_set]
          refine ⟨?_, ht'.2⟩
          by_cases e : t = j
          · subst e
            rw [if_pos (by omega)]
            go_simp
          · rw [World.cell?_setCell_other _ _ _ _ (by simp; try omega), ht'.1]
            by_cases hlt2 : t < j
            · rw [if_pos hlt2, if_pos (by omega)]
            · rw [if_neg hlt2, if_neg (by omega)]
        case measure => simp [intOf]; omega
      · have Hcell := Lib.hid hcell
        clear hcell
        have hlt' : ¬ (j : Int) < (n : Int) := by omega
        go_wp2
        go_ret
        have hjn : j = n := by omega
        have hs := hb.size
        refine ⟨ret_int (by rw [hjn]), ⟨by omega, fun _ => ⟨g, o, rfl, hg, hgs, fun t u hu => ?_⟩⟩, Chg.of_only hb hg hgs⟩
        have ht : t < n := by
          rcases Nat.lt_or_ge t n with ht | ht
          · exact ht
          · rw [List.getElem?_eq_none (by simp [marks_len]; omega)] at hu; cases hu
        have ht' := Hcell.out t ht
        rw [List.getElem?_map, List.getElem?_eq_getElem (by rw [marks_len]; exact ht)] at hu
        simp only [Option.map_some, Option.some.injEq] at hu
        have hm := marks_at k n t ht
        rw [List.getD, List.getElem?_eq_getElem (by rw [marks_len]; exact ht), Option.getD_some] at hm
        rw [ht'.1, if_pos (by omega), ← hu, hm]
        exact ⟨rfl, ht'.2⟩

theorem mk_cap (n : Nat) (hn : n ≤ 1048576) (W : World) : (Instr.makeSlice 22 (.int .i64 0) (.int .i64 (n : Int))).run Tryd.prog W = .ok (.slice (some ⟨W.heap.size, 0, none⟩) 0 n) (W.alloc (.cells (madeCells #[.int .i64 0] n) 3)) := by
  obtain ⟨ii, hi, hz0, hz1, hz2⟩ := info_parts infoInt
  have hr := run_make (P := Tryd.prog) W 22 3 ii (.int .i64 0) Tryd.underlying22 hi hz0 .i64 .i64 0 n (by omega) (by omega) (by rw [hz2]; omega) (by omega)
  simp only [Int.toNat_zero, Int.toNat_natCast, hz1, Nat.mul_one] at hr
  exact hr
theorem retL_acc {w w1 : World} {zs : List Int} {v : Value} {t : TypeId} {n : Nat} {e : Ending} (ho : w1.ownsRow w.heap.size t 1 v n (zs.map (Value.int .i64))) (hb : Below w.heap.size w w1) (he : e = .returned v) : RetL zs w e w1 := by
  obtain ⟨h1, h2⟩ := ho
  have hn : n = zs.length := by simpa using h1.symm
  subst hn
  rcases h2 with ⟨rfl, h0⟩ | ⟨g, cap, cur, rfl, hg, hh, hc, _, hs, ht⟩
  · have : zs = [] := List.eq_nil_of_length_eq_zero h0
    subst this
    exact ⟨none, 0, he, Nat.le_refl _, Own.nil _ _ _, hb⟩
  · refine ⟨_, cap, he, hc, fun _ => ?_, hb⟩
    have hB : Blk w1 g t cur := hh
    refine ⟨g, 0, rfl, hg, hB.lt, fun j u hu => ?_⟩
    rw [Nat.zero_add]
    refine ⟨?_, hB.frozen j⟩
    rw [hB.cell]
    rw [← ht, List.getElem?_take] at hu
    split at hu
    · simpa using hu
    · cases hu

theorem retL_nil {w w1 : World} {e : Ending} {A : Option Addr} {c : Nat} (hb : Below w.heap.size w w1) (he : e = .returned (.slice A 0 c)) : RetL [] w e w1 := ⟨A, c, he, Nat.zero_le _, Own.nil _ _ _, hb⟩
theorem retL_nil' {w w1 : World} {e : Ending} {A : Option Addr} {c : Nat} {zs : List Int} (hz : zs = []) (hb : Below w.heap.size w w1) (he : e = .returned (.slice A 0 c)) : RetL zs w e w1 := by subst hz; exact retL_nil hb he

end Go.Proofs.YtffkoeobehocjaaDoor
