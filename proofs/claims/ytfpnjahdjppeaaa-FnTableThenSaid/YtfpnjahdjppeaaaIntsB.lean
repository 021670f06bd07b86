/- Contracts of toIntS, markIntS, sameInts: lists of numbers are copied, marked and compared; rows of numbers by index. -/
import Derived.Test.YtfpnjahdjppeaaaInts
import Derived.Test.YtfpnjahdjppeaaaSl
namespace Go.Proofs.Ytfpnjahdjppeaaa
open Go.RowKit

theorem infoInt : (Try.prog.info? 3).map (fun i => (i.zero, i.size, i.bytes)) = some (some (.int .i64 0), 1, 8) := by kernel_rfl

theorem own_of_row {w : World} {B g n : Nat} {t : TypeId} {zs : List Int} {f : Nat → Value} (h : w.rowIs g t n f) (hB : B ≤ g) (hz : zs.length = n) (hf : ∀ j, j < n → f j = .int .i64 (zs.getD j 0)) : Own w B (some ⟨g, 0, none⟩) (zs.map (Value.int .i64)) := by
  subst hz
  exact own_of (zs := zs) hB h.lt (fun j hj => by rw [Nat.zero_add]; exact ⟨by rw [h.cell hj, hf j hj], h.frozen j⟩)
theorem RetL.of_row {w w1 : World} {g n : Nat} {t : TypeId} {zs : List Int} {f : Nat → Value} (h : w1.rowIs g t n f) (hb : Below w.heap.size w w1) (hB : w.heap.size ≤ g) (hz : zs.length = n) (hf : ∀ j, j < n → f j = .int .i64 (zs.getD j 0)) {e : Ending} (he : e = .returned (.slice (some ⟨g, 0, none⟩) n n)) : RetL zs w e w1 := by
  subst hz
  exact ⟨_, _, he, Nat.le_refl _, own_of_row h hB rfl hf, hb⟩

/-- the first k numbers of a list, then 0 -/
def cpAt (xs : List Int) (k j : Nat) : Int := if j < k then xs.getD j 0 else 0

theorem mk_cap (n : Nat) (hn : n ≤ 1048576) (W : World) : (Instr.makeSlice 23 (.int .i64 0) (.int .i64 (n : Int))).run Try.prog W = .ok (.slice (some ⟨W.heap.size, 0, none⟩) 0 n) (W.alloc (.cells (madeCells #[.int .i64 0] n) 3)) := by
  obtain ⟨ii, hi, hz0, hz1, hz2⟩ := info_parts infoInt
  have hr := run_make (P := Try.prog) W 23 3 ii (.int .i64 0) Try.underlying23 hi hz0 .i64 .i64 0 n (by omega) (by omega) (by rw [hz2]; omega) (by omega)
  simp only [Int.toNat_zero, Int.toNat_natCast, hz1, Nat.mul_one] at hr
  exact hr
theorem retL_acc {w w1 : World} {zs : List Int} {v : Value} {t : TypeId} {n : Nat} {e : Ending} (ho : w1.ownsRow w.heap.size t 1 v n (zs.map (Value.int .i64))) (hb : Below w.heap.size w w1) (he : e = .returned v) : RetL zs w e w1 := by
  obtain ⟨h1, h2⟩ := ho
  have hn : n = zs.length := by simpa using h1.symm
  subst hn
  rcases h2 with ⟨rfl, h0⟩ | ⟨g, cap, cur, rfl, hg, hh, hc, _, hs, ht⟩
  · have : zs = [] := List.eq_nil_of_length_eq_zero h0
    subst this
    exact ⟨none, 0, he, Nat.le_refl _, Own.nil _ _ _, hb⟩
  · refine ⟨_, cap, he, hc, fun _ => ?_, hb⟩
    have hB : Blk w1 g t cur := hh
    refine ⟨g, 0, rfl, hg, hB.lt, fun j u hu => ?_⟩
    rw [Nat.zero_add]
    refine ⟨?_, hB.frozen j⟩
    rw [hB.cell]
    rw [← ht, List.getElem?_take] at hu
    split at hu
    · simpa using hu
    · cases hu

theorem retL_nil {w w1 : World} {e : Ending} {A : Option Addr} {c : Nat} (hb : Below w.heap.size w w1) (he : e = .returned (.slice A 0 c)) : RetL [] w e w1 := ⟨A, c, he, Nat.zero_le _, Own.nil _ _ _, hb⟩
theorem retL_nil' {w w1 : World} {e : Ending} {A : Option Addr} {c : Nat} {zs : List Int} (hz : zs = []) (hb : Below w.heap.size w w1) (he : e = .returned (.slice A 0 c)) : RetL zs w e w1 := by subst hz; exact retL_nil hb he

end Go.Proofs.Ytfpnjahdjppeaaa
