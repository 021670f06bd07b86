/- Contracts of some and impl.LinesOf. -/
import Derived.Test.YtffkoeobehocjaaDoorNature
import Derived.Maps.AppendAt
namespace Go.Proofs.YtffkoeobehocjaaDoor
open Go.RowKit

theorem info_int : (Tryd.prog.info? 3).map (fun i => (i.zero, i.size, i.bytes)) = some (some (.int .i64 0), 1, 8) := by kernel_rfl
theorem mk3 (w : World) : (Instr.makeSlice 22 (.int .i64 0) (.int .i64 3)).run Tryd.prog w = .ok (.slice (some ⟨w.heap.size, 0, none⟩) 0 3) (w.alloc (.cells #[.int .i64 0, .int .i64 0, .int .i64 0] 3)) := by kernel_rfl
theorem ix0 (a b c : Int) (w : World) : (Instr.index 95 (.agg #[.int .i64 a, .int .i64 b, .int .i64 c]) (.int .i64 0)).run Tryd.prog w = .ok (.int .i64 a) w := by kernel_rfl
theorem ix1 (a b c : Int) (w : World) : (Instr.index 95 (.agg #[.int .i64 a, .int .i64 b, .int .i64 c]) (.int .i64 1)).run Tryd.prog w = .ok (.int .i64 b) w := by kernel_rfl
theorem ix2 (a b c : Int) (w : World) : (Instr.index 95 (.agg #[.int .i64 a, .int .i64 b, .int .i64 c]) (.int .i64 2)).run Tryd.prog w = .ok (.int .i64 c) w := by kernel_rfl

theorem retL_own {w w1 : World} {zs : List Int} {v : Value} {t : TypeId} {n : Nat} {e : Ending} (ho : w1.ownsRow w.heap.size t 1 v n (zs.map (Value.int .i64))) (hb : Below w.heap.size w w1) (he : e = .returned v) : RetL zs w e w1 := by
  obtain ⟨h1, h2⟩ := ho
  have hn : n = zs.length := by simpa using h1.symm
  subst hn
  rcases h2 with ⟨rfl, h0⟩ | ⟨g, cap, cur, rfl, hg, hh, hc, _, hs, ht⟩
  · have : zs = [] := List.eq_nil_of_length_eq_zero h0
    subst this
    exact ⟨none, 0, he, Nat.le_refl _, Own.nil _ _ _, hb⟩
  · refine ⟨_, cap, he, hc, fun _ => ?_, hb⟩
    have hB : Blk w1 g t cur := hh
    refine ⟨g, 0, rfl, hg, hB.lt, fun j u hu => ?_⟩
    rw [Nat.zero_add]
    refine ⟨?_, hB.frozen j⟩
    rw [hB.cell]
    rw [← ht, List.getElem?_take] at hu
    split at hu
    · simpa using hu
    · cases hu

def pick (p : Bool) (x : Int) : List Int := if p then [x] else []
/-- the first of three lines, as far as they are picked -/
def some3 (p0 p1 p2 : Bool) (a b c : Int) : Nat → List Int
  | 0 => []
  | 1 => pick p0 a
  | 2 => pick p0 a ++ pick p1 b
  | _ => pick p0 a ++ pick p1 b ++ pick p2 c
theorem some3_len (p0 p1 p2 : Bool) (a b c : Int) (k : Nat) : (some3 p0 p1 p2 a b c k).length ≤ 3 := by
  cases p0 <;> cases p1 <;> cases p2 <;> unfold some3 <;> split <;> simp [pick]

set_option maxHeartbeats 2000000 in
theorem some_any (k a b c s : Int) (p0 p1 p2 : Bool) (w : World) (e0 : (bits .and .i64 s 1 == 1) = p0) (e1 : (bits .and .i64 (s / 2) 1 == 1) = p1) (e2 : (bits .and .i64 (s / 4) 1 == 1) = p2) :
    Calls Tryd.prog 50 #[.agg #[.int .i64 k, .int .i64 a, .int .i64 b, .int .i64 c], .int .i64 s] w fun e w' => RetL (some3 p0 p1 p2 a b c 3) w e w' := by
  have hmk := mk3
  have i0 := ix0 a b c
  have i1 := ix1 a b c
  have i2 := ix2 a b c
  obtain ⟨ii, hi, hz0, hz1, hz2⟩ := info_parts info_int
  have Hs := fun j => Lib.hid (some3_len p0 p1 p2 a b c j)
  go_enter Tryd.func50, Tryd.ntmps50
  go_wp2
  go_loopw [5, 16] (fun v i wr => ∃ j : Nat, j ≤ 3 ∧ i = .int .i64 j ∧ wr.ownsRow w.heap.size 3 1 v (some3 p0 p1 p2 a b c j).length ((some3 p0 p1 p2 a b c j).map (Value.int .i64)) ∧ Below w.heap.size w wr) (fun _ i _ => 3 - (intOf i).toNat)
  case atStart =>
    have hmd := World.ownsRow_made (base := w.heap.size) (e := 3) (size := 1) (w.alloc (Obj.cells #[.int .i64 k, .int .i64 a, .int .i64 b, .int .i64 c] 40)) #[.int .i64 0, .int .i64 0, .int .i64 0] 3 (by simp) (by simp [maxLen]) rfl
    refine ⟨0, by omega, rfl, by simpa [some3] using hmd, ((Below.refl _ _).alloc (Nat.le_refl _) _).alloc (by simp) _⟩
  case round =>
    obtain ⟨j, hj, rfl, hown, hnx⟩ := hrel
    have hs := hnx.size
    have hlt := hown.lt
    have hj3 : j = 0 ∨ j = 1 ∨ j = 2 ∨ j = 3 := by omega
    rcases hj3 with rfl | rfl | rfl | rfl
    · cases p0
      · go_wp2
        go_roundw
        case rel => exact ⟨1, by omega, rfl, by simpa [some3, pick] using hown, hnx⟩
        case measure => simp [intOf]
      · have hlen := (Hs 0).out
        go_wp2_with (at_builtin; refine wpList_append_own _ rfl _ _ 22 rfl w.heap.size 3 ii (.int .i64 0) 1 8 Tryd.underlying22 hi hz0 hz1 hz2 rfl (by decide) _ _ _ rfl (hown.alloc _) ⟨wr.heap.size, 0, none⟩ 1 1 [.int .i64 a] rfl rfl (cell_one_new _ _ _) (by simp [Value.oneCell']) (by unfold maxLen; omega) (by omega) (by simp; omega) ?_)
        intro v' w1 hown' hgrow _
        have hnx' := (hnx.alloc hs (Obj.cells #[.int .i64 a] 3)).grown hgrow (by simp; omega) (fun q e => (hlt q e).1)
        clear hown hlt hlen
        go_wp2
        go_roundw
        case rel => exact ⟨1, by omega, rfl, by simpa [some3, pick, Nat.add_assoc] using hown', hnx'⟩
        case measure => simp [intOf]
    · cases p1
      · go_wp2
        go_roundw
        case rel => exact ⟨2, by omega, rfl, by simpa [some3, pick] using hown, hnx⟩
        case measure => simp [intOf]
      · have hlen := (Hs 1).out
        go_wp2_with (at_builtin; refine wpList_append_own _ rfl _ _ 22 rfl w.heap.size 3 ii (.int .i64 0) 1 8 Tryd.underlying22 hi hz0 hz1 hz2 rfl (by decide) _ _ _ rfl (hown.alloc _) ⟨wr.heap.size, 0, none⟩ 1 1 [.int .i64 b] rfl rfl (cell_one_new _ _ _) (by simp [Value.oneCell']) (by unfold maxLen; omega) (by omega) (by simp; omega) ?_)
        intro v' w1 hown' hgrow _
        have hnx' := (hnx.alloc hs (Obj.cells #[.int .i64 b] 3)).grown hgrow (by simp; omega) (fun q e => (hlt q e).1)
        clear hown hlt hlen
        go_wp2
        go_roundw
        case rel => exact ⟨2, by omega, rfl, by simpa [some3, pick, Nat.add_assoc] using hown', hnx'⟩
        case measure => simp [intOf]
    · cases p2
      · go_wp2
        go_roundw
        case rel => exact ⟨3, by omega, rfl, by simpa [some3, pick] using hown, hnx⟩
        case measure => simp [intOf]
      · have hlen := (Hs 2).out
        go_wp2_with (at_builtin; refine wpList_append_own _ rfl _ _ 22 rfl w.heap.size 3 ii (.int .i64 0) 1 8 Tryd.underlying22 hi hz0 hz1 hz2 rfl (by decide) _ _ _ rfl (hown.alloc _) ⟨wr.heap.size, 0, none⟩ 1 1 [.int .i64 c] rfl rfl (cell_one_new _ _ _) (by simp [Value.oneCell']) (by unfold maxLen; omega) (by omega) (by simp; omega) ?_)
        intro v' w1 hown' hgrow _
        have hnx' := (hnx.alloc hs (Obj.cells #[.int .i64 c] 3)).grown hgrow (by simp; omega) (fun q e => (hlt q e).1)
        clear hown hlt hlen
        go_wp2
        go_roundw
        case rel => exact ⟨3, by omega, rfl, by simpa [some3, pick, Nat.add_assoc] using hown', hnx'⟩
        case measure => simp [intOf]
    · go_wp2
      go_ret
      exact retL_own hown hnx rfl

/-- the bits of the lines that a kind has -/
def natLines (k : Int) : Int := if k = 0 then 1 else if k = 1 ∨ k = 3 then 3 else 7
/-- the lines that a gate does not have -/
def restOf (g : Gt) : List Int := if g.k = 0 then [g.b, g.c] else if g.k = 1 ∨ g.k = 3 then [g.c] else []
theorem natLines_of (k : Int) (_h : inB k 0 4 = true) : natLines k = 1 ∨ natLines k = 3 ∨ natLines k = 7 := by
  unfold natLines
  split
  · exact .inl rfl
  · split
    · exact .inr (.inl rfl)
    · exact .inr (.inr rfl)
theorem natOf_form (k : Int) : ∃ (nm : ByteArray) (l ch co : Int), natOf k = #[.string nm, .int .i64 l, .int .i64 ch, .int .i64 co] ∧ (inB k 0 4 = true → l = natLines k) := by
  by_cases h : inB k 0 4 = true
  · have := inB_t h
    have h5 : k = 0 ∨ k = 1 ∨ k = 2 ∨ k = 3 ∨ k = 4 := by omega
    rcases h5 with rfl | rfl | rfl | rfl | rfl <;> exact ⟨_, _, _, _, rfl, fun _ => rfl⟩
  · unfold natOf
    repeat' split
    all_goals exact ⟨_, _, _, _, rfl, fun h' => absurd h' h⟩
theorem some_lines (k a b c : Int) (w : World) (h : inB k 0 4 = true) :
    Calls Tryd.prog 50 #[.agg #[.int .i64 k, .int .i64 a, .int .i64 b, .int .i64 c], .int .i64 (natLines k)] w fun e w' => RetL (linesOf ⟨k, a, b, c⟩) w e w' := by
  have := inB_t h
  have h5 : k = 0 ∨ k = 1 ∨ k = 2 ∨ k = 3 ∨ k = 4 := by omega
  rcases h5 with rfl | rfl | rfl | rfl | rfl
  · simpa [some3, pick, linesOf, natLines] using some_any 0 a b c 1 true false false w (by decide) (by decide) (by decide)
  · simpa [some3, pick, linesOf, natLines] using some_any 1 a b c 3 true true false w (by decide) (by decide) (by decide)
  · simpa [some3, pick, linesOf, natLines] using some_any 2 a b c 7 true true true w (by decide) (by decide) (by decide)
  · simpa [some3, pick, linesOf, natLines] using some_any 3 a b c 3 true true false w (by decide) (by decide) (by decide)
  · simpa [some3, pick, linesOf, natLines] using some_any 4 a b c 7 true true true w (by decide) (by decide) (by decide)
theorem some_rest (k a b c : Int) (w : World) (h : inB k 0 4 = true) :
    Calls Tryd.prog 50 #[.agg #[.int .i64 k, .int .i64 a, .int .i64 b, .int .i64 c], .int .i64 (-1 - natLines k)] w fun e w' => RetL (restOf ⟨k, a, b, c⟩) w e w' := by
  have := inB_t h
  have h5 : k = 0 ∨ k = 1 ∨ k = 2 ∨ k = 3 ∨ k = 4 := by omega
  rcases h5 with rfl | rfl | rfl | rfl | rfl
  · simpa [some3, pick, restOf, natLines] using some_any 0 a b c (-2) false true true w (by decide) (by decide) (by decide)
  · simpa [some3, pick, restOf, natLines] using some_any 1 a b c (-4) false false true w (by decide) (by decide) (by decide)
  · simpa [some3, pick, restOf, natLines] using some_any 2 a b c (-8) false false false w (by decide) (by decide) (by decide)
  · simpa [some3, pick, restOf, natLines] using some_any 3 a b c (-4) false false true w (by decide) (by decide) (by decide)
  · simpa [some3, pick, restOf, natLines] using some_any 4 a b c (-8) false false false w (by decide) (by decide) (by decide)

theorem RetL.of_below {zs : List Int} {w w1 : World} {e : Ending} {w' : World} (hb : Below w.heap.size w w1) (h : RetL zs w1 e w') : RetL zs w e w' := by
  obtain ⟨A, c, he, hc, ho, hbb⟩ := h
  exact ⟨A, c, he, hc, ho.mono hb.size, hb.trans (hbb.mono hb.size)⟩

end Go.Proofs.YtffkoeobehocjaaDoor
