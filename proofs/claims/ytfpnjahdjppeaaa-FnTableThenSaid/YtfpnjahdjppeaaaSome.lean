/- Contracts of some and impl.LinesOf. -/
import Derived.Test.YtfpnjahdjppeaaaNature
import Derived.Maps.AppendAt
namespace Go.Proofs.Ytfpnjahdjppeaaa
open Go.RowKit

theorem info_int : (Try.prog.info? 3).map (fun i => (i.zero, i.size, i.bytes)) = some (some (.int .i64 0), 1, 8) := by kernel_rfl
theorem mk3 (w : World) : (Instr.makeSlice 23 (.int .i64 0) (.int .i64 3)).run Try.prog w = .ok (.slice (some ⟨w.heap.size, 0, none⟩) 0 3) (w.alloc (.cells #[.int .i64 0, .int .i64 0, .int .i64 0] 3)) := by kernel_rfl
theorem retL_own {w w1 : World} {zs : List Int} {v : Value} {t : TypeId} {n : Nat} {e : Ending} (ho : w1.ownsRow w.heap.size t 1 v n (zs.map (Value.int .i64))) (hb : Below w.heap.size w w1) (he : e = .returned v) : RetL zs w e w1 := by
  obtain ⟨h1, h2⟩ := ho
  have hn : n = zs.length := by simpa using h1.symm
  subst hn
  rcases h2 with ⟨rfl, h0⟩ | ⟨g, cap, cur, rfl, hg, hh, hc, _, hs, ht⟩
  · have : zs = [] := List.eq_nil_of_length_eq_zero h0
    subst this
    exact ⟨none, 0, he, Nat.le_refl _, Own.nil _ _ _, hb⟩
  · refine ⟨_, cap, he, hc, fun _ => ?_, hb⟩
    have hB : Blk w1 g t cur := hh
    refine ⟨g, 0, rfl, hg, hB.lt, fun j u hu => ?_⟩
    rw [Nat.zero_add]
    refine ⟨?_, hB.frozen j⟩
    rw [hB.cell]
    rw [← ht, List.getElem?_take] at hu
    split at hu
    · simpa using hu
    · cases hu

def pick (p : Bool) (x : Int) : List Int := if p then [x] else []
/-- the first of three lines, as far as they are picked -/
def some3 (p0 p1 p2 : Bool) (a b c : Int) : Nat → List Int
  | 0 => []
  | 1 => pick p0 a
  | 2 => pick p0 a ++ pick p1 b
  | _ => pick p0 a ++ pick p1 b ++ pick p2 c
theorem some3_len (p0 p1 p2 : Bool) (a b c : Int) (k : Nat) : (some3 p0 p1 p2 a b c k).length ≤ 3 := by
  cases p0 <;> cases p1 <;> cases p2 <;> unfold some3 <;> split <;> simp [pick]

/-- the bits of the lines that a kind has -/
def natLines (k : Int) : Int := if k = 0 then 1 else if k = 1 ∨ k = 3 then 3 else 7
/-- the lines that a gate does not have -/
def restOf (g : Gt) : List Int := if g.k = 0 then [g.b, g.c] else if g.k = 1 ∨ g.k = 3 then [g.c] else []
theorem natLines_of (k : Int) (_h : inB k 0 4 = true) : natLines k = 1 ∨ natLines k = 3 ∨ natLines k = 7 := by
  unfold natLines
  split
  · exact .inl rfl
  · split
    · exact .inr (.inl rfl)
    · exact .inr (.inr rfl)
theorem natOf_form (k : Int) : ∃ (nm : ByteArray) (l ch co : Int), natOf k = #[.string nm, .int .i64 l, .int .i64 ch, .int .i64 co] ∧ (inB k 0 4 = true → l = natLines k) := by
  by_cases h : inB k 0 4 = true
  · have := inB_t h
    have h5 : k = 0 ∨ k = 1 ∨ k = 2 ∨ k = 3 ∨ k = 4 := by omega
    rcases h5 with rfl | rfl | rfl | rfl | rfl <;> exact ⟨_, _, _, _, rfl, fun _ => rfl⟩
  · unfold natOf
    repeat' split
    all_goals exact ⟨_, _, _, _, rfl, fun h' => absurd h' h⟩
theorem RetL.of_below {zs : List Int} {w w1 : World} {e : Ending} {w' : World} (hb : Below w.heap.size w w1) (h : RetL zs w1 e w') : RetL zs w e w' := by
  obtain ⟨A, c, he, hc, ho, hbb⟩ := h
  exact ⟨A, c, he, hc, ho.mono hb.size, hb.trans (hbb.mono hb.size)⟩

end Go.Proofs.Ytfpnjahdjppeaaa
