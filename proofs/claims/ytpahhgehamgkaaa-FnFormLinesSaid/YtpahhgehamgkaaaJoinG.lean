/- Contracts of the library's slices.Grow (at the nil slice) and slices.Concat (of two slices) at gates. -/
import Derived.Lib.AppendZerosOnto
import Derived.Lib.SliceRun
import Derived.Test.YtpahhgehamgkaaaSplM
namespace Go.Proofs.Ytpahhgehamgkaaa
open Go.RowKit
set_option linter.unusedVariables false

/-- a row of the call's own is returned -/
def RetRow (n : Nat) (xs : List Value) (w : World) (e : Ending) (w' : World) : Prop := ∃ v, e = .returned v ∧ w'.ownsRow w.heap.size 48 4 v n xs ∧ Below w.heap.size w w'

set_option maxHeartbeats 1000000 in
set_option maxRecDepth 100000 in
theorem growNil_any (n : Nat) (w : World) (hn : n ≤ 1048576) :
    Calls Try.prog 64 #[.slice none 0 0, .int .i64 n] w fun e w' => RetRow 0 [] w e w' := by
  obtain ⟨ii, gi, gz0, gz1, gz2⟩ := info_parts infoGate
  by_cases h0 : n = 0
  · subst h0
    go_enter Try.func64, Try.ntmps64
    go_wp2_with fail
    go_ret
    exact ⟨_, rfl, World.ownsRow_nil _ _ _ _, Below.refl _ _⟩
  · have hpos : 0 < n := by omega
    have hrz : ∀ ty, (Builtin.append_ #[26, 3] ty #[.slice none 0 0, .int .i64 (n : Int)]).run Try.prog w = .ok (.slice (some ⟨w.heap.size, 0, none⟩) n (grownCap w n 0 48)) (w.drew.alloc (.cells (#[] ++ Builtin.zeroCells #[.int .i64 0, .int .i64 0, .int .i64 0, .int .i64 0] n ++ Builtin.zeroCells #[.int .i64 0, .int .i64 0, .int .i64 0, .int .i64 0] (grownCap w n 0 48 - n)) 48)) := fun ty => by
      have h := Lib.run_append_grow_zeros w 26 3 ty 48 ii _ .i64 .i64 Try.underlying26 Try.underlying3 gi gz0 none 0 0 [] (run_firstCells_none w.drew ii.size 0 0 0) n hpos (by rw [gz1]; omega) (by omega) (by omega) (by rw [gz2]; omega) (growslice_fits (by omega) (by rw [gz2]; omega))
      simp only [Nat.zero_add] at h
      exact h
    have hGn : n ≤ grownCap w n 0 48 := grownCap_ge w _ _ _
    have hGm := grownCap_le_maxLen w n 0 48 (by unfold maxLen; omega)
    obtain ⟨G, hG⟩ : ∃ G, G = grownCap w n 0 48 := ⟨_, rfl⟩
    rw [← hG] at hrz hGn hGm
    clear hG
    have hG63 : G ≤ 9223372036854775807 := by unfold maxLen at hGm; omega
    have HGm := Lib.hid hGm
    have hp : ¬ ((n : Int) = 0) := by omega
    have hp' : (0 : Int) < (n : Int) := by omega
    clear hGm
    go_enter Try.func64, Try.ntmps64
    go_wp2_with (at_builtin; refine Lib.wpList_append_run _ rfl _ _ _ _ rfl _ _ rfl rfl _ _ (hrz _) ?_)
    go_ret
    have ho := World.ownsRow_made (base := w.heap.size) (e := 48) (size := 4) w (Builtin.zeroCells #[.int .i64 0, .int .i64 0, .int .i64 0, .int .i64 0] n ++ Builtin.zeroCells #[.int .i64 0, .int .i64 0, .int .i64 0, .int .i64 0] (G - n)) G (Nat.le_refl _) HGm.out (by simp [size_zeroCells]; omega)
    exact ⟨_, rfl, ho.drew, ((Below.refl _ _).alloc (Nat.le_refl _) _).drew⟩

set_option maxHeartbeats 4000000 in
set_option maxRecDepth 50000 in
theorem concat2_any (g : Nat) (A A' : Option Addr) (n m c c' B B' : Nat) (gs hs : List Gt) (w : World) (hg : Blk w g 26 #[.slice A n c, .slice A' m c']) (h : Reads w B 4 A n (gcells gs)) (h' : Reads w B' 4 A' m (gcells hs)) (hB : B ≤ w.heap.size) (hB' : B' ≤ w.heap.size) (hz : gs.length = n) (hz' : hs.length = m) (hn : n ≤ 1000) (hm : m ≤ 1000) :
    Calls Try.prog 48 #[.slice (some ⟨g, 0, none⟩) 2 2] w fun e w' => RetRow (n + m) (gcells (gs ++ hs)) w e w' := by
  obtain ⟨ig, gi, gz0, gz1, gz2⟩ := info_parts infoGate
  have e0 : w.cell? ⟨g, 0, none⟩ = some (.slice A n c) := hg.cell 0
  have e1 : w.cell? ⟨g, 1, none⟩ = some (.slice A' m c') := hg.cell 1
  have HG := Lib.hid hg
  have H1 := Lib.hid h
  have H2 := Lib.hid h'
  have HC : Hid (gcells (gs ++ hs) = gcells gs ++ gcells hs) := Lib.hid (gcells_app gs hs)
  clear hg h h' hz hz'
  go_enter Try.func48, Try.ntmps48
  go_wp2_with fail
  go_loopg [3, 11] 2 (fun gh s i wr => ∃ k : Nat, k ≤ 2 ∧ gh = 2 - k ∧ i = .int .i64 k ∧ s = .int .i64 (if k = 0 then 0 else if k = 1 then n else (n : Int) + m) ∧ w = wr)
  case atStart => exact ⟨0, by omega, rfl, rfl, rfl, rfl⟩
  case round =>
    obtain ⟨k, hk, hg, rfl, rfl, rfl⟩ := hrel
    have Hg := Lib.hid hg
    clear hg
    have h3 : k = 0 ∨ k = 1 ∨ k = 2 := by omega
    rcases h3 with rfl | rfl | rfl
    · simp only [if_true]
      go_wp2_with fail
      go_roundg 1
      case measure => have := Hg.out; omega
      case rel => exact ⟨1, by omega, rfl, rfl, rfl, rfl⟩
    · rw [if_neg (by decide), if_pos rfl]
      go_wp2_with fail
      go_roundg 0
      case measure => have := Hg.out; omega
      case rel => exact ⟨2, by omega, rfl, rfl, rfl, rfl⟩
    · rw [if_neg (by decide), if_neg (by decide)]
      have CG0 := growNil_any (n + m) w (by omega)
      simp only [Int.natCast_add] at CG0
      have CG := Lib.hid CG0
      clear CG0
      go_wp2_with fail
      refine CG.out.mono ?_
      rintro e w2 ⟨v0, rfl, own2, hb2⟩
      obtain ⟨A5, c5, rfl, hc5⟩ := own_shape own2
      have f0 : w2.cell? ⟨g, 0, none⟩ = some (.slice A n c) := (hb2.cell (p := ⟨g, 0, none⟩) HG.out.lt).trans e0
      have f1 : w2.cell? ⟨g, 1, none⟩ = some (.slice A' m c') := (hb2.cell (p := ⟨g, 1, none⟩) HG.out.lt).trans e1
      have HO2 := Lib.hid own2
      have hs2 := hb2.size
      clear own2 CG
      go_wp2_with fail
      go_loopg [6, 27] 2 (fun gh s i wx => ∃ k : Nat, k ≤ 2 ∧ gh = 2 - k ∧ i = .int .i64 k ∧ ((k = 0 ∧ wx.ownsRow w.heap.size 48 4 s 0 []) ∨ (k = 1 ∧ wx.ownsRow w.heap.size 48 4 s n (gcells gs)) ∨ (k = 2 ∧ wx.ownsRow w.heap.size 48 4 s (n + m) (gcells (gs ++ hs)))) ∧ Below w.heap.size w wx)
      case atStart => exact ⟨0, by omega, rfl, rfl, .inl ⟨rfl, HO2.out⟩, hb2⟩
      case round =>
        obtain ⟨k, hk, hg, rfl, hor, hbx⟩ := hrel
        have Hg := Lib.hid hg
        have hsx := hbx.size
        have y0 : wr.cell? ⟨g, 0, none⟩ = some (.slice A n c) := (hbx.cell (p := ⟨g, 0, none⟩) HG.out.lt).trans e0
        have y1 : wr.cell? ⟨g, 1, none⟩ = some (.slice A' m c') := (hbx.cell (p := ⟨g, 1, none⟩) HG.out.lt).trans e1
        clear hg f0 f1 e0 e1
        rcases hor with ⟨rfl, hown⟩ | ⟨rfl, hown⟩ | ⟨rfl, hown⟩
        · obtain ⟨A6, c6, rfl, hc6⟩ := own_shape hown
          have rd := H1.out.below (hbx.mono hB)
          have hone := gcells_ok gs
          have hlw := hown.lt
          go_wp2_with (at_builtin; (refine wpList_append_any _ rfl _ _ 26 rfl w.heap.size 48 ig (.agg #[.int .i64 0, .int .i64 0, .int .i64 0, .int .i64 0]) 4 32 Try.underlying26 gi gz0 gz1 gz2 rfl (by decide) (.slice A6 0 c6) 0 [] rfl hown _ A n c (gcells gs) rfl rd hone (by unfold maxLen; omega) (by omega) (by omega) ?_; intro v' w6 hown' hgrow _))
          have hb6 := hbx.grown hgrow hsx (fun q e => (hlw q e).1)
          rw [Nat.zero_add, List.nil_append] at hown'
          clear hgrow hlw
          go_roundg 1
          case measure => have := Hg.out; omega
          case rel => exact ⟨1, by omega, rfl, rfl, .inr (.inl ⟨rfl, hown'⟩), hb6⟩
        · obtain ⟨A6, c6, rfl, hc6⟩ := own_shape hown
          have rd := H2.out.below (hbx.mono hB')
          have hone := gcells_ok hs
          have hlw := hown.lt
          go_wp2_with (at_builtin; (refine wpList_append_any _ rfl _ _ 26 rfl w.heap.size 48 ig (.agg #[.int .i64 0, .int .i64 0, .int .i64 0, .int .i64 0]) 4 32 Try.underlying26 gi gz0 gz1 gz2 rfl (by decide) (.slice A6 n c6) n (gcells gs) rfl hown _ A' m c' (gcells hs) rfl rd hone (by unfold maxLen; omega) (by omega) (by omega) ?_; intro v' w6 hown' hgrow _))
          have hb6 := hbx.grown hgrow hsx (fun q e => (hlw q e).1)
          rw [← HC.out] at hown'
          clear hgrow hlw
          go_roundg 0
          case measure => have := Hg.out; omega
          case rel => exact ⟨2, by omega, rfl, rfl, .inr (.inr ⟨rfl, hown'⟩), hb6⟩
        · obtain ⟨A6, c6, rfl, hc6⟩ := own_shape hown
          have HO := Lib.hid hown
          clear hown
          go_wp2_with fail
          go_ret
          exact ⟨_, rfl, HO.out, hbx⟩
end Go.Proofs.Ytpahhgehamgkaaa
