/- Contract of the library's slices.Concat (of three slices) at gates. -/
import Derived.Test.YtpahhgehamgkaaaJoin
namespace Go.Proofs.Ytpahhgehamgkaaa
open Go.RowKit
set_option linter.unusedVariables false

set_option maxHeartbeats 4000000 in
set_option maxRecDepth 50000 in
theorem concat3_any (g : Nat) (A A' A'' : Option Addr) (n m q c c' c'' B B' B'' : Nat) (gs hs fs : List Gt) (w : World) (hg : Blk w g 26 #[.slice A n c, .slice A' m c', .slice A'' q c'']) (h : Reads w B 4 A n (gcells gs)) (h' : Reads w B' 4 A' m (gcells hs)) (h'' : Reads w B'' 4 A'' q (gcells fs)) (hB : B ≤ w.heap.size) (hB' : B' ≤ w.heap.size) (hB'' : B'' ≤ w.heap.size) (hn : n ≤ 1000) (hm : m ≤ 1000) (hq : q ≤ 1000) :
    Calls Try.prog 48 #[.slice (some ⟨g, 0, none⟩) 3 3] w fun e w' => RetRow (n + m + q) (gcells (gs ++ hs ++ fs)) w e w' := by
  obtain ⟨ig, gi, gz0, gz1, gz2⟩ := info_parts infoGate
  have e0 : w.cell? ⟨g, 0, none⟩ = some (.slice A n c) := hg.cell 0
  have e1 : w.cell? ⟨g, 1, none⟩ = some (.slice A' m c') := hg.cell 1
  have e2 : w.cell? ⟨g, 2, none⟩ = some (.slice A'' q c'') := hg.cell 2
  have HG := Lib.hid hg
  have H1 := Lib.hid h
  have H2 := Lib.hid h'
  have H3 := Lib.hid h''
  have HC : Hid (gcells (gs ++ hs) = gcells gs ++ gcells hs) := Lib.hid (gcells_app gs hs)
  have HC2 : Hid (gcells (gs ++ hs ++ fs) = gcells (gs ++ hs) ++ gcells fs) := Lib.hid (gcells_app (gs ++ hs) fs)
  clear hg h h' h''
  go_enter Try.func48, Try.ntmps48
  go_wp2_with fail
  go_loopg [3, 11] 3 (fun gh s i wr => ∃ k : Nat, k ≤ 3 ∧ gh = 3 - k ∧ i = .int .i64 k ∧ s = .int .i64 (if k = 0 then 0 else if k = 1 then n else if k = 2 then (n : Int) + m else (n : Int) + m + q) ∧ w = wr)
  case atStart => exact ⟨0, by omega, rfl, rfl, rfl, rfl⟩
  case round =>
    obtain ⟨k, hk, hg, rfl, rfl, rfl⟩ := hrel
    have Hg := Lib.hid hg
    clear hg
    have h3 : k = 0 ∨ k = 1 ∨ k = 2 ∨ k = 3 := by omega
    rcases h3 with rfl | rfl | rfl | rfl
    · simp only [if_true]
      go_wp2_with fail
      go_roundg 2
      case measure => have := Hg.out; omega
      case rel => exact ⟨1, by omega, rfl, rfl, rfl, rfl⟩
    · rw [if_neg (by decide), if_pos rfl]
      go_wp2_with fail
      go_roundg 1
      case measure => have := Hg.out; omega
      case rel => exact ⟨2, by omega, rfl, rfl, rfl, rfl⟩
    · rw [if_neg (by decide), if_neg (by decide), if_pos rfl]
      go_wp2_with fail
      go_roundg 0
      case measure => have := Hg.out; omega
      case rel => exact ⟨3, by omega, rfl, rfl, rfl, rfl⟩
    · rw [if_neg (by decide), if_neg (by decide), if_neg (by decide)]
      have CG0 := growNil_any (n + m + q) w (by omega)
      simp only [Int.natCast_add] at CG0
      have CG := Lib.hid CG0
      clear CG0
      go_wp2_with fail
      refine CG.out.mono ?_
      rintro e w2 ⟨v0, rfl, own2, hb2⟩
      obtain ⟨A5, c5, rfl, hc5⟩ := own_shape own2
      have f0 : w2.cell? ⟨g, 0, none⟩ = some (.slice A n c) := (hb2.cell (p := ⟨g, 0, none⟩) HG.out.lt).trans e0
      have f1 : w2.cell? ⟨g, 1, none⟩ = some (.slice A' m c') := (hb2.cell (p := ⟨g, 1, none⟩) HG.out.lt).trans e1
      have f2 : w2.cell? ⟨g, 2, none⟩ = some (.slice A'' q c'') := (hb2.cell (p := ⟨g, 2, none⟩) HG.out.lt).trans e2
      have HO2 := Lib.hid own2
      have hs2 := hb2.size
      clear own2 CG
      go_wp2_with fail
      go_loopg [6, 27] 3 (fun gh s i wx => ∃ k : Nat, k ≤ 3 ∧ gh = 3 - k ∧ i = .int .i64 k ∧ ((k = 0 ∧ wx.ownsRow w.heap.size 48 4 s 0 []) ∨ (k = 1 ∧ wx.ownsRow w.heap.size 48 4 s n (gcells gs)) ∨ (k = 2 ∧ wx.ownsRow w.heap.size 48 4 s (n + m) (gcells (gs ++ hs))) ∨ (k = 3 ∧ wx.ownsRow w.heap.size 48 4 s (n + m + q) (gcells (gs ++ hs ++ fs)))) ∧ Below w.heap.size w wx)
      case atStart => exact ⟨0, by omega, rfl, rfl, .inl ⟨rfl, HO2.out⟩, hb2⟩
      case round =>
        obtain ⟨k, hk, hg, rfl, hor, hbx⟩ := hrel
        have Hg := Lib.hid hg
        have hsx := hbx.size
        have y0 : wr.cell? ⟨g, 0, none⟩ = some (.slice A n c) := (hbx.cell (p := ⟨g, 0, none⟩) HG.out.lt).trans e0
        have y1 : wr.cell? ⟨g, 1, none⟩ = some (.slice A' m c') := (hbx.cell (p := ⟨g, 1, none⟩) HG.out.lt).trans e1
        have y2 : wr.cell? ⟨g, 2, none⟩ = some (.slice A'' q c'') := (hbx.cell (p := ⟨g, 2, none⟩) HG.out.lt).trans e2
        clear hg f0 f1 f2 e0 e1 e2
        rcases hor with ⟨rfl, hown⟩ | ⟨rfl, hown⟩ | ⟨rfl, hown⟩ | ⟨rfl, hown⟩
        · obtain ⟨A6, c6, rfl, hc6⟩ := own_shape hown
          have rd := H1.out.below (hbx.mono hB)
          have hone := gcells_ok gs
          have hlw := hown.lt
          go_wp2_with (at_builtin; (refine wpList_append_any _ rfl _ _ 26 rfl w.heap.size 48 ig (.agg #[.int .i64 0, .int .i64 0, .int .i64 0, .int .i64 0]) 4 32 Try.underlying26 gi gz0 gz1 gz2 rfl (by decide) (.slice A6 0 c6) 0 [] rfl hown _ A n c (gcells gs) rfl rd hone (by unfold maxLen; omega) (by omega) (by omega) ?_; intro v' w6 hown' hgrow _))
          have hb6 := hbx.grown hgrow hsx (fun q e => (hlw q e).1)
          rw [Nat.zero_add, List.nil_append] at hown'
          clear hgrow hlw
          go_roundg 2
          case measure => have := Hg.out; omega
          case rel => exact ⟨1, by omega, rfl, rfl, .inr (.inl ⟨rfl, hown'⟩), hb6⟩
        · obtain ⟨A6, c6, rfl, hc6⟩ := own_shape hown
          have rd := H2.out.below (hbx.mono hB')
          have hone := gcells_ok hs
          have hlw := hown.lt
          go_wp2_with (at_builtin; (refine wpList_append_any _ rfl _ _ 26 rfl w.heap.size 48 ig (.agg #[.int .i64 0, .int .i64 0, .int .i64 0, .int .i64 0]) 4 32 Try.underlying26 gi gz0 gz1 gz2 rfl (by decide) (.slice A6 n c6) n (gcells gs) rfl hown _ A' m c' (gcells hs) rfl rd hone (by unfold maxLen; omega) (by omega) (by omega) ?_; intro v' w6 hown' hgrow _))
          have hb6 := hbx.grown hgrow hsx (fun q e => (hlw q e).1)
          rw [← HC.out] at hown'
          clear hgrow hlw
          go_roundg 1
          case measure => have := Hg.out; omega
          case rel => exact ⟨2, by omega, rfl, rfl, .inr (.inr (.inl ⟨rfl, hown'⟩)), hb6⟩
        · obtain ⟨A6, c6, rfl, hc6⟩ := own_shape hown
          have rd := H3.out.below (hbx.mono hB'')
          have hone := gcells_ok fs
          have hlw := hown.lt
          go_wp2_with (at_builtin; (refine wpList_append_any _ rfl _ _ 26 rfl w.heap.size 48 ig (.agg #[.int .i64 0, .int .i64 0, .int .i64 0, .int .i64 0]) 4 32 Try.underlying26 gi gz0 gz1 gz2 rfl (by decide) (.slice A6 (n + m) c6) (n + m) (gcells (gs ++ hs)) rfl hown _ A'' q c'' (gcells fs) rfl rd hone (by unfold maxLen; omega) (by omega) (by omega) ?_; intro v' w6 hown' hgrow _))
          have hb6 := hbx.grown hgrow hsx (fun q e => (hlw q e).1)
          rw [← HC2.out] at hown'
          clear hgrow hlw
          go_roundg 0
          case measure => have := Hg.out; omega
          case rel => exact ⟨3, by omega, rfl, rfl, .inr (.inr (.inr ⟨rfl, hown'⟩)), hb6⟩
        · obtain ⟨A6, c6, rfl, hc6⟩ := own_shape hown
          have HO := Lib.hid hown
          clear hown
          go_wp2_with fail
          go_ret
          exact ⟨_, rfl, HO.out, hbx⟩
end Go.Proofs.Ytpahhgehamgkaaa
