/- Contract of impl.SplitSwaps. -/
import Derived.Test.YtpciidimmkohiaaSplM
namespace Go.Proofs.Ytpciidimmkohiaa
open Go.RowKit
set_option linter.unusedVariables false

set_option maxHeartbeats 8000000 in
set_option maxRecDepth 100000 in
theorem implSplitSwaps_any (l : Int) (A : Option Addr) (n c B : Nat) (gs : List Gt) (w : World) (h : Reads w B 4 A n (gcells gs)) (hB : B ≤ w.heap.size) (hz : gs.length = n) (hc : n ≤ c) (hn : n ≤ 1048576) :
    Calls Try.prog 39 #[.int .i64 l, .slice A n c] w fun e w' => RetGB (splR l gs) (splB l gs) w e w' := by
  have HT := Lib.hid (implCircuitValid_any l A n c B gs w h hB hz hc hn)
  cases hv : circB l gs with
  | false =>
    have Hb : Hid (splB l gs = false) := Lib.hid (by unfold splB; rw [hv]; rfl)
    have Hr := Lib.hid (splR_n Hb.out)
    rw [hv] at HT
    clear hv h hz
    go_enter Try.func39, Try.ntmps39
    go_wp2_with fail
    refine HT.out.mono ?_
    rintro e w1 ⟨rfl, hb1⟩
    go_wp2_with fail
    go_ret2
    rw [Hb.out]
    exact retGB_nil Hr.out hb1 rfl
  | true =>
    rw [hv] at HT
    have HR := Lib.hid h
    have HZ := Lib.hid hz
    have HV := Lib.hid hv
    have HL := Lib.hid (fun k (hk : k ≤ gs.length) => spl_len gs k hk)
    have h24 : n ≤ 24 := by have := (circB_t hv).2.2; omega
    obtain ⟨ig, gi, gz0, gz1, gz2⟩ := info_parts infoGate
    clear h hz hv
    go_enter Try.func39, Try.ntmps39
    go_wp2_with fail
    refine HT.out.mono ?_
    rintro e w1 ⟨rfl, W1⟩
    have hsw := W1.size
    clear HT
    go_wp2_with fail
    go_loopg [6, 19] n (fun gh v i wr => ∃ k : Nat, k ≤ n ∧ gh = n - k ∧ i = .int .i64 k ∧ wr.ownsRow w.heap.size 31 4 v (splL (gs.take k)).length (gcells (splL (gs.take k))) ∧ v ≠ .slice none 0 0 ∧ Below w.heap.size w wr)
    case atStart => exact ⟨0, Nat.zero_le _, rfl, rfl, by simpa [splL, gcells] using World.ownsRow_made (base := w.heap.size) (e := 31) (size := 4) w1 #[] 0 hsw (by simp [maxLen]) rfl, by simp, W1.alloc hsw _⟩
    case round =>
      obtain ⟨k, hk, hg, rfl, hown, hvn, hb⟩ := hrel
      have Hg := Lib.hid hg
      have hsz := hb.size
      obtain ⟨gq, c5, rfl, _, _, hc5, hcm⟩ := own_form hown hvn
      have Hown := Lib.hid hown
      have hll := HL.out k (by have := HZ.out; omega)
      unfold maxLen at hcm
      clear hg hown hvn
      by_cases hlt : k < n
      · have hlt' : (k : Int) < (n : Int) := by omega
        obtain ⟨b, o, rfl, hbB, hcell⟩ := HR.out.openG HZ.out (by omega)
        obtain ⟨g, eg⟩ : ∃ g, g = gs.getD k g0 := ⟨_, rfl⟩
        have hgat := (hcell k hlt).below hb (by omega)
        have hsn := spl_snoc gs (k := k) (by have := HZ.out; omega)
        rw [← eg] at hgat hsn
        obtain ⟨x0, x1, x2, x3⟩ := g
        obtain ⟨q0, q1, q2, q3⟩ := hgat
        simp only at q0 q1 q2 q3
        have hbw : b < wr.heap.size := by omega
        have W2 := hb.alloc hsz (Obj.cells #[.int .i64 x0, .int .i64 x1, .int .i64 x2, .int .i64 x3] 31)
        have Own2 := Lib.hid (Hown.out.alloc (Obj.cells #[.int .i64 x0, .int .i64 x1, .int .i64 x2, .int .i64 x3] 31))
        obtain ⟨L, eL⟩ : ∃ L, L = (splL (gs.take k)).length := ⟨_, rfl⟩
        rw [← eL] at hll hc5 Own2 ⊢
        have EL := Lib.hid eL
        have hlw := Own2.out.lt
        clear hcell eg eL
        by_cases h3 : x0 = 3
        · subst h3
          have Hsn : Hid (gcells (splL (gs.take (k + 1))) = gcells (splL (gs.take k)) ++ [.int .i64 1, .int .i64 x1, .int .i64 x2, .int .i64 0, .int .i64 1, .int .i64 x2, .int .i64 x1, .int .i64 0, .int .i64 1, .int .i64 x1, .int .i64 x2, .int .i64 0]) := Lib.hid (by rw [hsn, gcells_app]; rfl)
          have Hln : Hid ((splL (gs.take (k + 1))).length = L + 3) := Lib.hid (by rw [hsn, List.length_append, EL.out]; rfl)
          clear hsn
          go_wp2_with fail
          go_region
          · have W4 := ((W2.alloc W2.size (Obj.cells #[.int .i64 1, .int .i64 x1, .int .i64 x2, .int .i64 0] 31)).alloc (W2.alloc W2.size (Obj.cells #[.int .i64 1, .int .i64 x1, .int .i64 x2, .int .i64 0] 31)).size (Obj.cells #[.int .i64 1, .int .i64 x2, .int .i64 x1, .int .i64 0] 31)).drew
            have own4 := ((Own2.out.alloc (Obj.cells #[.int .i64 1, .int .i64 x1, .int .i64 x2, .int .i64 0] 31)).alloc (Obj.cells #[.int .i64 1, .int .i64 x2, .int .i64 x1, .int .i64 0] 31)).drew
            have Ba := ((Blk.new (wr.alloc (Obj.cells #[.int .i64 3, .int .i64 x1, .int .i64 x2, .int .i64 x3] 31)) 31 #[.int .i64 1, .int .i64 x1, .int .i64 x2, .int .i64 0]).alloc (Obj.cells #[.int .i64 1, .int .i64 x2, .int .i64 x1, .int .i64 0] 31)).drew
            have Bb := (Blk.new ((wr.alloc (Obj.cells #[.int .i64 3, .int .i64 x1, .int .i64 x2, .int .i64 x3] 31)).alloc (Obj.cells #[.int .i64 1, .int .i64 x1, .int .i64 x2, .int .i64 0] 31)) 31 #[.int .i64 1, .int .i64 x2, .int .i64 x1, .int .i64 0]).drew
            simp only [World.size_alloc] at Ba Bb
            generalize (((wr.alloc (Obj.cells #[.int .i64 3, .int .i64 x1, .int .i64 x2, .int .i64 x3] 31)).alloc (Obj.cells #[.int .i64 1, .int .i64 x1, .int .i64 x2, .int .i64 0] 31)).alloc (Obj.cells #[.int .i64 1, .int .i64 x2, .int .i64 x1, .int .i64 0] 31)).drew = w4 at W4 own4 Ba Bb ⊢
            have Own4 := Lib.hid own4
            have hw4 := W4.size
            have hlw4 := own4.lt
            have ba0 : w4.cell? ⟨wr.heap.size + 1, 0, none⟩ = some (.int .i64 1) := Ba.cell 0
            have ba1 : w4.cell? ⟨wr.heap.size + 1, 1, none⟩ = some (.int .i64 x1) := Ba.cell 1
            have ba2 : w4.cell? ⟨wr.heap.size + 1, 2, none⟩ = some (.int .i64 x2) := Ba.cell 2
            have ba3 : w4.cell? ⟨wr.heap.size + 1, 3, none⟩ = some (.int .i64 0) := Ba.cell 3
            have bb0 : w4.cell? ⟨wr.heap.size + 1 + 1, 0, none⟩ = some (.int .i64 1) := Bb.cell 0
            have bb1 : w4.cell? ⟨wr.heap.size + 1 + 1, 1, none⟩ = some (.int .i64 x2) := Bb.cell 1
            have bb2 : w4.cell? ⟨wr.heap.size + 1 + 1, 2, none⟩ = some (.int .i64 x1) := Bb.cell 2
            have bb3 : w4.cell? ⟨wr.heap.size + 1 + 1, 3, none⟩ = some (.int .i64 0) := Bb.cell 3
            clear own4 hlw
            go_wp2_with (at_builtin; refine wpList_append_own _ rfl _ _ 22 rfl w.heap.size 31 ig (.agg #[.int .i64 0, .int .i64 0, .int .i64 0, .int .i64 0]) 4 32 Try.underlying22 gi gz0 gz1 gz2 rfl (by decide) _ _ _ rfl (Own4.out.alloc _) ⟨w4.heap.size, 0, none⟩ 3 3 [.int .i64 1, .int .i64 x1, .int .i64 x2, .int .i64 0, .int .i64 1, .int .i64 x2, .int .i64 x1, .int .i64 0, .int .i64 1, .int .i64 x1, .int .i64 x2, .int .i64 0] rfl rfl (cells_newAt _ _ _ (by first | rfl | simp | simp [World.setCell])) (by simp [Value.oneCell']) (by unfold maxLen; omega) (by omega) (by simp; omega) ?_; intro v' w6 hown' hgrow hnil)
            have hb' := (W4.alloc hw4 (Obj.cells #[.int .i64 1, .int .i64 x1, .int .i64 x2, .int .i64 0, .int .i64 1, .int .i64 x2, .int .i64 x1, .int .i64 0, .int .i64 1, .int .i64 x1, .int .i64 x2, .int .i64 0] 31)).grown hgrow (by simp; omega) (fun q e => (hlw4 q e).1)
            have Hnil : Hid (v' ≠ .slice none 0 0) := Lib.hid (fun e => by have := (hnil.1 e).2; omega)
            clear hlw4 hgrow hnil
            go_wp2_with fail
            go_roundg (n - (k + 1))
            case measure => have := Hg.out; omega
            case rel => exact ⟨k + 1, by omega, rfl, by go_num, by rw [Hsn.out, Hln.out]; exact hown', Hnil.out, hb'⟩
          · have W4 := ((W2.alloc W2.size (Obj.cells #[.int .i64 1, .int .i64 x2, .int .i64 x1, .int .i64 0] 31)).alloc (W2.alloc W2.size (Obj.cells #[.int .i64 1, .int .i64 x2, .int .i64 x1, .int .i64 0] 31)).size (Obj.cells #[.int .i64 1, .int .i64 x1, .int .i64 x2, .int .i64 0] 31)).drew
            have own4 := ((Own2.out.alloc (Obj.cells #[.int .i64 1, .int .i64 x2, .int .i64 x1, .int .i64 0] 31)).alloc (Obj.cells #[.int .i64 1, .int .i64 x1, .int .i64 x2, .int .i64 0] 31)).drew
            have Ba := ((Blk.new (wr.alloc (Obj.cells #[.int .i64 3, .int .i64 x1, .int .i64 x2, .int .i64 x3] 31)) 31 #[.int .i64 1, .int .i64 x2, .int .i64 x1, .int .i64 0]).alloc (Obj.cells #[.int .i64 1, .int .i64 x1, .int .i64 x2, .int .i64 0] 31)).drew
            have Bb := (Blk.new ((wr.alloc (Obj.cells #[.int .i64 3, .int .i64 x1, .int .i64 x2, .int .i64 x3] 31)).alloc (Obj.cells #[.int .i64 1, .int .i64 x2, .int .i64 x1, .int .i64 0] 31)) 31 #[.int .i64 1, .int .i64 x1, .int .i64 x2, .int .i64 0]).drew
            simp only [World.size_alloc] at Ba Bb
            generalize (((wr.alloc (Obj.cells #[.int .i64 3, .int .i64 x1, .int .i64 x2, .int .i64 x3] 31)).alloc (Obj.cells #[.int .i64 1, .int .i64 x2, .int .i64 x1, .int .i64 0] 31)).alloc (Obj.cells #[.int .i64 1, .int .i64 x1, .int .i64 x2, .int .i64 0] 31)).drew = w4 at W4 own4 Ba Bb ⊢
            have Own4 := Lib.hid own4
            have hw4 := W4.size
            have hlw4 := own4.lt
            have ba0 : w4.cell? ⟨wr.heap.size + 1, 0, none⟩ = some (.int .i64 1) := Ba.cell 0
            have ba1 : w4.cell? ⟨wr.heap.size + 1, 1, none⟩ = some (.int .i64 x2) := Ba.cell 1
            have ba2 : w4.cell? ⟨wr.heap.size + 1, 2, none⟩ = some (.int .i64 x1) := Ba.cell 2
            have ba3 : w4.cell? ⟨wr.heap.size + 1, 3, none⟩ = some (.int .i64 0) := Ba.cell 3
            have bb0 : w4.cell? ⟨wr.heap.size + 1 + 1, 0, none⟩ = some (.int .i64 1) := Bb.cell 0
            have bb1 : w4.cell? ⟨wr.heap.size + 1 + 1, 1, none⟩ = some (.int .i64 x1) := Bb.cell 1
            have bb2 : w4.cell? ⟨wr.heap.size + 1 + 1, 2, none⟩ = some (.int .i64 x2) := Bb.cell 2
            have bb3 : w4.cell? ⟨wr.heap.size + 1 + 1, 3, none⟩ = some (.int .i64 0) := Bb.cell 3
            clear own4 hlw
            go_wp2_with (at_builtin; refine wpList_append_own _ rfl _ _ 22 rfl w.heap.size 31 ig (.agg #[.int .i64 0, .int .i64 0, .int .i64 0, .int .i64 0]) 4 32 Try.underlying22 gi gz0 gz1 gz2 rfl (by decide) _ _ _ rfl (Own4.out.alloc _) ⟨w4.heap.size, 0, none⟩ 3 3 [.int .i64 1, .int .i64 x1, .int .i64 x2, .int .i64 0, .int .i64 1, .int .i64 x2, .int .i64 x1, .int .i64 0, .int .i64 1, .int .i64 x1, .int .i64 x2, .int .i64 0] rfl rfl (cells_newAt _ _ _ (by first | rfl | simp | simp [World.setCell])) (by simp [Value.oneCell']) (by unfold maxLen; omega) (by omega) (by simp; omega) ?_; intro v' w6 hown' hgrow hnil)
            have hb' := (W4.alloc hw4 (Obj.cells #[.int .i64 1, .int .i64 x1, .int .i64 x2, .int .i64 0, .int .i64 1, .int .i64 x2, .int .i64 x1, .int .i64 0, .int .i64 1, .int .i64 x1, .int .i64 x2, .int .i64 0] 31)).grown hgrow (by simp; omega) (fun q e => (hlw4 q e).1)
            have Hnil : Hid (v' ≠ .slice none 0 0) := Lib.hid (fun e => by have := (hnil.1 e).2; omega)
            clear hlw4 hgrow hnil
            go_wp2_with fail
            go_roundg (n - (k + 1))
            case measure => have := Hg.out; omega
            case rel => exact ⟨k + 1, by omega, rfl, by go_num, by rw [Hsn.out, Hln.out]; exact hown', Hnil.out, hb'⟩
        · by_cases h4 : x0 = 4
          · subst h4
            have Hsn : Hid (gcells (splL (gs.take (k + 1))) = gcells (splL (gs.take k)) ++ [.int .i64 1, .int .i64 x3, .int .i64 x2, .int .i64 0, .int .i64 2, .int .i64 x1, .int .i64 x2, .int .i64 x3, .int .i64 1, .int .i64 x3, .int .i64 x2, .int .i64 0]) := Lib.hid (by rw [hsn, gcells_app]; rfl)
            have Hln : Hid ((splL (gs.take (k + 1))).length = L + 3) := Lib.hid (by rw [hsn, List.length_append, EL.out]; rfl)
            have W3 := W2.alloc W2.size (Obj.cells #[.int .i64 1, .int .i64 x3, .int .i64 x2, .int .i64 0] 31)
            have Own3 := Lib.hid (Own2.out.alloc (Obj.cells #[.int .i64 1, .int .i64 x3, .int .i64 x2, .int .i64 0] 31))
            clear hsn h3
            go_wp2_with (at_builtin; refine wpList_append_own _ rfl _ _ 22 rfl w.heap.size 31 ig (.agg #[.int .i64 0, .int .i64 0, .int .i64 0, .int .i64 0]) 4 32 Try.underlying22 gi gz0 gz1 gz2 rfl (by decide) _ _ _ rfl (Own3.out.alloc _) ⟨(wr.heap.size + 1 + 1), 0, none⟩ 3 3 [.int .i64 1, .int .i64 x3, .int .i64 x2, .int .i64 0, .int .i64 2, .int .i64 x1, .int .i64 x2, .int .i64 x3, .int .i64 1, .int .i64 x3, .int .i64 x2, .int .i64 0] rfl rfl (cells_newAt _ _ _ (by first | rfl | simp | simp [World.setCell])) (by simp [Value.oneCell']) (by unfold maxLen; omega) (by omega) (by simp; omega) ?_; intro v' w6 hown' hgrow hnil)
            have hb' := (W3.alloc W3.size (Obj.cells #[.int .i64 1, .int .i64 x3, .int .i64 x2, .int .i64 0, .int .i64 2, .int .i64 x1, .int .i64 x2, .int .i64 x3, .int .i64 1, .int .i64 x3, .int .i64 x2, .int .i64 0] 31)).grown hgrow (by simp; omega) (fun q e => (hlw q e).1)
            have Hnil : Hid (v' ≠ .slice none 0 0) := Lib.hid (fun e => by have := (hnil.1 e).2; omega)
            clear hlw hgrow hnil
            go_wp2_with fail
            go_roundg (n - (k + 1))
            case measure => have := Hg.out; omega
            case rel => exact ⟨k + 1, by omega, rfl, by go_num, by rw [Hsn.out, Hln.out]; exact hown', Hnil.out, hb'⟩
          · have e3 : (x0 == 3) = false := by simp [h3]
            have e4 : (x0 == 4) = false := by simp [h4]
            have hsp : splG ⟨x0, x1, x2, x3⟩ = [⟨x0, x1, x2, x3⟩] := by simp only [splG]; rw [if_neg h3, if_neg h4]
            have Hsn : Hid (gcells (splL (gs.take (k + 1))) = gcells (splL (gs.take k)) ++ [.int .i64 x0, .int .i64 x1, .int .i64 x2, .int .i64 x3]) := Lib.hid (by rw [hsn, gcells_app, hsp]; rfl)
            have Hln : Hid ((splL (gs.take (k + 1))).length = L + 1) := Lib.hid (by rw [hsn, List.length_append, EL.out, hsp]; rfl)
            clear hsn h3 h4 hsp
            go_wp2_with (at_builtin; refine wpList_append_own _ rfl _ _ 22 rfl w.heap.size 31 ig (.agg #[.int .i64 0, .int .i64 0, .int .i64 0, .int .i64 0]) 4 32 Try.underlying22 gi gz0 gz1 gz2 rfl (by decide) _ _ _ rfl (Own2.out.alloc _) ⟨(wr.heap.size + 1), 0, none⟩ 1 1 [.int .i64 x0, .int .i64 x1, .int .i64 x2, .int .i64 x3] rfl rfl (cells_newAt _ _ _ (by first | rfl | simp | simp [World.setCell])) (by simp [Value.oneCell']) (by unfold maxLen; omega) (by omega) (by simp; omega) ?_; intro v' w6 hown' hgrow hnil)
            have hb' := (W2.alloc W2.size (Obj.cells #[.int .i64 x0, .int .i64 x1, .int .i64 x2, .int .i64 x3] 31)).grown hgrow (by simp; omega) (fun q e => (hlw q e).1)
            have Hnil : Hid (v' ≠ .slice none 0 0) := Lib.hid (fun e => by have := (hnil.1 e).2; omega)
            clear hlw hgrow hnil
            go_wp2_with fail
            go_roundg (n - (k + 1))
            case measure => have := Hg.out; omega
            case rel => exact ⟨k + 1, by omega, rfl, by go_num, by rw [Hsn.out, Hln.out]; exact hown', Hnil.out, hb'⟩
      · have hlt' : ¬ (k : Int) < (n : Int) := by omega
        obtain rfl : k = n := by omega
        have hown := Hown.out
        rw [List.take_of_length_le (by rw [HZ.out]; exact Nat.le_refl _)] at hown hc5 hll ⊢
        have Hown2 := Lib.hid hown
        obtain ⟨L, eL⟩ : ∃ L, L = (splL gs).length := ⟨_, rfl⟩
        rw [← eL] at hc5 hll Hown2 ⊢
        have EL := Lib.hid eL
        clear hown eL
        by_cases h24 : L ≤ 24
        · have h24' : ¬ (24 : Int) < (L : Int) := by omega
          have Hb : Hid (splB l gs = true) := Lib.hid (by unfold splB; rw [HV.out, ← EL.out, decide_eq_true h24]; rfl)
          have Hr := Lib.hid (splR_y Hb.out)
          go_wp2_with (go_at_call 62; refine (clipG_any _ _ _ _ _ hc5 hcm).mono ?_; rintro e w' ⟨rfl, rfl⟩)
          go_ret2
          rw [Hb.out, Hr.out]
          exact retGB_acc Hown2.out (Nat.le_refl _) hb rfl
        · have h24' : (24 : Int) < (L : Int) := by omega
          have Hb : Hid (splB l gs = false) := Lib.hid (by unfold splB; rw [HV.out, ← EL.out, decide_eq_false h24]; rfl)
          have Hr := Lib.hid (splR_n Hb.out)
          go_wp2_with fail
          go_ret2
          rw [Hb.out]
          exact retGB_nil Hr.out hb rfl
end Go.Proofs.Ytpciidimmkohiaa
