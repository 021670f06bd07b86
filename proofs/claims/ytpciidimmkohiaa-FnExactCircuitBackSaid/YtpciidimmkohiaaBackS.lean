/- Contracts of both CircuitBack. -/
import Derived.Test.YtpciidimmkohiaaBack
namespace Go.Proofs.Ytpciidimmkohiaa
open Go.RowKit
set_option linter.unusedVariables false

/-- what CircuitBack answers -/
def circBack (l : Int) (gs : List Gt) : List Gt := if circB l gs = true then gs.reverse else []
theorem circBack_bd (l : Int) (gs : List Gt) (h : gs.length ≤ 1048576) : (circBack l gs).length ≤ 1048576 := by
  unfold circBack
  split
  · simpa using h
  · simp
theorem rev_take (gs : List Gt) {q j : Nat} (h : j + q + 1 = gs.length) : gs.reverse.take (q + 1) = gs.reverse.take q ++ [gs.getD j g0] := by
  have hq : q < gs.reverse.length := by simp; omega
  rw [List.take_succ_eq_append_getElem hq]
  congr 2
  rw [List.getElem_reverse, List.getD_eq_getElem?_getD, List.getElem?_eq_getElem (by omega)]
  simp
  congr 1
  omega

theorem implCircuitBack_any (l : Int) (A : Option Addr) (n c B : Nat) (gs : List Gt) (w : World) (h : Reads w B 4 A n (gcells gs)) (hB : B ≤ w.heap.size) (hz : gs.length = n) (hc : n ≤ c) (hn : n ≤ 1048576) :
    Calls Try.prog 35 #[.int .i64 l, .slice A n c] w fun e w' => RetG (circBack l gs) w e w' := by
  have HV := Lib.hid (implCircuitValid_any l A n c B gs w h hB hz hc hn)
  have HR := Lib.hid (fun W (hw : Below w.heap.size w W) => backwards_any A n c B gs W (h.below (hw.mono hB)) (Nat.le_trans hB hw.size) hz hn)
  clear h hz
  cases hv : circB l gs with
  | false =>
    have Hr : Hid (circBack l gs = []) := Lib.hid (by unfold circBack; rw [hv]; rfl)
    rw [hv] at HV
    clear hv
    go_enter Try.func35, Try.ntmps35
    go_wp2_with fail
    refine HV.out.mono ?_
    rintro e w1 ⟨rfl, hb1⟩
    go_wp2_with fail
    go_ret
    exact retG_nil Hr.out hb1 rfl
  | true =>
    have Hr : Hid (circBack l gs = gs.reverse) := Lib.hid (by unfold circBack; rw [hv]; rfl)
    rw [hv] at HV
    clear hv
    go_enter Try.func35, Try.ntmps35
    go_wp2_with fail
    refine HV.out.mono ?_
    rintro e w1 ⟨rfl, hb1⟩
    go_wp2_with fail
    refine (HR.out w1 hb1).mono ?_
    rintro e w2 ⟨A2, c2, rfl, hc2, ho2, hb2⟩
    go_wp2_with fail
    go_ret
    rw [Hr.out]
    exact ⟨A2, c2, by rw [List.length_reverse]; rfl, hc2, ho2.mono hb1.size, bnext hb1 hb2 (Nat.le_refl _)⟩

set_option maxHeartbeats 2000000 in
theorem specCircuitBack_any (l : Int) (A : Option Addr) (n c B : Nat) (gs : List Gt) (w : World) (h : Reads w B 4 A n (gcells gs)) (hB : B ≤ w.heap.size) (hz : gs.length = n) (hc : n ≤ c) (hn : n ≤ 1048576) :
    Calls Try.prog 34 #[.int .i64 l, .slice A n c] w fun e w' => RetG (circBack l gs) w e w' := by
  have HV := Lib.hid (fun W (hw : Below w.heap.size w W) => specCircuitValid_any l A n c B gs W (h.below (hw.mono hB)) (Nat.le_trans hB hw.size) hz hc hn)
  have HR := Lib.hid h
  have HZ := Lib.hid hz
  clear h hz
  obtain ⟨ig, gi, gz0, gz1, gz2⟩ := info_parts infoGate
  have own0 := World.ownsRow_made (base := w.heap.size) (e := 31) (size := 4) w #[] 0 (Nat.le_refl _) (by simp [maxLen]) rfl
  have HO0 := Lib.hid own0
  clear own0
  cases hv : circB l gs with
  | false =>
    have Hr : Hid (circBack l gs = []) := Lib.hid (by unfold circBack; rw [hv]; rfl)
    rw [hv] at HV
    clear hv
    go_enter Try.func34, Try.ntmps34
    go_wp2_with fail
    go_loopg [5, 6] 0 (fun gh v i wr => gh = 0 ∧ i = .int .i64 ((n : Int) - 1) ∧ v = .slice (some ⟨w.heap.size, 0, none⟩) 0 0 ∧ Below w.heap.size w wr)
    case atStart => exact ⟨rfl, rfl, rfl, (Below.refl _ _).alloc (Nat.le_refl _) _⟩
    case round =>
      obtain ⟨hg, rfl, rfl, hb⟩ := hrel
      clear hg
      by_cases h0 : n = 0
      · subst h0
        go_wp2_with fail
        go_ret
        exact retG_nil Hr.out hb rfl
      · have h0' : (0 : Int) ≤ (n : Int) - 1 := by omega
        have h1 : 1 ≤ (n : Int) := by omega
        clear h0
        go_wp2_with fail
        refine (HV.out _ hb).mono ?_
        rintro e w1 ⟨rfl, hb1⟩
        go_wp2_with fail
        go_ret
        exact retG_nil Hr.out (bnext hb hb1 (Nat.le_refl _)) rfl
  | true =>
    have Hr : Hid (circBack l gs = gs.reverse) := Lib.hid (by unfold circBack; rw [hv]; rfl)
    rw [hv] at HV
    clear hv
    go_enter Try.func34, Try.ntmps34
    go_wp2_with fail
    go_loopg [5, 6] n (fun gh v i wr => ∃ q : Nat, q ≤ n ∧ gh = n - q ∧ i = .int .i64 ((n : Int) - 1 - q) ∧ wr.ownsRow w.heap.size 31 4 v q (gcells (gs.reverse.take q)) ∧ Below w.heap.size w wr)
    case atStart => exact ⟨0, Nat.zero_le _, rfl, by simp, HO0.out, (Below.refl _ _).alloc (Nat.le_refl _) _⟩
    case round =>
      obtain ⟨q, hq, hg, rfl, hown, hb⟩ := hrel
      have Hg := Lib.hid hg
      have hs := hb.size
      have hlw := hown.lt
      obtain ⟨A5, c5, rfl, hc5⟩ := own_shape hown
      have Hown := Lib.hid hown
      clear hg hown
      by_cases hlt : q < n
      · obtain ⟨j, hj⟩ : ∃ j : Nat, j + q + 1 = n := ⟨n - 1 - q, by omega⟩
        have e : (n : Int) - 1 - q = (j : Int) := by omega
        have e2 : (n : Int) - 1 - ((q + 1 : Nat) : Int) = (j : Int) - 1 := by omega
        obtain ⟨b, o, rfl, hbB, hcell⟩ := HR.out.openG HZ.out (by omega)
        have hrt := rev_take gs (q := q) (j := j) (by rw [HZ.out]; omega)
        obtain ⟨g, eg⟩ : ∃ g, g = gs.getD j g0 := ⟨_, rfl⟩
        have hgat := (hcell j (by omega))
        rw [← eg] at hgat hrt
        obtain ⟨x0, x1, x2, x3⟩ := g
        have Hsn : Hid (gcells (gs.reverse.take (q + 1)) = gcells (gs.reverse.take q) ++ [.int .i64 x0, .int .i64 x1, .int .i64 x2, .int .i64 x3]) := Lib.hid (by rw [hrt, gcells_app, gcells_one]; rfl)
        have HG := Lib.hid hgat
        rw [e]
        have E2 := Lib.hid e2
        have hjl : (j : Int) < (n : Int) := by omega
        have hj0 : (0 : Int) ≤ (j : Int) := by omega
        clear hcell eg hrt hgat e e2 hj
        have C1 := Lib.hid (HV.out wr hb)
        go_wp2_with fail
        refine C1.out.mono ?_
        rintro e w1 ⟨rfl, hb1⟩
        have hb' := bnext hb hb1 (Nat.le_refl _)
        obtain ⟨q0, q1, q2, q3⟩ := HG.out.below hb' (by omega)
        simp only at q0 q1 q2 q3
        have own1 := own_next Hown.out hb1
        have hlw1 := own1.lt
        have hs1 := hb'.size
        go_wp2_with (at_builtin; refine wpList_append_own _ rfl _ _ 22 rfl w.heap.size 31 ig (.agg #[.int .i64 0, .int .i64 0, .int .i64 0, .int .i64 0]) 4 32 Try.underlying22 gi gz0 gz1 gz2 rfl (by decide) _ _ _ rfl (own1.alloc _) ⟨w1.heap.size, 0, none⟩ 1 1 [.int .i64 x0, .int .i64 x1, .int .i64 x2, .int .i64 x3] rfl rfl (cells_newAt _ _ _ (by first | rfl | simp | simp [World.setCell])) (by simp [Value.oneCell']) (by unfold maxLen; omega) (by omega) (by simp; omega) ?_; intro v' w3 hown' hgrow _)
        have hb3 := (hb'.alloc hs1 (Obj.cells #[.int .i64 x0, .int .i64 x1, .int .i64 x2, .int .i64 x3] 31)).grown hgrow (by simp; omega) (fun q e => (hlw1 q e).1)
        clear hlw hlw1 hgrow
        go_wp2_with fail
        go_roundg (n - (q + 1))
        case measure => have := Hg.out; omega
        case rel => exact ⟨q + 1, by omega, rfl, by rw [E2.out], by rw [Hsn.out]; exact hown', hb3⟩
      · obtain rfl : q = n := by omega
        have e : (q : Int) - 1 - q = -1 := by omega
        have hown := Hown.out
        rw [List.take_of_length_le (by rw [List.length_reverse, HZ.out]; exact Nat.le_refl _)] at hown
        rw [e]
        clear e
        go_wp2_with fail
        go_ret
        rw [Hr.out]
        exact retG_acc hown hb rfl
end Go.Proofs.Ytpciidimmkohiaa
