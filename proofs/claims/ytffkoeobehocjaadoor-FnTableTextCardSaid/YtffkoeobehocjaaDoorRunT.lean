/- Contracts of spec.l2Run and spec.CircuitTable: as much of them as the draws of tables want. -/
import Derived.Test.YtffkoeobehocjaaDoorRun
namespace Go.Proofs.YtffkoeobehocjaaDoor
open Go.RowKit
set_option linter.unusedVariables false
set_option linter.unusedSimpArgs false

set_option maxHeartbeats 1000000 in
theorem l2Run_any (l : Int) (A : Option Addr) (n c B : Nat) (gs : List Gt) (word : Int) (w : World) (h : Reads w B 4 A n (gcells gs)) (hB : B ≤ w.heap.size) (hz : gs.length = n) (hn : n ≤ 1048576) (hv : gs.all (gateB l) = true) :
    Calls Tryd.prog 76 #[.int .i64 l, .slice A n c, .int .i64 word] w fun e w' => SomeI w e w' := by
  have HR := Lib.hid h
  have HZ := Lib.hid hz
  have HV : Hid (∀ k, k < gs.length → gateB l (gs.getD k g0) = true) := Lib.hid (fun k hk => by
    rw [List.all_eq_true] at hv
    rw [List.getD_eq_getElem?_getD, List.getElem?_eq_getElem hk]
    exact hv _ (List.getElem_mem hk))
  clear h hz hv
  go_enter Tryd.func76, Tryd.ntmps76
  go_wp2_with fail
  go_loopg [2, 7] n (fun gh v i wr => ∃ k : Nat, k ≤ n ∧ gh = n - k ∧ i = .int .i64 k ∧ (∃ u : Int, v = .int .i64 u) ∧ Below w.heap.size w wr)
  case atStart => exact ⟨0, Nat.zero_le _, rfl, rfl, ⟨_, rfl⟩, Below.refl _ _⟩
  case round =>
    obtain ⟨k, hk, hg, rfl, ⟨u, rfl⟩, hb⟩ := hrel
    have Hg := Lib.hid hg
    clear hg
    by_cases hlt : k < n
    · have hlt' : (k : Int) < (n : Int) := by omega
      obtain ⟨b, o, rfl, hbB, hcell⟩ := HR.out.openG HZ.out (by omega)
      obtain ⟨g, eg⟩ : ∃ g, g = gs.getD k g0 := ⟨_, rfl⟩
      have hgat := (hcell k hlt).below hb (by omega)
      have hgv := HV.out k (by have := HZ.out; omega)
      rw [← eg] at hgat hgv
      obtain ⟨x0, x1, x2, x3⟩ := g
      obtain ⟨q0, q1, q2, q3⟩ := hgat
      simp only at q0 q1 q2 q3
      have CR := Lib.hid (fun W => gateRun_any l ⟨x0, x1, x2, x3⟩ u W hgv)
      unfold Gt.val at CR
      dsimp only at CR
      clear hcell eg hgv
      go_wp2_with fail
      refine (CR.out _).mono ?_
      rintro e w1 ⟨v, rfl, hb1⟩
      go_wp2_with fail
      go_roundg (n - (k + 1))
      case measure => have := Hg.out; omega
      case rel => exact ⟨k + 1, by omega, rfl, by go_num, ⟨_, rfl⟩, bnext hb hb1 (Nat.le_refl _)⟩
    · have hlt' : ¬ (k : Int) < (n : Int) := by omega
      go_wp2_with fail
      go_ret
      exact ⟨_, rfl, hb⟩

/-- some numbers in new memory are returned, so many -/
def SomeL (m : Nat) (w : World) (e : Ending) (w' : World) : Prop := ∃ (v : Value) (xs : List Int), e = .returned v ∧ xs.length = m ∧ w'.ownsRow w.heap.size 3 1 v m (xs.map (Value.int .i64)) ∧ Below w.heap.size w w'
set_option maxHeartbeats 2000000 in
set_option maxRecDepth 50000 in
theorem specTable_some (l : Int) (A : Option Addr) (n c B : Nat) (gs : List Gt) (w : World) (h : Reads w B 4 A n (gcells gs)) (hB : B ≤ w.heap.size) (hz : gs.length = n) (hc : n ≤ c) (hn : n ≤ 1048576) (hv : circB l gs = true) (m : Nat) (hm : (m : Int) = pw l) :
    Calls Tryd.prog 62 #[.int .i64 l, .slice A n c] w fun e w' => SomeL m w e w' := by
  obtain ⟨ii, hi, hz0, hz1, hz2⟩ := info_parts infoInt
  have ht := circB_t hv
  have hlv := inB_t ht.2.1
  have hpw := pw_bd hlv.1 hlv.2
  have hm256 : m ≤ 256 := by omega
  have hmx1 : (if l < 0 then (0 : Int) else l) = l := if_neg (by omega)
  have hmx2 : (if 8 < l then (8 : Int) else l) = l := if_neg (by omega)
  have HT := Lib.hid (fun W (hw : Below w.heap.size w W) => specCircuitValid_any l A n c B gs W (h.next hw hB) (Nat.le_trans hB hw.size) hz hc hn)
  rw [hv] at HT
  have HRn := Lib.hid (fun W word (hw : Below w.heap.size w W) => l2Run_any l A n c B gs word W (h.next hw hB) (Nat.le_trans hB hw.size) hz hn ht.1)
  have hs0 := shl_one hlv.1 hlv.2
  obtain ⟨P, eP⟩ : ∃ P, P = pw l := ⟨_, rfl⟩
  rw [← eP] at hs0 hm
  have HMP := Lib.hid hm
  clear h hz hv ht hpw hm eP
  go_enter Tryd.func62, Tryd.ntmps62
  go_wp2_with fail
  go_loopg [5, 6] m (fun gh v i wr => ∃ k : Nat, k ≤ m ∧ gh = m - k ∧ i = .int .i64 k ∧ (∃ xs : List Int, xs.length = k ∧ wr.ownsRow w.heap.size 3 1 v k (xs.map (Value.int .i64))) ∧ Below w.heap.size w wr)
  case atStart => exact ⟨0, Nat.zero_le _, rfl, rfl, ⟨[], rfl, by simpa using World.ownsRow_made (base := w.heap.size) (e := 3) (size := 1) w #[] 0 (Nat.le_refl _) (by simp [maxLen]) rfl⟩, (Below.refl _ _).alloc (Nat.le_refl _) _⟩
  case round =>
    obtain ⟨k, hk, hg, rfl, ⟨xs, hxs, hown⟩, hb⟩ := hrel
    have Hg := Lib.hid hg
    have Hxs := Lib.hid hxs
    obtain ⟨A5, c5, rfl, hc5⟩ := own_shape hown
    have Hown := Lib.hid hown
    clear hg hown hxs
    by_cases hlt : k < m
    · have hlt' : (k : Int) < P := by have := HMP.out; omega
      go_wp2_with fail
      refine (HT.out _ hb).mono ?_
      rintro e w1 ⟨rfl, hb1⟩
      have hb01 := bnext hb hb1 (Nat.le_refl _)
      go_wp2_with fail
      refine (HRn.out _ _ hb01).mono ?_
      rintro e w2 ⟨u, rfl, hb2⟩
      have hb02 := bnext hb01 hb2 (Nat.le_refl _)
      have own2 := own_next (own_next Hown.out hb1) hb2
      have hlw := own2.lt
      have hs2 := hb02.size
      clear hb hb1 hb2 hb01
      go_wp2_with (at_builtin; refine wpList_append_own _ rfl _ _ 22 rfl w.heap.size 3 ii (.int .i64 0) 1 8 Tryd.underlying22 hi hz0 hz1 hz2 rfl (by decide) _ _ _ rfl (own2.alloc _) ⟨w2.heap.size, 0, none⟩ 1 1 [.int .i64 u] rfl rfl (cell_one_new _ _ _) (by simp [Value.oneCell']) (by unfold maxLen; omega) (by omega) (by simp; omega) ?_; intro v' w3 hown' hgrow _)
      have hb' := (hb02.alloc hs2 (Obj.cells #[.int .i64 u] 3)).grown hgrow (by simp; omega) (fun q e => (hlw q e).1)
      have hown2 : w3.ownsRow w.heap.size 3 1 v' (k + 1) ((xs ++ [u]).map (Value.int .i64)) := by simpa using hown'
      clear hlw hgrow hown' own2
      go_wp2_with fail
      go_roundg (m - (k + 1))
      case measure => have := Hg.out; omega
      case rel => exact ⟨k + 1, by omega, rfl, by go_num, ⟨xs ++ [u], by rw [List.length_append, Hxs.out]; rfl, hown2⟩, hb'⟩
    · have hlt' : ¬ (k : Int) < P := by have := HMP.out; omega
      obtain rfl : k = m := by omega
      go_wp2_with fail
      go_ret
      exact ⟨_, xs, rfl, Hxs.out, Hown.out, hb⟩
end Go.Proofs.YtffkoeobehocjaaDoor
