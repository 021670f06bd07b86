/- Walk of the law FnTableText: it returns true and writes nothing that was there, where strconv's table and its two error variables are laid. -/
import Derived.Test.YtffkoeobehocjaaDoorDrawZ
import Derived.Test.YtffkoeobehocjaaDoorTdI
import Derived.Test.YtffkoeobehocjaaDoorSame
namespace Go.Proofs.YtffkoeobehocjaaDoor
open Go.RowKit
set_option linter.unusedVariables false
set_option linter.unusedSimpArgs false

set_option maxHeartbeats 4000000 in
set_option maxRecDepth 50000 in
theorem walk_FnTableText (A : Option Addr) (n c : Nat) (zs : List Int) (w : World) (h : IntsIn .u8 w A n c zs) (hT : Tab10 w) (hE : ErrVars w) :
    Calls Tryd.prog 4 #[.slice A n c] w fun e w' => e = .returned (.bool true) ∧ Below w.heap.size w w' := by
  have hn1 : n ≤ 9223372036854775807 := by have := h.1; have := h.2.1; unfold maxLen at this; omega
  by_cases hn : 1048576 < n
  · clear h hT hE
    go_enter Tryd.func4, Tryd.ntmps4
    go_wp2_with fail
    go_ret
    exact ⟨rfl, Below.refl _ _⟩
  · have HD := Lib.hid (drawTableText_any A n c zs w h)
    have HT := Lib.hid hT
    have HE := Lib.hid hE
    clear h hT hE
    go_enter Tryd.func4, Tryd.ntmps4
    go_wp2_with fail
    refine HD.out.mono ?_
    rintro e w1 ⟨⟨l, xs, A1, c1, he, l0, l9, h3, hc, ho⟩, hb⟩
    have hs1 := hb.size
    obtain ⟨m, hm⟩ : ∃ m, m = xs.length := ⟨_, rfl⟩
    have R0 := ho.reads (n := m) (size := 1) (by simp [hm]) (by omega)
    rw [← hm] at hc h3 he
    subst he
    have CI := Lib.hid (fun W (hw : Below w1.heap.size w1 W) => implTableText_any l A1 m c1 w1.heap.size xs W (R0.below hw) hw.size hm.symm hc (by omega) (HT.out.on (hb.trans (hw.mono hs1))))
    have CS := Lib.hid (fun W (hw : Below w1.heap.size w1 W) => specTableText_all l A1 m c1 w1.heap.size xs W (R0.below hw) hw.size hm.symm hc (by omega))
    have CV := Lib.hid (fun W (hw : Below w1.heap.size w1 W) => implTableValid_any l A1 m c1 w1.heap.size xs W (R0.below hw) hw.size hm.symm hc (by omega))
    have HL := Lib.hid (tabTx_len l xs (by omega))
    have HN : Hid (tblB l xs = false → tabTx l xs = []) := Lib.hid fun h => by unfold tabTx; rw [h]; rfl
    have HY := Lib.hid (td_back (n := l) (t := xs))
    have HZ := Lib.hid (tab_ne (n := l) (t := xs))
    have HR0 := Lib.hid R0
    have HM := Lib.hid hm
    obtain ⟨tx, etx⟩ : ∃ tx, tx = tabTx l xs := ⟨_, rfl⟩
    obtain ⟨v, ev⟩ : ∃ v, v = tblB l xs := ⟨_, rfl⟩
    rw [← etx] at CI CS HL HN HY HZ
    rw [← ev] at CV HN HY HZ
    clear etx ev R0 ho HD hm
    go_wp2_with fail
    refine (CI.out w1 (Below.refl _ _)).mono ?_
    rintro e w2 ⟨rfl, hb2⟩
    go_wp2_with fail
    refine (CS.out w2 hb2).mono ?_
    rintro e w3 ⟨rfl, hb3⟩
    have hb13 := bnext hb2 hb3 (Nat.le_refl _)
    have hb03 := bnext hb hb13 (Nat.le_refl _)
    clear hb2 hb3
    have hll : (tx != tx) = false := by simp
    cases v with
    | false =>
      obtain rfl := HN.out rfl
      go_wp2_with fail
      refine (CV.out w3 hb13).mono ?_
      rintro e w4 ⟨rfl, hb4⟩
      have hb04 := bnext hb03 hb4 (Nat.le_refl _)
      go_wp2_with (go_at_call 20; refine (alive_any _).mono ?_; rintro e w' ⟨rfl, rfl⟩)
      go_ret
      exact ⟨rfl, hb04⟩
    | true =>
      have hne := HZ.out rfl
      have hle : tx.isEmpty = false := by cases tx with | nil => exact absurd rfl hne | cons a t => rfl
      have hl3 : (tx == ([] : List UInt8)) = false := by simp [hne]
      have C := implReadTable_any tx (by have := HL.out; omega) w3 (HE.out.below hb03) (HT.out.on hb03)
      obtain ⟨y1, y2, y3⟩ := HY.out rfl
      unfold RetT at C
      rw [show rtN tx = l by unfold rtN; rw [if_pos y1, y2, y3], show rtL tx = xs by unfold rtL; rw [if_pos y1, y2], y1] at C
      have HC := Lib.hid C
      clear C y1 y2 y3
      rw [← HM.out] at HC
      go_wp2_with fail
      refine HC.out.mono ?_
      rintro e w4 ⟨A4, c4, rfl, hc4, ho4, hb4⟩
      have em := HM.out
      have hb04 := bnext hb03 hb4 (Nat.le_refl _)
      have hb14 := bnext hb13 hb4 (Nat.le_refl _)
      have R4 := ho4.reads (n := m) (size := 1) (by simp [em]) (by omega)
      have CX := Lib.hid (sameInts_bel A4 A1 m m c4 c1 _ _ xs xs w4 R4 (HR0.out.below hb14) em.symm em.symm (by omega))
      rw [eqL_refl] at CX
      clear R4 ho4 hb4 em
      go_wp2_with fail
      refine CX.out.mono ?_
      rintro e w5 ⟨rfl, hb5⟩
      go_wp2_with fail
      go_ret
      exact ⟨rfl, bnext hb04 hb5 (Nat.le_refl _)⟩
end Go.Proofs.YtffkoeobehocjaaDoor
