/- Walk of the law FnTableValid. -/
import Derived.Test.YtfpnjahdjppeaaaDrawT
import Derived.Test.YtfpnjahdjppeaaaWhole
import Derived.Test.YtfpnjahdjppeaaaTabV
namespace Go.Proofs.Ytfpnjahdjppeaaa
open Go.RowKit
set_option linter.unusedVariables false
set_option linter.unusedSimpArgs false

theorem drawTable2_any (f : FuncId) (A : Option Addr) (n c : Nat) (zs : List Int) (w : World) (h : IntsIn .u8 w A n c zs) :
    Calls Try.prog 8 #[.slice A n c] w fun e w' => DrawnT w.heap.size w e w' ∧ Below w.heap.size w w' := by
  go_enter Try.func8, Try.ntmps8
  go_wp2_with fail
  refine (l20Open_any A n c zs w h).mono ?_
  rintro e w1 ⟨r, rfl, hr, hd, hb⟩
  have hd' : Rd w1 r 0 := ⟨0, Nat.le_refl _, hd⟩
  go_wp2_with fail
  refine (l20Table_rd 2 r 0 w1 hd' (by omega) (by omega)).mono ?_
  rintro e w2 ⟨⟨l, xs, A2, c2, rfl, l0, l9, h3, hc, ho⟩, hr2, hg2⟩
  have hb2 := below_of_only hb hg2 hr hb.size
  have hs := hb.size
  go_wp2_with fail
  go_ret2
  exact ⟨⟨l, xs, A2, c2, rfl, l0, l9, h3, hc, ho.mono hs⟩, hb2⟩

set_option maxHeartbeats 4000000 in
set_option maxRecDepth 50000 in
theorem walk_FnTableValid (A : Option Addr) (n c : Nat) (zs : List Int) (w : World) (h : IntsIn .u8 w A n c zs) :
    Calls Try.prog 3 #[.slice A n c] w fun e w' => e = .returned (.bool true) ∧ Below w.heap.size w w' := by
  have hn1 : n ≤ 9223372036854775807 := by have := h.1; have := h.2.1; unfold maxLen at this; omega
  by_cases hn : 1048576 < n
  · clear h
    go_enter Try.func3, Try.ntmps3
    go_wp2_with fail
    go_ret
    exact ⟨rfl, Below.refl _ _⟩
  · have HD := Lib.hid (drawTable2_any 0 A n c zs w h)
    obtain ⟨ii, hi, hz0, hz1, hz2⟩ := info_parts info_int
    clear h
    go_enter Try.func3, Try.ntmps3
    go_wp2_with fail
    refine HD.out.mono ?_
    rintro e w1 ⟨⟨l, xs, A1, c1, he, l0, l9, h3, hc, ho⟩, hb⟩
    have hs1 := hb.size
    obtain ⟨m, hm⟩ : ∃ m, m = xs.length := ⟨_, rfl⟩
    have R0 := ho.reads (n := m) (size := 1) (by simp [hm]) (by omega)
    rw [← hm] at hc h3 he
    subst he
    have CI := Lib.hid (fun W (hw : Below w1.heap.size w1 W) => implTableValid_any l A1 m c1 w1.heap.size xs W (R0.below hw) hw.size hm.symm hc (by omega))
    have CS := Lib.hid (fun W (hw : Below w1.heap.size w1 W) => Calls.drewBelow (specTableValid_any l A1 m c1 w1.heap.size xs W (R0.below hw) hm.symm hc (by omega)))
    cases hv : tblB l xs with
    | false =>
      rw [hv] at CI CS
      clear ho R0 HD hv hm
      go_wp2_with fail
      refine (CI.out w1 (Below.refl _ _)).mono ?_
      rintro e w2 ⟨rfl, hb2⟩
      go_wp2_with fail
      refine (CS.out w2 hb2).mono ?_
      rintro e w3 ⟨rfl, hb3⟩
      have hb13 := hb2.trans (hb3.mono hb2.size)
      go_wp2_with (go_at_call 11; refine (alive_any _).mono ?_; rintro e w' ⟨rfl, rfl⟩)
      go_ret
      exact ⟨rfl, bnext hb hb13 (Nat.le_refl _)⟩
    | true =>
      have hbd := tblB_bd hv
      have H3 := (tblB_t hv).2.2
      rw [← hm] at hbd H3
      have hm2 : 2 ≤ m ∧ m ≤ 256 := ⟨hbd.1, hbd.2.1⟩
      have VX := sw_tbl hv (k := 1) (by omega) (by omega)
      have VY := twice_no hv
      have CW := Lib.hid (fun W (hw : Below w1.heap.size w1 W) => Calls.drewBelow (whole_any A1 m c1 w1.heap.size xs W (R0.below hw) hm.symm hc (by omega) hbd.2.2 (fun k hk => okP_new H3 hk)))
      have CX := Lib.hid (fun W (B : Nat) (A : Option Addr) (c : Nat) h hB hc => implTableValid_any l A m c B (sw xs 1) W h hB (by rw [sw_len, hm]) hc (by omega))
      have CY := Lib.hid (fun W (B : Nat) (A : Option Addr) (c : Nat) h hB hc => implTableValid_any l A m c B (xs.set 0 (xs.getD 1 0)) W h hB (by rw [List.length_set, hm]) hc (by omega))
      rw [VX] at CX
      rw [VY] at CY
      rw [hv] at CI CS
      have one1 := ints_oneCell .i64 xs
      have HM := Lib.hid hm
      obtain ⟨b, o, rfl, hbB, hcell⟩ := R0.open1 hm.symm (by omega)
      have hc0 := hcell 0 (by omega)
      have hc1 := hcell 1 (by omega)
      rw [Nat.add_zero] at hc0
      obtain ⟨x0, ex0⟩ : ∃ x, x = xs.getD 0 0 := ⟨_, rfl⟩
      obtain ⟨x1, ex1⟩ : ∃ x, x = xs.getD 1 0 := ⟨_, rfl⟩
      rw [← ex0] at hc0
      rw [← ex1] at hc1 CY
      have HE0 := Lib.hid ex0
      have HE1 := Lib.hid ex1
      have RB := Lib.hid (fun W (hw : Below w1.heap.size w1 W) => R0.below hw)
      have h01 : (0 : Int) < (m : Int) := by omega
      have h11 : (1 : Int) < (m : Int) := by omega
      clear ho R0 HD hv hm hbd H3 VX VY hcell ex0 ex1
      go_wp2_with fail
      refine (CI.out w1 (Below.refl _ _)).mono ?_
      rintro e w2 ⟨rfl, hb2⟩
      go_wp2_with fail
      refine (CS.out w2 hb2).mono ?_
      rintro e w3 ⟨rfl, hb3⟩
      have hb13 := hb2.trans (hb3.mono hb2.size)
      have hs13 := hb13.size
      have hb13a := hb13.alloc hs13 (.cells #[] 3)
      have own0 := World.ownsRow_made (base := w1.heap.size) (e := 3) (size := 1) w3 #[] 0 hs13 (by simp [maxLen]) rfl
      have rd3 := RB.out _ hb13a
      clear CI CS hb2 hb3
      go_upto_region 12 with (at_builtin; (refine wpList_append_any _ rfl _ _ 23 rfl w1.heap.size 3 ii (.int .i64 0) 1 8 Try.underlying23 hi hz0 hz1 hz2 rfl (by decide) (.slice (some ⟨w3.heap.size, 0, none⟩) 0 0) 0 [] rfl own0 _ (some ⟨b, o, none⟩) m c1 (xs.map (Value.int .i64)) rfl rd3 one1 (by unfold maxLen; omega) (by omega) (by simp; omega) ?_; intro v4 w4 own4 gr4 _; rw [Nat.zero_add, List.nil_append] at own4; have hb14 := hb13a.grown gr4 (by simp; omega) (fun q e => by cases e; exact hs13); have hs14 := hb14.size; obtain ⟨g, cap, rfl, hgB, hgl, hgc, hgm⟩ := own_pos own4 (by omega); have hne : ¬ b = g := (by omega); have hne' : ¬ g = b := (by omega); have d0 : w4.cell? ⟨b, o, none⟩ = some (.int .i64 x0) := (hb14.cell (p := ⟨b, o, none⟩) hbB).trans hc0; have d1 : w4.cell? ⟨b, o + 1, none⟩ = some (.int .i64 x1) := (hb14.cell (p := ⟨b, o + 1, none⟩) hbB).trans hc1; obtain ⟨u0, f0⟩ := own_get own4 (i := 0) (by omega) HM.out.symm; obtain ⟨u1, f1⟩ := own_get own4 (i := 1) (by omega) HM.out.symm; have own5 := own_put (i := 1) (own_put (i := 0) own4 x1) x0; have gr5 : w4.grownBy ((w4.setCell ⟨g, 0, none⟩ (.int .i64 x1)).setCell ⟨g, 1, none⟩ (.int .i64 x0)) (some g) := only_setCell (p := ⟨g, 1, none⟩) (only_setCell (p := ⟨g, 0, none⟩) (World.grownBy.refl _ _) (Or.inl rfl) _) (Or.inl rfl) _; have hb15 := hb14.grown gr5 hs14 (fun q e => by cases e; exact hgB); clear own4 gr4 hb13 hb13a own0 rd3 hs13 gr5))
      obtain ⟨w5, hw5⟩ : ∃ w5, w5 = (w4.setCell ⟨g, 0, none⟩ (.int .i64 x1)).setCell ⟨g, 1, none⟩ (.int .i64 x0) := ⟨_, rfl⟩
      rw [← hw5] at own5 hb15 ⊢
      have HX : Hid ((xs.set 0 x1).set 1 x0 = sw xs 1) := Lib.hid (by rw [HE0.out, HE1.out]; rfl)
      rw [HX.out] at own5
      clear hw5 d0 d1 u0 u1 f0 f1 hb14 hs14
      have hs15 := hb15.size
      have hgl5 := (own5.lt g rfl).2
      have hb15a := hb15.alloc hs15 (.cells #[] 3)
      have own0 := World.ownsRow_made (base := w1.heap.size) (e := 3) (size := 1) w5 #[] 0 hs15 (by simp [maxLen]) rfl
      have rd5 := RB.out _ hb15a
      go_upto_region 14 with (at_builtin; (refine wpList_append_any _ rfl _ _ 23 rfl w1.heap.size 3 ii (.int .i64 0) 1 8 Try.underlying23 hi hz0 hz1 hz2 rfl (by decide) (.slice (some ⟨w5.heap.size, 0, none⟩) 0 0) 0 [] rfl own0 _ (some ⟨b, o, none⟩) m c1 (xs.map (Value.int .i64)) rfl rd5 one1 (by unfold maxLen; omega) (by omega) (by simp; omega) ?_; intro v6 w6 own6 gr6 at6; rw [Nat.zero_add, List.nil_append] at own6; have hgr6 : World.grownBy (w5.alloc (Obj.cells #[] 3)) w6 (some w5.heap.size) := gr6; have hb16 := hb15a.grown hgr6 (by simp; omega) (fun q e => by cases e; exact hs15); have hs16 := hb16.size; have own5b := (own5.alloc (Obj.cells #[] 3)).kept hgr6 (.inr (by simp [Value.ownBlock]; omega)); have hg6 : v6.ownBlock ≠ some g := (by rcases at6 with h | h <;> (rw [h]; first | (simp [Value.ownBlock]; omega) | (simp; omega))); obtain ⟨g', cap', rfl, hgB', hgl', hgc', hgm'⟩ := own_pos own6 (by omega); have hgg : ¬ g = g' := fun e => hg6 (by rw [e]; rfl); have hgg' : ¬ g' = g := fun e => hgg e.symm; have hneb : ¬ b = g' := (by omega); have hneb' : ¬ g' = b := (by omega); have d1 : w6.cell? ⟨b, o + 1, none⟩ = some (.int .i64 x1) := (hb16.cell (p := ⟨b, o + 1, none⟩) hbB).trans hc1; obtain ⟨u0, f0⟩ := own_get own6 (i := 0) (by omega) HM.out.symm; have own7 := own_put (i := 0) own6 x1; have gr7 : w6.grownBy (w6.setCell ⟨g', 0, none⟩ (.int .i64 x1)) (some g') := only_setCell (p := ⟨g', 0, none⟩) (World.grownBy.refl _ _) (Or.inl rfl) _; have hb17 := hb16.grown gr7 hs16 (fun q e => by cases e; exact hgB'); have own5c := own5b.kept gr7 (.inr (by simp [Value.ownBlock]; omega)); clear own6 gr6 hgr6 hb15 hb15a own0 rd5 hs15 gr7 own5 own5b at6 hg6))
      obtain ⟨w7, hw7⟩ : ∃ w7, w7 = w6.setCell ⟨g', 0, none⟩ (.int .i64 x1) := ⟨_, rfl⟩
      rw [← hw7] at own7 own5c hb17 ⊢
      clear hw7 d1 u0 f0 hb16 hs16 hc0 hc1
      have hs17 := hb17.size
      have CX7 := Lib.hid (CX.out w7 _ _ _ (own_reads own5c rfl) (Nat.le_refl _) hgc)
      clear own5c CX
      have HO7 := Lib.hid own7
      clear own7
      go_wp2_with fail
      refine CX7.out.mono ?_
      rintro e w8 ⟨rfl, hb8⟩
      have hb18 := hb17.trans (hb8.mono hs17)
      have own8 := own_next HO7.out hb8
      have CY8 := Lib.hid (CY.out w8 _ _ _ (own_reads own8 rfl) (Nat.le_refl _) hgc')
      clear own8 CY CX7
      go_wp2_with fail
      refine CY8.out.mono ?_
      rintro e w9 ⟨rfl, hb9⟩
      have hb19 := hb18.trans (hb9.mono hb18.size)
      clear CY8
      go_wp2_with fail
      refine (CW.out w9 hb19).mono ?_
      rintro e w10 ⟨rfl, hb10⟩
      have hb110 := hb19.trans (hb10.mono hb19.size)
      go_wp2_with fail
      go_ret
      exact ⟨rfl, bnext hb hb110 (Nat.le_refl _)⟩
end Go.Proofs.Ytfpnjahdjppeaaa
