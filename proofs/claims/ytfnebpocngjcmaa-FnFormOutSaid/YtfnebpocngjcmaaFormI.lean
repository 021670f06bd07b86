/- Contracts of impl.bitsFor and impl.FormBits. -/
import Derived.Test.YtfnebpocngjcmaaFormN
namespace Go.Proofs.Ytfnebpocngjcmaa
open Go.RowKit
set_option linter.unusedVariables false

set_option maxHeartbeats 4000000 in
set_option maxRecDepth 50000 in
theorem bitsFor_any (m : Nat) (word : Int) (A : Option Addr) (n c B : Nat) (gs : List St) (w : World) (h : Reads w B 3 A n (scells gs)) (hB : B ≤ w.heap.size) (hz : gs.length = n) (hv : formB m gs = true) (hw : wordB m word = true) :
    Calls Try.prog 56 #[.int .i64 m, .slice A n c, .int .i64 word] w fun e w' => RetL ((allBits word m gs n).drop m) w e w' := by
  have hf := formB_t hv
  have hwd := wordB_t hw
  have hp := pw_bd hwd.1 hwd.2.1
  have HS := Lib.hid (fun k hk => stB_form (formP_at hf.2.2.2.2 (k := k) hk))
  have HR := Lib.hid h
  have HZ := Lib.hid hz
  have HAL := Lib.hid (fun k => allBits_len word m gs k)
  have HAB := Lib.hid (fun k => getD_bit (allBits_bit word m gs k))
  have hm3 : m ≤ 3 := by omega
  have hm1 : 1 ≤ m := by omega
  have hn3 : n ≤ 3 := by omega
  have hn1 : 1 ≤ n := by omega
  have hw0 : 0 ≤ word ∧ word ≤ 255 := by omega
  have hmk := mk_cap (m + n) (by omega)
  simp only [Int.natCast_add] at hmk
  obtain ⟨ii, hi, hz0, hz1, hz2⟩ := info_parts infoInt
  clear h hz hv hw hf hwd hp
  go_enter Try.func56, Try.ntmps56
  go_wp2_with fail
  clear hmk
  go_loopg [7, 17] m (fun gh v i wr => ∃ k : Nat, k ≤ m ∧ gh = m - k ∧ i = .int .i64 k ∧ wr.ownsRow w.heap.size 3 1 v k ((insB word k).map (Value.int .i64)) ∧ Below w.heap.size w wr)
  case atStart =>
    have := (World.ownsRow_made (base := w.heap.size) (e := 3) (size := 1) w (madeCells #[.int .i64 0] (m + n)) (m + n) (Nat.le_refl _) (by unfold maxLen; omega) (by simp [size_madeCells]))
    exact ⟨0, Nat.zero_le _, rfl, rfl, by simpa [insB] using this, (Below.refl _ _).alloc (Nat.le_refl _) _⟩
  case round =>
    obtain ⟨k, hk, hg, rfl, hown, hb⟩ := hrel
    have Hg := Lib.hid hg
    have hs := hb.size
    have hlw := hown.lt
    obtain ⟨A5, c5, rfl, hc5⟩ := own_shape hown
    have Hown := Lib.hid hown
    clear hg hown
    by_cases hlt : k < m
    · have hlt' : (k : Int) < (m : Int) := by omega
      have Hsn := Lib.hid (insB_succ word k)
      have hsh := shr_bd (v := word) (l := (k : Int)) hw0.1 (by omega)
      have ha := and_one hsh.1 hsh.2
      obtain ⟨z, ez⟩ : ∃ z, z = bt word k := ⟨_, rfl⟩
      have ha2 : word / 2 ^ (k : Int).toNat % 2 = z := ez.symm
      rw [← ez] at Hsn
      rw [ha2] at ha
      simp only [Int.toNat_natCast] at ha hsh
      clear ez ha2
      go_wp2_with (at_builtin; refine wpList_append_own _ rfl _ _ 37 rfl w.heap.size 3 ii (.int .i64 0) 1 8 Try.underlying37 hi hz0 hz1 hz2 rfl (by decide) _ _ _ rfl (Hown.out.alloc _) ⟨wr.heap.size, 0, none⟩ 1 1 [.int .i64 z] rfl rfl (cell_one_new _ _ _) (by simp [Value.oneCell']) (by unfold maxLen; omega) (by omega) (by simp; omega) ?_; intro v' w3 hown' hgrow _)
      have hb' := (hb.alloc hs (Obj.cells #[.int .i64 z] 3)).grown hgrow (by simp; omega) (fun q e => (hlw q e).1)
      clear hlw hgrow ha hsh
      go_wp2_with fail
      go_roundg (m - (k + 1))
      case measure => have := Hg.out; omega
      case rel => exact ⟨k + 1, by omega, rfl, by go_num, by rw [Hsn.out]; simpa using hown', hb'⟩
    · have hlt' : ¬ (k : Int) < (m : Int) := by omega
      obtain rfl : k = m := by omega
      have Hown2 : Hid (wr.ownsRow w.heap.size 3 1 (.slice A5 k c5) (k + 0) ((allBits word k gs 0).map (Value.int .i64))) := Hown
      go_wp2_with fail
      go_loopg [7, 30] n (fun gh v i wr => ∃ q : Nat, q ≤ n ∧ gh = n - q ∧ i = .int .i64 q ∧ wr.ownsRow w.heap.size 3 1 v (k + q) ((allBits word k gs q).map (Value.int .i64)) ∧ Below w.heap.size w wr)
      case atStart => exact ⟨0, Nat.zero_le _, rfl, rfl, Hown2.out, hb⟩
      case round =>
        obtain ⟨q, hq, hg2, rfl, hown, hb⟩ := hrel
        have Hg2 := Lib.hid hg2
        have hs := hb.size
        obtain ⟨A5, c5, rfl, hc5⟩ := own_shape hown
        have Hown3 := Lib.hid hown
        clear hg2 hown
        by_cases hqn : q < n
        · have hqn' : (q : Int) < (n : Int) := by omega
          obtain ⟨b, o, rfl, hbB, hcell⟩ := HR.out.openS HZ.out (by omega)
          obtain ⟨gb, go, rfl, hgb, hoc⟩ := (own_reads Hown3.out rfl).open1 (HAL.out q) (by omega)
          have hgat := (hcell q hqn).below hb (by omega)
          have hst := HS.out q (by have := HZ.out; omega) (by omega)
          obtain ⟨g, eg⟩ : ∃ g, g = gs.getD q s0 := ⟨_, rfl⟩
          have hsn : allBits word k gs (q + 1) = allBits word k gs q ++ [bitOp (gs.getD q s0).o ((allBits word k gs q).getD (gs.getD q s0).x.toNat 0) ((allBits word k gs q).getD (gs.getD q s0).y.toNat 0)] := rfl
          rw [← eg] at hgat hst hsn
          obtain ⟨op, x, y⟩ := g
          simp only at hst hsn
          obtain ⟨x', rfl⟩ := Int.eq_ofNat_of_zero_le hst.2.2.1
          obtain ⟨y', rfl⟩ := Int.eq_ofNat_of_zero_le hst.2.2.2.2.1
          obtain ⟨op', rfl⟩ := Int.eq_ofNat_of_zero_le hst.1
          obtain ⟨q0, q1, q2⟩ := hgat
          simp only at q0 q1 q2
          have hx := hoc x' (by omega)
          have hy := hoc y' (by omega)
          have bx := HAB.out q x'
          have by_ := HAB.out q y'
          simp only [Int.toNat_natCast] at hsn
          obtain ⟨X, eX⟩ : ∃ X, X = (allBits word k gs q).getD x' 0 := ⟨_, rfl⟩
          obtain ⟨Y, eY⟩ : ∃ Y, Y = (allBits word k gs q).getD y' 0 := ⟨_, rfl⟩
          rw [← eX] at hx bx hsn
          rw [← eY] at hy by_ hsn
          have Hsn := Lib.hid hsn
          have hbw : b < wr.heap.size := by omega
          have hx3 : x' < k + q := by omega
          have hy3 : y' < k + q := by omega
          clear hcell hoc eg eX eY hsn
          have h4 : op' = 0 ∨ op' = 1 ∨ op' = 2 ∨ op' = 3 := by omega
          clear hst
          have HX := Lib.hid hx
          have HY := Lib.hid hy
          have BX := Lib.hid bx
          have BY := Lib.hid by_
          clear hx hy bx by_
          rcases h4 with rfl | rfl | rfl | rfl
          · have CN := Lib.hid (fun W => node_and x' y' W)
            have CB := Lib.hid (fun W (hb : Below wr.heap.size wr W) => andBit_any x' y' gb go (k + q) c5 X Y W ((hb.cell hgb).trans HX.out) ((hb.cell hgb).trans HY.out) hx3 hy3 (Nat.lt_of_lt_of_le hgb hb.size) BX.out BY.out)
            have hm : ∀ w, (method 224 71 (.agg #[.int .i64 x', .int .i64 y']) "loop.example/reversiblecircuits/impl.bit").run Try.prog w = .ok (105, (.agg #[.int .i64 x', .int .i64 y'])) w := fun _ => by kernel_rfl
            go_wp2_with fail
            refine (CN.out _).mono ?_
            rintro e w1 ⟨rfl, hb1⟩
            have hb01 := ((Below.refl wr.heap.size wr).alloc (Nat.le_refl _) (Obj.cells #[.int .i64 0, .int .i64 x', .int .i64 y'] 46)).trans (hb1.mono (by simp))
            go_wp2_with fail
            refine (CB.out _ hb01).mono ?_
            rintro e w2 ⟨rfl, hb2⟩
            have hb02 := hb01.trans (hb2.mono hb01.size)
            obtain ⟨z, ez⟩ : ∃ z, z = bitOp 0 X Y := ⟨_, rfl⟩
            have Hz : Hid (bitOp (0 : Nat) X Y = z) := Lib.hid ez.symm
            rw [← ez]
            clear hm CN CB ez
            have hs2 := hb02.size
            have own2 := (own_next Hown3.out (hb02.mono (Nat.le_refl _)))
            have hlw := own2.lt
            go_wp2_with (at_builtin; refine wpList_append_own _ rfl _ _ 37 rfl w.heap.size 3 ii (.int .i64 0) 1 8 Try.underlying37 hi hz0 hz1 hz2 rfl (by decide) _ _ _ rfl (own2.alloc _) ⟨w2.heap.size, 0, none⟩ 1 1 [.int .i64 z] rfl rfl (cell_one_new _ _ _) (by simp [Value.oneCell']) (by unfold maxLen; omega) (by omega) (by simp; omega) ?_; intro v' w3 hown' hgrow _)
            have hb' := ((hb.trans (hb02.mono hs)).alloc (by omega) (Obj.cells #[.int .i64 z] 3)).grown hgrow (by simp; omega) (fun q e => (hlw q e).1)
            clear hlw hgrow
            go_wp2_with fail
            go_roundg (n - (q + 1))
            case measure => have := Hg2.out; omega
            case rel => exact ⟨q + 1, by omega, rfl, by go_num, by rw [Hsn.out, Hz.out]; simpa [Nat.add_assoc] using hown', hb'⟩
          · have CN := Lib.hid (fun W => node_or x' y' W)
            have CB := Lib.hid (fun W (hb : Below wr.heap.size wr W) => orBit_any x' y' gb go (k + q) c5 X Y W ((hb.cell hgb).trans HX.out) ((hb.cell hgb).trans HY.out) hx3 hy3 (Nat.lt_of_lt_of_le hgb hb.size) BX.out BY.out)
            have hm : ∀ w, (method 224 73 (.agg #[.int .i64 x', .int .i64 y']) "loop.example/reversiblecircuits/impl.bit").run Try.prog w = .ok (107, (.agg #[.int .i64 x', .int .i64 y'])) w := fun _ => by kernel_rfl
            go_wp2_with fail
            refine (CN.out _).mono ?_
            rintro e w1 ⟨rfl, hb1⟩
            have hb01 := ((Below.refl wr.heap.size wr).alloc (Nat.le_refl _) (Obj.cells #[.int .i64 1, .int .i64 x', .int .i64 y'] 46)).trans (hb1.mono (by simp))
            go_wp2_with fail
            refine (CB.out _ hb01).mono ?_
            rintro e w2 ⟨rfl, hb2⟩
            have hb02 := hb01.trans (hb2.mono hb01.size)
            obtain ⟨z, ez⟩ : ∃ z, z = bitOp 1 X Y := ⟨_, rfl⟩
            have Hz : Hid (bitOp (1 : Nat) X Y = z) := Lib.hid ez.symm
            rw [← ez]
            clear hm CN CB ez
            have hs2 := hb02.size
            have own2 := (own_next Hown3.out (hb02.mono (Nat.le_refl _)))
            have hlw := own2.lt
            go_wp2_with (at_builtin; refine wpList_append_own _ rfl _ _ 37 rfl w.heap.size 3 ii (.int .i64 0) 1 8 Try.underlying37 hi hz0 hz1 hz2 rfl (by decide) _ _ _ rfl (own2.alloc _) ⟨w2.heap.size, 0, none⟩ 1 1 [.int .i64 z] rfl rfl (cell_one_new _ _ _) (by simp [Value.oneCell']) (by unfold maxLen; omega) (by omega) (by simp; omega) ?_; intro v' w3 hown' hgrow _)
            have hb' := ((hb.trans (hb02.mono hs)).alloc (by omega) (Obj.cells #[.int .i64 z] 3)).grown hgrow (by simp; omega) (fun q e => (hlw q e).1)
            clear hlw hgrow
            go_wp2_with fail
            go_roundg (n - (q + 1))
            case measure => have := Hg2.out; omega
            case rel => exact ⟨q + 1, by omega, rfl, by go_num, by rw [Hsn.out, Hz.out]; simpa [Nat.add_assoc] using hown', hb'⟩
          · have CN := Lib.hid (fun W => node_xor x' y' W)
            have CB := Lib.hid (fun W (hb : Below wr.heap.size wr W) => xorBit_any x' y' gb go (k + q) c5 X Y W ((hb.cell hgb).trans HX.out) ((hb.cell hgb).trans HY.out) hx3 hy3 (Nat.lt_of_lt_of_le hgb hb.size) BX.out BY.out)
            have hm : ∀ w, (method 224 72 (.agg #[.int .i64 x', .int .i64 y']) "loop.example/reversiblecircuits/impl.bit").run Try.prog w = .ok (106, (.agg #[.int .i64 x', .int .i64 y'])) w := fun _ => by kernel_rfl
            go_wp2_with fail
            refine (CN.out _).mono ?_
            rintro e w1 ⟨rfl, hb1⟩
            have hb01 := ((Below.refl wr.heap.size wr).alloc (Nat.le_refl _) (Obj.cells #[.int .i64 2, .int .i64 x', .int .i64 y'] 46)).trans (hb1.mono (by simp))
            go_wp2_with fail
            refine (CB.out _ hb01).mono ?_
            rintro e w2 ⟨rfl, hb2⟩
            have hb02 := hb01.trans (hb2.mono hb01.size)
            obtain ⟨z, ez⟩ : ∃ z, z = bitOp 2 X Y := ⟨_, rfl⟩
            have Hz : Hid (bitOp (2 : Nat) X Y = z) := Lib.hid ez.symm
            rw [← ez]
            clear hm CN CB ez
            have hs2 := hb02.size
            have own2 := (own_next Hown3.out (hb02.mono (Nat.le_refl _)))
            have hlw := own2.lt
            go_wp2_with (at_builtin; refine wpList_append_own _ rfl _ _ 37 rfl w.heap.size 3 ii (.int .i64 0) 1 8 Try.underlying37 hi hz0 hz1 hz2 rfl (by decide) _ _ _ rfl (own2.alloc _) ⟨w2.heap.size, 0, none⟩ 1 1 [.int .i64 z] rfl rfl (cell_one_new _ _ _) (by simp [Value.oneCell']) (by unfold maxLen; omega) (by omega) (by simp; omega) ?_; intro v' w3 hown' hgrow _)
            have hb' := ((hb.trans (hb02.mono hs)).alloc (by omega) (Obj.cells #[.int .i64 z] 3)).grown hgrow (by simp; omega) (fun q e => (hlw q e).1)
            clear hlw hgrow
            go_wp2_with fail
            go_roundg (n - (q + 1))
            case measure => have := Hg2.out; omega
            case rel => exact ⟨q + 1, by omega, rfl, by go_num, by rw [Hsn.out, Hz.out]; simpa [Nat.add_assoc] using hown', hb'⟩
          · have CN := Lib.hid (fun W => node_not x' y' W)
            have CB := Lib.hid (fun W (hb : Below wr.heap.size wr W) => notBit_any x' gb go (k + q) c5 X W ((hb.cell hgb).trans HX.out) hx3 (Nat.lt_of_lt_of_le hgb hb.size) BX.out)
            have hm : ∀ w, (method 224 75 (.agg #[.int .i64 x']) "loop.example/reversiblecircuits/impl.bit").run Try.prog w = .ok (108, (.agg #[.int .i64 x'])) w := fun _ => by kernel_rfl
            go_wp2_with fail
            refine (CN.out _).mono ?_
            rintro e w1 ⟨rfl, hb1⟩
            have hb01 := ((Below.refl wr.heap.size wr).alloc (Nat.le_refl _) (Obj.cells #[.int .i64 3, .int .i64 x', .int .i64 y'] 46)).trans (hb1.mono (by simp))
            go_wp2_with fail
            refine (CB.out _ hb01).mono ?_
            rintro e w2 ⟨rfl, hb2⟩
            have hb02 := hb01.trans (hb2.mono hb01.size)
            obtain ⟨z, ez⟩ : ∃ z, z = 1 - X := ⟨_, rfl⟩
            have Hz : Hid (bitOp (3 : Nat) X Y = z) := Lib.hid ez.symm
            rw [← ez]
            clear hm CN CB ez
            have hs2 := hb02.size
            have own2 := (own_next Hown3.out (hb02.mono (Nat.le_refl _)))
            have hlw := own2.lt
            go_wp2_with (at_builtin; refine wpList_append_own _ rfl _ _ 37 rfl w.heap.size 3 ii (.int .i64 0) 1 8 Try.underlying37 hi hz0 hz1 hz2 rfl (by decide) _ _ _ rfl (own2.alloc _) ⟨w2.heap.size, 0, none⟩ 1 1 [.int .i64 z] rfl rfl (cell_one_new _ _ _) (by simp [Value.oneCell']) (by unfold maxLen; omega) (by omega) (by simp; omega) ?_; intro v' w3 hown' hgrow _)
            have hb' := ((hb.trans (hb02.mono hs)).alloc (by omega) (Obj.cells #[.int .i64 z] 3)).grown hgrow (by simp; omega) (fun q e => (hlw q e).1)
            clear hlw hgrow
            go_wp2_with fail
            go_roundg (n - (q + 1))
            case measure => have := Hg2.out; omega
            case rel => exact ⟨q + 1, by omega, rfl, by go_num, by rw [Hsn.out, Hz.out]; simpa [Nat.add_assoc] using hown', hb'⟩
        · have hqn' : ¬ (q : Int) < (n : Int) := by omega
          obtain rfl : q = n := by omega
          have HL : Hid ((allBits word k gs q).length = k + q) := Lib.hid (HAL.out q)
          obtain ⟨gb, go, rfl, hgb, hoc⟩ := (own_reads Hown3.out rfl).open1 (HAL.out q) (by omega)
          have hkc : k < c5 := by omega
          have HRD : Reads wr wr.heap.size 1 (some ⟨gb, go + k, none⟩) q (((allBits word k gs q).drop k).map (Value.int .i64)) := by
            refine ⟨by rw [List.length_map, List.length_drop, HL.out]; omega, fun _ => ⟨_, rfl, rfl, hgb, fun j u hu => ?_⟩⟩
            rw [List.map_drop, List.getElem?_drop] at hu
            have hlt2 : k + j < k + q := by
              rcases Nat.lt_or_ge (k + j) (k + q) with h | h
              · exact h
              · rw [List.getElem?_eq_none (by rw [List.length_map, HL.out]; exact h)] at hu; cases hu
            have := hoc (k + j) hlt2
            rw [List.getElem?_map, List.getElem?_eq_getElem (by rw [HL.out]; exact hlt2)] at hu
            rw [List.getD, List.getElem?_eq_getElem (by rw [HL.out]; exact hlt2)] at this
            simp only [Option.map_some, Option.some.injEq] at hu
            rw [← hu]
            rw [show (Addr.add ⟨gb, go + k, none⟩ j) = ⟨gb, go + (k + j), none⟩ from by simp [Addr.add, Nat.add_assoc]]
            exact this
          have HC := Lib.hid (clone_any ⟨gb, go + k, none⟩ q (c5 - k) wr.heap.size _ wr HRD (Nat.le_refl _) (by omega))
          clear hoc HRD
          go_wp2_with fail
          refine HC.out.mono ?_
          rintro e w1 ⟨A1, c1, rfl, hc1, ho1, hb1⟩
          rw [List.length_drop, HL.out] at hc1 ⊢
          have e1 : k + q - k = q := by omega
          rw [e1] at hc1 ⊢
          obtain ⟨g1, o1, rfl, _, _, _⟩ := ho1 (by rw [List.length_map, List.length_drop, HL.out]; omega)
          have Ho1 := Lib.hid ho1
          clear ho1
          go_wp2_with fail
          refine (clip_any _ q c1 _ hc1 (by omega)).mono ?_
          rintro e w2 ⟨rfl, rfl⟩
          go_wp2_with fail
          go_ret
          exact ⟨some ⟨g1, o1, none⟩, q, by rw [List.length_drop, HL.out, e1]; rfl, by rw [List.length_drop, HL.out, e1]; exact Nat.le_refl _, Ho1.out.mono hb.size, bnext hb hb1 (Nat.le_refl _)⟩
theorem implFormBits_any (i : Int) (A : Option Addr) (n c B : Nat) (gs : List St) (word : Int) (w : World) (h : Reads w B 3 A n (scells gs)) (hB : B ≤ w.heap.size) (hz : gs.length = n) (hc : n ≤ c) (hn : n ≤ 1048576) :
    Calls Try.prog 28 #[.int .i64 i, .slice A n c, .int .i64 word] w fun e w' => RetL (formBits i gs word) w e w' := by
  have HT := Lib.hid (implFormValid_any i A n c B gs w h hB hz hc hn)
  cases hv : formB i gs with
  | false =>
    have Hr := Lib.hid (formBits_n (i := i) (gs := gs) (w := word) (.inl hv))
    rw [hv] at HT
    clear hv h hz
    go_enter Try.func28, Try.ntmps28
    go_wp2_with fail
    refine HT.out.mono ?_
    rintro e w1 ⟨rfl, hb1⟩
    go_wp2_with fail
    go_ret
    exact retL_nil' Hr.out hb1 rfl
  | true =>
    cases hw : wordB i word with
    | false =>
      have Hr := Lib.hid (formBits_n (i := i) (gs := gs) (w := word) (.inr hw))
      rw [hv] at HT
      have HW := Lib.hid (fun W => implWordValid_any i word W)
      rw [hw] at HW
      clear hv hw h hz
      go_enter Try.func28, Try.ntmps28
      go_wp2_with fail
      refine HT.out.mono ?_
      rintro e w1 ⟨rfl, hb1⟩
      go_wp2_with fail
      refine (HW.out _).mono ?_
      rintro e w' ⟨rfl, rfl⟩
      go_wp2_with fail
      go_ret
      exact retL_nil' Hr.out hb1 rfl
    | true =>
      have hf := formB_t hv
      obtain ⟨m, rfl⟩ := Int.eq_ofNat_of_zero_le (show 0 ≤ i by omega)
      have hr := formBits_y hv hw
      simp only [Int.toNat_natCast] at hr
      rw [hz] at hr
      have Hr := Lib.hid hr
      have HQ := Lib.hid (fun W (hb : Below w.heap.size w W) => bitsFor_any m word A n c B gs W (h.next hb hB) (Nat.le_trans hB hb.size) hz hv hw)
      have HW := Lib.hid (fun W => implWordValid_any (m : Int) word W)
      rw [hw] at HW
      rw [hv] at HT
      have hn1 : 1 ≤ n ∧ n ≤ 3 ∧ m ≤ 3 := by omega
      clear hv hw h hz hf hr
      go_enter Try.func28, Try.ntmps28
      go_wp2_with fail
      refine HT.out.mono ?_
      rintro e w1 ⟨rfl, hb1⟩
      go_wp2_with fail
      refine (HW.out _).mono ?_
      rintro e w' ⟨rfl, rfl⟩
      go_wp2_with fail
      refine (HQ.out _ hb1).mono ?_
      rintro e w2 ⟨A2, c2, rfl, hc2, ho2, hb2⟩
      go_wp2_with fail
      go_ret
      rw [Hr.out]
      exact ⟨A2, c2, by rw [List.length_drop]; rfl, hc2, ho2.mono hb1.size, bnext hb1 hb2 (Nat.le_refl _)⟩
end Go.Proofs.Ytfnebpocngjcmaa
