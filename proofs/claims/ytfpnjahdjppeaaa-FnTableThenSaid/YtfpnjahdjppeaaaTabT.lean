/- Contracts of both TableThen and TableKeeps. -/
import Derived.Test.YtfpnjahdjppeaaaTabA
namespace Go.Proofs.Ytfpnjahdjppeaaa
open Go.RowKit
set_option linter.unusedVariables false

/-- one table behind another one -/
def thenL (xs ys : List Int) : List Int := xs.map fun x => ys.getD x.toNat 0
theorem thenL_len (xs ys : List Int) : (thenL xs ys).length = xs.length := by simp [thenL]
theorem thenL_snoc (xs ys : List Int) {k : Nat} (hk : k < xs.length) : (thenL xs ys).take (k + 1) = (thenL xs ys).take k ++ [ys.getD (xs.getD k 0).toNat 0] := by
  rw [List.take_succ_eq_append_getElem (by rw [thenL_len]; exact hk)]
  simp [thenL, List.getD, List.getElem?_eq_getElem hk]
/-- what TableThen answers -/
def tblThen (l : Int) (xs ys : List Int) : List Int := if (tblB l xs && tblB l ys) = true then thenL xs ys else []
theorem tblThen_y {l : Int} {xs ys : List Int} (h : tblB l xs = true) (h' : tblB l ys = true) : tblThen l xs ys = thenL xs ys := if_pos (by rw [h, h']; rfl)
theorem tblThen_n {l : Int} {xs ys : List Int} (h : tblB l xs = false ∨ tblB l ys = false) : tblThen l xs ys = [] := if_neg (by rcases h with h | h <;> rw [h] <;> simp)
theorem tblThen_bd (l : Int) (xs ys : List Int) (h : xs.length ≤ 1048576) : (tblThen l xs ys).length ≤ 1048576 := by
  unfold tblThen
  split
  · rw [thenL_len]; exact h
  · simp

set_option maxHeartbeats 1000000 in
theorem implTableThen_any (l : Int) (A : Option Addr) (n c B : Nat) (xs : List Int) (A' : Option Addr) (n' c' B' : Nat) (ys : List Int) (w : World) (h : Reads w B 1 A n (xs.map (Value.int .i64))) (hB : B ≤ w.heap.size) (hz : xs.length = n) (hc : n ≤ c) (hn : n ≤ 1048576)
    (h' : Reads w B' 1 A' n' (ys.map (Value.int .i64))) (hB' : B' ≤ w.heap.size) (hz' : ys.length = n') (hc' : n' ≤ c') (hn' : n' ≤ 1048576) :
    Calls Try.prog 17 #[.int .i64 l, .slice A n c, .slice A' n' c'] w fun e w' => RetL (tblThen l xs ys) w e w' := by
  have HT := Lib.hid (implTableValid_any l A n c B xs w h hB hz hc (by omega))
  have HT' := Lib.hid (fun W (hb : Below w.heap.size w W) => implTableValid_any l A' n' c' B' ys W (h'.next hb hB') (Nat.le_trans hB' hb.size) hz' hc' (by omega))
  cases hv : tblB l xs with
  | false =>
    have Hr := Lib.hid (tblThen_n (l := l) (xs := xs) (ys := ys) (.inl hv))
    rw [hv] at HT
    clear hv h hz h' hz'
    go_enter Try.func17, Try.ntmps17
    go_wp2_with fail
    refine HT.out.mono ?_
    rintro e w1 ⟨rfl, hb1⟩
    go_wp2_with fail
    go_ret
    exact retL_nil' Hr.out hb1 rfl
  | true =>
    cases hv' : tblB l ys with
    | false =>
      have Hr := Lib.hid (tblThen_n (l := l) (xs := xs) (ys := ys) (.inr hv'))
      rw [hv] at HT
      rw [hv'] at HT'
      clear hv hv' h hz h' hz'
      go_enter Try.func17, Try.ntmps17
      go_wp2_with fail
      refine HT.out.mono ?_
      rintro e w1 ⟨rfl, hb1⟩
      go_wp2_with fail
      refine (HT'.out _ hb1).mono ?_
      rintro e w2 ⟨rfl, hb2⟩
      go_wp2_with fail
      go_ret
      exact retL_nil' Hr.out (bnext hb1 hb2 (Nat.le_refl _)) rfl
    | true =>
      have Hr := Lib.hid (tblThen_y hv hv')
      rw [hv] at HT
      rw [hv'] at HT'
      have hbd := tblB_bd hv
      have hl1 := (tblB_t hv).2.1
      have hl2 := (tblB_t hv').2.1
      have hnn : n = n' := by omega
      have HA := Lib.hid (fun k (hk : k < xs.length) => tblB_at hv hk)
      have HR := Lib.hid h
      have HR' := Lib.hid h'
      have HZ := Lib.hid hz
      have HZ' := Lib.hid hz'
      rw [hz] at hbd
      have hmk := mk_cap n hn
      obtain ⟨ii, hi, hz0, hz1, hz2⟩ := info_parts infoInt
      have hbn := hbd.2.1
      have HN := Lib.hid hnn
      clear h hz hv h' hz' hv' hbd hl1 hl2 hnn
      go_enter Try.func17, Try.ntmps17
      go_wp2_with fail
      refine HT.out.mono ?_
      rintro e w1 ⟨rfl, hb1⟩
      go_wp2_with fail
      refine (HT'.out _ hb1).mono ?_
      rintro e w2 ⟨rfl, hb2⟩
      have hb12 := bnext hb1 hb2 (Nat.le_refl _)
      have hs2 := hb12.size
      clear HT HT' hb1 hb2
      go_wp2_with fail
      clear hmk
      go_loopw [7, 25] (fun v i wr => ∃ k : Nat, k ≤ n ∧ i = .int .i64 k ∧ wr.ownsRow w.heap.size 3 1 v k (((thenL xs ys).take k).map (Value.int .i64)) ∧ Below w.heap.size w wr) (fun _ i _ => n - (intOf i).toNat)
      case atStart =>
        exact ⟨0, Nat.zero_le _, rfl, by simpa using World.ownsRow_made (base := w.heap.size) (e := 3) (size := 1) w2 (madeCells #[.int .i64 0] n) n hs2 (by unfold maxLen; omega) (by simp [size_madeCells]), hb12.alloc hs2 _⟩
      case round =>
        obtain ⟨k, hk, rfl, hown, hb⟩ := hrel
        have hs := hb.size
        have hlw := hown.lt
        by_cases hlt : k < n
        · obtain ⟨b, o, rfl, hbB, hcell⟩ := HR.out.open1 HZ.out (by omega)
          obtain ⟨b', o', rfl, hbB', hcell'⟩ := HR'.out.open1 HZ'.out (by have := HN.out; omega)
          obtain ⟨t, ht1, ht2⟩ := HA.out k (by have := HZ.out; omega)
          have htn : t < n' := by have := HZ.out; have := HN.out; omega
          have hc1 : wr.cell? ⟨b, o + k, none⟩ = some (.int .i64 t) := (hb.cell (p := ⟨b, o + k, none⟩) (by simp; omega)).trans (by rw [← ht1]; exact hcell k hlt)
          obtain ⟨z, hz⟩ : ∃ z, z = ys.getD t 0 := ⟨_, rfl⟩
          have hc2 : wr.cell? ⟨b', o' + t, none⟩ = some (.int .i64 z) := (hb.cell (p := ⟨b', o' + t, none⟩) (by simp; omega)).trans (by rw [hz]; exact hcell' t htn)
          have Hsn : Hid ((thenL xs ys).take (k + 1) = (thenL xs ys).take k ++ [z]) := Lib.hid (by rw [thenL_snoc xs ys (by have := HZ.out; omega), ht1, hz]; rfl)
          clear hcell hcell' ht1 hz
          have hlt' : (k : Int) < (n : Int) := by omega
          have htn' : (t : Int) < (n' : Int) := by omega
          go_wp2_with (at_builtin; refine wpList_append_own _ rfl _ _ 23 rfl w.heap.size 3 ii (.int .i64 0) 1 8 Try.underlying23 hi hz0 hz1 hz2 rfl (by decide) _ _ _ rfl (hown.alloc _) ⟨wr.heap.size, 0, none⟩ 1 1 [.int .i64 z] rfl rfl (cell_one_new _ _ _) (by simp [Value.oneCell']) (by unfold maxLen; omega) (by omega) (by simp; omega) ?_; intro v' w3 hown' hgrow _)
          have hb' := (hb.alloc hs (Obj.cells #[.int .i64 z] 3)).grown hgrow (by simp; omega) (fun q e => (hlw q e).1)
          clear hown hlw
          go_wp2_with fail
          go_roundw
          case rel => exact ⟨k + 1, by omega, by go_num, by rw [Hsn.out]; simpa using hown', hb'⟩
          case measure => simp [intOf]; omega
        · have hlt' : ¬ (k : Int) < (n : Int) := by omega
          have hkn : k = n := by omega
          go_wp2_with fail
          go_ret
          rw [Hr.out]
          rw [List.take_of_length_le (by rw [thenL_len, HZ.out]; omega)] at hown
          exact retL_acc hown hb rfl

set_option maxHeartbeats 1000000 in
theorem specTableThen_any (l : Int) (A : Option Addr) (n c B : Nat) (xs : List Int) (A' : Option Addr) (n' c' B' : Nat) (ys : List Int) (w : World) (h : Reads w B 1 A n (xs.map (Value.int .i64))) (hB : B ≤ w.heap.size) (hz : xs.length = n) (hc : n ≤ c) (hn : n ≤ 1048576)
    (h' : Reads w B' 1 A' n' (ys.map (Value.int .i64))) (hB' : B' ≤ w.heap.size) (hz' : ys.length = n') (hc' : n' ≤ c') (hn' : n' ≤ 1048576) :
    Calls Try.prog 22 #[.int .i64 l, .slice A n c, .slice A' n' c'] w fun e w' => RetL (tblThen l xs ys) w e w' := by
  have HT := Lib.hid (fun W (hb : Below w.heap.size w W) => Calls.drewBelow (specTableValid_any l A n c B xs W (h.next hb hB) hz hc (by omega)))
  have HT' := Lib.hid (fun W (hb : Below w.heap.size w W) => Calls.drewBelow (specTableValid_any l A' n' c' B' ys W (h'.next hb hB') hz' hc' (by omega)))
  by_cases h0 : n = 0
  · subst h0
    have hxs : xs = [] := List.eq_nil_of_length_eq_zero hz
    have Hr : Hid (tblThen l xs ys = []) := Lib.hid (by subst hxs; unfold tblThen; split <;> rfl)
    clear h hz h' hz' hxs HT HT'
    go_enter Try.func22, Try.ntmps22
    go_wp2_with fail
    refine wp_loop_rounds 1 ?_
    rw [rounds_succ]
    go_wp2_with fail
    go_ret
    exact retL_nil' Hr.out ((Below.refl _ _).alloc (Nat.le_refl _) _) rfl
  · cases hv : tblB l xs with
    | false =>
      have Hr := Lib.hid (tblThen_n (l := l) (xs := xs) (ys := ys) (.inl hv))
      rw [hv] at HT
      have hn0 : (0 : Int) < (n : Int) := by omega
      clear hv h hz h' hz'
      go_enter Try.func22, Try.ntmps22
      go_wp2_with fail
      refine wp_loop_rounds 1 ?_
      rw [rounds_succ]
      go_wp2_with fail
      refine (HT.out _ ((Below.refl _ _).alloc (Nat.le_refl _) _)).mono ?_
      rintro e w1 ⟨rfl, hb1⟩
      go_wp2_with fail
      go_ret
      exact retL_nil' Hr.out (((Below.refl _ _).alloc (Nat.le_refl _) _).trans (hb1.mono (by simp))) rfl
    | true =>
      cases hv' : tblB l ys with
      | false =>
        have Hr := Lib.hid (tblThen_n (l := l) (xs := xs) (ys := ys) (.inr hv'))
        rw [hv] at HT
        rw [hv'] at HT'
        have hn0 : (0 : Int) < (n : Int) := by omega
        clear hv hv' h hz h' hz'
        go_enter Try.func22, Try.ntmps22
        go_wp2_with fail
        refine wp_loop_rounds 1 ?_
        rw [rounds_succ]
        go_wp2_with fail
        have hb0 := (Below.refl w.heap.size w).alloc (Nat.le_refl _) (Obj.cells #[] 3)
        refine (HT.out _ hb0).mono ?_
        rintro e w1 ⟨rfl, hb1⟩
        have hb01 := hb0.trans (hb1.mono (by simp))
        go_wp2_with fail
        refine (HT'.out _ hb01).mono ?_
        rintro e w2 ⟨rfl, hb2⟩
        go_wp2_with fail
        go_ret
        exact retL_nil' Hr.out (bnext hb01 hb2 (Nat.le_refl _)) rfl
      | true =>
        have Hr := Lib.hid (tblThen_y hv hv')
        rw [hv] at HT
        rw [hv'] at HT'
        have hbd := tblB_bd hv
        have hl1 := (tblB_t hv).2.1
        have hl2 := (tblB_t hv').2.1
        have hnn : n = n' := by omega
        have HA := Lib.hid (fun k (hk : k < xs.length) => tblB_at hv hk)
        have HR := Lib.hid h
        have HR' := Lib.hid h'
        have HZ := Lib.hid hz
        have HZ' := Lib.hid hz'
        rw [hz] at hbd
        obtain ⟨ii, hi, hz0, hz1, hz2⟩ := info_parts infoInt
        have hbn := hbd.2.1
        have HN := Lib.hid hnn
        clear h hz hv h' hz' hv' hbd hl1 hl2 hnn h0
        go_enter Try.func22, Try.ntmps22
        go_wp2_with fail
        go_loopw [7, 8] (fun v i wr => ∃ k : Nat, k ≤ n ∧ i = .int .i64 k ∧ wr.ownsRow w.heap.size 3 1 v k (((thenL xs ys).take k).map (Value.int .i64)) ∧ Below w.heap.size w wr) (fun _ i _ => n - (intOf i).toNat)
        case atStart =>
          exact ⟨0, Nat.zero_le _, rfl, by simpa using World.ownsRow_made (base := w.heap.size) (e := 3) (size := 1) w #[] 0 (Nat.le_refl _) (by simp [maxLen]) rfl, (Below.refl _ _).alloc (Nat.le_refl _) _⟩
        case round =>
          obtain ⟨k, hk, rfl, hown, hb⟩ := hrel
          have hlw := hown.lt
          by_cases hlt : k < n
          · have hlt' : (k : Int) < (n : Int) := by omega
            go_wp2_with fail
            refine (HT.out _ hb).mono ?_
            rintro e w1 ⟨rfl, hb1⟩
            have hx1 := bnext hb hb1 (Nat.le_refl _)
            go_wp2_with fail
            refine (HT'.out _ hx1).mono ?_
            rintro e w2 ⟨rfl, hb2⟩
            have hx2 := bnext hx1 hb2 (Nat.le_refl _)
            have own2 := own_next (own_next hown hb1) hb2
            have hlw2 := own2.lt
            have hs := hx2.size
            obtain ⟨b, o, rfl, hbB, hcell⟩ := HR.out.open1 HZ.out (by omega)
            obtain ⟨b', o', rfl, hbB', hcell'⟩ := HR'.out.open1 HZ'.out (by have := HN.out; omega)
            obtain ⟨t, ht1, ht2⟩ := HA.out k (by have := HZ.out; omega)
            have htn : t < n' := by have := HZ.out; have := HN.out; omega
            have hc1 : w2.cell? ⟨b, o + k, none⟩ = some (.int .i64 t) := (hx2.cell (p := ⟨b, o + k, none⟩) (by simp; omega)).trans (by rw [← ht1]; exact hcell k hlt)
            obtain ⟨z, hz⟩ : ∃ z, z = ys.getD t 0 := ⟨_, rfl⟩
            have hc2 : w2.cell? ⟨b', o' + t, none⟩ = some (.int .i64 z) := (hx2.cell (p := ⟨b', o' + t, none⟩) (by simp; omega)).trans (by rw [hz]; exact hcell' t htn)
            have Hsn : Hid ((thenL xs ys).take (k + 1) = (thenL xs ys).take k ++ [z]) := Lib.hid (by rw [thenL_snoc xs ys (by have := HZ.out; omega), ht1, hz]; rfl)
            clear hcell hcell' ht1 hz hlw hown hb hb1 hb2 hx1
            have htn' : (t : Int) < (n' : Int) := by omega
            go_wp2_with (at_builtin; refine wpList_append_own _ rfl _ _ 23 rfl w.heap.size 3 ii (.int .i64 0) 1 8 Try.underlying23 hi hz0 hz1 hz2 rfl (by decide) _ _ _ rfl (own2.alloc _) ⟨w2.heap.size, 0, none⟩ 1 1 [.int .i64 z] rfl rfl (cell_one_new _ _ _) (by simp [Value.oneCell']) (by unfold maxLen; omega) (by omega) (by simp; omega) ?_; intro v' w3 hown' hgrow _)
            have hb' := (hx2.alloc hs (Obj.cells #[.int .i64 z] 3)).grown hgrow (by simp; omega) (fun q e => (hlw2 q e).1)
            clear own2 hlw2
            go_wp2_with fail
            go_roundw
            case rel => exact ⟨k + 1, by omega, by go_num, by rw [Hsn.out]; simpa using hown', hb'⟩
            case measure => simp [intOf]; omega
          · have hlt' : ¬ (k : Int) < (n : Int) := by omega
            have hkn : k = n := by omega
            go_wp2_with fail
            go_ret
            rw [Hr.out]
            rw [List.take_of_length_le (by rw [thenL_len, HZ.out]; omega)] at hown
            exact retL_acc hown hb rfl
end Go.Proofs.Ytfpnjahdjppeaaa
