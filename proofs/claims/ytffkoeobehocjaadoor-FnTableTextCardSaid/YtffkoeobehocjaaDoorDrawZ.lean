/- What spec.DrawTableText and spec.DrawReadTable draw. -/
import Derived.Test.YtffkoeobehocjaaDoorDrawT
import Derived.Test.YtffkoeobehocjaaDoorTdS
import Derived.Test.YtffkoeobehocjaaDoorDig
import Derived.Deep.RegionHeld3
namespace Go.Proofs.YtffkoeobehocjaaDoor
open Go.RowKit
set_option linter.unusedVariables false
set_option linter.unusedSimpArgs false

set_option maxHeartbeats 32000000 in
set_option maxRecDepth 50000 in
theorem l20Table3_rd (n : Int) (r p : Nat) (w : World) (h : Rd w r p) (hp : p ≤ 990000) (hn : n ≤ 9223372036854775807) :
    Calls Tryd.prog 37 #[.pointer (some ⟨r, 0, none⟩), .int .i64 3, .int .i64 n] w fun e w' => DrawnT w.heap.size w e w' ∧ Rd w' r (p + 600) ∧ w.grownBy w' (some r) := by
  obtain ⟨ii, hi, hz0, hz1, hz2⟩ := info_parts info_int
  have hrl := h.lt
  have C0 := Lib.hid (pick_rd 3 r p w h (by omega) (by omega))
  go_enter Tryd.func37, Tryd.ntmps37
  go_wp2_with fail
  refine C0.out.mono ?_
  rintro e w0 ⟨v0, rfl, ⟨v00, v01, _⟩, hr0, hg0⟩
  have hfr0 := (From.refl w.heap.size r w).only hg0 (Nat.le_refl _) (fun q e => .inr (Option.some.inj e).symm)
  have hs0 := hg0.size
  have hl14 : 1 ≤ 1 + v0 ∧ 1 + v0 ≤ 4 := by omega
  clear C0 h hg0
  go_wp2_with fail
  obtain ⟨l, hl⟩ : ∃ l, l = 1 + v0 := ⟨_, rfl⟩
  rw [← hl] at hl14 ⊢
  clear hl v00 v01
  have hpw := pw_bd (l := l) (by omega) (by omega)
  have hpw16 : pw l ≤ 16 := by
    have h4 : l = 1 ∨ l = 2 ∨ l = 3 ∨ l = 4 := by omega
    rcases h4 with rfl | rfl | rfl | rfl <;> decide
  obtain ⟨M, hM⟩ : ∃ M : Nat, (M : Int) = pw l := ⟨(pw l).toNat, by omega⟩
  have hM2 : 2 ≤ M ∧ M ≤ 16 := by omega
  have hsh := shl_one (l := l) (by omega) (by omega)
  obtain ⟨P, eP⟩ : ∃ P, P = pw l := ⟨_, rfl⟩
  have HPW := Lib.hid hM
  rw [← eP] at hsh hM
  have HM := Lib.hid hM
  clear hpw hpw16 hM eP
  have own0 := World.ownsRow_made (base := w.heap.size) (e := 3) (size := 1) w0 #[] 0 hs0 (by simp [maxLen]) rfl
  go_loopg [9, 10] M (fun gh v i wr => ∃ (k g cap : Nat) (L : List Int), k ≤ M ∧ gh = M - k ∧ i = .int .i64 k ∧ v = .slice (some ⟨g, 0, none⟩) k cap ∧ w.heap.size ≤ g ∧ L.length = k ∧ k ≤ cap ∧ cap ≤ maxLen ∧ wr.ownsRow w.heap.size 3 1 (.slice (some ⟨g, 0, none⟩) k cap) k (L.map (Value.int .i64)) ∧ Rd wr r (p + 1 + k) ∧ From w.heap.size r w wr)
  case atStart => exact ⟨0, w0.heap.size, 0, [], by omega, rfl, rfl, rfl, hs0, rfl, by omega, by simp [maxLen], own0, hr0.alloc _, hfr0.alloc hs0 _⟩
  case round =>
    obtain ⟨k, g, cap, L, hk, hgh, rfl, rfl, hgB, hL, hkc, hcm, hown, hrd, hfr⟩ := hrel
    unfold maxLen at hcm
    have HL := Lib.hid hL
    have Hg := Lib.hid hgh
    clear hL hgh
    have hsz := hfr.2.2.2.1
    have hgl := (hown.lt g rfl).2
    by_cases hlt : k < M
    · have hlt' : (k : Int) < P := by have := HM.out; omega
      have CP := Lib.hid (pick_rd ((k : Int) + 1) r (p + 1 + k) wr hrd (by omega) (by omega))
      go_wp2_with fail
      refine CP.out.mono ?_
      rintro e w1 ⟨t', rfl, ⟨t0, t1, _⟩, hrd1, hg1⟩
      obtain ⟨t, rfl⟩ := Int.eq_ofNat_of_zero_le t0
      have htk : t ≤ k := by omega
      have hs1 := hg1.size
      have own1 := hown.kept hg1 (.inr (by simp [Value.ownBlock]; omega))
      have hfr1 := hfr.only hg1 hsz (fun q e => by cases e; exact .inr rfl)
      have hmd := World.ownsRow_made (base := w.heap.size) (e := 3) (size := 1) w1 #[] 0 (by omega) (by simp [maxLen]) rfl
      have hgl1 : g < w1.heap.size := by omega
      have rd1 := (own_reads (own1.alloc (Obj.cells #[] 3)) rfl).cut htk hkc
      clear hown hrd hfr hg1 CP
      have one1 : ∀ u ∈ (L.map (Value.int .i64)).drop t, u.oneCell' = true := fun u hu => ints_one L u (List.mem_of_mem_drop hu)
      have hLk := HL.out
      by_cases hct : cap = t
      · have hkt : t = k := by omega
        subst hkt
        have hct2 := hct.symm
        subst hct2
        clear hLk hct
        rw [if_pos rfl, Nat.sub_self, Nat.mul_one] at rd1
        go_wp2_with (first
          | (at_builtin; refine wpList_append_any _ rfl (.tmp 28) (.tmp 31) _ rfl w.heap.size 3 ii _ 1 8 Tryd.underlying22 hi hz0 hz1 hz2 rfl (by omega) (.slice (some ⟨w1.heap.size, 0, none⟩) 0 0) 0 [] rfl hmd _ _ 0 0 ((L.map (Value.int .i64)).drop t) rfl rd1 one1 (by unfold maxLen; omega) (by omega) (by simp; omega) ?_; intro vA wA ownA grA atA; simp only [Nat.zero_add, List.nil_append] at ownA; obtain ⟨AA, cA, eA, hcA⟩ := own_shape ownA; subst eA; have grA' : (w1.alloc (Obj.cells #[] 3)).grownBy wA (some w1.heap.size) := grA; have ownP := own_take ((own1.alloc (Obj.cells #[] 3)).kept grA (.inr (by simp [Value.ownBlock]; omega))) htk; have sA := grA.size; simp only [World.size_alloc] at sA)
          | (at_builtin; refine wpList_append_any _ rfl (.tmp 35) (.tmp 37) _ rfl w.heap.size 3 ii _ 1 8 Tryd.underlying22 hi hz0 hz1 hz2 rfl (by omega) (.slice (some ⟨g, 0, none⟩) t t) t ((L.map (Value.int .i64)).take t) rfl (ownP.alloc _) _ (some ⟨wA.heap.size, 0, none⟩) 1 1 [.int .i64 t] rfl (reads_new1 wA _ _) (by simp [Value.oneCell']) (by unfold maxLen; omega) (by omega) (by simp; omega) ?_; intro vB wB ownB grB atB; have ownA2 := (ownA.alloc (Obj.cells #[.int .i64 t] 3)).kept grB (.inr (fun e => by rcases atA with h | h <;> rw [h] at e <;> (have := Option.some.inj e; simp at this; omega))); have sB := grB.size; simp only [World.size_alloc] at sB)
          | (at_builtin; refine wpList_append_any _ rfl (.tmp 38) (.tmp 39) _ rfl w.heap.size 3 ii _ 1 8 Tryd.underlying22 hi hz0 hz1 hz2 rfl (by omega) vB (t + 1) _ rfl ownB _ AA 0 cA ((L.map (Value.int .i64)).drop t) rfl (own_reads ownA2 rfl) one1 (by unfold maxLen; omega) (by omega) (by omega) ?_; intro vC wC ownC grC atC))
        go_wp2_with fail
        go_roundg (M - (t + 1))
        case measure => have := Hg.out; omega
        case rel =>
          obtain ⟨g', cap', L', rfl, q1, q2, q3, q4, q5, q6, q7⟩ := tab_round (x := t) (k := t) (t := t) (L := L) hrd1 hfr1 hrl (by omega) hgB hgl1 (by omega) HL.out grA' grB atB (by rw [Nat.sub_self]; simpa using ownC) grC
          exact ⟨t + 1, g', cap', L', by omega, rfl, by go_num, rfl, q1, q2, q3, q4, q5, q6.mono (by omega), q7⟩
      · rw [if_neg hct] at rd1
        simp only [Option.map_some, Nat.mul_one, add_off, Nat.zero_add] at rd1
        have hct' : t < cap := by omega
        clear hLk
        go_wp2_with (first
          | (at_builtin; refine wpList_append_any _ rfl (.tmp 28) (.tmp 31) _ rfl w.heap.size 3 ii _ 1 8 Tryd.underlying22 hi hz0 hz1 hz2 rfl (by omega) (.slice (some ⟨w1.heap.size, 0, none⟩) 0 0) 0 [] rfl hmd _ _ (k - t) (cap - t) ((L.map (Value.int .i64)).drop t) rfl rd1 one1 (by unfold maxLen; omega) (by omega) (by simp; omega) ?_; intro vA wA ownA grA atA; simp only [Nat.zero_add, List.nil_append] at ownA; obtain ⟨AA, cA, eA, hcA⟩ := own_shape ownA; subst eA; have grA' : (w1.alloc (Obj.cells #[] 3)).grownBy wA (some w1.heap.size) := grA; have ownP := own_take ((own1.alloc (Obj.cells #[] 3)).kept grA (.inr (by simp [Value.ownBlock]; omega))) htk; have sA := grA.size; simp only [World.size_alloc] at sA)
          | (at_builtin; refine wpList_append_any _ rfl (.tmp 35) (.tmp 37) _ rfl w.heap.size 3 ii _ 1 8 Tryd.underlying22 hi hz0 hz1 hz2 rfl (by omega) (.slice (some ⟨g, 0, none⟩) t cap) t ((L.map (Value.int .i64)).take t) rfl (ownP.alloc _) _ (some ⟨wA.heap.size, 0, none⟩) 1 1 [.int .i64 k] rfl (reads_new1 wA _ _) (by simp [Value.oneCell']) (by unfold maxLen; omega) (by omega) (by simp; omega) ?_; intro vB wB ownB grB atB; have ownA2 := (ownA.alloc (Obj.cells #[.int .i64 k] 3)).kept grB (.inr (fun e => by rcases atA with h | h <;> rw [h] at e <;> (have := Option.some.inj e; simp at this; omega))); have sB := grB.size; simp only [World.size_alloc] at sB)
          | (at_builtin; refine wpList_append_any _ rfl (.tmp 38) (.tmp 39) _ rfl w.heap.size 3 ii _ 1 8 Tryd.underlying22 hi hz0 hz1 hz2 rfl (by omega) vB (t + 1) _ rfl ownB _ AA (k - t) cA ((L.map (Value.int .i64)).drop t) rfl (own_reads ownA2 rfl) one1 (by unfold maxLen; omega) (by omega) (by omega) ?_; intro vC wC ownC grC atC))
        go_wp2_with fail
        go_roundg (M - (k + 1))
        case measure => have := Hg.out; omega
        case rel =>
          obtain ⟨g', cap', L', rfl, q1, q2, q3, q4, q5, q6, q7⟩ := tab_round (x := k) (k := k) (t := t) (L := L) hrd1 hfr1 hrl (by omega) hgB hgl1 (by omega) HL.out grA' grB atB (by simpa using ownC) grC
          exact ⟨k + 1, g', cap', L', by omega, rfl, by go_num, rfl, q1, q2, q3, q4, q5, q6.mono (by omega), q7⟩
    · have hlt' : ¬ (k : Int) < P := by have := HM.out; omega
      have hkM : k = M := by omega
      subst hkM
      have C3 := Lib.hid (pick_rd 3 r (p + 1 + k) wr hrd (by omega) (by omega))
      go_wp2_with fail
      refine C3.out.mono ?_
      rintro e w3 ⟨z, rfl, ⟨z0, z1, _⟩, hr3, hg3⟩
      have hf3 := hfr.only hg3 hsz (fun q e => .inr (Option.some.inj e).symm)
      have own3 := hown.kept hg3 (.inr (by simp [Value.ownBlock]; omega))
      have hs3 : w.heap.size ≤ w3.heap.size := hf3.2.2.2.1
      clear hown hrd hfr hg3 C3 hlt hlt' hgl
      go_upto_if 43 with fail
      go_cut [9] (fun s9 wx => ∃ (g cap : Nat) (L : List Int), s9 = .slice (some ⟨g, 0, none⟩) k cap ∧ w.heap.size ≤ g ∧ L.length = k ∧ k ≤ cap ∧ wx.ownsRow w.heap.size 3 1 (.slice (some ⟨g, 0, none⟩) k cap) k (L.map (Value.int .i64)) ∧ Rd wx r (p + 560) ∧ From w.heap.size r w wx)
      case first =>
        by_cases hz : z = 0
        · subst hz
          have CC := Lib.hid (l20CircuitV_rd l 6 6 r (p + 1 + k + 1) w3 hr3 (by omega) (by omega) (by omega) rfl)
          go_wp2_with fail
          refine CC.out.mono ?_
          rintro e w4 ⟨gs, A4, c4, rfl, ⟨h6, hall⟩, hc4, ho4, hr4, hg4⟩
          have hf4 := hf3.only hg4 hs3 (fun q e => .inr (Option.some.inj e).symm)
          have hcv : circB l gs = true := by
            unfold circB
            rw [hall, decide_eq_true (by omega), show inB l 1 8 = true from inB_of (by omega)]
            rfl
          have CT := Lib.hid (specTable_some l A4 gs.length c4 _ gs w4 (ho4.reads (n := gs.length) (size := 4) (by rw [gcells_len]) (by omega)) (Nat.le_refl _) rfl hc4 (by omega) hcv k HPW.out)
          have hs4 : w.heap.size ≤ w4.heap.size := hf4.2.2.2.1
          clear hall ho4 hg4 CC hcv own3
          go_wp2_with fail
          refine CT.out.mono ?_
          rintro e w5 ⟨v5, xs, rfl, hxs, own5, hb5⟩
          have hf5 := hf4.only (only_of_below hb5 none) hs4 (fun q e => by cases e)
          have hr5 := hr4.below hb5
          obtain ⟨g5, cap5, rfl, hg5, hgl5, hc5, hm5⟩ := own_pos own5 (by omega)
          have HX := Lib.hid (own_bas own5 hs4)
          clear own5 hb5 CT
          go_wp2_with fail
          go_meet
          exact ⟨g5, cap5, xs, rfl, by omega, hxs, hc5, HX.out, hr5.mono (by omega), hf5⟩
        · have hz' : (z == 0) = false := by simp [hz]
          clear hz
          go_wp2_with fail
          go_meet
          exact ⟨g, cap, L, rfl, hgB, HL.out, hkc, own3, hr3.mono (by omega), hf3⟩
      case rest =>
        clear own3 hr3 hf3 HL hgB hkc hcm z0 z1
        obtain ⟨g, cap, L, rfl, hgB, hL, hkc, hown, hrd, hfr⟩ := hcut
        have HL := Lib.hid hL
        have hgl := (hown.lt g rfl).2
        have hsz := hfr.2.2.2.1
        have CO := Lib.hid (odd_rd n r (p + 560) wc hrd (by omega) hn)
        clear hL
        go_wp2_with fail
        refine CO.out.mono ?_
        rintro e w5 ⟨b, rfl, hr5, hg5⟩
        have hf5 := hfr.only hg5 hsz (fun q e => .inr (Option.some.inj e).symm)
        have own5 := hown.kept hg5 (.inr (by simp [Value.ownBlock]; omega))
        have hs5 : w.heap.size ≤ w5.heap.size := hf5.2.2.2.1
        clear hown hrd hfr hg5 CO
        cases b with
        | false =>
          go_wp2_with fail
          go_ret2
          exact ⟨drawnT_of (by omega) (by omega) own5 (by omega) rfl, hr5.mono (by omega), hf5.grown⟩
        | true =>
          have C6 := Lib.hid (pick_rd 3 r (p + 560 + 1) w5 hr5 (by omega) (by omega))
          go_wp2_with fail
          refine C6.out.mono ?_
          rintro e w6 ⟨z, rfl, ⟨z0, z1, _⟩, hr6, hg6⟩
          have hf6 := hf5.only hg6 hs5 (fun q e => .inr (Option.some.inj e).symm)
          have hgl5 := (own5.lt g rfl).2
          have own6 := own5.kept hg6 (.inr (by simp [Value.ownBlock]; omega))
          have hs6 : w.heap.size ≤ w6.heap.size := hf6.2.2.2.1
          have hgl6 := (own6.lt g rfl).2
          have hz3 : z = 0 ∨ z = 1 ∨ z = 2 := by omega
          clear own5 hr5 hf5 hg6 C6 z0 z1
          rcases hz3 with rfl | rfl | rfl
          · go_wp2_with (at_builtin; refine wpList_append_own _ rfl _ _ 22 rfl w.heap.size 3 ii (.int .i64 0) 1 8 Tryd.underlying22 hi hz0 hz1 hz2 rfl (by decide) _ _ _ rfl (own6.alloc _) ⟨w6.heap.size, 0, none⟩ 1 1 [.int .i64 0] rfl rfl (cell_one_new _ _ _) (by simp [Value.oneCell']) (by unfold maxLen; omega) (by omega) (by simp; omega) ?_; intro v' w7 hown' hgrow _)
            have hgw : World.grownBy _ w7 (some g) := hgrow
            have hf7 := (hf6.alloc hs6 (.cells #[.int .i64 0] 3)).only hgw (by simp; omega) (fun q e => by cases e; exact .inl hgB)
            have hr7 := (hr6.alloc (.cells #[.int .i64 0] 3)).onlyO hgw (fun q e => by cases e; omega)
            have own7 : w7.ownsRow w.heap.size 3 1 v' (k + 1) ((L ++ [0]).map (Value.int .i64)) := by simpa using hown'
            clear hown' hgrow hgw
            go_wp2_with fail
            go_ret2
            exact ⟨drawnT_of (by omega) (by omega) own7 (by omega) rfl, hr7.mono (by omega), hf7.grown⟩
          · obtain ⟨cur, hbk, hcs, htk⟩ : ∃ cur, Blk w6 g 3 cur ∧ cur.size = cap ∧ cur.toList.take k = L.map (Value.int .i64) := by
              rcases own6.2 with ⟨h, _⟩ | ⟨g', cap', cur, he, hg, hh, hc, hm, hs, ht⟩
              · cases h
              · cases he
                exact ⟨cur, hh, by omega, by rw [Nat.mul_one] at ht; exact ht⟩
            have hcm6 : cap ≤ maxLen := by
              rcases own6.2 with ⟨h, _⟩ | ⟨g', cap', cur, he, hg, hh, hc, hm, hs, ht⟩
              · cases h
              · cases he
                exact hm
            obtain ⟨x, hx⟩ : ∃ x, x = L.getD (k - 1) 0 := ⟨_, rfl⟩
            have hcl : w6.cell? ⟨g, k - 1, none⟩ = some (.int .i64 x) := by
              rw [hbk.cell]
              have hln := HL.out
              have h1 : (L.map (Value.int .i64))[k - 1]? = some (.int .i64 x) := by
                rw [List.getElem?_map, hx, List.getD_eq_getElem?_getD, List.getElem?_eq_getElem (by omega)]
                rfl
              rw [← htk, List.getElem?_take] at h1
              split at h1
              · simpa using h1
              · cases h1
            have hf0 := hbk.frozen 0
            have hc0 : ∃ u, w6.cell? ⟨g, 0, none⟩ = some u := by
              rw [hbk.cell]
              exact ⟨cur[0]'(by omega), Array.getElem?_eq_getElem (by omega)⟩
            obtain ⟨u0, hu0⟩ := hc0
            have hg1 : w6.grownBy (w6.setCell ⟨g, 0, none⟩ (.int .i64 x)) (some g) := only_setCell (p := ⟨g, 0, none⟩) (World.grownBy.refl _ _) (Or.inl rfl) _
            have hf7 := hf6.only hg1 hs6 (fun q e => by cases e; exact .inl hgB)
            have hr7 := hr6.onlyO hg1 (fun q e => by cases e; omega)
            have own7 : (w6.setCell ⟨g, 0, none⟩ (.int .i64 x)).ownsRow w.heap.size 3 1 (.slice (some ⟨g, 0, none⟩) k cap) k ((L.set 0 x).map (Value.int .i64)) := by
              refine ⟨by have := HL.out; simp; omega, .inr ⟨g, cap, cur.setIfInBounds 0 (.int .i64 x), rfl, hgB, hbk.set_ 0 _, hkc, hcm6, by simp; omega, ?_⟩⟩
              rw [Array.toList_setIfInBounds, Nat.mul_one, List.take_set, htk, List.map_set]
            have hkl : ((k - 1 : Nat) : Int) = (k : Int) - 1 := by omega
            have hk1 : ∃ j : Nat, k = j + 1 := ⟨k - 1, by omega⟩
            obtain ⟨j, rfl⟩ := hk1
            rw [Nat.add_sub_cancel] at hcl
            have HO7 := Lib.hid own7
            have HR7 := Lib.hid hr7
            have HF7 := Lib.hid hf7
            clear hg1 htk hcs hbk own7 hr7 hf7 hkl own6 hx
            go_wp2_with fail
            go_ret2
            exact ⟨drawnT_of (by omega) (by omega) HO7.out (by omega) rfl, HR7.out.mono (by omega), HF7.out.grown⟩
          · have C7a := Lib.hid (pick_rd 2 r (p + 560 + 1 + 1) (w6.alloc (.cells #[.int .i64 0, .int .i64 9] 3)) (hr6.alloc _) (by omega) (by omega))
            have hf6a := hf6.alloc hs6 (.cells #[.int .i64 0, .int .i64 9] 3)
            have own6a := own6.alloc (.cells #[.int .i64 0, .int .i64 9] 3)
            have hr6l := hr6.lt
            clear own6 hf6 hr6
            go_wp2_with fail
            refine C7a.out.mono ?_
            rintro e w7 ⟨v, rfl, ⟨v0, v1, _⟩, hr7, hg7⟩
            have hf7 := hf6a.only hg7 (by simp; omega) (fun q e => .inr (Option.some.inj e).symm)
            have own7 := own6a.kept hg7 (.inr (by simp [Value.ownBlock]; omega))
            obtain ⟨x, hx, hy⟩ := pair_cell 0 9 v v0 (by omega)
            have hbx : Blk w7 w6.heap.size 3 #[.int .i64 0, .int .i64 9] := (Blk.new w6 _ _).grown hg7 (fun e => by have := Option.some.inj e; omega)
            have hcx := (hbx.cell v.toNat).trans hy
            have v3 : v < 2 := by omega
            have hx09 : 0 ≤ x ∧ x ≤ 9 := by omega
            clear C7a hy v1 hx hbx hg7 hf6a own6a
            go_wp2_with fail
            go_ret2
            exact ⟨drawnT_of (by omega) (by omega) own7 (by omega) rfl, hr7.mono (by omega), hf7.grown⟩

theorem drawTableText_any (A : Option Addr) (n c : Nat) (zs : List Int) (w : World) (h : IntsIn .u8 w A n c zs) :
    Calls Tryd.prog 16 #[.slice A n c] w fun e w' => DrawnT w.heap.size w e w' ∧ Below w.heap.size w w' := by
  go_enter Tryd.func16, Tryd.ntmps16
  go_wp2_with fail
  refine (l20Open_any A n c zs w h).mono ?_
  rintro e w1 ⟨r, rfl, hr, hd, hb⟩
  have hd' : Rd w1 r 0 := ⟨0, Nat.le_refl _, hd⟩
  go_wp2_with fail
  refine (l20Table_rd 6 r 0 w1 hd' (by omega) (by omega)).mono ?_
  rintro e w2 ⟨⟨l, xs, A2, c2, rfl, l0, l9, h3, hc, ho⟩, hr2, hg2⟩
  have hb2 := below_of_only hb hg2 hr hb.size
  have hs := hb.size
  go_wp2_with fail
  go_ret2
  exact ⟨⟨l, xs, A2, c2, rfl, l0, l9, h3, hc, ho.mono hs⟩, hb2⟩

theorem joinTail_len3 (r : List (List UInt8)) (h : ∀ x ∈ r, x.length ≤ 21) : (Lib.joinTail [32] r).length ≤ 22 * r.length := by
  induction r with
  | nil => simp [Lib.joinTail]
  | cons a r ih =>
    have h1 := h a (by simp)
    have h2 := ih fun x hx => h x (by simp [hx])
    have e : Lib.joinTail [32] (a :: r) = [32] ++ a ++ Lib.joinTail [32] r := by simp [Lib.joinTail]
    rw [e, List.length_append, List.length_append, List.length_cons]
    simp only [List.length_cons, List.length_nil]
    omega
theorem join_len3 (r : List (List UInt8)) (h : ∀ x ∈ r, x.length ≤ 21) : (Lib.join r [32]).length ≤ 22 * r.length := by
  cases r with
  | nil => simp [Lib.join, List.intercalate]
  | cons a r =>
    rw [Lib.join_cons, List.length_append, List.length_cons]
    have h1 := h a (by simp)
    have h2 := joinTail_len3 r fun x hx => h x (by simp [hx])
    omega
theorem tabTx_len (l : Int) (xs : List Int) (h : xs.length ≤ 17) : (tabTx l xs).length ≤ 1000 := by
  cases hv : tblB l xs with
  | false => unfold tabTx; rw [hv]; simp
  | true =>
    rw [tab_join hv]
    have := join_len3 (xs.map fun z => Lib.decDigits z.toNat) (fun x hx => by
      rw [List.mem_map] at hx
      obtain ⟨z, hz, rfl⟩ := hx
      obtain ⟨v, rfl, hv2⟩ := tab_ent hv z hz
      rw [Int.toNat_natCast]
      exact Nat.le_trans (dec_len 3 v (by omega)) (by omega))
    rw [List.length_map] at this
    omega
theorem four_cell (v : Int) (h0 : 0 ≤ v) (h1 : v < 4) : ∃ z : List UInt8, z.length ≤ 2 ∧ (#[.string ⟨#[]⟩, .string ⟨#[48]⟩, .string ⟨#[32]⟩, .string ⟨#[55]⟩] : Array Value)[v.toNat]? = some (.string ⟨z.toArray⟩) := by
  have : v = 0 ∨ v = 1 ∨ v = 2 ∨ v = 3 := by omega
  rcases this with rfl | rfl | rfl | rfl
  · exact ⟨[], by simp, rfl⟩
  · exact ⟨[48], by simp, rfl⟩
  · exact ⟨[32], by simp, rfl⟩
  · exact ⟨[55], by simp, rfl⟩

set_option maxHeartbeats 4000000 in
set_option maxRecDepth 50000 in
theorem drawReadTable_any (A : Option Addr) (n c : Nat) (zs : List Int) (w : World) (h : IntsIn .u8 w A n c zs) :
    Calls Tryd.prog 22 #[.slice A n c] w fun e w' => (∃ l : List UInt8, e = .returned (.string ⟨l.toArray⟩) ∧ l.length ≤ 2100) ∧ Below w.heap.size w w' := by
  go_enter Tryd.func22, Tryd.ntmps22
  go_wp2_with fail
  refine (l20Open_any A n c zs w h).mono ?_
  rintro e w1 ⟨r, rfl, hr, hd, hb⟩
  have hd' : Rd w1 r 0 := ⟨0, Nat.le_refl _, hd⟩
  clear h hd
  go_wp2_with fail
  refine (l20Table3_rd 0 r 0 w1 hd' (by omega) (by omega)).mono ?_
  rintro e w3 ⟨⟨ln, xs, A2, c2, rfl, l0, l9, h3, hc, ho⟩, hr3, hg3⟩
  have hb3 := below_of_only hb hg3 hr hb.size
  have hs3 := hg3.size
  have CG := specTableText_all ln A2 xs.length c2 w3.heap.size xs w3 (ho.reads (n := xs.length) (size := 1) (by simp) (by omega)) (Nat.le_refl _) rfl hc (by omega)
  have hlen := tabTx_len ln xs h3
  obtain ⟨l, el⟩ : ∃ l, l = tabTx ln xs := ⟨_, rfl⟩
  rw [← el] at CG hlen
  obtain ⟨s, es⟩ : ∃ s : ByteArray, s = ⟨l.toArray⟩ := ⟨_, rfl⟩
  have hsz : s.size = l.length := by rw [es]; simp [ByteArray.size]
  have EX := Lib.hid (fun a b => (by rw [es]; exact ByteArray.extract_mk l a b : s.extract a b = ⟨((l.drop a).take (b - a)).toArray⟩))
  rw [← es] at CG
  have ES := Lib.hid es
  clear el es hg3 hb ho hd' hc h3 hs3
  go_wp2_with fail
  refine CG.mono ?_
  rintro e w4 ⟨rfl, hb4⟩
  have hr4 := hr3.below hb4
  have hb04 := bnext hb3 hb4 (Nat.le_refl _)
  clear CG hb3 hb4 hr3
  go_wp2_with fail
  refine (pick_rd 3 r _ w4 hr4 (by omega) (by omega)).mono ?_
  rintro e w5 ⟨q, rfl, ⟨q0, q1, _⟩, hr5, hg5⟩
  have hb5 := below_of_only hb04 hg5 hr hb04.size
  clear hb04 hg5 hr4
  by_cases hq : q = 0
  · by_cases hl : 0 < l.length
    · have hl' : (0 : Int) < (l.length : Int) := by omega
      have hq' : (q == 0) = true := by simp [hq]
      subst hq
      go_wp2_with fail
      refine (pick_rd (l.length : Int) r _ w5 hr5 (by omega) (by omega)).mono ?_
      rintro e w6 ⟨k, rfl, ⟨k0, k1, _⟩, hr6, hg6⟩
      have hb6 := below_of_only hb5 hg6 hr hb5.size
      clear hb5 hg6 hr5
      obtain ⟨m, rfl⟩ : ∃ m : Nat, k = (m : Int) := ⟨k.toNat, by omega⟩
      have hm : m < l.length := by omega
      have x1 := EX.out 0 m
      have x2 := EX.out (m + 1) l.length
      obtain ⟨y1, ey1⟩ : ∃ y, y = (l.drop 0).take (m - 0) := ⟨_, rfl⟩
      obtain ⟨y2, ey2⟩ : ∃ y, y = (l.drop (m + 1)).take (l.length - (m + 1)) := ⟨_, rfl⟩
      have hy1 : y1.length ≤ 1000 := by rw [ey1]; simp; omega
      have hy2 : y2.length ≤ 1000 := by rw [ey2]; simp; omega
      rw [← ey1] at x1
      rw [← ey2] at x2
      clear ey1 ey2
      have hmk : IntKind.i64.wrap ((m : Int) + 1) = (m : Int) + 1 := IntWalk.i64_in _ (by omega)
      have hmt : ((m : Int) + 1).toNat = m + 1 := by omega
      have hmm : (m : Int) ≤ (s.size : Int) := by omega
      have hm1 : (m : Int) + 1 ≤ (s.size : Int) := by omega
      have hm0 : 0 ≤ (m : Int) + 1 := by omega
      have hml : m ≤ l.length := by omega
      have hml1 : (m : Int) + 1 ≤ (l.length : Int) := by omega
      have ha := hr6.alloc (Obj.cells #[.string ⟨#[]⟩, .string ⟨#[48]⟩, .string ⟨#[32]⟩, .string ⟨#[55]⟩] 9)
      go_wp2_with fail
      have A1 := fun (z : List UInt8) (hz : z.length ≤ 2) W => add_tx y1 z (by omega) (by omega) W
      have A2 := fun (z : List UInt8) (hz : z.length ≤ 2) W => add_tx (y1 ++ z) y2 (by simp; omega) (by omega) W
      have HA := Lib.hid (And.intro A1 A2)
      clear A1 A2
      have hl6 := hr6.lt
      have hsm : m ≤ s.size := by omega
      have hsm1 : m + 1 ≤ s.size := by omega
      have P1 := Lib.hid (pick_rd 4 r _ (w6.alloc (Obj.cells #[.string ⟨#[]⟩, .string ⟨#[48]⟩, .string ⟨#[32]⟩, .string ⟨#[55]⟩] 9)).drew ha.drew (by omega) (by omega))
      have P2 := Lib.hid (pick_rd 4 r _ w6.drew hr6.drew (by omega) (by omega))
      have T1 : Hid (∀ (w7 : World) (v : Int), 0 ≤ v → (v < 4 ∨ v = 0) → (w6.alloc (Obj.cells #[.string ⟨#[]⟩, .string ⟨#[48]⟩, .string ⟨#[32]⟩, .string ⟨#[55]⟩] 9)).drew.grownBy w7 (some r) → ∃ x : List UInt8, x.length ≤ 2 ∧ w7.cell? ⟨w6.heap.size, v.toNat, none⟩ = some (.string ⟨x.toArray⟩)) := Lib.hid (by
        intro w7 v v0 v1 hg7
        obtain ⟨x, hx, hy⟩ := four_cell v v0 (by omega)
        have hb : Blk w7 w6.heap.size 9 #[.string ⟨#[]⟩, .string ⟨#[48]⟩, .string ⟨#[32]⟩, .string ⟨#[55]⟩] := (Blk.new w6 _ _).drew.grown hg7 (fun e => by cases e; omega)
        exact ⟨x, hx, (hb.cell v.toNat).trans hy⟩)
      have T2 : Hid (∀ (w7 : World) (v : Int), 0 ≤ v → (v < 4 ∨ v = 0) → ∃ x : List UInt8, x.length ≤ 2 ∧ (w7.alloc (Obj.cells #[.string ⟨#[]⟩, .string ⟨#[48]⟩, .string ⟨#[32]⟩, .string ⟨#[55]⟩] 9)).cell? ⟨w7.heap.size, v.toNat, none⟩ = some (.string ⟨x.toArray⟩)) := Lib.hid (by
        intro w7 v v0 v1
        obtain ⟨x, hx, hy⟩ := four_cell v v0 (by omega)
        exact ⟨x, hx, ((Blk.new w7 9 #[.string ⟨#[]⟩, .string ⟨#[48]⟩, .string ⟨#[32]⟩, .string ⟨#[55]⟩]).cell v.toNat).trans hy⟩)
      refine wp_region_noPanic ?_
      refine wp_region_held_drew (S := fun _ => True) (by kernel_rfl) trivial (fun hHeld => ?_)
      refine wpAnyH_take (i := 0) (oi := _) (v := ?_) rfl (by kernel_rfl) (by kernel_rfl) (by kernel_rfl) (fun _ _ _ h => h) (Or.inl ⟨by rfl, ?_⟩) (by assumption) ?_
      rotate_left
      · (intro w hSw; (try dsimp only at hSw); go_simp; try with_reducible rfl)
      (try simp only [List.getElem_toArray, List.getElem_cons_zero, List.getElem_cons_succ, Act.put, List.setIfInBounds_toArray, List.set_cons_zero, List.set_cons_succ])
      refine wpAnyH_take (i := 1) (oi := _) (v := ?_) rfl (by kernel_rfl) (by kernel_rfl) (by kernel_rfl) (fun _ _ _ h => h) (Or.inl ⟨by rfl, ?_⟩) (by assumption) ?_
      rotate_left
      · (intro w hSw; (try dsimp only at hSw); go_simp; try with_reducible rfl)
      (try simp only [List.getElem_toArray, List.getElem_cons_zero, List.getElem_cons_succ, Act.put, List.setIfInBounds_toArray, List.set_cons_zero, List.set_cons_succ])
      refine wpAnyH_take (i := 2) (oi := _) (v := ?_) rfl (by kernel_rfl) (by kernel_rfl) (by kernel_rfl) (fun _ _ _ h => h) (Or.inl ⟨by rfl, ?_⟩) (by assumption) ?_
      rotate_left
      · (intro w hSw; (try dsimp only at hSw); go_simp; try with_reducible rfl)
      (try simp only [List.getElem_toArray, List.getElem_cons_zero, List.getElem_cons_succ, Act.put, List.setIfInBounds_toArray, List.set_cons_zero, List.set_cons_succ])
      refine wpAnyH_take (i := 4) (oi := _) (v := ?_) rfl (by kernel_rfl) (by kernel_rfl) (by kernel_rfl) (fun _ _ _ h => h) (Or.inl ⟨by rfl, ?_⟩) (by assumption) ?_
      rotate_left
      · (intro w hSw; (try dsimp only at hSw); go_simp; try with_reducible rfl)
      (try simp only [List.getElem_toArray, List.getElem_cons_zero, List.getElem_cons_succ, Act.put, List.setIfInBounds_toArray, List.set_cons_zero, List.set_cons_succ])
      refine wpAnyH_take (i := 9) (oi := _) (v := ?_) rfl (by kernel_rfl) (by kernel_rfl) (by kernel_rfl) (fun _ _ _ h => h) (Or.inl ⟨by rfl, ?_⟩) (by assumption) ?_
      rotate_left
      · (intro w hSw; (try dsimp only at hSw); go_simp; try with_reducible rfl)
      (try simp only [List.getElem_toArray, List.getElem_cons_zero, List.getElem_cons_succ, Act.put, List.setIfInBounds_toArray, List.set_cons_zero, List.set_cons_succ])
      refine wpAnyH_take (i := 10) (oi := _) (v := ?_) rfl (by kernel_rfl) (by kernel_rfl) (by kernel_rfl) (fun _ _ _ h => h) (Or.inl ⟨by rfl, ?_⟩) (by assumption) ?_
      rotate_left
      · (intro w hSw; (try dsimp only at hSw); go_simp; try with_reducible rfl)
      (try simp only [List.getElem_toArray, List.getElem_cons_zero, List.getElem_cons_succ, Act.put, List.setIfInBounds_toArray, List.set_cons_zero, List.set_cons_succ])
      refine wpAnyH_take (i := 11) (oi := _) (v := ?_) rfl (by kernel_rfl) (by kernel_rfl) (by kernel_rfl) (fun _ _ _ h => h) (Or.inl ⟨by rfl, ?_⟩) (by assumption) ?_
      rotate_left
      · (intro w hSw; (try dsimp only at hSw); go_simp; try with_reducible rfl)
      (try simp only [List.getElem_toArray, List.getElem_cons_zero, List.getElem_cons_succ, Act.put, List.setIfInBounds_toArray, List.set_cons_zero, List.set_cons_succ])
      refine wpAnyH_take (i := 12) (oi := _) (v := ?_) rfl (by kernel_rfl) (by kernel_rfl) (by kernel_rfl) (fun _ _ _ h => h) (Or.inl ⟨by rfl, ?_⟩) (by assumption) ?_
      rotate_left
      · (intro w hSw; (try dsimp only at hSw); go_simp; try with_reducible rfl)
      (try simp only [List.getElem_toArray, List.getElem_cons_zero, List.getElem_cons_succ, Act.put, List.setIfInBounds_toArray, List.set_cons_zero, List.set_cons_succ])
      refine wpAnyH_ready (rs := [3, 5]) (by kernel_rfl) (by simp) ?_
      refine AllReadyH.cons (o := _) rfl (fun K hK => ?_) (AllReadyH.cons (o := _) rfl (fun K hK => ?_) AllReadyH.nil)
      · go_simp
        go_wp2_with fail
        refine hK.out _ _ trivial (fun hHeld => ?_)
        clear hK K
        (try simp only [List.getElem_toArray, List.getElem_cons_zero, List.getElem_cons_succ, Act.put, List.setIfInBounds_toArray, List.set_cons_zero, List.set_cons_succ])
        refine wpAnyH_ready (rs := [5]) (by kernel_rfl) (by simp) ?_
        refine AllReadyH.cons (o := _) rfl (fun K hK => ?_) AllReadyH.nil
        go_simp
        ((refine P1.out.mono ?_; rintro e w7 ⟨v, rfl, ⟨v0, v1, v2⟩, hr7, hg7⟩; obtain ⟨x, hx, hc1⟩ := T1.out w7 v v0 v1 hg7; have v3 : v < 4 := (by omega); have A1 := fun W => HA.out.1 x hx W; have A2 := fun W => HA.out.2 x hx W))
        go_wp2_with fail
        refine hK.out _ _ trivial (fun hHeld => ?_)
        clear hK K
        (try simp only [List.getElem_toArray, List.getElem_cons_zero, List.getElem_cons_succ, Act.put, List.setIfInBounds_toArray, List.set_cons_zero, List.set_cons_succ])
        refine wpAnyH_take (i := 6) (oi := _) (v := ?_) rfl (by kernel_rfl) (by kernel_rfl) (by kernel_rfl) (fun _ _ _ h => h) (Or.inl ⟨by rfl, ?_⟩) (by assumption) ?_
        rotate_left
        · (intro w hSw; (try dsimp only at hSw); go_simp; try with_reducible rfl)
        (try simp only [List.getElem_toArray, List.getElem_cons_zero, List.getElem_cons_succ, Act.put, List.setIfInBounds_toArray, List.set_cons_zero, List.set_cons_succ])
        refine wpAnyH_ready (rs := [7]) (by kernel_rfl) (by simp) ?_
        refine AllReadyH.cons (o := _) rfl (fun K hK => ?_) AllReadyH.nil
        go_simp
        (skip)
        go_wp2_with fail
        refine hK.out _ _ trivial (fun hHeld => ?_)
        clear hK K
        (try simp only [List.getElem_toArray, List.getElem_cons_zero, List.getElem_cons_succ, Act.put, List.setIfInBounds_toArray, List.set_cons_zero, List.set_cons_succ])
        refine wpAnyH_take (i := 8) (oi := _) (v := ?_) rfl (by kernel_rfl) (by kernel_rfl) (by kernel_rfl) (fun _ _ _ h => h) (Or.inl ⟨by rfl, ?_⟩) (by assumption) ?_
        rotate_left
        · (intro w hSw; (try dsimp only at hSw); go_simp; try with_reducible rfl)
        (try simp only [List.getElem_toArray, List.getElem_cons_zero, List.getElem_cons_succ, Act.put, List.setIfInBounds_toArray, List.set_cons_zero, List.set_cons_succ])
        refine wpAnyH_take (i := 13) (oi := _) (v := ?_) rfl (by kernel_rfl) (by kernel_rfl) (by kernel_rfl) (fun _ _ _ h => h) (Or.inl ⟨by rfl, ?_⟩) (by assumption) ?_
        rotate_left
        · (intro w hSw; (try dsimp only at hSw); go_simp; try with_reducible rfl)
        (try simp only [List.getElem_toArray, List.getElem_cons_zero, List.getElem_cons_succ, Act.put, List.setIfInBounds_toArray, List.set_cons_zero, List.set_cons_succ])
        refine wpAnyH_take (i := 14) (oi := _) (v := ?_) rfl (by kernel_rfl) (by kernel_rfl) (by kernel_rfl) (fun _ _ _ h => h) (Or.inl ⟨by rfl, ?_⟩) (by assumption) ?_
        rotate_left
        · (intro w hSw; (try dsimp only at hSw); go_simp; try with_reducible rfl)
        (try simp only [List.getElem_toArray, List.getElem_cons_zero, List.getElem_cons_succ, Act.put, List.setIfInBounds_toArray, List.set_cons_zero, List.set_cons_succ])
        refine wpAnyH_done (by kernel_rfl) ?_ _
        refine NoPanic.normal ?_
        go_wp2_with fail
        go_ret
        exact ⟨⟨y1 ++ (x ++ y2), rfl, by simp; omega⟩, below_of_only hb6 (only_trans (only_drew (only_alloc (World.grownBy.refl _ _) _)) hg7) hr hb6.size⟩
      · go_simp
        (refine P2.out.mono ?_; rintro e w7 ⟨v, rfl, ⟨v0, v1, v2⟩, hr7, hg7⟩; obtain ⟨x, hx, hc1⟩ := T2.out w7 v v0 v1; have v3 : v < 4 := (by omega); have A1 := fun W => HA.out.1 x hx W; have A2 := fun W => HA.out.2 x hx W)
        go_wp2_with fail
        refine hK.out _ _ trivial (fun hHeld => ?_)
        clear hK K
        (try simp only [List.getElem_toArray, List.getElem_cons_zero, List.getElem_cons_succ, Act.put, List.setIfInBounds_toArray, List.set_cons_zero, List.set_cons_succ])
        refine wpAnyH_ready (rs := [3]) (by kernel_rfl) (by simp) ?_
        refine AllReadyH.cons (o := _) rfl (fun K hK => ?_) AllReadyH.nil
        go_simp
        (skip)
        go_wp2_with fail
        refine hK.out _ _ trivial (fun hHeld => ?_)
        clear hK K
        (try simp only [List.getElem_toArray, List.getElem_cons_zero, List.getElem_cons_succ, Act.put, List.setIfInBounds_toArray, List.set_cons_zero, List.set_cons_succ])
        refine wpAnyH_take (i := 6) (oi := _) (v := ?_) rfl (by kernel_rfl) (by kernel_rfl) (by kernel_rfl) (fun _ _ _ h => h) (Or.inl ⟨by rfl, ?_⟩) (by assumption) ?_
        rotate_left
        · (intro w hSw; (try dsimp only at hSw); go_simp; try with_reducible rfl)
        (try simp only [List.getElem_toArray, List.getElem_cons_zero, List.getElem_cons_succ, Act.put, List.setIfInBounds_toArray, List.set_cons_zero, List.set_cons_succ])
        refine wpAnyH_ready (rs := [7]) (by kernel_rfl) (by simp) ?_
        refine AllReadyH.cons (o := _) rfl (fun K hK => ?_) AllReadyH.nil
        go_simp
        (skip)
        go_wp2_with fail
        refine hK.out _ _ trivial (fun hHeld => ?_)
        clear hK K
        (try simp only [List.getElem_toArray, List.getElem_cons_zero, List.getElem_cons_succ, Act.put, List.setIfInBounds_toArray, List.set_cons_zero, List.set_cons_succ])
        refine wpAnyH_take (i := 8) (oi := _) (v := ?_) rfl (by kernel_rfl) (by kernel_rfl) (by kernel_rfl) (fun _ _ _ h => h) (Or.inl ⟨by rfl, ?_⟩) (by assumption) ?_
        rotate_left
        · (intro w hSw; (try dsimp only at hSw); go_simp; try with_reducible rfl)
        (try simp only [List.getElem_toArray, List.getElem_cons_zero, List.getElem_cons_succ, Act.put, List.setIfInBounds_toArray, List.set_cons_zero, List.set_cons_succ])
        refine wpAnyH_take (i := 13) (oi := _) (v := ?_) rfl (by kernel_rfl) (by kernel_rfl) (by kernel_rfl) (fun _ _ _ h => h) (Or.inl ⟨by rfl, ?_⟩) (by assumption) ?_
        rotate_left
        · (intro w hSw; (try dsimp only at hSw); go_simp; try with_reducible rfl)
        (try simp only [List.getElem_toArray, List.getElem_cons_zero, List.getElem_cons_succ, Act.put, List.setIfInBounds_toArray, List.set_cons_zero, List.set_cons_succ])
        refine wpAnyH_take (i := 14) (oi := _) (v := ?_) rfl (by kernel_rfl) (by kernel_rfl) (by kernel_rfl) (fun _ _ _ h => h) (Or.inl ⟨by rfl, ?_⟩) (by assumption) ?_
        rotate_left
        · (intro w hSw; (try dsimp only at hSw); go_simp; try with_reducible rfl)
        (try simp only [List.getElem_toArray, List.getElem_cons_zero, List.getElem_cons_succ, Act.put, List.setIfInBounds_toArray, List.set_cons_zero, List.set_cons_succ])
        refine wpAnyH_done (by kernel_rfl) ?_ _
        refine NoPanic.normal ?_
        go_wp2_with fail
        go_ret
        exact ⟨⟨y1 ++ (x ++ y2), rfl, by simp; omega⟩, below_of_only hb6 (only_trans (only_drew (World.grownBy.refl _ _)) (only_alloc hg7 _)) hr hb6.size⟩
    · have hl' : ¬ (0 : Int) < (l.length : Int) := by omega
      have hq' : (q == 0) = true := by simp [hq]
      subst hq
      have es := ES.out
      subst es
      go_wp2_with fail
      go_ret
      exact ⟨⟨l, rfl, by omega⟩, hb5⟩
  · have hq' : (q == 0) = false := by simp [hq]
    have es := ES.out
    subst es
    go_wp2_with fail
    go_ret
    exact ⟨⟨l, rfl, by omega⟩, hb5⟩
end Go.Proofs.YtffkoeobehocjaaDoor
