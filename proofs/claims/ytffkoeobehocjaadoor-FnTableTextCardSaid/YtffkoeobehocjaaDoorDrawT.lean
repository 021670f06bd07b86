/- Contract of l20Table: some table is drawn. -/
import Derived.Test.YtffkoeobehocjaaDoorDrawCV
import Derived.Test.YtffkoeobehocjaaDoorRunT
import Derived.Test.YtffkoeobehocjaaDoorDraws4
namespace Go.Proofs.YtffkoeobehocjaaDoor
open Go.RowKit
set_option linter.unusedVariables false
set_option linter.unusedSimpArgs false

/-- a number of lines and some numbers were drawn -/
def DrawnT (B : Nat) (w : World) (e : Ending) (w' : World) : Prop :=
  ∃ (l : Int) (xs : List Int) (A : Option Addr) (c : Nat), e = .returned (.tuple #[.int .i64 l, .slice A xs.length c]) ∧ 0 ≤ l ∧ l ≤ 9 ∧ xs.length ≤ 17 ∧ xs.length ≤ c ∧ Own w' B A (xs.map (Value.int .i64))
theorem drawnT_of {w w' : World} {l : Int} {xs : List Int} {v : Value} {n : Nat} {t : TypeId} (l0 : 0 ≤ l) (l9 : l ≤ 9) (ho : w'.ownsRow w.heap.size t 1 v n (xs.map (Value.int .i64))) (hn : n ≤ 17) {e : Ending} (he : e = .returned (.tuple #[.int .i64 l, v])) : DrawnT w.heap.size w e w' := by
  have h1 := ho.1
  rw [List.length_map, Nat.mul_one] at h1
  subst h1
  obtain ⟨A, c, rfl, hc⟩ := own_shape ho
  exact ⟨l, xs, A, c, he, l0, l9, hn, hc, (owns_own ho).1⟩

theorem own_bas {w : World} {base base' e size n : Nat} {v : Value} {xs : List Value} (h : w.ownsRow base e size v n xs) (hb : base' ≤ base) : w.ownsRow base' e size v n xs := by
  refine ⟨h.1, ?_⟩
  rcases h.2 with h | ⟨g, cap, cur, e1, e2, e3⟩
  · exact .inl h
  · exact .inr ⟨g, cap, cur, e1, Nat.le_trans hb e2, e3⟩
/-- what a round of the shuffle leaves -/
theorem tab_round {w w1 wA wB wC : World} {r p k t g : Nat} {L : List Int} {vB vC : Value} {o : Obj} {x : Int}
    (hrd : Rd w1 r p) (hfr : From w.heap.size r w w1) (hr : r < w.heap.size) (hs1 : w.heap.size ≤ w1.heap.size) (hg : w.heap.size ≤ g) (hg1 : g < w1.heap.size) (htk : t ≤ k) (hL : L.length = k)
    (grA : (w1.alloc o).grownBy wA (some w1.heap.size))
    (grB : (wA.alloc (.cells #[.int .i64 x] 3)).grownBy wB (some g)) (atB : vB.ownBlock = some g ∨ vB.ownBlock = some (wA.alloc (.cells #[.int .i64 x] 3)).heap.size)
    (ownC : wC.ownsRow w.heap.size 3 1 vC (t + 1 + (k - t)) ((L.map (Value.int .i64)).take t ++ [.int .i64 x] ++ (L.map (Value.int .i64)).drop t)) (grC : wB.grownBy wC vB.ownBlock) :
    ∃ (g' cap' : Nat) (L' : List Int), vC = .slice (some ⟨g', 0, none⟩) (k + 1) cap' ∧ w.heap.size ≤ g' ∧ L'.length = k + 1 ∧ k + 1 ≤ cap' ∧ cap' ≤ maxLen ∧ wC.ownsRow w.heap.size 3 1 (.slice (some ⟨g', 0, none⟩) (k + 1) cap') (k + 1) (L'.map (Value.int .i64)) ∧
      Rd wC r p ∧ From w.heap.size r w wC := by
  have e1 : t + 1 + (k - t) = k + 1 := by omega
  rw [e1] at ownC
  obtain ⟨g', cap', rfl, h1, h2, h3, h4⟩ := own_pos ownC (by omega)
  have sA := grA.size
  have sB := grB.size
  simp at sA sB
  have rowB : ∀ q, vB.ownBlock = some q → w.heap.size ≤ q := fun q e => by
    rcases atB with h | h <;> rw [h] at e <;> cases e
    · exact hg
    · simp; omega
  refine ⟨g', cap', L.take t ++ [x] ++ L.drop t, rfl, by omega, by simp [List.length_take, List.length_drop]; omega, h3, h4, by simpa using ownC, ?_, ?_⟩
  · refine ((((hrd.alloc o).onlyO grA (fun q e => by cases e; omega)).alloc _).onlyO grB (fun q e => by cases e; omega)).onlyO grC (fun q e => by have := rowB q e; omega)
  · refine ((((hfr.alloc (by omega) o).only grA (by simp; omega) (fun q e => by cases e; exact .inl (by omega))).alloc (by omega) _).only grB (by simp; omega) (fun q e => by cases e; exact .inl (by omega))).only grC (by omega) (fun q e => .inl (by have := rowB q e; omega))

set_option maxHeartbeats 32000000 in
set_option maxRecDepth 50000 in
theorem l20Table_rd (n : Int) (r p : Nat) (w : World) (h : Rd w r p) (hp : p ≤ 990000) (hn : n ≤ 9223372036854775807) :
    Calls Tryd.prog 37 #[.pointer (some ⟨r, 0, none⟩), .int .i64 4, .int .i64 n] w fun e w' => DrawnT w.heap.size w e w' ∧ Rd w' r (p + 600) ∧ w.grownBy w' (some r) := by
  obtain ⟨ii, hi, hz0, hz1, hz2⟩ := info_parts info_int
  have hrl := h.lt
  have C0 := Lib.hid (pick_rd 4 r p w h (by omega) (by omega))
  go_enter Tryd.func37, Tryd.ntmps37
  go_wp2_with fail
  refine C0.out.mono ?_
  rintro e w0 ⟨v0, rfl, ⟨v00, v01, _⟩, hr0, hg0⟩
  have hfr0 := (From.refl w.heap.size r w).only hg0 (Nat.le_refl _) (fun q e => .inr (Option.some.inj e).symm)
  have hs0 := hg0.size
  have hl14 : 1 ≤ 1 + v0 ∧ 1 + v0 ≤ 4 := by omega
  clear C0 h hg0
  go_wp2_with fail
  obtain ⟨l, hl⟩ : ∃ l, l = 1 + v0 := ⟨_, rfl⟩
  rw [← hl] at hl14 ⊢
  clear hl v00 v01
  have hpw := pw_bd (l := l) (by omega) (by omega)
  have hpw16 : pw l ≤ 16 := by
    have h4 : l = 1 ∨ l = 2 ∨ l = 3 ∨ l = 4 := by omega
    rcases h4 with rfl | rfl | rfl | rfl <;> decide
  obtain ⟨M, hM⟩ : ∃ M : Nat, (M : Int) = pw l := ⟨(pw l).toNat, by omega⟩
  have hM2 : 2 ≤ M ∧ M ≤ 16 := by omega
  have hsh := shl_one (l := l) (by omega) (by omega)
  obtain ⟨P, eP⟩ : ∃ P, P = pw l := ⟨_, rfl⟩
  have HPW := Lib.hid hM
  rw [← eP] at hsh hM
  have HM := Lib.hid hM
  clear hpw hpw16 hM eP
  have own0 := World.ownsRow_made (base := w.heap.size) (e := 3) (size := 1) w0 #[] 0 hs0 (by simp [maxLen]) rfl
  go_loopg [9, 10] M (fun gh v i wr => ∃ (k g cap : Nat) (L : List Int), k ≤ M ∧ gh = M - k ∧ i = .int .i64 k ∧ v = .slice (some ⟨g, 0, none⟩) k cap ∧ w.heap.size ≤ g ∧ L.length = k ∧ k ≤ cap ∧ cap ≤ maxLen ∧ wr.ownsRow w.heap.size 3 1 (.slice (some ⟨g, 0, none⟩) k cap) k (L.map (Value.int .i64)) ∧ Rd wr r (p + 1 + k) ∧ From w.heap.size r w wr)
  case atStart => exact ⟨0, w0.heap.size, 0, [], by omega, rfl, rfl, rfl, hs0, rfl, by omega, by simp [maxLen], own0, hr0.alloc _, hfr0.alloc hs0 _⟩
  case round =>
    obtain ⟨k, g, cap, L, hk, hgh, rfl, rfl, hgB, hL, hkc, hcm, hown, hrd, hfr⟩ := hrel
    unfold maxLen at hcm
    have HL := Lib.hid hL
    have Hg := Lib.hid hgh
    clear hL hgh
    have hsz := hfr.2.2.2.1
    have hgl := (hown.lt g rfl).2
    by_cases hlt : k < M
    · have hlt' : (k : Int) < P := by have := HM.out; omega
      have CP := Lib.hid (pick_rd ((k : Int) + 1) r (p + 1 + k) wr hrd (by omega) (by omega))
      go_wp2_with fail
      refine CP.out.mono ?_
      rintro e w1 ⟨t', rfl, ⟨t0, t1, _⟩, hrd1, hg1⟩
      obtain ⟨t, rfl⟩ := Int.eq_ofNat_of_zero_le t0
      have htk : t ≤ k := by omega
      have hs1 := hg1.size
      have own1 := hown.kept hg1 (.inr (by simp [Value.ownBlock]; omega))
      have hfr1 := hfr.only hg1 hsz (fun q e => by cases e; exact .inr rfl)
      have hmd := World.ownsRow_made (base := w.heap.size) (e := 3) (size := 1) w1 #[] 0 (by omega) (by simp [maxLen]) rfl
      have hgl1 : g < w1.heap.size := by omega
      have rd1 := (own_reads (own1.alloc (Obj.cells #[] 3)) rfl).cut htk hkc
      clear hown hrd hfr hg1 CP
      have one1 : ∀ u ∈ (L.map (Value.int .i64)).drop t, u.oneCell' = true := fun u hu => ints_one L u (List.mem_of_mem_drop hu)
      have hLk := HL.out
      by_cases hct : cap = t
      · have hkt : t = k := by omega
        subst hkt
        have hct2 := hct.symm
        subst hct2
        clear hLk hct
        rw [if_pos rfl, Nat.sub_self, Nat.mul_one] at rd1
        go_wp2_with (first
          | (at_builtin; refine wpList_append_any _ rfl (.tmp 28) (.tmp 31) _ rfl w.heap.size 3 ii _ 1 8 Tryd.underlying22 hi hz0 hz1 hz2 rfl (by omega) (.slice (some ⟨w1.heap.size, 0, none⟩) 0 0) 0 [] rfl hmd _ _ 0 0 ((L.map (Value.int .i64)).drop t) rfl rd1 one1 (by unfold maxLen; omega) (by omega) (by simp; omega) ?_; intro vA wA ownA grA atA; simp only [Nat.zero_add, List.nil_append] at ownA; obtain ⟨AA, cA, eA, hcA⟩ := own_shape ownA; subst eA; have grA' : (w1.alloc (Obj.cells #[] 3)).grownBy wA (some w1.heap.size) := grA; have ownP := own_take ((own1.alloc (Obj.cells #[] 3)).kept grA (.inr (by simp [Value.ownBlock]; omega))) htk; have sA := grA.size; simp only [World.size_alloc] at sA)
          | (at_builtin; refine wpList_append_any _ rfl (.tmp 35) (.tmp 37) _ rfl w.heap.size 3 ii _ 1 8 Tryd.underlying22 hi hz0 hz1 hz2 rfl (by omega) (.slice (some ⟨g, 0, none⟩) t t) t ((L.map (Value.int .i64)).take t) rfl (ownP.alloc _) _ (some ⟨wA.heap.size, 0, none⟩) 1 1 [.int .i64 t] rfl (reads_new1 wA _ _) (by simp [Value.oneCell']) (by unfold maxLen; omega) (by omega) (by simp; omega) ?_; intro vB wB ownB grB atB; have ownA2 := (ownA.alloc (Obj.cells #[.int .i64 t] 3)).kept grB (.inr (fun e => by rcases atA with h | h <;> rw [h] at e <;> (have := Option.some.inj e; simp at this; omega))); have sB := grB.size; simp only [World.size_alloc] at sB)
          | (at_builtin; refine wpList_append_any _ rfl (.tmp 38) (.tmp 39) _ rfl w.heap.size 3 ii _ 1 8 Tryd.underlying22 hi hz0 hz1 hz2 rfl (by omega) vB (t + 1) _ rfl ownB _ AA 0 cA ((L.map (Value.int .i64)).drop t) rfl (own_reads ownA2 rfl) one1 (by unfold maxLen; omega) (by omega) (by omega) ?_; intro vC wC ownC grC atC))
        go_wp2_with fail
        go_roundg (M - (t + 1))
        case measure => have := Hg.out; omega
        case rel =>
          obtain ⟨g', cap', L', rfl, q1, q2, q3, q4, q5, q6, q7⟩ := tab_round (x := t) (k := t) (t := t) (L := L) hrd1 hfr1 hrl (by omega) hgB hgl1 (by omega) HL.out grA' grB atB (by rw [Nat.sub_self]; simpa using ownC) grC
          exact ⟨t + 1, g', cap', L', by omega, rfl, by go_num, rfl, q1, q2, q3, q4, q5, q6.mono (by omega), q7⟩
      · rw [if_neg hct] at rd1
        simp only [Option.map_some, Nat.mul_one, add_off, Nat.zero_add] at rd1
        have hct' : t < cap := by omega
        clear hLk
        go_wp2_with (first
          | (at_builtin; refine wpList_append_any _ rfl (.tmp 28) (.tmp 31) _ rfl w.heap.size 3 ii _ 1 8 Tryd.underlying22 hi hz0 hz1 hz2 rfl (by omega) (.slice (some ⟨w1.heap.size, 0, none⟩) 0 0) 0 [] rfl hmd _ _ (k - t) (cap - t) ((L.map (Value.int .i64)).drop t) rfl rd1 one1 (by unfold maxLen; omega) (by omega) (by simp; omega) ?_; intro vA wA ownA grA atA; simp only [Nat.zero_add, List.nil_append] at ownA; obtain ⟨AA, cA, eA, hcA⟩ := own_shape ownA; subst eA; have grA' : (w1.alloc (Obj.cells #[] 3)).grownBy wA (some w1.heap.size) := grA; have ownP := own_take ((own1.alloc (Obj.cells #[] 3)).kept grA (.inr (by simp [Value.ownBlock]; omega))) htk; have sA := grA.size; simp only [World.size_alloc] at sA)
          | (at_builtin; refine wpList_append_any _ rfl (.tmp 35) (.tmp 37) _ rfl w.heap.size 3 ii _ 1 8 Tryd.underlying22 hi hz0 hz1 hz2 rfl (by omega) (.slice (some ⟨g, 0, none⟩) t cap) t ((L.map (Value.int .i64)).take t) rfl (ownP.alloc _) _ (some ⟨wA.heap.size, 0, none⟩) 1 1 [.int .i64 k] rfl (reads_new1 wA _ _) (by simp [Value.oneCell']) (by unfold maxLen; omega) (by omega) (by simp; omega) ?_; intro vB wB ownB grB atB; have ownA2 := (ownA.alloc (Obj.cells #[.int .i64 k] 3)).kept grB (.inr (fun e => by rcases atA with h | h <;> rw [h] at e <;> (have := Option.some.inj e; simp at this; omega))); have sB := grB.size; simp only [World.size_alloc] at sB)
          | (at_builtin; refine wpList_append_any _ rfl (.tmp 38) (.tmp 39) _ rfl w.heap.size 3 ii _ 1 8 Tryd.underlying22 hi hz0 hz1 hz2 rfl (by omega) vB (t + 1) _ rfl ownB _ AA (k - t) cA ((L.map (Value.int .i64)).drop t) rfl (own_reads ownA2 rfl) one1 (by unfold maxLen; omega) (by omega) (by omega) ?_; intro vC wC ownC grC atC))
        go_wp2_with fail
        go_roundg (M - (k + 1))
        case measure => have := Hg.out; omega
        case rel =>
          obtain ⟨g', cap', L', rfl, q1, q2, q3, q4, q5, q6, q7⟩ := tab_round (x := k) (k := k) (t := t) (L := L) hrd1 hfr1 hrl (by omega) hgB hgl1 (by omega) HL.out grA' grB atB (by simpa using ownC) grC
          exact ⟨k + 1, g', cap', L', by omega, rfl, by go_num, rfl, q1, q2, q3, q4, q5, q6.mono (by omega), q7⟩
    · have hlt' : ¬ (k : Int) < P := by have := HM.out; omega
      have hkM : k = M := by omega
      subst hkM
      have C3 := Lib.hid (pick_rd 3 r (p + 1 + k) wr hrd (by omega) (by omega))
      go_wp2_with fail
      refine C3.out.mono ?_
      rintro e w3 ⟨z, rfl, ⟨z0, z1, _⟩, hr3, hg3⟩
      have hf3 := hfr.only hg3 hsz (fun q e => .inr (Option.some.inj e).symm)
      have own3 := hown.kept hg3 (.inr (by simp [Value.ownBlock]; omega))
      have hs3 : w.heap.size ≤ w3.heap.size := hf3.2.2.2.1
      clear hown hrd hfr hg3 C3 hlt hlt' hgl
      go_upto_if 43 with fail
      go_cut [9] (fun s9 wx => ∃ (g cap : Nat) (L : List Int), s9 = .slice (some ⟨g, 0, none⟩) k cap ∧ w.heap.size ≤ g ∧ L.length = k ∧ k ≤ cap ∧ wx.ownsRow w.heap.size 3 1 (.slice (some ⟨g, 0, none⟩) k cap) k (L.map (Value.int .i64)) ∧ Rd wx r (p + 560) ∧ From w.heap.size r w wx)
      case first =>
        by_cases hz : z = 0
        · subst hz
          have CC := Lib.hid (l20CircuitV_rd l 6 6 r (p + 1 + k + 1) w3 hr3 (by omega) (by omega) (by omega) rfl)
          go_wp2_with fail
          refine CC.out.mono ?_
          rintro e w4 ⟨gs, A4, c4, rfl, ⟨h6, hall⟩, hc4, ho4, hr4, hg4⟩
          have hf4 := hf3.only hg4 hs3 (fun q e => .inr (Option.some.inj e).symm)
          have hcv : circB l gs = true := by
            unfold circB
            rw [hall, decide_eq_true (by omega), show inB l 1 8 = true from inB_of (by omega)]
            rfl
          have CT := Lib.hid (specTable_some l A4 gs.length c4 _ gs w4 (ho4.reads (n := gs.length) (size := 4) (by rw [gcells_len]) (by omega)) (Nat.le_refl _) rfl hc4 (by omega) hcv k HPW.out)
          have hs4 : w.heap.size ≤ w4.heap.size := hf4.2.2.2.1
          clear hall ho4 hg4 CC hcv own3
          go_wp2_with fail
          refine CT.out.mono ?_
          rintro e w5 ⟨v5, xs, rfl, hxs, own5, hb5⟩
          have hf5 := hf4.only (only_of_below hb5 none) hs4 (fun q e => by cases e)
          have hr5 := hr4.below hb5
          obtain ⟨g5, cap5, rfl, hg5, hgl5, hc5, hm5⟩ := own_pos own5 (by omega)
          have HX := Lib.hid (own_bas own5 hs4)
          clear own5 hb5 CT
          go_wp2_with fail
          go_meet
          exact ⟨g5, cap5, xs, rfl, by omega, hxs, hc5, HX.out, hr5.mono (by omega), hf5⟩
        · have hz' : (z == 0) = false := by simp [hz]
          clear hz
          go_wp2_with fail
          go_meet
          exact ⟨g, cap, L, rfl, hgB, HL.out, hkc, own3, hr3.mono (by omega), hf3⟩
      case rest =>
        clear own3 hr3 hf3 HL hgB hkc hcm z0 z1
        obtain ⟨g, cap, L, rfl, hgB, hL, hkc, hown, hrd, hfr⟩ := hcut
        have HL := Lib.hid hL
        have hgl := (hown.lt g rfl).2
        have hsz := hfr.2.2.2.1
        have CO := Lib.hid (odd_rd n r (p + 560) wc hrd (by omega) hn)
        clear hL
        go_wp2_with fail
        refine CO.out.mono ?_
        rintro e w5 ⟨b, rfl, hr5, hg5⟩
        have hf5 := hfr.only hg5 hsz (fun q e => .inr (Option.some.inj e).symm)
        have own5 := hown.kept hg5 (.inr (by simp [Value.ownBlock]; omega))
        have hs5 : w.heap.size ≤ w5.heap.size := hf5.2.2.2.1
        clear hown hrd hfr hg5 CO
        cases b with
        | false =>
          go_wp2_with fail
          go_ret2
          exact ⟨drawnT_of (by omega) (by omega) own5 (by omega) rfl, hr5.mono (by omega), hf5.grown⟩
        | true =>
          have C6 := Lib.hid (pick_rd 3 r (p + 560 + 1) w5 hr5 (by omega) (by omega))
          go_wp2_with fail
          refine C6.out.mono ?_
          rintro e w6 ⟨z, rfl, ⟨z0, z1, _⟩, hr6, hg6⟩
          have hf6 := hf5.only hg6 hs5 (fun q e => .inr (Option.some.inj e).symm)
          have hgl5 := (own5.lt g rfl).2
          have own6 := own5.kept hg6 (.inr (by simp [Value.ownBlock]; omega))
          have hs6 : w.heap.size ≤ w6.heap.size := hf6.2.2.2.1
          have hgl6 := (own6.lt g rfl).2
          have hz3 : z = 0 ∨ z = 1 ∨ z = 2 := by omega
          clear own5 hr5 hf5 hg6 C6 z0 z1
          rcases hz3 with rfl | rfl | rfl
          · go_wp2_with (at_builtin; refine wpList_append_own _ rfl _ _ 22 rfl w.heap.size 3 ii (.int .i64 0) 1 8 Tryd.underlying22 hi hz0 hz1 hz2 rfl (by decide) _ _ _ rfl (own6.alloc _) ⟨w6.heap.size, 0, none⟩ 1 1 [.int .i64 0] rfl rfl (cell_one_new _ _ _) (by simp [Value.oneCell']) (by unfold maxLen; omega) (by omega) (by simp; omega) ?_; intro v' w7 hown' hgrow _)
            have hgw : World.grownBy _ w7 (some g) := hgrow
            have hf7 := (hf6.alloc hs6 (.cells #[.int .i64 0] 3)).only hgw (by simp; omega) (fun q e => by cases e; exact .inl hgB)
            have hr7 := (hr6.alloc (.cells #[.int .i64 0] 3)).onlyO hgw (fun q e => by cases e; omega)
            have own7 : w7.ownsRow w.heap.size 3 1 v' (k + 1) ((L ++ [0]).map (Value.int .i64)) := by simpa using hown'
            clear hown' hgrow hgw
            go_wp2_with fail
            go_ret2
            exact ⟨drawnT_of (by omega) (by omega) own7 (by omega) rfl, hr7.mono (by omega), hf7.grown⟩
          · obtain ⟨cur, hbk, hcs, htk⟩ : ∃ cur, Blk w6 g 3 cur ∧ cur.size = cap ∧ cur.toList.take k = L.map (Value.int .i64) := by
              rcases own6.2 with ⟨h, _⟩ | ⟨g', cap', cur, he, hg, hh, hc, hm, hs, ht⟩
              · cases h
              · cases he
                exact ⟨cur, hh, by omega, by rw [Nat.mul_one] at ht; exact ht⟩
            have hcm6 : cap ≤ maxLen := by
              rcases own6.2 with ⟨h, _⟩ | ⟨g', cap', cur, he, hg, hh, hc, hm, hs, ht⟩
              · cases h
              · cases he
                exact hm
            obtain ⟨x, hx⟩ : ∃ x, x = L.getD (k - 1) 0 := ⟨_, rfl⟩
            have hcl : w6.cell? ⟨g, k - 1, none⟩ = some (.int .i64 x) := by
              rw [hbk.cell]
              have hln := HL.out
              have h1 : (L.map (Value.int .i64))[k - 1]? = some (.int .i64 x) := by
                rw [List.getElem?_map, hx, List.getD_eq_getElem?_getD, List.getElem?_eq_getElem (by omega)]
                rfl
              rw [← htk, List.getElem?_take] at h1
              split at h1
              · simpa using h1
              · cases h1
            have hf0 := hbk.frozen 0
            have hc0 : ∃ u, w6.cell? ⟨g, 0, none⟩ = some u := by
              rw [hbk.cell]
              exact ⟨cur[0]'(by omega), Array.getElem?_eq_getElem (by omega)⟩
            obtain ⟨u0, hu0⟩ := hc0
            have hg1 : w6.grownBy (w6.setCell ⟨g, 0, none⟩ (.int .i64 x)) (some g) := only_setCell (p := ⟨g, 0, none⟩) (World.grownBy.refl _ _) (Or.inl rfl) _
            have hf7 := hf6.only hg1 hs6 (fun q e => by cases e; exact .inl hgB)
            have hr7 := hr6.onlyO hg1 (fun q e => by cases e; omega)
            have own7 : (w6.setCell ⟨g, 0, none⟩ (.int .i64 x)).ownsRow w.heap.size 3 1 (.slice (some ⟨g, 0, none⟩) k cap) k ((L.set 0 x).map (Value.int .i64)) := by
              refine ⟨by have := HL.out; simp; omega, .inr ⟨g, cap, cur.setIfInBounds 0 (.int .i64 x), rfl, hgB, hbk.set_ 0 _, hkc, hcm6, by simp; omega, ?_⟩⟩
              rw [Array.toList_setIfInBounds, Nat.mul_one, List.take_set, htk, List.map_set]
            have hkl : ((k - 1 : Nat) : Int) = (k : Int) - 1 := by omega
            have hk1 : ∃ j : Nat, k = j + 1 := ⟨k - 1, by omega⟩
            obtain ⟨j, rfl⟩ := hk1
            rw [Nat.add_sub_cancel] at hcl
            have HO7 := Lib.hid own7
            have HR7 := Lib.hid hr7
            have HF7 := Lib.hid hf7
            clear hg1 htk hcs hbk own7 hr7 hf7 hkl own6 hx
            go_wp2_with fail
            go_ret2
            exact ⟨drawnT_of (by omega) (by omega) HO7.out (by omega) rfl, HR7.out.mono (by omega), HF7.out.grown⟩
          · have C7a := Lib.hid (pick_rd 2 r (p + 560 + 1 + 1) (w6.alloc (.cells #[.int .i64 0, .int .i64 9] 3)) (hr6.alloc _) (by omega) (by omega))
            have hf6a := hf6.alloc hs6 (.cells #[.int .i64 0, .int .i64 9] 3)
            have own6a := own6.alloc (.cells #[.int .i64 0, .int .i64 9] 3)
            have hr6l := hr6.lt
            clear own6 hf6 hr6
            go_wp2_with fail
            refine C7a.out.mono ?_
            rintro e w7 ⟨v, rfl, ⟨v0, v1, _⟩, hr7, hg7⟩
            have hf7 := hf6a.only hg7 (by simp; omega) (fun q e => .inr (Option.some.inj e).symm)
            have own7 := own6a.kept hg7 (.inr (by simp [Value.ownBlock]; omega))
            obtain ⟨x, hx, hy⟩ := pair_cell 0 9 v v0 (by omega)
            have hbx : Blk w7 w6.heap.size 3 #[.int .i64 0, .int .i64 9] := (Blk.new w6 _ _).grown hg7 (fun e => by have := Option.some.inj e; omega)
            have hcx := (hbx.cell v.toNat).trans hy
            have v3 : v < 2 := by omega
            have hx09 : 0 ≤ x ∧ x ≤ 9 := by omega
            clear C7a hy v1 hx hbx hg7 hf6a own6a
            go_wp2_with fail
            go_ret2
            exact ⟨drawnT_of (by omega) (by omega) own7 (by omega) rfl, hr7.mono (by omega), hf7.grown⟩
end Go.Proofs.YtffkoeobehocjaaDoor
