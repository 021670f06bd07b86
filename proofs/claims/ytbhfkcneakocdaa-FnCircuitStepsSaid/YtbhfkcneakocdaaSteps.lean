/- Contracts of l2Meets and both CircuitSteps. -/
import Derived.Test.YtbhfkcneakocdaaStepsM
import Derived.Deep.RegionWith
namespace Go.Proofs.Ytbhfkcneakocdaa
open Go.RowKit
set_option linter.unusedVariables false

theorem meets_step (g h : Gt) (k : Nat) (hk : k < (linesOf g).length) : ((linesOf g).take (k + 1)).any (fun x => hasB (linesOf h) x) = (((linesOf g).take k).any (fun x => hasB (linesOf h) x) || hasB (linesOf h) ((linesOf g).getD k 0)) := by
  rw [List.take_succ_eq_append_getElem hk, List.any_append]
  simp [List.getD, List.getElem?_eq_getElem hk]
theorem meets_take {g h : Gt} {k : Nat} (hh : ((linesOf g).take k).any (fun x => hasB (linesOf h) x) = true) : meets g h = true := by
  unfold meets
  rw [List.any_eq_true] at *
  obtain ⟨x, hx, hh⟩ := hh
  exact ⟨x, List.mem_of_mem_take hx, hh⟩

set_option maxHeartbeats 2000000 in
set_option maxRecDepth 50000 in
theorem l2Meets_any (x0 x1 x2 x3 y0 y1 y2 y3 : Int) (w : World) :
    Calls Try.prog 43 #[.agg #[.int .i64 x0, .int .i64 x1, .int .i64 x2, .int .i64 x3], .agg #[.int .i64 y0, .int .i64 y1, .int .i64 y2, .int .i64 y3]] w fun e w' => e = .returned (.bool (meets ⟨x0, x1, x2, x3⟩ ⟨y0, y1, y2, y3⟩)) ∧ Below w.heap.size w w' := by
  have hg := linesOf_len ⟨x0, x1, x2, x3⟩
  have hh := linesOf_len ⟨y0, y1, y2, y3⟩
  have HS := Lib.hid (meets_step ⟨x0, x1, x2, x3⟩ ⟨y0, y1, y2, y3⟩)
  have HT := Lib.hid (fun k => @meets_take ⟨x0, x1, x2, x3⟩ ⟨y0, y1, y2, y3⟩ k)
  have HM : Hid (meets ⟨x0, x1, x2, x3⟩ ⟨y0, y1, y2, y3⟩ = (linesOf ⟨x0, x1, x2, x3⟩).any (fun x => hasB (linesOf ⟨y0, y1, y2, y3⟩) x)) := Lib.hid rfl
  have C1 := Lib.hid (fun W => specLinesOf_any ⟨x0, x1, x2, x3⟩ W)
  have c2 : ∀ W, Calls Try.prog 55 #[.agg #[.int .i64 y0, .int .i64 y1, .int .i64 y2, .int .i64 y3]] W fun e w' => RetL (linesOf ⟨y0, y1, y2, y3⟩) W e w' := fun W => specLinesOf_any ⟨y0, y1, y2, y3⟩ W
  have C2 := Lib.hid c2
  clear c2
  obtain ⟨m, em⟩ : ∃ m, m = meets ⟨x0, x1, x2, x3⟩ ⟨y0, y1, y2, y3⟩ := ⟨_, rfl⟩
  obtain ⟨zs, ez⟩ : ∃ zs, zs = linesOf ⟨x0, x1, x2, x3⟩ := ⟨_, rfl⟩
  obtain ⟨ys, ey⟩ : ∃ ys, ys = linesOf ⟨y0, y1, y2, y3⟩ := ⟨_, rfl⟩
  rw [← em] at HM HT ⊢
  rw [← ez] at HM HT HS C1 hg
  rw [← ey] at HM HT HS C2 hh
  clear em ez ey
  go_enter Try.func43, Try.ntmps43
  go_wp2_with fail
  refine (C1.out _).mono ?_
  rintro e w1 ⟨A, cp, rfl, hcp, ho, hb1⟩
  obtain ⟨B0, B1, W1⟩ := box2 hb1
  have HR := Lib.hid (ho.reads (n := zs.length) (size := 1) (by simp) (by omega))
  obtain ⟨n, en⟩ : ∃ n, n = zs.length := ⟨_, rfl⟩
  rw [← en] at HR hg ⊢
  have HN := Lib.hid en
  have hz1 := W1.size
  have b1 := B1.lt
  clear hb1 ho hcp en
  go_wp2_with fail
  go_loopg [6] n (fun gh i wr => ∃ k : Nat, k ≤ n ∧ gh = n - k ∧ i = .int .i64 k ∧ (zs.take k).any (fun x => hasB ys x) = false ∧ Below w1.heap.size w1 wr)
  case atStart => exact ⟨0, Nat.zero_le _, rfl, rfl, by simp, Below.refl _ _⟩
  case round =>
    obtain ⟨k, hk, hgh, rfl, hno, hb⟩ := hrel
    have Hg := Lib.hid hgh
    have Hno := Lib.hid hno
    clear hgh hno
    by_cases hlt : k < n
    · obtain ⟨b, o, rfl, hbB, hcell⟩ := HR.out.open1 HN.out.symm (by omega)
      have B1' := B1.next hb
      have q0 : wr.cell? ⟨w.heap.size + 1, 0, none⟩ = some (.int .i64 y0) := B1'.cell 0
      have q1 : wr.cell? ⟨w.heap.size + 1, 1, none⟩ = some (.int .i64 y1) := B1'.cell 1
      have q2 : wr.cell? ⟨w.heap.size + 1, 2, none⟩ = some (.int .i64 y2) := B1'.cell 2
      have q3 : wr.cell? ⟨w.heap.size + 1, 3, none⟩ = some (.int .i64 y3) := B1'.cell 3
      have hs := HS.out k (by have := HN.out; omega)
      obtain ⟨z, ez⟩ : ∃ z, z = zs.getD k 0 := ⟨_, rfl⟩
      have hc1 : wr.cell? ⟨b, o + k, none⟩ = some (.int .i64 z) := (hb.cell (p := ⟨b, o + k, none⟩) (by simp; omega)).trans (by rw [ez]; exact hcell k hlt)
      rw [← ez, Hno.out, Bool.false_or] at hs
      have Hs := Lib.hid hs
      have hlt' : (k : Int) < (n : Int) := by omega
      have hsz := hb.size
      have hbw : b < wr.heap.size := by omega
      obtain ⟨v, ev⟩ : ∃ v, v = hasB ys z := ⟨_, rfl⟩
      have HH := Lib.hid (fun (A : Option Addr) (c : Nat) (W w2 : World) (ho : Own w2 W.heap.size A (ys.map (Value.int .i64))) => by have := l1Has_any A ys.length c w2.heap.size ys z w2 (ho.reads (n := ys.length) (size := 1) (by simp) (by omega)) rfl (by omega); rwa [← ev] at this)
      rw [← ev] at Hs
      clear hcell hs ez ev
      cases v with
      | true =>
        have Hf := Lib.hid (HT.out (k + 1) Hs.out)
        go_wp2_with fail
        go_region_with (first | (go_at_call 55; (with_reducible refine (C2.out _).mono ?_); rintro e w2 ⟨A2, c2, rfl, hc2, ho2, hb2⟩; have c5 : w2.cell? ⟨b, o + k, none⟩ = some (.int .i64 z) := (hb2.cell (p := ⟨b, o + k, none⟩) hbw).trans hc1) | (go_at_call 56; (with_reducible refine (HH.out _ _ _ _ ho2).mono ?_); rintro e w' ⟨rfl, rfl⟩))
        all_goals
          go_wp2_with fail
          go_ret
          exact ⟨ret_bool Hf.out.symm, bnext (bnext W1 hb.drew (Nat.le_refl _)) hb2 (Nat.le_refl _)⟩
      | false =>
        go_wp2_with fail
        go_region_with (first | (go_at_call 55; (with_reducible refine (C2.out _).mono ?_); rintro e w2 ⟨A2, c2, rfl, hc2, ho2, hb2⟩; have c5 : w2.cell? ⟨b, o + k, none⟩ = some (.int .i64 z) := (hb2.cell (p := ⟨b, o + k, none⟩) hbw).trans hc1) | (go_at_call 56; (with_reducible refine (HH.out _ _ _ _ ho2).mono ?_); rintro e w' ⟨rfl, rfl⟩))
        all_goals
          go_wp2_with fail
          go_roundg (n - (k + 1))
          case measure => have := Hg.out; omega
          case rel => exact ⟨k + 1, by omega, rfl, by go_num, Hs.out, hb.drew.trans (hb2.mono hb.size)⟩
    · have hlt' : ¬ (k : Int) < (n : Int) := by omega
      have Hf : Hid (m = false) := Lib.hid (by
        have h2 := Hno.out
        rw [List.take_of_length_le (by have := HN.out; omega)] at h2
        rw [HM.out, h2])
      go_wp2_with fail
      go_ret
      exact ⟨ret_bool Hf.out.symm, bnext W1 hb (Nat.le_refl _)⟩

set_option maxHeartbeats 4000000 in
set_option maxRecDepth 50000 in
theorem specCircuitSteps_any (l : Int) (A : Option Addr) (n c B : Nat) (gs : List Gt) (w : World) (h : Reads w B 4 A n (gcells gs)) (hB : B ≤ w.heap.size) (hz : gs.length = n) (hc : n ≤ c) (hn : n ≤ 1048576) :
    Calls Try.prog 19 #[.int .i64 l, .slice A n c] w fun e w' => RetL (circSteps l gs) w e w' := by
  have HT := Lib.hid (fun W (hb : Below w.heap.size w W) => specCircuitValid_any l A n c B gs W (h.next hb hB) (Nat.le_trans hB hb.size) hz hc hn)
  by_cases h0 : n = 0
  · subst h0
    have hgs : gs = [] := List.eq_nil_of_length_eq_zero hz
    have Hr : Hid (circSteps l gs = []) := Lib.hid (by subst hgs; unfold circSteps; split <;> rfl)
    clear h hz hgs HT
    go_enter Try.func19, Try.ntmps19
    go_wp2_with fail
    refine wp_loop_rounds 1 ?_
    rw [rounds_succ]
    go_wp2_with fail
    go_ret
    exact retL_nil' Hr.out ((Below.refl _ _).alloc (Nat.le_refl _) _) rfl
  · cases hv : circB l gs with
    | false =>
      have Hr := Lib.hid (circSteps_n hv)
      rw [hv] at HT
      have hn0 : (0 : Int) < (n : Int) := by omega
      clear hv h hz
      go_enter Try.func19, Try.ntmps19
      go_wp2_with fail
      refine wp_loop_rounds 1 ?_
      rw [rounds_succ]
      go_wp2_with fail
      refine (HT.out _ ((Below.refl _ _).alloc (Nat.le_refl _) _)).mono ?_
      rintro e w1 ⟨rfl, hb1⟩
      go_wp2_with fail
      go_ret
      exact retL_nil' Hr.out (((Below.refl _ _).alloc (Nat.le_refl _) _).trans (hb1.mono (by simp))) rfl
    | true =>
      have Hr := Lib.hid (circSteps_y hv)
      rw [hv] at HT
      have HR := Lib.hid h
      have HZ := Lib.hid hz
      obtain ⟨ii, hi, hz0, hz1, hz2⟩ := info_parts infoInt
      have h24 : n ≤ 24 := by have := (circB_t hv).2.2; omega
      clear h hz hv h0
      go_enter Try.func19, Try.ntmps19
      go_wp2_with fail
      go_loopg [5, 6] n (fun gh v i wr => ∃ k : Nat, k ≤ n ∧ gh = n - k ∧ i = .int .i64 k ∧ wr.ownsRow w.heap.size 3 1 v k ((stepsN gs k).map (Value.int .i64)) ∧ Below w.heap.size w wr)
      case atStart =>
        exact ⟨0, Nat.zero_le _, rfl, rfl, by simpa [stepsN] using World.ownsRow_made (base := w.heap.size) (e := 3) (size := 1) w #[] 0 (Nat.le_refl _) (by simp [maxLen]) rfl, (Below.refl _ _).alloc (Nat.le_refl _) _⟩
      case round =>
        obtain ⟨k, hk, hg, rfl, hown, hb⟩ := hrel
        have Hg := Lib.hid hg
        clear hg
        obtain ⟨A5, c5, rfl, hc5⟩ := own_shape hown
        have Hown := Lib.hid hown
        clear hown
        by_cases hlt : k < n
        · obtain ⟨b, o, rfl, hbB, hcell⟩ := HR.out.openG HZ.out (by omega)
          have Hcell := Lib.hid hcell
          clear hcell
          have hlt' : (k : Int) < (n : Int) := by omega
          go_wp2_with fail
          refine (HT.out _ hb).mono ?_
          rintro e w1 ⟨rfl, hb1⟩
          have hb01 := bnext hb hb1 (Nat.le_refl _)
          have own1 := own_next Hown.out hb1
          have Own1 := Lib.hid own1
          obtain ⟨g, eg⟩ : ∃ g, g = gs.getD k g0 := ⟨_, rfl⟩
          have hgk := (Hcell.out k hlt).below hb01 (by omega)
          rw [← eg] at hgk
          obtain ⟨out, eo⟩ : ∃ out, out = stepsN gs k := ⟨_, rfl⟩
          have hsk : stepsN gs (k + 1) = out ++ [stepJ gs out g k] := by simp only [stepsN]; rw [← eo, ← eg]
          have hso : ∀ j, j < k → 1 ≤ out.getD j 0 ∧ out.getD j 0 ≤ j + 1 := fun j hj => by rw [eo]; exact stepsN_bd gs k j hj
          have hol : out.length = k := by rw [eo]; exact stepsN_len gs k
          rw [← eo] at Own1
          have Hsk := Lib.hid hsk
          have Hso := Lib.hid hso
          have Hol := Lib.hid hol
          have Hgk := Lib.hid hgk
          have HJb : Hid (∀ j, j ≤ k → 1 ≤ stepJ gs out g j ∧ stepJ gs out g j ≤ 30) := Lib.hid (fun j hj => ⟨stepJ_pos _ _ _ _, by
            have := (stepJ_le gs out g j 29 (by omega)).2 (fun i hi _ => by have := hso i (by omega); omega)
            omega⟩)
          clear hgk eg eo hsk hso hol own1
          go_wp2_with fail
          go_loopg [7, 8] k (fun gh s j wr2 => ∃ q : Nat, q ≤ k ∧ gh = k - q ∧ j = .int .i64 q ∧ s = .int .i64 (stepJ gs out g q) ∧ Below w1.heap.size w1 wr2)
          case atStart => exact ⟨0, Nat.zero_le _, rfl, rfl, rfl, Below.refl _ _⟩
          case round =>
            obtain ⟨q, hq, hg2, rfl, rfl, hb2⟩ := hrel
            have Hg2 := Lib.hid hg2
            have hjb := HJb.out q hq
            clear hg2
            by_cases hqk : q < k
            · have hqk' : (q : Int) < (k : Int) := by omega
              have hw1 := hb01.size
              obtain ⟨p, ep⟩ : ∃ p, p = gs.getD q g0 := ⟨_, rfl⟩
              have hgq := ((Hcell.out q (by omega)).below hb01 (by omega)).below hb2 (by omega)
              rw [← ep] at hgq
              have hgk2 := Hgk.out.below hb2 (by omega)
              have own2 := own_next Own1.out hb2
              obtain ⟨gb, go, rfl, hgb, hoc⟩ := (own_reads own2 rfl).open1 Hol.out (by omega)
              have hsj : stepJ gs out g (q + 1) = if meets p g = true then max (stepJ gs out g q) (out.getD q 0 + 1) else stepJ gs out g q := by simp only [stepJ]; rw [← ep]
              obtain ⟨x0, x1, x2, x3⟩ := p
              obtain ⟨y0, y1, y2, y3⟩ := g
              obtain ⟨p0, p1, p2, p3⟩ := hgq
              obtain ⟨r0, r1, r2, r3⟩ := hgk2
              simp only at p0 p1 p2 p3 r0 r1 r2 r3
              have CM := Lib.hid (fun W => l2Meets_any x0 x1 x2 x3 y0 y1 y2 y3 W)
              obtain ⟨m, em⟩ : ∃ m, m = meets ⟨x0, x1, x2, x3⟩ ⟨y0, y1, y2, y3⟩ := ⟨_, rfl⟩
              obtain ⟨z, ez⟩ : ∃ z, z = out.getD q 0 := ⟨_, rfl⟩
              obtain ⟨s, es⟩ : ∃ s, s = stepJ gs out ⟨y0, y1, y2, y3⟩ q := ⟨_, rfl⟩
              have hzb := Hso.out q hqk
              have hoc1 := hoc q hqk
              rw [← ez] at hzb hsj hoc1
              rw [← es] at hjb hsj ⊢
              rw [← em] at hsj CM
              have Hsj := Lib.hid hsj
              have Hoc1 := Lib.hid hoc1
              have hbw : b < wr.heap.size := by have := hb2.size; omega
              have hqn : (q : Int) < (n : Int) := by omega
              clear hsj hoc hoc1 ep em ez es
              cases m with
              | false =>
                go_wp2_with fail
                go_region_with (go_at_call 43; (with_reducible refine (CM.out _).mono ?_); rintro e w3 ⟨rfl, hb3⟩)
                all_goals
                  go_wp2_with fail
                  go_roundg (k - (q + 1))
                  case measure => have := Hg2.out; omega
                  case rel => exact ⟨q + 1, by omega, rfl, by go_num, by rw [Hsj.out]; rfl, hb2.drew.trans (hb3.mono hb2.size)⟩
              | true =>
                obtain ⟨u, eu⟩ : ∃ u, u = max s (z + 1) := ⟨_, rfl⟩
                have hmx : (if s < z + 1 then z + 1 else s) = u := by rw [eu]; exact max_form _ _
                have Hu : Hid (stepJ gs out ⟨y0, y1, y2, y3⟩ (q + 1) = u) := Lib.hid (by rw [Hsj.out, eu]; rfl)
                clear eu
                go_wp2_with fail
                go_region_with (go_at_call 43; (with_reducible refine (CM.out _).mono ?_); rintro e w3 ⟨rfl, hb3⟩; have c7 : w3.cell? ⟨gb, go + q, none⟩ = some (.int .i64 z) := (hb3.cell (p := ⟨gb, go + q, none⟩) hgb).trans Hoc1.out)
                all_goals
                  go_wp2_with fail
                  go_roundg (k - (q + 1))
                  case measure => have := Hg2.out; omega
                  case rel => exact ⟨q + 1, by omega, rfl, by go_num, by rw [Hu.out], hb2.drew.trans (hb3.mono hb2.size)⟩
            · have hqk' : ¬ (q : Int) < (k : Int) := by omega
              obtain rfl : q = k := by omega
              have own2 := own_next Own1.out hb2
              have hlw := own2.lt
              have hb3 := bnext hb01 hb2 (Nat.le_refl _)
              have hs3 := hb3.size
              obtain ⟨s, es⟩ : ∃ s, s = stepJ gs out g q := ⟨_, rfl⟩
              rw [← es] at hjb Hsk ⊢
              clear es
              go_wp2_with (at_builtin; refine wpList_append_own _ rfl _ _ 31 rfl w.heap.size 3 ii (.int .i64 0) 1 8 Try.underlying31 hi hz0 hz1 hz2 rfl (by decide) _ _ _ rfl (own2.alloc _) ⟨wr.heap.size, 0, none⟩ 1 1 [.int .i64 s] rfl rfl (cell_one_new _ _ _) (by simp [Value.oneCell']) (by unfold maxLen; omega) (by omega) (by simp; omega) ?_; intro v' w4 hown' hgrow _)
              have hb' := (hb3.alloc hs3 (Obj.cells #[.int .i64 s] 3)).grown hgrow (by simp; omega) (fun q e => (hlw q e).1)
              clear own2 hlw
              go_wp2_with fail
              go_roundg (n - (q + 1))
              case measure => have := Hg.out; omega
              case rel => exact ⟨q + 1, by omega, rfl, by go_num, by rw [Hsk.out]; simpa using hown', hb'⟩
        · have hlt' : ¬ (k : Int) < (n : Int) := by omega
          obtain rfl : k = n := by omega
          go_wp2_with fail
          go_ret
          rw [Hr.out, HZ.out]
          exact retL_acc Hown.out hb rfl
end Go.Proofs.Ytbhfkcneakocdaa
