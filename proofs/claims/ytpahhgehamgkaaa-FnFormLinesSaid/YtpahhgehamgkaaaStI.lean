/- Contract of impl.StepGates. -/
import Derived.Test.YtpahhgehamgkaaaStG
namespace Go.Proofs.Ytpahhgehamgkaaa
open Go.RowKit
set_option linter.unusedVariables false
set_option linter.unusedSimpArgs false

theorem st3_any (k a b c : Int) (w : World) :
    Calls Try.prog 38 #[.agg #[.int .i64 k, .int .i64 a, .int .i64 b, .int .i64 c]] w fun e w' => e = .returned (.bool (!gateB 8 ⟨k, a, b, c⟩)) ∧ Below w.heap.size w w' := by
  have HV := Lib.hid (fun W => implGateValid_any 8 ⟨k, a, b, c⟩ W)
  obtain ⟨v, ev⟩ : ∃ v, v = gateB 8 ⟨k, a, b, c⟩ := ⟨_, rfl⟩
  rw [← ev] at HV ⊢
  clear ev
  go_enter Try.func38, Try.ntmps38
  go_wp2_with fail
  refine (HV.out _).mono ?_
  rintro e w1 ⟨rfl, hb1⟩
  cases v
  all_goals
    go_wp2_with fail
    go_ret
    exact ⟨rfl, (box1 hb1).2⟩
set_option maxHeartbeats 1000000 in
theorem idxSt_any (A : Option Addr) (n c B : Nat) (gs : List Gt) (w : World) (h : Reads w B 4 A n (gcells gs)) (hB : B ≤ w.heap.size) (hz : gs.length = n) (hn : n ≤ 1048576) :
    Calls Try.prog 61 #[.slice A n c, .func (.func 38) #[] #[]] w fun e w' => IdxP (gs.all (gateB 8)) w e w' := by
  have HR := Lib.hid h
  have HZ := Lib.hid hz
  clear h hz
  go_enter Try.func61, Try.ntmps61
  go_wp2_with fail
  go_loopg [8] n (fun gh i wr => ∃ k : Nat, k ≤ n ∧ gh = n - k ∧ i = .int .i64 k ∧ (gs.take k).all (gateB 8) = true ∧ Below w.heap.size w wr)
  case atStart => exact ⟨0, Nat.zero_le _, rfl, rfl, rfl, Below.refl _ _⟩
  case round =>
    obtain ⟨k, hk, hg, rfl, hok, hb⟩ := hrel
    have Hg := Lib.hid hg
    have Hok := Lib.hid hok
    clear hg hok
    by_cases hlt : k < n
    · obtain ⟨b, o, rfl, hbB, hcell⟩ := HR.out.openG HZ.out (by omega)
      have hs := all_snoc (gs := gs) (p := gateB 8) (k := k) (by have := HZ.out; omega)
      obtain ⟨g, eg⟩ : ∃ g, g = gs.getD k g0 := ⟨_, rfl⟩
      have hgat := (hcell k hlt).below hb (by omega)
      rw [← eg] at hgat hs
      rw [Hok.out, Bool.true_and] at hs
      have Hs := Lib.hid hs
      obtain ⟨x0, x1, x2, x3⟩ := g
      have HV := Lib.hid (st3_any x0 x1 x2 x3 wr)
      obtain ⟨v, ev⟩ : ∃ v, v = gateB 8 ⟨x0, x1, x2, x3⟩ := ⟨_, rfl⟩
      rw [← ev] at HV Hs
      obtain ⟨q0, q1, q2, q3⟩ := hgat
      simp only at q0 q1 q2 q3
      have hlt' : (k : Int) < (n : Int) := by omega
      clear hcell eg hs ev
      cases v with
      | false =>
        have Hf := Lib.hid (all_take Hs.out)
        go_wp2_with fail
        refine HV.out.mono ?_
        rintro e w1 ⟨rfl, hb1⟩
        go_wp2_with fail
        go_ret
        exact ⟨k, rfl, ⟨fun _ => Hf.out, fun _ => by omega⟩, by omega, by omega, bnext hb hb1 (Nat.le_refl _)⟩
      | true =>
        go_wp2_with fail
        refine HV.out.mono ?_
        rintro e w1 ⟨rfl, hb1⟩
        go_wp2_with fail
        go_roundg (n - (k + 1))
        case measure => have := Hg.out; omega
        case rel => exact ⟨k + 1, by omega, rfl, by go_num, Hs.out, bnext hb hb1 (Nat.le_refl _)⟩
    · have hlt' : ¬ (k : Int) < (n : Int) := by omega
      have Hf : Hid (gs.all (gateB 8) = true) := Lib.hid (by
        have h2 := Hok.out
        rwa [List.take_of_length_le (by have := HZ.out; omega)] at h2)
      go_wp2_with fail
      go_ret
      exact ⟨-1, rfl, ⟨fun h => absurd h (by decide), fun h => by rw [Hf.out] at h; cases h⟩, by decide, by decide, hb⟩

theorem hasSt_any (A : Option Addr) (n c B : Nat) (gs : List Gt) (w : World) (h : Reads w B 4 A n (gcells gs)) (hB : B ≤ w.heap.size) (hz : gs.length = n) (hn : n ≤ 1048576) :
    Calls Try.prog 37 #[.slice A n c, .func (.func 38) #[] #[]] w fun e w' => e = .returned (.bool (!gs.all (gateB 8))) ∧ Below w.heap.size w w' := by
  have HI := Lib.hid (idxSt_any A n c B gs w h hB hz hn)
  clear h hz
  go_enter Try.func37, Try.ntmps37
  go_wp2_with fail
  refine HI.out.mono ?_
  rintro e w1 ⟨i, rfl, hi, hi1, hi2, hb1⟩
  cases hq : gs.all (gateB 8) with
  | false =>
    have h0 : 0 ≤ i := hi.2 hq
    have Hq := Lib.hid hq
    clear hi hq
    go_wp2_with fail
    go_ret
    exact ⟨ret_bool (by rw [Hq.out]; rfl), hb1⟩
  | true =>
    have h0 : decide ((0 : Int) ≤ i) = false := decide_eq_false (fun h => by have := hi.1 h; rw [hq] at this; cases this)
    have Hq := Lib.hid hq
    clear hi hq
    go_wp2_with fail
    go_ret
    exact ⟨ret_bool (by rw [Hq.out]; rfl), hb1⟩

theorem ta_0_0 (x y : Int) (W : World) : (Instr.typeAssert (.iface 62 (.agg #[.int .i64 x, .int .i64 y])) 59 62 true).run Try.prog W = .ok (.tuple #[.agg #[.int .i64 x, .int .i64 y], .bool true]) W := by kernel_rfl
theorem ta_1_0 (x y : Int) (W : World) : (Instr.typeAssert (.iface 64 (.agg #[.int .i64 x, .int .i64 y])) 59 62 true).run Try.prog W = .ok (.tuple #[.agg #[.int .i64 0, .int .i64 0], .bool false]) W := by kernel_rfl
theorem ta_1_2 (x y : Int) (W : World) : (Instr.typeAssert (.iface 64 (.agg #[.int .i64 x, .int .i64 y])) 59 63 true).run Try.prog W = .ok (.tuple #[.agg #[.int .i64 0, .int .i64 0], .bool false]) W := by kernel_rfl
theorem ta_1_1 (x y : Int) (W : World) : (Instr.typeAssert (.iface 64 (.agg #[.int .i64 x, .int .i64 y])) 59 64 true).run Try.prog W = .ok (.tuple #[.agg #[.int .i64 x, .int .i64 y], .bool true]) W := by kernel_rfl
theorem ta_2_0 (x y : Int) (W : World) : (Instr.typeAssert (.iface 63 (.agg #[.int .i64 x, .int .i64 y])) 59 62 true).run Try.prog W = .ok (.tuple #[.agg #[.int .i64 0, .int .i64 0], .bool false]) W := by kernel_rfl
theorem ta_2_2 (x y : Int) (W : World) : (Instr.typeAssert (.iface 63 (.agg #[.int .i64 x, .int .i64 y])) 59 63 true).run Try.prog W = .ok (.tuple #[.agg #[.int .i64 x, .int .i64 y], .bool true]) W := by kernel_rfl
theorem ta_3_0 (x y : Int) (W : World) : (Instr.typeAssert (.iface 66 (.agg #[.int .i64 x])) 59 62 true).run Try.prog W = .ok (.tuple #[.agg #[.int .i64 0, .int .i64 0], .bool false]) W := by kernel_rfl
theorem ta_3_2 (x y : Int) (W : World) : (Instr.typeAssert (.iface 66 (.agg #[.int .i64 x])) 59 63 true).run Try.prog W = .ok (.tuple #[.agg #[.int .i64 0, .int .i64 0], .bool false]) W := by kernel_rfl
theorem ta_3_1 (x y : Int) (W : World) : (Instr.typeAssert (.iface 66 (.agg #[.int .i64 x])) 59 64 true).run Try.prog W = .ok (.tuple #[.agg #[.int .i64 0, .int .i64 0], .bool false]) W := by kernel_rfl
theorem ta_3_3 (x y : Int) (W : World) : (Instr.typeAssert (.iface 66 (.agg #[.int .i64 x])) 59 66 true).run Try.prog W = .ok (.tuple #[.agg #[.int .i64 x], .bool true]) W := by kernel_rfl
theorem ta_n_0 (W : World) : (Instr.typeAssert .nilIface 59 62 true).run Try.prog W = .ok (.tuple #[.agg #[.int .i64 0, .int .i64 0], .bool false]) W := by kernel_rfl
theorem ta_n_2 (W : World) : (Instr.typeAssert .nilIface 59 63 true).run Try.prog W = .ok (.tuple #[.agg #[.int .i64 0, .int .i64 0], .bool false]) W := by kernel_rfl
theorem ta_n_1 (W : World) : (Instr.typeAssert .nilIface 59 64 true).run Try.prog W = .ok (.tuple #[.agg #[.int .i64 0, .int .i64 0], .bool false]) W := by kernel_rfl
theorem ta_n_3 (W : World) : (Instr.typeAssert .nilIface 59 66 true).run Try.prog W = .ok (.tuple #[.agg #[.int .i64 0], .bool false]) W := by kernel_rfl
set_option maxHeartbeats 4000000 in
set_option maxRecDepth 50000 in
theorem implStep_0 (x y line : Int) (w : World) :
    Calls Try.prog 18 #[.agg #[.int .i64 0, .int .i64 x, .int .i64 y], .int .i64 line] w fun e w' => RetG (stepG 0 x y line) w e w' := by
  have CN := Lib.hid (fun W => node_and x y W)
  have HE : Hid (stOk 0 x y line = (gateB 8 ⟨2, x, y, line⟩ && (stG 0 x y line).all (gateB 8))) := Lib.hid (by rw [← stI_eq (by simp)]; unfold stI; first | rfl | simp)
  have HV := Lib.hid (fun W => implGateValid_any 8 ⟨2, x, y, line⟩ W)
  unfold Gt.val at HV
  dsimp only at HV
  have HH := Lib.hid (fun W A c B h hB => hasSt_any A 1 c B (stG 0 x y line) W h hB rfl (by omega))
  obtain ⟨p, ep⟩ : ∃ p, p = gateB 8 ⟨2, x, y, line⟩ := ⟨_, rfl⟩
  obtain ⟨q, eq⟩ : ∃ q, q = (stG 0 x y line).all (gateB 8) := ⟨_, rfl⟩
  rw [← ep] at HE
  rw [← ep] at HV
  rw [← eq] at HE HH
  clear ep eq
  have hta0 := ta_0_0 x y
  go_enter Try.func18, Try.ntmps18
  go_wp2_with fail
  refine (CN.out _).mono ?_
  rintro e w1 ⟨rfl, hb1⟩
  obtain ⟨bs, bl, W1⟩ := box2 hb1
  clear hb1 CN
  go_wp2_with fail
  refine (both_any x y line (w.heap.size + 1) _ ((bl.alloc _).cell 0)).mono ?_
  rintro e w3 ⟨rfl, hb3⟩
  have W3 := (W1.alloc W1.size (Obj.cells #[.int .i64 x, .int .i64 y] 62)).trans (hb3.mono (by simp; have := W1.size; omega))
  have bs3 := (bs.alloc (Obj.cells #[.int .i64 x, .int .i64 y] 62)).next hb3
  have bl3 := (bl.alloc (Obj.cells #[.int .i64 x, .int .i64 y] 62)).next hb3
  clear hb3 bs bl W1
  have zs := bs3.lt
  have zl := bl3.lt
  have b0 : w3.cell? ⟨w.heap.size, 0, none⟩ = some (.int .i64 0) := bs3.cell 0
  have b1 : w3.cell? ⟨w.heap.size, 1, none⟩ = some (.int .i64 x) := bs3.cell 1
  have b2 : w3.cell? ⟨w.heap.size, 2, none⟩ = some (.int .i64 y) := bs3.cell 2
  have BL := Lib.hid (bl3.alloc (Obj.cells #[.int .i64 2, .int .i64 x, .int .i64 y, .int .i64 line] 48))
  have BO := Lib.hid (Blk.new w3 48 #[.int .i64 2, .int .i64 x, .int .i64 y, .int .i64 line])
  have WO := Lib.hid (W3.alloc W3.size (Obj.cells #[.int .i64 2, .int .i64 x, .int .i64 y, .int .i64 line] 48))
  have hs3 := W3.size
  clear bs3 bl3
  go_wp2_with fail
  refine (both_any x y line (w.heap.size + 1) _ (BL.out.cell 0)).mono ?_
  rintro e w4 ⟨rfl, hb4⟩
  have WO4 := Lib.hid (bnext WO.out hb4 (Nat.le_refl _))
  have BO4 := Lib.hid (BO.out.next hb4)
  clear hb4
  go_wp2_with fail
  refine (HV.out _).mono ?_
  rintro e w5 ⟨rfl, hb5⟩
  have WO5 := Lib.hid (bnext WO4.out hb5 (Nat.le_refl _))
  have BO5 := Lib.hid (BO4.out.next hb5)
  clear hb5
  cases p with
  | false =>
    have Hr := Lib.hid (stepG_n (by rw [HE.out]; rfl))
    go_wp2_with fail
    go_ret
    exact retG_nil Hr.out WO5.out rfl
  | true =>
    go_wp2_with fail
    refine (HH.out _ (some ⟨w3.heap.size, 0, none⟩) 1 _ ((BO5.out.own (B := 0) (Nat.zero_le _)).reads (n := 1) (size := 4) (by rfl) (by omega)) (Nat.le_refl _)).mono ?_
    rintro e w6 ⟨rfl, hb6⟩
    cases q with
    | false =>
      have Hr := Lib.hid (stepG_n (by rw [HE.out]; rfl))
      go_wp2_with fail
      go_ret
      exact retG_nil Hr.out (bnext WO5.out hb6 (Nat.le_refl _)) rfl
    | true =>
      have Hr := Lib.hid (stepG_y (by rw [HE.out]; rfl))
      have BO6 := Lib.hid (BO5.out.next hb6)
      go_wp2_with fail
      go_ret
      rw [Hr.out]
      exact ⟨_, _, rfl, Nat.le_refl _, BO6.out.own (by omega), bnext WO5.out hb6 (Nat.le_refl _)⟩
set_option maxHeartbeats 4000000 in
set_option maxRecDepth 50000 in
theorem implStep_1 (x y line : Int) (w : World) :
    Calls Try.prog 18 #[.agg #[.int .i64 1, .int .i64 x, .int .i64 y], .int .i64 line] w fun e w' => RetG (stepG 1 x y line) w e w' := by
  have CN := Lib.hid (fun W => node_or x y W)
  have HE : Hid (stOk 1 x y line = (gateB 8 ⟨2, x, y, line⟩ && (stG 1 x y line).all (gateB 8))) := Lib.hid (by rw [← stI_eq (by simp)]; unfold stI; first | rfl | simp)
  have HV := Lib.hid (fun W => implGateValid_any 8 ⟨2, x, y, line⟩ W)
  unfold Gt.val at HV
  dsimp only at HV
  have HH := Lib.hid (fun W A c B h hB => hasSt_any A 3 c B (stG 1 x y line) W h hB rfl (by omega))
  obtain ⟨p, ep⟩ : ∃ p, p = gateB 8 ⟨2, x, y, line⟩ := ⟨_, rfl⟩
  obtain ⟨q, eq⟩ : ∃ q, q = (stG 1 x y line).all (gateB 8) := ⟨_, rfl⟩
  rw [← ep] at HE
  rw [← ep] at HV
  rw [← eq] at HE HH
  clear ep eq
  have hta0 := ta_1_0 x y
  have hta2 := ta_1_2 x y
  have hta1 := ta_1_1 x y
  go_enter Try.func18, Try.ntmps18
  go_wp2_with fail
  refine (CN.out _).mono ?_
  rintro e w1 ⟨rfl, hb1⟩
  obtain ⟨bs, bl, W1⟩ := box2 hb1
  clear hb1 CN
  go_wp2_with fail
  obtain ⟨G, eG⟩ : ∃ G, G = w1.heap.size := ⟨_, rfl⟩
  obtain ⟨Wb, eWb⟩ : ∃ Wb, Wb = (w1.alloc (Obj.cells #[.int .i64 x, .int .i64 y] 64)) := ⟨_, rfl⟩
  have bn : Blk Wb G 64 #[.int .i64 x, .int .i64 y] := by rw [eWb, eG]; exact Blk.new _ _ _
  have bs0 : Blk Wb w.heap.size 35 #[.int .i64 1, .int .i64 x, .int .i64 y] := by rw [eWb]; exact bs.alloc _
  have bl0 : Blk Wb (w.heap.size + 1) 3 #[.int .i64 line] := by rw [eWb]; exact bl.alloc _
  have W0 : Below w.heap.size w Wb := by rw [eWb]; exact W1.alloc W1.size _
  rw [← eG, ← eWb]
  clear eG eWb bs bl W1 hta1
  refine wp_region_noPanic ?_
  refine wp_region_held_drew (S := fun W => W.cell? ⟨G, 0, none⟩ = some (.int .i64 x) ∧ W.cell? ⟨G, 1, none⟩ = some (.int .i64 y) ∧ W.cell? ⟨w.heap.size + 1, 0, none⟩ = some (.int .i64 line)) (by kernel_rfl) (⟨bn.cell 0, bn.cell 1, bl0.cell 0⟩) (fun hHeld => ?_)
  refine wpAnyH_take (i := 0) (oi := _) (v := ?_) rfl (by kernel_rfl) (by kernel_rfl) (by kernel_rfl) (fun _ _ _ h => h) (Or.inl ⟨by rfl, ?_⟩) (by assumption) ?_
  rotate_left
  · (intro w hSw; (try dsimp only at hSw); go_simp; try with_reducible rfl)
  (try simp only [List.getElem_toArray, List.getElem_cons_zero, List.getElem_cons_succ, Act.put, List.setIfInBounds_toArray, List.set_cons_zero, List.set_cons_succ])
  refine wpAnyH_take (i := 1) (oi := _) (v := ?_) rfl (by kernel_rfl) (by kernel_rfl) (by kernel_rfl) (fun _ _ _ h => h) (Or.inl ⟨by rfl, ?_⟩) (by assumption) ?_
  rotate_left
  · (intro w hSw; (try dsimp only at hSw); go_simp; try with_reducible rfl)
  (try simp only [List.getElem_toArray, List.getElem_cons_zero, List.getElem_cons_succ, Act.put, List.setIfInBounds_toArray, List.set_cons_zero, List.set_cons_succ])
  refine wpAnyH_take (i := 2) (oi := _) (v := ?_) rfl (by kernel_rfl) (by kernel_rfl) (by kernel_rfl) (fun _ _ _ h => h) (Or.inl ⟨by rfl, ?_⟩) (by assumption) ?_
  rotate_left
  · (intro w hSw; (try dsimp only at hSw); go_simp; try with_reducible rfl)
  (try simp only [List.getElem_toArray, List.getElem_cons_zero, List.getElem_cons_succ, Act.put, List.setIfInBounds_toArray, List.set_cons_zero, List.set_cons_succ])
  refine wpAnyH_take (i := 4) (oi := _) (v := ?_) rfl (by kernel_rfl) (by kernel_rfl) (by kernel_rfl) (fun _ _ _ h => h) (Or.inl ⟨by rfl, ?_⟩) (by assumption) ?_
  rotate_left
  · (intro w hSw; (try dsimp only at hSw); go_simp; try with_reducible rfl)
  (try simp only [List.getElem_toArray, List.getElem_cons_zero, List.getElem_cons_succ, Act.put, List.setIfInBounds_toArray, List.set_cons_zero, List.set_cons_succ])
  refine wpAnyH_take (i := 5) (oi := _) (v := ?_) rfl (by kernel_rfl) (by kernel_rfl) (by kernel_rfl) (fun _ _ _ h => h) (Or.inl ⟨by rfl, ?_⟩) (by assumption) ?_
  rotate_left
  · (intro w hSw; (try dsimp only at hSw); go_simp; try with_reducible rfl)
  (try simp only [List.getElem_toArray, List.getElem_cons_zero, List.getElem_cons_succ, Act.put, List.setIfInBounds_toArray, List.set_cons_zero, List.set_cons_succ])
  refine wpAnyH_take (i := 6) (oi := _) (v := ?_) rfl (by kernel_rfl) (by kernel_rfl) (by kernel_rfl) (fun _ _ _ h => h) (Or.inl ⟨by rfl, ?_⟩) (by assumption) ?_
  rotate_left
  · (intro w hSw; (try dsimp only at hSw); go_simp; try with_reducible rfl)
  (try simp only [List.getElem_toArray, List.getElem_cons_zero, List.getElem_cons_succ, Act.put, List.setIfInBounds_toArray, List.set_cons_zero, List.set_cons_succ])
  refine wpAnyH_take (i := 8) (oi := _) (v := ?_) rfl (by kernel_rfl) (by kernel_rfl) (by kernel_rfl) (fun _ _ _ h => h) (Or.inl ⟨by rfl, ?_⟩) (by assumption) ?_
  rotate_left
  · (intro w hSw; (try dsimp only at hSw); go_simp; try with_reducible rfl)
  (try simp only [List.getElem_toArray, List.getElem_cons_zero, List.getElem_cons_succ, Act.put, List.setIfInBounds_toArray, List.set_cons_zero, List.set_cons_succ])
  refine wpAnyH_take (i := 9) (oi := _) (v := ?_) rfl (by kernel_rfl) (by kernel_rfl) (by kernel_rfl) (fun _ _ _ h => h) (Or.inl ⟨by rfl, ?_⟩) (by assumption) ?_
  rotate_left
  · (intro w hSw; (try dsimp only at hSw); go_simp; try with_reducible rfl)
  (try simp only [List.getElem_toArray, List.getElem_cons_zero, List.getElem_cons_succ, Act.put, List.setIfInBounds_toArray, List.set_cons_zero, List.set_cons_succ])
  refine wpAnyH_take (i := 10) (oi := _) (v := ?_) rfl (by kernel_rfl) (by kernel_rfl) (by kernel_rfl) (fun _ _ _ h => h) (Or.inl ⟨by rfl, ?_⟩) (by assumption) ?_
  rotate_left
  · (intro w hSw; (try dsimp only at hSw); go_simp; try with_reducible rfl)
  (try simp only [List.getElem_toArray, List.getElem_cons_zero, List.getElem_cons_succ, Act.put, List.setIfInBounds_toArray, List.set_cons_zero, List.set_cons_succ])
  refine wpAnyH_take (i := 11) (oi := _) (v := ?_) rfl (by kernel_rfl) (by kernel_rfl) (by kernel_rfl) (fun _ _ _ h => h) (Or.inl ⟨by rfl, ?_⟩) (by assumption) ?_
  rotate_left
  · (intro w hSw; (try dsimp only at hSw); go_simp; try with_reducible rfl)
  (try simp only [List.getElem_toArray, List.getElem_cons_zero, List.getElem_cons_succ, Act.put, List.setIfInBounds_toArray, List.set_cons_zero, List.set_cons_succ])
  refine wpAnyH_take (i := 12) (oi := _) (v := ?_) rfl (by kernel_rfl) (by kernel_rfl) (by kernel_rfl) (fun _ _ _ h => h) (Or.inl ⟨by rfl, ?_⟩) (by assumption) ?_
  rotate_left
  · (intro w hSw; (try dsimp only at hSw); go_simp; try with_reducible rfl)
  (try simp only [List.getElem_toArray, List.getElem_cons_zero, List.getElem_cons_succ, Act.put, List.setIfInBounds_toArray, List.set_cons_zero, List.set_cons_succ])
  refine wpAnyH_ready (rs := [3]) (by kernel_rfl) (by simp) ?_
  refine AllReadyH.cons (o := _) rfl (fun K hK => ?_) AllReadyH.nil
  go_simp
  ((refine (copyOf_any x line (w.heap.size + 1) _ hHeld.2.2).mono ?_; rintro e w2 ⟨rfl, hb2⟩))
  go_wp2_with fail
  refine hK.out _ _ ⟨cell_next hb2 hHeld.1, cell_next hb2 hHeld.2.1, cell_next hb2 hHeld.2.2⟩ (fun hHeld => ?_)
  clear hK K
  (try simp only [List.getElem_toArray, List.getElem_cons_zero, List.getElem_cons_succ, Act.put, List.setIfInBounds_toArray, List.set_cons_zero, List.set_cons_succ])
  refine wpAnyH_ready (rs := [7]) (by kernel_rfl) (by simp) ?_
  refine AllReadyH.cons (o := _) rfl (fun K hK => ?_) AllReadyH.nil
  go_simp
  ((refine (copyOf_any y line (w.heap.size + 1) _ hHeld.2.2).mono ?_; rintro e w4 ⟨rfl, hb4⟩))
  go_wp2_with fail
  refine hK.out _ _ ⟨cell_next hb4 hHeld.1, cell_next hb4 hHeld.2.1, cell_next hb4 hHeld.2.2⟩ (fun hHeld => ?_)
  clear hK K
  (try simp only [List.getElem_toArray, List.getElem_cons_zero, List.getElem_cons_succ, Act.put, List.setIfInBounds_toArray, List.set_cons_zero, List.set_cons_succ])
  refine wpAnyH_ready (rs := [13]) (by kernel_rfl) (by simp) ?_
  refine AllReadyH.cons (o := _) rfl (fun K hK => ?_) AllReadyH.nil
  go_simp
  ((refine (both_any x y line (w.heap.size + 1) _ hHeld.2.2).mono ?_; rintro e w3 ⟨rfl, hb3⟩))
  go_wp2_with fail
  refine hK.out _ _ ⟨cell_next hb3 hHeld.1, cell_next hb3 hHeld.2.1, cell_next hb3 hHeld.2.2⟩ (fun hHeld => ?_)
  clear hK K
  (try simp only [List.getElem_toArray, List.getElem_cons_zero, List.getElem_cons_succ, Act.put, List.setIfInBounds_toArray, List.set_cons_zero, List.set_cons_succ])
  refine wpAnyH_ready (rs := [14]) (by kernel_rfl) (by simp) ?_
  refine AllReadyH.cons (o := _) rfl (fun K hK => ?_) AllReadyH.nil
  go_simp
  (skip)
  go_wp2_with fail
  refine hK.out _ _ ⟨Lib.cell?_alloc_some _ hHeld.1, Lib.cell?_alloc_some _ hHeld.2.1, Lib.cell?_alloc_some _ hHeld.2.2⟩ (fun hHeld => ?_)
  clear hK K
  (try simp only [List.getElem_toArray, List.getElem_cons_zero, List.getElem_cons_succ, Act.put, List.setIfInBounds_toArray, List.set_cons_zero, List.set_cons_succ])
  refine wpAnyH_take (i := 15) (oi := _) (v := ?_) rfl (by kernel_rfl) (by kernel_rfl) (by kernel_rfl) (fun _ _ _ h => h) (Or.inl ⟨by rfl, ?_⟩) (by assumption) ?_
  rotate_left
  · (intro w hSw; (try dsimp only at hSw); go_simp; try with_reducible rfl)
  (try simp only [List.getElem_toArray, List.getElem_cons_zero, List.getElem_cons_succ, Act.put, List.setIfInBounds_toArray, List.set_cons_zero, List.set_cons_succ])
  refine wpAnyH_done (by kernel_rfl) ?_ _
  refine NoPanic.normal ?_
  have hd := (bnext (bnext ((Below.refl Wb.heap.size Wb).drew.trans (hb2.mono (Nat.le_refl _))) hb4 (Nat.le_refl _)) hb3 (Nat.le_refl _))
  have W3 := bnext W0 hd (Nat.le_refl _)
  have bs3 := bs0.next hd
  have bl3 := bl0.next hd
  clear hd bs0 bl0 bn W0
  have zs := bs3.lt
  have zl := bl3.lt
  have b0 : w3.cell? ⟨w.heap.size, 0, none⟩ = some (.int .i64 1) := bs3.cell 0
  have b1 : w3.cell? ⟨w.heap.size, 1, none⟩ = some (.int .i64 x) := bs3.cell 1
  have b2 : w3.cell? ⟨w.heap.size, 2, none⟩ = some (.int .i64 y) := bs3.cell 2
  have BL := Lib.hid (bl3.alloc (Obj.cells #[.int .i64 1, .int .i64 x, .int .i64 line, .int .i64 0, .int .i64 1, .int .i64 y, .int .i64 line, .int .i64 0, .int .i64 2, .int .i64 x, .int .i64 y, .int .i64 line] 48))
  have BO := Lib.hid (Blk.new w3 48 #[.int .i64 1, .int .i64 x, .int .i64 line, .int .i64 0, .int .i64 1, .int .i64 y, .int .i64 line, .int .i64 0, .int .i64 2, .int .i64 x, .int .i64 y, .int .i64 line])
  have WO := Lib.hid (W3.alloc W3.size (Obj.cells #[.int .i64 1, .int .i64 x, .int .i64 line, .int .i64 0, .int .i64 1, .int .i64 y, .int .i64 line, .int .i64 0, .int .i64 2, .int .i64 x, .int .i64 y, .int .i64 line] 48))
  have hs3 := W3.size
  clear bs3 bl3
  go_wp2_with fail
  refine (both_any x y line (w.heap.size + 1) _ (BL.out.cell 0)).mono ?_
  rintro e w4 ⟨rfl, hb4⟩
  have WO4 := Lib.hid (bnext WO.out hb4 (Nat.le_refl _))
  have BO4 := Lib.hid (BO.out.next hb4)
  clear hb4
  go_wp2_with fail
  refine (HV.out _).mono ?_
  rintro e w5 ⟨rfl, hb5⟩
  have WO5 := Lib.hid (bnext WO4.out hb5 (Nat.le_refl _))
  have BO5 := Lib.hid (BO4.out.next hb5)
  clear hb5
  cases p with
  | false =>
    have Hr := Lib.hid (stepG_n (by rw [HE.out]; rfl))
    go_wp2_with fail
    go_ret
    exact retG_nil Hr.out WO5.out rfl
  | true =>
    go_wp2_with fail
    refine (HH.out _ (some ⟨w3.heap.size, 0, none⟩) 3 _ ((BO5.out.own (B := 0) (Nat.zero_le _)).reads (n := 3) (size := 4) (by rfl) (by omega)) (Nat.le_refl _)).mono ?_
    rintro e w6 ⟨rfl, hb6⟩
    cases q with
    | false =>
      have Hr := Lib.hid (stepG_n (by rw [HE.out]; rfl))
      go_wp2_with fail
      go_ret
      exact retG_nil Hr.out (bnext WO5.out hb6 (Nat.le_refl _)) rfl
    | true =>
      have Hr := Lib.hid (stepG_y (by rw [HE.out]; rfl))
      have BO6 := Lib.hid (BO5.out.next hb6)
      go_wp2_with fail
      go_ret
      rw [Hr.out]
      exact ⟨_, _, rfl, Nat.le_refl _, BO6.out.own (by omega), bnext WO5.out hb6 (Nat.le_refl _)⟩
set_option maxHeartbeats 4000000 in
set_option maxRecDepth 50000 in
theorem implStep_2 (x y line : Int) (w : World) :
    Calls Try.prog 18 #[.agg #[.int .i64 2, .int .i64 x, .int .i64 y], .int .i64 line] w fun e w' => RetG (stepG 2 x y line) w e w' := by
  have CN := Lib.hid (fun W => node_xor x y W)
  have HE : Hid (stOk 2 x y line = (gateB 8 ⟨2, x, y, line⟩ && (stG 2 x y line).all (gateB 8))) := Lib.hid (by rw [← stI_eq (by simp)]; unfold stI; first | rfl | simp)
  have HV := Lib.hid (fun W => implGateValid_any 8 ⟨2, x, y, line⟩ W)
  unfold Gt.val at HV
  dsimp only at HV
  have HH := Lib.hid (fun W A c B h hB => hasSt_any A 2 c B (stG 2 x y line) W h hB rfl (by omega))
  obtain ⟨p, ep⟩ : ∃ p, p = gateB 8 ⟨2, x, y, line⟩ := ⟨_, rfl⟩
  obtain ⟨q, eq⟩ : ∃ q, q = (stG 2 x y line).all (gateB 8) := ⟨_, rfl⟩
  rw [← ep] at HE
  rw [← ep] at HV
  rw [← eq] at HE HH
  clear ep eq
  have hta0 := ta_2_0 x y
  have hta2 := ta_2_2 x y
  go_enter Try.func18, Try.ntmps18
  go_wp2_with fail
  refine (CN.out _).mono ?_
  rintro e w1 ⟨rfl, hb1⟩
  obtain ⟨bs, bl, W1⟩ := box2 hb1
  clear hb1 CN
  go_wp2_with fail
  obtain ⟨G, eG⟩ : ∃ G, G = w1.heap.size := ⟨_, rfl⟩
  obtain ⟨Wb, eWb⟩ : ∃ Wb, Wb = (w1.alloc (Obj.cells #[.int .i64 x, .int .i64 y] 63)) := ⟨_, rfl⟩
  have bn : Blk Wb G 63 #[.int .i64 x, .int .i64 y] := by rw [eWb, eG]; exact Blk.new _ _ _
  have bs0 : Blk Wb w.heap.size 35 #[.int .i64 2, .int .i64 x, .int .i64 y] := by rw [eWb]; exact bs.alloc _
  have bl0 : Blk Wb (w.heap.size + 1) 3 #[.int .i64 line] := by rw [eWb]; exact bl.alloc _
  have W0 : Below w.heap.size w Wb := by rw [eWb]; exact W1.alloc W1.size _
  rw [← eG, ← eWb]
  clear eG eWb bs bl W1 hta2
  refine wp_region_noPanic ?_
  refine wp_region_held_drew (S := fun W => W.cell? ⟨G, 0, none⟩ = some (.int .i64 x) ∧ W.cell? ⟨G, 1, none⟩ = some (.int .i64 y) ∧ W.cell? ⟨w.heap.size + 1, 0, none⟩ = some (.int .i64 line)) (by kernel_rfl) (⟨bn.cell 0, bn.cell 1, bl0.cell 0⟩) (fun hHeld => ?_)
  refine wpAnyH_take (i := 0) (oi := _) (v := ?_) rfl (by kernel_rfl) (by kernel_rfl) (by kernel_rfl) (fun _ _ _ h => h) (Or.inl ⟨by rfl, ?_⟩) (by assumption) ?_
  rotate_left
  · (intro w hSw; (try dsimp only at hSw); go_simp; try with_reducible rfl)
  (try simp only [List.getElem_toArray, List.getElem_cons_zero, List.getElem_cons_succ, Act.put, List.setIfInBounds_toArray, List.set_cons_zero, List.set_cons_succ])
  refine wpAnyH_take (i := 1) (oi := _) (v := ?_) rfl (by kernel_rfl) (by kernel_rfl) (by kernel_rfl) (fun _ _ _ h => h) (Or.inl ⟨by rfl, ?_⟩) (by assumption) ?_
  rotate_left
  · (intro w hSw; (try dsimp only at hSw); go_simp; try with_reducible rfl)
  (try simp only [List.getElem_toArray, List.getElem_cons_zero, List.getElem_cons_succ, Act.put, List.setIfInBounds_toArray, List.set_cons_zero, List.set_cons_succ])
  refine wpAnyH_take (i := 2) (oi := _) (v := ?_) rfl (by kernel_rfl) (by kernel_rfl) (by kernel_rfl) (fun _ _ _ h => h) (Or.inl ⟨by rfl, ?_⟩) (by assumption) ?_
  rotate_left
  · (intro w hSw; (try dsimp only at hSw); go_simp; try with_reducible rfl)
  (try simp only [List.getElem_toArray, List.getElem_cons_zero, List.getElem_cons_succ, Act.put, List.setIfInBounds_toArray, List.set_cons_zero, List.set_cons_succ])
  refine wpAnyH_take (i := 4) (oi := _) (v := ?_) rfl (by kernel_rfl) (by kernel_rfl) (by kernel_rfl) (fun _ _ _ h => h) (Or.inl ⟨by rfl, ?_⟩) (by assumption) ?_
  rotate_left
  · (intro w hSw; (try dsimp only at hSw); go_simp; try with_reducible rfl)
  (try simp only [List.getElem_toArray, List.getElem_cons_zero, List.getElem_cons_succ, Act.put, List.setIfInBounds_toArray, List.set_cons_zero, List.set_cons_succ])
  refine wpAnyH_take (i := 5) (oi := _) (v := ?_) rfl (by kernel_rfl) (by kernel_rfl) (by kernel_rfl) (fun _ _ _ h => h) (Or.inl ⟨by rfl, ?_⟩) (by assumption) ?_
  rotate_left
  · (intro w hSw; (try dsimp only at hSw); go_simp; try with_reducible rfl)
  (try simp only [List.getElem_toArray, List.getElem_cons_zero, List.getElem_cons_succ, Act.put, List.setIfInBounds_toArray, List.set_cons_zero, List.set_cons_succ])
  refine wpAnyH_take (i := 6) (oi := _) (v := ?_) rfl (by kernel_rfl) (by kernel_rfl) (by kernel_rfl) (fun _ _ _ h => h) (Or.inl ⟨by rfl, ?_⟩) (by assumption) ?_
  rotate_left
  · (intro w hSw; (try dsimp only at hSw); go_simp; try with_reducible rfl)
  (try simp only [List.getElem_toArray, List.getElem_cons_zero, List.getElem_cons_succ, Act.put, List.setIfInBounds_toArray, List.set_cons_zero, List.set_cons_succ])
  refine wpAnyH_ready (rs := [3]) (by kernel_rfl) (by simp) ?_
  refine AllReadyH.cons (o := _) rfl (fun K hK => ?_) AllReadyH.nil
  go_simp
  ((refine (copyOf_any x line (w.heap.size + 1) _ hHeld.2.2).mono ?_; rintro e w2 ⟨rfl, hb2⟩))
  go_wp2_with fail
  refine hK.out _ _ ⟨cell_next hb2 hHeld.1, cell_next hb2 hHeld.2.1, cell_next hb2 hHeld.2.2⟩ (fun hHeld => ?_)
  clear hK K
  (try simp only [List.getElem_toArray, List.getElem_cons_zero, List.getElem_cons_succ, Act.put, List.setIfInBounds_toArray, List.set_cons_zero, List.set_cons_succ])
  refine wpAnyH_ready (rs := [7]) (by kernel_rfl) (by simp) ?_
  refine AllReadyH.cons (o := _) rfl (fun K hK => ?_) AllReadyH.nil
  go_simp
  ((refine (copyOf_any y line (w.heap.size + 1) _ hHeld.2.2).mono ?_; rintro e w3 ⟨rfl, hb3⟩))
  go_wp2_with fail
  refine hK.out _ _ ⟨cell_next hb3 hHeld.1, cell_next hb3 hHeld.2.1, cell_next hb3 hHeld.2.2⟩ (fun hHeld => ?_)
  clear hK K
  (try simp only [List.getElem_toArray, List.getElem_cons_zero, List.getElem_cons_succ, Act.put, List.setIfInBounds_toArray, List.set_cons_zero, List.set_cons_succ])
  refine wpAnyH_ready (rs := [8]) (by kernel_rfl) (by simp) ?_
  refine AllReadyH.cons (o := _) rfl (fun K hK => ?_) AllReadyH.nil
  go_simp
  (skip)
  go_wp2_with fail
  refine hK.out _ _ ⟨Lib.cell?_alloc_some _ hHeld.1, Lib.cell?_alloc_some _ hHeld.2.1, Lib.cell?_alloc_some _ hHeld.2.2⟩ (fun hHeld => ?_)
  clear hK K
  (try simp only [List.getElem_toArray, List.getElem_cons_zero, List.getElem_cons_succ, Act.put, List.setIfInBounds_toArray, List.set_cons_zero, List.set_cons_succ])
  refine wpAnyH_take (i := 9) (oi := _) (v := ?_) rfl (by kernel_rfl) (by kernel_rfl) (by kernel_rfl) (fun _ _ _ h => h) (Or.inl ⟨by rfl, ?_⟩) (by assumption) ?_
  rotate_left
  · (intro w hSw; (try dsimp only at hSw); go_simp; try with_reducible rfl)
  (try simp only [List.getElem_toArray, List.getElem_cons_zero, List.getElem_cons_succ, Act.put, List.setIfInBounds_toArray, List.set_cons_zero, List.set_cons_succ])
  refine wpAnyH_done (by kernel_rfl) ?_ _
  refine NoPanic.normal ?_
  have hd := (bnext ((Below.refl Wb.heap.size Wb).drew.trans (hb2.mono (Nat.le_refl _))) hb3 (Nat.le_refl _))
  have W3 := bnext W0 hd (Nat.le_refl _)
  have bs3 := bs0.next hd
  have bl3 := bl0.next hd
  clear hd bs0 bl0 bn W0
  have zs := bs3.lt
  have zl := bl3.lt
  have b0 : w3.cell? ⟨w.heap.size, 0, none⟩ = some (.int .i64 2) := bs3.cell 0
  have b1 : w3.cell? ⟨w.heap.size, 1, none⟩ = some (.int .i64 x) := bs3.cell 1
  have b2 : w3.cell? ⟨w.heap.size, 2, none⟩ = some (.int .i64 y) := bs3.cell 2
  have BL := Lib.hid (bl3.alloc (Obj.cells #[.int .i64 1, .int .i64 x, .int .i64 line, .int .i64 0, .int .i64 1, .int .i64 y, .int .i64 line, .int .i64 0] 48))
  have BO := Lib.hid (Blk.new w3 48 #[.int .i64 1, .int .i64 x, .int .i64 line, .int .i64 0, .int .i64 1, .int .i64 y, .int .i64 line, .int .i64 0])
  have WO := Lib.hid (W3.alloc W3.size (Obj.cells #[.int .i64 1, .int .i64 x, .int .i64 line, .int .i64 0, .int .i64 1, .int .i64 y, .int .i64 line, .int .i64 0] 48))
  have hs3 := W3.size
  clear bs3 bl3
  go_wp2_with fail
  refine (both_any x y line (w.heap.size + 1) _ (BL.out.cell 0)).mono ?_
  rintro e w4 ⟨rfl, hb4⟩
  have WO4 := Lib.hid (bnext WO.out hb4 (Nat.le_refl _))
  have BO4 := Lib.hid (BO.out.next hb4)
  clear hb4
  go_wp2_with fail
  refine (HV.out _).mono ?_
  rintro e w5 ⟨rfl, hb5⟩
  have WO5 := Lib.hid (bnext WO4.out hb5 (Nat.le_refl _))
  have BO5 := Lib.hid (BO4.out.next hb5)
  clear hb5
  cases p with
  | false =>
    have Hr := Lib.hid (stepG_n (by rw [HE.out]; rfl))
    go_wp2_with fail
    go_ret
    exact retG_nil Hr.out WO5.out rfl
  | true =>
    go_wp2_with fail
    refine (HH.out _ (some ⟨w3.heap.size, 0, none⟩) 2 _ ((BO5.out.own (B := 0) (Nat.zero_le _)).reads (n := 2) (size := 4) (by rfl) (by omega)) (Nat.le_refl _)).mono ?_
    rintro e w6 ⟨rfl, hb6⟩
    cases q with
    | false =>
      have Hr := Lib.hid (stepG_n (by rw [HE.out]; rfl))
      go_wp2_with fail
      go_ret
      exact retG_nil Hr.out (bnext WO5.out hb6 (Nat.le_refl _)) rfl
    | true =>
      have Hr := Lib.hid (stepG_y (by rw [HE.out]; rfl))
      have BO6 := Lib.hid (BO5.out.next hb6)
      go_wp2_with fail
      go_ret
      rw [Hr.out]
      exact ⟨_, _, rfl, Nat.le_refl _, BO6.out.own (by omega), bnext WO5.out hb6 (Nat.le_refl _)⟩
set_option maxHeartbeats 4000000 in
set_option maxRecDepth 50000 in
theorem implStep_3 (x y line : Int) (w : World) :
    Calls Try.prog 18 #[.agg #[.int .i64 3, .int .i64 x, .int .i64 y], .int .i64 line] w fun e w' => RetG (stepG 3 x y line) w e w' := by
  have CN := Lib.hid (fun W => node_not x y W)
  have HE : Hid (stOk 3 x y line = (true && (stG 3 x y line).all (gateB 8))) := Lib.hid (by rw [← stI_eq (by simp)]; unfold stI; first | rfl | simp)
  have HV := Lib.hid (fun W => implGateValid_any 8 ⟨2, x, y, line⟩ W)
  unfold Gt.val at HV
  dsimp only at HV
  have HH := Lib.hid (fun W A c B h hB => hasSt_any A 2 c B (stG 3 x y line) W h hB rfl (by omega))
  obtain ⟨p, ep⟩ : ∃ p, p = gateB 8 ⟨2, x, y, line⟩ := ⟨_, rfl⟩
  obtain ⟨q, eq⟩ : ∃ q, q = (stG 3 x y line).all (gateB 8) := ⟨_, rfl⟩
  
  rw [← ep] at HV
  rw [← eq] at HE HH
  clear ep eq
  have hta0 := ta_3_0 x y
  have hta2 := ta_3_2 x y
  have hta1 := ta_3_1 x y
  have hta3 := ta_3_3 x y
  go_enter Try.func18, Try.ntmps18
  go_wp2_with fail
  refine (CN.out _).mono ?_
  rintro e w1 ⟨rfl, hb1⟩
  obtain ⟨bs, bl, W1⟩ := box2 hb1
  clear hb1 CN
  go_wp2_with fail
  obtain ⟨G, eG⟩ : ∃ G, G = w1.heap.size := ⟨_, rfl⟩
  obtain ⟨Wb, eWb⟩ : ∃ Wb, Wb = (w1.alloc (Obj.cells #[.int .i64 x] 66)) := ⟨_, rfl⟩
  have bn : Blk Wb G 66 #[.int .i64 x] := by rw [eWb, eG]; exact Blk.new _ _ _
  have bs0 : Blk Wb w.heap.size 35 #[.int .i64 3, .int .i64 x, .int .i64 y] := by rw [eWb]; exact bs.alloc _
  have bl0 : Blk Wb (w.heap.size + 1) 3 #[.int .i64 line] := by rw [eWb]; exact bl.alloc _
  have W0 : Below w.heap.size w Wb := by rw [eWb]; exact W1.alloc W1.size _
  rw [← eG, ← eWb]
  clear eG eWb bs bl W1 hta3
  refine wp_region_noPanic ?_
  refine wp_region_held_drew (S := fun W => W.cell? ⟨G, 0, none⟩ = some (.int .i64 x) ∧ W.cell? ⟨w.heap.size + 1, 0, none⟩ = some (.int .i64 line)) (by kernel_rfl) (⟨bn.cell 0, bl0.cell 0⟩) (fun hHeld => ?_)
  refine wpAnyH_take (i := 0) (oi := _) (v := ?_) rfl (by kernel_rfl) (by kernel_rfl) (by kernel_rfl) (fun _ _ _ h => h) (Or.inl ⟨by rfl, ?_⟩) (by assumption) ?_
  rotate_left
  · (intro w hSw; (try dsimp only at hSw); go_simp; try with_reducible rfl)
  (try simp only [List.getElem_toArray, List.getElem_cons_zero, List.getElem_cons_succ, Act.put, List.setIfInBounds_toArray, List.set_cons_zero, List.set_cons_succ])
  refine wpAnyH_take (i := 1) (oi := _) (v := ?_) rfl (by kernel_rfl) (by kernel_rfl) (by kernel_rfl) (fun _ _ _ h => h) (Or.inl ⟨by rfl, ?_⟩) (by assumption) ?_
  rotate_left
  · (intro w hSw; (try dsimp only at hSw); go_simp; try with_reducible rfl)
  (try simp only [List.getElem_toArray, List.getElem_cons_zero, List.getElem_cons_succ, Act.put, List.setIfInBounds_toArray, List.set_cons_zero, List.set_cons_succ])
  refine wpAnyH_take (i := 2) (oi := _) (v := ?_) rfl (by kernel_rfl) (by kernel_rfl) (by kernel_rfl) (fun _ _ _ h => h) (Or.inl ⟨by rfl, ?_⟩) (by assumption) ?_
  rotate_left
  · (intro w hSw; (try dsimp only at hSw); go_simp; try with_reducible rfl)
  (try simp only [List.getElem_toArray, List.getElem_cons_zero, List.getElem_cons_succ, Act.put, List.setIfInBounds_toArray, List.set_cons_zero, List.set_cons_succ])
  refine wpAnyH_take (i := 4) (oi := _) (v := ?_) rfl (by kernel_rfl) (by kernel_rfl) (by kernel_rfl) (fun _ _ _ h => h) (Or.inl ⟨by rfl, ?_⟩) (by assumption) ?_
  rotate_left
  · (intro w hSw; (try dsimp only at hSw); go_simp; try with_reducible rfl)
  (try simp only [List.getElem_toArray, List.getElem_cons_zero, List.getElem_cons_succ, Act.put, List.setIfInBounds_toArray, List.set_cons_zero, List.set_cons_succ])
  refine wpAnyH_take (i := 5) (oi := _) (v := ?_) rfl (by kernel_rfl) (by kernel_rfl) (by kernel_rfl) (fun _ _ _ h => h) (Or.inl ⟨by rfl, ?_⟩) (by assumption) ?_
  rotate_left
  · (intro w hSw; (try dsimp only at hSw); go_simp; try with_reducible rfl)
  (try simp only [List.getElem_toArray, List.getElem_cons_zero, List.getElem_cons_succ, Act.put, List.setIfInBounds_toArray, List.set_cons_zero, List.set_cons_succ])
  refine wpAnyH_ready (rs := [3]) (by kernel_rfl) (by simp) ?_
  refine AllReadyH.cons (o := _) rfl (fun K hK => ?_) AllReadyH.nil
  go_simp
  ((refine (copyOf_any x line (w.heap.size + 1) _ hHeld.2).mono ?_; rintro e w3 ⟨rfl, hb3⟩))
  go_wp2_with fail
  refine hK.out _ _ ⟨cell_next hb3 hHeld.1, cell_next hb3 hHeld.2⟩ (fun hHeld => ?_)
  clear hK K
  (try simp only [List.getElem_toArray, List.getElem_cons_zero, List.getElem_cons_succ, Act.put, List.setIfInBounds_toArray, List.set_cons_zero, List.set_cons_succ])
  refine wpAnyH_ready (rs := [6]) (by kernel_rfl) (by simp) ?_
  refine AllReadyH.cons (o := _) rfl (fun K hK => ?_) AllReadyH.nil
  go_simp
  (skip)
  go_wp2_with fail
  refine hK.out _ _ ⟨Lib.cell?_alloc_some _ hHeld.1, Lib.cell?_alloc_some _ hHeld.2⟩ (fun hHeld => ?_)
  clear hK K
  (try simp only [List.getElem_toArray, List.getElem_cons_zero, List.getElem_cons_succ, Act.put, List.setIfInBounds_toArray, List.set_cons_zero, List.set_cons_succ])
  refine wpAnyH_take (i := 7) (oi := _) (v := ?_) rfl (by kernel_rfl) (by kernel_rfl) (by kernel_rfl) (fun _ _ _ h => h) (Or.inl ⟨by rfl, ?_⟩) (by assumption) ?_
  rotate_left
  · (intro w hSw; (try dsimp only at hSw); go_simp; try with_reducible rfl)
  (try simp only [List.getElem_toArray, List.getElem_cons_zero, List.getElem_cons_succ, Act.put, List.setIfInBounds_toArray, List.set_cons_zero, List.set_cons_succ])
  refine wpAnyH_done (by kernel_rfl) ?_ _
  refine NoPanic.normal ?_
  have hd := ((Below.refl Wb.heap.size Wb).drew.trans (hb3.mono (Nat.le_refl _)))
  have W3 := bnext W0 hd (Nat.le_refl _)
  have bs3 := bs0.next hd
  have bl3 := bl0.next hd
  clear hd bs0 bl0 bn W0
  have zs := bs3.lt
  have zl := bl3.lt
  have b0 : w3.cell? ⟨w.heap.size, 0, none⟩ = some (.int .i64 3) := bs3.cell 0
  have b1 : w3.cell? ⟨w.heap.size, 1, none⟩ = some (.int .i64 x) := bs3.cell 1
  have b2 : w3.cell? ⟨w.heap.size, 2, none⟩ = some (.int .i64 y) := bs3.cell 2
  have BL := Lib.hid (bl3.alloc (Obj.cells #[.int .i64 1, .int .i64 x, .int .i64 line, .int .i64 0, .int .i64 0, .int .i64 line, .int .i64 0, .int .i64 0] 48))
  have BO := Lib.hid (Blk.new w3 48 #[.int .i64 1, .int .i64 x, .int .i64 line, .int .i64 0, .int .i64 0, .int .i64 line, .int .i64 0, .int .i64 0])
  have WO := Lib.hid (W3.alloc W3.size (Obj.cells #[.int .i64 1, .int .i64 x, .int .i64 line, .int .i64 0, .int .i64 0, .int .i64 line, .int .i64 0, .int .i64 0] 48))
  have hs3 := W3.size
  clear bs3 bl3
  go_wp2_with fail
  refine (HH.out _ (some ⟨w3.heap.size, 0, none⟩) 2 _ ((BO.out.own (B := 0) (Nat.zero_le _)).reads (n := 2) (size := 4) (by rfl) (by omega)) (Nat.le_refl _)).mono ?_
  rintro e w6 ⟨rfl, hb6⟩
  cases q with
  | false =>
    have Hr := Lib.hid (stepG_n (by rw [HE.out]; rfl))
    go_wp2_with fail
    go_ret
    exact retG_nil Hr.out (bnext WO.out hb6 (Nat.le_refl _)) rfl
  | true =>
    have Hr := Lib.hid (stepG_y (by rw [HE.out]; rfl))
    have BO6 := Lib.hid (BO.out.next hb6)
    go_wp2_with fail
    go_ret
    rw [Hr.out]
    exact ⟨_, _, rfl, Nat.le_refl _, BO6.out.own (by omega), bnext WO.out hb6 (Nat.le_refl _)⟩
set_option maxHeartbeats 4000000 in
set_option maxRecDepth 50000 in
theorem implStep_else (o x y line : Int) (w : World) (h0 : ¬ o = 0) (h1 : ¬ o = 1) (h2 : ¬ o = 2) (h3 : ¬ o = 3) :
    Calls Try.prog 18 #[.agg #[.int .i64 o, .int .i64 x, .int .i64 y], .int .i64 line] w fun e w' => RetG (stepG o x y line) w e w' := by
  have CN := Lib.hid (fun W => node_else o x y W h0 h1 h2 h3)
  have Hr := Lib.hid (stepG_else' (x := x) (y := y) (line := line) h0 h1 h2 h3)
  have HV := Lib.hid (fun W => implGateValid_any 8 ⟨2, x, y, line⟩ W)
  unfold Gt.val at HV
  dsimp only at HV
  have HH := Lib.hid (fun W => hasSt_any none 0 0 0 [] W Reads.none_ (Nat.zero_le _) rfl (by omega))
  have eA : ([] : List Gt).all (gateB 8) = true := rfl
  rw [eA] at HH
  obtain ⟨p, ep⟩ : ∃ p, p = gateB 8 ⟨2, x, y, line⟩ := ⟨_, rfl⟩
  rw [← ep] at HV
  have g3 : (o != 3) = true := by simp [h3]
  clear ep eA h0 h1 h2 h3
  have hta0 := ta_n_0
  have hta1 := ta_n_1
  have hta2 := ta_n_2
  have hta3 := ta_n_3
  go_enter Try.func18, Try.ntmps18
  go_wp2_with fail
  refine (CN.out _).mono ?_
  rintro e w1 ⟨rfl, hb1⟩
  obtain ⟨bs, bl, W1⟩ := box2 hb1
  have zs := bs.lt
  have zl := bl.lt
  have b0 : w1.cell? ⟨w.heap.size, 0, none⟩ = some (.int .i64 o) := bs.cell 0
  have b1 : w1.cell? ⟨w.heap.size, 1, none⟩ = some (.int .i64 x) := bs.cell 1
  have b2 : w1.cell? ⟨w.heap.size, 2, none⟩ = some (.int .i64 y) := bs.cell 2
  clear hb1 CN
  go_wp2_with fail
  refine (both_any x y line (w.heap.size + 1) _ (bl.cell 0)).mono ?_
  rintro e w4 ⟨rfl, hb4⟩
  have W4 := bnext W1 hb4 (Nat.le_refl _)
  clear hb4
  go_wp2_with fail
  refine (HV.out _).mono ?_
  rintro e w5 ⟨rfl, hb5⟩
  have W5 := bnext W4 hb5 (Nat.le_refl _)
  clear hb5
  cases p with
  | false =>
    go_wp2_with fail
    go_ret
    exact retG_nil Hr.out W5 rfl
  | true =>
    go_wp2_with fail
    refine (HH.out _).mono ?_
    rintro e w6 ⟨rfl, hb6⟩
    go_wp2_with fail
    go_ret
    exact retG_nil Hr.out (bnext W5 hb6 (Nat.le_refl _)) rfl
theorem stepG_bd (o x y line : Int) : (stepG o x y line).length ≤ 1048576 := Nat.le_trans (stepG_len o x y line) (by omega)
theorem implStepGates_any (o x y line : Int) (w : World) :
    Calls Try.prog 18 #[.agg #[.int .i64 o, .int .i64 x, .int .i64 y], .int .i64 line] w fun e w' => RetG (stepG o x y line) w e w' := by
  by_cases h0 : o = 0
  · subst h0; exact implStep_0 x y line w
  · by_cases h1 : o = 1
    · subst h1; exact implStep_1 x y line w
    · by_cases h2 : o = 2
      · subst h2; exact implStep_2 x y line w
      · by_cases h3 : o = 3
        · subst h3; exact implStep_3 x y line w
        · exact implStep_else o x y line w h0 h1 h2 h3
end Go.Proofs.Ytpahhgehamgkaaa
