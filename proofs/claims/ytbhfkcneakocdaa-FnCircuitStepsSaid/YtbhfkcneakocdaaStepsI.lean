/- Contract of impl.CircuitSteps. -/
import Derived.Test.YtbhfkcneakocdaaSteps
namespace Go.Proofs.Ytbhfkcneakocdaa
open Go.RowKit
set_option linter.unusedVariables false

theorem mk_capI (n : Nat) (hn : n ≤ 1048576) (W : World) : (Instr.makeSlice 31 (.int .i64 0) (.int .i64 (n : Int))).run Try.prog W = .ok (.slice (some ⟨W.heap.size, 0, none⟩) 0 n) (W.alloc (.cells (madeCells #[.int .i64 0] n) 3)) := mk_cap n hn W

/-- the lines of a gate and one number for them -/
def busyI (gs : List Gt) (k i : Nat) (zs : List Int) (v : Int) (j : Nat) : Int := if hasB (zs.take i) j = true then v else busyF gs k j

set_option maxHeartbeats 8000000 in
set_option maxRecDepth 50000 in
theorem implCircuitSteps_any (l : Int) (A : Option Addr) (n c B : Nat) (gs : List Gt) (w : World) (h : Reads w B 4 A n (gcells gs)) (hB : B ≤ w.heap.size) (hz : gs.length = n) (hc : n ≤ c) (hn : n ≤ 1048576) :
    Calls Try.prog 17 #[.int .i64 l, .slice A n c] w fun e w' => RetL (circSteps l gs) w e w' := by
  have HT := Lib.hid (implCircuitValid_any l A n c B gs w h hB hz hc hn)
  cases hv : circB l gs with
  | false =>
    have Hr := Lib.hid (circSteps_n hv)
    rw [hv] at HT
    clear hv h hz
    go_enter Try.func17, Try.ntmps17
    go_wp2_with fail
    refine HT.out.mono ?_
    rintro e w1 ⟨rfl, hb1⟩
    go_wp2_with fail
    go_ret
    exact retL_nil' Hr.out hb1 rfl
  | true =>
    have Hr := Lib.hid (circSteps_y hv)
    rw [hv] at HT
    have HR := Lib.hid h
    have HZ := Lib.hid hz
    have HV := Lib.hid (fun k hk => circB_mem hv (k := k) hk)
    obtain ⟨ii, hi, hz0, hz1, hz2⟩ := info_parts infoInt
    have h24 : n ≤ 24 := by have := (circB_t hv).2.2; omega
    have hmk := mk_cap n hn
    clear h hz hv
    go_enter Try.func17, Try.ntmps17
    go_wp2_with fail
    refine HT.out.mono ?_
    rintro e w1 ⟨rfl, hb1⟩
    have hs1 := hb1.size
    clear HT
    go_wp2_with fail
    clear hmk
    go_loopg [5, 23] n (fun gh v i wr => ∃ k : Nat, k ≤ n ∧ gh = n - k ∧ i = .int .i64 k ∧ wr.ownsRow w.heap.size 3 1 v k ((stepsN gs k).map (Value.int .i64)) ∧ wr.rowIs (w1.heap.size + 1) 58 8 (fun j => .int .i64 (busyF gs k j)) ∧ Below w.heap.size w wr)
    case atStart =>
      refine ⟨0, Nat.zero_le _, rfl, rfl, ?_, ?_, (hb1.alloc hs1 _).alloc (by simp; omega) _⟩
      · have := (World.ownsRow_made (base := w.heap.size) (e := 3) (size := 1) w1 (madeCells #[.int .i64 0] n) n hs1 (by unfold maxLen; omega) (by simp [size_madeCells]))
        simpa [stepsN] using this.alloc _
      · have := World.rowIs_alloc (w1.alloc (Obj.cells (madeCells #[.int .i64 0] n) 3)) #[.int .i64 0, .int .i64 0, .int .i64 0, .int .i64 0, .int .i64 0, .int .i64 0, .int .i64 0, .int .i64 0] 58 (fun j => .int .i64 (busyF gs 0 j)) (fun i hi => by
          have h8 : i = 0 ∨ i = 1 ∨ i = 2 ∨ i = 3 ∨ i = 4 ∨ i = 5 ∨ i = 6 ∨ i = 7 := by simp at hi; omega
          rcases h8 with rfl | rfl | rfl | rfl | rfl | rfl | rfl | rfl <;> rfl)
        simpa using this
    case round =>
      obtain ⟨k, hk, hg, rfl, hown, hrow, hb⟩ := hrel
      have Hg := Lib.hid hg
      have Hown := Lib.hid hown
      have Hrow := Lib.hid hrow
      have hsz := hb.size
      clear hg hown hrow
      by_cases hlt : k < n
      · obtain ⟨b, o, rfl, hbB, hcell⟩ := HR.out.openG HZ.out (by omega)
        obtain ⟨g, eg⟩ : ∃ g, g = gs.getD k g0 := ⟨_, rfl⟩
        have hgat := (hcell k hlt).below hb (by omega)
        have hgv := HV.out k (by have := HZ.out; omega)
        rw [← eg] at hgat hgv
        have hln := fun i (hi : i < (linesOf g).length) => gateB_lines hgv hi
        have hl3 := linesOf_len g
        have hbs := busyF_succ gs k
        have hss := stepsN_succ gs k
        rw [← eg] at hbs hss
        obtain ⟨zs, ezs⟩ : ∃ zs, zs = linesOf g := ⟨_, rfl⟩
        have hC : ∀ W, Calls Try.prog 20 #[g.val] W fun e w' => RetL zs W e w' := fun W => by rw [ezs]; exact implLinesOf_any g W
        rw [← ezs] at hln hl3 hbs hss
        obtain ⟨m, em⟩ : ∃ m, m = zs.length := ⟨_, rfl⟩
        rw [← em] at hln hl3 hbs hss
        obtain ⟨x0, x1, x2, x3⟩ := g
        obtain ⟨q0, q1, q2, q3⟩ := hgat
        simp only at q0 q1 q2 q3
        unfold Gt.val at hC
        have CL := Lib.hid hC
        have Hln := Lib.hid hln
        have Hbs := Lib.hid hbs
        have Hss := Lib.hid hss
        have Em := Lib.hid em
        have HBD := Lib.hid (fun j => busyF_bd gs k j)
        have HMX : Hid (∀ i, i ≤ m → 0 ≤ mxP (busyF gs k) zs i ∧ mxP (busyF gs k) zs i ≤ 24) := Lib.hid (fun i hi => ⟨mxP_pos _ _ _, (mxP_le _ _ _ _ (by omega)).2 (fun q _ => by have := busyF_bd gs k (zs.getD q 0); omega)⟩)
        have hlt' : (k : Int) < (n : Int) := by omega
        clear hcell eg ezs hC hln hbs hss hgv em
        go_wp2_with fail
        refine (CL.out _).mono ?_
        rintro e w2 ⟨A2, c2, rfl, hc2, ho2, hb2⟩
        obtain ⟨B2, W2⟩ := box1 hb2
        have hrow2 := Hrow.out.of_block (W2.block _ Hrow.out.lt)
        have own2 := own_next Hown.out W2
        have HR2 := Lib.hid (ho2.reads (n := zs.length) (size := 1) (by simp) (by omega))
        rw [← Em.out] at HR2 hc2 ⊢
        have Hrow2 := Lib.hid hrow2
        have Own2 := Lib.hid own2
        have hw2 := W2.size
        clear hb2 ho2 hrow2 own2 q0 q1 q2 q3
        go_wp2_with fail
        go_loopg [9, 30] m (fun gh s i wr2 => ∃ q : Nat, q ≤ m ∧ gh = m - q ∧ i = .int .i64 q ∧ s = .int .i64 (mxP (busyF gs k) zs q) ∧ wr2 = w2)
        case atStart => exact ⟨0, Nat.zero_le _, rfl, rfl, rfl, rfl⟩
        case round =>
          obtain ⟨q, hq, hg2, rfl, rfl, rfl⟩ := hrel
          have Hg2 := Lib.hid hg2
          clear hg2
          have hmx := HMX.out q hq
          by_cases hqm : q < m
          · have hqm' : (q : Int) < (m : Int) := by omega
            obtain ⟨b2, o2, rfl, hbB2, hcell2⟩ := HR2.out.open1 Em.out.symm (by omega)
            have hlq := Hln.out q hqm
            obtain ⟨z, ez⟩ : ∃ z : Nat, zs.getD q 0 = (z : Int) := ⟨(zs.getD q 0).toNat, by omega⟩
            have hc1 := hcell2 q hqm
            have hmq : mxP (busyF gs k) zs (q + 1) = max (mxP (busyF gs k) zs q) (busyF gs k (zs.getD q 0)) := rfl
            rw [ez] at hc1 hlq hmq
            have hz8 : z < 8 := by omega
            have hz8' : (z : Int) < 8 := by omega
            have hy := Hrow2.out.cell hz8
            have hyb := HBD.out z
            obtain ⟨y, ey⟩ : ∃ y, y = busyF gs k z := ⟨_, rfl⟩
            obtain ⟨s, es⟩ : ∃ s, s = mxP (busyF gs k) zs q := ⟨_, rfl⟩
            rw [← ey] at hy hyb hmq
            rw [← es] at hmx hmq ⊢
            obtain ⟨u, eu⟩ : ∃ u, u = max s y := ⟨_, rfl⟩
            have hmx2 : (if s < y then y else s) = u := by rw [eu]; exact max_form _ _
            have Hu : Hid (mxP (busyF gs k) zs (q + 1) = u) := Lib.hid (by rw [hmq, eu])
            clear hcell2 ez ey es eu hmq
            go_wp2_with fail
            go_roundg (m - (q + 1))
            case measure => have := Hg2.out; omega
            case rel => exact ⟨q + 1, by omega, rfl, by go_num, by rw [Hu.out], rfl⟩
          · have hqm' : ¬ (q : Int) < (m : Int) := by omega
            obtain rfl : q = m := by omega
            obtain ⟨s, es⟩ : ∃ s, s = mxP (busyF gs k) zs q := ⟨_, rfl⟩
            rw [← es] at hmx Hss Hbs ⊢
            have q0 : wr.cell? ⟨_, 0, none⟩ = some (.int .i64 x0) := B2.cell 0
            have q1 : wr.cell? ⟨_, 1, none⟩ = some (.int .i64 x1) := B2.cell 1
            have q2 : wr.cell? ⟨_, 2, none⟩ = some (.int .i64 x2) := B2.cell 2
            have q3 : wr.cell? ⟨_, 3, none⟩ = some (.int .i64 x3) := B2.cell 3
            clear es
            go_wp2_with fail
            refine (CL.out _).mono ?_
            rintro e w3 ⟨A3, c3, rfl, hc3, ho3, hb3⟩
            have HR3 := Lib.hid (ho3.reads (n := zs.length) (size := 1) (by simp) (by omega))
            rw [← Em.out] at HR3 hc3 ⊢
            have Hrow3 := Lib.hid (Hrow2.out.of_block (hb3.block _ Hrow2.out.lt))
            have Own3 := Lib.hid (own_next Own2.out hb3)
            have W3 := bnext (bnext hb W2 (Nat.le_refl _)) hb3 (Nat.le_refl _)
            have hw3 := W3.size
            have Hlo : Hid (∀ b3 o3, A3 = some ⟨b3, o3, none⟩ → 0 < q → wr.heap.size ≤ b3) := Lib.hid (fun b3 o3 e hq0 => by
              obtain ⟨gg, oo, e3, hlo, _⟩ := ho3 (by rw [List.length_map]; have := Em.out; omega)
              rw [e] at e3
              cases e3
              exact hlo)
            have hbg := Hrow2.out.lt
            clear q0 q1 q2 q3 ho3
            go_wp2_with fail
            go_loopg [43] q (fun gh i wr2 => ∃ p : Nat, p ≤ q ∧ gh = q - p ∧ i = .int .i64 p ∧ wr2.rowIs (w1.heap.size + 1) 58 8 (fun j => .int .i64 (busyI gs k p zs (s + 1) j)) ∧ w3.grownBy wr2 (some (w1.heap.size + 1)))
            case atStart => exact ⟨0, Nat.zero_le _, rfl, rfl, Hrow3.out.congr fun j hj => by simp [busyI, hasB], World.grownBy.refl _ _⟩
            case round =>
              obtain ⟨p, hp, hg3, rfl, hrow4, hgr⟩ := hrel
              have Hg3 := Lib.hid hg3
              have Hrow4 := Lib.hid hrow4
              clear hg3 hrow4
              have hgs := hgr.size
              by_cases hpq : p < q
              · have hpq' : (p : Int) < (q : Int) := by omega
                obtain ⟨b3, o3, rfl, hbB3, hcell3⟩ := HR3.out.open1 Em.out.symm (by omega)
                have hlq := Hln.out p hpq
                obtain ⟨z, ez⟩ : ∃ z : Nat, zs.getD p 0 = (z : Int) := ⟨(zs.getD p 0).toNat, by omega⟩
                have hne3 : b3 ≠ w1.heap.size + 1 := by have := Hlo.out b3 o3 rfl (by omega); omega
                have hc1 : wr.cell? ⟨b3, o3 + p, none⟩ = some (.int .i64 z) := hgr.cell (a := ⟨b3, o3 + p, none⟩) (by rw [← ez]; exact hcell3 p hpq) (by simp; omega)
                rw [ez] at hlq
                have hz8 : z < 8 := by omega
                have hz8' : (z : Int) < 8 := by omega
                obtain ⟨y, hy⟩ : ∃ y, wr.cell? ⟨w1.heap.size + 1, z, none⟩ = some y := ⟨_, Hrow4.out.cell hz8⟩
                have hf := Hrow4.out.frozen z
                have HS : Hid (∀ j : Nat, hasB (zs.take (p + 1)) j = (hasB (zs.take p) j || ((z : Int) == (j : Int)))) := Lib.hid (fun j => by rw [hasB_snoc zs p (by have := Em.out; omega), ez])
                clear hcell3 ez
                go_wp2_with fail
                go_roundg (q - (p + 1))
                case measure => have := Hg3.out; omega
                case rel =>
                  refine ⟨p + 1, by omega, rfl, by go_num, (Hrow4.out.set z _).congr fun j hj => ?_, only_setCell hgr (.inl rfl) _⟩
                  unfold busyI
                  rw [HS.out]
                  by_cases e : j = z
                  · subst e; simp
                  · rw [if_neg e]
                    have : ((z : Int) == (j : Int)) = false := by simp; omega
                    rw [this, Bool.or_false]
              · have hpq' : ¬ (p : Int) < (q : Int) := by omega
                obtain rfl : p = q := by omega
                have own4 := Own3.out.kept hgr (.inr (own_row_ne Own3.out Hrow3.out (by decide)))
                have hlw := own4.lt
                have W4 := W3.grown hgr (by omega) (fun q e => by have := Option.some.inj e; omega)
                have hw4 := W4.size
                have Hne := Lib.hid (own_row_ne own4 Hrow4.out (by decide))
                go_wp2_with (at_builtin; refine wpList_append_own _ rfl _ _ 31 rfl w.heap.size 3 ii (.int .i64 0) 1 8 Try.underlying31 hi hz0 hz1 hz2 rfl (by decide) _ _ _ rfl (own4.alloc _) ⟨wr.heap.size, 0, none⟩ 1 1 [.int .i64 (s + 1)] rfl rfl (cell_one_new _ _ _) (by simp [Value.oneCell']) (by unfold maxLen; omega) (by omega) (by simp; omega) ?_; intro v' w5 hown' hgrow _)
                have hb' := (W4.alloc hw4 (Obj.cells #[.int .i64 (s + 1)] 3)).grown hgrow (by simp; omega) (fun q e => (hlw q e).1)
                have Hrow5 := Lib.hid ((Hrow4.out.alloc (Obj.cells #[.int .i64 (s + 1)] 3)).of_block (hgrow.block _ (Hrow4.out.alloc (Obj.cells #[.int .i64 (s + 1)] 3)).lt (fun e => Hne.out e.symm)))
                have Hown5 : Hid (w5.ownsRow w.heap.size 3 1 v' (k + 1) ((stepsN gs (k + 1)).map (Value.int .i64))) := Lib.hid (by rw [Hss.out, Int.add_comm 1 s]; simpa using hown')
                clear own4 hlw hown' hgrow
                go_wp2_with fail
                go_roundg (n - (k + 1))
                case measure => have := Hg.out; omega
                case rel =>
                  refine ⟨k + 1, by omega, rfl, by go_num, Hown5.out, Hrow5.out.congr fun j hj => ?_, hb'⟩
                  rw [Hbs.out]
                  unfold busyI
                  rw [List.take_of_length_le (by have := Em.out; omega), Int.add_comm 1 s]
      · have hlt' : ¬ (k : Int) < (n : Int) := by omega
        obtain rfl : k = n := by omega
        go_wp2_with fail
        go_ret
        rw [Hr.out, HZ.out]
        exact retL_acc Hown.out hb rfl
end Go.Proofs.Ytbhfkcneakocdaa
