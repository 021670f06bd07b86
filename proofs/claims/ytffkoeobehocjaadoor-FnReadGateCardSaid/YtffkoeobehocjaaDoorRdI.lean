/- Contract of impl.ReadGate. -/
import Derived.Test.YtffkoeobehocjaaDoorRdQ
import Derived.Test.YtffkoeobehocjaaDoorSpl
import Derived.Test.YtffkoeobehocjaaDoorShp
import Derived.Test.YtffkoeobehocjaaDoorToGate
import Derived.Test.YtffkoeobehocjaaDoorNature
import Derived.BigQuiet
namespace Go.Proofs.YtffkoeobehocjaaDoor
open Go.RowKit
set_option linter.unusedVariables false
set_option linter.unusedSimpArgs false

theorem split_any (l : List UInt8) (hl : l.length ≤ 2000000) (w : World) (hM : MaxLen w) :
    Calls Tryd.prog 53 #[.string ⟨l.toArray⟩, .string ⟨#[32]⟩] w fun e w' =>
      e = .returned (.slice (some ⟨w.heap.size, 0, none⟩) (cutL l).length (cutL l).length) ∧ w' = w.alloc (.cells (wcells (cutL l)).toArray 9) := by
  obtain ⟨m, hm⟩ := hM
  have h := Tryd.strings_Split ⟨l.toArray⟩ ⟨#[32]⟩ m w (by simp [ByteArray.size]; omega) hm (by decide)
  rw [splitB_cut, countB_cut, List.map_map] at h
  exact h
theorem idx_any (k : Nat) (hk : k < 5) (w : World) : (Instr.index 73 (.agg nats) (.int .i64 (k : Int))).run Tryd.prog w = .ok (.agg (natOf (k : Int))) w := by
  have h : k = 0 ∨ k = 1 ∨ k = 2 ∨ k = 3 ∨ k = 4 := by omega
  rcases h with rfl | rfl | rfl | rfl | rfl
  · exact idx0 w
  · exact idx1 w
  · exact idx2 w
  · exact idx3 w
  · exact idx4 w
theorem kindOf_kindS (k : Nat) (hk : k < 5) : kindOf (kindS (k : Int)) = (k : Int) ∧ kindS (k : Int) ≠ [] := by
  have h : k = 0 ∨ k = 1 ∨ k = 2 ∨ k = 3 ∨ k = 4 := by omega
  rcases h with rfl | rfl | rfl | rfl | rfl <;> exact ⟨by decide, by decide⟩
theorem kindS_kindOf (nm : List UInt8) (h : 0 ≤ kindOf nm) : ∃ k : Nat, k < 5 ∧ kindS (k : Int) = nm := by
  unfold kindOf at h
  by_cases h0 : nm = [110, 111, 116]
  · exact ⟨0, by omega, h0.symm⟩
  by_cases h1 : nm = [99, 111, 112, 121]
  · exact ⟨1, by omega, h1.symm⟩
  by_cases h2 : nm = [98, 111, 116, 104]
  · exact ⟨2, by omega, h2.symm⟩
  by_cases h3 : nm = [115, 119, 97, 112]
  · exact ⟨3, by omega, h3.symm⟩
  by_cases h4 : nm = [105, 102]
  · exact ⟨4, by omega, h4.symm⟩
  rw [if_neg h0, if_neg h1, if_neg h2, if_neg h3, if_neg h4] at h
  omega
/-- impl's j-th line behind k places -/
def lsI (ws : List (List UInt8)) (k j : Nat) : Int := if j ≤ k then dgI ws j else 0
theorem four_set2 {w w3 : World} {t : TypeId} {z0 z1 z2 z3 : Value} (hB : Blk w3 w.heap.size t #[z0, z1, z2, z3]) (hb : Below w.heap.size w w3) (k a b c : Value) :
    ∃ wE, wE = ((((w3.setCell ⟨w.heap.size, 0, none⟩ k).setCell ⟨w.heap.size, 1, none⟩ a).setCell ⟨w.heap.size, 2, none⟩ b).setCell ⟨w.heap.size, 3, none⟩ c) ∧
      Blk wE w.heap.size t #[k, a, b, c] ∧ Below w.heap.size w wE :=
  ⟨_, rfl, (((hB.set_ 0 k).set_ 1 a).set_ 2 b).set_ 3 c, (((hb.setCell (by simp) _).setCell (by simp) _).setCell (by simp) _).setCell (by simp) _⟩

set_option maxHeartbeats 4000000 in
set_option maxRecDepth 50000 in
theorem implReadGate_any (l : List UInt8) (hl : l.length ≤ 2000000) (w : World) (hM : MaxLen w) :
    Calls Tryd.prog 28 #[.string ⟨l.toArray⟩] w fun e w' => e = .returned (.tuple #[(rdG (candI l) l).val, .bool (rdOk (candI l) l)]) ∧ Below w.heap.size w w' := by
  have HE := Lib.hid (show candI l = ⟨kindOf ((cutL l).getD 0 []), dgI (cutL l) 1, dgI (cutL l) 2, dgI (cutL l) 3⟩ from rfl)
  have HNL := Lib.hid (show (cutL l).getD 0 [] ≠ [] → l ≠ [] from fun h e => h (by rw [e]; rfl))
  have HSP := Lib.hid (fun W h => split_any l hl W h)
  have H1 : Hid (1 ≤ (cutL l).length) := Lib.hid (by simp [cutL])
  obtain ⟨ws, ew⟩ : ∃ ws, ws = cutL l := ⟨_, rfl⟩
  rw [← ew] at HE HNL HSP H1
  clear ew
  obtain ⟨nm, enm⟩ : ∃ nm, nm = ws.getD 0 [] := ⟨_, rfl⟩
  rw [← enm] at HE HNL
  obtain ⟨n, en⟩ : ∃ n, n = ws.length := ⟨_, rfl⟩
  rw [← en] at HSP H1
  have HCW : Hid (∀ j : Nat, j < n → (wcells ws).toArray[j]? = some (.string ⟨(ws.getD j []).toArray⟩)) := Lib.hid fun j hj => by
    rw [List.getElem?_toArray]
    unfold wcells
    rw [List.getElem?_map, List.getD_eq_getElem?_getD, List.getElem?_eq_getElem (by omega)]
    rfl
  have h1 := H1.out
  have cw0 := HCW.out 0 (by omega)
  rw [← enm] at cw0
  have EN := Lib.hid en
  clear enm en
  obtain ⟨wa, ea⟩ : ∃ wa, wa = w.alloc (.cells #[.int .i64 0, .int .i64 0, .int .i64 0, .int .i64 0] 40) := ⟨_, rfl⟩
  have hbA : Below w.heap.size w wa := by rw [ea]; exact (Below.refl _ _).alloc (Nat.le_refl _) _
  have hza : wa.heap.size = w.heap.size + 1 := by rw [ea]; simp
  have BR := Blk.new w 40 #[.int .i64 0, .int .i64 0, .int .i64 0, .int .i64 0]
  rw [← ea] at BR
  have HMA := Lib.hid (hM.below hbA)
  have EA := Lib.hid ea
  clear ea hM
  go_enter Tryd.func28, Tryd.ntmps28
  go_wp2_with fail
  rw [← EA.out]
  refine (HSP.out _ HMA.out).mono ?_
  rintro e w1 ⟨rfl, ew1⟩
  have BG := Blk.new wa 9 (wcells ws).toArray
  rw [← ew1] at BG
  have hb1 : Below wa.heap.size wa w1 := by rw [ew1]; exact (Below.refl _ _).alloc (Nat.le_refl _) _
  have hz1 : w1.heap.size = w.heap.size + 2 := by rw [ew1]; simp [hza]
  rw [hza] at BG
  replace BR := BR.below hb1 (by omega)
  have hbw1 := hbA.trans (hb1.mono (by omega))
  clear ew1 hb1 hbA
  go_wp2_with fail
  refine (natures_any _).mono ?_
  rintro e w2 ⟨rfl, hb2⟩
  replace BG := BG.below hb2 (by omega)
  replace BR := BR.below hb2 (by omega)
  have hz2 := hb2.size
  have hbw2 := hbw1.trans (hb2.mono (by omega))
  clear hb2 hbw1
  go_wp2_with fail
  go_loopg [13] 5 (fun gh i wr => ∃ k : Nat, k ≤ 5 ∧ gh = 5 - k ∧ i = .int .i64 (k : Int) ∧ (∀ j : Nat, j < k → kindS (j : Int) = nm → gateTx (candI l) ≠ l) ∧ Below w2.heap.size w2 wr)
  case atStart => exact ⟨0, by omega, rfl, rfl, fun j hj => absurd hj (by omega), Below.refl _ _⟩
  case round =>
    obtain ⟨k, hk, hg, rfl, hP, hb⟩ := hrel
    have Hg := Lib.hid hg
    have HP := Lib.hid hP
    clear hg hP
    have hsr := hb.size
    replace BG := BG.below hb (by omega)
    replace BR := BR.below hb (by omega)
    have hbw := hbw2.trans (hb.mono (by omega))
    clear hbw2
    by_cases hlt : k < 5
    · have hlt' : (k : Int) < 5 := by omega
      have hix := fun W => idx_any k hlt W
      obtain ⟨ch, co, hnat⟩ := natOf_tx (k := (k : Int)) (by omega)
      rw [hnat] at hix
      clear hnat
      obtain ⟨ks, ek⟩ : ∃ ks, ks = kindS (k : Int) := ⟨_, rfl⟩
      obtain ⟨nl, el⟩ : ∃ nl, nl = natLines (k : Int) := ⟨_, rfl⟩
      rw [← ek, ← el] at hix
      have Ek := Lib.hid ek
      clear ek el
      have c0 : wr.cell? ⟨w.heap.size + 1, 0, none⟩ = some (.string ⟨nm.toArray⟩) := (BG.cell 0).trans cw0
      have c1 := (((Below.refl wr.heap.size wr).alloc (Nat.le_refl _) (.cells #[.string ⟨ks.toArray⟩, .int .i64 nl, .int .i64 ch, .int .i64 co] 67)).cell (p := ⟨w.heap.size + 1, 0, none⟩) (by simp; omega)).trans c0
      by_cases hq : ks = nm
      · subst hq
        have hrr : (ks != ks) = false := by simp
        have hrs : (ks == ks) = true := by simp
        go_wp2_with fail
        go_quiet (fail)
        have hb3 : Below wr.heap.size wr ((wr.alloc (.cells #[.string ⟨ks.toArray⟩, .int .i64 nl, .int .i64 ch, .int .i64 co] 67)).drewN nq) := below_drewN ((Below.refl _ _).alloc (Nat.le_refl _) _) _
        have hz3 : ((wr.alloc (.cells #[.string ⟨ks.toArray⟩, .int .i64 nl, .int .i64 ch, .int .i64 co] 67)).drewN nq).heap.size = wr.heap.size + 1 := by simp [World.drewN]
        generalize (wr.alloc (.cells #[.string ⟨ks.toArray⟩, .int .i64 nl, .int .i64 ch, .int .i64 co] 67)).drewN nq = w3 at hb3 hz3 ⊢
        clear c0 c1 hix hrr hrs
        replace BG := BG.below hb3 (by omega)
        replace BR := BR.below hb3 (by omega)
        have hbw3 := hbw.trans (hb3.mono (by omega))
        have HB := Lib.hid (hb.trans (hb3.mono hsr))
        clear hb hb3 hbw
        go_wp2_with fail
        obtain ⟨Gb, egb⟩ : ∃ x, x = wr.heap.size + 1 := ⟨_, rfl⟩
        rw [← egb] at hz3 ⊢
        have BA := Blk.new w3 40 #[.int .i64 (k : Int), .int .i64 0, .int .i64 0, .int .i64 0]
        rw [hz3] at BA
        replace BA := BA.alloc (.cells #[.pointer (some ⟨Gb, 1, none⟩), .pointer (some ⟨Gb, 2, none⟩), .pointer (some ⟨Gb, 3, none⟩)] 75)
        have BP := Blk.new (w3.alloc (.cells #[.int .i64 (k : Int), .int .i64 0, .int .i64 0, .int .i64 0] 40)) 75 #[.pointer (some ⟨Gb, 1, none⟩), .pointer (some ⟨Gb, 2, none⟩), .pointer (some ⟨Gb, 3, none⟩)]
        rw [World.size_alloc, hz3] at BP
        have hb4 : Below Gb w3 ((w3.alloc (.cells #[.int .i64 (k : Int), .int .i64 0, .int .i64 0, .int .i64 0] 40)).alloc (.cells #[.pointer (some ⟨Gb, 1, none⟩), .pointer (some ⟨Gb, 2, none⟩), .pointer (some ⟨Gb, 3, none⟩)] 75)) := ((Below.refl _ _).alloc (by omega) _).alloc (by simp; omega) _
        generalize (w3.alloc (.cells #[.int .i64 (k : Int), .int .i64 0, .int .i64 0, .int .i64 0] 40)).alloc (.cells #[.pointer (some ⟨Gb, 1, none⟩), .pointer (some ⟨Gb, 2, none⟩), .pointer (some ⟨Gb, 3, none⟩)] 75) = w4 at BA BP hb4 ⊢
        have Egb := Lib.hid egb
        have hgw : w.heap.size + 1 < Gb := by omega
        clear egb
        go_loopg [30] 3 (fun gh i wt => ∃ k2 : Nat, k2 ≤ 3 ∧ gh = 3 - k2 ∧ i = .int .i64 (k2 : Int) ∧ Blk wt Gb 40 #[.int .i64 (k : Int), .int .i64 (lsI ws k2 1), .int .i64 (lsI ws k2 2), .int .i64 (lsI ws k2 3)] ∧ Blk wt (Gb + 1) 75 #[.pointer (some ⟨Gb, 1, none⟩), .pointer (some ⟨Gb, 2, none⟩), .pointer (some ⟨Gb, 3, none⟩)] ∧ Below Gb w3 wt)
        case atStart => exact ⟨0, by omega, rfl, rfl, BA, BP, hb4⟩
        case round =>
          obtain ⟨k2, hk2, hg2, rfl, hA, hP2, hb5⟩ := hrel
          have Hg2 := Lib.hid hg2
          clear hg2 BA BP hb4
          replace BG := BG.below hb5 (by omega)
          replace BR := BR.below hb5 (by omega)
          have hbw5 := hbw3.trans (hb5.mono (by omega))
          by_cases hlt2 : k2 < 3
          · have t1 : (k2 : Int) < 3 := by omega
            have cp : wr.cell? ⟨Gb + 1, k2, none⟩ = some (.pointer (some ⟨Gb, k2 + 1, none⟩)) := by
              rw [hP2.cell]
              have hkk : k2 = 0 ∨ k2 = 1 ∨ k2 = 2 := by omega
              rcases hkk with rfl | rfl | rfl <;> rfl
            have HP2 := Lib.hid hP2
            have HA := Lib.hid hA
            have HB5 := Lib.hid hb5
            by_cases hj : k2 + 1 < n
            · have hj' : (k2 : Int) + 1 < (n : Int) := by omega
              have hdg : dgI ws (k2 + 1) = if (ws.getD (k2 + 1) []).length = 1 then (((ws.getD (k2 + 1) []).getD 0 0).toNat : Int) - 48 else 0 := by
                unfold dgI
                have := EN.out
                by_cases h : (ws.getD (k2 + 1) []).length = 1
                · rw [if_pos ⟨by omega, h⟩, if_pos h]
                · rw [if_neg (fun x => h x.2), if_neg h]
              have cw : wr.cell? ⟨w.heap.size + 1, k2 + 1, none⟩ = some (.string ⟨(ws.getD (k2 + 1) []).toArray⟩) := (BG.cell (k2 + 1)).trans (HCW.out (k2 + 1) hj)
              obtain ⟨x, ex⟩ : ∃ x, x = ws.getD (k2 + 1) [] := ⟨_, rfl⟩
              rw [← ex] at hdg cw
              clear ex
              obtain ⟨sx, esx⟩ : ∃ s : ByteArray, s = ⟨x.toArray⟩ := ⟨_, rfl⟩
              have hsz : sx.size = x.length := by rw [esx]; simp [ByteArray.size]
              rw [← esx] at cw
              by_cases hx1 : x.length = 1
              · obtain ⟨px, ix⟩ := byte_at esx (k := 0) (by omega)
                rw [if_pos hx1] at hdg
                rw [hx1] at hsz
                have hc8 : (x.getD 0 0).toNat < 256 := (x.getD 0 0).toNat_lt
                obtain ⟨z, ez⟩ : ∃ z, z = (x.getD 0 0).toNat := ⟨_, rfl⟩
                rw [← ez] at ix hdg hc8
                have Hdg := Lib.hid hdg
                have k1 : IntKind.i64.wrap (z : Int) = (z : Int) := IntWalk.i64_in _ (by omega)
                have k3 : IntKind.i64.wrap ((z : Int) - 48) = (z : Int) - 48 := IntWalk.i64_in _ (by omega)
                obtain ⟨ak, hak⟩ : ∃ ak, wr.cell? ⟨Gb, k2 + 1, none⟩ = some (.int .i64 ak) := by
                  rw [hA.cell]
                  have hkk : k2 = 0 ∨ k2 = 1 ∨ k2 = 2 := by omega
                  rcases hkk with rfl | rfl | rfl
                  · exact ⟨_, rfl⟩
                  · exact ⟨_, rfl⟩
                  · exact ⟨_, rfl⟩
                have hfk := hA.frozen (k2 + 1)
                clear hdg ez esx hA hP2 hb5 hx1
                go_wp2_with fail
                go_roundg (3 - (k2 + 1))
                case measure => have := Hg2.out; omega
                case rel =>
                  have hB6 := HA.out.set_ (k2 + 1) (.int .i64 ((z : Int) - 48))
                  have hP6 := HP2.out.far (p := ⟨Gb, k2 + 1, none⟩) (show Gb + 1 ≠ Gb by omega) (.int .i64 ((z : Int) - 48))
                  refine ⟨k2 + 1, by omega, rfl, by go_num, ?_, hP6, HB5.out.setCell (Nat.le_refl _) _⟩
                  rw [show (#[.int .i64 (k : Int), .int .i64 (lsI ws (k2 + 1) 1), .int .i64 (lsI ws (k2 + 1) 2), .int .i64 (lsI ws (k2 + 1) 3)] : Array Value) = #[.int .i64 (k : Int), .int .i64 (lsI ws k2 1), .int .i64 (lsI ws k2 2), .int .i64 (lsI ws k2 3)].setIfInBounds (k2 + 1) (.int .i64 ((z : Int) - 48)) from ?_]
                  · exact hB6
                  · rw [← Hdg.out]
                    have hkk : k2 = 0 ∨ k2 = 1 ∨ k2 = 2 := by omega
                    rcases hkk with rfl | rfl | rfl <;> simp [lsI]
              · rw [if_neg hx1] at hdg
                have Hdg := Lib.hid hdg
                have hx2 : ((x.length : Int) == 1) = false := by simp; omega
                clear hdg esx hA hP2 hb5
                go_wp2_with fail
                go_roundg (3 - (k2 + 1))
                case measure => have := Hg2.out; omega
                case rel =>
                  refine ⟨k2 + 1, by omega, rfl, by go_num, ?_, HP2.out, HB5.out⟩
                  rw [show (#[.int .i64 (k : Int), .int .i64 (lsI ws (k2 + 1) 1), .int .i64 (lsI ws (k2 + 1) 2), .int .i64 (lsI ws (k2 + 1) 3)] : Array Value) = #[.int .i64 (k : Int), .int .i64 (lsI ws k2 1), .int .i64 (lsI ws k2 2), .int .i64 (lsI ws k2 3)] from ?_]
                  · exact HA.out
                  · have hd := Hdg.out
                    have hkk : k2 = 0 ∨ k2 = 1 ∨ k2 = 2 := by omega
                    rcases hkk with rfl | rfl | rfl <;> simp at hd <;> simp [lsI, hd]
            · have hj' : ¬ (k2 : Int) + 1 < (n : Int) := by omega
              have Hdg : Hid (dgI ws (k2 + 1) = 0) := Lib.hid (by unfold dgI; have := EN.out; rw [if_neg (fun h => by omega)])
              clear hA hP2 hb5
              go_wp2_with fail
              go_roundg (3 - (k2 + 1))
              case measure => have := Hg2.out; omega
              case rel =>
                refine ⟨k2 + 1, by omega, rfl, by go_num, ?_, HP2.out, HB5.out⟩
                rw [show (#[.int .i64 (k : Int), .int .i64 (lsI ws (k2 + 1) 1), .int .i64 (lsI ws (k2 + 1) 2), .int .i64 (lsI ws (k2 + 1) 3)] : Array Value) = #[.int .i64 (k : Int), .int .i64 (lsI ws k2 1), .int .i64 (lsI ws k2 2), .int .i64 (lsI ws k2 3)] from ?_]
                · exact HA.out
                · have hd := Hdg.out
                  have hkk : k2 = 0 ∨ k2 = 1 ∨ k2 = 2 := by omega
                  rcases hkk with rfl | rfl | rfl <;> simp at hd <;> simp [lsI, hd]
          · obtain rfl : k2 = 3 := by omega
            have hkS := kindOf_kindS k hlt
            rw [← Ek.out] at hkS
            have he := HE.out
            rw [hkS.1] at he
            have hl0 := HNL.out hkS.2
            rw [show lsI ws 3 1 = dgI ws 1 from rfl, show lsI ws 3 2 = dgI ws 2 from rfl, show lsI ws 3 3 = dgI ws 3 from rfl] at hA
            obtain ⟨d1, f1⟩ : ∃ d, d = dgI ws 1 := ⟨_, rfl⟩
            obtain ⟨d2, f2⟩ : ∃ d, d = dgI ws 2 := ⟨_, rfl⟩
            obtain ⟨d3, f3⟩ : ∃ d, d = dgI ws 3 := ⟨_, rfl⟩
            rw [← f1, ← f2, ← f3] at he hA
            have HG := Lib.hid (fun W => implGateText_any ⟨(k : Int), d1, d2, d3⟩ W)
            rw [← he] at HG
            obtain ⟨ts, ets⟩ : ∃ ts, ts = gateTx (candI l) := ⟨_, rfl⟩
            rw [← ets] at HG
            unfold Gt.val at HG
            rw [he] at HG
            dsimp only at HG
            have Ets := Lib.hid ets
            have HE9 := Lib.hid he
            have Hl0 := Lib.hid hl0
            have q0 : _ = some (Value.int .i64 (k : Int)) := hA.cell 0
            have q1 : _ = some (Value.int .i64 d1) := hA.cell 1
            have q2 : _ = some (Value.int .i64 d2) := hA.cell 2
            have q3 : _ = some (Value.int .i64 d3) := hA.cell 3
            clear f1 f2 f3 he ets hP2 hkS hl0
            go_wp2_with fail
            refine (HG.out _).mono ?_
            rintro e w6 ⟨rfl, hb6⟩
            have hb56 := hb5.trans (hb6.mono (by have := hb5.size; omega))
            replace hA := hA.below hb6 hA.lt
            replace BR := BR.below hb6 BR.lt
            have hbw6 := hbw5.trans (hb6.mono hbw5.size)
            clear q0 q1 q2 q3 hb5 hbw5
            by_cases hts : ts = l
            · have Hok := Lib.hid (rdOk_of (c := candI l) (l := l) (by rw [← Ets.out]; exact hts) Hl0.out)
              have q0 : _ = some (Value.int .i64 (k : Int)) := hA.cell 0
              have q1 : _ = some (Value.int .i64 d1) := hA.cell 1
              have q2 : _ = some (Value.int .i64 d2) := hA.cell 2
              have q3 : _ = some (Value.int .i64 d3) := hA.cell 3
              have r0 : _ = some (Value.int .i64 0) := BR.cell 0
              have r1 : _ = some (Value.int .i64 0) := BR.cell 1
              have r2 : _ = some (Value.int .i64 0) := BR.cell 2
              have r3 : _ = some (Value.int .i64 0) := BR.cell 3
              have v0 := BR.frozen 0
              have v1 := BR.frozen 1
              have v2 := BR.frozen 2
              have v3 := BR.frozen 3
              obtain ⟨wE, hwE, hBE, hbE⟩ := four_set2 BR hbw6 (.int .i64 (k : Int)) (.int .i64 d1) (.int .i64 d2) (.int .i64 d3)
              have HW := Lib.hid hwE
              obtain rfl : l = ts := hts.symm
              have hrs : (l == l) = true := by simp
              clear BG BR hbw6 hwE hA hb6 hb56
              go_wp2_with fail
              rw [← HW.out]
              exact bodyPost_ret (v := .tuple #[.agg #[.int .i64 (k : Int), .int .i64 d1, .int .i64 d2, .int .i64 d3], .bool true]) (results_cell2_ok Tryd.results28 rfl (load_blk hBE Tryd.underlying40 rfl (gate_size rfl))) rfl ⟨by rw [rdG_t Hok.out, Hok.out, HE9.out]; rfl, hbE⟩
            · have hts2 : (ts == l) = false := by simp [hts]
              have HB6 := Lib.hid (HB.out.trans (hb56.mono (by have := HB.out.size; omega)))
              clear BG BR hbw6 hA hb6 hb56
              go_wp2_with fail
              go_roundg (5 - (k + 1))
              case measure => have := Hg.out; omega
              case rel =>
                refine ⟨k + 1, by omega, rfl, by go_num, fun j hj he => ?_, HB6.out⟩
                by_cases ej : j = k
                · rw [← Ets.out]
                  exact hts
                · exact HP.out j (by omega) he
      · have hq' : (ks == nm) = false := by simp [hq]
        have hq2 : (ks != nm) = true := by simp [hq]
        go_wp2_with fail
        have HB := Lib.hid hb
        clear hb
        go_quiet (fail)
        go_wp2_with fail
        go_roundg (5 - (k + 1))
        case measure => have := Hg.out; omega
        case rel =>
          refine ⟨k + 1, by omega, rfl, by go_num, fun j hj he => ?_, below_drewN (HB.out.alloc hsr _) _⟩
          by_cases ej : j = k
          · rw [ej, ← Ek.out] at he
            exact absurd he hq
          · exact HP.out j (by omega) he
    · obtain rfl : k = 5 := by omega
      have Hno : Hid (rdOk (candI l) l = false) := Lib.hid (rdOk_no fun x => by
        by_cases hl0 : l = []
        · exact hl0
        · have hv := gateB_fivex (val_of_tx hl0 x)
          rw [HE.out] at hv
          simp only at hv
          obtain ⟨j, hj, he⟩ := kindS_kindOf nm (by omega)
          exact absurd x (HP.out j hj he))
      have r0 : _ = some (Value.int .i64 0) := BR.cell 0
      have r1 : _ = some (Value.int .i64 0) := BR.cell 1
      have r2 : _ = some (Value.int .i64 0) := BR.cell 2
      have r3 : _ = some (Value.int .i64 0) := BR.cell 3
      have v0 := BR.frozen 0
      have v1 := BR.frozen 1
      have v2 := BR.frozen 2
      have v3 := BR.frozen 3
      obtain ⟨wE, hwE, hBE, hbE⟩ := four_set2 BR hbw (.int .i64 0) (.int .i64 0) (.int .i64 0) (.int .i64 0)
      have HW := Lib.hid hwE
      clear BG BR hbw hwE
      go_wp2_with fail
      rw [← HW.out]
      exact bodyPost_ret (v := .tuple #[.agg #[.int .i64 0, .int .i64 0, .int .i64 0, .int .i64 0], .bool false]) (results_cell2_ok Tryd.results28 rfl (load_blk hBE Tryd.underlying40 rfl (gate_size rfl))) rfl ⟨by rw [rdG_f Hno.out, Hno.out]; rfl, hbE⟩
end Go.Proofs.YtffkoeobehocjaaDoor
