/- Contract of spec.ReadTable. -/
import Derived.Test.YtffkoeobehocjaaDoorTdP
import Derived.Test.YtffkoeobehocjaaDoorCln
import Derived.Test.YtffkoeobehocjaaDoorDig
namespace Go.Proofs.YtffkoeobehocjaaDoor
open Go.RowKit
set_option linter.unusedVariables false
set_option linter.unusedSimpArgs false

/-- the lines that are read -/
def rtN (l : List UInt8) : Int := if tdOk l = true then lnOf (tbS l) else 0
/-- the table that is read -/
def rtL (l : List UInt8) : List Int := if tdOk l = true then tbS l else []
/-- what both ReadTables answer -/
def RetT (l : List UInt8) (w : World) (e : Ending) (w' : World) : Prop :=
  ∃ A c, e = .returned (.tuple #[.int .i64 (rtN l), .slice A (rtL l).length c, .bool (tdOk l)]) ∧ (rtL l).length ≤ c ∧ Own w' w.heap.size A ((rtL l).map (Value.int .i64)) ∧ Below w.heap.size w w'
theorem rtL_len (l : List UInt8) : (rtL l).length ≤ 256 := by
  unfold rtL
  split
  · rename_i h
    exact (tblB_bd (tdOk_t h).2.2).2.1
  · simp
theorem retT_yes {l : List UInt8} {w w1 : World} {v : Value} {t : TypeId} {n : Nat} {N : Int} {e : Ending} (h : tdOk l = true) (hN : N = lnOf (tbS l)) (ho : w1.ownsRow w.heap.size t 1 v n ((tbS l).map (Value.int .i64))) (hb : Below w.heap.size w w1) (he : e = .returned (.tuple #[.int .i64 N, v, .bool true])) : RetT l w e w1 := by
  obtain ⟨A, c, e2, h1, h2, h3⟩ := retL_acc ho hb rfl
  injection e2 with e2
  have eN : rtN l = lnOf (tbS l) := if_pos h
  have eL : rtL l = tbS l := if_pos h
  unfold RetT
  rw [eN, eL, h]
  subst e2 hN
  exact ⟨A, c, he, h1, h2, h3⟩
theorem retT_no {l : List UInt8} {w w1 : World} {A : Option Addr} {c : Nat} {e : Ending} (h : tdOk l = false) (hb : Below w.heap.size w w1) (he : e = .returned (.tuple #[.int .i64 0, .slice A 0 c, .bool false])) : RetT l w e w1 := by
  have eN : rtN l = 0 := if_neg (by rw [h]; simp)
  have eL : rtL l = [] := if_neg (by rw [h]; simp)
  unfold RetT
  rw [eN, eL, h]
  exact ⟨A, c, he, Nat.zero_le _, fun hn => by simp at hn, hb⟩
theorem own_low {w : World} {base base' e size n : Nat} {v : Value} {xs : List Value} (h : w.ownsRow base e size v n xs) (hb : base' ≤ base) : w.ownsRow base' e size v n xs := by
  refine ⟨h.1, h.2.imp id fun ⟨g, c, cur, h1, h2, h3⟩ => ⟨g, c, cur, h1, Nat.le_trans hb h2, h3⟩⟩
theorem td_none {l : List UInt8} (h : ∀ j : Nat, j < 8 → tabTx ((j + 1 : Nat) : Int) (tbS l) = l → l = []) : tdOk l = false := by
  cases e : tdOk l with
  | false => rfl
  | true =>
    exfalso
    obtain ⟨h1, h2, h3⟩ := tdOk_t e
    have h8 := inB_t (tblB_t h3).1
    obtain ⟨j, hj⟩ : ∃ j : Nat, lnOf (tbS l) = ((j + 1 : Nat) : Int) := ⟨(lnOf (tbS l) - 1).toNat, by omega⟩
    rw [hj] at h1
    exact h2 (h j (by omega) h1)

set_option maxHeartbeats 4000000 in
set_option maxRecDepth 50000 in
theorem specTableText_all (l : Int) (A : Option Addr) (n c B : Nat) (xs : List Int) (w : World) (h : Reads w B 1 A n (xs.map (Value.int .i64))) (hB : B ≤ w.heap.size) (hz : xs.length = n) (hc : n ≤ c) (hn : n ≤ 4000000) :
    Calls Tryd.prog 18 #[.int .i64 l, .slice A n c] w fun e w' => e = .returned (.string ⟨(tabTx l xs).toArray⟩) ∧ Below w.heap.size w w' := by
  cases hv : tblB l xs with
  | true =>
    have := (tblB_bd hv).2.1
    exact specTableText_any l A n c B xs w h hB hz hc (by omega)
  | false =>
    have HV := Lib.hid (Calls.drewBelow (specTableValid_any l A n c B xs w h hz hc (by omega)))
    have Hr : Hid (tabTx l xs = []) := Lib.hid (by unfold tabTx; rw [hv]; rfl)
    rw [hv] at HV
    clear hv h hz
    go_enter Tryd.func18, Tryd.ntmps18
    go_wp2_with fail
    refine HV.out.mono ?_
    rintro e w1 ⟨rfl, W1⟩
    go_wp2_with fail
    go_ret
    rw [Hr.out]
    exact ⟨rfl, W1⟩

set_option maxHeartbeats 4000000 in
set_option maxRecDepth 50000 in
theorem specReadTable_any (l : List UInt8) (hl : l.length ≤ 2000000) (w : World) :
    Calls Tryd.prog 11 #[.string ⟨l.toArray⟩] w fun e w' => RetT l w e w' := by
  have HLN := Lib.hid (fun j => cutL_len2 l j)
  have HC := Lib.hid (fun W => l1Cut_any l hl W)
  have Hl := Lib.hid hl
  have HTB : Hid (∀ k, k < (cutL l).length → (tbS l).take (k + 1) = (tbS l).take k ++ [digL ((cutL l).getD k [])]) := Lib.hid fun k hk => by
    unfold tbS
    rw [List.take_succ_eq_append_getElem (by simpa using hk)]
    simp [List.getD_eq_getElem?_getD, List.getElem?_eq_getElem hk]
  have HTL : Hid ((tbS l).length = (cutL l).length) := Lib.hid (by simp [tbS])
  have HW2 : Hid ((cutL l).length ≤ l.length + 1) := Lib.hid (by
    have h1 : ∀ k, (cutW l k).length ≤ k := fun k => cutW_le l k
    have := h1 l.length
    simp [cutL]
    omega)
  obtain ⟨ws, ew⟩ : ∃ ws, ws = cutL l := ⟨_, rfl⟩
  rw [← ew] at HC HLN HTB HTL HW2
  obtain ⟨tb, et⟩ : ∃ tb, tb = tbS l := ⟨_, rfl⟩
  rw [← et] at HTB HTL
  obtain ⟨s, es⟩ : ∃ s : ByteArray, s = ⟨l.toArray⟩ := ⟨_, rfl⟩
  rw [← es] at HC ⊢
  have HWp : Hid (1 ≤ ws.length) := Lib.hid (by rw [ew]; simp [cutL])
  have HS := Lib.hid es
  have ET := Lib.hid et
  obtain ⟨ii, hi, hz0, hz1, hz2⟩ := info_parts infoInt
  clear es ew hl et
  go_enter Tryd.func11, Tryd.ntmps11
  go_wp2_with fail
  refine (HC.out _).mono ?_
  rintro e w1 ⟨v, n, rfl, hR⟩
  have W1 := hR.below
  have hlenw := hR.len
  obtain ⟨m, em⟩ : ∃ m, n = m + 1 := ⟨n - 1, by have := HWp.out; omega⟩
  have hn2 : n ≤ 2000001 := by have := HW2.out; have := Hl.out; omega
  have hR2 := hR
  rw [em] at hR2
  obtain ⟨g, c, rfl, hgl, hcap, hcells⟩ := hR2.opens
  have HCL := Lib.hid hcells
  have R0 := World.ownsRow_made (base := w1.heap.size) (e := 3) (size := 1) w1 #[] 0 (Nat.le_refl _) (by simp [maxLen]) rfl
  have B0 := (Below.refl w1.heap.size w1).alloc (Nat.le_refl _) (Obj.cells #[] 3)
  rw [← em]
  have EM := Lib.hid em
  have HLW := Lib.hid hlenw
  have HW1 := Lib.hid W1
  clear hR hR2 hcells em hlenw W1
  go_wp2_with fail
  go_loopg [6, 7] n (fun gh v i wr => ∃ k : Nat, k ≤ n ∧ gh = n - k ∧ i = .int .i64 k ∧ wr.ownsRow w1.heap.size 3 1 v k ((tb.take k).map (Value.int .i64)) ∧ Below w1.heap.size w1 wr)
  case atStart => exact ⟨0, Nat.zero_le _, rfl, rfl, by simpa using R0, B0⟩
  case round =>
    obtain ⟨k, hk, hg, rfl, hown, hb⟩ := hrel
    have Hg := Lib.hid hg
    obtain ⟨A5, c5, rfl, hc5⟩ := own_shape hown
    clear hg R0 B0
    by_cases hlt : k < n
    · have hlt' : (k : Int) < (n : Int) := by omega
      have cw : wr.cell? ⟨g, k, none⟩ = some (.string ⟨(ws.getD k []).toArray⟩) := by
        have h0 := HCL.out k ⟨(ws.getD k []).toArray⟩ (by
          have := HLW.out
          rw [List.getElem?_map, List.getD_eq_getElem?_getD, List.getElem?_eq_getElem (by omega)]
          rfl)
        rw [Nat.zero_add] at h0
        exact (hb.cell (by simpa using hgl)).trans h0
      have HD := Lib.hid (fun W => l1Digits_any (ws.getD k []) (by have := HLN.out k; have := Hl.out; omega) W)
      have hsn := HTB.out k (by have := HLW.out; omega)
      obtain ⟨x, ex⟩ : ∃ x, x = ws.getD k [] := ⟨_, rfl⟩
      rw [← ex] at HD cw hsn
      obtain ⟨d, ed⟩ : ∃ d, d = digL x := ⟨_, rfl⟩
      rw [← ed] at HD hsn
      have Hsn := Lib.hid hsn
      have Hown := Lib.hid hown
      clear ex ed hown hsn
      go_wp2_with fail
      refine (HD.out _).mono ?_
      rintro e w2 ⟨rfl, hb2⟩
      have hb02 := bnext hb hb2 (Nat.le_refl _)
      have own2 := own_next Hown.out hb2
      have hlw := own2.lt
      have hs2 := hb02.size
      clear hb hb2 cw
      go_wp2_with (at_builtin; refine wpList_append_own _ rfl _ _ 22 rfl w1.heap.size 3 ii (.int .i64 0) 1 8 Tryd.underlying22 hi hz0 hz1 hz2 rfl (by decide) _ _ _ rfl (own2.alloc _) ⟨w2.heap.size, 0, none⟩ 1 1 [.int .i64 d] rfl rfl (cell_one_new _ _ _) (by simp [Value.oneCell']) (by unfold maxLen; omega) (by omega) (by simp; omega) ?_; intro v' w3 hown' hgrow _)
      have hb' := (hb02.alloc hs2 (Obj.cells #[.int .i64 d] 3)).grown hgrow (by simp; omega) (fun q e => (hlw q e).1)
      have hown2 : w3.ownsRow w1.heap.size 3 1 v' (k + 1) ((tb.take (k + 1)).map (Value.int .i64)) := by rw [Hsn.out]; simpa using hown'
      clear hlw hgrow hown' own2
      go_wp2_with fail
      go_roundg (n - (k + 1))
      case measure => have := Hg.out; omega
      case rel => exact ⟨k + 1, by omega, rfl, by go_num, hown2, hb'⟩
    · have hlt' : ¬ (k : Int) < (n : Int) := by omega
      obtain rfl : k = n := by omega
      rw [List.take_of_length_le (by have := HTL.out; have := HLW.out; omega)] at hown
      have HR := Lib.hid (own_reads hown rfl)
      have Hown := Lib.hid hown
      have HB := Lib.hid hb
      have HZ : Hid (tb.length = k) := Lib.hid (by have := HTL.out; have := HLW.out; omega)
      have es := HS.out
      subst es
      have CT := Lib.hid (fun j W (hw : Below wr.heap.size wr W) => specTableText_all j A5 k c5 wr.heap.size tb W (HR.out.below hw) hw.size HZ.out hc5 (by omega))
      obtain ⟨w9, e9⟩ : ∃ w9, w9 = wr := ⟨_, rfl⟩
      rw [← e9] at CT Hown HB ⊢
      clear hown hb e9 HR
      go_wp2_with fail
      go_loopg [8] 8 (fun gh i wt => ∃ k : Nat, k ≤ 8 ∧ gh = 8 - k ∧ i = .int .i64 ((k + 1 : Nat) : Int) ∧ (∀ j : Nat, j < k → tabTx ((j + 1 : Nat) : Int) tb = l → l = []) ∧ Below w9.heap.size w9 wt)
      case atStart => exact ⟨0, by omega, rfl, rfl, fun j hj => absurd hj (by omega), Below.refl _ _⟩
      case round =>
        obtain ⟨q, hq, hgq, rfl, hP, hbt⟩ := hrel
        have Hgq := Lib.hid hgq
        have HP := Lib.hid hP
        clear hgq hP
        by_cases hlt : q < 8
        · have t1 : ((q + 1 : Nat) : Int) ≤ 8 := by omega
          have C := Lib.hid (CT.out ((q + 1 : Nat) : Int) _ hbt)
          obtain ⟨ts, ets⟩ : ∃ ts, ts = tabTx ((q + 1 : Nat) : Int) tb := ⟨_, rfl⟩
          rw [← ets] at C
          have Ets := Lib.hid ets
          clear ets
          go_wp2_with fail
          refine C.out.mono ?_
          rintro e w6 ⟨rfl, hb6⟩
          have hbt6 := bnext hbt hb6 (Nat.le_refl _)
          clear hb6 hbt C
          by_cases hts : ts = l
          · have hs1 : (ts == l) = true := by simp [hts]
            by_cases hl0 : l = []
            · have hl1 : (l == ([] : List UInt8)) = true := by simp [hl0]
              have Hl0 := Lib.hid hl0
              subst hts
              subst hl0
              go_wp2_with fail
              go_roundg (8 - (q + 1))
              case measure => have := Hgq.out; omega
              case rel =>
                exact ⟨q + 1, by omega, rfl, by go_num, fun j hj he => by first | rfl | trivial, hbt6⟩
            · have hl1 : (l == ([] : List UInt8)) = false := by simp [hl0]
              have hl2 : l.isEmpty = false := by cases l with | nil => exact absurd rfl hl0 | cons a t => rfl
              have Hok := Lib.hid (tdOk_of (n := ((q + 1 : Nat) : Int)) (l := l) (by rw [← ET.out, ← Ets.out]; exact hts) hl0)
              subst hts
              go_wp2_with fail
              go_ret3
              have hwle : w.heap.size ≤ w1.heap.size := HW1.out.size
              have hown6 := own_low (own_next Hown.out hbt6) hwle
              rw [ET.out] at hown6
              exact retT_yes Hok.out.1 Hok.out.2 hown6 (bnext (bnext HW1.out HB.out (Nat.le_refl _)) hbt6 (Nat.le_refl _)) rfl
          · have hs1 : (ts == l) = false := by simp [hts]
            go_wp2_with fail
            go_roundg (8 - (q + 1))
            case measure => have := Hgq.out; omega
            case rel =>
              refine ⟨q + 1, by omega, rfl, by go_num, fun j hj he => ?_, hbt6⟩
              by_cases ej : j = q
              · subst ej
                rw [← Ets.out] at he
                exact absurd he hts
              · exact HP.out j (by omega) he
        · obtain rfl : q = 8 := by omega
          have t1 : ¬ ((8 + 1 : Nat) : Int) ≤ 8 := by omega
          have Hno := Lib.hid (td_none (l := l) (by rw [← ET.out]; exact HP.out))
          go_wp2_with fail
          go_ret3
          have hbb := bnext (bnext HW1.out HB.out (Nat.le_refl _)) hbt (Nat.le_refl _)
          exact retT_no Hno.out (hbb.alloc hbb.size _) rfl
end Go.Proofs.YtffkoeobehocjaaDoor
