/- Contract of spec.ReadGate. -/
import Derived.Test.YtffkoeobehocjaaDoorRdQ
import Derived.Test.YtffkoeobehocjaaDoorToGate
import Derived.Test.YtffkoeobehocjaaDoorNature
namespace Go.Proofs.YtffkoeobehocjaaDoor
open Go.RowKit
set_option linter.unusedVariables false
set_option linter.unusedSimpArgs false

theorem cutW_mem (l : List UInt8) (k : Nat) : ∀ x, x ∈ cutW l k → x.length ≤ l.length := by
  induction k with
  | zero => intro x hx; cases hx
  | succ k ih =>
    intro x hx
    unfold cutW at hx
    split at hx
    · rw [List.mem_append] at hx
      rcases hx with hx | hx
      · exact ih x hx
      · simp only [List.mem_singleton] at hx
        rw [hx]
        simp
        omega
    · exact ih x hx
theorem cutL_len (l : List UInt8) (j : Nat) : ((cutL l).getD j []).length ≤ l.length := by
  rw [List.getD_eq_getElem?_getD]
  by_cases h : j < (cutL l).length
  · rw [List.getElem?_eq_getElem h, Option.getD_some]
    have hm := List.getElem_mem h
    have : ∀ x, x ∈ cutL l → x.length ≤ l.length := by
      intro x hx
      unfold cutL at hx
      rw [List.mem_append] at hx
      rcases hx with hx | hx
      · exact cutW_mem l _ x hx
      · simp only [List.mem_singleton] at hx
        rw [hx]
        simp
    exact this _ hm
  · rw [List.getElem?_eq_none (by omega)]
    simp
/-- the list of lines behind k words -/
def lsS (ws : List (List UInt8)) (k j : Nat) : Int := if j < k then dgS ws j else 0
theorem lsS_end (ws : List (List UInt8)) (k j : Nat) (h : j < k ∨ ws.length ≤ k) : lsS ws k j = dgS ws j := by
  unfold lsS
  by_cases e : j < k
  · rw [if_pos e]
  · rw [if_neg e]
    unfold dgS
    rw [if_neg (by omega)]
/-- the kind found among the first k -/
def kindUp (nm : List UInt8) : Nat → Int
  | 0 => -1
  | k + 1 => if nm = kindS k then (k : Int) else kindUp nm k
theorem kindUp_all (nm : List UInt8) : kindUp nm 5 = kindOf nm := by
  simp only [kindUp, kindOf]
  have e0 : kindS ((0 : Nat) : Int) = [110, 111, 116] := rfl
  have e1 : kindS ((1 : Nat) : Int) = [99, 111, 112, 121] := rfl
  have e2 : kindS ((2 : Nat) : Int) = [98, 111, 116, 104] := rfl
  have e3 : kindS ((3 : Nat) : Int) = [115, 119, 97, 112] := rfl
  have e4 : kindS ((4 : Nat) : Int) = [105, 102] := rfl
  rw [e0, e1, e2, e3, e4]
  by_cases h0 : nm = [110, 111, 116]
  · subst h0; rfl
  by_cases h1 : nm = [99, 111, 112, 121]
  · subst h1; rfl
  by_cases h2 : nm = [98, 111, 116, 104]
  · subst h2; rfl
  by_cases h3 : nm = [115, 119, 97, 112]
  · subst h3; rfl
  by_cases h4 : nm = [105, 102]
  · subst h4; rfl
  simp [h0, h1, h2, h3, h4]

/-- the four cells of a row are set -/
theorem four_set {w w3 : World} {t : TypeId} {z0 z1 z2 z3 : Value} (hB : Blk w3 w.heap.size t #[z0, z1, z2, z3]) (hb : Below w.heap.size w w3) (k a b c : Value) :
    ∃ wE, wE = ((((w3.setCell ⟨w.heap.size, 0, none⟩ k).setCell ⟨w.heap.size, 1, none⟩ a).setCell ⟨w.heap.size, 2, none⟩ b).setCell ⟨w.heap.size, 3, none⟩ c) ∧
      Blk wE w.heap.size t #[k, a, b, c] ∧ Below w.heap.size w wE :=
  ⟨_, rfl, (((hB.set_ 0 k).set_ 1 a).set_ 2 b).set_ 3 c, (((hb.setCell (by simp) _).setCell (by simp) _).setCell (by simp) _).setCell (by simp) _⟩

set_option maxHeartbeats 4000000 in
set_option maxRecDepth 50000 in
theorem specReadGate_any (l : List UInt8) (hl : l.length ≤ 2000000) (w : World) :
    Calls Tryd.prog 27 #[.string ⟨l.toArray⟩] w fun e w' => e = .returned (.tuple #[(rdG (candS l) l).val, .bool (rdOk (candS l) l)]) ∧ Below w.heap.size w w' := by
  have HE := Lib.hid (show candS l = ⟨kindOf ((cutL l).getD 0 []), dgS (cutL l) 1, dgS (cutL l) 2, dgS (cutL l) 3⟩ from rfl)
  have HLN := Lib.hid (fun j => cutL_len l j)
  have Hl := Lib.hid hl
  have HC := Lib.hid (fun W => l1Cut_any l hl W)
  obtain ⟨ws, ew⟩ : ∃ ws, ws = cutL l := ⟨_, rfl⟩
  rw [← ew] at HC HE HLN
  obtain ⟨s, es⟩ : ∃ s : ByteArray, s = ⟨l.toArray⟩ := ⟨_, rfl⟩
  rw [← es] at HC ⊢
  have HWp : Hid (1 ≤ ws.length) := Lib.hid (by rw [ew]; simp [cutL])
  have HS := Lib.hid es
  clear es ew hl
  go_enter Tryd.func27, Tryd.ntmps27
  go_wp2_with fail
  refine (HC.out _).mono ?_
  rintro e w1 ⟨v, n, rfl, hR⟩
  go_wp2_with fail
  have W1 := hR.below
  obtain ⟨m, em⟩ : ∃ m, n = m + 1 := ⟨n - 1, by have := hR.len; have := HWp.out; omega⟩
  rw [em] at hR
  obtain ⟨g, c, rfl, hgl, hcap, hcells⟩ := hR.opens
  obtain ⟨nm, enm⟩ : ∃ nm, nm = ws.getD 0 [] := ⟨_, rfl⟩
  have c0 : w1.cell? ⟨g, 0, none⟩ = some (.string ⟨nm.toArray⟩) := by
    refine hcells 0 _ ?_
    rw [List.getElem?_map, enm]
    have := hR.len
    cases ws with
    | nil => simp at this
    | cons a t => rfl
  have HCL := Lib.hid hcells
  rw [← enm] at HE
  clear enm
  have B1 := Blk.new (w1.alloc (.cells #[.int .i64 0, .int .i64 0, .int .i64 0] 3)) 40 #[.int .i64 (-1), .int .i64 0, .int .i64 0, .int .i64 0]
  simp only [World.size_alloc] at B1
  have BL := (Blk.new w1 3 #[.int .i64 0, .int .i64 0, .int .i64 0]).alloc (.cells #[.int .i64 (-1), .int .i64 0, .int .i64 0, .int .i64 0] 40)
  have W2 : Below w1.heap.size w1 ((w1.alloc (.cells #[.int .i64 0, .int .i64 0, .int .i64 0] 3)).alloc (.cells #[.int .i64 (-1), .int .i64 0, .int .i64 0, .int .i64 0] 40)) := ((Below.refl _ _).alloc (Nat.le_refl _) _).alloc (by simp) _
  have c1 := (W2.cell (p := ⟨g, 0, none⟩) (by simpa using hgl)).trans c0
  have hz3 := W2.size
  have hsz3 : ((w1.alloc (.cells #[.int .i64 0, .int .i64 0, .int .i64 0] 3)).alloc (.cells #[.int .i64 (-1), .int .i64 0, .int .i64 0, .int .i64 0] 40)).heap.size = w1.heap.size + 1 + 1 := by simp
  clear hcells
  generalize (w1.alloc (.cells #[.int .i64 0, .int .i64 0, .int .i64 0] 3)).alloc (.cells #[.int .i64 (-1), .int .i64 0, .int .i64 0, .int .i64 0] 40) = w3 at B1 BL W2 c1 hz3 hsz3 ⊢
  obtain ⟨O, eO⟩ : ∃ O, O = w1.heap.size + 1 := ⟨_, rfl⟩
  have HO := Lib.hid eO
  rw [← eO] at B1 hsz3 ⊢
  have hgO : g < O := by omega
  clear eO
  go_loopg [7] 5 (fun gh i wr => ∃ k : Nat, k ≤ 5 ∧ gh = 5 - k ∧ i = .int .i64 k ∧ Blk wr O 40 #[.int .i64 (kindUp nm k), .int .i64 0, .int .i64 0, .int .i64 0] ∧ Below O w3 wr)
  case atStart => exact ⟨0, by omega, rfl, rfl, B1, Below.refl _ _⟩
  case round =>
    obtain ⟨k, hk, hg, rfl, hB, hb⟩ := hrel
    have Hg := Lib.hid hg
    clear hg B1
    have HBL := Lib.hid BL
    clear BL
    have hsr := hb.size
    have cr := (hb.cell (p := ⟨g, 0, none⟩) (by simpa using hgO)).trans c1
    by_cases hlt : k ≤ 4
    · have hlt' : (k : Int) ≤ 4 := by omega
      have HK := Lib.hid (fun W => l1Kind_any (k : Int) W (by omega))
      have hks : kindUp nm (k + 1) = if nm = kindS (k : Int) then (k : Int) else kindUp nm k := rfl
      obtain ⟨ks, ek⟩ : ∃ ks, ks = kindS (k : Int) := ⟨_, rfl⟩
      rw [← ek] at HK hks
      obtain ⟨u, eu⟩ : ∃ u, u = kindUp nm k := ⟨_, rfl⟩
      rw [← eu] at hB hks
      clear ek eu
      by_cases hq : nm = ks
      · rw [if_pos hq] at hks
        subst hq
        go_wp2_with fail
        go_region_with (go_at_call 47; (with_reducible refine (HK.out _).mono ?_); rintro e w4 ⟨rfl, hb4⟩; (have cr4 := (hb4.cell (p := ⟨g, 0, none⟩) (by simp; omega)).trans cr))
        all_goals
          (try simp only [List.getElem_toArray, List.getElem_cons_zero, List.getElem_cons_succ, Act.put, List.setIfInBounds_toArray, List.set_cons_zero, List.set_cons_succ])
          have hb4' : Below O w3 w4 := (below_drewN hb 1).trans (hb4.mono (by simp; omega))
          have hB4 : Blk w4 O 40 #[.int .i64 u, .int .i64 0, .int .i64 0, .int .i64 0] := Blk.next (w := wr.drew) hB hb4
          have x0 : w4.cell? ⟨O, 0, none⟩ = some (.int .i64 u) := hB4.cell 0
          have y0 := hB4.frozen 0
          have hB5 := hB4.set_ 0 (.int .i64 (k : Int))
          have hb5 : Below O w3 (w4.setCell ⟨O, 0, none⟩ (.int .i64 (k : Int))) := below_of_only hb4' (only_setCell (World.grownBy.refl _ _) (.inl rfl) _) (Nat.le_refl _) (by have := hb4'.size; omega)
          go_wp2_with fail
          go_roundg (5 - (k + 1))
          case measure => have := Hg.out; omega
          case rel => exact ⟨k + 1, by omega, rfl, by go_num, by rw [hks]; exact hB5, hb5⟩
      · rw [if_neg hq] at hks
        have hq' : (nm == ks) = false := by simp [hq]
        go_wp2_with fail
        go_region_with (go_at_call 47; (with_reducible refine (HK.out _).mono ?_); rintro e w4 ⟨rfl, hb4⟩; (have cr4 := (hb4.cell (p := ⟨g, 0, none⟩) (by simp; omega)).trans cr))
        all_goals
          (try simp only [List.getElem_toArray, List.getElem_cons_zero, List.getElem_cons_succ, Act.put, List.setIfInBounds_toArray, List.set_cons_zero, List.set_cons_succ])
          have hb4' : Below O w3 w4 := (below_drewN hb 1).trans (hb4.mono (by simp; omega))
          have hB4 : Blk w4 O 40 #[.int .i64 u, .int .i64 0, .int .i64 0, .int .i64 0] := Blk.next (w := wr.drew) hB hb4
          go_wp2_with fail
          go_roundg (5 - (k + 1))
          case measure => have := Hg.out; omega
          case rel => exact ⟨k + 1, by omega, rfl, by go_num, by rw [hks]; exact hB4, hb4'⟩
    · obtain rfl : k = 5 := by omega
      rw [kindUp_all] at hB
      have hlt' : ¬ ((5 : Nat) : Int) ≤ 4 := by omega
      have hLO : w1.heap.size < O := by have := HO.out; omega
      have BL := HBL.out.below hb hLO
      have W2' : Below w1.heap.size w1 wr := W2.trans (hb.mono (by omega))
      clear hb cr c1 HBL
      go_wp2_with fail
      go_loopg [8] 4 (fun gh i wt => ∃ k : Nat, k ≤ 3 ∧ (k = 0 ∨ k < m + 1) ∧ gh = 4 - k ∧ i = .int .i64 ((k + 1 : Nat) : Int) ∧ Blk wt w1.heap.size 3 #[.int .i64 (lsS ws (k + 1) 1), .int .i64 (lsS ws (k + 1) 2), .int .i64 (lsS ws (k + 1) 3)] ∧ Blk wt O 40 #[.int .i64 (kindOf nm), .int .i64 0, .int .i64 0, .int .i64 0] ∧ Below w1.heap.size w1 wt)
      case atStart => exact ⟨0, by omega, .inl rfl, rfl, rfl, BL, hB, W2'⟩
      case round =>
        obtain ⟨k, hk, hk2, hg, rfl, hL, hO, hb⟩ := hrel
        have Hg := Lib.hid hg
        clear hg BL hB W2'
        have hsr := hb.size
        have hlen := hR.len
        by_cases hlt : k + 1 < m + 1 ∧ k + 1 ≤ 3
        · obtain ⟨hl1, hl2⟩ := hlt
          have t1 : ((k + 1 : Nat) : Int) < ((m + 1 : Nat) : Int) := by omega
          have t2 : ((k + 1 : Nat) : Int) ≤ 3 := by omega
          have cw : wr.cell? ⟨g, k + 1, none⟩ = some (.string ⟨(ws.getD (k + 1) []).toArray⟩) := by
            have h0 := HCL.out (k + 1) ⟨(ws.getD (k + 1) []).toArray⟩ (by
              rw [List.getElem?_map, List.getD_eq_getElem?_getD, List.getElem?_eq_getElem (by omega)]
              rfl)
            rw [Nat.zero_add] at h0
            exact (hb.cell (by simpa using hgl)).trans h0
          have HD := Lib.hid (fun W => l1Digits_any (ws.getD (k + 1) []) (by have := HLN.out (k + 1); have := Hl.out; omega) W)
          have hdg : dgS ws (k + 1) = digL (ws.getD (k + 1) []) := by unfold dgS; rw [if_pos (by omega)]
          rw [← hdg] at HD
          clear hdg
          obtain ⟨d, ed⟩ : ∃ d, d = dgS ws (k + 1) := ⟨_, rfl⟩
          rw [← ed] at HD
          have Ed := Lib.hid ed
          clear ed
          have hw0 : IntKind.i64.wrap (((k + 1 : Nat) : Int) - 1) = (k : Int) := by rw [show ((k + 1 : Nat) : Int) - 1 = (k : Int) by omega]; exact IntWalk.i64_in _ (by omega)
          have hk3 : (k : Int) < 3 := by omega
          obtain ⟨x, ex⟩ : ∃ x, x = ws.getD (k + 1) [] := ⟨_, rfl⟩
          rw [← ex] at HD cw
          clear ex
          go_wp2_with fail
          with_reducible refine (HD.out _).mono ?_
          rintro e w5 ⟨rfl, hb5⟩
          have hL5 := hL.below hb5 hL.lt
          have hO5 := hO.below hb5 hO.lt
          have hbb := hb.trans (hb5.mono hsr)
          obtain ⟨a1, e1⟩ : ∃ a, a = lsS ws (k + 1) 1 := ⟨_, rfl⟩
          obtain ⟨a2, e2⟩ : ∃ a, a = lsS ws (k + 1) 2 := ⟨_, rfl⟩
          obtain ⟨a3, e3⟩ : ∃ a, a = lsS ws (k + 1) 3 := ⟨_, rfl⟩
          rw [← e1, ← e2, ← e3] at hL5
          have E123 := Lib.hid (And.intro e1 (And.intro e2 e3))
          clear e1 e2 e3 hL hO hb hb5 cw
          obtain ⟨ak, hak⟩ : ∃ ak, w5.cell? ⟨w1.heap.size, k, none⟩ = some (.int .i64 ak) := by
            rw [hL5.cell]
            have hkk : k = 0 ∨ k = 1 ∨ k = 2 := by omega
            rcases hkk with rfl | rfl | rfl
            · exact ⟨a1, rfl⟩
            · exact ⟨a2, rfl⟩
            · exact ⟨a3, rfl⟩
          have hfk := hL5.frozen k
          have HL5 := Lib.hid hL5
          have HO5 := Lib.hid hO5
          clear hL5 hO5
          go_wp2_with fail
          go_roundg (4 - (k + 1))
          case measure => have := Hg.out; omega
          case rel =>
            obtain ⟨e1, e2, e3⟩ := E123.out
            have hB6 := HL5.out.set_ k (.int .i64 d)
            have hO6 := HO5.out.far (p := ⟨w1.heap.size, k, none⟩) (show O ≠ w1.heap.size by have := HO.out; omega) (.int .i64 d)
            refine ⟨k + 1, by omega, .inr hl1, rfl, by go_num, ?_, hO6, below_of_only hbb (only_setCell (World.grownBy.refl _ _) (.inl rfl) _) (Nat.le_refl _) (by have := hbb.size; omega)⟩
            rw [show (#[.int .i64 (lsS ws (k + 1 + 1) 1), .int .i64 (lsS ws (k + 1 + 1) 2), .int .i64 (lsS ws (k + 1 + 1) 3)] : Array Value) = #[.int .i64 a1, .int .i64 a2, .int .i64 a3].setIfInBounds k (.int .i64 d) from ?_]
            · exact hB6
            · have hd := Ed.out
              have hkk : k = 0 ∨ k = 1 ∨ k = 2 := by omega
              rcases hkk with rfl | rfl | rfl
              · rw [e2, e3, hd]; simp [lsS]
              · rw [e1, e3, hd]; simp [lsS]
              · rw [e1, e2, hd]; simp [lsS]
        · have hx : (¬ ((k + 1 : Nat) : Int) < ((m + 1 : Nat) : Int)) ∨ (((k + 1 : Nat) : Int) < ((m + 1 : Nat) : Int) ∧ ¬ ((k + 1 : Nat) : Int) ≤ 3) := by omega
          rw [lsS_end ws (k + 1) 1 (by omega), lsS_end ws (k + 1) 2 (by omega), lsS_end ws (k + 1) 3 (by omega)] at hL
          have HE2 := HE.out
          obtain ⟨d1, f1⟩ : ∃ d, d = dgS ws 1 := ⟨_, rfl⟩
          obtain ⟨d2, f2⟩ : ∃ d, d = dgS ws 2 := ⟨_, rfl⟩
          obtain ⟨d3, f3⟩ : ∃ d, d = dgS ws 3 := ⟨_, rfl⟩
          obtain ⟨kk, fk⟩ : ∃ d, d = kindOf nm := ⟨_, rfl⟩
          rw [← f1, ← f2, ← f3] at hL
          rw [← fk] at hO
          rw [← f1, ← f2, ← f3, ← fk] at HE2
          have HE3 := Lib.hid HE2
          have hne : O ≠ w1.heap.size := by have := HO.out; omega
          have hwO : w.heap.size ≠ O := by have := HO.out; have := W1.size; simp only [World.size_alloc] at this; omega
          have BR : Blk wr w.heap.size 40 #[.int .i64 0, .int .i64 0, .int .i64 0, .int .i64 0] := by
            have h0 := Blk.new w 40 #[.int .i64 0, .int .i64 0, .int .i64 0, .int .i64 0]
            exact (h0.below W1 (by simp)).below hb (by have := W1.size; simp at this; omega)
          have HB := Lib.hid hb
          clear f1 f2 f3 fk HE2 HE HCL HLN hb
          have BLa := hL.far (p := ⟨O, 1, none⟩) (fun e => hne e.symm) (.int .i64 d1)
          have BOa := hO.set_ 1 (.int .i64 d1)
          have BLb := BLa.far (p := ⟨O, 2, none⟩) (fun e => hne e.symm) (.int .i64 d2)
          have BOb := BOa.set_ 2 (.int .i64 d2)
          have BOc := BOb.set_ 3 (.int .i64 d3)
          have BRc := ((BR.far (p := ⟨O, 1, none⟩) hwO (.int .i64 d1)).far (p := ⟨O, 2, none⟩) hwO (.int .i64 d2)).far (p := ⟨O, 3, none⟩) hwO (.int .i64 d3)
          have l0 : wr.cell? ⟨w1.heap.size, 0, none⟩ = some (.int .i64 d1) := hL.cell 0
          have o0 : wr.cell? ⟨O, 1, none⟩ = some (.int .i64 0) := hO.cell 1
          have y0 := hO.frozen 1
          have l1 := BLa.cell 1
          have o1 := BOa.cell 2
          have y1 := BOa.frozen 2
          have l2 := BLb.cell 2
          have o2 := BOb.cell 3
          have y2 := BOb.frozen 3
          simp only [List.setIfInBounds_toArray, List.set_cons_zero, List.set_cons_succ, List.getElem?_toArray, List.getElem?_cons_zero, List.getElem?_cons_succ] at l1 o1 l2 o2 BOc
          have HBO := Lib.hid BOc
          have HBR := Lib.hid BRc
          have hwle : w.heap.size ≤ w1.heap.size := by have := W1.size; simp only [World.size_alloc] at this; omega
          have hwlO : w.heap.size ≤ O := by have := HO.out; omega
          have hbw : Below w.heap.size w wr := ((Below.refl _ _).alloc (Nat.le_refl _) _).trans ((W1.mono (by simp)).trans (HB.out.mono hwle))
          have HBW := Lib.hid (((hbw.setCell (p := ⟨O, 1, none⟩) hwlO (.int .i64 d1)).setCell (p := ⟨O, 2, none⟩) hwlO (.int .i64 d2)).setCell (p := ⟨O, 3, none⟩) hwlO (.int .i64 d3))
          clear BLa BOa BLb BOb BR hL hO hbw
          have es := HS.out
          subst es
          have r0 : _ = some (Value.int .i64 0) := BRc.cell 0
          have r1 : _ = some (Value.int .i64 0) := BRc.cell 1
          have r2 : _ = some (Value.int .i64 0) := BRc.cell 2
          have r3 : _ = some (Value.int .i64 0) := BRc.cell 3
          have v0 := BRc.frozen 0
          have v1 := BRc.frozen 1
          have v2 := BRc.frozen 2
          have v3 := BRc.frozen 3
          by_cases hl0 : l = []
          · have Hno := Lib.hid (rdOk_no (c := candS []) (l := []) fun _ => rfl)
            obtain ⟨wE, hwE, hBE, hbE⟩ := four_set HBR.out HBW.out (.int .i64 0) (.int .i64 0) (.int .i64 0) (.int .i64 0)
            have HE := Lib.hid hwE
            clear BOc BRc hwE
            rcases hx with t1 | ⟨t1, t2⟩
            all_goals
              go_wp2_with fail
              rw [← HE.out]
              exact bodyPost_ret (v := .tuple #[.agg #[.int .i64 0, .int .i64 0, .int .i64 0, .int .i64 0], .bool false]) (results_cell2_ok Tryd.results27 rfl (load_blk hBE Tryd.underlying40 rfl (gate_size rfl))) rfl ⟨by rw [rdG_f Hno.out, Hno.out]; rfl, hbE⟩
          · have q0 : _ = some (Value.int .i64 kk) := BOc.cell 0
            have q1 : _ = some (Value.int .i64 d1) := BOc.cell 1
            have q2 : _ = some (Value.int .i64 d2) := BOc.cell 2
            have q3 : _ = some (Value.int .i64 d3) := BOc.cell 3
            have HG := Lib.hid (fun W => specGateText_any ⟨kk, d1, d2, d3⟩ W)
            obtain ⟨ts, ets⟩ : ∃ ts, ts = gateTx ⟨kk, d1, d2, d3⟩ := ⟨_, rfl⟩
            rw [← ets] at HG
            unfold Gt.val at HG
            dsimp only at HG
            have Ets := Lib.hid ets
            have Hl0 := Lib.hid hl0
            have hemp : l.isEmpty = false := by cases l with | nil => exact absurd rfl hl0 | cons a t => rfl
            clear ets BOc BRc
            rcases hx with t1 | ⟨t1, t2⟩
            all_goals
              go_wp2_with fail
              refine (HG.out _).mono ?_
              rintro e w6 ⟨rfl, hb6⟩
              have BO6 := HBO.out.below hb6 HBO.out.lt
              have BR6 := HBR.out.below hb6 HBR.out.lt
              have bw6 := HBW.out.trans (hb6.mono HBW.out.size)
              have q0 : _ = some (Value.int .i64 kk) := BO6.cell 0
              have q1 : _ = some (Value.int .i64 d1) := BO6.cell 1
              have q2 : _ = some (Value.int .i64 d2) := BO6.cell 2
              have q3 : _ = some (Value.int .i64 d3) := BO6.cell 3
              have r0 : _ = some (Value.int .i64 0) := BR6.cell 0
              have r1 : _ = some (Value.int .i64 0) := BR6.cell 1
              have r2 : _ = some (Value.int .i64 0) := BR6.cell 2
              have r3 : _ = some (Value.int .i64 0) := BR6.cell 3
              have v0 := BR6.frozen 0
              have v1 := BR6.frozen 1
              have v2 := BR6.frozen 2
              have v3 := BR6.frozen 3
              clear hb6 BO6
              by_cases hts : ts = l
              · have Hok := Lib.hid (rdOk_of (c := candS l) (l := l) (by rw [HE3.out, ← Ets.out]; exact hts) Hl0.out)
                obtain ⟨wE, hwE, hBE, hbE⟩ := four_set BR6 bw6 (.int .i64 kk) (.int .i64 d1) (.int .i64 d2) (.int .i64 d3)
                have HE := Lib.hid hwE
                clear BR6 bw6 hwE
                obtain rfl : l = ts := hts.symm
                have hrr : (l != l) = false := by simp
                have hrs : (l == l) = true := by simp
                go_wp2_with fail
                rw [← HE.out]
                exact bodyPost_ret (v := .tuple #[.agg #[.int .i64 kk, .int .i64 d1, .int .i64 d2, .int .i64 d3], .bool true]) (results_cell2_ok Tryd.results27 rfl (load_blk hBE Tryd.underlying40 rfl (gate_size rfl))) rfl ⟨by rw [rdG_t Hok.out, Hok.out, HE3.out]; rfl, hbE⟩
              · have Hno := Lib.hid (rdOk_no (c := candS l) (l := l) fun x => absurd (by rw [Ets.out, ← HE3.out]; exact x) hts)
                have hts' : (ts != l) = true := by simp [hts]
                have hts2 : (ts == l) = false := by simp [hts]
                obtain ⟨wE, hwE, hBE, hbE⟩ := four_set BR6 bw6 (.int .i64 0) (.int .i64 0) (.int .i64 0) (.int .i64 0)
                have HE := Lib.hid hwE
                clear BR6 bw6 hwE
                go_wp2_with fail
                rw [← HE.out]
                exact bodyPost_ret (v := .tuple #[.agg #[.int .i64 0, .int .i64 0, .int .i64 0, .int .i64 0], .bool false]) (results_cell2_ok Tryd.results27 rfl (load_blk hBE Tryd.underlying40 rfl (gate_size rfl))) rfl ⟨by rw [rdG_f Hno.out, Hno.out]; rfl, hbE⟩
end Go.Proofs.YtffkoeobehocjaaDoor
