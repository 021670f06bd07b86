/- The bits of a formula, and contracts of l4Bits and spec.FormBits. -/
import Derived.Test.YtfnebpocngjcmaaFormL
namespace Go.Proofs.Ytfnebpocngjcmaa
open Go.RowKit
set_option linter.unusedVariables false

/-- the bits of a word -/
def insB (w : Int) (i : Nat) : List Int := (List.range i).map fun k : Nat => bt w k
/-- what an operation makes of two bits -/
def bitOp (o x y : Int) : Int := if o = 0 then x * y else if o = 1 then max x y else if o = 2 then (x + y) % 2 else 1 - x
/-- the bits of a word and of the first k steps -/
def allBits (w : Int) (i : Nat) (gs : List St) : Nat → List Int
  | 0 => insB w i
  | k + 1 => allBits w i gs k ++ [bitOp (gs.getD k s0).o ((allBits w i gs k).getD (gs.getD k s0).x.toNat 0) ((allBits w i gs k).getD (gs.getD k s0).y.toNat 0)]
theorem insB_succ (w : Int) (i : Nat) : insB w (i + 1) = insB w i ++ [bt w i] := by
  unfold insB
  rw [List.range_succ, List.map_append]
  rfl
theorem insB_len (w : Int) (i : Nat) : (insB w i).length = i := by simp [insB]
theorem allBits_len (w : Int) (i : Nat) (gs : List St) (k : Nat) : (allBits w i gs k).length = i + k := by
  induction k with
  | zero => exact insB_len w i
  | succ k ih => simp only [allBits, List.length_append, ih, List.length_singleton]; omega
def isBit (x : Int) : Prop := x = 0 ∨ x = 1
theorem bitOp_bit {o x y : Int} (hx : isBit x) (hy : isBit y) : isBit (bitOp o x y) := by
  unfold bitOp isBit at *
  by_cases h0 : o = 0
  · rw [if_pos h0]
    rcases hx with rfl | rfl <;> rcases hy with rfl | rfl <;> decide
  · rw [if_neg h0]
    by_cases h1 : o = 1
    · rw [if_pos h1]
      rcases hx with rfl | rfl <;> rcases hy with rfl | rfl <;> decide
    · rw [if_neg h1]
      by_cases h2 : o = 2
      · rw [if_pos h2]
        rcases hx with rfl | rfl <;> rcases hy with rfl | rfl <;> decide
      · rw [if_neg h2]
        rcases hx with rfl | rfl <;> decide
theorem getD_bit {zs : List Int} (h : ∀ z ∈ zs, isBit z) (j : Nat) : isBit (zs.getD j 0) := by
  rcases Nat.lt_or_ge j zs.length with hj | hj
  · rw [List.getD, List.getElem?_eq_getElem hj]
    exact h _ (List.getElem_mem hj)
  · rw [List.getD, List.getElem?_eq_none hj]
    exact .inl rfl
theorem allBits_bit (w : Int) (i : Nat) (gs : List St) (k : Nat) : ∀ z ∈ allBits w i gs k, isBit z := by
  induction k with
  | zero =>
    intro z hz
    simp only [allBits, insB, List.mem_map] at hz
    obtain ⟨q, _, rfl⟩ := hz
    have := bt_bd w q
    unfold isBit
    omega
  | succ k ih =>
    intro z hz
    simp only [allBits, List.mem_append, List.mem_singleton] at hz
    rcases hz with h | rfl
    · exact ih z h
    · exact bitOp_bit (getD_bit ih _) (getD_bit ih _)
/-- what FormBits answers -/
def formBits (i : Int) (gs : List St) (w : Int) : List Int := if (formB i gs && wordB i w) = true then (allBits w i.toNat gs gs.length).drop i.toNat else []
theorem formBits_y {i w : Int} {gs : List St} (h : formB i gs = true) (h' : wordB i w = true) : formBits i gs w = (allBits w i.toNat gs gs.length).drop i.toNat := if_pos (by rw [h, h']; rfl)
theorem formBits_n {i w : Int} {gs : List St} (h : formB i gs = false ∨ wordB i w = false) : formBits i gs w = [] := if_neg (by rcases h with h | h <;> rw [h] <;> simp)
theorem formBits_len {i w : Int} {gs : List St} (h : formB i gs = true) (h' : wordB i w = true) : (formBits i gs w).length = gs.length := by
  rw [formBits_y h h', List.length_drop, allBits_len]
  omega
theorem formBits_bd (i w : Int) (gs : List St) (h : gs.length ≤ 1048576) : (formBits i gs w).length ≤ 1048576 := by
  cases hq : (formB i gs && wordB i w) with
  | true =>
    rw [Bool.and_eq_true] at hq
    rw [formBits_len hq.1 hq.2]
    exact h
  | false =>
    unfold formBits
    rw [hq]
    simp
theorem formP_at {i : Int} {gs : List St} {n k : Nat} (h : formP i gs n = true) (hk : k < n) : stB (i + k - 1) (gs.getD k s0) = true := by
  have h1 : formP i gs (k + 1) = true := by
    rcases hq : formP i gs (k + 1) with _ | _
    · rw [formP_le (n := n) (by omega) hq] at h; exact h
    · rfl
  simp only [formP, Bool.and_eq_true] at h1
  exact h1.2
/-- where the bits of a valid step lie -/
theorem stB_form {last : Int} {g : St} (h : stB last g = true) (hl : 0 ≤ last) : 0 ≤ g.o ∧ g.o ≤ 3 ∧ 0 ≤ g.x ∧ g.x ≤ last ∧ 0 ≤ g.y ∧ g.y ≤ last := by
  unfold stB at h
  simp only [Bool.and_eq_true] at h
  have h1 := inB_t h.1
  have h2 := inB_t h.2.1
  have h3 := h.2.2
  by_cases e : g.o = 3
  · rw [if_pos e] at h3
    have : g.y = 0 := by simpa using h3
    omega
  · rw [if_neg e] at h3
    rw [Bool.and_eq_true] at h3
    have := inB_t h3.1
    omega
theorem own_drop {w : World} {B g o i : Nat} {xs : List Value} (h : Own w B (some ⟨g, o, none⟩) xs) : Own w B (some ⟨g, o + i, none⟩) (xs.drop i) := fun hn => by
  rw [List.length_drop] at hn
  obtain ⟨g', o', e, h1, h2, hc⟩ := h (by omega)
  cases e
  refine ⟨g, o + i, rfl, h1, h2, fun j u hu => ?_⟩
  rw [List.getElem?_drop] at hu
  have := hc _ _ hu
  rwa [← Nat.add_assoc] at this

set_option maxHeartbeats 4000000 in
set_option maxRecDepth 50000 in
theorem l4Bits_any (m : Nat) (word : Int) (A : Option Addr) (n c B : Nat) (gs : List St) (w : World) (h : Reads w B 3 A n (scells gs)) (hB : B ≤ w.heap.size) (hz : gs.length = n) (hv : formB m gs = true) (hw : wordB m word = true) :
    Calls Try.prog 55 #[.int .i64 m, .slice A n c, .int .i64 word] w fun e w' => RetL (allBits word m gs n) w e w' := by
  have hf := formB_t hv
  have hwd := wordB_t hw
  have hp := pw_bd hwd.1 hwd.2.1
  have HS := Lib.hid (fun k hk => stB_form (formP_at hf.2.2.2.2 (k := k) hk))
  have HR := Lib.hid h
  have HZ := Lib.hid hz
  have HAL := Lib.hid (fun k => allBits_len word m gs k)
  have HAB := Lib.hid (fun k => getD_bit (allBits_bit word m gs k))
  have hm3 : m ≤ 3 := by omega
  have hm1 : 1 ≤ m := by omega
  have hn3 : n ≤ 3 := by omega
  have hw0 : 0 ≤ word ∧ word ≤ 255 := by omega
  obtain ⟨ii, hi, hz0, hz1, hz2⟩ := info_parts infoInt
  clear h hz hv hw hf hwd hp
  go_enter Try.func55, Try.ntmps55
  go_wp2_with fail
  go_loopg [7, 8] m (fun gh v i wr => ∃ k : Nat, k ≤ m ∧ gh = m - k ∧ i = .int .i64 k ∧ wr.ownsRow w.heap.size 3 1 v k ((insB word k).map (Value.int .i64)) ∧ Below w.heap.size w wr)
  case atStart => exact ⟨0, Nat.zero_le _, rfl, rfl, by simpa [insB] using World.ownsRow_made (base := w.heap.size) (e := 3) (size := 1) w #[] 0 (Nat.le_refl _) (by simp [maxLen]) rfl, (Below.refl _ _).alloc (Nat.le_refl _) _⟩
  case round =>
    obtain ⟨k, hk, hg, rfl, hown, hb⟩ := hrel
    have Hg := Lib.hid hg
    have hs := hb.size
    have hlw := hown.lt
    obtain ⟨A5, c5, rfl, hc5⟩ := own_shape hown
    have Hown := Lib.hid hown
    clear hg hown
    by_cases hlt : k < m
    · have hlt' : (k : Int) < (m : Int) := by omega
      have Hsn := Lib.hid (insB_succ word k)
      obtain ⟨z, ez⟩ : ∃ z, z = bt word k := ⟨_, rfl⟩
      rw [← ez] at Hsn
      have C1 := Lib.hid (fun W => by have := l1Bit_any word k W (by omega) (by omega) (by omega) (by omega); rw [← ez] at this; exact this)
      clear ez
      go_wp2_with fail
      refine (C1.out _).mono ?_
      rintro e w' ⟨rfl, rfl⟩
      go_wp2_with (at_builtin; refine wpList_append_own _ rfl _ _ 37 rfl w.heap.size 3 ii (.int .i64 0) 1 8 Try.underlying37 hi hz0 hz1 hz2 rfl (by decide) _ _ _ rfl (Hown.out.alloc _) ⟨wr.heap.size, 0, none⟩ 1 1 [.int .i64 z] rfl rfl (cell_one_new _ _ _) (by simp [Value.oneCell']) (by unfold maxLen; omega) (by omega) (by simp; omega) ?_; intro v' w3 hown' hgrow _)
      have hb' := (hb.alloc hs (Obj.cells #[.int .i64 z] 3)).grown hgrow (by simp; omega) (fun q e => (hlw q e).1)
      clear hlw hgrow
      go_wp2_with fail
      go_roundg (m - (k + 1))
      case measure => have := Hg.out; omega
      case rel => exact ⟨k + 1, by omega, rfl, by go_num, by rw [Hsn.out]; simpa using hown', hb'⟩
    · have hlt' : ¬ (k : Int) < (m : Int) := by omega
      obtain rfl : k = m := by omega
      have Hown2 : Hid (wr.ownsRow w.heap.size 3 1 (.slice A5 k c5) (k + 0) ((allBits word k gs 0).map (Value.int .i64))) := Hown
      go_wp2_with fail
      go_loopg [7, 9] n (fun gh v i wr => ∃ q : Nat, q ≤ n ∧ gh = n - q ∧ i = .int .i64 q ∧ wr.ownsRow w.heap.size 3 1 v (k + q) ((allBits word k gs q).map (Value.int .i64)) ∧ Below w.heap.size w wr)
      case atStart => exact ⟨0, Nat.zero_le _, rfl, rfl, Hown2.out, hb⟩
      case round =>
        obtain ⟨q, hq, hg2, rfl, hown, hb⟩ := hrel
        have Hg2 := Lib.hid hg2
        have hs := hb.size
        obtain ⟨A5, c5, rfl, hc5⟩ := own_shape hown
        have Hown3 := Lib.hid hown
        clear hg2 hown
        by_cases hqn : q < n
        · have hqn' : (q : Int) < (n : Int) := by omega
          obtain ⟨b, o, rfl, hbB, hcell⟩ := HR.out.openS HZ.out (by omega)
          obtain ⟨gb, go, rfl, hgb, hoc⟩ := (own_reads Hown3.out rfl).open1 (HAL.out q) (by omega)
          have hgat := (hcell q hqn).below hb (by omega)
          have hst := HS.out q (by have := HZ.out; omega) (by omega)
          obtain ⟨g, eg⟩ : ∃ g, g = gs.getD q s0 := ⟨_, rfl⟩
          have hsn : allBits word k gs (q + 1) = allBits word k gs q ++ [bitOp (gs.getD q s0).o ((allBits word k gs q).getD (gs.getD q s0).x.toNat 0) ((allBits word k gs q).getD (gs.getD q s0).y.toNat 0)] := rfl
          rw [← eg] at hgat hst hsn
          obtain ⟨op, x, y⟩ := g
          simp only at hst hsn
          obtain ⟨x', rfl⟩ := Int.eq_ofNat_of_zero_le hst.2.2.1
          obtain ⟨y', rfl⟩ := Int.eq_ofNat_of_zero_le hst.2.2.2.2.1
          obtain ⟨op', rfl⟩ := Int.eq_ofNat_of_zero_le hst.1
          obtain ⟨q0, q1, q2⟩ := hgat
          simp only at q0 q1 q2
          have hx := hoc x' (by omega)
          have hy := hoc y' (by omega)
          have bx := HAB.out q x'
          have by_ := HAB.out q y'
          simp only [Int.toNat_natCast] at hsn
          obtain ⟨X, eX⟩ : ∃ X, X = (allBits word k gs q).getD x' 0 := ⟨_, rfl⟩
          obtain ⟨Y, eY⟩ : ∃ Y, Y = (allBits word k gs q).getD y' 0 := ⟨_, rfl⟩
          rw [← eX] at hx bx hsn
          rw [← eY] at hy by_ hsn
          obtain ⟨Z, eZ⟩ : ∃ Z, Z = bitOp op' X Y := ⟨_, rfl⟩
          rw [← eZ] at hsn
          obtain ⟨P, hP⟩ : ∃ P, X * Y = P := ⟨_, rfl⟩
          obtain ⟨M, hM⟩ : ∃ M, (if X < Y then Y else X) = M := ⟨_, rfl⟩
          obtain ⟨R, hRR⟩ : ∃ R, (X + Y) % 2 = R := ⟨_, rfl⟩
          have hPb : 0 ≤ P ∧ P ≤ 1 := by rw [← hP]; rcases bx with rfl | rfl <;> rcases by_ with rfl | rfl <;> decide
          have hXb : 0 ≤ X ∧ X ≤ 1 := by rcases bx with rfl | rfl <;> decide
          have hYb : 0 ≤ Y ∧ Y ≤ 1 := by rcases by_ with rfl | rfl <;> decide
          have hc4 : (wr.alloc (.cells #[.int .i64 P, .int .i64 M, .int .i64 R, .int .i64 (1 - X)] 3)).cell? ⟨wr.heap.size, op', none⟩ = some (.int .i64 Z) := by
            rw [(Blk.new wr _ _).cell, eZ]
            have h4 : op' = 0 ∨ op' = 1 ∨ op' = 2 ∨ op' = 3 := by omega
            rcases h4 with rfl | rfl | rfl | rfl
            · rw [← hP]; rfl
            · rw [← hM, max_form]; rfl
            · rw [← hRR]; rfl
            · rfl
          have Hsn := Lib.hid hsn
          have own2 := Lib.hid (Hown3.out.alloc (Obj.cells #[.int .i64 P, .int .i64 M, .int .i64 R, .int .i64 (1 - X)] 3))
          have hlw := own2.out.lt
          have W2 := hb.alloc hs (Obj.cells #[.int .i64 P, .int .i64 M, .int .i64 R, .int .i64 (1 - X)] 3)
          have i1 : (x' : Int) < ((k + q : Nat) : Int) := by omega
          have i2 : (y' : Int) < ((k + q : Nat) : Int) := by omega
          have i1' : (x' : Int) < (k : Int) + (q : Int) := by omega
          have i2' : (y' : Int) < (k : Int) + (q : Int) := by omega
          have i3 : (op' : Int) < 4 := by omega
          have hbw : b < wr.heap.size := by omega
          clear hcell hoc eg hst eX eY eZ bx by_ hsn
          have hone := cell_one_new (wr.alloc (Obj.cells #[.int .i64 P, .int .i64 M, .int .i64 R, .int .i64 (1 - X)] 3)) (.int .i64 Z) 3
          rw [World.size_alloc] at hone
          go_wp2_with (at_builtin; refine wpList_append_own _ rfl _ _ 37 rfl w.heap.size 3 ii (.int .i64 0) 1 8 Try.underlying37 hi hz0 hz1 hz2 rfl (by decide) _ _ _ rfl (own2.out.alloc _) ⟨(wr.heap.size + 1), 0, none⟩ 1 1 [.int .i64 Z] rfl rfl hone (by simp [Value.oneCell']) (by unfold maxLen; omega) (by omega) (by simp; omega) ?_; intro v' w3 hown' hgrow _)
          have hb' := (W2.alloc W2.size (Obj.cells #[.int .i64 Z] 3)).grown hgrow (by simp; omega) (fun q e => (hlw q e).1)
          clear hlw hgrow
          go_wp2_with fail
          go_roundg (n - (q + 1))
          case measure => have := Hg2.out; omega
          case rel => exact ⟨q + 1, by omega, rfl, by go_num, by rw [Hsn.out]; simpa [Nat.add_assoc] using hown', hb'⟩
        · have hqn' : ¬ (q : Int) < (n : Int) := by omega
          obtain rfl : q = n := by omega
          go_wp2_with fail
          go_ret
          exact retL_acc Hown3.out hb rfl

theorem specFormBits_any (i : Int) (A : Option Addr) (n c B : Nat) (gs : List St) (word : Int) (w : World) (h : Reads w B 3 A n (scells gs)) (hB : B ≤ w.heap.size) (hz : gs.length = n) (hc : n ≤ c) (hn : n ≤ 1048576) :
    Calls Try.prog 27 #[.int .i64 i, .slice A n c, .int .i64 word] w fun e w' => RetL (formBits i gs word) w e w' := by
  have HT := Lib.hid (specFormValid_any i A n c B gs w h hB hz hc hn)
  cases hv : formB i gs with
  | false =>
    have Hr := Lib.hid (formBits_n (i := i) (gs := gs) (w := word) (.inl hv))
    rw [hv] at HT
    clear hv h hz
    go_enter Try.func27, Try.ntmps27
    go_wp2_with fail
    refine HT.out.mono ?_
    rintro e w1 ⟨rfl, hb1⟩
    go_wp2_with fail
    go_ret
    exact retL_nil' Hr.out (hb1.alloc hb1.size _) rfl
  | true =>
    cases hw : wordB i word with
    | false =>
      have Hr := Lib.hid (formBits_n (i := i) (gs := gs) (w := word) (.inr hw))
      rw [hv] at HT
      have HW := Lib.hid (fun W => specWordValid_any i word W)
      rw [hw] at HW
      clear hv hw h hz
      go_enter Try.func27, Try.ntmps27
      go_wp2_with fail
      refine HT.out.mono ?_
      rintro e w1 ⟨rfl, hb1⟩
      go_wp2_with fail
      refine (HW.out _).mono ?_
      rintro e w' ⟨rfl, rfl⟩
      go_wp2_with fail
      go_ret
      exact retL_nil' Hr.out (hb1.alloc hb1.size _) rfl
    | true =>
      have hf := formB_t hv
      obtain ⟨m, rfl⟩ := Int.eq_ofNat_of_zero_le (show 0 ≤ i by omega)
      have hr := formBits_y hv hw
      simp only [Int.toNat_natCast] at hr
      rw [hz] at hr
      have Hr := Lib.hid hr
      have HQ := Lib.hid (fun W (hb : Below w.heap.size w W) => l4Bits_any m word A n c B gs W (h.next hb hB) (Nat.le_trans hB hb.size) hz hv hw)
      have HL : Hid ((allBits word m gs n).length = m + n) := Lib.hid (allBits_len word m gs n)
      have HW := Lib.hid (fun W => specWordValid_any (m : Int) word W)
      rw [hw] at HW
      rw [hv] at HT
      have hn1 : 1 ≤ n ∧ n ≤ 3 ∧ m ≤ 3 := by omega
      clear hv hw h hz hf hr
      go_enter Try.func27, Try.ntmps27
      go_wp2_with fail
      refine HT.out.mono ?_
      rintro e w1 ⟨rfl, hb1⟩
      go_wp2_with fail
      refine (HW.out _).mono ?_
      rintro e w' ⟨rfl, rfl⟩
      go_wp2_with fail
      refine (HQ.out _ hb1).mono ?_
      rintro e w2 ⟨A2, c2, rfl, hc2, ho2, hb2⟩
      obtain ⟨g2, o2, rfl, _, _, _⟩ := ho2 (by rw [List.length_map, HL.out]; omega)
      have Ho2 := Lib.hid ho2
      have hb12 := bnext hb1 hb2 (Nat.le_refl _)
      rw [HL.out] at hc2 ⊢
      have hmc : m < c2 := by omega
      have hs1 := hb1.size
      clear ho2
      go_wp2_with fail
      go_ret
      rw [Hr.out]
      refine ⟨some ⟨g2, o2 + m, none⟩, c2 - m, ?_, ?_, ?_, hb12⟩
      · rw [List.length_drop, HL.out, show m + n - m = n by omega]; rfl
      · rw [List.length_drop, HL.out]; omega
      · rw [List.map_drop]; exact (own_drop Ho2.out).mono hs1
end Go.Proofs.Ytfnebpocngjcmaa
