/- Contracts of FormOut and FormOnes. -/
import Derived.Test.YtfnebpocngjcmaaFormI
namespace Go.Proofs.Ytfnebpocngjcmaa
open Go.RowKit
set_option linter.unusedVariables false

/-- what FormOut answers -/
def formOut (i : Int) (gs : List St) (w : Int) : Int := if (formBits i gs w).length = 0 then -1 else (formBits i gs w).getD ((formBits i gs w).length - 1) 0
theorem formBits_bit (i w : Int) (gs : List St) : ∀ z ∈ formBits i gs w, isBit z := by
  intro z hz
  unfold formBits at hz
  split at hz
  · exact allBits_bit w i.toNat gs gs.length z (List.mem_of_mem_drop hz)
  · cases hz
theorem formOut_bd (i w : Int) (gs : List St) : -1 ≤ formOut i gs w ∧ formOut i gs w ≤ 1 := by
  unfold formOut
  split
  · omega
  · have := getD_bit (formBits_bit i w gs) ((formBits i gs w).length - 1)
    unfold isBit at this
    omega
/-- the sum over the first k words -/
def onesP (i : Int) (gs : List St) : Nat → Int
  | 0 => 0
  | k + 1 => onesP i gs k + formOut i gs k
theorem onesP_bd (i : Int) (gs : List St) (k : Nat) : -(k : Int) ≤ onesP i gs k ∧ onesP i gs k ≤ k := by
  induction k with
  | zero => simp [onesP]
  | succ k ih =>
    have := formOut_bd i k gs
    simp only [onesP]
    omega
/-- what FormOnes answers -/
def formOnes (i : Int) (gs : List St) : Int := if formB i gs = true then onesP i gs (2 ^ i.toNat) else -1


set_option maxHeartbeats 2000000 in
theorem specFormOut_any (i : Int) (A : Option Addr) (n c B : Nat) (gs : List St) (word : Int) (w : World) (h : Reads w B 3 A n (scells gs)) (hB : B ≤ w.heap.size) (hz : gs.length = n) (hc : n ≤ c) (hn : n ≤ 1048576) :
    Calls Try.prog 23 #[.int .i64 i, .slice A n c, .int .i64 word] w fun e w' => e = .returned (.int .i64 (formOut i gs word)) ∧ Below w.heap.size w w' := by
  have HT := Lib.hid (specFormBits_any i A n c B gs word w h hB hz hc hn)
  have HL := Lib.hid (formBits_bd i word gs (by omega))
  clear h hz
  go_enter Try.func23, Try.ntmps23
  go_wp2_with fail
  refine HT.out.mono ?_
  rintro e w1 ⟨A2, c2, rfl, hc2, ho2, hb1⟩
  obtain ⟨zs, ez⟩ : ∃ zs, zs = formBits i gs word := ⟨_, rfl⟩
  rw [← ez] at hc2 ho2 HL ⊢
  have Hez := Lib.hid ez
  clear ez HT
  obtain ⟨q, hq⟩ : ∃ q, q = zs.length := ⟨_, rfl⟩
  rw [← hq] at hc2 HL ⊢
  have hq2 : q ≤ 1048576 := HL.out
  rcases q with _ | q
  · go_wp2_with fail
    go_ret
    refine ⟨ret_int ?_, hb1⟩
    unfold formOut
    rw [← Hez.out, ← hq]
    rfl
  · obtain ⟨g, o, rfl, hg1, hg2, hcell⟩ := ho2 (by rw [List.length_map, ← hq]; omega)
    have hlast : w1.cell? ⟨g, o + (zs.length - 1), none⟩ = some (.int .i64 (zs.getD q 0)) := by
      rw [show zs.length - 1 = q by omega]
      have hlt : q < zs.length := by omega
      refine (hcell q _ ?_).1
      rw [List.getElem?_map, List.getElem?_eq_getElem hlt, List.getD, List.getElem?_eq_getElem hlt]
      rfl
    obtain ⟨z, hzz⟩ : ∃ z, z = zs.getD q 0 := ⟨_, rfl⟩
    rw [← hzz] at hlast
    have Hz := Lib.hid hzz
    have hne : ((zs.length : Int) == 0) = false := by rw [beq_eq_false_iff_ne]; omega
    have hlt1 : (zs.length : Int) - 1 < (zs.length : Int) := by omega
    have hlt0 : 0 ≤ (zs.length : Int) - 1 := by omega
    clear hcell hzz ho2
    go_wp2_with fail
    go_ret
    refine ⟨ret_int ?_, hb1⟩
    unfold formOut
    rw [← Hez.out, ← hq, if_neg (by omega), Nat.add_sub_cancel, ← Hz.out]

set_option maxHeartbeats 4000000 in
theorem specFormOnes_any (i : Int) (A : Option Addr) (n c B : Nat) (gs : List St) (w : World) (h : Reads w B 3 A n (scells gs)) (hB : B ≤ w.heap.size) (hz : gs.length = n) (hc : n ≤ c) (hn : n ≤ 1048576) :
    Calls Try.prog 25 #[.int .i64 i, .slice A n c] w fun e w' => e = .returned (.int .i64 (formOnes i gs)) ∧ Below w.heap.size w w' := by
  have HT := Lib.hid (specFormValid_any i A n c B gs w h hB hz hc hn)
  cases hv : formB i gs with
  | false =>
    have Hr : Hid (formOnes i gs = -1) := Lib.hid (by unfold formOnes; rw [hv]; rfl)
    rw [hv] at HT
    clear hv h hz
    go_enter Try.func25, Try.ntmps25
    go_wp2_with fail
    refine HT.out.mono ?_
    rintro e w1 ⟨rfl, hb1⟩
    go_wp2_with fail
    go_ret
    exact ⟨ret_int Hr.out.symm, hb1⟩
  | true =>
    have hf := formB_t hv
    have Hr : Hid (formOnes i gs = onesP i gs (2 ^ i.toNat)) := Lib.hid (by unfold formOnes; rw [hv]; rfl)
    have HO := Lib.hid (fun (word : Int) W (hb : Below w.heap.size w W) => specFormOut_any i A n c B gs word W (h.next hb hB) (Nat.le_trans hB hb.size) hz hc hn)
    rw [hv] at HT
    have h3 : i = 1 ∨ i = 2 ∨ i = 3 := by omega
    clear hv h hz hf
    rcases h3 with rfl | rfl | rfl
    · have Hr2 : Hid (formOnes 1 gs = onesP 1 gs 2) := Lib.hid Hr.out
      clear Hr
      go_enter Try.func25, Try.ntmps25
      go_wp2_with fail
      refine HT.out.mono ?_
      rintro e w1 ⟨rfl, hb1⟩
      clear HT
      go_wp2_with fail
      go_loopg [5, 6] 2 (fun gh s j wr => ∃ k : Nat, k ≤ 2 ∧ gh = 2 - k ∧ j = .int .i64 k ∧ s = .int .i64 (onesP 1 gs k) ∧ Below w.heap.size w wr)
      case atStart => exact ⟨0, by omega, rfl, rfl, rfl, hb1⟩
      case round =>
        obtain ⟨k, hk, hg, rfl, rfl, hb⟩ := hrel
        have Hg := Lib.hid hg
        clear hg
        by_cases hlt : k < 2
        · have hlt' : (k : Int) < 2 := by omega
          have Hsn : Hid (onesP 1 gs (k + 1) = onesP 1 gs k + formOut 1 gs k) := Lib.hid rfl
          obtain ⟨s, es⟩ : ∃ s, s = onesP 1 gs k := ⟨_, rfl⟩
          have hsb := onesP_bd 1 gs k
          have C1 := Lib.hid (HO.out k wr hb)
          have hzb := formOut_bd 1 k gs
          obtain ⟨z, ez⟩ : ∃ z, z = formOut 1 gs k := ⟨_, rfl⟩
          rw [← es] at hsb Hsn ⊢
          rw [← ez] at C1 hzb Hsn
          clear es ez
          go_wp2_with fail
          refine C1.out.mono ?_
          rintro e w2 ⟨rfl, hb2⟩
          go_wp2_with fail
          go_roundg (2 - (k + 1))
          case measure => have := Hg.out; omega
          case rel => exact ⟨k + 1, by omega, rfl, by go_num, by rw [Hsn.out], bnext hb hb2 (Nat.le_refl _)⟩
        · have hlt' : ¬ (k : Int) < 2 := by omega
          obtain rfl : k = 2 := by omega
          go_wp2_with fail
          go_ret
          exact ⟨ret_int Hr2.out.symm, hb⟩
    · have Hr2 : Hid (formOnes 2 gs = onesP 2 gs 4) := Lib.hid Hr.out
      clear Hr
      go_enter Try.func25, Try.ntmps25
      go_wp2_with fail
      refine HT.out.mono ?_
      rintro e w1 ⟨rfl, hb1⟩
      clear HT
      go_wp2_with fail
      go_loopg [5, 6] 4 (fun gh s j wr => ∃ k : Nat, k ≤ 4 ∧ gh = 4 - k ∧ j = .int .i64 k ∧ s = .int .i64 (onesP 2 gs k) ∧ Below w.heap.size w wr)
      case atStart => exact ⟨0, by omega, rfl, rfl, rfl, hb1⟩
      case round =>
        obtain ⟨k, hk, hg, rfl, rfl, hb⟩ := hrel
        have Hg := Lib.hid hg
        clear hg
        by_cases hlt : k < 4
        · have hlt' : (k : Int) < 4 := by omega
          have Hsn : Hid (onesP 2 gs (k + 1) = onesP 2 gs k + formOut 2 gs k) := Lib.hid rfl
          obtain ⟨s, es⟩ : ∃ s, s = onesP 2 gs k := ⟨_, rfl⟩
          have hsb := onesP_bd 2 gs k
          have C1 := Lib.hid (HO.out k wr hb)
          have hzb := formOut_bd 2 k gs
          obtain ⟨z, ez⟩ : ∃ z, z = formOut 2 gs k := ⟨_, rfl⟩
          rw [← es] at hsb Hsn ⊢
          rw [← ez] at C1 hzb Hsn
          clear es ez
          go_wp2_with fail
          refine C1.out.mono ?_
          rintro e w2 ⟨rfl, hb2⟩
          go_wp2_with fail
          go_roundg (4 - (k + 1))
          case measure => have := Hg.out; omega
          case rel => exact ⟨k + 1, by omega, rfl, by go_num, by rw [Hsn.out], bnext hb hb2 (Nat.le_refl _)⟩
        · have hlt' : ¬ (k : Int) < 4 := by omega
          obtain rfl : k = 4 := by omega
          go_wp2_with fail
          go_ret
          exact ⟨ret_int Hr2.out.symm, hb⟩
    · have Hr2 : Hid (formOnes 3 gs = onesP 3 gs 8) := Lib.hid Hr.out
      clear Hr
      go_enter Try.func25, Try.ntmps25
      go_wp2_with fail
      refine HT.out.mono ?_
      rintro e w1 ⟨rfl, hb1⟩
      clear HT
      go_wp2_with fail
      go_loopg [5, 6] 8 (fun gh s j wr => ∃ k : Nat, k ≤ 8 ∧ gh = 8 - k ∧ j = .int .i64 k ∧ s = .int .i64 (onesP 3 gs k) ∧ Below w.heap.size w wr)
      case atStart => exact ⟨0, by omega, rfl, rfl, rfl, hb1⟩
      case round =>
        obtain ⟨k, hk, hg, rfl, rfl, hb⟩ := hrel
        have Hg := Lib.hid hg
        clear hg
        by_cases hlt : k < 8
        · have hlt' : (k : Int) < 8 := by omega
          have Hsn : Hid (onesP 3 gs (k + 1) = onesP 3 gs k + formOut 3 gs k) := Lib.hid rfl
          obtain ⟨s, es⟩ : ∃ s, s = onesP 3 gs k := ⟨_, rfl⟩
          have hsb := onesP_bd 3 gs k
          have C1 := Lib.hid (HO.out k wr hb)
          have hzb := formOut_bd 3 k gs
          obtain ⟨z, ez⟩ : ∃ z, z = formOut 3 gs k := ⟨_, rfl⟩
          rw [← es] at hsb Hsn ⊢
          rw [← ez] at C1 hzb Hsn
          clear es ez
          go_wp2_with fail
          refine C1.out.mono ?_
          rintro e w2 ⟨rfl, hb2⟩
          go_wp2_with fail
          go_roundg (8 - (k + 1))
          case measure => have := Hg.out; omega
          case rel => exact ⟨k + 1, by omega, rfl, by go_num, by rw [Hsn.out], bnext hb hb2 (Nat.le_refl _)⟩
        · have hlt' : ¬ (k : Int) < 8 := by omega
          obtain rfl : k = 8 := by omega
          go_wp2_with fail
          go_ret
          exact ⟨ret_int Hr2.out.symm, hb⟩

set_option maxHeartbeats 2000000 in
theorem implFormOut_any (i : Int) (A : Option Addr) (n c B : Nat) (gs : List St) (word : Int) (w : World) (h : Reads w B 3 A n (scells gs)) (hB : B ≤ w.heap.size) (hz : gs.length = n) (hc : n ≤ c) (hn : n ≤ 1048576) :
    Calls Try.prog 24 #[.int .i64 i, .slice A n c, .int .i64 word] w fun e w' => e = .returned (.int .i64 (formOut i gs word)) ∧ Below w.heap.size w w' := by
  have HT := Lib.hid (implFormBits_any i A n c B gs word w h hB hz hc hn)
  have HL := Lib.hid (formBits_bd i word gs (by omega))
  clear h hz
  go_enter Try.func24, Try.ntmps24
  go_wp2_with fail
  refine HT.out.mono ?_
  rintro e w1 ⟨A2, c2, rfl, hc2, ho2, hb1⟩
  obtain ⟨zs, ez⟩ : ∃ zs, zs = formBits i gs word := ⟨_, rfl⟩
  rw [← ez] at hc2 ho2 HL ⊢
  have Hez := Lib.hid ez
  clear ez HT
  obtain ⟨q, hq⟩ : ∃ q, q = zs.length := ⟨_, rfl⟩
  rw [← hq] at hc2 HL ⊢
  have hq2 : q ≤ 1048576 := HL.out
  rcases q with _ | q
  · go_wp2_with fail
    go_ret
    refine ⟨ret_int ?_, hb1⟩
    unfold formOut
    rw [← Hez.out, ← hq]
    rfl
  · obtain ⟨g, o, rfl, hg1, hg2, hcell⟩ := ho2 (by rw [List.length_map, ← hq]; omega)
    have hlast : w1.cell? ⟨g, o + (zs.length - 1), none⟩ = some (.int .i64 (zs.getD q 0)) := by
      rw [show zs.length - 1 = q by omega]
      have hlt : q < zs.length := by omega
      refine (hcell q _ ?_).1
      rw [List.getElem?_map, List.getElem?_eq_getElem hlt, List.getD, List.getElem?_eq_getElem hlt]
      rfl
    obtain ⟨z, hzz⟩ : ∃ z, z = zs.getD q 0 := ⟨_, rfl⟩
    rw [← hzz] at hlast
    have Hz := Lib.hid hzz
    have hne : ((zs.length : Int) == 0) = false := by rw [beq_eq_false_iff_ne]; omega
    have hlt1 : (zs.length : Int) - 1 < (zs.length : Int) := by omega
    have hlt0 : 0 ≤ (zs.length : Int) - 1 := by omega
    clear hcell hzz ho2
    go_wp2_with fail
    go_ret
    refine ⟨ret_int ?_, hb1⟩
    unfold formOut
    rw [← Hez.out, ← hq, if_neg (by omega), Nat.add_sub_cancel, ← Hz.out]

set_option maxHeartbeats 4000000 in
theorem implFormOnes_any (i : Int) (A : Option Addr) (n c B : Nat) (gs : List St) (w : World) (h : Reads w B 3 A n (scells gs)) (hB : B ≤ w.heap.size) (hz : gs.length = n) (hc : n ≤ c) (hn : n ≤ 1048576) :
    Calls Try.prog 26 #[.int .i64 i, .slice A n c] w fun e w' => e = .returned (.int .i64 (formOnes i gs)) ∧ Below w.heap.size w w' := by
  have HT := Lib.hid (implFormValid_any i A n c B gs w h hB hz hc hn)
  cases hv : formB i gs with
  | false =>
    have Hr : Hid (formOnes i gs = -1) := Lib.hid (by unfold formOnes; rw [hv]; rfl)
    rw [hv] at HT
    clear hv h hz
    go_enter Try.func26, Try.ntmps26
    go_wp2_with fail
    refine HT.out.mono ?_
    rintro e w1 ⟨rfl, hb1⟩
    go_wp2_with fail
    go_ret
    exact ⟨ret_int Hr.out.symm, hb1⟩
  | true =>
    have hf := formB_t hv
    have Hr : Hid (formOnes i gs = onesP i gs (2 ^ i.toNat)) := Lib.hid (by unfold formOnes; rw [hv]; rfl)
    have HO := Lib.hid (fun (word : Int) W (hb : Below w.heap.size w W) => implFormOut_any i A n c B gs word W (h.next hb hB) (Nat.le_trans hB hb.size) hz hc hn)
    rw [hv] at HT
    have h3 : i = 1 ∨ i = 2 ∨ i = 3 := by omega
    clear hv h hz hf
    rcases h3 with rfl | rfl | rfl
    · have Hr2 : Hid (formOnes 1 gs = onesP 1 gs 2) := Lib.hid Hr.out
      clear Hr
      go_enter Try.func26, Try.ntmps26
      go_wp2_with fail
      refine HT.out.mono ?_
      rintro e w1 ⟨rfl, hb1⟩
      clear HT
      go_wp2_with fail
      go_loopg [5, 13] 2 (fun gh s j wr => ∃ k : Nat, k ≤ 2 ∧ gh = 2 - k ∧ j = .int .i64 k ∧ s = .int .i64 (onesP 1 gs k) ∧ Below w.heap.size w wr)
      case atStart => exact ⟨0, by omega, rfl, rfl, rfl, hb1⟩
      case round =>
        obtain ⟨k, hk, hg, rfl, rfl, hb⟩ := hrel
        have Hg := Lib.hid hg
        clear hg
        by_cases hlt : k < 2
        · have hlt' : (k : Int) < 2 := by omega
          have Hsn : Hid (onesP 1 gs (k + 1) = onesP 1 gs k + formOut 1 gs k) := Lib.hid rfl
          obtain ⟨s, es⟩ : ∃ s, s = onesP 1 gs k := ⟨_, rfl⟩
          have hsb := onesP_bd 1 gs k
          have C1 := Lib.hid (HO.out k wr hb)
          have hzb := formOut_bd 1 k gs
          obtain ⟨z, ez⟩ : ∃ z, z = formOut 1 gs k := ⟨_, rfl⟩
          rw [← es] at hsb Hsn ⊢
          rw [← ez] at C1 hzb Hsn
          clear es ez
          go_wp2_with fail
          refine C1.out.mono ?_
          rintro e w2 ⟨rfl, hb2⟩
          go_wp2_with fail
          go_roundg (2 - (k + 1))
          case measure => have := Hg.out; omega
          case rel => exact ⟨k + 1, by omega, rfl, by go_num, by rw [Hsn.out], bnext hb hb2 (Nat.le_refl _)⟩
        · have hlt' : ¬ (k : Int) < 2 := by omega
          obtain rfl : k = 2 := by omega
          go_wp2_with fail
          go_ret
          exact ⟨ret_int Hr2.out.symm, hb⟩
    · have Hr2 : Hid (formOnes 2 gs = onesP 2 gs 4) := Lib.hid Hr.out
      clear Hr
      go_enter Try.func26, Try.ntmps26
      go_wp2_with fail
      refine HT.out.mono ?_
      rintro e w1 ⟨rfl, hb1⟩
      clear HT
      go_wp2_with fail
      go_loopg [5, 13] 4 (fun gh s j wr => ∃ k : Nat, k ≤ 4 ∧ gh = 4 - k ∧ j = .int .i64 k ∧ s = .int .i64 (onesP 2 gs k) ∧ Below w.heap.size w wr)
      case atStart => exact ⟨0, by omega, rfl, rfl, rfl, hb1⟩
      case round =>
        obtain ⟨k, hk, hg, rfl, rfl, hb⟩ := hrel
        have Hg := Lib.hid hg
        clear hg
        by_cases hlt : k < 4
        · have hlt' : (k : Int) < 4 := by omega
          have Hsn : Hid (onesP 2 gs (k + 1) = onesP 2 gs k + formOut 2 gs k) := Lib.hid rfl
          obtain ⟨s, es⟩ : ∃ s, s = onesP 2 gs k := ⟨_, rfl⟩
          have hsb := onesP_bd 2 gs k
          have C1 := Lib.hid (HO.out k wr hb)
          have hzb := formOut_bd 2 k gs
          obtain ⟨z, ez⟩ : ∃ z, z = formOut 2 gs k := ⟨_, rfl⟩
          rw [← es] at hsb Hsn ⊢
          rw [← ez] at C1 hzb Hsn
          clear es ez
          go_wp2_with fail
          refine C1.out.mono ?_
          rintro e w2 ⟨rfl, hb2⟩
          go_wp2_with fail
          go_roundg (4 - (k + 1))
          case measure => have := Hg.out; omega
          case rel => exact ⟨k + 1, by omega, rfl, by go_num, by rw [Hsn.out], bnext hb hb2 (Nat.le_refl _)⟩
        · have hlt' : ¬ (k : Int) < 4 := by omega
          obtain rfl : k = 4 := by omega
          go_wp2_with fail
          go_ret
          exact ⟨ret_int Hr2.out.symm, hb⟩
    · have Hr2 : Hid (formOnes 3 gs = onesP 3 gs 8) := Lib.hid Hr.out
      clear Hr
      go_enter Try.func26, Try.ntmps26
      go_wp2_with fail
      refine HT.out.mono ?_
      rintro e w1 ⟨rfl, hb1⟩
      clear HT
      go_wp2_with fail
      go_loopg [5, 13] 8 (fun gh s j wr => ∃ k : Nat, k ≤ 8 ∧ gh = 8 - k ∧ j = .int .i64 k ∧ s = .int .i64 (onesP 3 gs k) ∧ Below w.heap.size w wr)
      case atStart => exact ⟨0, by omega, rfl, rfl, rfl, hb1⟩
      case round =>
        obtain ⟨k, hk, hg, rfl, rfl, hb⟩ := hrel
        have Hg := Lib.hid hg
        clear hg
        by_cases hlt : k < 8
        · have hlt' : (k : Int) < 8 := by omega
          have Hsn : Hid (onesP 3 gs (k + 1) = onesP 3 gs k + formOut 3 gs k) := Lib.hid rfl
          obtain ⟨s, es⟩ : ∃ s, s = onesP 3 gs k := ⟨_, rfl⟩
          have hsb := onesP_bd 3 gs k
          have C1 := Lib.hid (HO.out k wr hb)
          have hzb := formOut_bd 3 k gs
          obtain ⟨z, ez⟩ : ∃ z, z = formOut 3 gs k := ⟨_, rfl⟩
          rw [← es] at hsb Hsn ⊢
          rw [← ez] at C1 hzb Hsn
          clear es ez
          go_wp2_with fail
          refine C1.out.mono ?_
          rintro e w2 ⟨rfl, hb2⟩
          go_wp2_with fail
          go_roundg (8 - (k + 1))
          case measure => have := Hg.out; omega
          case rel => exact ⟨k + 1, by omega, rfl, by go_num, by rw [Hsn.out], bnext hb hb2 (Nat.le_refl _)⟩
        · have hlt' : ¬ (k : Int) < 8 := by omega
          obtain rfl : k = 8 := by omega
          go_wp2_with fail
          go_ret
          exact ⟨ret_int Hr2.out.symm, hb⟩
end Go.Proofs.Ytfnebpocngjcmaa
