/- Contract of spec.l1Cut at a blank: the words of a text. -/
import Derived.Test.YtffkoeobehocjaaDoorDig
import Derived.Test.YtffkoeobehocjaaDoorTxtJ
namespace Go.Proofs.YtffkoeobehocjaaDoor
open Go.RowKit
set_option linter.unusedVariables false
set_option linter.unusedSimpArgs false

/-- where the word begins that is open at the k-th letter -/
def cutF (l : List UInt8) : Nat → Nat
  | 0 => 0
  | k + 1 => if (l.getD k 0).toNat = 32 then k + 1 else cutF l k
/-- the words that are closed before the k-th letter -/
def cutW (l : List UInt8) : Nat → List (List UInt8)
  | 0 => []
  | k + 1 => if (l.getD k 0).toNat = 32 then cutW l k ++ [(l.drop (cutF l k)).take (k - cutF l k)] else cutW l k
theorem cutF_le (l : List UInt8) (k : Nat) : cutF l k ≤ k := by
  induction k with
  | zero => exact Nat.le_refl _
  | succ k ih => unfold cutF; split <;> omega
theorem cutW_le (l : List UInt8) (k : Nat) : (cutW l k).length ≤ k := by
  induction k with
  | zero => exact Nat.le_refl _
  | succ k ih => unfold cutW; split <;> (try simp) <;> omega
/-- the words of a text -/
def cutL (l : List UInt8) : List (List UInt8) := cutW l l.length ++ [l.drop (cutF l l.length)]

set_option maxHeartbeats 4000000 in
set_option maxRecDepth 50000 in
theorem l1Cut_any (l : List UInt8) (hl : l.length ≤ 2000000) (w : World) :
    Calls Tryd.prog 33 #[.string ⟨l.toArray⟩, .int .u8 32] w fun e w' => ∃ v n, e = .returned v ∧ WRel w 0 0 none [] (cutL l) n v w' := by
  obtain ⟨s, es⟩ : ∃ s : ByteArray, s = ⟨l.toArray⟩ := ⟨_, rfl⟩
  have hsz : s.size = l.length := by rw [es]; simp [ByteArray.size]
  have IX := Lib.hid (fun k hk => byte_at es (k := k) hk)
  have EX := Lib.hid (fun a b => (by rw [es]; exact ByteArray.extract_mk l a b : s.extract a b = ⟨((l.drop a).take (b - a)).toArray⟩))
  rw [← es]
  obtain ⟨ii, hi, hz0, hz1, hz2⟩ := info_parts infoStr
  have hmd := World.ownsRow_made (base := w.heap.size) (e := 9) (size := 1) w #[] 0 (by omega) (by unfold maxLen; omega) rfl
  have R0 : WRel w 0 0 none [] (cutW l 0) 0 _ (w.alloc (.cells #[] 9)) := ⟨by simp [cutW], by simpa [cutW, wcells] using hmd, fun q _ => .inr (Nat.zero_le _), ⟨Nat.zero_le _, fun h => by simp at h⟩, (Below.refl _ _).alloc (Nat.le_refl _) _⟩
  obtain ⟨m, em⟩ : ∃ m, m = l.length := ⟨_, rfl⟩
  have HM := Lib.hid em
  have Hl := Lib.hid hl
  clear es hmd em
  go_enter Tryd.func33, Tryd.ntmps33
  go_wp2_with fail
  go_loopg [5, 6, 7] m (fun gh v f i wr => ∃ k n : Nat, k ≤ m ∧ gh = m - k ∧ i = .int .i64 k ∧ f = .int .i64 (cutF l k) ∧ WRel w 0 0 none [] (cutW l k) n v wr)
  case atStart => exact ⟨0, 0, Nat.zero_le _, rfl, rfl, rfl, R0⟩
  case round =>
    obtain ⟨k, n, hk, hg, rfl, rfl, hR⟩ := hrel
    have Hg := Lib.hid hg
    have hm := HM.out
    have hn : n ≤ k := by rw [← hR.len]; exact cutW_le l k
    have hf := cutF_le l k
    clear R0 hg
    have hsW : cutW l (k + 1) = if (l.getD k 0).toNat = 32 then cutW l k ++ [(l.drop (cutF l k)).take (k - cutF l k)] else cutW l k := rfl
    have hsF : cutF l (k + 1) = if (l.getD k 0).toNat = 32 then k + 1 else cutF l k := rfl
    have hown := Lib.hid hR.own
    have hwsz := hR.below.size
    by_cases hlt : k < l.length
    · have hlt' : (k : Int) < (l.length : Int) := by omega
      obtain ⟨pk, ik⟩ := IX.out k hlt
      obtain ⟨c, ec⟩ : ∃ c, c = (l.getD k 0).toNat := ⟨_, rfl⟩
      rw [← ec] at ik hsW hsF
      have hx := EX.out (cutF l k) k
      obtain ⟨f, ef⟩ : ∃ f, f = cutF l k := ⟨_, rfl⟩
      rw [← ef] at hx hf hsF hsW ⊢
      obtain ⟨x, ex⟩ : ∃ x, x = (l.drop f).take (k - f) := ⟨_, rfl⟩
      rw [← ex] at hx hsW
      clear ec ef ex
      by_cases hc : c = 32
      · rw [if_pos hc] at hsW hsF
        have hq : ((c : Int) == 32) = true := by simp; omega
        have HsW := Lib.hid hsW
        have HsF := Lib.hid hsF
        clear hsW hsF hc
        go_wp2_with (at_builtin; go_loud (refine wpList_append_own_at _ rfl _ _ 48 rfl w.heap.size 9 ii (.string ⟨#[]⟩) 1 16 Tryd.underlying48 hi hz0 hz1 hz2 rfl (by decide) _ _ _ rfl (hown.out.alloc _) ⟨wr.heap.size, 0, none⟩ 1 1 [.string ⟨x.toArray⟩] rfl rfl (cell_one_new _ _ _) (by simp [Value.oneCell']) (by unfold maxLen; omega) (by omega) (by simp; omega) ?_; intro v' w5 hown' hgrow _ hat))
        have hR' := hR.next x _ hown' hgrow hat
        rw [← HsW.out] at hR'
        clear hR hown' hgrow hat
        go_wp2_with fail
        go_roundg (m - (k + 1))
        case measure => have := Hg.out; omega
        case rel => exact ⟨k + 1, n + 1, by omega, rfl, by go_num, by rw [HsF.out]; go_num, hR'⟩
      · rw [if_neg hc] at hsW hsF
        have hq : ((c : Int) == 32) = false := by simp; omega
        have HsW := Lib.hid hsW
        have HsF := Lib.hid hsF
        clear hsW hsF hc
        go_wp2_with fail
        go_roundg (m - (k + 1))
        case measure => have := Hg.out; omega
        case rel => exact ⟨k + 1, n, by omega, rfl, by go_num, by rw [HsF.out], by rw [HsW.out]; exact hR⟩
    · have hlt' : ¬ (k : Int) < (l.length : Int) := by omega
      obtain rfl : k = l.length := by omega
      have hx := EX.out (cutF l l.length) l.length
      obtain ⟨f, ef⟩ : ∃ f, f = cutF l l.length := ⟨_, rfl⟩
      have HC : Hid (cutL l = cutW l l.length ++ [l.drop f]) := Lib.hid (by rw [ef]; rfl)
      rw [← ef] at hx hf ⊢
      rw [List.take_of_length_le (by simp)] at hx
      obtain ⟨x, ex⟩ : ∃ x, x = l.drop f := ⟨_, rfl⟩
      rw [← ex] at hx HC
      clear ef ex hsW hsF
      go_wp2_with (at_builtin; go_loud (refine wpList_append_own_at _ rfl _ _ 48 rfl w.heap.size 9 ii (.string ⟨#[]⟩) 1 16 Tryd.underlying48 hi hz0 hz1 hz2 rfl (by decide) _ _ _ rfl (hown.out.alloc _) ⟨wr.heap.size, 0, none⟩ 1 1 [.string ⟨x.toArray⟩] rfl rfl (cell_one_new _ _ _) (by simp [Value.oneCell']) (by unfold maxLen; omega) (by omega) (by simp; omega) ?_; intro v' w5 hown' hgrow _ hat))
      have hR' := hR.next x _ hown' hgrow hat
      rw [← HC.out] at hR'
      clear hR hown' hgrow hat
      go_wp2_with fail
      go_ret
      exact ⟨v', rfl, _, hR'⟩
end Go.Proofs.YtffkoeobehocjaaDoor
