/- Contract of spec.l1Digits at every text. -/
import Derived.Test.YtffkoeobehocjaaDoorTxt
namespace Go.Proofs.YtffkoeobehocjaaDoor
open Go.RowKit
set_option linter.unusedVariables false
set_option linter.unusedSimpArgs false

/-- the first k letters are digits -/
def okD (l : List UInt8) : Nat → Bool
  | 0 => true
  | k + 1 => okD l k && (decide (48 ≤ (l.getD k 0).toNat) && decide ((l.getD k 0).toNat ≤ 57))
/-- their number -/
def valD (l : List UInt8) : Nat → Nat
  | 0 => 0
  | k + 1 => 10 * valD l k + ((l.getD k 0).toNat - 48)
theorem valD_bd (l : List UInt8) (k : Nat) (h : okD l k = true) : valD l k < 10 ^ k := by
  induction k with
  | zero => simp [valD]
  | succ k ih =>
    simp only [okD, Bool.and_eq_true, decide_eq_true_eq] at h
    have := ih h.1
    simp only [valD, Nat.pow_succ]
    omega
theorem okD_le {l : List UInt8} {j k : Nat} (hj : j ≤ k) (h : okD l j = false) : okD l k = false := by
  induction k with
  | zero => obtain rfl : j = 0 := by omega
            exact h
  | succ k ih =>
    by_cases e : j = k + 1
    · rw [← e]; exact h
    · rw [okD, ih (by omega)]; rfl
/-- what l1Digits answers -/
def digL (l : List UInt8) : Int := if inB l.length 1 4 = true then (if 1 < l.length ∧ (l.getD 0 0).toNat = 48 then -1 else if okD l l.length = true then (valD l l.length : Int) else -1) else -1
theorem ix_at (l : List UInt8) (k : Nat) (hk : k < l.length) (W : World) : (Instr.index 9 (.string ⟨l.toArray⟩) (.int .i64 (k : Int))).run Tryd.prog W = .ok (.int .u8 ((l.getD k 0).toNat : Int)) W := by
  have hs : (⟨l.toArray⟩ : ByteArray).size = l.length := by simp [ByteArray.size]
  rw [run_index_string W 9 ⟨l.toArray⟩ .i64 k Tryd.underlying9, dif_pos ⟨by omega, by rw [hs]; omega⟩]
  have e : (⟨l.toArray⟩ : ByteArray)[(k : Int).toNat]'(by rw [hs]; omega) = l.getD k 0 := by
    simp only [Int.toNat_natCast]
    rw [List.getD_eq_getElem?_getD, List.getElem?_eq_getElem hk]
    rfl
  rw [e]

theorem byte_at {s : ByteArray} {l : List UInt8} (es : s = ⟨l.toArray⟩) {k : Nat} (hk : k < l.length) : ∃ h : k < s.size, (s[k]'h).toNat = (l.getD k 0).toNat := by
  have hs : s.size = l.length := by rw [es]; simp [ByteArray.size]
  refine ⟨by omega, ?_⟩
  subst es
  rw [List.getD_eq_getElem?_getD, List.getElem?_eq_getElem hk]
  rfl

set_option maxHeartbeats 4000000 in
set_option maxRecDepth 50000 in
theorem l1Digits_any (l : List UInt8) (hl : l.length ≤ 4611686018427387904) (w : World) :
    Calls Tryd.prog 34 #[.string ⟨l.toArray⟩] w fun e w' => e = .returned (.int .i64 (digL l)) ∧ Below w.heap.size w w' := by
  have hin := l1In_any (l.length : Int) 1 4
  obtain ⟨s, es⟩ : ∃ s : ByteArray, s = ⟨l.toArray⟩ := ⟨_, rfl⟩
  have hsz : s.size = l.length := by rw [es]; simp [ByteArray.size]
  have IX := Lib.hid (fun k hk => byte_at es (k := k) hk)
  rw [← es]
  clear es
  cases h4 : inB l.length 1 4 with
  | false =>
    have Hr : Hid (digL l = -1) := Lib.hid (by unfold digL; rw [if_neg (by rw [h4]; decide)])
    rw [h4] at hin
    clear h4
    go_enter Tryd.func34, Tryd.ntmps34
    go_wp2_with (go_at_call 56; refine (hin _).mono ?_; rintro e w' ⟨rfl, rfl⟩)
    go_ret
    rw [Hr.out]
    exact ⟨rfl, Below.refl _ _⟩
  | true =>
    have hl4 := inB_t h4
    rw [h4] at hin
    obtain ⟨p0, i0⟩ := IX.out 0 (by omega)
    have g0 : 0 < l.length := by omega
    by_cases hz : 1 < l.length ∧ (l.getD 0 0).toNat = 48
    · have Hr : Hid (digL l = -1) := Lib.hid (by unfold digL; rw [if_pos h4, if_pos hz])
      rw [hz.2] at i0
      have h1 : 1 < (l.length : Int) := by omega
      clear h4 hz
      go_enter Tryd.func34, Tryd.ntmps34
      go_wp2_with (go_at_call 56; refine (hin _).mono ?_; rintro e w' ⟨rfl, rfl⟩)
      go_ret
      rw [Hr.out]
      exact ⟨rfl, Below.refl _ _⟩
    · have Hr : Hid (digL l = if okD l l.length = true then (valD l l.length : Int) else -1) := Lib.hid (by unfold digL; rw [if_pos h4, if_neg hz])
      obtain ⟨z0, ez0⟩ : ∃ z, z = (l.getD 0 0).toNat := ⟨_, rfl⟩
      rw [← ez0] at i0 hz
      obtain ⟨m, em⟩ : ∃ m, m = l.length := ⟨_, rfl⟩
      have HM := Lib.hid em
      have hq : ((z0 : Int) == 48) = false ∨ ¬ 1 < l.length := by
        by_cases h : z0 = 48
        · exact .inr fun h1 => hz ⟨h1, h⟩
        · exact .inl (by simp; omega)
      clear h4 ez0 hz em
      rcases hq with hq | hq
      all_goals go_enter Tryd.func34, Tryd.ntmps34
      all_goals go_wp2_with (go_at_call 56; refine (hin _).mono ?_; rintro e w' ⟨rfl, rfl⟩)
      all_goals
        go_loopg [3, 4] m (fun gh v i wr => ∃ k : Nat, k ≤ m ∧ gh = m - k ∧ i = .int .i64 k ∧ v = .int .i64 (valD l k) ∧ okD l k = true ∧ w = wr)
        case atStart => exact ⟨0, Nat.zero_le _, rfl, rfl, rfl, rfl, rfl⟩
        case round =>
          obtain ⟨k, hk, hg, rfl, rfl, hok, rfl⟩ := hrel
          have Hg := Lib.hid hg
          have hv := valD_bd l k hok
          have hm := HM.out
          by_cases hlt : k < l.length
          · have hlt' : (k : Int) < (l.length : Int) := by omega
            obtain ⟨pk, ik⟩ := IX.out k hlt
            have hs : valD l (k + 1) = 10 * valD l k + ((l.getD k 0).toNat - 48) := rfl
            have ho : okD l (k + 1) = (okD l k && (decide (48 ≤ (l.getD k 0).toNat) && decide ((l.getD k 0).toNat ≤ 57))) := rfl
            rw [hok, Bool.true_and] at ho
            have hc8 : (l.getD k 0).toNat < 256 := (l.getD k 0).toNat_lt
            obtain ⟨c, ec⟩ : ∃ c, c = (l.getD k 0).toNat := ⟨_, rfl⟩
            rw [← ec] at ik hs ho hc8
            have hv4 : valD l k < 1000 := by
              have : 10 ^ k ≤ 10 ^ 3 := Nat.pow_le_pow_right (by omega) (by omega)
              omega
            obtain ⟨u, eu⟩ : ∃ u, u = valD l k := ⟨_, rfl⟩
            rw [← eu] at hs hv4 ⊢
            have Hs := Lib.hid hs
            have Ho := Lib.hid ho
            have HN : Hid (okD l (k + 1) = false → digL l = -1) := Lib.hid (fun h => by rw [Hr.out, if_neg (by rw [okD_le (by omega) h]; decide)])
            clear hg hv eu ec hs ho hok i0
            by_cases hd : 48 ≤ c
            · by_cases hd' : c ≤ 57
              · obtain ⟨d, ed⟩ : ∃ d : Nat, c = d + 48 := ⟨c - 48, by omega⟩
                have g1 : ¬ (c : Int) < 48 := by omega
                have g2 : ¬ 57 < (c : Int) := by omega
                have k1 : IntKind.u8.wrap ((c : Int) - 48) = (d : Int) := by rw [IntWalk.u8_in _ (by omega)]; omega
                have k2 : IntKind.i64.wrap (d : Int) = (d : Int) := IntWalk.i64_in _ (by omega)
                have k3 : IntKind.i64.wrap (10 * (u : Int)) = 10 * (u : Int) := IntWalk.i64_in _ (by omega)
                have k4 : IntKind.i64.wrap (10 * (u : Int) + (d : Int)) = 10 * (u : Int) + (d : Int) := IntWalk.i64_in _ (by omega)
                have Hd := Lib.hid ed
                clear ed
                go_wp2_with fail
                go_roundg (m - (k + 1))
                case measure => have := Hg.out; omega
                case rel => exact ⟨k + 1, by omega, rfl, by go_num, by rw [Hs.out]; have := Hd.out; congr 1; omega, by rw [Ho.out, decide_eq_true hd, decide_eq_true hd']; rfl, rfl⟩
              · have g1 : ¬ (c : Int) < 48 := by omega
                have g2 : 57 < (c : Int) := by omega
                go_wp2_with fail
                go_ret
                rw [HN.out (by rw [Ho.out, decide_eq_false hd']; simp)]
                exact ⟨rfl, Below.refl _ _⟩
            · have g1 : (c : Int) < 48 := by omega
              go_wp2_with fail
              go_ret
              rw [HN.out (by rw [Ho.out, decide_eq_false hd]; simp)]
              exact ⟨rfl, Below.refl _ _⟩
          · have hlt' : ¬ (k : Int) < (l.length : Int) := by omega
            obtain rfl : k = l.length := by omega
            have Hr' : Hid (digL l = (valD l l.length : Int)) := Lib.hid (by rw [Hr.out, if_pos hok])
            clear hg
            go_wp2_with fail
            go_ret
            rw [Hr'.out]
            exact ⟨rfl, Below.refl _ _⟩
end Go.Proofs.YtffkoeobehocjaaDoor
