/- Contracts of laws.hasInt and laws.whole; exchanges of neighbours in a list; rows of which a number is set. -/
import Derived.Test.YtfpnjahdjppeaaaPerm
import Derived.Test.YtfpnjahdjppeaaaTabA
import Derived.Test.YtfpnjahdjppeaaaSl
import Derived.BigQuiet
import Derived.Deep.LoopGhost
namespace Go.Proofs.Ytfpnjahdjppeaaa
open Go.RowKit
set_option linter.unusedVariables false
set_option linter.unusedSimpArgs false

theorem hasInt'_any (A : Option Addr) (n c B : Nat) (zs : List Int) (x : Int) (w : World) (h : Reads w B 1 A n (zs.map (Value.int .i64))) (hz : zs.length = n) (hn : n ≤ 1048576) :
    Calls Try.prog 35 #[.slice A n c, .int .i64 x] w fun e w' => e = .returned (.bool (hasB zs x)) ∧ w = w' := by
  have HR := Lib.hid h
  have HZ := Lib.hid hz
  clear h hz
  go_enter Try.func35, Try.ntmps35
  go_wp2_with fail
  go_loopg [5] n (fun gh i wr => ∃ k : Nat, k ≤ n ∧ gh = n - k ∧ i = .int .i64 k ∧ hasB (zs.take k) x = false ∧ w = wr)
  case atStart => exact ⟨0, Nat.zero_le _, rfl, rfl, rfl, rfl⟩
  case round =>
    obtain ⟨k, hk, hg, rfl, hno, rfl⟩ := hrel
    have Hg := Lib.hid hg
    have Hno := Lib.hid hno
    clear hg hno
    by_cases hlt : k < n
    · obtain ⟨b, o, rfl, hbB, hcell⟩ := HR.out.open1 HZ.out (by omega)
      have hs := hasB_snoc zs k (by have := HZ.out; omega) x
      have hc := hcell k hlt
      obtain ⟨z, ez⟩ : ∃ z, z = zs.getD k 0 := ⟨_, rfl⟩
      rw [← ez] at hs hc
      rw [Hno.out, Bool.false_or] at hs
      have hlt' : (k : Int) < (n : Int) := by omega
      clear hcell ez
      cases he : (z == x) with
      | true =>
        have Hs : Hid (hasB zs x = true) := Lib.hid (hasB_take (k := k + 1) (by rw [hs, he]))
        clear hs
        go_wp2_with fail
        go_ret
        exact ⟨ret_bool Hs.out.symm, rfl⟩
      | false =>
        have Hs : Hid (hasB (zs.take (k + 1)) x = false) := Lib.hid (by rw [hs, he])
        clear hs
        go_wp2_with fail
        go_roundg (n - (k + 1))
        case measure => have := Hg.out; omega
        case rel => exact ⟨k + 1, by omega, rfl, by go_num, Hs.out, rfl⟩
    · have hlt' : ¬ (k : Int) < (n : Int) := by omega
      have Hf : Hid (hasB zs x = false) := Lib.hid (by
        have h2 := Hno.out
        rwa [List.take_of_length_le (by have := HZ.out; omega)] at h2)
      go_wp2_with fail
      go_ret
      exact ⟨ret_bool Hf.out.symm, rfl⟩

set_option maxHeartbeats 2000000 in
set_option maxRecDepth 50000 in
theorem whole_any (A : Option Addr) (n c B : Nat) (xs : List Int) (w : World) (h : Reads w B 1 A n (xs.map (Value.int .i64))) (hz : xs.length = n) (hc : n ≤ c) (hn : n ≤ 1048576)
    (h1 : ∀ k, k < n → 0 ≤ xs.getD k 0 ∧ xs.getD k 0 < n) (h2 : ∀ k, k < n → hasB (xs.take k) (xs.getD k 0) = false) :
    Calls Try.prog 12 #[.slice A n c] w fun e w' => e = .returned (.bool true) ∧ ∃ d, w' = w.drewN d := by
  have HR := Lib.hid h
  have HZ := Lib.hid hz
  have H1 := Lib.hid h1
  have H2 := Lib.hid h2
  clear h hz h1 h2
  go_enter Try.func12, Try.ntmps12
  go_wp2_with fail
  go_loopg [3] n (fun gh i wr => ∃ k : Nat, k ≤ n ∧ gh = n - k ∧ i = .int .i64 k ∧ ∃ d, wr = w.drewN d)
  case atStart => exact ⟨0, Nat.zero_le _, rfl, rfl, 0, rfl⟩
  case round =>
    obtain ⟨k, hk, hg, rfl, d, rfl⟩ := hrel
    have Hg := Lib.hid hg
    clear hg
    by_cases hlt : k < n
    · obtain ⟨b, o, rfl, hbB, hcell⟩ := HR.out.open1 HZ.out (by omega)
      have hc1 := hcell k hlt
      have hz1 := H1.out k hlt
      have hz2 := H2.out k hlt
      have hlt' : (k : Int) < (n : Int) := by omega
      have hkc : k ≤ c := by omega
      obtain ⟨z, ez⟩ : ∃ z, z = xs.getD k 0 := ⟨_, rfl⟩
      rw [← ez] at hc1 hz1 hz2
      have hn0 : decide (z < 0) = false := decide_eq_false (by omega)
      have hn1 : decide ((n : Int) ≤ z) = false := decide_eq_false (by omega)
      have hrt := Lib.hid (HR.out.take HZ.out hk)
      have Hlt : Hid ((xs.take k).length = k) := Lib.hid (by rw [List.length_take]; have := HZ.out; omega)
      have HI := Lib.hid (fun (W : World) (hr : Reads W B 1 (some ⟨b, o, none⟩) k ((xs.take k).map (Value.int .i64))) => by have := hasInt'_any (some ⟨b, o, none⟩) k c B (xs.take k) z W hr Hlt.out (by omega); rw [hz2] at this; exact this)
      clear hcell ez hz1 hz2
      go_wp2_with fail
      go_quiet ((go_at_call 35; first | exact quiet_add_left (HI.out _ (hrt.out.drewN _)) | exact quiet_left (HI.out _ ((hrt.out.drewN _).drewN _)) | exact quiet_left (HI.out _ (hrt.out.drewN _))))
      go_wp2_with fail
      go_roundg (n - (k + 1))
      case measure => have := Hg.out; omega
      case rel => exact ⟨k + 1, by omega, rfl, by go_num, _, rfl⟩
    · have hlt' : ¬ (k : Int) < (n : Int) := by omega
      go_wp2_with fail
      go_ret
      exact ⟨rfl, _, rfl⟩

/-- the numbers at k - 1 and at k exchanged -/
def sw (xs : List Int) (k : Nat) : List Int := (xs.set (k - 1) (xs.getD k 0)).set k (xs.getD (k - 1) 0)
theorem sw_len (xs : List Int) (k : Nat) : (sw xs k).length = xs.length := by simp [sw]
def tau (k j : Nat) : Nat := if j = k then k - 1 else if j = k - 1 then k else j
theorem sw_at {xs : List Int} {k j : Nat} (hk : 1 ≤ k) (hkl : k < xs.length) (hj : j < xs.length) : (sw xs k).getD j 0 = xs.getD (tau k j) 0 := by
  unfold sw tau
  simp only [List.getD_eq_getElem?_getD, List.getElem?_set]
  by_cases h1 : j = k
  · subst h1
    simp [hj]
  · by_cases h2 : j = k - 1
    · subst h2
      rw [if_neg (by omega), if_neg h1, if_pos rfl]
      simp [hj]
    · rw [if_neg (by omega), if_neg h1, if_neg h2, if_neg (by omega)]
theorem tau_lt {k j n : Nat} (hk : k < n) (hj : j < n) : tau k j < n := by unfold tau; split <;> (try split) <;> omega
theorem tau_tau {k : Nat} (hk : 1 ≤ k) (j : Nat) : tau k (tau k j) = j := by unfold tau; split <;> (try split) <;> (try split) <;> (try split) <;> omega
theorem sw_nx {xs : List Int} {k j : Nat} (hk : 1 ≤ k) (hkl : k < xs.length) (hj : j < xs.length) : nx (sw xs k) j = nx xs (tau k j) := by
  unfold nx
  rw [sw_at hk hkl hj]
theorem Pm.sw {xs : List Int} (P : Pm xs) {k : Nat} (hk : 1 ≤ k) (hkl : k < xs.length) : Pm (sw xs k) := by
  refine ⟨fun j hj => ?_, fun j hj => ?_, fun i j hi hj e => ?_⟩
  · rw [sw_len] at hj
    rw [sw_at hk hkl hj, sw_nx hk hkl hj, P.nn _ (tau_lt hkl hj)]
  · rw [sw_len] at hj ⊢
    rw [sw_nx hk hkl hj]
    exact P.lt _ (tau_lt hkl hj)
  · rw [sw_len] at hi hj
    rw [sw_nx hk hkl hi, sw_nx hk hkl hj] at e
    have := P.inj _ _ (tau_lt hkl hi) (tau_lt hkl hj) e
    rw [← tau_tau hk i, this, tau_tau hk j]
theorem twice_no {l : Int} {xs : List Int} (h : tblB l xs = true) : tblB l (xs.set 0 (xs.getD 1 0)) = false := by
  cases hq : tblB l (xs.set 0 (xs.getD 1 0)) with
  | false => rfl
  | true =>
    have P := tblB_pm hq
    have hb := tblB_bd h
    have h2 : 2 ≤ xs.length := hb.1
    have e : nx (xs.set 0 (xs.getD 1 0)) 0 = nx (xs.set 0 (xs.getD 1 0)) 1 := by
      unfold nx
      simp only [List.getD_eq_getElem?_getD, List.getElem?_set]
      simp [show 0 < xs.length by omega]
    have := P.inj 0 1 (by simp; omega) (by simp; omega) e
    omega
theorem sw_tbl {l : Int} {xs : List Int} (h : tblB l xs = true) {k : Nat} (hk : 1 ≤ k) (hkl : k < xs.length) : tblB l (sw xs k) = true := by
  obtain ⟨h1, h2, _⟩ := tblB_t h
  exact pm_tblB ((tblB_pm h).sw hk hkl) h1 (by rw [sw_len]; exact h2)

/-- a number of a row of the call's own is set -/
theorem own_put {w : World} {base e n cap g i : Nat} {xs : List Int} (h : w.ownsRow base e 1 (.slice (some ⟨g, 0, none⟩) n cap) n (xs.map (Value.int .i64))) (x : Int) :
    (w.setCell ⟨g, i, none⟩ (.int .i64 x)).ownsRow base e 1 (.slice (some ⟨g, 0, none⟩) n cap) n ((xs.set i x).map (Value.int .i64)) := by
  obtain ⟨h1, h2⟩ := h
  rcases h2 with ⟨h, _⟩ | ⟨g', cap', cur, he, hg, hh, hc, hm, hs, ht⟩
  · cases h
  · cases he
    have hb : Blk w g e cur := hh
    refine ⟨by simpa using h1, .inr ⟨g, cap, cur.setIfInBounds i (.int .i64 x), rfl, hg, hb.set_ i _, hc, hm, by simp; omega, ?_⟩⟩
    rw [Array.toList_setIfInBounds, List.take_set, ht, List.map_set]
theorem own_get {w : World} {base e n cap g i : Nat} {xs : List Int} (h : w.ownsRow base e 1 (.slice (some ⟨g, 0, none⟩) n cap) n (xs.map (Value.int .i64))) (hi : i < n) (hz : xs.length = n) :
    w.cell? ⟨g, i, none⟩ = some (.int .i64 (xs.getD i 0)) ∧ w.frozen? ⟨g, i, none⟩ = false := by
  obtain ⟨h1, h2⟩ := h
  rcases h2 with ⟨h, _⟩ | ⟨g', cap', cur, he, hg, hh, hc, hm, hs, ht⟩
  · cases h
  · cases he
    have hb : Blk w g e cur := hh
    refine ⟨?_, hb.frozen i⟩
    rw [hb.cell]
    have h3 : (xs.map (Value.int .i64))[i]? = some (.int .i64 (xs.getD i 0)) := by
      rw [List.getElem?_map, List.getD_eq_getElem?_getD, List.getElem?_eq_getElem (by omega)]
      rfl
    rw [← ht, List.getElem?_take] at h3
    split at h3
    · simpa using h3
    · cases h3
end Go.Proofs.Ytfpnjahdjppeaaa
