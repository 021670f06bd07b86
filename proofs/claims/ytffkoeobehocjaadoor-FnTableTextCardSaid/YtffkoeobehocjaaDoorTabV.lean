/- Contracts of spec.TableValid and impl.TableValid. -/
import Derived.Test.YtffkoeobehocjaaDoorIntsB
import Derived.Test.YtffkoeobehocjaaDoorGateS
namespace Go.Proofs.YtffkoeobehocjaaDoor
open Go.RowKit
set_option linter.unusedVariables false

/-- a table that is valid -/
def tblB (l : Int) (xs : List Int) : Bool := inB l 1 8 && (decide ((xs.length : Int) = pw l) && okP (pw l - 1) xs xs.length)
theorem tblB_lines {l : Int} {xs : List Int} (h : inB l 1 8 = false) : tblB l xs = false := by unfold tblB; rw [h]; rfl
theorem tblB_len {l : Int} {xs : List Int} (h : ¬ (xs.length : Int) = pw l) : tblB l xs = false := by unfold tblB; rw [decide_eq_false h]; simp
theorem tblB_no {l : Int} {xs : List Int} {k : Nat} (hk : k ≤ xs.length) (h : okP (pw l - 1) xs k = false) : tblB l xs = false := by unfold tblB; rw [okP_le hk h]; simp
theorem tblB_yes {l : Int} {xs : List Int} (h : inB l 1 8 = true) (hl : (xs.length : Int) = pw l) (ho : okP (pw l - 1) xs xs.length = true) : tblB l xs = true := by unfold tblB; rw [h, decide_eq_true hl, ho]; rfl
theorem wordB_in {l v : Int} (h : inB l 1 8 = true) : wordB l v = inB v 0 (pw l - 1) := by unfold wordB; rw [h]; rfl

set_option maxHeartbeats 1000000 in
theorem specTableValid_any (l : Int) (A : Option Addr) (n c B : Nat) (xs : List Int) (w : World) (h : Reads w B 1 A n (xs.map (Value.int .i64))) (hz : xs.length = n) (hc : n ≤ c) (hn : n ≤ 4611686018427387904) :
    Calls Tryd.prog 40 #[.int .i64 l, .slice A n c] w fun e w' => e = .returned (.bool (tblB l xs)) ∧ ∃ d, w' = w.drewN d := by
  cases hv : inB l 1 8 with
  | false =>
    have Hg := Lib.hid (tblB_lines (xs := xs) hv)
    clear h hz
    go_enter Tryd.func40, Tryd.ntmps40
    go_wp2_with (go_at_call 56; refine (l1In_any _ _ _ _).mono ?_; rintro e w' ⟨rfl, rfl⟩)
    go_ret
    exact ⟨ret_bool Hg.out.symm, 0, rfl⟩
  | true =>
    have hlv := inB_t hv
    have hp := pw_bd hlv.1 hlv.2
    have hs := shl_one hlv.1 hlv.2
    by_cases hlen : (n : Int) = pw l
    · have hne : ((n : Int) != pw l) = false := by simp [hlen]
      have HR := Lib.hid h
      have HZ := Lib.hid hz
      have Hlen := Lib.hid hlen
      have HV := Lib.hid hv
      clear h hz hlen
      go_enter Tryd.func40, Tryd.ntmps40
      go_wp2_with (go_at_call 56; refine (l1In_any _ _ _ _).mono ?_; rintro e w' ⟨rfl, rfl⟩)
      clear hv hne
      go_loopw [5] (fun i wr => ∃ k : Nat, k ≤ n ∧ i = .int .i64 k ∧ okP (pw l - 1) xs k = true ∧ ∃ d, wr = w.drewN d) (fun i _ => n - (intOf i).toNat)
      case atStart => exact ⟨0, Nat.zero_le _, rfl, rfl, 0, rfl⟩
      case round =>
        obtain ⟨k, hk, rfl, hok, d, rfl⟩ := hrel
        have Hok := Lib.hid hok
        clear hok
        by_cases hlt : k < n
        · obtain ⟨b, o, rfl, hbB, hcell⟩ := HR.out.open1 HZ.out (by omega)
          have hc1 := hcell k hlt
          clear hcell
          have hlt' : (k : Int) < (n : Int) := by omega
          have hkc : k ≤ c := by omega
          obtain ⟨z, hz⟩ : ∃ z, z = xs.getD k 0 := ⟨_, rfl⟩
          rw [← hz] at hc1
          have Hs : Hid (okP (pw l - 1) xs (k + 1) = (wordB l z && !hasB (xs.take k) z)) := Lib.hid (by simp only [okP]; rw [Hok.out, ← hz, wordB_in HV.out]; rfl)
          clear hz
          have hrt := Lib.hid (HR.out.take HZ.out hk)
          have Hlt : Hid ((xs.take k).length = k) := Lib.hid (by rw [List.length_take]; have := HZ.out; omega)
          cases hi : wordB l z with
          | false =>
            have Hg : Hid (tblB l xs = false) := Lib.hid (tblB_no (k := k + 1) (by have := HZ.out; omega) (by rw [Hs.out, hi]; rfl))
            go_wp2_with fail
            go_quiet ((go_at_call 65; first | exact quiet_add_left (specWordValid_any _ _ _) | exact quiet_left (specWordValid_any _ _ _)))
            go_wp2_with fail
            go_ret
            exact ⟨ret_bool Hg.out.symm, _, World.drewN_drewN _ _ _⟩
          | true =>
            cases hh : hasB (xs.take k) z with
            | true =>
              have Hg : Hid (tblB l xs = false) := Lib.hid (tblB_no (k := k + 1) (by have := HZ.out; omega) (by rw [Hs.out, hi, hh]; rfl))
              go_wp2_with fail
              go_quiet ((first | (go_at_call 65; first | exact quiet_add_left (specWordValid_any _ _ _) | exact quiet_left (specWordValid_any _ _ _)) | (go_at_call 66; first | exact quiet_add_left (l1Has_any _ _ _ _ _ _ _ (hrt.out.drewN _) Hlt.out (by omega)) | exact quiet_left (l1Has_any _ _ _ _ _ _ _ ((hrt.out.drewN _).drewN _) Hlt.out (by omega)))))
              go_wp2_with fail
              go_ret
              exact ⟨ret_bool Hg.out.symm, _, World.drewN_drewN _ _ _⟩
            | false =>
              have Hok1 : Hid (okP (pw l - 1) xs (k + 1) = true) := Lib.hid (by rw [Hs.out, hi, hh]; rfl)
              go_wp2_with fail
              go_quiet ((first | (go_at_call 65; first | exact quiet_add_left (specWordValid_any _ _ _) | exact quiet_left (specWordValid_any _ _ _)) | (go_at_call 66; first | exact quiet_add_left (l1Has_any _ _ _ _ _ _ _ (hrt.out.drewN _) Hlt.out (by omega)) | exact quiet_left (l1Has_any _ _ _ _ _ _ _ ((hrt.out.drewN _).drewN _) Hlt.out (by omega)))))
              go_wp2_with fail
              go_roundw
              case rel => exact ⟨k + 1, by omega, by go_num, Hok1.out, _, rfl⟩
              case measure => simp [intOf]; omega
        · have hlt' : ¬ (k : Int) < (n : Int) := by omega
          have Hg : Hid (tblB l xs = true) := Lib.hid (tblB_yes HV.out (by rw [HZ.out]; exact Hlen.out) (by have h2 := Hok.out; rwa [show k = xs.length from by have := HZ.out; omega] at h2))
          go_wp2_with fail
          go_ret
          exact ⟨ret_bool Hg.out.symm, _, rfl⟩
    · have Hg := Lib.hid (tblB_len (l := l) (xs := xs) (by rw [hz]; exact hlen))
      have hne : ((n : Int) != pw l) = true := by simp [hlen]
      clear hlen h hz
      go_enter Tryd.func40, Tryd.ntmps40
      go_wp2_with (go_at_call 56; refine (l1In_any _ _ _ _).mono ?_; rintro e w' ⟨rfl, rfl⟩)
      go_ret
      exact ⟨ret_bool Hg.out.symm, 0, rfl⟩

theorem infoBool : (Tryd.prog.info? 4).map (fun i => (i.zero, i.size, i.bytes)) = some (some (.bool false), 1, 1) := by kernel_rfl

set_option maxHeartbeats 1000000 in
theorem implTableValid_any (l : Int) (A : Option Addr) (n c B : Nat) (xs : List Int) (w : World) (h : Reads w B 1 A n (xs.map (Value.int .i64))) (hB : B ≤ w.heap.size) (hz : xs.length = n) (hc : n ≤ c) (hn : n ≤ 4611686018427387904) :
    Calls Tryd.prog 19 #[.int .i64 l, .slice A n c] w fun e w' => e = .returned (.bool (tblB l xs)) ∧ Below w.heap.size w w' := by
  cases hv : inB l 1 8 with
  | false =>
    have Hg := Lib.hid (tblB_lines (xs := xs) hv)
    clear h hz
    go_enter Tryd.func19, Tryd.ntmps19
    go_wp2_with (go_at_call 42; refine (linesOk_any _ _).mono ?_; rintro e w' ⟨rfl, rfl⟩)
    go_ret
    exact ⟨ret_bool Hg.out.symm, Below.refl _ _⟩
  | true =>
    have hlv := inB_t hv
    have hp := pw_bd hlv.1 hlv.2
    have hs := shl_one hlv.1 hlv.2
    by_cases hlen : (n : Int) = pw l
    · have hne : ((n : Int) != pw l) = false := by simp [hlen]
      have HR := Lib.hid h
      have HZ := Lib.hid hz
      have Hlen := Lib.hid hlen
      have HV := Lib.hid hv
      have hn256 : n ≤ 256 := by omega
      have hmk := run_make_row' (P := Tryd.prog) 61 4 (.bool false) 1 Tryd.underlying61 infoBool rfl .i64 .i64 n (by omega) (by omega)
      clear h hz hlen
      go_enter Tryd.func19, Tryd.ntmps19
      go_wp2_with (go_at_call 42; refine (linesOk_any _ _).mono ?_; rintro e w' ⟨rfl, rfl⟩)
      clear hv hne hmk hs
      go_loopw [23] (fun i wr => ∃ k : Nat, k ≤ n ∧ i = .int .i64 k ∧ okP (pw l - 1) xs k = true ∧ wr.rowIs w.heap.size 4 n (fun j => .bool (hasB (xs.take k) j)) ∧ Below w.heap.size w wr) (fun i _ => n - (intOf i).toNat)
      case atStart => exact ⟨0, Nat.zero_le _, rfl, rfl, World.rowIs_made _ _ _ _, (Below.refl _ _).alloc (Nat.le_refl _) _⟩
      case round =>
        obtain ⟨k, hk, rfl, hok, hrow, hb⟩ := hrel
        have Hok := Lib.hid hok
        have Hrow := Lib.hid hrow
        clear hok hrow
        by_cases hlt : k < n
        · obtain ⟨b, o, rfl, hbB, hcell⟩ := HR.out.open1 HZ.out (by omega)
          obtain ⟨z, hz⟩ : ∃ z, z = xs.getD k 0 := ⟨_, rfl⟩
          have hc1 : wr.cell? ⟨b, o + k, none⟩ = some (.int .i64 z) := (hb.cell (p := ⟨b, o + k, none⟩) (by simp; omega)).trans (by rw [hz]; exact hcell k hlt)
          have hlt' : (k : Int) < (n : Int) := by omega
          have Hs : Hid (okP (pw l - 1) xs (k + 1) = (inB z 0 ((n : Int) - 1) && !hasB (xs.take k) z)) := Lib.hid (by simp only [okP]; rw [Hok.out, ← hz, Hlen.out]; rfl)
          have Hz := Lib.hid hz
          clear hcell hz
          cases hi : inB z 0 ((n : Int) - 1) with
          | false =>
            have Hg : Hid (tblB l xs = false) := Lib.hid (tblB_no (k := k + 1) (by have := HZ.out; omega) (by rw [Hs.out, hi]; rfl))
            go_wp2_with (go_at_call 43; refine (within_any _ _ _ _).mono ?_; rintro e w' ⟨rfl, rfl⟩)
            go_ret
            exact ⟨ret_bool Hg.out.symm, hb⟩
          | true =>
            have hi' := inB_t hi
            obtain ⟨t, rfl⟩ := Int.eq_ofNat_of_zero_le hi'.1
            have ht : t < n := by omega
            have hx1 := Hrow.out.cell ht
            have hx2 := Hrow.out.frozen t
            have ht' : (t : Int) < (n : Int) := by omega
            cases hh : hasB (xs.take k) (t : Int) with
            | true =>
              rw [hh] at hx1
              have Hg : Hid (tblB l xs = false) := Lib.hid (tblB_no (k := k + 1) (by have := HZ.out; omega) (by rw [Hs.out, hi, hh]; rfl))
              go_wp2_with (go_at_call 43; refine (within_any _ _ _ _).mono ?_; rintro e w' ⟨rfl, rfl⟩)
              go_ret
              exact ⟨ret_bool Hg.out.symm, hb⟩
            | false =>
              rw [hh] at hx1
              have Hok1 : Hid (okP (pw l - 1) xs (k + 1) = true) := Lib.hid (by rw [Hs.out, hi, hh]; rfl)
              go_wp2_with (go_at_call 43; refine (within_any _ _ _ _).mono ?_; rintro e w' ⟨rfl, rfl⟩)
              go_roundw
              case rel =>

                have hrow2 : (wr.setCell ⟨w.heap.size, t, none⟩ (.bool true)).rowIs w.heap.size 4 n (fun j => .bool (hasB (xs.take (k + 1)) j)) := (Hrow.out.set t _).congr fun j hj => by
                  rw [hasB_snoc xs k (by have := HZ.out; omega), ← Hz.out]
                  by_cases e : j = t
                  · subst e; simp
                  · rw [if_neg e]
                    have : ((t : Int) == (j : Int)) = false := by simp; omega
                    rw [this, Bool.or_false]
                exact ⟨k + 1, by omega, by go_num, Hok1.out, hrow2, hb.setCell (by simp) _⟩
              case measure => simp [intOf]; omega
        · have hlt' : ¬ (k : Int) < (n : Int) := by omega
          have Hg : Hid (tblB l xs = true) := Lib.hid (tblB_yes HV.out (by rw [HZ.out]; exact Hlen.out) (by have h2 := Hok.out; rwa [show k = xs.length from by have := HZ.out; omega] at h2))
          go_wp2_with fail
          go_ret
          exact ⟨ret_bool Hg.out.symm, hb⟩
    · have Hg := Lib.hid (tblB_len (l := l) (xs := xs) (by rw [hz]; exact hlen))
      have hne : ((n : Int) != pw l) = true := by simp [hlen]
      clear hlen h hz
      go_enter Tryd.func19, Tryd.ntmps19
      go_wp2_with (go_at_call 42; refine (linesOk_any _ _).mono ?_; rintro e w' ⟨rfl, rfl⟩)
      go_ret
      exact ⟨ret_bool Hg.out.symm, Below.refl _ _⟩
end Go.Proofs.YtffkoeobehocjaaDoor
