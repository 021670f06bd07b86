/- Contract of spec.l1Number at every number below 1000. -/
import Derived.Test.YtffkoeobehocjaaDoorTxt
namespace Go.Proofs.YtffkoeobehocjaaDoor
open Go.RowKit
set_option linter.unusedVariables false
set_option linter.unusedSimpArgs false

theorem convB (W : World) (B : Nat) (x : Int) (h0 : 0 ≤ x) (h1 : x ≤ 255) (hc : W.cell? ⟨B, 0, none⟩ = some (.int .u8 x)) : (convert 28 9 (.slice (some ⟨B, 0, none⟩) 1 1)).run Tryd.prog W = .ok (.string ⟨[UInt8.ofNat x.toNat].toArray⟩) W := by
  refine run_convert_bytes_back W 28 9 5 ⟨B, 0, none⟩ 1 [UInt8.ofNat x.toNat] Tryd.underlying28 Tryd.underlying5 Tryd.underlying9 ?_
  intro j hj
  obtain rfl : j = 0 := by simpa using hj
  rw [add_off, Nat.add_zero, hc]
  have e : ((UInt8.ofNat x.toNat).toNat : Int) = x := by
    rw [UInt8.toNat_ofNat']
    omega
  simp only [List.getElem_cons_zero, e]
theorem dec_snoc (n : Nat) (h : 10 ≤ n) : Lib.decDigits n = Lib.decDigits (n / 10) ++ [UInt8.ofNat (48 + n % 10)] := by
  rw [Lib.decDigits, dif_neg (by omega)]

set_option maxHeartbeats 4000000 in
set_option maxRecDepth 50000 in
theorem num_any : ∀ (b n : Nat) (w : World), n < 10 ^ (b + 1) → b ≤ 2 → Calls Tryd.prog 41 #[.int .i64 n] w fun e w' => e = .returned (.string ⟨(Lib.decDigits n).toArray⟩) ∧ Below w.heap.size w w' := by
  intro b
  induction b with
  | zero => intro n w h _; exact num1_any n w (by omega)
  | succ b ih =>
    intro n w h hb
    by_cases h10 : n < 10
    · exact num1_any n w h10
    have hn : n < 1000 := by
      have : 10 ^ (b + 1 + 1) ≤ 10 ^ 3 := Nat.pow_le_pow_right (by omega) (by omega)
      omega
    have IH := Lib.hid (fun W => ih (n / 10) W (by rw [Nat.pow_succ] at h; omega) (by omega))
    have hd := dec_snoc n (by omega)
    have hl := dec_len 3 (n / 10) (by omega)
    obtain ⟨ds, ed⟩ : ∃ ds, ds = Lib.decDigits (n / 10) := ⟨_, rfl⟩
    rw [← ed] at IH hd hl
    have q1 : ((n : Int)).tdiv 10 = ((n / 10 : Nat) : Int) := by rw [Int.tdiv_eq_ediv_of_nonneg (by omega)]; omega
    have q2 : ((n : Int)).tmod 10 = ((n % 10 : Nat) : Int) := by rw [Int.tmod_eq_emod_of_nonneg (by omega)]; omega
    have q3 : (n : Int) / 10 = ((n / 10 : Nat) : Int) := by omega
    have q4 : (n : Int) % 10 = ((n % 10 : Nat) : Int) := by omega
    have g0 : ¬ (n : Int) < 0 := by omega
    have g1 : ¬ (n : Int) < 10 := by omega
    obtain ⟨q, eq⟩ : ∃ q, q = n / 10 := ⟨_, rfl⟩
    obtain ⟨r, er⟩ : ∃ r, r = n % 10 := ⟨_, rfl⟩
    have hr9 : r ≤ 9 := by omega
    rw [← eq] at q1 q3 IH
    rw [← er] at q2 q4 hd
    obtain ⟨x, ex⟩ : ∃ x : Nat, x = 48 + r := ⟨_, rfl⟩
    have hx : 48 + (r : Int) = (x : Int) := by omega
    rw [← ex] at hd
    obtain ⟨c, ec⟩ : ∃ c, c = UInt8.ofNat x := ⟨_, rfl⟩
    rw [← ec] at hd
    have HC := Lib.hid (fun W => conv1 W (x : Int) (by omega) (by omega))
    have HB := Lib.hid (fun W B h => convB W B (x : Int) (by omega) (by omega) h)
    rw [Int.toNat_natCast, ← ec] at HC HB
    have hx8 : x ≤ 57 := by omega
    have hc := HC.out
    have hcd := fun (W : World) => HB.out (W.alloc (.cells #[.int .u8 (x : Int)] 5)).drew W.heap.size ((Blk.new W _ _).cell 0)
    have v1 : IntKind.i64.wrap (q : Int) = (q : Int) := by exact IntWalk.i64_in _ (by omega)
    have v2 : IntKind.i64.wrap (x : Int) = (x : Int) := by exact IntWalk.i64_in _ (by omega)
    have v3 : IntKind.u8.wrap (x : Int) = (x : Int) := by exact IntWalk.u8_in _ (by omega)
    have ha := fun W => add_tx ds [c] (by omega) (by simp) W
    clear ih h hb ed eq er ex ec
    have Hd := Lib.hid hd
    clear hd
    go_enter Tryd.func41, Tryd.ntmps41
    go_wp2_with fail
    go_region_with (go_at_call 41; (with_reducible refine (IH.out _).mono ?_); rintro e w1 ⟨rfl, hb1⟩; (try have hc2 := HB.out w1 w.heap.size ((hb1.cell (p := ⟨w.heap.size, 0, none⟩) (by simp)).trans (by first | (simp; done) | exact (Blk.new _ _ _).cell 0))))
    all_goals (try simp only [List.getElem_toArray, List.getElem_cons_zero, List.getElem_cons_succ, Act.put, List.setIfInBounds_toArray, List.set_cons_zero, List.set_cons_succ])
    all_goals go_wp2_with fail
    all_goals go_ret
    all_goals rw [Hd.out]
    · exact ⟨by first | rfl | simp, (below_drewN (Below.refl _ w) 1).trans (hb1.alloc hb1.size _)⟩
    · exact ⟨by first | rfl | simp, (below_drewN ((Below.refl _ w).alloc (Nat.le_refl _) _) 1).trans (hb1.mono (by simp))⟩
    · exact ⟨by first | rfl | simp, (below_drewN ((Below.refl _ w).alloc (Nat.le_refl _) _) 1).trans (hb1.mono (by simp))⟩
end Go.Proofs.YtffkoeobehocjaaDoor
