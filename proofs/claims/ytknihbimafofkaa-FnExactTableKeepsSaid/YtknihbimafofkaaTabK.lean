/- Contracts of both TableKeeps. -/
import Derived.Test.YtknihbimafofkaaTabT
import Derived.Deep.LoopGhost
namespace Go.Proofs.Ytknihbimafofkaa
open Go.RowKit
set_option linter.unusedVariables false

/-- the words of the first k places have the weights of their places -/
def keepP (l : Int) (xs : List Int) : Nat → Bool
  | 0 => true
  | k + 1 => keepP l xs k && (weight l k == weight l (xs.getD k 0))
theorem keepP_le {l : Int} {xs : List Int} {k n : Nat} (h : k ≤ n) (h' : keepP l xs k = false) : keepP l xs n = false := by
  induction n with
  | zero => obtain rfl : k = 0 := by omega
            exact h'
  | succ n ih =>
    by_cases e : k = n + 1
    · subst e; exact h'
    · simp [keepP, ih (by omega)]
/-- what TableKeeps answers -/
def tblKeeps (l : Int) (xs : List Int) : Bool := tblB l xs && keepP l xs xs.length
theorem tblKeeps_n {l : Int} {xs : List Int} (h : tblB l xs = false) : tblKeeps l xs = false := by unfold tblKeeps; rw [h]; rfl
theorem tblKeeps_p {l : Int} {xs : List Int} {k : Nat} (hk : k ≤ xs.length) (h : keepP l xs k = false) : tblKeeps l xs = false := by unfold tblKeeps; rw [keepP_le hk h, Bool.and_false]

set_option maxHeartbeats 1000000 in
theorem implTableKeeps_any (l : Int) (A : Option Addr) (n c B : Nat) (xs : List Int) (w : World) (h : Reads w B 1 A n (xs.map (Value.int .i64))) (hB : B ≤ w.heap.size) (hz : xs.length = n) (hc : n ≤ c) (hn : n ≤ 1048576) :
    Calls Try.prog 32 #[.int .i64 l, .slice A n c] w fun e w' => e = .returned (.bool (tblKeeps l xs)) ∧ Below w.heap.size w w' := by
  have HT := Lib.hid (implTableValid_any l A n c B xs w h hB hz hc (by omega))
  have HR := Lib.hid h
  have HZ := Lib.hid hz
  clear h hz
  go_enter Try.func32, Try.ntmps32
  go_wp2_with fail
  go_loopg [9] n (fun gh i wr => ∃ k : Nat, k ≤ n ∧ gh = n - k ∧ i = .int .i64 k ∧ keepP l xs k = true ∧ wr = w)
  case atStart => exact ⟨0, Nat.zero_le _, rfl, rfl, rfl, rfl⟩
  case round =>
    obtain ⟨k, hk, hg, rfl, hkp, rfl⟩ := hrel
    have Hg := Lib.hid hg
    have Hkp := Lib.hid hkp
    clear hg hkp
    by_cases hlt : k < n
    · have hlt' : (k : Int) < (n : Int) := by omega
      obtain ⟨b, o, rfl, hbB, hcell⟩ := HR.out.open1 HZ.out (by omega)
      have hc1 := hcell k hlt
      obtain ⟨z, hz⟩ : ∃ z, z = xs.getD k 0 := ⟨_, rfl⟩
      rw [← hz] at hc1
      have Hs : Hid (keepP l xs (k + 1) = (weight l k == weight l z)) := Lib.hid (by simp only [keepP]; rw [Hkp.out, ← hz]; rfl)
      obtain ⟨p, hp⟩ : ∃ p, p = weight l (k : Int) := ⟨_, rfl⟩
      obtain ⟨q, hq⟩ : ∃ q, q = weight l z := ⟨_, rfl⟩
      have Hi1 := Lib.hid (fun W => by have := implWeight_any l (k : Int) W; rw [← hp] at this; exact this)
      have Hi2 := Lib.hid (fun W => by have := implWeight_any l z W; rw [← hq] at this; exact this)
      rw [← hp, ← hq] at Hs
      clear hcell hz hp hq
      by_cases e : p = q
      · have e1 : (p != q) = false := by simp [e]
        have Hs2 : Hid (keepP l xs (k + 1) = true) := Lib.hid (by rw [Hs.out, e]; simp)
        clear e
        go_wp2_with fail
        refine (Hi1.out _).mono ?_
        rintro e w' ⟨rfl, rfl⟩
        go_wp2_with fail
        refine (Hi2.out _).mono ?_
        rintro e w' ⟨rfl, rfl⟩
        go_wp2_with fail
        go_roundg (n - (k + 1))
        case measure => have := Hg.out; omega
        case rel => exact ⟨k + 1, by omega, rfl, by go_num, Hs2.out, rfl⟩
      · have e1 : (p != q) = true := by simp [e]
        have Hs2 : Hid (tblKeeps l xs = false) := Lib.hid (tblKeeps_p (k := k + 1) (by have := HZ.out; omega) (by rw [Hs.out]; simpa using e))
        clear e
        go_wp2_with fail
        refine (Hi1.out _).mono ?_
        rintro e w' ⟨rfl, rfl⟩
        go_wp2_with fail
        refine (Hi2.out _).mono ?_
        rintro e w' ⟨rfl, rfl⟩
        go_wp2_with fail
        go_ret
        exact ⟨ret_bool Hs2.out.symm, Below.refl _ _⟩
    · have hlt' : ¬ (k : Int) < (n : Int) := by omega
      have Hr : Hid (tblKeeps l xs = tblB l xs) := Lib.hid (by unfold tblKeeps; have := Hkp.out; rw [show k = xs.length from by have := HZ.out; omega] at this; rw [this, Bool.and_true])
      go_wp2_with fail
      refine HT.out.mono ?_
      rintro e w1 ⟨rfl, hb1⟩
      go_wp2_with fail
      go_ret
      exact ⟨ret_bool Hr.out.symm, hb1⟩

set_option maxHeartbeats 1000000 in
theorem specTableKeeps_any (l : Int) (A : Option Addr) (n c B : Nat) (xs : List Int) (w : World) (h : Reads w B 1 A n (xs.map (Value.int .i64))) (hB : B ≤ w.heap.size) (hz : xs.length = n) (hc : n ≤ c) (hn : n ≤ 1048576) :
    Calls Try.prog 31 #[.int .i64 l, .slice A n c] w fun e w' => e = .returned (.bool (tblKeeps l xs)) ∧ Below w.heap.size w w' := by
  have HT := Lib.hid (fun W (hb : Below w.heap.size w W) => Calls.drewBelow (specTableValid_any l A n c B xs W (h.next hb hB) hz hc (by omega)))
  by_cases h0 : n = 0
  · subst h0
    have Hr : Hid (tblKeeps l xs = tblB l xs) := Lib.hid (by unfold tblKeeps; rw [hz]; simp [keepP])
    clear h hz
    go_enter Try.func31, Try.ntmps31
    go_wp2_with fail
    refine wp_loop_rounds 1 ?_
    rw [rounds_succ]
    go_wp2_with fail
    refine (HT.out _ (Below.refl _ _)).mono ?_
    rintro e w1 ⟨rfl, hb1⟩
    go_wp2_with fail
    go_ret
    exact ⟨ret_bool Hr.out.symm, hb1⟩
  · cases hv : tblB l xs with
    | false =>
      have Hr := Lib.hid (tblKeeps_n hv)
      rw [hv] at HT
      have hn0 : (0 : Int) < (n : Int) := by omega
      clear hv h hz h0
      go_enter Try.func31, Try.ntmps31
      go_wp2_with fail
      refine wp_loop_rounds 1 ?_
      rw [rounds_succ]
      go_wp2_with fail
      refine (HT.out _ (Below.refl _ _)).mono ?_
      rintro e w1 ⟨rfl, hb1⟩
      go_wp2_with fail
      refine (HT.out _ hb1).mono ?_
      rintro e w2 ⟨rfl, hb2⟩
      go_wp2_with fail
      go_ret
      exact ⟨ret_bool Hr.out.symm, bnext hb1 hb2 (Nat.le_refl _)⟩
    | true =>
      have HR := Lib.hid h
      have HZ := Lib.hid hz
      rw [hv] at HT
      have HV := Lib.hid hv
      clear h hz hv h0
      go_enter Try.func31, Try.ntmps31
      go_wp2_with fail
      go_loopg [5] n (fun gh i wr => ∃ k : Nat, k ≤ n ∧ gh = n - k ∧ i = .int .i64 k ∧ keepP l xs k = true ∧ Below w.heap.size w wr)
      case atStart => exact ⟨0, Nat.zero_le _, rfl, rfl, rfl, Below.refl _ _⟩
      case round =>
        obtain ⟨k, hk, hg, rfl, hkp, hb⟩ := hrel
        have Hg := Lib.hid hg
        have Hkp := Lib.hid hkp
        clear hg hkp
        by_cases hlt : k < n
        · have hlt' : (k : Int) < (n : Int) := by omega
          obtain ⟨b, o, rfl, hbB, hcell⟩ := HR.out.open1 HZ.out (by omega)
          obtain ⟨z, hz⟩ : ∃ z, z = xs.getD k 0 := ⟨_, rfl⟩
          have Hs : Hid (keepP l xs (k + 1) = (weight l k == weight l z)) := Lib.hid (by simp only [keepP]; rw [Hkp.out, ← hz]; rfl)
          have Hck := Lib.hid (by have := hcell k hlt; rwa [← hz] at this)
          clear hcell hz
          go_wp2_with fail
          refine (HT.out _ hb).mono ?_
          rintro e w1 ⟨rfl, hb1⟩
          have hb' := bnext hb hb1 (Nat.le_refl _)
          have hc1 : w1.cell? ⟨b, o + k, none⟩ = some (.int .i64 z) := (hb'.cell (p := ⟨b, o + k, none⟩) (by simp; omega)).trans Hck.out
          by_cases e : weight l (k : Int) = weight l z
          · have e1 : (weight l (k : Int) != weight l z) = false := by simp [e]
            have Hs2 : Hid (keepP l xs (k + 1) = true) := Lib.hid (by rw [Hs.out, e]; simp)
            clear e
            go_wp2_with fail
            go_quiet ((go_at_call 48; first | exact quiet_add_left (specWeight_any _ _ _) | exact quiet_left (specWeight_any _ _ _)))
            go_wp2_with fail
            go_roundg (n - (k + 1))
            case measure => have := Hg.out; omega
            case rel => exact ⟨k + 1, by omega, rfl, by go_num, Hs2.out, below_drewN hb' _⟩
          · have e1 : (weight l (k : Int) != weight l z) = true := by simp [e]
            have Hs2 : Hid (tblKeeps l xs = false) := Lib.hid (tblKeeps_p (k := k + 1) (by have := HZ.out; omega) (by rw [Hs.out]; simpa using e))
            clear e
            go_wp2_with fail
            go_quiet ((go_at_call 48; first | exact quiet_add_left (specWeight_any _ _ _) | exact quiet_left (specWeight_any _ _ _)))
            go_wp2_with fail
            go_ret
            exact ⟨ret_bool Hs2.out.symm, below_drewN hb' _⟩
        · have hlt' : ¬ (k : Int) < (n : Int) := by omega
          have Hr : Hid (tblKeeps l xs = true) := Lib.hid (by unfold tblKeeps; have := Hkp.out; rw [show k = xs.length from by have := HZ.out; omega] at this; rw [this, Bool.and_true, HV.out])
          go_wp2_with fail
          refine (HT.out _ hb).mono ?_
          rintro e w1 ⟨rfl, hb1⟩
          go_wp2_with fail
          go_ret
          exact ⟨ret_bool Hr.out.symm, bnext hb hb1 (Nat.le_refl _)⟩
end Go.Proofs.Ytknihbimafofkaa
