/- Contracts of spec.TableText, impl.joined and impl.TableText. -/
import Derived.Test.YtffkoeobehocjaaDoorNumT
import Derived.Test.YtffkoeobehocjaaDoorTxtI
import Derived.Test.YtffkoeobehocjaaDoorTabA
namespace Go.Proofs.YtffkoeobehocjaaDoor
open Go.RowKit
set_option linter.unusedVariables false
set_option linter.unusedSimpArgs false

/-- what TableText answers -/
def tabTx (l : Int) (xs : List Int) : List UInt8 := if tblB l xs = true then Lib.decDigits (xs.getD 0 0).toNat ++ tailS xs.tail xs.tail.length else []
theorem tail_getD (xs : List Int) (r : Nat) : xs.tail.getD r 0 = xs.getD (r + 1) 0 := by
  cases xs with
  | nil => simp
  | cons a l => simp

set_option maxHeartbeats 4000000 in
set_option maxRecDepth 50000 in
theorem specTableText_any (l : Int) (A : Option Addr) (n c B : Nat) (xs : List Int) (w : World) (h : Reads w B 1 A n (xs.map (Value.int .i64))) (hB : B ≤ w.heap.size) (hz : xs.length = n) (hc : n ≤ c) (hn : n ≤ 1048576) :
    Calls Tryd.prog 18 #[.int .i64 l, .slice A n c] w fun e w' => e = .returned (.string ⟨(tabTx l xs).toArray⟩) ∧ Below w.heap.size w w' := by
  have HV := Lib.hid (Calls.drewBelow (specTableValid_any l A n c B xs w h hz hc (by omega)))
  cases hv : tblB l xs with
  | false =>
    have Hr : Hid (tabTx l xs = []) := Lib.hid (by unfold tabTx; rw [hv]; rfl)
    rw [hv] at HV
    clear hv h hz
    go_enter Tryd.func18, Tryd.ntmps18
    go_wp2_with fail
    refine HV.out.mono ?_
    rintro e w1 ⟨rfl, W1⟩
    go_wp2_with fail
    go_ret
    rw [Hr.out]
    exact ⟨rfl, W1⟩
  | true =>
    obtain ⟨hl2, hl256, hent⟩ := tblB_bd hv
    have Hr : Hid (tabTx l xs = Lib.decDigits (xs.getD 0 0).toNat ++ tailS xs.tail (n - 1)) := Lib.hid (by unfold tabTx; rw [hv, ← hz]; simp)
    have HE : Hid (∀ k, k < n → 0 ≤ xs.getD k 0 ∧ xs.getD k 0 < (n : Int)) := Lib.hid (fun k hk => by have := hent k (by omega); omega)
    rw [hv] at HV
    have hx0 := HE.out 0 (by omega)
    obtain ⟨v0, hv0⟩ : ∃ v : Nat, xs.getD 0 0 = (v : Int) := ⟨(xs.getD 0 0).toNat, by omega⟩
    have HR := Lib.hid h
    have HZ := Lib.hid hz
    rw [hz] at hl2 hl256
    have C0 := Lib.hid (fun W => num_any 2 v0 W (by have : 10 ^ (2 + 1) = 1000 := rfl; omega) (by omega))
    rw [hv0, Int.toNat_natCast] at Hr
    have hd0 := dec_len 3 v0 (by omega)
    obtain ⟨ks, ek⟩ : ∃ ks, ks = Lib.decDigits v0 := ⟨_, rfl⟩
    rw [← ek] at C0 Hr hd0
    clear hv h hz hent ek
    go_enter Tryd.func18, Tryd.ntmps18
    go_wp2_with fail
    refine HV.out.mono ?_
    rintro e w1 ⟨rfl, W1⟩
    have R1 := HR.out.next W1 hB
    obtain ⟨b, o, rfl, hbB, hcell⟩ := R1.open1 HZ.out (by omega)
    have hc0 := hcell 0 (by omega)
    rw [hv0, Nat.add_zero] at hc0
    clear hcell hv0 hx0
    go_wp2_with fail
    refine (C0.out _).mono ?_
    rintro e w2 ⟨rfl, hb2⟩
    have W2 := bnext W1 hb2 (Nat.le_refl _)
    have RX := Lib.hid (R1.next hb2 (by have := W1.size; omega))
    have hz2 := W2.size
    clear hc0 R1 HV HR hb2 W1
    go_wp2_with fail
    go_loopg [5, 6] (n - 1) (fun gh s i wr => ∃ t : Nat, t + 1 ≤ n ∧ gh = n - 1 - t ∧ i = .int .i64 ((t + 1 : Nat) : Int) ∧ s = .string ⟨(ks ++ tailS xs.tail t).toArray⟩ ∧ Below w2.heap.size w2 wr)
    case atStart => exact ⟨0, by omega, rfl, rfl, by simp [tailS], Below.refl _ _⟩
    case round =>
      obtain ⟨t, ht, hg, rfl, rfl, hb⟩ := hrel
      have Hg := Lib.hid hg
      clear hg
      obtain ⟨i, ei⟩ : ∃ i, i = t + 1 := ⟨_, rfl⟩
      rw [← ei]
      by_cases hlt : i < n
      · have hlt' : (i : Int) < (n : Int) := by omega
        obtain ⟨b, o, e0, hbB, hcell⟩ := RX.out.open1 HZ.out (by omega)
        cases e0
        have hc1 := (hb.cell (p := ⟨b, o + i, none⟩) (by simp; omega)).trans (hcell i hlt)
        have hz := HE.out i hlt
        have hts : tailS xs.tail (t + 1) = tailS xs.tail t ++ 32 :: Lib.decDigits (xs.tail.getD t 0).toNat := rfl
        rw [tail_getD, ← ei] at hts
        obtain ⟨v, hv⟩ : ∃ v : Nat, xs.getD i 0 = (v : Int) := ⟨(xs.getD i 0).toNat, by omega⟩
        rw [hv] at hc1 hz hts
        have hv9 : v < 1000 := by omega
        have CN := Lib.hid (fun W => num_any 2 v W (by have : 10 ^ (2 + 1) = 1000 := rfl; omega) (by omega))
        rw [Int.toNat_natCast] at hts
        have hl2' : (Lib.decDigits v).length ≤ 4 := dec_len 3 v (by omega)
        obtain ⟨ds, ed⟩ : ∃ ds, ds = Lib.decDigits v := ⟨_, rfl⟩
        rw [← ed] at CN hts hl2'
        have Hts := Lib.hid hts
        have hl1 : (ks ++ tailS xs.tail t).length ≤ 2000 := by
          have := tailS_len xs.tail t (fun j hj => by rw [tail_getD]; have := HE.out (j + 1) (by omega); have := HZ.out; omega)
          rw [List.length_append]
          omega
        obtain ⟨ts, ets⟩ : ∃ ts, ts = ks ++ tailS xs.tail t := ⟨_, rfl⟩
        rw [← ets] at hl1 ⊢
        have Ets := Lib.hid ets
        have ha1 := add_tx ts [32] (by omega) (by simp)
        have ha2 := add_tx (ts ++ [32]) ds (by simp; omega) (by omega)
        have Ei := Lib.hid ei
        clear hcell hts hv ed ets hl1 hl2' ei hz hv9
        go_wp2_with fail
        refine (CN.out _).mono ?_
        rintro e w4 ⟨rfl, hb4⟩
        go_wp2_with fail
        go_roundg (n - 1 - i)
        case measure => have := Hg.out; have := Ei.out; omega
        case rel => exact ⟨i, by omega, rfl, by go_num, by rw [Hts.out, Ets.out]; simp, bnext hb hb4 (Nat.le_refl _)⟩
      · have hlt' : ¬ (i : Int) < (n : Int) := by omega
        obtain rfl : t = n - 1 := by omega
        clear ei
        go_wp2_with fail
        go_ret
        rw [Hr.out]
        exact ⟨rfl, bnext W2 hb (Nat.le_refl _)⟩
end Go.Proofs.YtffkoeobehocjaaDoor
