/- Contracts of spec.l1Number at small numbers, of spec.l1Kind and spec.GateText. -/
import Derived.Test.YtffkoeobehocjaaDoorShelf
import Derived.Test.YtffkoeobehocjaaDoorGateI
import Derived.Test.YtffkoeobehocjaaDoorSome
import Derived.Test.YtffkoeobehocjaaDoorSl
import Derived.Laws.IdiomStrings
import Derived.Deep.LoopGhost
import Derived.Laws.Concat
namespace Go.Proofs.YtffkoeobehocjaaDoor
open Go.RowKit
set_option linter.unusedVariables false
set_option linter.unusedSimpArgs false

theorem conv1 (W : World) (x : Int) (h0 : 0 ≤ x) (h1 : x ≤ 255) : (convert 28 9 (.slice (some ⟨W.heap.size, 0, none⟩) 1 1)).run Tryd.prog (W.alloc (.cells #[.int .u8 x] 5)) = .ok (.string ⟨[UInt8.ofNat x.toNat].toArray⟩) (W.alloc (.cells #[.int .u8 x] 5)) := by
  refine run_convert_bytes_back (W.alloc (.cells #[.int .u8 x] 5)) 28 9 5 ⟨W.heap.size, 0, none⟩ 1 [UInt8.ofNat x.toNat] Tryd.underlying28 Tryd.underlying5 Tryd.underlying9 ?_
  intro j hj
  obtain rfl : j = 0 := by simpa using hj
  rw [add_off, (Blk.new W 5 #[.int .u8 x]).cell]
  have e : ((UInt8.ofNat x.toNat).toNat : Int) = x := by
    rw [UInt8.toNat_ofNat']
    omega
  simp only [List.getElem_cons_zero, e]
  rfl

set_option maxHeartbeats 1000000 in
set_option maxRecDepth 50000 in
theorem num1_any (n : Nat) (w : World) (h : n < 10) :
    Calls Tryd.prog 41 #[.int .i64 n] w fun e w' => e = .returned (.string ⟨(Lib.decDigits n).toArray⟩) ∧ Below w.heap.size w w' := by
  have hd : Lib.decDigits n = [UInt8.ofNat (48 + n)] := by
    unfold Lib.decDigits
    rw [dif_pos h]
  have h1 : (n : Int) < 10 := by omega
  have hc := conv1 w (48 + (n : Int)) (by omega) (by omega)
  rw [show (48 + (n : Int)).toNat = 48 + n by omega, ← hd] at hc
  obtain ⟨s, es⟩ : ∃ s, s = Lib.decDigits n := ⟨_, rfl⟩
  rw [← es] at hc ⊢
  clear hd es
  go_enter Tryd.func41, Tryd.ntmps41
  go_wp2_with fail
  go_ret
  exact ⟨rfl, (Below.refl _ _).alloc (Nat.le_refl _) _⟩

/-- the name of a kind -/
def kindS (k : Int) : List UInt8 := if k = 0 then [110, 111, 116] else if k = 1 then [99, 111, 112, 121] else if k = 2 then [98, 111, 116, 104] else if k = 3 then [115, 119, 97, 112] else [105, 102]
set_option maxHeartbeats 1000000 in
set_option maxRecDepth 50000 in
theorem l1Kind_any (k : Int) (w : World) (h : k = 0 ∨ k = 1 ∨ k = 2 ∨ k = 3 ∨ k = 4) :
    Calls Tryd.prog 47 #[.int .i64 k] w fun e w' => e = .returned (.string ⟨(kindS k).toArray⟩) ∧ Below w.heap.size w w' := by
  have i0 : inB 0 0 4 = true := rfl
  have i1 : inB 1 0 4 = true := rfl
  have i2 : inB 2 0 4 = true := rfl
  have i3 : inB 3 0 4 = true := rfl
  have i4 : inB 4 0 4 = true := rfl
  rcases h with rfl | rfl | rfl | rfl | rfl
  all_goals
    go_enter Tryd.func47, Tryd.ntmps47
    go_wp2_with (go_at_call 56; refine (l1In_any _ _ _ _).mono ?_; rintro e w' ⟨rfl, rfl⟩)
    go_ret
    exact ⟨rfl, (Below.refl _ _).alloc (Nat.le_refl _) _⟩

theorem add_tx (x y : List UInt8) (hx : x.length ≤ 100000) (hy : y.length ≤ 100000) (W : World) : (Op.stringOp .add ⟨x.toArray⟩ ⟨y.toArray⟩).run Tryd.prog W = .ok (.string ⟨(x ++ y).toArray⟩) W :=
  run_string_add_lists W x y (by omega) (by omega)
theorem dec_len : ∀ (b n : Nat), n < 10 ^ b → (Lib.decDigits n).length ≤ b + 1 := by
  intro b
  induction b with
  | zero =>
    intro n h
    unfold Lib.decDigits
    rw [dif_pos (by omega)]
    simp
  | succ b ih =>
    intro n h
    unfold Lib.decDigits
    split
    · simp
    · rw [List.length_append]
      have := ih (n / 10) (by rw [Nat.pow_succ] at h; omega)
      simp
      omega
/-- the letters behind a kind's name -/
def tailS (zs : List Int) : Nat → List UInt8
  | 0 => []
  | k + 1 => tailS zs k ++ 32 :: Lib.decDigits (zs.getD k 0).toNat
theorem tailS_len (zs : List Int) (k : Nat) (h : ∀ j, j < k → 0 ≤ zs.getD j 0 ∧ zs.getD j 0 ≤ 999) : (tailS zs k).length ≤ 5 * k := by
  induction k with
  | zero => simp [tailS]
  | succ k ih =>
    have h1 := ih fun j hj => h j (by omega)
    have h2 := h k (by omega)
    have h3 := dec_len 3 (zs.getD k 0).toNat (by omega)
    simp only [tailS, List.length_append, List.length_cons]
    omega
theorem kindS_len (k : Int) : (kindS k).length ≤ 4 := by
  unfold kindS
  repeat' split
  all_goals simp
/-- what GateText answers -/
def gateTx (g : Gt) : List UInt8 := if gateB 8 g = true then kindS g.k ++ tailS (linesOf g) (linesOf g).length else []
theorem gateB_fivex {l : Int} {g : Gt} (h : gateB l g = true) : g.k = 0 ∨ g.k = 1 ∨ g.k = 2 ∨ g.k = 3 ∨ g.k = 4 := by
  unfold gateB at h
  simp only [Bool.and_eq_true] at h
  have := inB_t h.1.1.2
  omega
theorem okP_in {m : Int} {xs : List Int} {n k : Nat} (h : okP m xs n = true) (hk : k < n) : 0 ≤ xs.getD k 0 ∧ xs.getD k 0 ≤ m := by
  induction n with
  | zero => omega
  | succ n ih =>
    simp only [okP, Bool.and_eq_true] at h
    by_cases e : k = n
    · subst e
      exact inB_t h.2.1
    · exact ih h.1 (by omega)
theorem gate_lines {g : Gt} (h : gateB 8 g = true) {k : Nat} (hk : k < (linesOf g).length) : 0 ≤ (linesOf g).getD k 0 ∧ (linesOf g).getD k 0 ≤ 7 := by
  unfold gateB at h
  simp only [Bool.and_eq_true] at h
  exact okP_in h.1.2 hk

set_option maxHeartbeats 4000000 in
set_option maxRecDepth 50000 in
theorem specGateText_any (g : Gt) (w : World) :
    Calls Tryd.prog 24 #[g.val] w fun e w' => e = .returned (.string ⟨(gateTx g).toArray⟩) ∧ Below w.heap.size w w' := by
  have HV := Lib.hid (fun W => specGateValid_any 8 g W)
  have hL := fun W => specLinesOf_any g W
  cases hv : gateB 8 g with
  | false =>
    have Hr : Hid (gateTx g = []) := Lib.hid (by unfold gateTx; rw [hv]; rfl)
    rw [hv] at HV
    obtain ⟨k, x, y, z⟩ := g
    unfold Gt.val at *
    dsimp only at *
    clear hv hL
    go_enter Tryd.func24, Tryd.ntmps24
    go_wp2_with fail
    refine (HV.out _).mono ?_
    rintro e w1 ⟨rfl, hb1⟩
    obtain ⟨bx, W1⟩ := box1 hb1
    go_wp2_with fail
    go_ret
    rw [Hr.out]
    exact ⟨rfl, W1⟩
  | true =>
    have Hr : Hid (gateTx g = kindS g.k ++ tailS (linesOf g) (linesOf g).length) := Lib.hid (by unfold gateTx; rw [hv]; rfl)
    have HG := Lib.hid (fun k (hk : k < (linesOf g).length) => gate_lines hv hk)
    have h5 := gateB_fivex hv
    have hl3 := linesOf_len g
    have HK := Lib.hid (fun W => l1Kind_any g.k W h5)
    rw [hv] at HV
    obtain ⟨zs, ez⟩ : ∃ zs, zs = linesOf g := ⟨_, rfl⟩
    rw [← ez] at Hr HG hl3
    have HL : Hid (∀ W, Calls Tryd.prog 48 #[g.val] W fun e w' => RetL zs W e w') := Lib.hid (by rw [ez]; exact hL)
    obtain ⟨k, x, y, z⟩ := g
    unfold Gt.val at *
    dsimp only at *
    obtain ⟨ks, ek⟩ : ∃ ks, ks = kindS k := ⟨_, rfl⟩
    have hkl := kindS_len k
    rw [← ek] at Hr HK hkl
    clear hv hL h5 ez ek
    go_enter Tryd.func24, Tryd.ntmps24
    go_wp2_with fail
    refine (HV.out _).mono ?_
    rintro e w1 ⟨rfl, hb1⟩
    obtain ⟨bx, W1⟩ := box1 hb1
    have q0 : w1.cell? ⟨w.heap.size, 0, none⟩ = some (.int .i64 k) := bx.cell 0
    clear hb1
    go_wp2_with fail
    refine (HK.out _).mono ?_
    rintro e w2 ⟨rfl, hb2⟩
    have W2 := bnext W1 hb2 (Nat.le_refl _)
    replace bx := bx.next hb2
    have q0 : w2.cell? ⟨w.heap.size, 0, none⟩ = some (.int .i64 k) := bx.cell 0
    have q1 : w2.cell? ⟨w.heap.size, 1, none⟩ = some (.int .i64 x) := bx.cell 1
    have q2 : w2.cell? ⟨w.heap.size, 2, none⟩ = some (.int .i64 y) := bx.cell 2
    have q3 : w2.cell? ⟨w.heap.size, 3, none⟩ = some (.int .i64 z) := bx.cell 3
    clear hb2 W1
    go_wp2_with fail
    refine (HL.out _).mono ?_
    rintro e w3 ⟨A3, c3, rfl, hc3, O3, hb3⟩
    have W3 := bnext W2 hb3 (Nat.le_refl _)
    have S3 := Sl.of_own O3
    have RX := Lib.hid (S3.reads (n := zs.length) (size := 1) (by simp) (by omega))
    clear hb3 W2 O3 S3 q0 q1 q2 q3 bx HV HK HL
    go_wp2_with fail
    go_loopg [3, 5] zs.length (fun gh s i wr => ∃ t : Nat, t ≤ zs.length ∧ gh = zs.length - t ∧ i = .int .i64 t ∧ s = .string ⟨(ks ++ tailS zs t).toArray⟩ ∧ Below w3.heap.size w3 wr)
    case atStart => exact ⟨0, Nat.zero_le _, rfl, rfl, by simp [tailS], Below.refl _ _⟩
    case round =>
      obtain ⟨t, ht, hg, rfl, rfl, hb⟩ := hrel
      have Hg := Lib.hid hg
      clear hg
      by_cases hlt : t < zs.length
      · have hlt' : (t : Int) < (zs.length : Int) := by omega
        obtain ⟨b, o, rfl, hbB, hcell⟩ := RX.out.open1 rfl (by omega)
        have hc1 := (hb.cell (p := ⟨b, o + t, none⟩) (by simp; omega)).trans (hcell t hlt)
        have hz := HG.out t hlt
        have hts : tailS zs (t + 1) = tailS zs t ++ 32 :: Lib.decDigits (zs.getD t 0).toNat := rfl
        obtain ⟨v, hv⟩ : ∃ v : Nat, zs.getD t 0 = (v : Int) := ⟨(zs.getD t 0).toNat, by omega⟩
        rw [hv] at hc1 hz hts
        have CN := Lib.hid (fun W => num1_any v W (by omega))
        rw [Int.toNat_natCast] at hts
        obtain ⟨ds, ed⟩ : ∃ ds, ds = Lib.decDigits v := ⟨_, rfl⟩
        rw [← ed] at CN hts
        have Hts := Lib.hid hts
        obtain ⟨ts, ets⟩ : ∃ ts, ts = ks ++ tailS zs t := ⟨_, rfl⟩
        rw [← ets]
        have Ets := Lib.hid ets
        have hl1 : ts.length ≤ 30 := by
          have := tailS_len zs t (fun j hj => by have := HG.out j (by omega); omega)
          rw [ets, List.length_append]
          omega
        have hl2 : ds.length ≤ 4 := by rw [ed]; exact dec_len 3 v (by omega)
        have ha1 := add_tx ts [32] (by omega) (by simp)
        have ha2 := add_tx (ts ++ [32]) ds (by simp; omega) (by omega)
        have HL12 := Lib.hid (And.intro hl1 hl2)
        clear hcell hts hv ed ets hl1 hl2
        go_wp2_with fail
        refine (CN.out _).mono ?_
        rintro e w4 ⟨rfl, hb4⟩
        go_wp2_with fail
        go_roundg (zs.length - (t + 1))
        case measure => have := Hg.out; omega
        case rel => exact ⟨t + 1, by omega, rfl, by go_num, by rw [Hts.out, Ets.out]; simp, bnext hb hb4 (Nat.le_refl _)⟩
      · have hlt' : ¬ (t : Int) < (zs.length : Int) := by omega
        obtain rfl : t = zs.length := by omega
        go_wp2_with fail
        go_ret
        rw [Hr.out]
        exact ⟨rfl, bnext W3 hb (Nat.le_refl _)⟩
end Go.Proofs.YtffkoeobehocjaaDoor
