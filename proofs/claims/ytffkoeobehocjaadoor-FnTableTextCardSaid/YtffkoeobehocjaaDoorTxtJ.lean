/- Contracts of impl.joined (over small numbers, a blank between) and of impl.TableText. -/
import Derived.Test.YtffkoeobehocjaaDoorTxtT
import Derived.Lib.AppendIntMem
namespace Go.Proofs.YtffkoeobehocjaaDoor
open Go.RowKit
set_option linter.unusedVariables false
set_option linter.unusedSimpArgs false

/-- strconv's table, and it stays so whatever the call does at its own blocks -/
abbrev Tab10 (w : World) : Prop := Lib.TabIs Tryd.prog w "internal/strconv.uint64pow10" .u64 Lib.pow10Tab
theorem Tab10.on {w w' : World} (h : Tab10 w) (hb : Below w.heap.size w w') : Tab10 w' := Lib.tabBelow_of_tabIs h w' hb
theorem itoa_any (v : Nat) (hv : v < 1000) (w : World) (ht : Tab10 w) : Calls Tryd.prog 51 #[.int .i64 v] w fun e w' => e = .returned (.string ⟨(Lib.decDigits v).toArray⟩) ∧ Below w.heap.size w w' := by
  refine (Tryd.strconv_Itoa v (by omega) (by omega) w ht).mono ?_
  rintro e w' ⟨rfl, k, os, rfl⟩
  refine ⟨?_, Lib.below_grow _ _ (Nat.le_refl _) _ _⟩
  unfold Lib.itoa
  rw [if_neg (by omega), Int.toNat_natCast]
theorem mk_capS (n : Nat) (hn : n ≤ 1048576) (W : World) : (Instr.makeSlice 48 (.int .i64 0) (.int .i64 (n : Int))).run Tryd.prog W = .ok (.slice (some ⟨W.heap.size, 0, none⟩) 0 n) (W.alloc (.cells (madeCells #[.string ⟨#[]⟩] n) 9)) := by
  obtain ⟨ii, hi, hz0, hz1, hz2⟩ := info_parts infoStr
  have hr := run_make (P := Tryd.prog) W 48 9 ii (.string ⟨#[]⟩) Tryd.underlying48 hi hz0 .i64 .i64 0 n (by omega) (by omega) (by rw [hz2]; omega) (by omega)
  simp only [Int.toNat_zero, Int.toNat_natCast, hz1, Nat.mul_one] at hr
  exact hr
/-- the words of the first t numbers -/
def wl (xs : List Int) (t : Nat) : List (List UInt8) := (xs.take t).map fun z => Lib.decDigits z.toNat
theorem wl_succ (xs : List Int) {t : Nat} (h : t < xs.length) : wl xs (t + 1) = wl xs t ++ [Lib.decDigits (xs.getD t 0).toNat] := by
  unfold wl
  rw [List.take_succ_eq_append_getElem h, List.map_append]
  simp [List.getD_eq_getElem?_getD, List.getElem?_eq_getElem h]
theorem wl_len (xs : List Int) {t : Nat} (h : t ≤ xs.length) : (wl xs t).length = t := by
  unfold wl
  simp
  omega
theorem wl_join (xs : List Int) (h : 1 ≤ xs.length) : Lib.join (wl xs xs.length) [32] = Lib.decDigits (xs.getD 0 0).toNat ++ tailS xs.tail xs.tail.length := by
  cases xs with
  | nil => simp at h
  | cons a l =>
    rw [List.tail_cons, ← words_join]
    unfold wl wordsL
    simp
theorem WRel.call {w2 wr w' : World} {lo hi n : Nat} {A : Option Addr} {cs : List Value} {ws : List (List UInt8)} {v : Value} (h : WRel w2 lo hi A cs ws n v wr) (hb : Below wr.heap.size wr w') : WRel w2 lo hi A cs ws n v w' :=
  ⟨h.len, own_next h.own hb, h.out, h.sl.next hb, bnext h.below hb (Nat.le_refl _)⟩

set_option maxHeartbeats 4000000 in
set_option maxRecDepth 50000 in
theorem joined_any (A : Option Addr) (n c B : Nat) (xs : List Int) (w : World) (h : Reads w B 1 A n (xs.map (Value.int .i64))) (hB : B ≤ w.heap.size) (hz : xs.length = n) (hc : n ≤ c) (h1 : 1 ≤ n) (hn : n ≤ 256)
    (hent : ∀ k, k < n → 0 ≤ xs.getD k 0 ∧ xs.getD k 0 < (n : Int)) (ht : Tab10 w) :
    Calls Tryd.prog 39 #[.slice A n c, .string ⟨#[32]⟩] w fun e w' => e = .returned (.string ⟨(Lib.decDigits (xs.getD 0 0).toNat ++ tailS xs.tail xs.tail.length).toArray⟩) ∧ Below w.heap.size w w' := by
  have hjl : (Lib.join (wl xs n) [32]).length ≤ 100000 := by
    rw [← hz, wl_join xs (by omega), List.length_append]
    have a1 := dec_len 3 (xs.getD 0 0).toNat (by have := hent 0 (by omega); omega)
    have a2 := tailS_len xs.tail xs.tail.length (fun j hj => by rw [tail_getD]; rw [List.length_tail] at hj; have := hent (j + 1) (by omega); omega)
    rw [List.length_tail] at a2 ⊢
    omega
  have hj := wl_join xs (by omega)
  rw [hz] at hj
  obtain ⟨R, eR⟩ : ∃ R, R = Lib.decDigits (xs.getD 0 0).toNat ++ tailS xs.tail xs.tail.length := ⟨_, rfl⟩
  rw [← eR] at hj ⊢
  have HJ := Lib.hid (And.intro hj hjl)
  have HE := Lib.hid hent
  have HT := Lib.hid ht
  have HR := Lib.hid h
  have HZ := Lib.hid hz
  have hmk := mk_capS n (by omega) w
  have hmd := World.ownsRow_made (base := w.heap.size) (e := 9) (size := 1) w (madeCells #[.string ⟨#[]⟩] n) n (by omega) (by unfold maxLen; omega) (by simp [size_madeCells])
  have R0 : WRel w 0 0 none [] (wl xs 0) 0 _ (w.alloc (.cells (madeCells #[.string ⟨#[]⟩] n) 9)) := ⟨by simp [wl], by simpa [wl, wcells] using hmd, fun q _ => .inr (Nat.zero_le _), ⟨Nat.zero_le _, fun h => by simp at h⟩, (Below.refl _ _).alloc (Nat.le_refl _) _⟩
  obtain ⟨ii, hi, hz0, hz1, hz2⟩ := info_parts infoStr
  clear hj hjl hent ht h hz eR hmd
  go_enter Tryd.func39, Tryd.ntmps39
  go_wp2_with fail
  go_loopg [5, 13] n (fun gh v i wr => ∃ t : Nat, t ≤ n ∧ gh = n - t ∧ i = .int .i64 t ∧ WRel w 0 0 none [] (wl xs t) t v wr)
  case atStart => exact ⟨0, Nat.zero_le _, rfl, rfl, R0⟩
  case round =>
    obtain ⟨t, ht, hg, rfl, hR⟩ := hrel
    have Hg := Lib.hid hg
    clear hg R0 hmk
    by_cases hlt : t < n
    · have hlt' : (t : Int) < (n : Int) := by omega
      have RX := Lib.hid (HR.out.next hR.below hB)
      obtain ⟨b, o, rfl, hbB, hcell⟩ := RX.out.open1 HZ.out (by omega)
      have hc1 := hcell t hlt
      have hz := HE.out t hlt
      have hws := wl_succ xs (t := t) (by have := HZ.out; omega)
      obtain ⟨x, hv⟩ : ∃ x : Nat, xs.getD t 0 = (x : Int) := ⟨(xs.getD t 0).toNat, by omega⟩
      rw [hv] at hc1 hz hws
      have CN := Lib.hid (fun W hW => itoa_any x (by omega) W hW)
      rw [Int.toNat_natCast] at hws
      have hT := Lib.hid (HT.out.on hR.below)
      obtain ⟨ds, ed⟩ : ∃ ds, ds = Lib.decDigits x := ⟨_, rfl⟩
      rw [← ed] at CN hws
      clear hcell hv RX hz ed
      go_wp2_with fail
      refine (CN.out _ hT.out).mono ?_
      rintro e w4 ⟨rfl, hb4⟩
      have hR4 := hR.call hb4
      have hown := Lib.hid hR4.own
      have hsz := hR4.below.size
      clear hR hc1 hb4 hT
      go_wp2_with (at_builtin; refine wpList_append_own_at _ rfl _ _ 48 rfl w.heap.size 9 ii (.string ⟨#[]⟩) 1 16 Tryd.underlying48 hi hz0 hz1 hz2 rfl (by decide) _ _ _ rfl (hown.out.alloc _) ⟨w4.heap.size, 0, none⟩ 1 1 [.string ⟨ds.toArray⟩] rfl rfl (cell_one_new _ _ _) (by simp [Value.oneCell']) (by unfold maxLen; omega) (by omega) (by simp; omega) ?_; intro v' w5 hown' hgrow _ hat)
      have hR' := hR4.next _ _ hown' hgrow hat
      rw [← hws] at hR'
      clear hR4 hown' hgrow hat
      go_wp2_with fail
      go_roundg (n - (t + 1))
      case measure => have := Hg.out; omega
      case rel => exact ⟨t + 1, by omega, rfl, by go_num, hR'⟩
    · have hlt' : ¬ (t : Int) < (n : Int) := by omega
      obtain rfl : t = n := by omega
      obtain ⟨m, em⟩ : ∃ m, t = m + 1 := ⟨t - 1, by omega⟩
      have hR2 := hR
      rw [em] at hR2
      obtain ⟨g, cg, rfl, hgl, hcap, hcells⟩ := hR2.opens
      rw [← em] at hcap hcells ⊢
      have hlen := hR.len
      have hbl2 := hR.below
      have CJ := Lib.hid (joinWords _ g cg _ wr hlen hcells hgl hcap (by omega) HJ.out.2)
      rw [HJ.out.1] at CJ
      clear hR hR2 hcells hlen em
      go_wp2_with fail
      refine CJ.out.mono ?_
      rintro e w4 ⟨rfl, hb4⟩
      have W4 := bnext hbl2 hb4 (Nat.le_refl _)
      go_wp2_with fail
      go_ret
      exact ⟨rfl, W4⟩

set_option maxHeartbeats 4000000 in
set_option maxRecDepth 50000 in
theorem implTableText_any (l : Int) (A : Option Addr) (n c B : Nat) (xs : List Int) (w : World) (h : Reads w B 1 A n (xs.map (Value.int .i64))) (hB : B ≤ w.heap.size) (hz : xs.length = n) (hc : n ≤ c) (hn : n ≤ 1048576) (ht : Tab10 w) :
    Calls Tryd.prog 17 #[.int .i64 l, .slice A n c] w fun e w' => e = .returned (.string ⟨(tabTx l xs).toArray⟩) ∧ Below w.heap.size w w' := by
  have HV := Lib.hid (implTableValid_any l A n c B xs w h hB hz hc (by omega))
  cases hv : tblB l xs with
  | false =>
    have Hr : Hid (tabTx l xs = []) := Lib.hid (by unfold tabTx; rw [hv]; rfl)
    rw [hv] at HV
    clear hv h hz
    go_enter Tryd.func17, Tryd.ntmps17
    go_wp2_with fail
    refine HV.out.mono ?_
    rintro e w1 ⟨rfl, W1⟩
    go_wp2_with fail
    go_ret
    rw [Hr.out]
    exact ⟨rfl, W1⟩
  | true =>
    obtain ⟨hl2, hl256, hent⟩ := tblB_bd hv
    have Hr : Hid (tabTx l xs = Lib.decDigits (xs.getD 0 0).toNat ++ tailS xs.tail xs.tail.length) := Lib.hid (by unfold tabTx; rw [hv]; rfl)
    rw [hv] at HV
    rw [hz] at hl2 hl256 hent
    have HR := Lib.hid h
    have HZ := Lib.hid hz
    have HE := Lib.hid hent
    have HT := Lib.hid ht
    obtain ⟨R, eR⟩ : ∃ R, R = Lib.decDigits (xs.getD 0 0).toNat ++ tailS xs.tail xs.tail.length := ⟨_, rfl⟩
    rw [← eR] at Hr
    have ER := Lib.hid eR
    clear hv h hz hent ht eR
    go_enter Tryd.func17, Tryd.ntmps17
    go_wp2_with fail
    refine HV.out.mono ?_
    rintro e w1 ⟨rfl, W1⟩
    have R1 := HR.out.next W1 hB
    have CJ := Lib.hid (joined_any A n c B xs w1 R1 (by have := W1.size; omega) HZ.out hc (by omega) (by omega) HE.out (HT.out.on W1))
    rw [← ER.out] at CJ
    clear R1
    go_wp2_with fail
    refine CJ.out.mono ?_
    rintro e w2 ⟨rfl, hb2⟩
    have W2 := bnext W1 hb2 (Nat.le_refl _)
    go_wp2_with fail
    go_ret
    rw [Hr.out]
    exact ⟨rfl, W2⟩
end Go.Proofs.YtffkoeobehocjaaDoor
