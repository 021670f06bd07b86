/- Contract of impl.joined at whatever numbers, a blank between. -/
import Derived.Test.YtffkoeobehocjaaDoorTdP
import Derived.Lib.ItoaLen
namespace Go.Proofs.YtffkoeobehocjaaDoor
open Go.RowKit
set_option linter.unusedVariables false
set_option linter.unusedSimpArgs false

/-- the numerals of the first t numbers -/
def wi (xs : List Int) (t : Nat) : List (List UInt8) := (xs.take t).map Lib.itoa
theorem wi_succ (xs : List Int) {t : Nat} (h : t < xs.length) : wi xs (t + 1) = wi xs t ++ [Lib.itoa (xs.getD t 0)] := by
  unfold wi
  rw [List.take_succ_eq_append_getElem h, List.map_append]
  simp [List.getD_eq_getElem?_getD, List.getElem?_eq_getElem h]
theorem joinTail_len (r : List (List UInt8)) (h : ∀ x ∈ r, x.length ≤ 21) : (Lib.joinTail [32] r).length ≤ 22 * r.length := by
  induction r with
  | nil => simp [Lib.joinTail]
  | cons a r ih =>
    have h1 := h a (by simp)
    have h2 := ih fun x hx => h x (by simp [hx])
    have e : Lib.joinTail [32] (a :: r) = [32] ++ a ++ Lib.joinTail [32] r := by simp [Lib.joinTail]
    rw [e, List.length_append, List.length_append, List.length_cons]
    simp only [List.length_cons, List.length_nil]
    omega
theorem join_len (r : List (List UInt8)) (h : ∀ x ∈ r, x.length ≤ 21) : (Lib.join r [32]).length ≤ 22 * r.length := by
  cases r with
  | nil => simp [Lib.join, List.intercalate]
  | cons a r =>
    rw [Lib.join_cons, List.length_append, List.length_cons]
    have h1 := h a (by simp)
    have h2 := joinTail_len r fun x hx => h x (by simp [hx])
    omega
theorem itoa_all (v : Int) (h0 : -9223372036854775808 ≤ v) (h1 : v ≤ 9223372036854775807) (w : World) (ht : Tab10 w) : Calls Tryd.prog 51 #[.int .i64 v] w fun e w' => e = .returned (.string ⟨(Lib.itoa v).toArray⟩) ∧ Below w.heap.size w w' := by
  refine (Tryd.strconv_Itoa v h0 h1 w ht).mono ?_
  rintro e w' ⟨rfl, k, os, rfl⟩
  exact ⟨rfl, Lib.below_grow _ _ (Nat.le_refl _) _ _⟩
theorem mk_capS2 (n : Nat) (hn : n ≤ 4000000) (W : World) : (Instr.makeSlice 48 (.int .i64 0) (.int .i64 (n : Int))).run Tryd.prog W = .ok (.slice (some ⟨W.heap.size, 0, none⟩) 0 n) (W.alloc (.cells (madeCells #[.string ⟨#[]⟩] n) 9)) := by
  obtain ⟨ii, hi, hz0, hz1, hz2⟩ := info_parts infoStr
  have hr := run_make (P := Tryd.prog) W 48 9 ii (.string ⟨#[]⟩) Tryd.underlying48 hi hz0 .i64 .i64 0 n (by omega) (by omega) (by rw [hz2]; omega) (by omega)
  simp only [Int.toNat_zero, Int.toNat_natCast, hz1, Nat.mul_one] at hr
  exact hr
theorem joinWords2 (ws : List (List UInt8)) (g c n : Nat) (w : World) (hn : ws.length = n) (hcells : ∀ j (x : ByteArray), (ws.map fun l => (⟨l.toArray⟩ : ByteArray))[j]? = some x → w.cell? ⟨g, 0 + j, none⟩ = some (.string x))
    (hg : g < w.heap.size) (hc : n ≤ c) (hN : n ≤ 4000000) (hl : (Lib.join ws [32]).length ≤ 100000000) :
    Calls Tryd.prog 52 #[.slice (some ⟨g, 0, none⟩) n c, .string ⟨#[32]⟩] w fun e w' => e = .returned (.string ⟨(Lib.join ws [32]).toArray⟩) ∧ Below w.heap.size w w' := by
  have em : (ws.map fun l => (⟨l.toArray⟩ : ByteArray)).map (·.data.toList) = ws := by simp [List.map_map, Function.comp_def]
  have h := Tryd.strings_Join g 0 c (ws.map fun l => (⟨l.toArray⟩ : ByteArray)) ⟨#[32]⟩ w hcells hg (by simp; omega) (by simp; omega) (by rw [em]; exact Nat.le_trans hl (by omega))
  rw [em, List.length_map, hn] at h
  exact h

set_option maxHeartbeats 4000000 in
set_option maxRecDepth 50000 in
theorem joined_all (A : Option Addr) (n c B : Nat) (xs : List Int) (w : World) (h : Reads w B 1 A n (xs.map (Value.int .i64))) (hB : B ≤ w.heap.size) (hz : xs.length = n) (hc : n ≤ c) (h1 : 1 ≤ n) (hn : n ≤ 4000000)
    (hent : ∀ k, k < n → -9223372036854775808 ≤ xs.getD k 0 ∧ xs.getD k 0 ≤ 9223372036854775807) (ht : Tab10 w) :
    Calls Tryd.prog 39 #[.slice A n c, .string ⟨#[32]⟩] w fun e w' => e = .returned (.string ⟨(joinI xs).toArray⟩) ∧ Below w.heap.size w w' := by
  have hj : Lib.join (wi xs n) [32] = joinI xs := by
    unfold wi joinI
    rw [← hz, List.take_length]
  have hjl : (Lib.join (wi xs n) [32]).length ≤ 100000000 := by
    have hlw : (wi xs n).length ≤ n := by unfold wi; simp; omega
    have := join_len (wi xs n) (fun x hx => by
      unfold wi at hx
      rw [List.mem_map] at hx
      obtain ⟨v, hv, rfl⟩ := hx
      rw [← hz, List.take_length] at hv
      obtain ⟨k, hk, rfl⟩ := List.getElem_of_mem hv
      have hb := hent k (by omega)
      rw [List.getD_eq_getElem?_getD, List.getElem?_eq_getElem hk, Option.getD_some] at hb
      exact Lib.itoa_length_le _ hb.1 hb.2)
    omega
  obtain ⟨R, eR⟩ : ∃ R, R = joinI xs := ⟨_, rfl⟩
  rw [← eR] at hj ⊢
  have HJ := Lib.hid (And.intro hj hjl)
  have HE := Lib.hid hent
  have HT := Lib.hid ht
  have HR := Lib.hid h
  have HZ := Lib.hid hz
  have hmk := mk_capS2 n (by omega) w
  have hmd := World.ownsRow_made (base := w.heap.size) (e := 9) (size := 1) w (madeCells #[.string ⟨#[]⟩] n) n (by omega) (by unfold maxLen; omega) (by simp [size_madeCells])
  have R0 : WRel w 0 0 none [] (wi xs 0) 0 _ (w.alloc (.cells (madeCells #[.string ⟨#[]⟩] n) 9)) := ⟨by simp [wi], by simpa [wi, wcells] using hmd, fun q _ => .inr (Nat.zero_le _), ⟨Nat.zero_le _, fun h => by simp at h⟩, (Below.refl _ _).alloc (Nat.le_refl _) _⟩
  obtain ⟨ii, hi, hz0, hz1, hz2⟩ := info_parts infoStr
  clear hj hjl hent ht h hz eR hmd
  go_enter Tryd.func39, Tryd.ntmps39
  go_wp2_with fail
  go_loopg [5, 13] n (fun gh v i wr => ∃ t : Nat, t ≤ n ∧ gh = n - t ∧ i = .int .i64 t ∧ WRel w 0 0 none [] (wi xs t) t v wr)
  case atStart => exact ⟨0, Nat.zero_le _, rfl, rfl, R0⟩
  case round =>
    obtain ⟨t, ht, hg, rfl, hR⟩ := hrel
    have Hg := Lib.hid hg
    clear hg R0 hmk
    by_cases hlt : t < n
    · have hlt' : (t : Int) < (n : Int) := by omega
      have RX := Lib.hid (HR.out.next hR.below hB)
      obtain ⟨b, o, rfl, hbB, hcell⟩ := RX.out.open1 HZ.out (by omega)
      have hc1 := hcell t hlt
      have hz := HE.out t hlt
      have hws := wi_succ xs (t := t) (by have := HZ.out; omega)
      obtain ⟨x, hv⟩ : ∃ x, x = xs.getD t 0 := ⟨_, rfl⟩
      rw [← hv] at hc1 hz hws
      have CN := Lib.hid (fun W hW => itoa_all x hz.1 hz.2 W hW)
      have hT := Lib.hid (HT.out.on hR.below)
      obtain ⟨ds, ed⟩ : ∃ ds, ds = Lib.itoa x := ⟨_, rfl⟩
      rw [← ed] at CN hws
      clear hcell hv RX hz ed
      go_wp2_with fail
      refine (CN.out _ hT.out).mono ?_
      rintro e w4 ⟨rfl, hb4⟩
      have hR4 := hR.call hb4
      have hown := Lib.hid hR4.own
      have hsz := hR4.below.size
      clear hR hc1 hb4 hT
      go_wp2_with (at_builtin; refine wpList_append_own_at _ rfl _ _ 48 rfl w.heap.size 9 ii (.string ⟨#[]⟩) 1 16 Tryd.underlying48 hi hz0 hz1 hz2 rfl (by decide) _ _ _ rfl (hown.out.alloc _) ⟨w4.heap.size, 0, none⟩ 1 1 [.string ⟨ds.toArray⟩] rfl rfl (cell_one_new _ _ _) (by simp [Value.oneCell']) (by unfold maxLen; omega) (by omega) (by simp; omega) ?_; intro v' w5 hown' hgrow _ hat)
      have hR' := hR4.next _ _ hown' hgrow hat
      rw [← hws] at hR'
      clear hR4 hown' hgrow hat
      go_wp2_with fail
      go_roundg (n - (t + 1))
      case measure => have := Hg.out; omega
      case rel => exact ⟨t + 1, by omega, rfl, by go_num, hR'⟩
    · have hlt' : ¬ (t : Int) < (n : Int) := by omega
      obtain rfl : t = n := by omega
      obtain ⟨m, em⟩ : ∃ m, t = m + 1 := ⟨t - 1, by omega⟩
      have hR2 := hR
      rw [em] at hR2
      obtain ⟨g, cg, rfl, hgl, hcap, hcells⟩ := hR2.opens
      rw [← em] at hcap hcells ⊢
      have hlen := hR.len
      have hbl2 := hR.below
      have CJ := Lib.hid (joinWords2 _ g cg _ wr hlen hcells hgl hcap (by omega) HJ.out.2)
      rw [HJ.out.1] at CJ
      clear hR hR2 hcells hlen em
      go_wp2_with fail
      refine CJ.out.mono ?_
      rintro e w4 ⟨rfl, hb4⟩
      have W4 := bnext hbl2 hb4 (Nat.le_refl _)
      go_wp2_with fail
      go_ret
      exact ⟨rfl, W4⟩
end Go.Proofs.YtffkoeobehocjaaDoor
