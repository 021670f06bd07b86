/- Contract of impl.GateText. -/
import Derived.Test.YtffkoeobehocjaaDoorTxt
import Derived.Test.YtffkoeobehocjaaDoorAppend
import Derived.Lib.Join
namespace Go.Proofs.YtffkoeobehocjaaDoor
open Go.RowKit
set_option linter.unusedVariables false
set_option linter.unusedSimpArgs false

theorem infoStr : (Tryd.prog.info? 9).map (fun i => (i.zero, i.size, i.bytes)) = some (some (.string ⟨#[]⟩), 1, 16) := by kernel_rfl
/-- the words of a gate's text -/
def wordsL (ks : List UInt8) (zs : List Int) (t : Nat) : List (List UInt8) := ks :: (zs.take t).map fun z => Lib.decDigits z.toNat
/-- words as cells -/
def wcells (ws : List (List UInt8)) : List Value := ws.map fun l => .string ⟨l.toArray⟩
theorem wordsL_succ (ks : List UInt8) (zs : List Int) {t : Nat} (h : t < zs.length) : wordsL ks zs (t + 1) = wordsL ks zs t ++ [Lib.decDigits (zs.getD t 0).toNat] := by
  unfold wordsL
  rw [List.take_succ_eq_append_getElem h, List.map_append]
  simp [List.getD_eq_getElem?_getD, List.getElem?_eq_getElem h]
theorem wordsL_len (ks : List UInt8) (zs : List Int) {t : Nat} (h : t ≤ zs.length) : (wordsL ks zs t).length = t + 1 := by
  unfold wordsL
  simp
  omega
theorem tailS_join (zs : List Int) (t : Nat) (h : t ≤ zs.length) : Lib.joinTail [32] ((zs.take t).map fun z => Lib.decDigits z.toNat) = tailS zs t := by
  induction t with
  | zero => simp [Lib.joinTail, tailS]
  | succ t ih =>
    rw [List.take_succ_eq_append_getElem (by omega), List.map_append]
    simp only [tailS]
    rw [← ih (by omega)]
    simp [Lib.joinTail, List.getD_eq_getElem?_getD, List.getElem?_eq_getElem (show t < zs.length by omega)]
theorem words_join (ks : List UInt8) (zs : List Int) : Lib.join (wordsL ks zs zs.length) [32] = ks ++ tailS zs zs.length := by
  rw [← tailS_join zs zs.length (Nat.le_refl _)]
  unfold wordsL
  exact Lib.join_cons _ _ _
theorem natOf_tx {k : Int} (h : k = 0 ∨ k = 1 ∨ k = 2 ∨ k = 3 ∨ k = 4) : ∃ ch co : Int, natOf k = #[.string ⟨(kindS k).toArray⟩, .int .i64 (natLines k), .int .i64 ch, .int .i64 co] := by
  rcases h with rfl | rfl | rfl | rfl | rfl
  all_goals exact ⟨_, _, rfl⟩
theorem own_reads1 {w : World} {base e n : Nat} {v : Value} {xs : List Value} {A : Option Addr} {c : Nat} (h : w.ownsRow base e 1 v n xs) (hv : v = .slice A n c) : Reads w w.heap.size 1 A n xs := own_reads h hv

/-- the loop's own row of words, beside a row that is read and kept -/
structure WRel (w2 : World) (lo hi : Nat) (A : Option Addr) (cs : List Value) (ws : List (List UInt8)) (n : Nat) (v : Value) (wr : World) : Prop where
  len : ws.length = n
  own : wr.ownsRow w2.heap.size 9 1 v n (wcells ws)
  out : ∀ q, v.ownBlock = some q → q < lo ∨ hi ≤ q
  sl : Sl wr lo hi A cs
  below : Below w2.heap.size w2 wr
theorem WRel.next {w2 wr w' : World} {lo hi n : Nat} {A : Option Addr} {cs : List Value} {ws : List (List UInt8)} {v v' : Value} (h : WRel w2 lo hi A cs ws n v wr) (x : List UInt8) (X : Obj)
    (hown : w'.ownsRow w2.heap.size 9 1 v' (n + 1) (wcells ws ++ [.string ⟨x.toArray⟩])) (hgrow : (wr.alloc X).grownBy w' v.ownBlock)
    (hat : v'.ownBlock = v.ownBlock ∨ v'.ownBlock = some (wr.alloc X).heap.size) : WRel w2 lo hi A cs (ws ++ [x]) (n + 1) v' w' := by
  have hlt := h.own.lt
  have hs := h.below.size
  refine ⟨by simp [h.len], by unfold wcells at hown ⊢; simpa using hown, fun q hq => ?_, h.sl.keep ?_ fun i h1 h2 => ?_, (h.below.alloc hs X).grown hgrow (by simp; omega) (fun q e => (hlt q e).1)⟩
  · rcases hat with e | e
    · exact h.out q (e ▸ hq)
    · rw [e] at hq
      have := Option.some.inj hq
      have := h.sl.1
      simp only [World.size_alloc] at *
      omega
  · have := hgrow.size
    simp only [World.size_alloc] at this
    omega
  · have h3 := h.sl.1
    rw [hgrow.block i (by simp; omega) (fun e => by have := h.out i e.symm; omega)]
    exact ((Below.refl wr.heap.size wr).alloc (Nat.le_refl _) X).block i (by omega)
theorem WRel.opens {w2 wr : World} {lo hi n : Nat} {A : Option Addr} {cs : List Value} {ws : List (List UInt8)} {v : Value} (h : WRel w2 lo hi A cs ws (n + 1) v wr) :
    ∃ g c, v = .slice (some ⟨g, 0, none⟩) (n + 1) c ∧ g < wr.heap.size ∧ n + 1 ≤ c ∧ ∀ j (x : ByteArray), (ws.map fun l => (⟨l.toArray⟩ : ByteArray))[j]? = some x → wr.cell? ⟨g, 0 + j, none⟩ = some (.string x) := by
  obtain ⟨h1, h2⟩ := h.own
  rcases h2 with ⟨_, h0⟩ | ⟨g, cap, cur, rfl, hg, hh, hc, _, hs, ht⟩
  · omega
  have hB : Blk wr g 9 cur := hh
  refine ⟨g, cap, rfl, hB.lt, hc, fun j x hx => ?_⟩
  rw [Nat.zero_add, hB.cell]
  rw [List.getElem?_map] at hx
  have hu : (wcells ws)[j]? = some (.string x) := by
    unfold wcells
    rw [List.getElem?_map]
    cases e : ws[j]? with
    | none => rw [e] at hx; cases hx
    | some l =>
      rw [e] at hx
      simp only [Option.map_some, Option.some.injEq] at hx ⊢
      rw [hx]
  rw [← ht, List.getElem?_take] at hu
  split at hu
  · simpa using hu
  · cases hu
theorem joinWords (ws : List (List UInt8)) (g c n : Nat) (w : World) (hn : ws.length = n) (hcells : ∀ j (x : ByteArray), (ws.map fun l => (⟨l.toArray⟩ : ByteArray))[j]? = some x → w.cell? ⟨g, 0 + j, none⟩ = some (.string x))
    (hg : g < w.heap.size) (hc : n ≤ c) (hN : n ≤ 100000) (hl : (Lib.join ws [32]).length ≤ 100000) :
    Calls Tryd.prog 52 #[.slice (some ⟨g, 0, none⟩) n c, .string ⟨#[32]⟩] w fun e w' => e = .returned (.string ⟨(Lib.join ws [32]).toArray⟩) ∧ Below w.heap.size w w' := by
  have em : (ws.map fun l => (⟨l.toArray⟩ : ByteArray)).map (·.data.toList) = ws := by simp [List.map_map, Function.comp_def]
  have h := Tryd.strings_Join g 0 c (ws.map fun l => (⟨l.toArray⟩ : ByteArray)) ⟨#[32]⟩ w hcells hg (by simp; omega) (by simp; omega) (by rw [em]; exact Nat.le_trans hl (by omega))
  rw [em, List.length_map, hn] at h
  exact h
theorem own1 {w : World} (X : Obj) (l : List UInt8) (e : TypeId) : ((w.alloc X).alloc (.cells #[.string ⟨l.toArray⟩] e)).ownsRow w.heap.size e 1 (.slice (some ⟨w.heap.size + 1, 0, none⟩) 1 1) 1 (wcells [l]) := by
  have hB := Blk.new (w.alloc X) e #[.string ⟨l.toArray⟩]
  simp only [World.size_alloc] at hB
  exact ⟨rfl, .inr ⟨_, 1, _, rfl, by omega, hB, Nat.le_refl _, by unfold maxLen; omega, rfl, rfl⟩⟩
theorem join_len_words (ks : List UInt8) (zs : List Int) (hk : ks.length ≤ 4) (hz : zs.length ≤ 3) (h : ∀ j, j < zs.length → 0 ≤ zs.getD j 0 ∧ zs.getD j 0 ≤ 7) : (Lib.join (wordsL ks zs zs.length) [32]).length ≤ 1000 := by
  rw [words_join, List.length_append]
  have := tailS_len zs zs.length (fun j hj => by have := h j hj; omega)
  omega

set_option maxHeartbeats 4000000 in
set_option maxRecDepth 50000 in
theorem implGateText_any (g : Gt) (w : World) :
    Calls Tryd.prog 26 #[g.val] w fun e w' => e = .returned (.string ⟨(gateTx g).toArray⟩) ∧ Below w.heap.size w w' := by
  have HV := Lib.hid (fun W => implGateValid_any 8 g W)
  cases hv : gateB 8 g with
  | false =>
    have Hr : Hid (gateTx g = []) := Lib.hid (by unfold gateTx; rw [hv]; rfl)
    rw [hv] at HV
    obtain ⟨k, x, y, z⟩ := g
    unfold Gt.val at *
    dsimp only at *
    clear hv
    go_enter Tryd.func26, Tryd.ntmps26
    go_wp2_with fail
    refine (HV.out _).mono ?_
    rintro e w1 ⟨rfl, hb1⟩
    obtain ⟨bx, W1⟩ := box1 hb1
    go_wp2_with fail
    go_ret
    rw [Hr.out]
    exact ⟨rfl, W1⟩
  | true =>
    have Hr : Hid (gateTx g = kindS g.k ++ tailS (linesOf g) (linesOf g).length) := Lib.hid (by unfold gateTx; rw [hv]; rfl)
    have HG := Lib.hid (fun k (hk : k < (linesOf g).length) => gate_lines hv hk)
    have h5 := gateB_fivex hv
    have hl3 := linesOf_len g
    have hkin : inB g.k 0 4 = true := inB_of (by omega)
    obtain ⟨ch, co, hnat⟩ := natOf_tx h5
    rw [hv] at HV
    obtain ⟨k, x, y, z⟩ := g
    unfold Gt.val at *
    dsimp only at *
    have HN := Lib.hid (fun W => nature_any k x y z W)
    have HS := Lib.hid (fun W => some_lines k x y z W hkin)
    rw [hnat] at HN
    obtain ⟨zs, ez⟩ : ∃ zs, zs = linesOf ⟨k, x, y, z⟩ := ⟨_, rfl⟩
    rw [← ez] at Hr HG hl3 HS
    obtain ⟨ks, ek⟩ : ∃ ks, ks = kindS k := ⟨_, rfl⟩
    have hkl := kindS_len k
    rw [← ek] at Hr HN hkl
    obtain ⟨nl, en⟩ : ∃ nl, nl = natLines k := ⟨_, rfl⟩
    rw [← en] at HN HS
    have hjn := words_join ks zs
    rw [← Hr.out] at hjn
    have HJ := Lib.hid hjn
    obtain ⟨ii, hi, hz0, hz1, hz2⟩ := info_parts infoStr
    clear hv h5 ez ek en hnat hjn
    go_enter Tryd.func26, Tryd.ntmps26
    go_wp2_with fail
    refine (HV.out _).mono ?_
    rintro e w1 ⟨rfl, hb1⟩
    obtain ⟨bx, W1⟩ := box1 hb1
    have q0 : w1.cell? ⟨w.heap.size, 0, none⟩ = some (.int .i64 k) := bx.cell 0
    have q1 : w1.cell? ⟨w.heap.size, 1, none⟩ = some (.int .i64 x) := bx.cell 1
    have q2 : w1.cell? ⟨w.heap.size, 2, none⟩ = some (.int .i64 y) := bx.cell 2
    have q3 : w1.cell? ⟨w.heap.size, 3, none⟩ = some (.int .i64 z) := bx.cell 3
    clear hb1
    go_wp2_with fail
    refine (HN.out _).mono ?_
    rintro e w2 ⟨rfl, hb2⟩
    have W2 := bnext W1 hb2 (Nat.le_refl _)
    replace bx := bx.next hb2
    have q0 : w2.cell? ⟨w.heap.size, 0, none⟩ = some (.int .i64 k) := bx.cell 0
    have q1 : w2.cell? ⟨w.heap.size, 1, none⟩ = some (.int .i64 x) := bx.cell 1
    have q2 : w2.cell? ⟨w.heap.size, 2, none⟩ = some (.int .i64 y) := bx.cell 2
    have q3 : w2.cell? ⟨w.heap.size, 3, none⟩ = some (.int .i64 z) := bx.cell 3
    have hbl := bx.lt
    clear hb2 W1
    go_wp2_with fail
    refine (HS.out _).mono ?_
    rintro e w3 ⟨A3, c3, rfl, hc3, O3, hb3⟩
    have S3 := Sl.of_own O3
    have W3 : Below w2.heap.size w2 w3 := (((Below.refl _ _).alloc (Nat.le_refl _) _).alloc (by simp) _).trans (hb3.mono (by simp; omega))
    have o0 := own_next (own1 (w := w2) _ ks 9) hb3
    simp only [World.size_alloc] at S3
    have R0 : WRel w2 (w2.heap.size + 1 + 1) w3.heap.size A3 (zs.map (Value.int .i64)) (wordsL ks zs 0) 1 _ w3 := ⟨by simp [wordsL], o0, fun q hq => by have : w2.heap.size + 1 = q := Option.some.inj hq; omega, S3, W3⟩
    have HL := Lib.hid (join_len_words ks zs hkl hl3 HG.out)
    clear hb3 S3 O3 o0 q0 q1 q2 q3 bx HV HN HS
    go_wp2_with fail
    go_loopg [5, 24] zs.length (fun gh v i wr => ∃ t : Nat, t ≤ zs.length ∧ gh = zs.length - t ∧ i = .int .i64 t ∧ WRel w2 (w2.heap.size + 1 + 1) w3.heap.size A3 (zs.map (Value.int .i64)) (wordsL ks zs t) (t + 1) v wr)
    case atStart => exact ⟨0, Nat.zero_le _, rfl, rfl, R0⟩
    case round =>
      obtain ⟨t, ht, hg, rfl, hR⟩ := hrel
      have Hg := Lib.hid hg
      clear hg R0
      by_cases hlt : t < zs.length
      · have hlt' : (t : Int) < (zs.length : Int) := by omega
        have RX := Lib.hid (hR.sl.reads (n := zs.length) (size := 1) (by simp) (by omega))
        obtain ⟨b, o, rfl, hbB, hcell⟩ := RX.out.open1 rfl (by omega)
        have hc1 := hcell t hlt
        have hz := HG.out t hlt
        have hws := wordsL_succ ks zs hlt
        obtain ⟨v, hv⟩ : ∃ v : Nat, zs.getD t 0 = (v : Int) := ⟨(zs.getD t 0).toNat, by omega⟩
        rw [hv] at hc1 hz hws
        have CN := Lib.hid (fun W => Tryd.strconv_Itoa_small v (by omega) W)
        rw [Int.toNat_natCast] at hws
        have hown := Lib.hid hR.own
        have hsz := hR.below.size
        clear hcell hv RX
        go_wp2_with fail
        refine CN.out _ |>.mono ?_
        rintro e w4 ⟨rfl, rfl⟩
        go_wp2_with (at_builtin; go_loud (refine wpList_append_own_at _ rfl _ _ 48 rfl w2.heap.size 9 ii (.string ⟨#[]⟩) 1 16 Tryd.underlying48 hi hz0 hz1 hz2 rfl (by decide) _ _ _ rfl (hown.out.alloc _) ⟨w4.heap.size, 0, none⟩ 1 1 [.string ⟨(Lib.decDigits v).toArray⟩] rfl rfl (cell_one_new _ _ _) (by simp [Value.oneCell']) (by unfold maxLen; omega) (by omega) (by simp; omega) ?_; intro v' w5 hown' hgrow _ hat))
        have hR' := hR.next _ _ hown' hgrow hat
        rw [← hws] at hR'
        clear hR hown' hgrow hat
        go_wp2_with fail
        go_roundg (zs.length - (t + 1))
        case measure => have := Hg.out; omega
        case rel => exact ⟨t + 1, by omega, rfl, by go_num, hR'⟩
      · have hlt' : ¬ (t : Int) < (zs.length : Int) := by omega
        obtain rfl : t = zs.length := by omega
        obtain ⟨g, c, rfl, hgl, hcap, hcells⟩ := hR.opens
        have hlen := hR.len
        have hbl2 := hR.below
        have CJ := Lib.hid (joinWords _ g c _ wr hlen hcells hgl hcap (by omega) (by have := HL.out; omega))
        rw [HJ.out] at CJ
        clear hR hcells hlen
        go_wp2_with fail
        refine CJ.out.mono ?_
        rintro e w4 ⟨rfl, hb4⟩
        have W4 := bnext W2 (bnext hbl2 hb4 (Nat.le_refl _)) (Nat.le_refl _)
        go_wp2_with fail
        go_ret
        exact ⟨rfl, W4⟩
end Go.Proofs.YtffkoeobehocjaaDoor
