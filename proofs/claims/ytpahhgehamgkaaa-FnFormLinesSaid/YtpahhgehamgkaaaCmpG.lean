/- What ComputeGates and CleanGates answer, and contracts of impl.compute, impl.ComputeGates, impl.CleanGates. -/
import Derived.Test.YtpahhgehamgkaaaStI
import Derived.Test.YtpahhgehamgkaaaFormL
import Derived.Test.YtpahhgehamgkaaaConc3
import Derived.Test.YtpahhgehamgkaaaBack
namespace Go.Proofs.Ytpahhgehamgkaaa
open Go.RowKit
set_option linter.unusedVariables false
set_option linter.unusedSimpArgs false

/-- the gates of the first k steps -/
def compT (i : Int) (gs : List St) : Nat → List Gt
  | 0 => []
  | k + 1 => compT i gs k ++ stepG (gs.getD k s0).o (gs.getD k s0).x (gs.getD k s0).y (i + k)
theorem compT_len (i : Int) (gs : List St) (k : Nat) : (compT i gs k).length ≤ 3 * k := by
  induction k with
  | zero => simp [compT]
  | succ k ih =>
    unfold compT
    rw [List.length_append]
    have := stepG_len (gs.getD k s0).o (gs.getD k s0).x (gs.getD k s0).y (i + k)
    omega
def compL (i : Int) (gs : List St) : List Gt := if formB i gs = true then compT i gs gs.length else []
theorem compL_y {i : Int} {gs : List St} (h : formB i gs = true) : compL i gs = compT i gs gs.length := if_pos h
theorem compL_n {i : Int} {gs : List St} (h : formB i gs = false) : compL i gs = [] := if_neg (by rw [h]; decide)
def cleanL (i : Int) (gs : List St) : List Gt := if formB i gs = true then compT i gs gs.length ++ [⟨1, i + gs.length - 1, i + gs.length, 0⟩] ++ (compT i gs gs.length).reverse else []
theorem cleanL_y {i : Int} {gs : List St} (h : formB i gs = true) : cleanL i gs = compT i gs gs.length ++ [⟨1, i + gs.length - 1, i + gs.length, 0⟩] ++ (compT i gs gs.length).reverse := if_pos h
theorem cleanL_n {i : Int} {gs : List St} (h : formB i gs = false) : cleanL i gs = [] := if_neg (by rw [h]; decide)

set_option maxHeartbeats 4000000 in
set_option maxRecDepth 50000 in
theorem compute_any (i : Nat) (A : Option Addr) (n c B : Nat) (gs : List St) (w : World) (h : Reads w B 3 A n (scells gs)) (hB : B ≤ w.heap.size) (hz : gs.length = n) (hi : i ≤ 3) (hn : n ≤ 3) :
    Calls Try.prog 46 #[.int .i64 i, .slice A n c] w fun e w' => RetG (compT i gs n) w e w' := by
  obtain ⟨ig, gi, gz0, gz1, gz2⟩ := info_parts infoGate
  have HR := Lib.hid h
  have HZ := Lib.hid hz
  have HL := Lib.hid (fun k => compT_len i gs k)
  clear h hz
  go_enter Try.func46, Try.ntmps46
  go_wp2_with fail
  go_loopg [5, 11] n (fun gh v j wr => ∃ k : Nat, k ≤ n ∧ gh = n - k ∧ j = .int .i64 k ∧ wr.ownsRow w.heap.size 48 4 v (compT i gs k).length (gcells (compT i gs k)) ∧ Below w.heap.size w wr)
  case atStart => exact ⟨0, Nat.zero_le _, rfl, rfl, by simpa [compT, gcells] using World.ownsRow_made (base := w.heap.size) (e := 48) (size := 4) w #[] 0 (Nat.le_refl _) (by simp [maxLen]) rfl, (Below.refl _ _).alloc (Nat.le_refl _) _⟩
  case round =>
    obtain ⟨k, hk, hg, rfl, hown, hb⟩ := hrel
    have Hg := Lib.hid hg
    have hsz := hb.size
    have hcap := hown
    obtain ⟨A5, c5, rfl, hc5⟩ := own_shape hown
    have hll := HL.out k
    have hcap2 := (own_cap hcap).2
    have Hown := Lib.hid hown
    obtain ⟨L, eL⟩ : ∃ L, L = (compT i gs k).length := ⟨_, rfl⟩
    rw [← eL] at hll hc5 Hown ⊢
    have EL := Lib.hid eL
    clear hg hown eL hcap
    by_cases hlt : k < n
    · have hlt' : (k : Int) < (n : Int) := by omega
      obtain ⟨b, o, rfl, hbB, hcell⟩ := HR.out.openS HZ.out (by omega)
      obtain ⟨g, eg⟩ : ∃ g, g = gs.getD k s0 := ⟨_, rfl⟩
      have hgat := (hcell k hlt).below hb (by omega)
      have hsn : compT i gs (k + 1) = compT i gs k ++ stepG (gs.getD k s0).o (gs.getD k s0).x (gs.getD k s0).y (i + k) := rfl
      rw [← eg] at hgat hsn
      obtain ⟨op, x, y⟩ := g
      obtain ⟨q0, q1, q2⟩ := hgat
      simp only at q0 q1 q2 hsn
      have HS := Lib.hid (fun W => implStepGates_any op x y ((i : Int) + (k : Int)) W)
      have hsl := stepG_len op x y ((i : Int) + (k : Int))
      obtain ⟨fs, efs⟩ : ∃ fs, fs = stepG op x y ((i : Int) + (k : Int)) := ⟨_, rfl⟩
      rw [← efs] at HS hsl hsn
      have Hsn : Hid (gcells (compT i gs (k + 1)) = gcells (compT i gs k) ++ gcells fs) := Lib.hid (by rw [hsn, gcells_app])
      have Hln : Hid ((compT i gs (k + 1)).length = L + fs.length) := Lib.hid (by rw [hsn, List.length_append, EL.out])
      have W2 := hb.alloc hsz (Obj.cells #[.int .i64 op, .int .i64 x, .int .i64 y] 35)
      have Own2 := Lib.hid (Hown.out.alloc (Obj.cells #[.int .i64 op, .int .i64 x, .int .i64 y] 35))
      have hone := gcells_ok fs
      clear hcell eg hsn efs
      go_wp2_with fail
      refine (HS.out _).mono ?_
      rintro e w3 ⟨A3, c3, rfl, hc3, ho3, hb3⟩
      have hb03 := bnext W2 hb3 (Nat.le_refl _)
      have own3 := own_next Own2.out hb3
      have rd3 := ho3.reads (n := fs.length) (size := 4) (by rw [gcells_len]) (by omega)
      have hlw := own3.lt
      have hs3 := hb03.size
      clear hb3 ho3 q0 q1 q2
      go_wp2_with (at_builtin; (refine wpList_append_any _ rfl _ _ 26 rfl w.heap.size 48 ig (.agg #[.int .i64 0, .int .i64 0, .int .i64 0, .int .i64 0]) 4 32 Try.underlying26 gi gz0 gz1 gz2 rfl (by decide) (.slice A5 L c5) L (gcells (compT i gs k)) rfl own3 _ A3 fs.length c3 (gcells fs) rfl rd3 hone (by unfold maxLen; omega) (by omega) hs3 ?_; intro v' w6 hown' hgrow _))
      have hb6 := hb03.grown hgrow hs3 (fun q e => (hlw q e).1)
      clear hlw hgrow own3 rd3
      go_wp2_with fail
      go_roundg (n - (k + 1))
      case measure => have := Hg.out; omega
      case rel => exact ⟨k + 1, by omega, rfl, by go_num, by rw [Hln.out, Hsn.out]; exact hown', hb6⟩
    · have hlt' : ¬ (k : Int) < (n : Int) := by omega
      obtain rfl : k = n := by omega
      go_wp2_with (go_at_call 47; refine (clipGO_any _ _ _ _ hc5 hcap2).mono ?_; rintro e w' ⟨rfl, rfl⟩)
      go_ret
      have Hown2 := Hown.out
      rw [EL.out] at Hown2
      obtain ⟨A2, c2, e2, h1, h2, h3⟩ := retG_acc Hown2 hb rfl
      injection e2 with e2
      injection e2 with e3 e4 e5
      subst e3
      exact ⟨_, _, by rw [EL.out]; rfl, Nat.le_refl _, h2, h3⟩

theorem implComputeGates_any (i : Int) (A : Option Addr) (n c B : Nat) (gs : List St) (w : World) (h : Reads w B 3 A n (scells gs)) (hB : B ≤ w.heap.size) (hz : gs.length = n) (hc : n ≤ c) (hn : n ≤ 1048576) :
    Calls Try.prog 24 #[.int .i64 i, .slice A n c] w fun e w' => RetG (compL i gs) w e w' := by
  have HT := Lib.hid (implFormValid_any i A n c B gs w h hB hz hc hn)
  cases hv : formB i gs with
  | false =>
    have Hr := Lib.hid (compL_n hv)
    rw [hv] at HT
    clear hv h hz
    go_enter Try.func24, Try.ntmps24
    go_wp2_with fail
    refine HT.out.mono ?_
    rintro e w1 ⟨rfl, hb1⟩
    go_wp2_with fail
    go_ret
    exact retG_nil Hr.out hb1 rfl
  | true =>
    have Hr := Lib.hid (compL_y hv)
    have hf := formB_t hv
    obtain ⟨p, rfl⟩ := Int.eq_ofNat_of_zero_le (show 0 ≤ i by omega)
    have HU := Lib.hid (fun W (hb : Below w.heap.size w W) => compute_any p A n c B gs W (h.next hb hB) (Nat.le_trans hB hb.size) hz (by omega) (by omega))
    rw [hv] at HT
    have HZ := Lib.hid hz
    clear hv h hz hf
    go_enter Try.func24, Try.ntmps24
    go_wp2_with fail
    refine HT.out.mono ?_
    rintro e w1 ⟨rfl, hb1⟩
    go_wp2_with fail
    refine (HU.out _ hb1).mono ?_
    rintro e w2 ⟨A2, c2, rfl, hc2, ho2, hb2⟩
    go_wp2_with fail
    go_ret
    rw [Hr.out, HZ.out]
    exact ⟨A2, c2, rfl, hc2, ho2.mono hb1.size, bnext hb1 hb2 (Nat.le_refl _)⟩

set_option maxHeartbeats 4000000 in
theorem implCleanGates_any (i : Int) (A : Option Addr) (n c B : Nat) (gs : List St) (w : World) (h : Reads w B 3 A n (scells gs)) (hB : B ≤ w.heap.size) (hz : gs.length = n) (hc : n ≤ c) (hn : n ≤ 1048576) :
    Calls Try.prog 25 #[.int .i64 i, .slice A n c] w fun e w' => RetG (cleanL i gs) w e w' := by
  have HT := Lib.hid (implFormValid_any i A n c B gs w h hB hz hc hn)
  cases hv : formB i gs with
  | false =>
    have Hr := Lib.hid (cleanL_n hv)
    rw [hv] at HT
    clear hv h hz
    go_enter Try.func25, Try.ntmps25
    go_wp2_with fail
    refine HT.out.mono ?_
    rintro e w1 ⟨rfl, hb1⟩
    go_wp2_with fail
    go_ret
    exact retG_nil Hr.out hb1 rfl
  | true =>
    have Hr := Lib.hid (cleanL_y hv)
    have hf := formB_t hv
    obtain ⟨p, rfl⟩ := Int.eq_ofNat_of_zero_le (show 0 ≤ i by omega)
    have hp3 : p ≤ 3 := by omega
    have hn3 : n ≤ 3 := by omega
    have HU := Lib.hid (fun W (hb : Below w.heap.size w W) => compute_any p A n c B gs W (h.next hb hB) (Nat.le_trans hB hb.size) hz hp3 hn3)
    rw [hv] at HT
    rw [hz] at Hr
    have hl9 := compT_len p gs n
    obtain ⟨fs, efs⟩ : ∃ fs, fs = compT p gs n := ⟨_, rfl⟩
    rw [← efs] at HU Hr hl9
    clear hv h hz hf efs
    go_enter Try.func25, Try.ntmps25
    go_wp2_with fail
    refine HT.out.mono ?_
    rintro e w1 ⟨rfl, hb1⟩
    go_wp2_with fail
    refine (HU.out _ hb1).mono ?_
    rintro e w2 ⟨A2, c2, rfl, hc2, ho2, hb2⟩
    have hb02 := bnext hb1 hb2 (Nat.le_refl _)
    have S2 := Sl.of_own ho2
    have hs2 := hb02.size
    clear ho2 HT HU
    go_wp2_with fail
    obtain ⟨cp, ecp⟩ : ∃ cp : Gt, cp = ⟨1, (p : Int) + n - 1, (p : Int) + n, 0⟩ := ⟨_, rfl⟩
    obtain ⟨W3, eW3⟩ : ∃ W3, W3 = w2.alloc (Obj.cells #[.int .i64 1, .int .i64 ((p : Int) + n - 1), .int .i64 ((p : Int) + n), .int .i64 0] 48) := ⟨_, rfl⟩
    have hb23 : Below w2.heap.size w2 W3 := by rw [eW3]; exact (Below.refl _ _).alloc (Nat.le_refl _) _
    have hbC : Blk W3 w2.heap.size 48 #[.int .i64 1, .int .i64 ((p : Int) + n - 1), .int .i64 ((p : Int) + n), .int .i64 0] := by rw [eW3]; exact Blk.new _ _ _
    have hb03 := bnext hb02 hb23 (Nat.le_refl _)
    replace S2 := S2.next hb23
    have BW := Lib.hid (backwards_any A2 fs.length c2 _ fs W3 (S2.reads (n := fs.length) (size := 4) (by rw [gcells_len]) (by omega)) S2.1 rfl (by omega))
    obtain ⟨G, eG⟩ : ∃ G, G = w2.heap.size := ⟨_, rfl⟩
    rw [← eW3, ← eG]
    rw [← eG] at hbC
    clear eW3 hb23 hb2 hb1 eG
    refine BW.out.mono ?_
    rintro e w4 ⟨A4, c4, rfl, hc4, ho4, hb4⟩
    have hb04 := bnext hb03 hb4 (Nat.le_refl _)
    replace S2 := S2.next hb4
    replace hbC := hbC.next hb4
    have S4 := Sl.of_own ho4
    have hs4 := hb04.size
    clear ho4 BW hb4
    have hrl : fs.reverse.length = fs.length := List.length_reverse
    rw [hrl] at hc4 ⊢
    have hb05 := hb04.alloc hs4 (Obj.cells #[.slice A2 fs.length c2, .slice (some ⟨G, 0, none⟩) 1 1, .slice A4 fs.length c4] 26)
    have hb45 := (Below.refl w4.heap.size w4).alloc (Nat.le_refl _) (Obj.cells #[.slice A2 fs.length c2, .slice (some ⟨G, 0, none⟩) 1 1, .slice A4 fs.length c4] 26)
    have rdC : Reads (w4.alloc (Obj.cells #[.slice A2 fs.length c2, .slice (some ⟨G, 0, none⟩) 1 1, .slice A4 fs.length c4] 26)) (w4.alloc (Obj.cells #[.slice A2 fs.length c2, .slice (some ⟨G, 0, none⟩) 1 1, .slice A4 fs.length c4] 26)).heap.size 4 (some ⟨G, 0, none⟩) 1 (gcells [cp]) := by
      rw [ecp]
      exact ((hbC.next hb45).own (B := 0) (Nat.zero_le _)).reads (n := 1) (size := 4) (by rfl) (by omega)
    have CC := Lib.hid (concat3_any w4.heap.size A2 (some ⟨G, 0, none⟩) A4 fs.length 1 fs.length c2 1 c4 _ _ _ fs [cp] fs.reverse _ (Blk.new w4 26 _) (((S2.next hb45).reads (n := fs.length) (size := 4) (by rw [gcells_len]) (by omega)))
      rdC
      (((S4.next hb45).reads (n := fs.length) (size := 4) (by rw [gcells_len, hrl]) (by omega))) (S2.next hb45).1 (Nat.le_refl _) (S4.next hb45).1 (by omega) (by omega) (by omega))
    have hbs5 : w.heap.size ≤ (w4.alloc (Obj.cells #[.slice A2 fs.length c2, .slice (some ⟨G, 0, none⟩) 1 1, .slice A4 fs.length c4] 26)).heap.size := hb05.size
    have HB05 := Lib.hid hb05
    clear rdC S2 S4 hbC hb45 hb04 hb03 hb02 hb05
    go_wp2_with fail
    refine CC.out.mono ?_
    rintro e w6 ⟨v6, rfl, own6, hb6⟩
    have hb06 := bnext HB05.out hb6 (Nat.le_refl _)
    have hcap := own6
    obtain ⟨A6, c6, rfl, hc6⟩ := own_shape own6
    have hcap2 := (own_cap hcap).2
    have HO6 := Lib.hid (own_base own6 hbs5)
    have hfl : Hid (fs.length + 1 + fs.length = (fs ++ [cp] ++ fs.reverse).length) := Lib.hid (by simp; omega)
    clear own6 hcap CC hb6
    go_wp2_with (go_at_call 47; refine (clipGO_any _ _ _ _ hc6 hcap2).mono ?_; rintro e w' ⟨rfl, rfl⟩)
    go_ret
    rw [Hr.out, ← ecp]
    obtain ⟨A7, c7, e7, h1, h2, h3⟩ := retG_acc HO6.out hb06 rfl
    injection e7 with e7
    injection e7 with e3 e4 e5
    subst e3
    exact ⟨_, _, by rw [← hfl.out]; rfl, Nat.le_refl _, h2, h3⟩
end Go.Proofs.Ytpahhgehamgkaaa
