/- What CircuitShort answers; contracts of slices.Clone at gates and of spec.l2Drop. -/
import Derived.Test.YtpahhgehamgkaaaUseS
import Derived.Test.YtpahhgehamgkaaaDel
import Derived.Test.YtpahhgehamgkaaaJoin
namespace Go.Proofs.Ytpahhgehamgkaaa
open Go.RowKit
set_option linter.unusedVariables false
set_option linter.unusedSimpArgs false

/-- a list without two of its gates -/
def drop2 (gs : List Gt) (a b : Nat) : List Gt := (gs.eraseIdx b).eraseIdx a
def dpT (gs : List Gt) (a b : Nat) : Nat → List Gt
  | 0 => []
  | k + 1 => if k = a ∨ k = b then dpT gs a b k else dpT gs a b k ++ [gs.getD k g0]
theorem erase_snoc (ys : List Gt) (x : Gt) (i : Nat) : (ys ++ [x]).eraseIdx i = if i < ys.length then ys.eraseIdx i ++ [x] else if i = ys.length then ys else ys ++ [x] := by
  by_cases h : i < ys.length
  · rw [if_pos h, List.eraseIdx_append_of_lt_length h]
  · rw [if_neg h, List.eraseIdx_append_of_length_le (by omega)]
    by_cases h2 : i = ys.length
    · rw [if_pos h2, show i - ys.length = 0 by omega]
      simp
    · rw [if_neg h2, List.eraseIdx_of_length_le (l := [x]) (by simp; omega)]
theorem dpT_is (gs : List Gt) (a b : Nat) (hab : a < b) (k : Nat) (hk : k ≤ gs.length) : dpT gs a b k = drop2 (gs.take k) a b := by
  unfold drop2
  induction k with
  | zero => simp [dpT]
  | succ k ih =>
    have ht : gs.take (k + 1) = gs.take k ++ [gs.getD k g0] := by
      rw [List.take_succ_eq_append_getElem (by omega)]
      simp [List.getD, List.getElem?_eq_getElem (show k < gs.length by omega)]
    have hl : (gs.take k).length = k := by simp; omega
    unfold dpT
    rw [ih (by omega), ht]
    generalize gs.take k = ys at hl
    generalize gs.getD k g0 = x
    rw [erase_snoc ys x b, hl]
    by_cases hb : b < k
    · have h1 : (ys.eraseIdx b).length = k - 1 := by rw [List.length_eraseIdx, if_pos (by omega), hl]
      rw [if_pos hb, if_neg (by omega), erase_snoc, if_pos (by omega)]
    · rw [if_neg hb]
      have h2 : ys.eraseIdx b = ys := List.eraseIdx_of_length_le (by omega)
      rw [h2]
      by_cases hb2 : b = k
      · rw [if_pos hb2, if_pos (.inr hb2.symm)]
      · rw [if_neg hb2, erase_snoc, hl]
        by_cases ha : k = a
        · rw [if_pos (.inl ha), if_neg (by omega), if_pos ha.symm]
          exact List.eraseIdx_of_length_le (by omega)
        · rw [if_neg (by omega)]
          by_cases ha2 : a < k
          · rw [if_pos ha2]
          · rw [if_neg ha2, if_neg (by omega)]
            rw [List.eraseIdx_of_length_le (by omega)]
theorem dpT_all (gs : List Gt) (a b : Nat) (hab : a < b) : dpT gs a b gs.length = drop2 gs a b := by
  rw [dpT_is gs a b hab _ (Nat.le_refl _), List.take_length]
theorem dpT_len (gs : List Gt) (a b k : Nat) : (dpT gs a b k).length ≤ k := by
  induction k with
  | zero => simp [dpT]
  | succ k ih =>
    unfold dpT
    split
    · omega
    · simp; omega
theorem drop2_len {gs : List Gt} {a b : Nat} (hab : a < b) (hb : b < gs.length) : (drop2 gs a b).length + 2 = gs.length := by
  unfold drop2
  rw [List.length_eraseIdx, List.length_eraseIdx, if_pos hb, if_pos (by omega)]
  omega
theorem drop2_mem {gs : List Gt} {a b : Nat} {g : Gt} (h : g ∈ drop2 gs a b) : g ∈ gs := List.mem_of_mem_eraseIdx (List.mem_of_mem_eraseIdx h)
theorem drop2_circ {l : Int} {gs : List Gt} {a b : Nat} (h : circB l gs = true) : circB l (drop2 gs a b) = true := by
  obtain ⟨h1, h2, h3⟩ := circB_t h
  have h4 : (drop2 gs a b).all (gateB l) = true := by
    rw [List.all_eq_true] at *
    exact fun g hg => h1 g (drop2_mem hg)
  have h5 : (drop2 gs a b).length ≤ 24 := by
    have h6 := List.length_eraseIdx_le (gs.eraseIdx b) a
    have h7 := List.length_eraseIdx_le gs b
    unfold drop2
    omega
  unfold circB
  rw [h4, h2, decide_eq_true h5]
  rfl

/-- pairs are taken out, at most so many times -/
def shN : Nat → List Gt → List Gt
  | 0, gs => gs
  | k + 1, gs => if 0 ≤ useA gs then shN k (drop2 gs (useA gs).toNat (useB gs).toNat) else gs
theorem shN_stop {gs : List Gt} (h : useA gs < 0) (k : Nat) : shN k gs = gs := by
  cases k with
  | zero => rfl
  | succ k => unfold shN; rw [if_neg (by omega)]
theorem shN_go {gs : List Gt} (h : 0 ≤ useA gs) (k : Nat) : shN (k + 1) gs = shN k (drop2 gs (useA gs).toNat (useB gs).toNat) := by
  show (if _ then _ else _) = _
  rw [if_pos h]
theorem shN_len (k : Nat) (gs : List Gt) : (shN k gs).length ≤ gs.length := by
  induction k generalizing gs with
  | zero => exact Nat.le_refl _
  | succ k ih =>
    unfold shN
    split
    · have := ih (drop2 gs (useA gs).toNat (useB gs).toNat)
      have h6 := List.length_eraseIdx_le (gs.eraseIdx (useB gs).toNat) (useA gs).toNat
      have h7 := List.length_eraseIdx_le gs (useB gs).toNat
      unfold drop2 at this ⊢
      omega
    · exact Nat.le_refl _
/-- the pair, where there is one -/
theorem use_pair (gs : List Gt) : useA gs = -1 ∨ ∃ a b : Nat, useA gs = a ∧ useB gs = b ∧ a < b ∧ b < gs.length := by
  rcases useP_is gs with ⟨h, _, _⟩ | ⟨a, b, h1, h2, h3, h4, _⟩
  · exact .inl h
  · exact .inr ⟨a, b, h1, h2, h3, h4⟩
/-- what CircuitShort answers -/
def shoL (l : Int) (gs : List Gt) : List Gt := if circB l gs = true then shN gs.length gs else []
theorem shoL_y {l : Int} {gs : List Gt} (h : circB l gs = true) : shoL l gs = shN gs.length gs := if_pos h
theorem shoL_n {l : Int} {gs : List Gt} (h : circB l gs = false) : shoL l gs = [] := if_neg (by rw [h]; decide)
theorem shoL_bd (l : Int) (gs : List Gt) (h : gs.length ≤ 1048576) : (shoL l gs).length ≤ 1048576 := by
  unfold shoL
  split
  · have := shN_len gs.length gs; omega
  · simp

set_option maxHeartbeats 2000000 in
theorem cloneG_any (A : Option Addr) (n c B : Nat) (gs : List Gt) (w : World) (h : Reads w B 4 A n (gcells gs)) (hB : B ≤ w.heap.size) (hz : gs.length = n) (hn : n ≤ 1048576) :
    Calls Try.prog 56 #[.slice A n c] w fun e w' => RetRow n (gcells gs) w e w' := by
  obtain ⟨ig, gi, gz0, gz1, gz2⟩ := info_parts infoGate
  have qT : ∀ (w : World) (a : Option Addr) (n c n' c' : Nat), (binOp .eql 26 (.slice a n c) (.slice none n' c')).run Try.prog w = .ok (.bool a.isNone) w := fun w a n c n' c' => Lib.run_eql_slice_nil w _ _ a n c n' c' Try.underlying26
  rcases A with _ | A
  · have h0 : n = 0 := by
      rcases Nat.eq_zero_or_pos n with h0 | h0
      · exact h0
      · obtain ⟨ad, h, _⟩ := h.2 h0
        cases h
    subst h0
    have hg : gs = [] := List.eq_nil_of_length_eq_zero hz
    subst hg
    clear h hz
    go_enter Try.func56, Try.ntmps56
    go_wp2_with fail
    go_ret
    exact ⟨_, rfl, World.ownsRow_nil _ _ _ _, Below.refl _ _⟩
  · have HR := Lib.hid h
    have hone := gcells_ok gs
    have own0 := World.ownsRow_made (base := w.heap.size) (e := 48) (size := 4) w #[] 0 (Nat.le_refl _) (by simp [maxLen]) rfl
    have rd := h.next ((Below.refl w.heap.size w).alloc (Nat.le_refl _) (Obj.cells #[] 48)) hB
    clear h hz
    go_enter Try.func56, Try.ntmps56
    go_wp2_with (at_builtin; refine wpList_append_any _ rfl _ _ 26 rfl w.heap.size 48 ig (.agg #[.int .i64 0, .int .i64 0, .int .i64 0, .int .i64 0]) 4 32 Try.underlying26 gi gz0 gz1 gz2 rfl (by decide) (.slice (some ⟨w.heap.size, 0, none⟩) 0 0) 0 [] rfl own0 B (some A) n c (gcells gs) rfl rd hone (by unfold maxLen; omega) (by omega) (by simp) ?_; intro v' w3 hown' hgrow _)
    have hb' := ((Below.refl w.heap.size w).alloc (Nat.le_refl _) (Obj.cells #[] 48)).grown hgrow (by simp) (fun q e => by simp [Value.ownBlock] at e; omega)
    rw [Nat.zero_add, List.nil_append] at hown'
    go_wp2_with fail
    go_ret
    exact ⟨_, rfl, hown', hb'⟩

set_option maxHeartbeats 4000000 in
set_option maxRecDepth 50000 in
theorem l2Drop_any (A : Option Addr) (n c B a b : Nat) (gs : List Gt) (w : World) (h : Reads w B 4 A n (gcells gs)) (hB : B ≤ w.heap.size) (hz : gs.length = n) (hn : n ≤ 1048576) :
    Calls Try.prog 31 #[.slice A n c, .int .i64 a, .int .i64 b] w fun e w' => RetRow (dpT gs a b n).length (gcells (dpT gs a b n)) w e w' := by
  obtain ⟨ig, gi, gz0, gz1, gz2⟩ := info_parts infoGate
  have HR := Lib.hid h
  have HZ := Lib.hid hz
  have HL := Lib.hid (fun k => dpT_len gs a b k)
  clear h hz
  go_enter Try.func31, Try.ntmps31
  go_wp2_with fail
  go_loopg [7, 8] n (fun gh v i wr => ∃ k : Nat, k ≤ n ∧ gh = n - k ∧ i = .int .i64 k ∧ wr.ownsRow w.heap.size 48 4 v (dpT gs a b k).length (gcells (dpT gs a b k)) ∧ Below w.heap.size w wr)
  case atStart => exact ⟨0, Nat.zero_le _, rfl, rfl, by simpa [dpT, gcells] using World.ownsRow_made (base := w.heap.size) (e := 48) (size := 4) w #[] 0 (Nat.le_refl _) (by simp [maxLen]) rfl, (Below.refl _ _).alloc (Nat.le_refl _) _⟩
  case round =>
    obtain ⟨k, hk, hg, rfl, hown, hb⟩ := hrel
    have Hg := Lib.hid hg
    have hsz := hb.size
    obtain ⟨A5, c5, rfl, hc5⟩ := own_shape hown
    have hll := HL.out k
    have Hown := Lib.hid hown
    obtain ⟨L, eL⟩ : ∃ L, L = (dpT gs a b k).length := ⟨_, rfl⟩
    rw [← eL] at hll hc5 Hown ⊢
    have EL := Lib.hid eL
    clear hg hown eL
    by_cases hlt : k < n
    · have hlt' : (k : Int) < (n : Int) := by omega
      by_cases hka : k = a
      · have hka' : ((k : Int) != (a : Int)) = false := by simp [hka]
        have hd : Hid (dpT gs a b (k + 1) = dpT gs a b k) := Lib.hid (by show (if _ then _ else _) = _; rw [if_pos (.inl hka)])
        clear hka
        go_wp2_with fail
        go_roundg (n - (k + 1))
        case measure => have := Hg.out; omega
        case rel => exact ⟨k + 1, by omega, rfl, by go_num, by rw [hd.out, ← EL.out]; exact Hown.out, hb⟩
      · have hka' : ((k : Int) != (a : Int)) = true := by simp; omega
        by_cases hkb : k = b
        · have hkb' : ((k : Int) != (b : Int)) = false := by simp [hkb]
          have hd : Hid (dpT gs a b (k + 1) = dpT gs a b k) := Lib.hid (by show (if _ then _ else _) = _; rw [if_pos (.inr hkb)])
          clear hka hkb
          go_wp2_with fail
          go_roundg (n - (k + 1))
          case measure => have := Hg.out; omega
          case rel => exact ⟨k + 1, by omega, rfl, by go_num, by rw [hd.out, ← EL.out]; exact Hown.out, hb⟩
        · have hkb' : ((k : Int) != (b : Int)) = true := by simp; omega
          have hd : Hid (dpT gs a b (k + 1) = dpT gs a b k ++ [gs.getD k g0]) := Lib.hid (by show (if _ then _ else _) = _; rw [if_neg (by omega)])
          obtain ⟨bb, o, rfl, hbB, hcell⟩ := HR.out.openG HZ.out (by omega)
          obtain ⟨g, eg⟩ : ∃ g, g = gs.getD k g0 := ⟨_, rfl⟩
          have hgat := (hcell k hlt).below hb (by omega)
          rw [← eg] at hgat hd
          obtain ⟨x0, x1, x2, x3⟩ := g
          obtain ⟨q0, q1, q2, q3⟩ := hgat
          simp only at q0 q1 q2 q3
          have Hsn : Hid (gcells (dpT gs a b (k + 1)) = gcells (dpT gs a b k) ++ [.int .i64 x0, .int .i64 x1, .int .i64 x2, .int .i64 x3]) := Lib.hid (by rw [hd.out, gcells_app, gcells_one]; rfl)
          have Hln : Hid ((dpT gs a b (k + 1)).length = L + 1) := Lib.hid (by rw [hd.out, List.length_append, EL.out]; rfl)
          have hlw := Hown.out.lt
          clear hka hkb hcell eg hd
          go_wp2_with (at_builtin; refine wpList_append_own _ rfl _ _ 26 rfl w.heap.size 48 ig (.agg #[.int .i64 0, .int .i64 0, .int .i64 0, .int .i64 0]) 4 32 Try.underlying26 gi gz0 gz1 gz2 rfl (by decide) _ _ _ rfl (Hown.out.alloc _) ⟨wr.heap.size, 0, none⟩ 1 1 [.int .i64 x0, .int .i64 x1, .int .i64 x2, .int .i64 x3] rfl rfl (cells_newAt _ _ _ (by first | rfl | simp | simp [World.setCell])) (by simp [Value.oneCell']) (by unfold maxLen; omega) (by omega) (by simp; omega) ?_; intro v' w3 hown' hgrow _)
          have hb3 := (hb.alloc hsz (Obj.cells #[.int .i64 x0, .int .i64 x1, .int .i64 x2, .int .i64 x3] 48)).grown hgrow (by simp; omega) (fun q e => (hlw q e).1)
          clear hlw hgrow
          go_wp2_with fail
          go_roundg (n - (k + 1))
          case measure => have := Hg.out; omega
          case rel => exact ⟨k + 1, by omega, rfl, by go_num, by rw [Hln.out, Hsn.out]; exact hown', hb3⟩
    · have hlt' : ¬ (k : Int) < (n : Int) := by omega
      obtain rfl : k = n := by omega
      go_wp2_with fail
      go_ret
      rw [← EL.out]
      exact ⟨_, rfl, Hown.out, hb⟩
end Go.Proofs.Ytpahhgehamgkaaa
