/- Contracts of slices.Index, slices.Contains, slices.ContainsFunc at numbers, and of impl's touches and apart. -/
import Derived.Test.YtpahhgehamgkaaaChgM
namespace Go.Proofs.Ytpahhgehamgkaaa
open Go.RowKit
set_option linter.unusedVariables false
set_option linter.unusedSimpArgs false

theorem cell_next {w w' : World} {p : Addr} {v : Value} (hb : Below w.heap.size w w') (h : w.cell? p = some v) : w'.cell? p = some v := (hb.cell (World.block_lt_of_cell? _ _ h)).trans h

/-- an index, or -1 -/
def IdxI (q : Bool) (w : World) (e : Ending) (w' : World) : Prop := ∃ i : Int, e = .returned (.int .i64 i) ∧ (0 ≤ i ↔ q = true) ∧ -1 ≤ i ∧ i ≤ 1048576 ∧ w = w'
theorem index_any (A : Option Addr) (n c B : Nat) (zs : List Int) (x : Int) (w : World) (h : Reads w B 1 A n (zs.map (Value.int .i64))) (hz : zs.length = n) (hn : n ≤ 1048576) :
    Calls Try.prog 78 #[.slice A n c, .int .i64 x] w fun e w' => IdxI (hasB zs x) w e w' := by
  have HR := Lib.hid h
  have HZ := Lib.hid hz
  clear h hz
  go_enter Try.func78, Try.ntmps78
  go_wp2_with fail
  go_loopg [8] n (fun gh i wr => ∃ k : Nat, k ≤ n ∧ gh = n - k ∧ i = .int .i64 k ∧ hasB (zs.take k) x = false ∧ w = wr)
  case atStart => exact ⟨0, Nat.zero_le _, rfl, rfl, rfl, rfl⟩
  case round =>
    obtain ⟨k, hk, hg, rfl, hno, rfl⟩ := hrel
    have Hg := Lib.hid hg
    have Hno := Lib.hid hno
    clear hg hno
    by_cases hlt : k < n
    · obtain ⟨b, o, rfl, hbB, hcell⟩ := HR.out.open1 HZ.out (by omega)
      have hs := hasB_snoc zs k (by have := HZ.out; omega) x
      have hc := hcell k hlt
      obtain ⟨z, ez⟩ : ∃ z, z = zs.getD k 0 := ⟨_, rfl⟩
      rw [← ez] at hs hc
      rw [Hno.out, Bool.false_or] at hs
      have hlt' : (k : Int) < (n : Int) := by omega
      clear hcell ez
      by_cases he : x = z
      · subst he
        have Hs : Hid (hasB zs x = true) := Lib.hid (hasB_take (k := k + 1) (by rw [hs]; simp))
        clear hs
        go_wp2_with fail
        go_ret
        exact ⟨k, rfl, ⟨fun _ => Hs.out, fun _ => by omega⟩, by omega, by omega, rfl⟩
      · have he' : (x == z) = false := by simp [he]
        have Hs : Hid (hasB (zs.take (k + 1)) x = false) := Lib.hid (by rw [hs]; simp; exact fun e => he e.symm)
        clear hs he
        go_wp2_with fail
        go_roundg (n - (k + 1))
        case measure => have := Hg.out; omega
        case rel => exact ⟨k + 1, by omega, rfl, by go_num, Hs.out, rfl⟩
    · have hlt' : ¬ (k : Int) < (n : Int) := by omega
      have Hf : Hid (hasB zs x = false) := Lib.hid (by
        have h2 := Hno.out
        rwa [List.take_of_length_le (by have := HZ.out; omega)] at h2)
      go_wp2_with fail
      go_ret
      exact ⟨-1, rfl, ⟨fun h => absurd h (by decide), fun h => by rw [Hf.out] at h; cases h⟩, by decide, by decide, rfl⟩
theorem contains_any (A : Option Addr) (n c B : Nat) (zs : List Int) (x : Int) (w : World) (h : Reads w B 1 A n (zs.map (Value.int .i64))) (hz : zs.length = n) (hn : n ≤ 1048576) :
    Calls Try.prog 74 #[.slice A n c, .int .i64 x] w fun e w' => e = .returned (.bool (hasB zs x)) ∧ w = w' := by
  have HI := Lib.hid (index_any A n c B zs x w h hz hn)
  clear h hz
  cases hq : hasB zs x with
  | false =>
    rw [hq] at HI
    clear hq
    go_enter Try.func74, Try.ntmps74
    go_wp2_with fail
    refine HI.out.mono ?_
    rintro e w1 ⟨i, rfl, hi, hi1, hi2, rfl⟩
    have h0 : ¬ 0 ≤ i := fun h => by have := hi.1 h; cases this
    clear hi
    go_wp2_with fail
    go_ret
    exact ⟨by first | (simp; done) | (simp; omega), rfl⟩
  | true =>
    rw [hq] at HI
    clear hq
    go_enter Try.func74, Try.ntmps74
    go_wp2_with fail
    refine HI.out.mono ?_
    rintro e w1 ⟨i, rfl, hi, hi1, hi2, rfl⟩
    have h0 : 0 ≤ i := hi.2 rfl
    clear hi
    go_wp2_with fail
    go_ret
    exact ⟨by first | (simp; done) | (simp; omega), rfl⟩

theorem tc1_any (line k a b c : Int) (ad : Nat) (w : World) (h0 : w.cell? ⟨ad, 0, none⟩ = some (.int .i64 k)) (h1 : w.cell? ⟨ad, 1, none⟩ = some (.int .i64 a)) (h2 : w.cell? ⟨ad, 2, none⟩ = some (.int .i64 b)) (h3 : w.cell? ⟨ad, 3, none⟩ = some (.int .i64 c)) :
    Calls Try.prog 73 #[.int .i64 line, .pointer (some ⟨ad, 0, none⟩)] w fun e w' => e = .returned (.bool (hasB (linesOf ⟨k, a, b, c⟩) line)) ∧ Below w.heap.size w w' := by
  have HL := Lib.hid (implLinesOf_any ⟨k, a, b, c⟩ w)
  have hlen := linesOf_len ⟨k, a, b, c⟩
  obtain ⟨zs, ezs⟩ : ∃ zs, zs = linesOf ⟨k, a, b, c⟩ := ⟨_, rfl⟩
  rw [← ezs] at HL hlen ⊢
  clear ezs
  go_enter Try.func73, Try.ntmps73
  go_wp2_with fail
  refine HL.out.mono ?_
  rintro e w1 ⟨A, cp, rfl, hcp, ho, hb1⟩
  have HC := Lib.hid (contains_any A zs.length cp _ zs line w1 (ho.reads (size := 1) (by simp) (by omega)) rfl (by omega))
  clear ho
  go_wp2_with fail
  refine HC.out.mono ?_
  rintro e w2 ⟨rfl, rfl⟩
  go_wp2_with fail
  go_ret
  exact ⟨rfl, hb1⟩

/-- whether a list has a line of a gate -/
def anyH (zs : List Int) (h : Gt) : Bool := zs.any (fun x => hasB (linesOf h) x)
theorem anyH_snoc (zs : List Int) (k : Nat) (hk : k < zs.length) (h : Gt) : anyH (zs.take (k + 1)) h = (anyH (zs.take k) h || hasB (linesOf h) (zs.getD k 0)) := by
  unfold anyH
  rw [List.take_succ_eq_append_getElem hk, List.any_append]
  simp [List.getD, List.getElem?_eq_getElem hk]
theorem anyH_take {zs : List Int} {k : Nat} {h : Gt} (h' : anyH (zs.take k) h = true) : anyH zs h = true := by
  unfold anyH at *
  rw [List.any_eq_true] at *
  obtain ⟨y, hy, h⟩ := h'
  exact ⟨y, List.mem_of_mem_take hy, h⟩
def IdxB (q : Bool) (w : World) (e : Ending) (w' : World) : Prop := ∃ i : Int, e = .returned (.int .i64 i) ∧ (0 ≤ i ↔ q = true) ∧ -1 ≤ i ∧ i ≤ 1048576 ∧ Below w.heap.size w w'
set_option maxHeartbeats 1000000 in
theorem idxTc_any (ad : Nat) (h : Gt) (A : Option Addr) (n c B : Nat) (zs : List Int) (w : World) (hB4 : Blk w ad 48 #[.int .i64 h.k, .int .i64 h.a, .int .i64 h.b, .int .i64 h.c]) (hr : Reads w B 1 A n (zs.map (Value.int .i64))) (hB : B ≤ w.heap.size) (hz : zs.length = n) (hn : n ≤ 1048576) :
    Calls Try.prog 76 #[.slice A n c, .func (.func 73) #[] #[.pointer (some ⟨ad, 0, none⟩)]] w fun e w' => IdxB (anyH zs h) w e w' := by
  have HR := Lib.hid hr
  have HZ := Lib.hid hz
  have H4 := Lib.hid hB4
  clear hr hz hB4
  go_enter Try.func76, Try.ntmps76
  go_wp2_with fail
  go_loopg [8] n (fun gh i wr => ∃ k : Nat, k ≤ n ∧ gh = n - k ∧ i = .int .i64 k ∧ anyH (zs.take k) h = false ∧ Below w.heap.size w wr)
  case atStart => exact ⟨0, Nat.zero_le _, rfl, rfl, rfl, Below.refl _ _⟩
  case round =>
    obtain ⟨k, hk, hg, rfl, hok, hb⟩ := hrel
    have Hg := Lib.hid hg
    have Hok := Lib.hid hok
    clear hg hok
    by_cases hlt : k < n
    · obtain ⟨b, o, rfl, hbB, hcell⟩ := HR.out.open1 HZ.out (by omega)
      have hs := anyH_snoc zs k (by have := HZ.out; omega) h
      obtain ⟨x, ex⟩ : ∃ x, x = zs.getD k 0 := ⟨_, rfl⟩
      have hc := (hb.cell (p := ⟨b, o + k, none⟩) (by simp; omega)).trans (hcell k hlt)
      rw [← ex] at hc hs
      rw [Hok.out, Bool.false_or] at hs
      have hb4 := H4.out.next hb
      have HV := Lib.hid (tc1_any x h.k h.a h.b h.c ad wr (hb4.cell 0) (hb4.cell 1) (hb4.cell 2) (hb4.cell 3))
      obtain ⟨v, ev⟩ : ∃ v, v = hasB (linesOf h) x := ⟨_, rfl⟩
      have ev' : v = hasB (linesOf ⟨h.k, h.a, h.b, h.c⟩) x := ev
      rw [← ev'] at HV
      rw [← ev] at hs
      have Hs := Lib.hid hs
      have hlt' : (k : Int) < (n : Int) := by omega
      clear hcell ex hs ev ev' hb4
      cases v with
      | true =>
        have Hf := Lib.hid (anyH_take Hs.out)
        go_wp2_with fail
        refine HV.out.mono ?_
        rintro e w1 ⟨rfl, hb1⟩
        go_wp2_with fail
        go_ret
        exact ⟨k, rfl, ⟨fun _ => Hf.out, fun _ => by omega⟩, by omega, by omega, bnext hb hb1 (Nat.le_refl _)⟩
      | false =>
        go_wp2_with fail
        refine HV.out.mono ?_
        rintro e w1 ⟨rfl, hb1⟩
        go_wp2_with fail
        go_roundg (n - (k + 1))
        case measure => have := Hg.out; omega
        case rel => exact ⟨k + 1, by omega, rfl, by go_num, Hs.out, bnext hb hb1 (Nat.le_refl _)⟩
    · have hlt' : ¬ (k : Int) < (n : Int) := by omega
      have Hf : Hid (anyH zs h = false) := Lib.hid (by
        have h2 := Hok.out
        rwa [List.take_of_length_le (by have := HZ.out; omega)] at h2)
      go_wp2_with fail
      go_ret
      exact ⟨-1, rfl, ⟨fun h => absurd h (by decide), fun h => by rw [Hf.out] at h; cases h⟩, by decide, by decide, hb⟩

theorem hasTc_any (ad : Nat) (h : Gt) (A : Option Addr) (n c B : Nat) (zs : List Int) (w : World) (hB4 : Blk w ad 48 #[.int .i64 h.k, .int .i64 h.a, .int .i64 h.b, .int .i64 h.c]) (hr : Reads w B 1 A n (zs.map (Value.int .i64))) (hB : B ≤ w.heap.size) (hz : zs.length = n) (hn : n ≤ 1048576) :
    Calls Try.prog 71 #[.slice A n c, .func (.func 73) #[] #[.pointer (some ⟨ad, 0, none⟩)]] w fun e w' => e = .returned (.bool (anyH zs h)) ∧ Below w.heap.size w w' := by
  have HI := Lib.hid (idxTc_any ad h A n c B zs w hB4 hr hB hz hn)
  clear hB4 hr hz
  cases hq : anyH zs h with
  | false =>
    rw [hq] at HI
    clear hq
    go_enter Try.func71, Try.ntmps71
    go_wp2_with fail
    refine HI.out.mono ?_
    rintro e w1 ⟨i, rfl, hi, hi1, hi2, hb1⟩
    have h0 : ¬ 0 ≤ i := fun h => by have := hi.1 h; cases this
    clear hi
    go_wp2_with fail
    go_ret
    exact ⟨by first | (simp; done) | (simp; omega), hb1⟩
  | true =>
    rw [hq] at HI
    clear hq
    go_enter Try.func71, Try.ntmps71
    go_wp2_with fail
    refine HI.out.mono ?_
    rintro e w1 ⟨i, rfl, hi, hi1, hi2, hb1⟩
    have h0 : 0 ≤ i := hi.2 rfl
    clear hi
    go_wp2_with fail
    go_ret
    exact ⟨by first | (simp; done) | (simp; omega), hb1⟩

/-- whether a gate changes a line that another one has -/
def touB (g h : Gt) : Bool := anyH (chL g) h
def apB (g h : Gt) : Bool := !touB g h && !touB h g
set_option maxHeartbeats 1000000 in
theorem touches_any (g h : Gt) (w : World) (hk : g.k = 0 ∨ g.k = 1 ∨ g.k = 2 ∨ g.k = 3 ∨ g.k = 4) :
    Calls Try.prog 66 #[g.val, h.val] w fun e w' => e = .returned (.bool (touB g h)) ∧ Below w.heap.size w w' := by
  have HC := Lib.hid (fun W => changes_any g W hk)
  have hlen := chL_len g
  have HT : Hid (touB g h = anyH (chL g) h) := Lib.hid rfl
  obtain ⟨zs, ezs⟩ : ∃ zs, zs = chL g := ⟨_, rfl⟩
  rw [← ezs] at HC HT hlen
  have HW := Lib.hid (fun (w : World) o W1 (hb : Below ((w.alloc o).alloc (.cells #[.int .i64 h.k, .int .i64 h.a, .int .i64 h.b, .int .i64 h.c] 48)).heap.size ((w.alloc o).alloc (.cells #[.int .i64 h.k, .int .i64 h.a, .int .i64 h.b, .int .i64 h.c] 48)) W1) => (show Blk W1 (w.heap.size + 1) 48 #[.int .i64 h.k, .int .i64 h.a, .int .i64 h.b, .int .i64 h.c] ∧ Below w.heap.size w W1 from ⟨by
    have := (Blk.new (w.alloc o) 48 #[.int .i64 h.k, .int .i64 h.a, .int .i64 h.b, .int .i64 h.c]).below hb (by simp)
    simpa using this, (((Below.refl w.heap.size w).alloc (Nat.le_refl _) o).alloc (by simp) _).trans (hb.mono (by simp; omega))⟩))
  obtain ⟨k, a, b, c⟩ := g
  clear ezs hk
  unfold Gt.val at *
  obtain ⟨hk, ha, hb, hc⟩ := h
  dsimp only at *
  go_enter Try.func66, Try.ntmps66
  go_wp2_with fail
  refine (HC.out _).mono ?_
  rintro e w1 ⟨A, cp, rfl, hcp, ho, hb1⟩
  obtain ⟨hB4, hb0⟩ := HW.out _ _ _ hb1
  have HF := Lib.hid (hasTc_any (w.heap.size + 1) ⟨hk, ha, hb, hc⟩ A zs.length cp _ zs w1 hB4 (ho.reads (size := 1) (by simp) (by omega)) (Nat.le_refl _) rfl (by omega))
  clear ho hB4 HW HC
  go_wp2_with fail
  refine HF.out.mono ?_
  rintro e w2 ⟨rfl, hb2⟩
  go_wp2_with fail
  go_ret
  exact ⟨ret_bool HT.out.symm, bnext hb0 hb2 (Nat.le_refl _)⟩

set_option maxHeartbeats 1000000 in
theorem apart_any (g h : Gt) (w : World) (hk : g.k = 0 ∨ g.k = 1 ∨ g.k = 2 ∨ g.k = 3 ∨ g.k = 4) (hk' : h.k = 0 ∨ h.k = 1 ∨ h.k = 2 ∨ h.k = 3 ∨ h.k = 4) :
    Calls Try.prog 55 #[g.val, h.val] w fun e w' => e = .returned (.bool (apB g h)) ∧ Below w.heap.size w w' := by
  have H1 := Lib.hid (fun W => touches_any g h W hk)
  have H2 := Lib.hid (fun W => touches_any h g W hk')
  clear hk hk'
  obtain ⟨p, ep⟩ : ∃ p, p = touB g h := ⟨_, rfl⟩
  obtain ⟨q, eq⟩ : ∃ q, q = touB h g := ⟨_, rfl⟩
  have hA : apB g h = (!p && !q) := by rw [ep, eq]; rfl
  rw [← ep] at H1
  rw [← eq] at H2
  rw [hA]
  clear ep eq hA
  obtain ⟨k, a, b, c⟩ := g
  obtain ⟨k', a', b', c'⟩ := h
  unfold Gt.val at *
  dsimp only at *
  have HB := Lib.hid (fun (w : World) W1 hb => @box2 w W1 48 48 #[.int .i64 k, .int .i64 a, .int .i64 b, .int .i64 c] #[.int .i64 k', .int .i64 a', .int .i64 b', .int .i64 c'] hb)
  cases p
  · go_enter Try.func55, Try.ntmps55
    go_wp2_with fail
    refine (H1.out _).mono ?_
    rintro e w1 ⟨rfl, hb1⟩
    obtain ⟨b1, b2, hb0⟩ := HB.out _ _ hb1
    have x0 : w1.cell? ⟨w.heap.size, 0, none⟩ = some (.int .i64 k) := b1.cell 0
    have x1 : w1.cell? ⟨w.heap.size, 1, none⟩ = some (.int .i64 a) := b1.cell 1
    have x2 : w1.cell? ⟨w.heap.size, 2, none⟩ = some (.int .i64 b) := b1.cell 2
    have x3 : w1.cell? ⟨w.heap.size, 3, none⟩ = some (.int .i64 c) := b1.cell 3
    have y0 : w1.cell? ⟨w.heap.size + 1, 0, none⟩ = some (.int .i64 k') := b2.cell 0
    have y1 : w1.cell? ⟨w.heap.size + 1, 1, none⟩ = some (.int .i64 a') := b2.cell 1
    have y2 : w1.cell? ⟨w.heap.size + 1, 2, none⟩ = some (.int .i64 b') := b2.cell 2
    have y3 : w1.cell? ⟨w.heap.size + 1, 3, none⟩ = some (.int .i64 c') := b2.cell 3
    clear hb1 b1 b2
    go_wp2_with fail
    refine (H2.out _).mono ?_
    rintro e w2 ⟨rfl, hb2⟩
    cases q
    all_goals
      go_wp2_with fail
      go_ret
      exact ⟨rfl, bnext hb0 hb2 (Nat.le_refl _)⟩
  · go_enter Try.func55, Try.ntmps55
    go_wp2_with fail
    refine (H1.out _).mono ?_
    rintro e w1 ⟨rfl, hb1⟩
    obtain ⟨b1, b2, hb0⟩ := HB.out _ _ hb1
    go_wp2_with fail
    go_ret
    exact ⟨by cases q <;> rfl, hb0⟩
end Go.Proofs.Ytpahhgehamgkaaa
