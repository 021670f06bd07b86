/- Contracts of both Apart. -/
import Derived.Deep.RegionHeld3
import Derived.Test.YtpahhgehamgkaaaApI
namespace Go.Proofs.Ytpahhgehamgkaaa
open Go.RowKit
set_option linter.unusedVariables false
set_option linter.unusedSimpArgs false

/-- what Apart answers -/
def apartB (l : Int) (g h : Gt) : Bool := gateB l g && (gateB l h && apB g h)
theorem apartB_a {l : Int} {g h : Gt} (hv : gateB l g = false) : apartB l g h = false := by unfold apartB; rw [hv]; rfl
theorem apartB_b {l : Int} {g h : Gt} (hv : gateB l h = false) : apartB l g h = false := by unfold apartB; rw [hv]; simp
theorem apartB_y {l : Int} {g h : Gt} (hv : gateB l g = true) (hw : gateB l h = true) : apartB l g h = apB g h := by unfold apartB; rw [hv, hw]; rfl
/-- two gates lie in boxes -/
def Two4 (w w1 : World) (g h : Gt) : Prop :=
  (w1.cell? ⟨w.heap.size, 0, none⟩ = some (.int .i64 g.k) ∧ w1.cell? ⟨w.heap.size, 1, none⟩ = some (.int .i64 g.a) ∧ w1.cell? ⟨w.heap.size, 2, none⟩ = some (.int .i64 g.b) ∧ w1.cell? ⟨w.heap.size, 3, none⟩ = some (.int .i64 g.c)) ∧
  (w1.cell? ⟨w.heap.size + 1, 0, none⟩ = some (.int .i64 h.k) ∧ w1.cell? ⟨w.heap.size + 1, 1, none⟩ = some (.int .i64 h.a) ∧ w1.cell? ⟨w.heap.size + 1, 2, none⟩ = some (.int .i64 h.b) ∧ w1.cell? ⟨w.heap.size + 1, 3, none⟩ = some (.int .i64 h.c))
theorem Two4.next {w w1 w2 : World} {g h : Gt} (t : Two4 w w1 g h) (hb : Below w1.heap.size w1 w2) : Two4 w w2 g h :=
  ⟨⟨cell_next hb t.1.1, cell_next hb t.1.2.1, cell_next hb t.1.2.2.1, cell_next hb t.1.2.2.2⟩, ⟨cell_next hb t.2.1, cell_next hb t.2.2.1, cell_next hb t.2.2.2.1, cell_next hb t.2.2.2.2⟩⟩
theorem two4_of {w w1 : World} {t t' : TypeId} {k a b c k' a' b' c' : Int} (h : Below ((w.alloc (.cells #[.int .i64 k, .int .i64 a, .int .i64 b, .int .i64 c] t)).alloc (.cells #[.int .i64 k', .int .i64 a', .int .i64 b', .int .i64 c'] t')).heap.size ((w.alloc (.cells #[.int .i64 k, .int .i64 a, .int .i64 b, .int .i64 c] t)).alloc (.cells #[.int .i64 k', .int .i64 a', .int .i64 b', .int .i64 c'] t')) w1) :
    Two4 w w1 ⟨k, a, b, c⟩ ⟨k', a', b', c'⟩ ∧ Below w.heap.size w w1 := by
  obtain ⟨b1, b2, hb⟩ := box2 h
  exact ⟨⟨⟨b1.cell 0, b1.cell 1, b1.cell 2, b1.cell 3⟩, ⟨b2.cell 0, b2.cell 1, b2.cell 2, b2.cell 3⟩⟩, hb⟩


/-- one round of a loop of spec.Apart: whether the other gate has the line -/
theorem anyH_nil (h : Gt) : anyH [] h = false := rfl
theorem specApart_eq (l : Int) (g h : Gt) (h1 : anyH (chgL l g) h = false) (h2 : anyH (chgL l h) g = false) : apartB l g h = (gateB l g && gateB l h) := by
  unfold apartB
  cases h3 : gateB l g with
  | false => rfl
  | true =>
    cases h4 : gateB l h with
    | false => rfl
    | true =>
      rw [chgL_y h3] at h1
      rw [chgL_y h4] at h2
      unfold apB touB
      rw [h1, h2]
      rfl
theorem specApart_n1 {l : Int} {g h : Gt} (h1 : anyH (chgL l g) h = true) : apartB l g h = false := by
  unfold apartB
  cases h3 : gateB l g with
  | false => rfl
  | true =>
    rw [chgL_y h3] at h1
    unfold apB touB
    rw [h1]
    simp
theorem specApart_n2 {l : Int} {g h : Gt} (h1 : anyH (chgL l h) g = true) : apartB l g h = false := by
  unfold apartB
  cases h4 : gateB l h with
  | false => simp
  | true =>
    rw [chgL_y h4] at h1
    unfold apB touB
    rw [h1]
    simp

set_option maxHeartbeats 4000000 in
set_option maxRecDepth 50000 in
theorem specApart_any (l : Int) (g h : Gt) (w : World) :
    Calls Try.prog 27 #[.int .i64 l, g.val, h.val] w fun e w' => e = .returned (.bool (apartB l g h)) ∧ Below w.heap.size w w' := by
  have C1 := Lib.hid (fun W => specChanges_any l g W)
  have C2 := Lib.hid (fun W => specChanges_any l h W)
  have L1 := Lib.hid (fun W => specLinesOf_any g W)
  have L2 := Lib.hid (fun W => specLinesOf_any h W)
  have V1 := Lib.hid (fun W => specGateValid_any l g W)
  have V2 := Lib.hid (fun W => specGateValid_any l h W)
  have hl1 := chgL_len l g
  have hl2 := chgL_len l h
  have hn1 := linesOf_len g
  have hn2 := linesOf_len h
  have HE := Lib.hid (specApart_eq l g h)
  have HN1 := Lib.hid (@specApart_n1 l g h)
  have HN2 := Lib.hid (@specApart_n2 l g h)
  have HS1 := Lib.hid (fun (zs : List Int) (k : Nat) hk => anyH_snoc zs k hk h)
  have HS2 := Lib.hid (fun (zs : List Int) (k : Nat) hk => anyH_snoc zs k hk g)
  have HT1 := Lib.hid (fun (zs : List Int) (k : Nat) => @anyH_take zs k h)
  have HT2 := Lib.hid (fun (zs : List Int) (k : Nat) => @anyH_take zs k g)
  obtain ⟨xs, exs⟩ : ∃ xs, xs = chgL l g := ⟨_, rfl⟩
  obtain ⟨ys, eys⟩ : ∃ ys, ys = chgL l h := ⟨_, rfl⟩
  obtain ⟨ms, ems⟩ : ∃ ms, ms = linesOf h := ⟨_, rfl⟩
  obtain ⟨ns, ens⟩ : ∃ ns, ns = linesOf g := ⟨_, rfl⟩
  obtain ⟨p, ep⟩ : ∃ p, p = gateB l g := ⟨_, rfl⟩
  obtain ⟨q, eq⟩ : ∃ q, q = gateB l h := ⟨_, rfl⟩
  rw [← exs] at C1 hl1 HE HN1
  rw [← eys] at C2 hl2 HE HN2
  rw [← ems] at L2 hn2 HS1
  rw [← ens] at L1 hn1 HS2
  rw [← ep] at V1 HE
  rw [← eq] at V2 HE
  obtain ⟨R, eR⟩ : ∃ R, R = apartB l g h := ⟨_, rfl⟩
  rw [← eR] at HE HN1 HN2 ⊢
  clear exs eys ems ens ep eq eR
  obtain ⟨P1, hP1⟩ : ∃ P1 : List Int → Bool, P1 = fun zs => anyH zs h := ⟨_, rfl⟩
  obtain ⟨P2, hP2⟩ : ∃ P2 : List Int → Bool, P2 = fun zs => anyH zs g := ⟨_, rfl⟩
  have N1 : P1 [] = false := by rw [hP1]; rfl
  have N2 : P2 [] = false := by rw [hP2]; rfl
  have S1 : Hid (∀ (zs : List Int) (k : Nat), k < zs.length → P1 (zs.take (k + 1)) = (P1 (zs.take k) || hasB ms (zs.getD k 0))) := Lib.hid (by rw [hP1]; exact fun zs k hk => HS1.out zs k hk)
  have S2 : Hid (∀ (zs : List Int) (k : Nat), k < zs.length → P2 (zs.take (k + 1)) = (P2 (zs.take k) || hasB ns (zs.getD k 0))) := Lib.hid (by rw [hP2]; exact fun zs k hk => HS2.out zs k hk)
  have T1 : Hid (∀ (zs : List Int) (k : Nat), P1 (zs.take k) = true → P1 zs = true) := Lib.hid (by rw [hP1]; exact fun zs k => HT1.out zs k)
  have T2 : Hid (∀ (zs : List Int) (k : Nat), P2 (zs.take k) = true → P2 zs = true) := Lib.hid (by rw [hP2]; exact fun zs k => HT2.out zs k)
  have E0 : Hid (P1 xs = false → P2 ys = false → R = (p && q)) := Lib.hid (by rw [hP1, hP2]; exact fun h1 h2 => HE.out h1 h2)
  have E1 : Hid (P1 xs = true → R = false) := Lib.hid (by rw [hP1]; exact fun h1 => HN1.out h1)
  have E2 : Hid (P2 ys = true → R = false) := Lib.hid (by rw [hP2]; exact fun h1 => HN2.out h1)
  have NN1 := Lib.hid N1
  have NN2 := Lib.hid N2
  clear hP1 hP2 HS1 HS2 HT1 HT2 HE HN1 HN2 N1 N2
  obtain ⟨k, a, b, c⟩ := g
  obtain ⟨k', a', b', c'⟩ := h
  unfold Gt.val at *
  dsimp only at *
  go_enter Try.func27, Try.ntmps27
  go_wp2_with fail
  refine (C1.out _).mono ?_
  rintro e w1 ⟨A1, c1, rfl, hc1, o1, hb⟩
  obtain ⟨t4, hb1⟩ := two4_of hb
  have T4 := Lib.hid t4
  have S1x := Sl.of_own o1
  obtain ⟨⟨x0, x1, x2, x3⟩, y0, y1, y2, y3⟩ := t4
  dsimp only at x0 x1 x2 x3 y0 y1 y2 y3
  clear hb o1
  go_wp2_with fail
  refine (C2.out _).mono ?_
  rintro e w2 ⟨A2, c2, rfl, hc2, o2, hb2⟩
  have T42 := Lib.hid (T4.out.next hb2)
  have hb12 := bnext hb1 hb2 (Nat.le_refl _)
  replace S1x := S1x.next hb2
  have S2x := Sl.of_own o2
  have RX := Lib.hid (S1x.reads (n := xs.length) (size := 1) (by simp) (by omega))
  have RY := Lib.hid (S2x.reads (n := ys.length) (size := 1) (by simp) (by omega))
  have RXs := S1x.1
  clear x0 x1 x2 x3 y0 y1 y2 y3 T4 S1x S2x o2
  go_wp2_with fail
  go_loopg [9] xs.length (fun gh i wr => ∃ t : Nat, t ≤ xs.length ∧ gh = xs.length - t ∧ i = .int .i64 t ∧ P1 (xs.take t) = false ∧ Below w2.heap.size w2 wr)
  case atStart => exact ⟨0, Nat.zero_le _, rfl, rfl, NN1.out, Below.refl _ _⟩
  case round =>
    obtain ⟨t, ht, hg, rfl, hno, hbr⟩ := hrel
    have Hg := Lib.hid hg
    have Hno := Lib.hid hno
    clear hg hno
    by_cases hlt : t < xs.length
    · obtain ⟨bx, ox, rfl, hbx, hcell⟩ := RX.out.open1 rfl (by omega)
      have hs := S1.out xs t hlt
      obtain ⟨x, ex⟩ : ∃ x, x = xs.getD t 0 := ⟨_, rfl⟩
      have hcx := (hbr.cell (p := ⟨bx, ox + t, none⟩) (by simp; omega)).trans (hcell t hlt)
      rw [← ex] at hs hcx
      rw [Hno.out, Bool.false_or] at hs
      obtain ⟨v, ev⟩ : ∃ v, v = hasB ms x := ⟨_, rfl⟩
      rw [← ev] at hs
      have Hs := Lib.hid hs
      have HC := Lib.hid (fun W (A : Option Addr) n c B h hz hn => l1Has_any A n c B ms x W h hz hn)
      rw [← ev] at HC
      have hlt' : (t : Int) < (xs.length : Int) := by omega
      obtain ⟨⟨x0, x1, x2, x3⟩, y0, y1, y2, y3⟩ := T42.out.next hbr
      dsimp only at y0 y1 y2 y3
      clear hcell ex ev hs x0 x1 x2 x3
      go_wp2_with fail
      refine wp_region_noPanic ?_
      refine wp_region_held_drew (S := fun W => (W.cell? ⟨w.heap.size + 1, 0, none⟩ = some (.int .i64 k') ∧ W.cell? ⟨w.heap.size + 1, 1, none⟩ = some (.int .i64 a') ∧ W.cell? ⟨w.heap.size + 1, 2, none⟩ = some (.int .i64 b') ∧ W.cell? ⟨w.heap.size + 1, 3, none⟩ = some (.int .i64 c')) ∧ W.cell? ⟨bx, ox + t, none⟩ = some (.int .i64 x)) (by kernel_rfl) (⟨⟨y0, y1, y2, y3⟩, hcx⟩) (fun hHeld => ?_)
      refine wpAnyH_take (i := 0) (oi := _) (v := ?_) rfl (by kernel_rfl) (by kernel_rfl) (by kernel_rfl) (fun _ _ _ h => h) (Or.inl ⟨by rfl, ?_⟩) (by assumption) ?_
      rotate_left
      · (intro w hSw; (try dsimp only at hSw); go_simp; try with_reducible rfl)
      (try simp only [List.getElem_toArray, List.getElem_cons_zero, List.getElem_cons_succ, Act.put, List.setIfInBounds_toArray, List.set_cons_zero, List.set_cons_succ])
      refine wpAnyH_take (i := 2) (oi := _) (v := ?_) rfl (by kernel_rfl) (by kernel_rfl) (by kernel_rfl) (fun _ _ _ h => h) (Or.inl ⟨by rfl, ?_⟩) (by assumption) ?_
      rotate_left
      · (intro w hSw; (try dsimp only at hSw); go_simp; try with_reducible rfl)
      (try simp only [List.getElem_toArray, List.getElem_cons_zero, List.getElem_cons_succ, Act.put, List.setIfInBounds_toArray, List.set_cons_zero, List.set_cons_succ])
      refine wpAnyH_take (i := 3) (oi := _) (v := ?_) rfl (by kernel_rfl) (by kernel_rfl) (by kernel_rfl) (fun _ _ _ h => h) (Or.inl ⟨by rfl, ?_⟩) (by assumption) ?_
      rotate_left
      · (intro w hSw; (try dsimp only at hSw); go_simp; try with_reducible rfl)
      (try simp only [List.getElem_toArray, List.getElem_cons_zero, List.getElem_cons_succ, Act.put, List.setIfInBounds_toArray, List.set_cons_zero, List.set_cons_succ])
      refine wpAnyH_take (i := 4) (oi := _) (v := ?_) rfl (by kernel_rfl) (by kernel_rfl) (by kernel_rfl) (fun _ _ _ h => h) (Or.inl ⟨by rfl, ?_⟩) (by assumption) ?_
      rotate_left
      · (intro w hSw; (try dsimp only at hSw); go_simp; try with_reducible rfl)
      (try simp only [List.getElem_toArray, List.getElem_cons_zero, List.getElem_cons_succ, Act.put, List.setIfInBounds_toArray, List.set_cons_zero, List.set_cons_succ])
      refine wpAnyH_take (i := 5) (oi := _) (v := ?_) rfl (by kernel_rfl) (by kernel_rfl) (by kernel_rfl) (fun _ _ _ h => h) (Or.inl ⟨by rfl, ?_⟩) (by assumption) ?_
      rotate_left
      · (intro w hSw; (try dsimp only at hSw); go_simp; try with_reducible rfl)
      (try simp only [List.getElem_toArray, List.getElem_cons_zero, List.getElem_cons_succ, Act.put, List.setIfInBounds_toArray, List.set_cons_zero, List.set_cons_succ])
      refine wpAnyH_ready (rs := [1]) (by kernel_rfl) (by simp) ?_
      refine AllReadyH.cons (o := _) rfl (fun K hK => ?_) AllReadyH.nil
      go_simp
      ((refine (L2.out _).mono ?_; rintro e w3 ⟨A3, c3, rfl, hc3, o3, hb3⟩))
      go_wp2_with fail
      refine hK.out _ _ ⟨⟨cell_next hb3 hHeld.1.1, cell_next hb3 hHeld.1.2.1, cell_next hb3 hHeld.1.2.2.1, cell_next hb3 hHeld.1.2.2.2⟩, cell_next hb3 hHeld.2⟩ (fun hHeld => ?_)
      clear hK K
      (try simp only [List.getElem_toArray, List.getElem_cons_zero, List.getElem_cons_succ, Act.put, List.setIfInBounds_toArray, List.set_cons_zero, List.set_cons_succ])
      have hb3' := ((Below.refl w3.heap.size w3))
      have RM := o3.reads (n := ms.length) (size := 1) (by simp) (by omega)
      have CH := Lib.hid (HC.out w3 A3 ms.length c3 _ RM rfl (by omega))
      clear RM
      refine wpAnyH_ready (rs := [6]) (by kernel_rfl) (by simp) ?_
      refine AllReadyH.cons (o := _) rfl (fun K hK => ?_) AllReadyH.nil
      go_simp
      ((refine CH.out.mono ?_; rintro e w' ⟨rfl, rfl⟩))
      go_wp2_with fail
      refine hK.out _ _ (by assumption) (fun hHeld => ?_)
      clear hK K
      (try simp only [List.getElem_toArray, List.getElem_cons_zero, List.getElem_cons_succ, Act.put, List.setIfInBounds_toArray, List.set_cons_zero, List.set_cons_succ])
      refine wpAnyH_done (by kernel_rfl) ?_ _
      refine NoPanic.normal ?_
      have hbn := bnext hbr ((Below.refl wr.heap.size wr).drew.trans (hb3.mono (Nat.le_refl _))) (Nat.le_refl _)
      cases v with
      | true =>
        have HR := Lib.hid (E1.out (T1.out xs (t + 1) Hs.out))
        go_wp2_with fail
        go_ret
        exact ⟨ret_bool HR.out.symm, bnext hb12 hbn (by have := hb12.size; omega)⟩
      | false =>
        go_wp2_with fail
        go_roundg (xs.length - (t + 1))
        case measure => have := Hg.out; omega
        case rel => exact ⟨t + 1, by omega, rfl, by go_num, Hs.out, hbn⟩
    · have hlt' : ¬ (t : Int) < (xs.length : Int) := by omega
      have Hf1 : Hid (P1 xs = false) := Lib.hid (by
        have h2 := Hno.out
        rwa [List.take_of_length_le (by omega)] at h2)
      clear hlt
      go_wp2_with fail
      go_loopg [10] ys.length (fun gh i wr => ∃ t : Nat, t ≤ ys.length ∧ gh = ys.length - t ∧ i = .int .i64 t ∧ P2 (ys.take t) = false ∧ Below w2.heap.size w2 wr)
      case atStart => exact ⟨0, Nat.zero_le _, rfl, rfl, NN2.out, hbr⟩
      case round =>
        obtain ⟨s, ht2, hg, rfl, hno, hbs⟩ := hrel
        have Hg2 := Lib.hid hg
        have Hno2 := Lib.hid hno
        clear hg hno
        by_cases hlt2 : s < ys.length
        · obtain ⟨bx, ox, rfl, hbx, hcell⟩ := RY.out.open1 rfl (by omega)
          have hs := S2.out ys s hlt2
          obtain ⟨x, ex⟩ : ∃ x, x = ys.getD s 0 := ⟨_, rfl⟩
          have hcx := (hbs.cell (p := ⟨bx, ox + s, none⟩) (by simp; omega)).trans (hcell s hlt2)
          rw [← ex] at hs hcx
          rw [Hno2.out, Bool.false_or] at hs
          obtain ⟨v, ev⟩ : ∃ v, v = hasB ns x := ⟨_, rfl⟩
          rw [← ev] at hs
          have Hs := Lib.hid hs
          have HC := Lib.hid (fun W (A : Option Addr) n c B h hz hn => l1Has_any A n c B ns x W h hz hn)
          rw [← ev] at HC
          have hlt2' : (s : Int) < (ys.length : Int) := by omega
          obtain ⟨⟨x0, x1, x2, x3⟩, y0, y1, y2, y3⟩ := T42.out.next hbs
          dsimp only at x0 x1 x2 x3
          clear hcell ex ev hs y0 y1 y2 y3
          go_wp2_with fail
          refine wp_region_noPanic ?_
          refine wp_region_held_drew (S := fun W => (W.cell? ⟨w.heap.size, 0, none⟩ = some (.int .i64 k) ∧ W.cell? ⟨w.heap.size, 1, none⟩ = some (.int .i64 a) ∧ W.cell? ⟨w.heap.size, 2, none⟩ = some (.int .i64 b) ∧ W.cell? ⟨w.heap.size, 3, none⟩ = some (.int .i64 c)) ∧ W.cell? ⟨bx, ox + s, none⟩ = some (.int .i64 x)) (by kernel_rfl) (⟨⟨x0, x1, x2, x3⟩, hcx⟩) (fun hHeld => ?_)
          refine wpAnyH_take (i := 0) (oi := _) (v := ?_) rfl (by kernel_rfl) (by kernel_rfl) (by kernel_rfl) (fun _ _ _ h => h) (Or.inl ⟨by rfl, ?_⟩) (by assumption) ?_
          rotate_left
          · (intro w hSw; (try dsimp only at hSw); go_simp; try with_reducible rfl)
          (try simp only [List.getElem_toArray, List.getElem_cons_zero, List.getElem_cons_succ, Act.put, List.setIfInBounds_toArray, List.set_cons_zero, List.set_cons_succ])
          refine wpAnyH_take (i := 2) (oi := _) (v := ?_) rfl (by kernel_rfl) (by kernel_rfl) (by kernel_rfl) (fun _ _ _ h => h) (Or.inl ⟨by rfl, ?_⟩) (by assumption) ?_
          rotate_left
          · (intro w hSw; (try dsimp only at hSw); go_simp; try with_reducible rfl)
          (try simp only [List.getElem_toArray, List.getElem_cons_zero, List.getElem_cons_succ, Act.put, List.setIfInBounds_toArray, List.set_cons_zero, List.set_cons_succ])
          refine wpAnyH_take (i := 3) (oi := _) (v := ?_) rfl (by kernel_rfl) (by kernel_rfl) (by kernel_rfl) (fun _ _ _ h => h) (Or.inl ⟨by rfl, ?_⟩) (by assumption) ?_
          rotate_left
          · (intro w hSw; (try dsimp only at hSw); go_simp; try with_reducible rfl)
          (try simp only [List.getElem_toArray, List.getElem_cons_zero, List.getElem_cons_succ, Act.put, List.setIfInBounds_toArray, List.set_cons_zero, List.set_cons_succ])
          refine wpAnyH_take (i := 4) (oi := _) (v := ?_) rfl (by kernel_rfl) (by kernel_rfl) (by kernel_rfl) (fun _ _ _ h => h) (Or.inl ⟨by rfl, ?_⟩) (by assumption) ?_
          rotate_left
          · (intro w hSw; (try dsimp only at hSw); go_simp; try with_reducible rfl)
          (try simp only [List.getElem_toArray, List.getElem_cons_zero, List.getElem_cons_succ, Act.put, List.setIfInBounds_toArray, List.set_cons_zero, List.set_cons_succ])
          refine wpAnyH_take (i := 5) (oi := _) (v := ?_) rfl (by kernel_rfl) (by kernel_rfl) (by kernel_rfl) (fun _ _ _ h => h) (Or.inl ⟨by rfl, ?_⟩) (by assumption) ?_
          rotate_left
          · (intro w hSw; (try dsimp only at hSw); go_simp; try with_reducible rfl)
          (try simp only [List.getElem_toArray, List.getElem_cons_zero, List.getElem_cons_succ, Act.put, List.setIfInBounds_toArray, List.set_cons_zero, List.set_cons_succ])
          refine wpAnyH_ready (rs := [1]) (by kernel_rfl) (by simp) ?_
          refine AllReadyH.cons (o := _) rfl (fun K hK => ?_) AllReadyH.nil
          go_simp
          ((refine (L1.out _).mono ?_; rintro e w3 ⟨A3, c3, rfl, hc3, o3, hb3⟩))
          go_wp2_with fail
          refine hK.out _ _ ⟨⟨cell_next hb3 hHeld.1.1, cell_next hb3 hHeld.1.2.1, cell_next hb3 hHeld.1.2.2.1, cell_next hb3 hHeld.1.2.2.2⟩, cell_next hb3 hHeld.2⟩ (fun hHeld => ?_)
          clear hK K
          (try simp only [List.getElem_toArray, List.getElem_cons_zero, List.getElem_cons_succ, Act.put, List.setIfInBounds_toArray, List.set_cons_zero, List.set_cons_succ])
          have RM := o3.reads (n := ns.length) (size := 1) (by simp) (by omega)
          have CH := Lib.hid (HC.out w3 A3 ns.length c3 _ RM rfl (by omega))
          clear RM
          refine wpAnyH_ready (rs := [6]) (by kernel_rfl) (by simp) ?_
          refine AllReadyH.cons (o := _) rfl (fun K hK => ?_) AllReadyH.nil
          go_simp
          ((refine CH.out.mono ?_; rintro e w' ⟨rfl, rfl⟩))
          go_wp2_with fail
          refine hK.out _ _ (by assumption) (fun hHeld => ?_)
          clear hK K
          (try simp only [List.getElem_toArray, List.getElem_cons_zero, List.getElem_cons_succ, Act.put, List.setIfInBounds_toArray, List.set_cons_zero, List.set_cons_succ])
          refine wpAnyH_done (by kernel_rfl) ?_ _
          refine NoPanic.normal ?_
          have hbn := bnext hbs ((Below.refl wr.heap.size wr).drew.trans (hb3.mono (Nat.le_refl _))) (Nat.le_refl _)
          cases v with
          | true =>
            have HR := Lib.hid (E2.out (T2.out ys (s + 1) Hs.out))
            go_wp2_with fail
            go_ret
            exact ⟨ret_bool HR.out.symm, bnext hb12 hbn (by have := hb12.size; omega)⟩
          | false =>
            go_wp2_with fail
            go_roundg (ys.length - (s + 1))
            case measure => have := Hg2.out; omega
            case rel => exact ⟨s + 1, by omega, rfl, by go_num, Hs.out, hbn⟩
        · have hlt2' : ¬ (s : Int) < (ys.length : Int) := by omega
          have Hf2 : Hid (P2 ys = false) := Lib.hid (by
            have h2 := Hno2.out
            rwa [List.take_of_length_le (by omega)] at h2)
          have HR := Lib.hid (E0.out Hf1.out Hf2.out)
          clear hlt2
          obtain ⟨⟨x0, x1, x2, x3⟩, y0, y1, y2, y3⟩ := T42.out.next hbs
          dsimp only at x0 x1 x2 x3 y0 y1 y2 y3
          clear y0 y1 y2 y3
          cases p with
          | false =>
            go_wp2_with fail
            refine (V1.out _).mono ?_
            rintro e w3 ⟨rfl, hb3⟩
            go_wp2_with fail
            go_ret
            exact ⟨ret_bool HR.out.symm, bnext hb12 (bnext hbs hb3 (Nat.le_refl _)) (by have := hb12.size; omega)⟩
          | true =>
            go_wp2_with fail
            refine (V1.out _).mono ?_
            rintro e w3 ⟨rfl, hb3⟩
            have hbs3 := bnext hbs hb3 (Nat.le_refl _)
            obtain ⟨⟨z0, z1, z2, z3⟩, y0, y1, y2, y3⟩ := T42.out.next hbs3
            dsimp only at y0 y1 y2 y3
            clear x0 x1 x2 x3 z0 z1 z2 z3
            go_wp2_with fail
            refine (V2.out _).mono ?_
            rintro e w4 ⟨rfl, hb4⟩
            cases q
            all_goals
              go_wp2_with fail
              go_ret
              exact ⟨ret_bool HR.out.symm, bnext hb12 (bnext hbs3 hb4 (Nat.le_refl _)) (by have := hb12.size; omega)⟩
end Go.Proofs.Ytpahhgehamgkaaa
