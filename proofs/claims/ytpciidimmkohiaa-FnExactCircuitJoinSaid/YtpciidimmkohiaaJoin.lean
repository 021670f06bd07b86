/- Contracts of both CircuitJoin. -/
import Derived.Test.YtpciidimmkohiaaJoinG
namespace Go.Proofs.Ytpciidimmkohiaa
open Go.RowKit
set_option linter.unusedVariables false

def joinB (l : Int) (gs hs : List Gt) : Bool := circB l gs && (circB l hs && decide (gs.length + hs.length ≤ 24))
/-- what CircuitJoin answers -/
def joinL (l : Int) (gs hs : List Gt) : List Gt := if joinB l gs hs = true then gs ++ hs else []
theorem joinL_bd (l : Int) (gs hs : List Gt) : (joinL l gs hs).length ≤ 1048576 := by
  unfold joinL
  split
  · rename_i h
    unfold joinB at h
    rw [Bool.and_eq_true, Bool.and_eq_true] at h
    have := of_decide_eq_true h.2.2
    simp
    omega
  · simp
theorem joinL_n {l : Int} {gs hs : List Gt} (h : joinB l gs hs = false) : joinL l gs hs = [] := by unfold joinL; rw [h]; rfl
theorem joinL_y {l : Int} {gs hs : List Gt} (h : joinB l gs hs = true) : joinL l gs hs = gs ++ hs := by unfold joinL; rw [h]; rfl
theorem joinB_a {l : Int} {gs hs : List Gt} (h : circB l gs = false) : joinB l gs hs = false := by unfold joinB; rw [h]; rfl
theorem joinB_b {l : Int} {gs hs : List Gt} (h : circB l hs = false) : joinB l gs hs = false := by unfold joinB; rw [h]; simp
theorem joinB_c {l : Int} {gs hs : List Gt} (h : 24 < gs.length + hs.length) : joinB l gs hs = false := by unfold joinB; rw [decide_eq_false (by omega)]; simp
theorem joinB_y {l : Int} {gs hs : List Gt} (h : circB l gs = true) (h' : circB l hs = true) (h3 : gs.length + hs.length ≤ 24) : joinB l gs hs = true := by unfold joinB; rw [h, h', decide_eq_true h3]; rfl

theorem clipGO_any (A : Option Addr) (n c : Nat) (w : World) (h : n ≤ c) (hn : c ≤ 9223372036854775807) :
    Calls Try.prog 62 #[.slice A n c] w fun e w' => e = .returned (.slice A n n) ∧ w = w' := by
  rcases A with _ | ⟨b, o, r⟩
  all_goals
    go_enter Try.func62, Try.ntmps62
    go_wp2_with fail
    go_ret
    exact ⟨rfl, rfl⟩

theorem own_base {w : World} {base base' e size n : Nat} {v : Value} {xs : List Value} (h : w.ownsRow base e size v n xs) (hb : base' ≤ base) : w.ownsRow base' e size v n xs := by
  refine ⟨h.1, ?_⟩
  rcases h.2 with h | ⟨g, cap, cur, e1, e2, e3⟩
  · exact .inl h
  · exact .inr ⟨g, cap, cur, e1, Nat.le_trans hb e2, e3⟩

set_option maxHeartbeats 1000000 in
theorem implCircuitJoin_any (l : Int) (A : Option Addr) (n c B : Nat) (gs : List Gt) (A' : Option Addr) (m c' B' : Nat) (hs : List Gt) (w : World) (h : Reads w B 4 A n (gcells gs)) (hB : B ≤ w.heap.size) (hz : gs.length = n) (hc : n ≤ c) (hn : n ≤ 1048576)
    (h' : Reads w B' 4 A' m (gcells hs)) (hB' : B' ≤ w.heap.size) (hz' : hs.length = m) (hc' : m ≤ c') (hm : m ≤ 1048576) :
    Calls Try.prog 41 #[.int .i64 l, .slice A n c, .slice A' m c'] w fun e w' => RetGB (joinL l gs hs) (joinB l gs hs) w e w' := by
  have H1 := Lib.hid (implCircuitValid_any l A n c B gs w h hB hz hc hn)
  have H2 := Lib.hid (fun W (hw : Below w.heap.size w W) => implCircuitValid_any l A' m c' B' hs W (h'.below (hw.mono hB')) (Nat.le_trans hB' hw.size) hz' hc' hm)
  cases h1 : circB l gs with
  | false =>
    have Hb : Hid (joinB l gs hs = false) := Lib.hid (joinB_a h1)
    rw [h1] at H1
    clear h1 h h' hz hz'
    go_enter Try.func41, Try.ntmps41
    go_wp2_with fail
    refine H1.out.mono ?_
    rintro e w1 ⟨rfl, hb1⟩
    go_wp2_with fail
    go_ret2
    rw [Hb.out]
    exact retGB_nil (joinL_n Hb.out) hb1 rfl
  | true =>
    cases h2 : circB l hs with
    | false =>
      have Hb : Hid (joinB l gs hs = false) := Lib.hid (joinB_b h2)
      rw [h1] at H1
      rw [h2] at H2
      clear h1 h2 h h' hz hz'
      go_enter Try.func41, Try.ntmps41
      go_wp2_with fail
      refine H1.out.mono ?_
      rintro e w1 ⟨rfl, hb1⟩
      go_wp2_with fail
      refine (H2.out w1 hb1).mono ?_
      rintro e w2 ⟨rfl, hb2⟩
      go_wp2_with fail
      go_ret2
      rw [Hb.out]
      exact retGB_nil (joinL_n Hb.out) (bnext hb1 hb2 (Nat.le_refl _)) rfl
    | true =>
      by_cases h24 : n + m ≤ 24
      · have Hb : Hid (joinB l gs hs = true) := Lib.hid (joinB_y h1 h2 (by omega))
        rw [h1] at H1
        rw [h2] at H2
        have h24' : ¬ (24 : Int) < (n : Int) + (m : Int) := by omega
        have HC := Lib.hid (fun W (hw : Below w.heap.size w W) => concat2_any W.heap.size A A' n m c c' B B' gs hs (W.alloc (.cells #[.slice A n c, .slice A' m c'] 22)) (Blk.new _ _ _) ((h.below (hw.mono hB)).below ((Below.refl B W).alloc (Nat.le_trans hB hw.size) _)) ((h'.below (hw.mono hB')).below ((Below.refl B' W).alloc (Nat.le_trans hB' hw.size) _)) (by simp; have := hw.size; omega) (by simp; have := hw.size; omega) hz hz' (by omega) (by omega))
        clear h1 h2 h h' hz hz'
        go_enter Try.func41, Try.ntmps41
        go_wp2_with fail
        refine H1.out.mono ?_
        rintro e w1 ⟨rfl, hb1⟩
        go_wp2_with fail
        refine (H2.out w1 hb1).mono ?_
        rintro e w2 ⟨rfl, hb2⟩
        have hb12 := bnext hb1 hb2 (Nat.le_refl _)
        go_wp2_with fail
        refine (HC.out w2 hb12).mono ?_
        rintro e w3 ⟨v, rfl, own3, hb3⟩
        obtain ⟨A5, c5, rfl, hc5⟩ := own_shape own3
        have HO := Lib.hid own3
        have hb13 := (hb12.alloc hb12.size (.cells #[.slice A n c, .slice A' m c'] 22)).trans (hb3.mono (by simp; have := hb12.size; omega))
        have hs3 := hb12.size
        have hcm : c5 ≤ 9223372036854775807 := by
          rcases own3.2 with ⟨e, _⟩ | ⟨_, _, _, e, _, _, _, e2, _⟩
          · injection e with _ _ e3; omega
          · injection e with _ _ e3; unfold maxLen at e2; omega
        clear own3
        go_wp2_with (go_at_call 62; refine (clipGO_any _ _ _ _ hc5 hcm).mono ?_; rintro e w' ⟨rfl, rfl⟩)
        go_ret2
        rw [Hb.out, joinL_y Hb.out]
        exact retGB_acc (own_base HO.out (by simp; omega)) (Nat.le_refl _) hb13 rfl
      · have Hb : Hid (joinB l gs hs = false) := Lib.hid (joinB_c (by omega))
        rw [h1] at H1
        rw [h2] at H2
        have h24' : (24 : Int) < (n : Int) + (m : Int) := by omega
        clear h1 h2 h h' hz hz'
        go_enter Try.func41, Try.ntmps41
        go_wp2_with fail
        refine H1.out.mono ?_
        rintro e w1 ⟨rfl, hb1⟩
        go_wp2_with fail
        refine (H2.out w1 hb1).mono ?_
        rintro e w2 ⟨rfl, hb2⟩
        go_wp2_with fail
        go_ret2
        rw [Hb.out]
        exact retGB_nil (joinL_n Hb.out) (bnext hb1 hb2 (Nat.le_refl _)) rfl

set_option maxHeartbeats 2000000 in
set_option maxRecDepth 50000 in
theorem specCircuitJoin_any (l : Int) (A : Option Addr) (n c B : Nat) (gs : List Gt) (A' : Option Addr) (m c' B' : Nat) (hs : List Gt) (w : World) (h : Reads w B 4 A n (gcells gs)) (hB : B ≤ w.heap.size) (hz : gs.length = n) (hc : n ≤ c) (hn : n ≤ 1048576)
    (h' : Reads w B' 4 A' m (gcells hs)) (hB' : B' ≤ w.heap.size) (hz' : hs.length = m) (hc' : m ≤ c') (hm : m ≤ 1048576) :
    Calls Try.prog 40 #[.int .i64 l, .slice A n c, .slice A' m c'] w fun e w' => RetGB (joinL l gs hs) (joinB l gs hs) w e w' := by
  obtain ⟨ig, gi, gz0, gz1, gz2⟩ := info_parts infoGate
  have H1 := Lib.hid (fun W (hw : Below w.heap.size w W) => specCircuitValid_any l A n c B gs W (h.below (hw.mono hB)) (Nat.le_trans hB hw.size) hz hc hn)
  have H2 := Lib.hid (fun W (hw : Below w.heap.size w W) => specCircuitValid_any l A' m c' B' hs W (h'.below (hw.mono hB')) (Nat.le_trans hB' hw.size) hz' hc' hm)
  have own0 := World.ownsRow_made (base := w.heap.size) (e := 31) (size := 4) w #[] 0 (Nat.le_refl _) (by simp [maxLen]) rfl
  have rd1 := h.below ((Below.refl B w).alloc hB (Obj.cells #[] 31))
  have RD2 := Lib.hid (fun W (hw : Below w.heap.size w W) => h'.below (hw.mono hB'))
  have one1 := gcells_ok gs
  have one2 := gcells_ok hs
  have HC : Hid (gcells (gs ++ hs) = gcells gs ++ gcells hs) := Lib.hid (gcells_app gs hs)
  cases h1 : circB l gs with
  | false =>
    have Hb : Hid (joinB l gs hs = false) := Lib.hid (joinB_a h1)
    rw [h1] at H1
    clear h1 h h' hz hz'
    go_enter Try.func40, Try.ntmps40
    go_wp2_with (first
      | (at_builtin; (refine wpList_append_any _ rfl (.tmp 9) (.tmp 10) _ rfl w.heap.size 31 ig (.agg #[.int .i64 0, .int .i64 0, .int .i64 0, .int .i64 0]) 4 32 Try.underlying22 gi gz0 gz1 gz2 rfl (by decide) (.slice (some ⟨w.heap.size, 0, none⟩) 0 0) 0 [] rfl own0 B A n c (gcells gs) rfl rd1 one1 (by unfold maxLen; omega) (by omega) (by simp) ?_; intro vA wA ownA grA atA; simp only [Nat.zero_add, List.nil_append] at ownA; obtain ⟨AA, cA, eA, hcA⟩ := own_shape ownA; subst eA; have hlwA := ownA.lt; have hbA := ((Below.refl w.heap.size w).alloc (Nat.le_refl _) (Obj.cells #[] 31)).grown grA (by simp) (fun q e => by simp [Value.ownBlock] at e; omega); have rd2 := RD2.out wA hbA; have hsA := hbA.size; clear grA))
      | (at_builtin; (refine wpList_append_any _ rfl (.tmp 11) (.tmp 12) _ rfl w.heap.size 31 ig (.agg #[.int .i64 0, .int .i64 0, .int .i64 0, .int .i64 0]) 4 32 Try.underlying22 gi gz0 gz1 gz2 rfl (by decide) (.slice AA n cA) n (gcells gs) rfl ownA B' A' m c' (gcells hs) rfl rd2 one2 (by unfold maxLen; omega) (by omega) (by omega) ?_; intro vB wB ownB grB _; rw [← HC.out] at ownB; have hbB := hbA.grown grB (by omega) (fun q e => (hlwA q e).1); clear grB; obtain ⟨AB, cB, eB, hcB⟩ := own_shape ownB; subst eB; have HOB := Lib.hid ownB; clear ownB ownA hlwA)))
    refine (H1.out _ hbB).mono ?_
    rintro e w1 ⟨rfl, hb1⟩
    have hb := bnext hbB hb1 (Nat.le_refl _)
    go_wp2_with fail
    go_ret2
    rw [Hb.out]
    exact retGB_nil (joinL_n Hb.out) (hb.alloc (by have := hb.size; omega) _) rfl
  | true =>
    rw [h1] at H1
    cases h2 : circB l hs with
    | false =>
      have Hb : Hid (joinB l gs hs = false) := Lib.hid (joinB_b h2)
      rw [h2] at H2
      clear h1 h2 h h' hz hz'
      go_enter Try.func40, Try.ntmps40
      go_wp2_with (first
        | (at_builtin; (refine wpList_append_any _ rfl (.tmp 9) (.tmp 10) _ rfl w.heap.size 31 ig (.agg #[.int .i64 0, .int .i64 0, .int .i64 0, .int .i64 0]) 4 32 Try.underlying22 gi gz0 gz1 gz2 rfl (by decide) (.slice (some ⟨w.heap.size, 0, none⟩) 0 0) 0 [] rfl own0 B A n c (gcells gs) rfl rd1 one1 (by unfold maxLen; omega) (by omega) (by simp) ?_; intro vA wA ownA grA atA; simp only [Nat.zero_add, List.nil_append] at ownA; obtain ⟨AA, cA, eA, hcA⟩ := own_shape ownA; subst eA; have hlwA := ownA.lt; have hbA := ((Below.refl w.heap.size w).alloc (Nat.le_refl _) (Obj.cells #[] 31)).grown grA (by simp) (fun q e => by simp [Value.ownBlock] at e; omega); have rd2 := RD2.out wA hbA; have hsA := hbA.size; clear grA))
        | (at_builtin; (refine wpList_append_any _ rfl (.tmp 11) (.tmp 12) _ rfl w.heap.size 31 ig (.agg #[.int .i64 0, .int .i64 0, .int .i64 0, .int .i64 0]) 4 32 Try.underlying22 gi gz0 gz1 gz2 rfl (by decide) (.slice AA n cA) n (gcells gs) rfl ownA B' A' m c' (gcells hs) rfl rd2 one2 (by unfold maxLen; omega) (by omega) (by omega) ?_; intro vB wB ownB grB _; rw [← HC.out] at ownB; have hbB := hbA.grown grB (by omega) (fun q e => (hlwA q e).1); clear grB; obtain ⟨AB, cB, eB, hcB⟩ := own_shape ownB; subst eB; have HOB := Lib.hid ownB; clear ownB ownA hlwA)))
      refine (H1.out _ hbB).mono ?_
      rintro e w1 ⟨rfl, hb1⟩
      have hbx := bnext hbB hb1 (Nat.le_refl _)
      go_wp2_with fail
      refine (H2.out _ hbx).mono ?_
      rintro e w2 ⟨rfl, hb2⟩
      have hb := bnext hbx hb2 (Nat.le_refl _)
      go_wp2_with fail
      go_ret2
      rw [Hb.out]
      exact retGB_nil (joinL_n Hb.out) (hb.alloc (by have := hb.size; omega) _) rfl
    | true =>
      rw [h2] at H2
      by_cases h24 : n + m ≤ 24
      · have Hb : Hid (joinB l gs hs = true) := Lib.hid (joinB_y h1 h2 (by omega))
        have h24' : ¬ (24 : Int) < (n : Int) + (m : Int) := by omega
        clear h1 h2 h h' hz hz'
        go_enter Try.func40, Try.ntmps40
        go_wp2_with (first
          | (at_builtin; (refine wpList_append_any _ rfl (.tmp 9) (.tmp 10) _ rfl w.heap.size 31 ig (.agg #[.int .i64 0, .int .i64 0, .int .i64 0, .int .i64 0]) 4 32 Try.underlying22 gi gz0 gz1 gz2 rfl (by decide) (.slice (some ⟨w.heap.size, 0, none⟩) 0 0) 0 [] rfl own0 B A n c (gcells gs) rfl rd1 one1 (by unfold maxLen; omega) (by omega) (by simp) ?_; intro vA wA ownA grA atA; simp only [Nat.zero_add, List.nil_append] at ownA; obtain ⟨AA, cA, eA, hcA⟩ := own_shape ownA; subst eA; have hlwA := ownA.lt; have hbA := ((Below.refl w.heap.size w).alloc (Nat.le_refl _) (Obj.cells #[] 31)).grown grA (by simp) (fun q e => by simp [Value.ownBlock] at e; omega); have rd2 := RD2.out wA hbA; have hsA := hbA.size; clear grA))
          | (at_builtin; (refine wpList_append_any _ rfl (.tmp 11) (.tmp 12) _ rfl w.heap.size 31 ig (.agg #[.int .i64 0, .int .i64 0, .int .i64 0, .int .i64 0]) 4 32 Try.underlying22 gi gz0 gz1 gz2 rfl (by decide) (.slice AA n cA) n (gcells gs) rfl ownA B' A' m c' (gcells hs) rfl rd2 one2 (by unfold maxLen; omega) (by omega) (by omega) ?_; intro vB wB ownB grB _; rw [← HC.out] at ownB; have hbB := hbA.grown grB (by omega) (fun q e => (hlwA q e).1); clear grB; obtain ⟨AB, cB, eB, hcB⟩ := own_shape ownB; subst eB; have HOB := Lib.hid ownB; clear ownB ownA hlwA)))
        refine (H1.out _ hbB).mono ?_
        rintro e w1 ⟨rfl, hb1⟩
        have hbx := bnext hbB hb1 (Nat.le_refl _)
        go_wp2_with fail
        refine (H2.out _ hbx).mono ?_
        rintro e w2 ⟨rfl, hb2⟩
        have hb := bnext hbx hb2 (Nat.le_refl _)
        go_wp2_with fail
        go_ret2
        rw [Hb.out, joinL_y Hb.out]
        exact retGB_acc (own_next (own_next HOB.out hb1) hb2) hcB hb rfl
      · have Hb : Hid (joinB l gs hs = false) := Lib.hid (joinB_c (by omega))
        have h24' : (24 : Int) < (n : Int) + (m : Int) := by omega
        clear h1 h2 h h' hz hz'
        go_enter Try.func40, Try.ntmps40
        go_wp2_with (first
          | (at_builtin; (refine wpList_append_any _ rfl (.tmp 9) (.tmp 10) _ rfl w.heap.size 31 ig (.agg #[.int .i64 0, .int .i64 0, .int .i64 0, .int .i64 0]) 4 32 Try.underlying22 gi gz0 gz1 gz2 rfl (by decide) (.slice (some ⟨w.heap.size, 0, none⟩) 0 0) 0 [] rfl own0 B A n c (gcells gs) rfl rd1 one1 (by unfold maxLen; omega) (by omega) (by simp) ?_; intro vA wA ownA grA atA; simp only [Nat.zero_add, List.nil_append] at ownA; obtain ⟨AA, cA, eA, hcA⟩ := own_shape ownA; subst eA; have hlwA := ownA.lt; have hbA := ((Below.refl w.heap.size w).alloc (Nat.le_refl _) (Obj.cells #[] 31)).grown grA (by simp) (fun q e => by simp [Value.ownBlock] at e; omega); have rd2 := RD2.out wA hbA; have hsA := hbA.size; clear grA))
          | (at_builtin; (refine wpList_append_any _ rfl (.tmp 11) (.tmp 12) _ rfl w.heap.size 31 ig (.agg #[.int .i64 0, .int .i64 0, .int .i64 0, .int .i64 0]) 4 32 Try.underlying22 gi gz0 gz1 gz2 rfl (by decide) (.slice AA n cA) n (gcells gs) rfl ownA B' A' m c' (gcells hs) rfl rd2 one2 (by unfold maxLen; omega) (by omega) (by omega) ?_; intro vB wB ownB grB _; rw [← HC.out] at ownB; have hbB := hbA.grown grB (by omega) (fun q e => (hlwA q e).1); clear grB; obtain ⟨AB, cB, eB, hcB⟩ := own_shape ownB; subst eB; have HOB := Lib.hid ownB; clear ownB ownA hlwA)))
        refine (H1.out _ hbB).mono ?_
        rintro e w1 ⟨rfl, hb1⟩
        have hbx := bnext hbB hb1 (Nat.le_refl _)
        go_wp2_with fail
        refine (H2.out _ hbx).mono ?_
        rintro e w2 ⟨rfl, hb2⟩
        have hb := bnext hbx hb2 (Nat.le_refl _)
        go_wp2_with fail
        go_ret2
        rw [Hb.out]
        exact retGB_nil (joinL_n Hb.out) (hb.alloc (by have := hb.size; omega) _) rfl
end Go.Proofs.Ytpciidimmkohiaa
