/- Walk of the law FnFormLines: the circuits of a valid formula are valid for so many lines. -/
import Derived.Test.YtpahhgehamgkaaaCmpG
import Derived.Test.YtpahhgehamgkaaaDraws3
import Derived.Test.YtpahhgehamgkaaaFormM
namespace Go.Proofs.Ytpahhgehamgkaaa
open Go.RowKit
set_option linter.unusedVariables false
set_option linter.unusedSimpArgs false

theorem drawFormLines_any (A : Option Addr) (n c : Nat) (zs : List Int) (w : World) (h : IntsIn .u8 w A n c zs) :
    Calls Try.prog 19 #[.slice A n c] w fun e w' => DrawnF w.heap.size w e w' ∧ Below w.heap.size w w' := by
  go_enter Try.func19, Try.ntmps19
  go_wp2_with fail
  refine (l20Open_any A n c zs w h).mono ?_
  rintro e w1 ⟨r, rfl, hr, hd, hb⟩
  have hd' : Rd w1 r 0 := ⟨0, Nat.le_refl _, hd⟩
  go_wp2_with fail
  refine (l20Form_rd 9 r 0 w1 hd' (by omega) (by omega) (by omega)).mono ?_
  rintro e w2 ⟨⟨i, gs, A2, c2, rfl, hi0, hi4, h3, hc, ho⟩, hr2, hg2⟩
  have hb2 := below_of_only hb hg2 hr hb.size
  have hs := hb.size
  go_wp2_with fail
  go_ret2
  exact ⟨⟨i, gs, A2, c2, rfl, hi0, hi4, h3, hc, ho.mono hs⟩, hb2⟩

theorem gate0_ok {l a : Int} (hl : 1 ≤ l ∧ l ≤ 8) (ha : 0 ≤ a ∧ a < l) : gateB l ⟨0, a, 0, 0⟩ = true := by
  simp [gateB, linesOf, okP, restZ, hasB, inB]
  omega
theorem gate1_ok {l a b : Int} (hl : 1 ≤ l ∧ l ≤ 8) (ha : 0 ≤ a ∧ a < l) (hb : 0 ≤ b ∧ b < l) (hab : ¬ a = b) : gateB l ⟨1, a, b, 0⟩ = true := by
  simp [gateB, linesOf, okP, restZ, hasB, inB]
  omega
theorem gate2_ok {l a b c : Int} (hl : 1 ≤ l ∧ l ≤ 8) (ha : 0 ≤ a ∧ a < l) (hb : 0 ≤ b ∧ b < l) (hc : 0 ≤ c ∧ c < l) (hab : ¬ a = b) (hac : ¬ a = c) (hbc : ¬ b = c) : gateB l ⟨2, a, b, c⟩ = true := by
  simp [gateB, linesOf, okP, restZ, hasB, inB]
  omega
theorem stepG_all {l o x y line : Int} (hl : 1 ≤ l ∧ l ≤ 8) (hx : 0 ≤ x ∧ x < line) (hy : ¬ o = 3 → 0 ≤ y ∧ y < line ∧ ¬ y = x) (hb : line < l) : (stepG o x y line).all (gateB l) = true := by
  unfold stepG
  split
  · unfold stG
    split
    · rename_i h; have := hy (by omega)
      simp only [List.all_cons, List.all_nil, Bool.and_true]
      exact gate2_ok hl (by omega) (by omega) (by omega) (by omega) (by omega) (by omega)
    · split
      · rename_i h; have := hy (by omega)
        simp only [List.all_cons, List.all_nil, Bool.and_true]
        rw [gate2_ok hl (by omega) (by omega) (by omega) (by omega) (by omega) (by omega), gate1_ok hl (by omega) (by omega) (by omega), gate1_ok hl (by omega) (by omega) (by omega)]
        rfl
      · split
        · rename_i h; have := hy (by omega)
          simp only [List.all_cons, List.all_nil, Bool.and_true]
          rw [gate1_ok hl (by omega) (by omega) (by omega), gate1_ok hl (by omega) (by omega) (by omega)]
          rfl
        · split
          · simp only [List.all_cons, List.all_nil, Bool.and_true]
            rw [gate1_ok hl (by omega) (by omega) (by omega), gate0_ok hl (by omega)]
            rfl
          · rfl
  · rfl
theorem stB_lines {last : Int} {g : St} (h : stB last g = true) : 0 ≤ g.x ∧ g.x ≤ last ∧ (¬ g.o = 3 → 0 ≤ g.y ∧ g.y ≤ last ∧ ¬ g.y = g.x) := by
  unfold stB at h
  simp only [Bool.and_eq_true] at h
  have h2 := inB_t h.2.1
  have h3 := h.2.2
  refine ⟨h2.1, h2.2, fun e => ?_⟩
  rw [if_neg e, Bool.and_eq_true] at h3
  have h4 := inB_t h3.1
  exact ⟨h4.1, h4.2, by simpa using h3.2⟩
theorem compT_all {i : Int} {gs : List St} (h : formB i gs = true) (k : Nat) (hk : k ≤ gs.length) : (compT i gs k).all (gateB (i + gs.length + 1)) = true := by
  have hf := formB_t h
  induction k with
  | zero => rfl
  | succ k ih =>
    have hs := stB_lines (formP_at hf.2.2.2.2 (k := k) (by omega))
    unfold compT
    rw [List.all_append, ih (by omega), Bool.true_and]
    exact stepG_all ⟨by omega, by omega⟩ ⟨hs.1, by omega⟩ (fun e => by have := hs.2.2 e; omega) (by omega)
theorem compL_ok {i : Int} {gs : List St} (h : formB i gs = true) : circB (i + gs.length + 1) (compL i gs) = true := by
  have hf := formB_t h
  have hl := compT_len i gs gs.length
  unfold circB
  rw [compL_y h, compT_all h _ (Nat.le_refl _), decide_eq_true (by omega), show inB (i + gs.length + 1) 1 8 = true from by unfold inB; exact decide_eq_true (by omega)]
  rfl
theorem cleanL_ok {i : Int} {gs : List St} (h : formB i gs = true) : circB (i + gs.length + 1) (cleanL i gs) = true := by
  have hf := formB_t h
  have hl := compT_len i gs gs.length
  unfold circB
  rw [cleanL_y h, List.all_append, List.all_append, List.all_reverse, compT_all h _ (Nat.le_refl _), decide_eq_true (by simp; omega), show inB (i + gs.length + 1) 1 8 = true from by unfold inB; exact decide_eq_true (by omega)]
  simp only [List.all_cons, List.all_nil, Bool.and_true, Bool.true_and]
  exact gate1_ok (by omega) (by omega) (by omega) (by omega)

set_option maxHeartbeats 4000000 in
set_option maxRecDepth 50000 in
theorem walk_FnFormLines (A : Option Addr) (n c : Nat) (zs : List Int) (w : World) (h : IntsIn .u8 w A n c zs) :
    Calls Try.prog 6 #[.slice A n c] w fun e w' => e = .returned (.bool true) ∧ Below w.heap.size w w' := by
  have hn1 : n ≤ 9223372036854775807 := by have := h.1; have := h.2.1; unfold maxLen at this; omega
  by_cases hn : 1048576 < n
  · clear h
    go_enter Try.func6, Try.ntmps6
    go_wp2_with fail
    go_ret
    exact ⟨rfl, Below.refl _ _⟩
  · have HD := Lib.hid (drawFormLines_any A n c zs w h)
    clear h
    go_enter Try.func6, Try.ntmps6
    go_wp2_with fail
    refine HD.out.mono ?_
    rintro e w1 ⟨⟨i, gs, A1, c1, he, hi0, hi4, h3, hc, ho⟩, hb⟩
    have hs1 := hb.size
    obtain ⟨m, hm⟩ : ∃ m, m = gs.length := ⟨_, rfl⟩
    have R0 := ho.reads (by rw [scells_len, ← hm]) (show 0 < 3 by omega)
    rw [← hm] at hc h3 he
    subst he
    have CI := Lib.hid (fun W (hw : Below w1.heap.size w1 W) => implFormLines_any i A1 m c1 w1.heap.size gs W (R0.below hw) hw.size hm.symm hc (by omega))
    have CS := Lib.hid (fun W (hw : Below w1.heap.size w1 W) => specFormLines_any i A1 m c1 w1.heap.size gs W (R0.below hw) hw.size hm.symm hc (by omega))
    have CC := Lib.hid (fun W (hw : Below w1.heap.size w1 W) => implComputeGates_any i A1 m c1 w1.heap.size gs W (R0.below hw) hw.size hm.symm hc (by omega))
    have CG := Lib.hid (fun W (hw : Below w1.heap.size w1 W) => implCleanGates_any i A1 m c1 w1.heap.size gs W (R0.below hw) hw.size hm.symm hc (by omega))
    cases hv : formB i gs with
    | false =>
      rw [formLines_n hv] at CI CS
      clear ho R0 HD hv hm CC CG
      go_wp2_with fail
      refine (CI.out w1 (Below.refl _ _)).mono ?_
      rintro e w2 ⟨rfl, hb2⟩
      go_wp2_with fail
      refine (CS.out w2 hb2).mono ?_
      rintro e w3 ⟨rfl, hb3⟩
      have hb13 := hb2.trans (hb3.mono hb2.size)
      go_wp2_with (go_at_call 22; refine (alive_any _).mono ?_; rintro e w' ⟨rfl, rfl⟩)
      go_ret
      exact ⟨rfl, bnext hb hb13 (Nat.le_refl _)⟩
    | true =>
      have hf := formB_t hv
      rw [formLines_y hv] at CI CS
      have O1 := compL_ok hv
      have O2 := cleanL_ok hv
      have L1 : (compL i gs).length ≤ 24 := (circB_t O1).2.2
      have L2 : (cleanL i gs).length ≤ 24 := (circB_t O2).2.2
      rw [← hm] at CI CS O1 O2 hf
      obtain ⟨l, el⟩ : ∃ l, l = i + (m : Int) + 1 := ⟨_, rfl⟩
      have hl8 : 3 ≤ l ∧ l ≤ 7 := by omega
      rw [← el] at CI CS O1 O2
      obtain ⟨xs, exs⟩ : ∃ xs, xs = compL i gs := ⟨_, rfl⟩
      obtain ⟨ys, eys⟩ : ∃ ys, ys = cleanL i gs := ⟨_, rfl⟩
      rw [← exs] at CC O1 L1
      rw [← eys] at CG O2 L2
      have V1 := Lib.hid (fun W (A : Option Addr) n c B h hB hz hc hn => implCircuitValid_any l A n c B xs W h hB hz hc hn)
      have V2 := Lib.hid (fun W (A : Option Addr) n c B h hB hz hc hn => implCircuitValid_any l A n c B ys W h hB hz hc hn)
      rw [O1] at V1
      rw [O2] at V2
      clear ho R0 HD hv hm O1 O2 exs eys el hf
      go_wp2_with fail
      refine (CI.out w1 (Below.refl _ _)).mono ?_
      rintro e w2 ⟨rfl, hb2⟩
      go_wp2_with fail
      refine (CS.out w2 hb2).mono ?_
      rintro e w3 ⟨rfl, hb3⟩
      have hb13 := hb2.trans (hb3.mono hb2.size)
      go_wp2_with fail
      refine (CC.out w3 hb13).mono ?_
      rintro e w4 ⟨A4, c4, rfl, hc4, ho4, hb4⟩
      have hb14 := hb13.trans (hb4.mono hb13.size)
      have C5 := Lib.hid (V1.out w4 A4 xs.length c4 _ (ho4.reads (n := xs.length) (size := 4) (by rw [gcells_len]) (by omega)) (Nat.le_refl _) rfl hc4 (by omega))
      clear ho4 hb2 hb3 hb4 hb13
      go_wp2_with fail
      refine C5.out.mono ?_
      rintro e w5 ⟨rfl, hb5⟩
      have hb15 := hb14.trans (hb5.mono hb14.size)
      go_wp2_with fail
      refine (CG.out w5 hb15).mono ?_
      rintro e w6 ⟨A6, c6, rfl, hc6, ho6, hb6⟩
      have hb16 := hb15.trans (hb6.mono hb15.size)
      have C7 := Lib.hid (V2.out w6 A6 ys.length c6 _ (ho6.reads (n := ys.length) (size := 4) (by rw [gcells_len]) (by omega)) (Nat.le_refl _) rfl hc6 (by omega))
      clear ho6 hb5 hb6 hb14 hb15
      go_wp2_with fail
      refine C7.out.mono ?_
      rintro e w8 ⟨rfl, hb8⟩
      have hb18 := hb16.trans (hb8.mono hb16.size)
      go_wp2_with fail
      go_ret
      exact ⟨rfl, bnext hb hb18 (Nat.le_refl _)⟩
end Go.Proofs.Ytpahhgehamgkaaa
