/- Walk of the law FnCircuitValid. -/
import Derived.Test.YtbhfkcneakocdaaDrawL
import Derived.Test.YtbhfkcneakocdaaCirc
namespace Go.Proofs.Ytbhfkcneakocdaa
open Go.RowKit
set_option linter.unusedVariables false

set_option maxHeartbeats 4000000 in
set_option maxRecDepth 50000 in
theorem walk_FnCircuitValid (A : Option Addr) (n c : Nat) (zs : List Int) (w : World) (h : IntsIn .u8 w A n c zs) :
    Calls Try.prog 3 #[.slice A n c] w fun e w' => e = .returned (.bool true) ∧ Below w.heap.size w w' := by
  have hn1 : n ≤ 9223372036854775807 := by have := h.1; have := h.2.1; unfold maxLen at this; omega
  by_cases hn : 1048576 < n
  · clear h
    go_enter Try.func3, Try.ntmps3
    go_wp2_with fail
    go_ret
    exact ⟨rfl, Below.refl _ _⟩
  · have HD := Lib.hid (drawCircuitValid_any A n c zs w h)
    clear h
    go_enter Try.func3, Try.ntmps3
    go_wp2_with fail
    refine HD.out.mono ?_
    rintro e w1 ⟨⟨l, gs, A1, c1, he, l0, l1, h26, hc, ho⟩, hb⟩
    have hs1 := hb.size
    obtain ⟨m, hm⟩ : ∃ m, m = gs.length := ⟨_, rfl⟩
    have R0 := ho.reads (by rw [gcells_len, ← hm]) (show 0 < 4 by omega)
    rw [← hm] at hc h26 he
    subst he
    have HM := Lib.hid hm
    have CI := Lib.hid (fun W (hw : Below w1.heap.size w1 W) => implCircuitValid_any l A1 m c1 w1.heap.size gs W (R0.below hw) hw.size hm.symm hc (by omega))
    have CS := Lib.hid (fun W (hw : Below w1.heap.size w1 W) => specCircuitValid_any l A1 m c1 w1.heap.size gs W (R0.below hw) hw.size hm.symm hc (by omega))
    have eN : circB l [] = (decide (1 ≤ l) && decide (l ≤ 8)) := by unfold circB inB; simp
    have CN := Lib.hid (fun W => implCircuitValid_any l none 0 0 0 [] W Reads.none_ (Nat.zero_le _) rfl (Nat.le_refl _) (by omega))
    rw [eN] at CN
    clear eN
    cases hv : circB l gs with
    | false =>
      rw [hv] at CI CS
      clear ho R0 HD hv hm
      go_wp2_with fail
      refine (CI.out w1 (Below.refl _ _)).mono ?_
      rintro e w2 ⟨rfl, hb2⟩
      go_wp2_with fail
      refine (CS.out w2 hb2).mono ?_
      rintro e w3 ⟨rfl, hb3⟩
      have hb13 := hb2.trans (hb3.mono hb2.size)
      go_wp2_with fail
      refine (CN.out w3).mono ?_
      rintro e w4 ⟨rfl, hb4⟩
      have hb14 := bnext hb (hb13.trans (hb4.mono hb13.size)) (Nat.le_refl _)
      by_cases hl : (1 ≤ l ∧ l ≤ 8)
      · have hl1 : (decide (1 ≤ l) && decide (l ≤ 8)) = true := by simp [hl.1, hl.2]
        rw [hl1]
        obtain ⟨hl2, hl3⟩ := hl
        go_wp2_with (go_at_call 11; refine (alive_any _).mono ?_; rintro e w' ⟨rfl, rfl⟩)
        go_ret
        exact ⟨rfl, hb14⟩
      · have hl1 : (decide (1 ≤ l) && decide (l ≤ 8)) = false := by
          rw [Bool.and_eq_false_iff]; simp only [decide_eq_false_iff_not]; omega
        rw [hl1]
        by_cases hl2 : 1 ≤ l
        · have hl3 : ¬ l ≤ 8 := fun h => hl ⟨hl2, h⟩
          go_wp2_with (go_at_call 11; refine (alive_any _).mono ?_; rintro e w' ⟨rfl, rfl⟩)
          go_ret
          refine ⟨?_, hb14⟩
          show Ending.returned (.bool (!decide (l ≤ 8))) = _
          rw [decide_eq_false (show ¬ l ≤ 8 by omega)]
          rfl
        · go_wp2_with (go_at_call 11; refine (alive_any _).mono ?_; rintro e w' ⟨rfl, rfl⟩)
          go_ret
          exact ⟨rfl, hb14⟩
    | true =>
      have hin := inB_t (circB_t hv).2.1
      have h24 := (circB_t hv).2.2
      obtain ⟨hl2, hl3⟩ : 1 ≤ l ∧ l ≤ 8 := ⟨hin.1, by omega⟩
      have hl1 : (decide (1 ≤ l) && decide (l ≤ 8)) = true := by simp [hl2, hl3]
      rw [hl1] at CN
      rw [hv] at CI CS
      have hd : circB l (gs.drop 1) = true := by
        unfold circB at hv ⊢
        simp only [Bool.and_eq_true, decide_eq_true_eq] at hv ⊢
        refine ⟨List.all_eq_true.2 fun g hg => List.all_eq_true.1 hv.1 g (List.mem_of_mem_drop hg), hv.2.1, by rw [List.length_drop]; omega⟩
      have hgd : (gcells gs).drop 4 = gcells (gs.drop 1) := by cases gs <;> rfl
      have hld : (gs.drop 1).length = m - 1 := by rw [List.length_drop, ← hm]
      have CT := Lib.hid (fun W A2 c2 (hR : Reads W W.heap.size 4 A2 (m - 1) (gcells (gs.drop 1))) (hc2 : m - 1 ≤ c2) => implCircuitValid_any l A2 (m - 1) c2 W.heap.size (gs.drop 1) W hR (Nat.le_refl _) hld hc2 (by omega))
      rw [hd] at CT
      clear hin hv hl1 hd h24
      by_cases hm0 : m = 0
      · subst hm0
        clear ho R0 HD hm hgd hld CT
        go_wp2_with fail
        refine (CI.out w1 (Below.refl _ _)).mono ?_
        rintro e w2 ⟨rfl, hb2⟩
        go_wp2_with fail
        refine (CS.out w2 hb2).mono ?_
        rintro e w3 ⟨rfl, hb3⟩
        have hb13 := hb2.trans (hb3.mono hb2.size)
        go_wp2_with fail
        refine (CN.out w3).mono ?_
        rintro e w4 ⟨rfl, hb4⟩
        have hb14 := bnext hb (hb13.trans (hb4.mono hb13.size)) (Nat.le_refl _)
        go_wp2_with (go_at_call 11; refine (alive_any _).mono ?_; rintro e w' ⟨rfl, rfl⟩)
        go_ret
        exact ⟨rfl, hb14⟩
      · obtain ⟨b, o, rfl, hbB, _⟩ := R0.openG hm.symm (by omega)
        have RT := R0.cut (k := 1) (by omega) hc
        have HR := Lib.hid (fun W (hw : Below w1.heap.size w1 W) => (RT.below hw).more hw.size)
        rw [Nat.one_mul, hgd] at HR
        have hm1 : 1 ≤ m := by omega
        clear ho R0 HD hm hgd hld RT
        go_wp2_with fail
        refine (CI.out w1 (Below.refl _ _)).mono ?_
        rintro e w2 ⟨rfl, hb2⟩
        go_wp2_with fail
        refine (CS.out w2 hb2).mono ?_
        rintro e w3 ⟨rfl, hb3⟩
        have hb13 := hb2.trans (hb3.mono hb2.size)
        have R3 := HR.out w3 hb13
        by_cases hc1 : c1 = 1
        · subst hc1
          obtain rfl : m = 1 := by omega
          rw [if_pos rfl] at R3
          go_wp2_with fail
          refine (CT.out w3 _ _ R3 (by omega)).mono ?_
          rintro e w4 ⟨rfl, hb4⟩
          have hb14 := hb13.trans (hb4.mono hb13.size)
          go_wp2_with fail
          refine (CN.out w4).mono ?_
          rintro e w5 ⟨rfl, hb5⟩
          have hb15 := bnext hb (hb14.trans (hb5.mono hb14.size)) (Nat.le_refl _)
          go_wp2_with (go_at_call 11; refine (alive_any _).mono ?_; rintro e w' ⟨rfl, rfl⟩)
          go_ret
          exact ⟨rfl, hb15⟩
        · rw [if_neg hc1] at R3
          simp only [Option.map_some, Addr.add] at R3
          go_wp2_with fail
          refine (CT.out w3 _ _ R3 (by omega)).mono ?_
          rintro e w4 ⟨rfl, hb4⟩
          have hb14 := hb13.trans (hb4.mono hb13.size)
          go_wp2_with fail
          refine (CN.out w4).mono ?_
          rintro e w5 ⟨rfl, hb5⟩
          have hb15 := bnext hb (hb14.trans (hb5.mono hb14.size)) (Nat.le_refl _)
          go_wp2_with (go_at_call 11; refine (alive_any _).mono ?_; rintro e w' ⟨rfl, rfl⟩)
          go_ret
          exact ⟨rfl, hb15⟩
end Go.Proofs.Ytbhfkcneakocdaa
