/- Contracts of (Gate).changes and of both Changes. -/
import Derived.Test.YtpahhgehamgkaaaChg
import Derived.Test.YtpahhgehamgkaaaCirc
namespace Go.Proofs.Ytpahhgehamgkaaa
open Go.RowKit
set_option linter.unusedVariables false
set_option linter.unusedSimpArgs false

/-- the lines that a gate of one of the five kinds changes -/
def chL (g : Gt) : List Int := if g.k = 0 then [g.a] else if g.k = 1 then [g.b] else if g.k = 2 then [g.c] else if g.k = 3 then [min g.a g.b, max g.a g.b] else [min g.b g.c, max g.b g.c]
/-- what Changes answers -/
def chgL (l : Int) (g : Gt) : List Int := if gateB l g = true then chL g else []
theorem chgL_n {l : Int} {g : Gt} (h : gateB l g = false) : chgL l g = [] := by unfold chgL; rw [h]; rfl
theorem chgL_y {l : Int} {g : Gt} (h : gateB l g = true) : chgL l g = chL g := by unfold chgL; rw [h]; rfl
theorem chL_len (g : Gt) : (chL g).length ≤ 2 := by
  unfold chL
  repeat' split
  all_goals simp
theorem chgL_len (l : Int) (g : Gt) : (chgL l g).length ≤ 2 := by
  unfold chgL
  split
  · exact chL_len g
  · simp
theorem chgL_bd (l : Int) (g : Gt) : (chgL l g).length ≤ 1048576 := Nat.le_trans (chgL_len l g) (by omega)
theorem gateB_five {l : Int} {g : Gt} (h : gateB l g = true) : g.k = 0 ∨ g.k = 1 ∨ g.k = 2 ∨ g.k = 3 ∨ g.k = 4 := by
  unfold gateB at h
  simp only [Bool.and_eq_true] at h
  have := inB_t h.1.1.2
  omega

theorem cells_after' {w w1 : World} {t : TypeId} {k a b c : Int} (h : Below (w.alloc (.cells #[.int .i64 k, .int .i64 a, .int .i64 b, .int .i64 c] t)).heap.size (w.alloc (.cells #[.int .i64 k, .int .i64 a, .int .i64 b, .int .i64 c] t)) w1) :
    (w1.cell? ⟨w.heap.size, 0, none⟩ = some (.int .i64 k) ∧ w1.cell? ⟨w.heap.size, 1, none⟩ = some (.int .i64 a) ∧ w1.cell? ⟨w.heap.size, 2, none⟩ = some (.int .i64 b) ∧ w1.cell? ⟨w.heap.size, 3, none⟩ = some (.int .i64 c)) ∧ Below w.heap.size w w1 := by
  have hB := (Blk.new w t #[.int .i64 k, .int .i64 a, .int .i64 b, .int .i64 c]).below h (by simp)
  exact ⟨⟨hB.cell 0, hB.cell 1, hB.cell 2, hB.cell 3⟩, ((Below.refl _ _).alloc (Nat.le_refl _) _).trans (h.mono (by simp))⟩
theorem own_two {w : World} {B : Nat} {A : Option Addr} {x y : Int} (h : Own w B A ([x, y].map (Value.int .i64))) : ∃ g o, A = some ⟨g, o, none⟩ ∧ B ≤ g ∧ g < w.heap.size ∧ w.cell? ⟨g, o, none⟩ = some (.int .i64 x) ∧ w.cell? ⟨g, o + 1, none⟩ = some (.int .i64 y) ∧ w.frozen? ⟨g, o, none⟩ = false ∧ w.frozen? ⟨g, o + 1, none⟩ = false := by
  obtain ⟨g, o, e, h1, h2, hc⟩ := h (by simp)
  have c0 := hc 0 _ rfl
  have c1 := hc 1 _ rfl
  exact ⟨g, o, e, h1, h2, c0.1, c1.1, c0.2, c1.2⟩
theorem retL_two {w w1 w2 : World} {g o c : Nat} {x y : Int} {e : Ending} {e' : Ending} (hb : Below w.heap.size w w1) (hg : w.heap.size ≤ g) (hg1 : g < w1.heap.size) (h : Srt2 g o x y w1 e' w2) (hc : 2 ≤ c) (he : e = .returned (.slice (some ⟨g, o, none⟩) 2 c)) : RetL [min x y, max x y] w e w2 := by
  obtain ⟨_, hgr, ⟨c0, c1⟩, f0, f1⟩ := h
  refine ⟨_, c, he, hc, fun _ => ⟨g, o, rfl, hg, Nat.lt_of_lt_of_le hg1 hgr.size, fun j u hu => ?_⟩, hb.grown hgr hb.size (fun q e => by cases e; exact hg)⟩
  match j, hu with
  | 0, hu => cases hu; exact ⟨c0, f0⟩
  | 1, hu => cases hu; exact ⟨c1, f1⟩

set_option maxHeartbeats 1000000 in
theorem changes0 (a b c : Int) (w : World) : Calls Try.prog 72 #[.agg #[.int .i64 0, .int .i64 a, .int .i64 b, .int .i64 c]] w fun e w' => RetL (chL ⟨0, a, b, c⟩) w e w' := by
  have CN := fun w => nature0 a b c w
  rw [show natOf 0 = #[.string ⟨#[110, 111, 116]⟩, .int .i64 1, .int .i64 1, .int .i64 1] from rfl] at CN
  have HN := Lib.hid CN
  have CS := fun w => some_any 0 a b c 1 true false false w (by decide) (by decide) (by decide)
  rw [show some3 true false false a b c 3 = [a] from rfl] at CS
  have HS := Lib.hid CS
  clear CN CS
  have hb0 : ∀ o : Obj, Below w.heap.size w (w.alloc o) := fun o => (Below.refl _ _).alloc (Nat.le_refl _) _
  have Hb := Lib.hid hb0
  clear hb0
  go_enter Try.func72, Try.ntmps72
  go_wp2_with fail
  refine (HN.out _).mono ?_
  rintro e w1 ⟨rfl, hb⟩
  have hb1 := (Hb.out _).trans (hb.mono (by simp))
  have hs1 := hb1.size
  have hc0 : ∀ o : Obj, (w1.alloc o).cell? ⟨w.heap.size, 0, none⟩ = some (.int .i64 0) ∧ (w1.alloc o).cell? ⟨w.heap.size, 1, none⟩ = some (.int .i64 a) ∧ (w1.alloc o).cell? ⟨w.heap.size, 2, none⟩ = some (.int .i64 b) ∧ (w1.alloc o).cell? ⟨w.heap.size, 3, none⟩ = some (.int .i64 c) := fun o => by
    have hB := ((Blk.new w _ _).below hb (by simp)).alloc o
    exact ⟨hB.cell 0, hB.cell 1, hB.cell 2, hB.cell 3⟩
  go_wp2_with fail
  refine (HS.out _).mono ?_
  rintro e w2 hr
  obtain ⟨A, cp, rfl, hcp, ho, hb2⟩ := hr.of_below (hb1.alloc hb1.size _)
  simp only [List.length_cons, List.length_nil, Nat.zero_add, Nat.reduceAdd] at hcp ⊢
  clear hc0 hb
  go_wp2_with fail
  refine (sort1_any A cp w2).mono ?_
  rintro e w' ⟨⟨v, rfl⟩, rfl⟩
  go_wp2_with fail
  go_ret
  exact ⟨A, cp, rfl, hcp, ho, hb2⟩
set_option maxHeartbeats 1000000 in
theorem changes1 (a b c : Int) (w : World) : Calls Try.prog 72 #[.agg #[.int .i64 1, .int .i64 a, .int .i64 b, .int .i64 c]] w fun e w' => RetL (chL ⟨1, a, b, c⟩) w e w' := by
  have CN := fun w => nature1 a b c w
  rw [show natOf 1 = #[.string ⟨#[99, 111, 112, 121]⟩, .int .i64 3, .int .i64 2, .int .i64 1] from rfl] at CN
  have HN := Lib.hid CN
  have CS := fun w => some_any 1 a b c 2 false true false w (by decide) (by decide) (by decide)
  rw [show some3 false true false a b c 3 = [b] from rfl] at CS
  have HS := Lib.hid CS
  clear CN CS
  have hb0 : ∀ o : Obj, Below w.heap.size w (w.alloc o) := fun o => (Below.refl _ _).alloc (Nat.le_refl _) _
  have Hb := Lib.hid hb0
  clear hb0
  go_enter Try.func72, Try.ntmps72
  go_wp2_with fail
  refine (HN.out _).mono ?_
  rintro e w1 ⟨rfl, hb⟩
  have hb1 := (Hb.out _).trans (hb.mono (by simp))
  have hs1 := hb1.size
  have hc0 : ∀ o : Obj, (w1.alloc o).cell? ⟨w.heap.size, 0, none⟩ = some (.int .i64 1) ∧ (w1.alloc o).cell? ⟨w.heap.size, 1, none⟩ = some (.int .i64 a) ∧ (w1.alloc o).cell? ⟨w.heap.size, 2, none⟩ = some (.int .i64 b) ∧ (w1.alloc o).cell? ⟨w.heap.size, 3, none⟩ = some (.int .i64 c) := fun o => by
    have hB := ((Blk.new w _ _).below hb (by simp)).alloc o
    exact ⟨hB.cell 0, hB.cell 1, hB.cell 2, hB.cell 3⟩
  go_wp2_with fail
  refine (HS.out _).mono ?_
  rintro e w2 hr
  obtain ⟨A, cp, rfl, hcp, ho, hb2⟩ := hr.of_below (hb1.alloc hb1.size _)
  simp only [List.length_cons, List.length_nil, Nat.zero_add, Nat.reduceAdd] at hcp ⊢
  clear hc0 hb
  go_wp2_with fail
  refine (sort1_any A cp w2).mono ?_
  rintro e w' ⟨⟨v, rfl⟩, rfl⟩
  go_wp2_with fail
  go_ret
  exact ⟨A, cp, rfl, hcp, ho, hb2⟩
set_option maxHeartbeats 1000000 in
theorem changes2 (a b c : Int) (w : World) : Calls Try.prog 72 #[.agg #[.int .i64 2, .int .i64 a, .int .i64 b, .int .i64 c]] w fun e w' => RetL (chL ⟨2, a, b, c⟩) w e w' := by
  have CN := fun w => nature2 a b c w
  rw [show natOf 2 = #[.string ⟨#[98, 111, 116, 104]⟩, .int .i64 7, .int .i64 4, .int .i64 5] from rfl] at CN
  have HN := Lib.hid CN
  have CS := fun w => some_any 2 a b c 4 false false true w (by decide) (by decide) (by decide)
  rw [show some3 false false true a b c 3 = [c] from rfl] at CS
  have HS := Lib.hid CS
  clear CN CS
  have hb0 : ∀ o : Obj, Below w.heap.size w (w.alloc o) := fun o => (Below.refl _ _).alloc (Nat.le_refl _) _
  have Hb := Lib.hid hb0
  clear hb0
  go_enter Try.func72, Try.ntmps72
  go_wp2_with fail
  refine (HN.out _).mono ?_
  rintro e w1 ⟨rfl, hb⟩
  have hb1 := (Hb.out _).trans (hb.mono (by simp))
  have hs1 := hb1.size
  have hc0 : ∀ o : Obj, (w1.alloc o).cell? ⟨w.heap.size, 0, none⟩ = some (.int .i64 2) ∧ (w1.alloc o).cell? ⟨w.heap.size, 1, none⟩ = some (.int .i64 a) ∧ (w1.alloc o).cell? ⟨w.heap.size, 2, none⟩ = some (.int .i64 b) ∧ (w1.alloc o).cell? ⟨w.heap.size, 3, none⟩ = some (.int .i64 c) := fun o => by
    have hB := ((Blk.new w _ _).below hb (by simp)).alloc o
    exact ⟨hB.cell 0, hB.cell 1, hB.cell 2, hB.cell 3⟩
  go_wp2_with fail
  refine (HS.out _).mono ?_
  rintro e w2 hr
  obtain ⟨A, cp, rfl, hcp, ho, hb2⟩ := hr.of_below (hb1.alloc hb1.size _)
  simp only [List.length_cons, List.length_nil, Nat.zero_add, Nat.reduceAdd] at hcp ⊢
  clear hc0 hb
  go_wp2_with fail
  refine (sort1_any A cp w2).mono ?_
  rintro e w' ⟨⟨v, rfl⟩, rfl⟩
  go_wp2_with fail
  go_ret
  exact ⟨A, cp, rfl, hcp, ho, hb2⟩
set_option maxHeartbeats 1000000 in
theorem changes3 (a b c : Int) (w : World) : Calls Try.prog 72 #[.agg #[.int .i64 3, .int .i64 a, .int .i64 b, .int .i64 c]] w fun e w' => RetL (chL ⟨3, a, b, c⟩) w e w' := by
  have CN := fun w => nature3 a b c w
  rw [show natOf 3 = #[.string ⟨#[115, 119, 97, 112]⟩, .int .i64 3, .int .i64 3, .int .i64 3] from rfl] at CN
  have HN := Lib.hid CN
  have CS := fun w => some_any 3 a b c 3 true true false w (by decide) (by decide) (by decide)
  rw [show some3 true true false a b c 3 = [a, b] from rfl] at CS
  have HS := Lib.hid CS
  clear CN CS
  have hb0 : ∀ o : Obj, Below w.heap.size w (w.alloc o) := fun o => (Below.refl _ _).alloc (Nat.le_refl _) _
  have Hb := Lib.hid hb0
  clear hb0
  go_enter Try.func72, Try.ntmps72
  go_wp2_with fail
  refine (HN.out _).mono ?_
  rintro e w1 ⟨rfl, hb⟩
  have hb1 := (Hb.out _).trans (hb.mono (by simp))
  have hs1 := hb1.size
  have hc0 : ∀ o : Obj, (w1.alloc o).cell? ⟨w.heap.size, 0, none⟩ = some (.int .i64 3) ∧ (w1.alloc o).cell? ⟨w.heap.size, 1, none⟩ = some (.int .i64 a) ∧ (w1.alloc o).cell? ⟨w.heap.size, 2, none⟩ = some (.int .i64 b) ∧ (w1.alloc o).cell? ⟨w.heap.size, 3, none⟩ = some (.int .i64 c) := fun o => by
    have hB := ((Blk.new w _ _).below hb (by simp)).alloc o
    exact ⟨hB.cell 0, hB.cell 1, hB.cell 2, hB.cell 3⟩
  go_wp2_with fail
  refine (HS.out _).mono ?_
  rintro e w2 hr
  obtain ⟨A, cp, rfl, hcp, ho, hb2⟩ := hr.of_below (hb1.alloc hb1.size _)
  simp only [List.length_cons, List.length_nil, Nat.zero_add, Nat.reduceAdd] at hcp ⊢
  obtain ⟨g, o, rfl, hg, hg1, c0, c1, f0, f1⟩ := own_two ho
  have HSo := Lib.hid (sort2_any g o cp _ _ w2 c0 c1 f0 f1 hcp)
  clear hc0 hb c0 c1 f0 f1 ho
  go_wp2_with fail
  refine HSo.out.mono ?_
  rintro e w3 hr
  have HR := Lib.hid hr
  obtain ⟨⟨v, rfl⟩, _⟩ := hr
  go_wp2_with fail
  go_ret
  exact retL_two hb2 hg hg1 HR.out hcp rfl
set_option maxHeartbeats 1000000 in
theorem changes4 (a b c : Int) (w : World) : Calls Try.prog 72 #[.agg #[.int .i64 4, .int .i64 a, .int .i64 b, .int .i64 c]] w fun e w' => RetL (chL ⟨4, a, b, c⟩) w e w' := by
  have CN := fun w => nature4 a b c w
  rw [show natOf 4 = #[.string ⟨#[105, 102]⟩, .int .i64 7, .int .i64 6, .int .i64 7] from rfl] at CN
  have HN := Lib.hid CN
  have CS := fun w => some_any 4 a b c 6 false true true w (by decide) (by decide) (by decide)
  rw [show some3 false true true a b c 3 = [b, c] from rfl] at CS
  have HS := Lib.hid CS
  clear CN CS
  have hb0 : ∀ o : Obj, Below w.heap.size w (w.alloc o) := fun o => (Below.refl _ _).alloc (Nat.le_refl _) _
  have Hb := Lib.hid hb0
  clear hb0
  go_enter Try.func72, Try.ntmps72
  go_wp2_with fail
  refine (HN.out _).mono ?_
  rintro e w1 ⟨rfl, hb⟩
  have hb1 := (Hb.out _).trans (hb.mono (by simp))
  have hs1 := hb1.size
  have hc0 : ∀ o : Obj, (w1.alloc o).cell? ⟨w.heap.size, 0, none⟩ = some (.int .i64 4) ∧ (w1.alloc o).cell? ⟨w.heap.size, 1, none⟩ = some (.int .i64 a) ∧ (w1.alloc o).cell? ⟨w.heap.size, 2, none⟩ = some (.int .i64 b) ∧ (w1.alloc o).cell? ⟨w.heap.size, 3, none⟩ = some (.int .i64 c) := fun o => by
    have hB := ((Blk.new w _ _).below hb (by simp)).alloc o
    exact ⟨hB.cell 0, hB.cell 1, hB.cell 2, hB.cell 3⟩
  go_wp2_with fail
  refine (HS.out _).mono ?_
  rintro e w2 hr
  obtain ⟨A, cp, rfl, hcp, ho, hb2⟩ := hr.of_below (hb1.alloc hb1.size _)
  simp only [List.length_cons, List.length_nil, Nat.zero_add, Nat.reduceAdd] at hcp ⊢
  obtain ⟨g, o, rfl, hg, hg1, c0, c1, f0, f1⟩ := own_two ho
  have HSo := Lib.hid (sort2_any g o cp _ _ w2 c0 c1 f0 f1 hcp)
  clear hc0 hb c0 c1 f0 f1 ho
  go_wp2_with fail
  refine HSo.out.mono ?_
  rintro e w3 hr
  have HR := Lib.hid hr
  obtain ⟨⟨v, rfl⟩, _⟩ := hr
  go_wp2_with fail
  go_ret
  exact retL_two hb2 hg hg1 HR.out hcp rfl

theorem changes_any (g : Gt) (w : World) (h : g.k = 0 ∨ g.k = 1 ∨ g.k = 2 ∨ g.k = 3 ∨ g.k = 4) : Calls Try.prog 72 #[g.val] w fun e w' => RetL (chL g) w e w' := by
  obtain ⟨k, a, b, c⟩ := g
  rcases h with h | h | h | h | h <;> (simp only at h; subst h)
  · exact changes0 a b c w
  · exact changes1 a b c w
  · exact changes2 a b c w
  · exact changes3 a b c w
  · exact changes4 a b c w


set_option maxHeartbeats 1000000 in
theorem specChanges_any (l : Int) (g : Gt) (w : World) :
    Calls Try.prog 52 #[.int .i64 l, g.val] w fun e w' => RetL (chgL l g) w e w' := by
  have HV := Lib.hid (fun W => specGateValid_any l g W)
  have hk := fun h : gateB l g = true => gateB_five h
  obtain ⟨k, a, b, c⟩ := g
  unfold Gt.val at *
  cases hv : gateB l ⟨k, a, b, c⟩ with
  | false =>
    rw [hv] at HV
    have Hr := Lib.hid (chgL_n hv)
    clear hv hk
    go_enter Try.func52, Try.ntmps52
    go_wp2_with fail
    refine (HV.out _).mono ?_
    rintro e w1 ⟨rfl, h1⟩
    obtain ⟨hx, hb1⟩ := cells_after' h1
    go_wp2_with fail
    go_ret
    exact retL_nil' Hr.out (hb1.alloc hb1.size _) rfl
  | true =>
    rw [hv] at HV
    have Hr := Lib.hid (chgL_y hv)
    have h5 := hk hv
    clear hv hk
    simp only at h5
    rcases h5 with rfl | rfl | rfl | rfl | rfl
    · go_enter Try.func52, Try.ntmps52
      go_wp2_with fail
      refine (HV.out _).mono ?_
      rintro e w1 ⟨rfl, h1⟩
      obtain ⟨⟨x0, x1, x2, x3⟩, hb1⟩ := cells_after' h1
      clear h1
      go_wp2_with fail
      go_ret
      rw [Hr.out]
      exact retL_new hb1 rfl rfl rfl rfl
    · go_enter Try.func52, Try.ntmps52
      go_wp2_with fail
      refine (HV.out _).mono ?_
      rintro e w1 ⟨rfl, h1⟩
      obtain ⟨⟨x0, x1, x2, x3⟩, hb1⟩ := cells_after' h1
      clear h1
      go_wp2_with fail
      go_ret
      rw [Hr.out]
      exact retL_new hb1 rfl rfl rfl rfl
    · go_enter Try.func52, Try.ntmps52
      go_wp2_with fail
      refine (HV.out _).mono ?_
      rintro e w1 ⟨rfl, h1⟩
      obtain ⟨⟨x0, x1, x2, x3⟩, hb1⟩ := cells_after' h1
      clear h1
      go_wp2_with fail
      go_ret
      rw [Hr.out]
      exact retL_new hb1 rfl rfl rfl rfl
    · go_enter Try.func52, Try.ntmps52
      go_wp2_with fail
      refine (HV.out _).mono ?_
      rintro e w1 ⟨rfl, h1⟩
      obtain ⟨⟨x0, x1, x2, x3⟩, hb1⟩ := cells_after' h1
      clear h1
      go_wp2_with fail
      all_goals
        go_ret
        rw [Hr.out]
        refine retL_new hb1 ?_ rfl rfl rfl
        simp [chL]
        omega
    · go_enter Try.func52, Try.ntmps52
      go_wp2_with fail
      refine (HV.out _).mono ?_
      rintro e w1 ⟨rfl, h1⟩
      obtain ⟨⟨x0, x1, x2, x3⟩, hb1⟩ := cells_after' h1
      clear h1
      go_wp2_with fail
      all_goals
        go_ret
        rw [Hr.out]
        refine retL_new hb1 ?_ rfl rfl rfl
        simp [chL]
        omega
end Go.Proofs.Ytpahhgehamgkaaa
