/- What StepGates answers, and contracts of both StepGates. -/
import Derived.Test.YtpahhgehamgkaaaNode
import Derived.Test.YtpahhgehamgkaaaCirc
import Derived.Test.YtpahhgehamgkaaaShoI
namespace Go.Proofs.Ytpahhgehamgkaaa
open Go.RowKit
set_option linter.unusedVariables false
set_option linter.unusedSimpArgs false

/-- the gates of a step -/
def stG (o x y line : Int) : List Gt :=
  if o = 0 then [⟨2, x, y, line⟩] else if o = 1 then [⟨1, x, line, 0⟩, ⟨1, y, line, 0⟩, ⟨2, x, y, line⟩] else if o = 2 then [⟨1, x, line, 0⟩, ⟨1, y, line, 0⟩] else if o = 3 then [⟨1, x, line, 0⟩, ⟨0, line, 0, 0⟩] else []
/-- whether StepGates answers them -/
def stOk (o x y line : Int) : Bool := circB 8 (stG o x y line) && (o == 3 || !(x == y))
def stepG (o x y line : Int) : List Gt := if stOk o x y line = true then stG o x y line else []
theorem stepG_y {o x y line : Int} (h : stOk o x y line = true) : stepG o x y line = stG o x y line := if_pos h
theorem stepG_n {o x y line : Int} (h : stOk o x y line = false) : stepG o x y line = [] := if_neg (by rw [h]; decide)
theorem stG_len (o x y line : Int) : (stG o x y line).length ≤ 3 := by
  unfold stG
  split
  · simp
  · split
    · simp
    · split
      · simp
      · split <;> simp
theorem stepG_len (o x y line : Int) : (stepG o x y line).length ≤ 3 := by
  unfold stepG
  split
  · exact stG_len _ _ _ _
  · simp
theorem gate2_eq (x y l : Int) : gateB 8 ⟨2, x, y, l⟩ = (gateB 8 ⟨1, x, l, 0⟩ && (gateB 8 ⟨1, y, l, 0⟩ && !(x == y))) := by
  rw [Bool.eq_iff_iff]
  simp [gateB, linesOf, okP, restZ, hasB, inB]
  constructor <;> intro h <;> omega
theorem gate2_ne {x y l : Int} (h : gateB 8 ⟨2, x, y, l⟩ = true) : (x == y) = false := by
  rw [gate2_eq] at h
  simp at h
  simp [h]
theorem circ8 (gs : List Gt) (h : gs.length ≤ 24) : circB 8 gs = gs.all (gateB 8) := by
  unfold circB
  rw [decide_eq_true h, show inB 8 1 8 = true from rfl]
  simp
/-- how impl.StepGates decides -/
def stI (o x y line : Int) : Bool := (o == 3 || gateB 8 ⟨2, x, y, line⟩) && (stG o x y line).all (gateB 8)
theorem stI_eq {o x y line : Int} (h : o = 0 ∨ o = 1 ∨ o = 2 ∨ o = 3) : stI o x y line = stOk o x y line := by
  unfold stI stOk
  rw [circ8 _ (by have := stG_len o x y line; omega)]
  rcases h with rfl | rfl | rfl | rfl
  · simp only [stG, if_true, List.all_cons, List.all_nil, Bool.and_true]
    cases h : gateB 8 ⟨2, x, y, line⟩ with
    | false => rfl
    | true => rw [gate2_ne h]; rfl
  · have e : stG 1 x y line = [⟨1, x, line, 0⟩, ⟨1, y, line, 0⟩, ⟨2, x, y, line⟩] := rfl
    rw [e]
    simp only [List.all_cons, List.all_nil, Bool.and_true]
    rw [gate2_eq]
    cases gateB 8 ⟨1, x, line, 0⟩ <;> cases gateB 8 ⟨1, y, line, 0⟩ <;> cases (x == y) <;> rfl
  · have e : stG 2 x y line = [⟨1, x, line, 0⟩, ⟨1, y, line, 0⟩] := rfl
    rw [e]
    simp only [List.all_cons, List.all_nil, Bool.and_true]
    rw [gate2_eq]
    cases gateB 8 ⟨1, x, line, 0⟩ <;> cases gateB 8 ⟨1, y, line, 0⟩ <;> cases (x == y) <;> rfl
  · simp
theorem stepG_else {o x y line : Int} (h0 : ¬ o = 0) (h1 : ¬ o = 1) (h2 : ¬ o = 2) (h3 : ¬ o = 3) : stG o x y line = [] := by
  unfold stG
  rw [if_neg h0, if_neg h1, if_neg h2, if_neg h3]
theorem stepG_else' {o x y line : Int} (h0 : ¬ o = 0) (h1 : ¬ o = 1) (h2 : ¬ o = 2) (h3 : ¬ o = 3) : stepG o x y line = [] := by
  unfold stepG
  rw [stepG_else h0 h1 h2 h3]
  simp

set_option maxHeartbeats 4000000 in
set_option maxRecDepth 50000 in
theorem specStep_0 (x y line : Int) (w : World) :
    Calls Try.prog 16 #[.agg #[.int .i64 0, .int .i64 x, .int .i64 y], .int .i64 line] w fun e w' => RetG (stepG 0 x y line) w e w' := by
  obtain ⟨ig, gi, gz0, gz1, gz2⟩ := info_parts infoGate
  have own0 : ∀ o1 o2 o3 o4 : Obj, (((((w.alloc o1).alloc (.cells #[] 48)).alloc o2).alloc o3).alloc o4).ownsRow w.heap.size 48 4 (.slice (some ⟨w.heap.size + 1, 0, none⟩) 0 0) 0 [] := fun o1 o2 o3 o4 => by
    simpa using (((World.ownsRow_made (base := w.heap.size) (e := 48) (size := 4) (w.alloc o1) #[] 0 (by simp) (by simp [maxLen]) rfl).alloc o2).alloc o3).alloc o4
  have hb0 : ∀ o1 o2 o3 o4 o5 o6 : Obj, Below w.heap.size w ((((((w.alloc o1).alloc o2).alloc o3).alloc o4).alloc o5).alloc o6) := fun o1 o2 o3 o4 o5 o6 =>
    ((((((Below.refl w.heap.size w).alloc (Nat.le_refl _) o1).alloc (by simp) o2).alloc (by simp; omega) o3).alloc (by simp; omega) o4).alloc (by simp; omega) o5).alloc (by simp; omega) o6
  go_enter Try.func16, Try.ntmps16
  go_wp2_with (at_builtin; refine wpList_append_own _ rfl _ _ 26 rfl w.heap.size 48 ig (.agg #[.int .i64 0, .int .i64 0, .int .i64 0, .int .i64 0]) 4 32 Try.underlying26 gi gz0 gz1 gz2 rfl (by decide) _ _ _ rfl ((own0 _ _ _ _).alloc _) ⟨w.heap.size + 1 + 1 + 1 + 1 + 1, 0, none⟩ 1 1 [.int .i64 2, .int .i64 x, .int .i64 y, .int .i64 line] rfl rfl (cells_newAt _ _ _ (by first | rfl | simp | simp [World.setCell])) (by simp [Value.oneCell']) (by unfold maxLen; omega) (by omega) (by simp; omega) ?_; intro v' w3 hown' hgrow _)
  have hgw : World.grownBy _ w3 (some (w.heap.size + 1)) := hgrow
  have hB3 := ((((((Blk.new w 35 #[.int .i64 0, .int .i64 x, .int .i64 y]).alloc _).alloc _).alloc _).alloc _).alloc _).grown hgw (by simp)
  have hb3 := (hb0 _ _ _ _ _ _).grown hgw (by simp; omega) (fun q e => by injection e with e; omega)
  have hown2 : w3.ownsRow w.heap.size 48 4 v' 1 (gcells (stG 0 x y line)) := hown'
  clear hown' hgrow hgw own0 hb0
  obtain ⟨A5, c5, rfl, hc5⟩ := own_shape hown2
  have HT := Lib.hid (specCircuitValid_any 8 A5 1 c5 _ (stG 0 x y line) w3 (own_form4 hown2 rfl) (Nat.le_refl _) rfl hc5 (by omega))
  have HO := Lib.hid hown2
  have HB := Lib.hid hB3
  have hs3 := hb3.size
  have HSB : Hid (stOk 0 x y line = (circB 8 (stG 0 x y line) && !(x == y))) := Lib.hid (by unfold stOk; rfl)
  obtain ⟨v, ev⟩ : ∃ v, v = circB 8 (stG 0 x y line) := ⟨_, rfl⟩
  rw [← ev] at HT HSB
  clear hown2 hB3 ev
  cases v with
  | false =>
    have Hr := Lib.hid (stepG_n (by rw [HSB.out]; rfl))
    go_wp2_with fail
    refine HT.out.mono ?_
    rintro e w4 ⟨rfl, hb4⟩
    go_wp2_with fail
    go_ret
    exact retG_nil Hr.out ((bnext hb3 hb4 (Nat.le_refl _)).alloc (by have := hb4.size; omega) _) rfl
  | true =>
    obtain ⟨p, ep⟩ : ∃ p, p = (x == y) := ⟨_, rfl⟩
    rw [← ep] at HSB
    have ep' : (x == y) = p := ep.symm
    clear ep
    cases p with
    | true =>
      have Hr := Lib.hid (stepG_n (by rw [HSB.out]; rfl))
      go_wp2_with fail
      refine HT.out.mono ?_
      rintro e w4 ⟨rfl, hb4⟩
      have q0 : w4.cell? ⟨w.heap.size, 0, none⟩ = some (.int .i64 0) := (HB.out.next hb4).cell 0
      have q1 : w4.cell? ⟨w.heap.size, 1, none⟩ = some (.int .i64 x) := (HB.out.next hb4).cell 1
      have q2 : w4.cell? ⟨w.heap.size, 2, none⟩ = some (.int .i64 y) := (HB.out.next hb4).cell 2
      go_wp2_with fail
      go_ret
      exact retG_nil Hr.out ((bnext hb3 hb4 (Nat.le_refl _)).alloc (by have := hb4.size; omega) _) rfl
    | false =>
      have Hr := Lib.hid (stepG_y (by rw [HSB.out]; rfl))
      go_wp2_with fail
      refine HT.out.mono ?_
      rintro e w4 ⟨rfl, hb4⟩
      have q0 : w4.cell? ⟨w.heap.size, 0, none⟩ = some (.int .i64 0) := (HB.out.next hb4).cell 0
      have q1 : w4.cell? ⟨w.heap.size, 1, none⟩ = some (.int .i64 x) := (HB.out.next hb4).cell 1
      have q2 : w4.cell? ⟨w.heap.size, 2, none⟩ = some (.int .i64 y) := (HB.out.next hb4).cell 2
      have own4 := own_next HO.out hb4
      have HO4 := Lib.hid own4
      clear own4
      go_wp2_with fail
      go_ret
      rw [Hr.out]
      exact retG_acc HO4.out (bnext hb3 hb4 (Nat.le_refl _)) rfl
set_option maxHeartbeats 4000000 in
set_option maxRecDepth 50000 in
theorem specStep_1 (x y line : Int) (w : World) :
    Calls Try.prog 16 #[.agg #[.int .i64 1, .int .i64 x, .int .i64 y], .int .i64 line] w fun e w' => RetG (stepG 1 x y line) w e w' := by
  obtain ⟨ig, gi, gz0, gz1, gz2⟩ := info_parts infoGate
  have own0 : ∀ o1 o2 o3 o4 : Obj, (((((w.alloc o1).alloc (.cells #[] 48)).alloc o2).alloc o3).alloc o4).ownsRow w.heap.size 48 4 (.slice (some ⟨w.heap.size + 1, 0, none⟩) 0 0) 0 [] := fun o1 o2 o3 o4 => by
    simpa using (((World.ownsRow_made (base := w.heap.size) (e := 48) (size := 4) (w.alloc o1) #[] 0 (by simp) (by simp [maxLen]) rfl).alloc o2).alloc o3).alloc o4
  have hb0 : ∀ o1 o2 o3 o4 o5 o6 : Obj, Below w.heap.size w ((((((w.alloc o1).alloc o2).alloc o3).alloc o4).alloc o5).alloc o6) := fun o1 o2 o3 o4 o5 o6 =>
    ((((((Below.refl w.heap.size w).alloc (Nat.le_refl _) o1).alloc (by simp) o2).alloc (by simp; omega) o3).alloc (by simp; omega) o4).alloc (by simp; omega) o5).alloc (by simp; omega) o6
  go_enter Try.func16, Try.ntmps16
  go_wp2_with (at_builtin; refine wpList_append_own _ rfl _ _ 26 rfl w.heap.size 48 ig (.agg #[.int .i64 0, .int .i64 0, .int .i64 0, .int .i64 0]) 4 32 Try.underlying26 gi gz0 gz1 gz2 rfl (by decide) _ _ _ rfl ((own0 _ _ _ _).alloc _) ⟨w.heap.size + 1 + 1 + 1 + 1 + 1, 0, none⟩ 3 3 [.int .i64 1, .int .i64 x, .int .i64 line, .int .i64 0, .int .i64 1, .int .i64 y, .int .i64 line, .int .i64 0, .int .i64 2, .int .i64 x, .int .i64 y, .int .i64 line] rfl rfl (cells_newAt _ _ _ (by first | rfl | simp | simp [World.setCell])) (by simp [Value.oneCell']) (by unfold maxLen; omega) (by omega) (by simp; omega) ?_; intro v' w3 hown' hgrow _)
  have hgw : World.grownBy _ w3 (some (w.heap.size + 1)) := hgrow
  have hB3 := ((((((Blk.new w 35 #[.int .i64 1, .int .i64 x, .int .i64 y]).alloc _).alloc _).alloc _).alloc _).alloc _).grown hgw (by simp)
  have hb3 := (hb0 _ _ _ _ _ _).grown hgw (by simp; omega) (fun q e => by injection e with e; omega)
  have hown2 : w3.ownsRow w.heap.size 48 4 v' 3 (gcells (stG 1 x y line)) := hown'
  clear hown' hgrow hgw own0 hb0
  obtain ⟨A5, c5, rfl, hc5⟩ := own_shape hown2
  have HT := Lib.hid (specCircuitValid_any 8 A5 3 c5 _ (stG 1 x y line) w3 (own_form4 hown2 rfl) (Nat.le_refl _) rfl hc5 (by omega))
  have HO := Lib.hid hown2
  have HB := Lib.hid hB3
  have hs3 := hb3.size
  have HSB : Hid (stOk 1 x y line = (circB 8 (stG 1 x y line) && !(x == y))) := Lib.hid (by unfold stOk; rfl)
  obtain ⟨v, ev⟩ : ∃ v, v = circB 8 (stG 1 x y line) := ⟨_, rfl⟩
  rw [← ev] at HT HSB
  clear hown2 hB3 ev
  cases v with
  | false =>
    have Hr := Lib.hid (stepG_n (by rw [HSB.out]; rfl))
    go_wp2_with fail
    refine HT.out.mono ?_
    rintro e w4 ⟨rfl, hb4⟩
    go_wp2_with fail
    go_ret
    exact retG_nil Hr.out ((bnext hb3 hb4 (Nat.le_refl _)).alloc (by have := hb4.size; omega) _) rfl
  | true =>
    obtain ⟨p, ep⟩ : ∃ p, p = (x == y) := ⟨_, rfl⟩
    rw [← ep] at HSB
    have ep' : (x == y) = p := ep.symm
    clear ep
    cases p with
    | true =>
      have Hr := Lib.hid (stepG_n (by rw [HSB.out]; rfl))
      go_wp2_with fail
      refine HT.out.mono ?_
      rintro e w4 ⟨rfl, hb4⟩
      have q0 : w4.cell? ⟨w.heap.size, 0, none⟩ = some (.int .i64 1) := (HB.out.next hb4).cell 0
      have q1 : w4.cell? ⟨w.heap.size, 1, none⟩ = some (.int .i64 x) := (HB.out.next hb4).cell 1
      have q2 : w4.cell? ⟨w.heap.size, 2, none⟩ = some (.int .i64 y) := (HB.out.next hb4).cell 2
      go_wp2_with fail
      go_ret
      exact retG_nil Hr.out ((bnext hb3 hb4 (Nat.le_refl _)).alloc (by have := hb4.size; omega) _) rfl
    | false =>
      have Hr := Lib.hid (stepG_y (by rw [HSB.out]; rfl))
      go_wp2_with fail
      refine HT.out.mono ?_
      rintro e w4 ⟨rfl, hb4⟩
      have q0 : w4.cell? ⟨w.heap.size, 0, none⟩ = some (.int .i64 1) := (HB.out.next hb4).cell 0
      have q1 : w4.cell? ⟨w.heap.size, 1, none⟩ = some (.int .i64 x) := (HB.out.next hb4).cell 1
      have q2 : w4.cell? ⟨w.heap.size, 2, none⟩ = some (.int .i64 y) := (HB.out.next hb4).cell 2
      have own4 := own_next HO.out hb4
      have HO4 := Lib.hid own4
      clear own4
      go_wp2_with fail
      go_ret
      rw [Hr.out]
      exact retG_acc HO4.out (bnext hb3 hb4 (Nat.le_refl _)) rfl
set_option maxHeartbeats 4000000 in
set_option maxRecDepth 50000 in
theorem specStep_2 (x y line : Int) (w : World) :
    Calls Try.prog 16 #[.agg #[.int .i64 2, .int .i64 x, .int .i64 y], .int .i64 line] w fun e w' => RetG (stepG 2 x y line) w e w' := by
  obtain ⟨ig, gi, gz0, gz1, gz2⟩ := info_parts infoGate
  have own0 : ∀ o1 o2 o3 o4 : Obj, (((((w.alloc o1).alloc (.cells #[] 48)).alloc o2).alloc o3).alloc o4).ownsRow w.heap.size 48 4 (.slice (some ⟨w.heap.size + 1, 0, none⟩) 0 0) 0 [] := fun o1 o2 o3 o4 => by
    simpa using (((World.ownsRow_made (base := w.heap.size) (e := 48) (size := 4) (w.alloc o1) #[] 0 (by simp) (by simp [maxLen]) rfl).alloc o2).alloc o3).alloc o4
  have hb0 : ∀ o1 o2 o3 o4 o5 o6 : Obj, Below w.heap.size w ((((((w.alloc o1).alloc o2).alloc o3).alloc o4).alloc o5).alloc o6) := fun o1 o2 o3 o4 o5 o6 =>
    ((((((Below.refl w.heap.size w).alloc (Nat.le_refl _) o1).alloc (by simp) o2).alloc (by simp; omega) o3).alloc (by simp; omega) o4).alloc (by simp; omega) o5).alloc (by simp; omega) o6
  go_enter Try.func16, Try.ntmps16
  go_wp2_with (at_builtin; refine wpList_append_own _ rfl _ _ 26 rfl w.heap.size 48 ig (.agg #[.int .i64 0, .int .i64 0, .int .i64 0, .int .i64 0]) 4 32 Try.underlying26 gi gz0 gz1 gz2 rfl (by decide) _ _ _ rfl ((own0 _ _ _ _).alloc _) ⟨w.heap.size + 1 + 1 + 1 + 1 + 1, 0, none⟩ 2 2 [.int .i64 1, .int .i64 x, .int .i64 line, .int .i64 0, .int .i64 1, .int .i64 y, .int .i64 line, .int .i64 0] rfl rfl (cells_newAt _ _ _ (by first | rfl | simp | simp [World.setCell])) (by simp [Value.oneCell']) (by unfold maxLen; omega) (by omega) (by simp; omega) ?_; intro v' w3 hown' hgrow _)
  have hgw : World.grownBy _ w3 (some (w.heap.size + 1)) := hgrow
  have hB3 := ((((((Blk.new w 35 #[.int .i64 2, .int .i64 x, .int .i64 y]).alloc _).alloc _).alloc _).alloc _).alloc _).grown hgw (by simp)
  have hb3 := (hb0 _ _ _ _ _ _).grown hgw (by simp; omega) (fun q e => by injection e with e; omega)
  have hown2 : w3.ownsRow w.heap.size 48 4 v' 2 (gcells (stG 2 x y line)) := hown'
  clear hown' hgrow hgw own0 hb0
  obtain ⟨A5, c5, rfl, hc5⟩ := own_shape hown2
  have HT := Lib.hid (specCircuitValid_any 8 A5 2 c5 _ (stG 2 x y line) w3 (own_form4 hown2 rfl) (Nat.le_refl _) rfl hc5 (by omega))
  have HO := Lib.hid hown2
  have HB := Lib.hid hB3
  have hs3 := hb3.size
  have HSB : Hid (stOk 2 x y line = (circB 8 (stG 2 x y line) && !(x == y))) := Lib.hid (by unfold stOk; rfl)
  obtain ⟨v, ev⟩ : ∃ v, v = circB 8 (stG 2 x y line) := ⟨_, rfl⟩
  rw [← ev] at HT HSB
  clear hown2 hB3 ev
  cases v with
  | false =>
    have Hr := Lib.hid (stepG_n (by rw [HSB.out]; rfl))
    go_wp2_with fail
    refine HT.out.mono ?_
    rintro e w4 ⟨rfl, hb4⟩
    go_wp2_with fail
    go_ret
    exact retG_nil Hr.out ((bnext hb3 hb4 (Nat.le_refl _)).alloc (by have := hb4.size; omega) _) rfl
  | true =>
    obtain ⟨p, ep⟩ : ∃ p, p = (x == y) := ⟨_, rfl⟩
    rw [← ep] at HSB
    have ep' : (x == y) = p := ep.symm
    clear ep
    cases p with
    | true =>
      have Hr := Lib.hid (stepG_n (by rw [HSB.out]; rfl))
      go_wp2_with fail
      refine HT.out.mono ?_
      rintro e w4 ⟨rfl, hb4⟩
      have q0 : w4.cell? ⟨w.heap.size, 0, none⟩ = some (.int .i64 2) := (HB.out.next hb4).cell 0
      have q1 : w4.cell? ⟨w.heap.size, 1, none⟩ = some (.int .i64 x) := (HB.out.next hb4).cell 1
      have q2 : w4.cell? ⟨w.heap.size, 2, none⟩ = some (.int .i64 y) := (HB.out.next hb4).cell 2
      go_wp2_with fail
      go_ret
      exact retG_nil Hr.out ((bnext hb3 hb4 (Nat.le_refl _)).alloc (by have := hb4.size; omega) _) rfl
    | false =>
      have Hr := Lib.hid (stepG_y (by rw [HSB.out]; rfl))
      go_wp2_with fail
      refine HT.out.mono ?_
      rintro e w4 ⟨rfl, hb4⟩
      have q0 : w4.cell? ⟨w.heap.size, 0, none⟩ = some (.int .i64 2) := (HB.out.next hb4).cell 0
      have q1 : w4.cell? ⟨w.heap.size, 1, none⟩ = some (.int .i64 x) := (HB.out.next hb4).cell 1
      have q2 : w4.cell? ⟨w.heap.size, 2, none⟩ = some (.int .i64 y) := (HB.out.next hb4).cell 2
      have own4 := own_next HO.out hb4
      have HO4 := Lib.hid own4
      clear own4
      go_wp2_with fail
      go_ret
      rw [Hr.out]
      exact retG_acc HO4.out (bnext hb3 hb4 (Nat.le_refl _)) rfl
set_option maxHeartbeats 4000000 in
set_option maxRecDepth 50000 in
theorem specStep_3 (x y line : Int) (w : World) :
    Calls Try.prog 16 #[.agg #[.int .i64 3, .int .i64 x, .int .i64 y], .int .i64 line] w fun e w' => RetG (stepG 3 x y line) w e w' := by
  obtain ⟨ig, gi, gz0, gz1, gz2⟩ := info_parts infoGate
  have own0 : ∀ o1 o2 o3 o4 : Obj, (((((w.alloc o1).alloc (.cells #[] 48)).alloc o2).alloc o3).alloc o4).ownsRow w.heap.size 48 4 (.slice (some ⟨w.heap.size + 1, 0, none⟩) 0 0) 0 [] := fun o1 o2 o3 o4 => by
    simpa using (((World.ownsRow_made (base := w.heap.size) (e := 48) (size := 4) (w.alloc o1) #[] 0 (by simp) (by simp [maxLen]) rfl).alloc o2).alloc o3).alloc o4
  have hb0 : ∀ o1 o2 o3 o4 o5 o6 : Obj, Below w.heap.size w ((((((w.alloc o1).alloc o2).alloc o3).alloc o4).alloc o5).alloc o6) := fun o1 o2 o3 o4 o5 o6 =>
    ((((((Below.refl w.heap.size w).alloc (Nat.le_refl _) o1).alloc (by simp) o2).alloc (by simp; omega) o3).alloc (by simp; omega) o4).alloc (by simp; omega) o5).alloc (by simp; omega) o6
  go_enter Try.func16, Try.ntmps16
  go_wp2_with (at_builtin; refine wpList_append_own _ rfl _ _ 26 rfl w.heap.size 48 ig (.agg #[.int .i64 0, .int .i64 0, .int .i64 0, .int .i64 0]) 4 32 Try.underlying26 gi gz0 gz1 gz2 rfl (by decide) _ _ _ rfl ((own0 _ _ _ _).alloc _) ⟨w.heap.size + 1 + 1 + 1 + 1 + 1, 0, none⟩ 2 2 [.int .i64 1, .int .i64 x, .int .i64 line, .int .i64 0, .int .i64 0, .int .i64 line, .int .i64 0, .int .i64 0] rfl rfl (cells_newAt _ _ _ (by first | rfl | simp | simp [World.setCell])) (by simp [Value.oneCell']) (by unfold maxLen; omega) (by omega) (by simp; omega) ?_; intro v' w3 hown' hgrow _)
  have hgw : World.grownBy _ w3 (some (w.heap.size + 1)) := hgrow
  have hB3 := ((((((Blk.new w 35 #[.int .i64 3, .int .i64 x, .int .i64 y]).alloc _).alloc _).alloc _).alloc _).alloc _).grown hgw (by simp)
  have hb3 := (hb0 _ _ _ _ _ _).grown hgw (by simp; omega) (fun q e => by injection e with e; omega)
  have hown2 : w3.ownsRow w.heap.size 48 4 v' 2 (gcells (stG 3 x y line)) := hown'
  clear hown' hgrow hgw own0 hb0
  obtain ⟨A5, c5, rfl, hc5⟩ := own_shape hown2
  have HT := Lib.hid (specCircuitValid_any 8 A5 2 c5 _ (stG 3 x y line) w3 (own_form4 hown2 rfl) (Nat.le_refl _) rfl hc5 (by omega))
  have HO := Lib.hid hown2
  have HB := Lib.hid hB3
  have hs3 := hb3.size
  have HSB : Hid (stOk 3 x y line = (circB 8 (stG 3 x y line) && true)) := Lib.hid (by unfold stOk; rfl)
  obtain ⟨v, ev⟩ : ∃ v, v = circB 8 (stG 3 x y line) := ⟨_, rfl⟩
  rw [← ev] at HT HSB
  clear hown2 hB3 ev
  cases v with
  | false =>
    have Hr := Lib.hid (stepG_n (by rw [HSB.out]; rfl))
    go_wp2_with fail
    refine HT.out.mono ?_
    rintro e w4 ⟨rfl, hb4⟩
    go_wp2_with fail
    go_ret
    exact retG_nil Hr.out ((bnext hb3 hb4 (Nat.le_refl _)).alloc (by have := hb4.size; omega) _) rfl
  | true =>
    have Hr := Lib.hid (stepG_y (by rw [HSB.out]; rfl))
    go_wp2_with fail
    refine HT.out.mono ?_
    rintro e w4 ⟨rfl, hb4⟩
    have q0 : w4.cell? ⟨w.heap.size, 0, none⟩ = some (.int .i64 3) := (HB.out.next hb4).cell 0
    have own4 := own_next HO.out hb4
    have HO4 := Lib.hid own4
    clear own4
    go_wp2_with fail
    go_ret
    rw [Hr.out]
    exact retG_acc HO4.out (bnext hb3 hb4 (Nat.le_refl _)) rfl
set_option maxHeartbeats 4000000 in
set_option maxRecDepth 50000 in
theorem specStep_else (o x y line : Int) (w : World) (h0 : ¬ o = 0) (h1 : ¬ o = 1) (h2 : ¬ o = 2) (h3 : ¬ o = 3) :
    Calls Try.prog 16 #[.agg #[.int .i64 o, .int .i64 x, .int .i64 y], .int .i64 line] w fun e w' => RetG (stepG o x y line) w e w' := by
  have Hr := Lib.hid (stepG_else' (x := x) (y := y) (line := line) h0 h1 h2 h3)
  have g0 : (o == 0) = false := by simp [h0]
  have g1 : (o == 1) = false := by simp [h1]
  have g2 : (o == 2) = false := by simp [h2]
  have g3 : (o == 3) = false := by simp [h3]
  have g4 : (o != 3) = true := by simp [h3]
  have hb0 : ∀ o1 o2 o3 o4 o5 : Obj, Below w.heap.size w (((((w.alloc o1).alloc o2).alloc o3).alloc o4).alloc o5) := fun o1 o2 o3 o4 o5 =>
    (((((Below.refl w.heap.size w).alloc (Nat.le_refl _) o1).alloc (by simp) o2).alloc (by simp; omega) o3).alloc (by simp; omega) o4).alloc (by simp; omega) o5
  have HB0 := Lib.hid hb0
  have HT := Lib.hid (fun W A c hc => specCircuitValid_any 8 A 0 c 0 [] W Reads.none_ (Nat.zero_le _) rfl hc (by omega))
  have e8 : circB 8 [] = true := by rfl
  rw [e8] at HT
  have HB := Lib.hid (fun o2 o3 o4 o5 => ((((Blk.new w 35 #[.int .i64 o, .int .i64 x, .int .i64 y]).alloc o2).alloc o3).alloc o4).alloc o5)
  clear h0 h1 h2 h3 hb0 e8
  obtain ⟨p, ep⟩ : ∃ p, p = (x == y) := ⟨_, rfl⟩
  have ep' : (x == y) = p := ep.symm
  clear ep
  go_enter Try.func16, Try.ntmps16
  go_wp2_with fail
  refine (HT.out _ _ _ (Nat.le_refl _)).mono ?_
  rintro e w4 ⟨rfl, hb4⟩
  have hB4 := (HB.out _ _ _ _).next hb4
  have hb3 := bnext (HB0.out _ _ _ _ _) hb4 (Nat.le_refl _)
  have q0 : w4.cell? ⟨w.heap.size, 0, none⟩ = some (.int .i64 o) := hB4.cell 0
  have q1 : w4.cell? ⟨w.heap.size, 1, none⟩ = some (.int .i64 x) := hB4.cell 1
  have q2 : w4.cell? ⟨w.heap.size, 2, none⟩ = some (.int .i64 y) := hB4.cell 2
  clear hb4 hB4
  cases p
  all_goals
    go_wp2_with fail
    go_ret
    first | exact retG_nil Hr.out hb3 rfl | exact retG_nil Hr.out (hb3.alloc hb3.size _) rfl
theorem specStepGates_any (o x y line : Int) (w : World) :
    Calls Try.prog 16 #[.agg #[.int .i64 o, .int .i64 x, .int .i64 y], .int .i64 line] w fun e w' => RetG (stepG o x y line) w e w' := by
  by_cases h0 : o = 0
  · subst h0; exact specStep_0 x y line w
  · by_cases h1 : o = 1
    · subst h1; exact specStep_1 x y line w
    · by_cases h2 : o = 2
      · subst h2; exact specStep_2 x y line w
      · by_cases h3 : o = 3
        · subst h3; exact specStep_3 x y line w
        · exact specStep_else o x y line w h0 h1 h2 h3
end Go.Proofs.Ytpahhgehamgkaaa
