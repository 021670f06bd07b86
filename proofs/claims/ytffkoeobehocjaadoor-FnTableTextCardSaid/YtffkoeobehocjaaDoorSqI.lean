/- strings.SplitSeq at a blank: the words are handed out one by one. -/
import Derived.RangeFuncNested
import Derived.RangeFuncBox
import Derived.RangeFuncBound
import Derived.RangeFuncCalls
import Derived.RangeFuncLeaves
import Derived.Shelf.Abstract
import Derived.Shelf.RegionOpen
import Derived.OwnWalkIn
import Derived.TacticsInMore
import Derived.LoopNIn
import Derived.LoopIn
import Derived.Maps.AppendAt
import Derived.Lib.IndexLaws
import Derived.Test.YtffkoeobehocjaaDoorTdP
namespace Go.Proofs.YtffkoeobehocjaaDoor
open Go.RowKit
set_option linter.unusedVariables false
set_option linter.unusedSimpArgs false

/-! A range over a function that keeps a state of its own in a cell: what such a function owes, and the law for its caller. -/
/-- what a round keeps: all below block D, and the three boxes from s on -/
def KpC (D s : Nat) (A B : World) : Prop := Below D A B ∧ ∀ q, s ≤ q → q < s + 3 → B.heap[q]? = A.heap[q]?
theorem KpC.trans {D s : Nat} {A B C : World} (h : KpC D s A B) (k : KpC D s B C) : KpC D s A C := ⟨h.1.trans k.1, fun q h1 h2 => (k.2 q h1 h2).trans (h.2 q h1 h2)⟩
/-- the words ws are handed out one by one; the cell at s is the function's own -/
def Hands (P : Program) (gf : Nat) (lb : Array Value) (n s D : Nat) (ws : List (List UInt8)) (w : World) : Prop :=
  ∀ (l : Nat) (J Jx : Nat → World → Prop) (W : World), Below w.heap.size w W → (∀ k A v, J k A → J k (A.setCell ⟨s, 0, none⟩ v)) →
    (∀ (k : Nat) (x : List UInt8) (W1 : World), k < ws.length → x = ws.getD k [] → J k W1 → YieldAt Fence.wide (n - 1) P l #[.string ⟨x.toArray⟩] W1 fun e W' =>
      (e = .returned (.bool true) ∧ J (k + 1) W' ∧ KpC D s W1 W') ∨ (e = .returned (.bool false) ∧ Jx k W')) →
    J 0 W → CallsIn Fence.wide n P gf (#[.func (.yield l) #[] #[]] ++ lb) W fun e W' => (∃ v, e = .returned v) ∧ (J ws.length W' ∨ ∃ k, k < ws.length ∧ Jx k W')
/-- how the body is left: it goes on, or it returns -/
def leftBy (D s : Nat) (I Ix : World → Prop) (W : World) : Exit → Act → World → Prop
  | .normal, _, W' => KeepsOthers W W' ∧ KpC D s W W' ∧ I W'
  | .ret, _, W' => KeepsOthers W W' ∧ Ix W'
  | .exit _, _, _ => False
  | .goto _, _, _ => False
  | .panic _, _, _ => False
  | .outgrown, _, _ => False
theorem kpC_put {D s : Nat} {W : World} {l : Nat} {o o' : Obj} (hD : D ≤ l) (hs : s + 3 ≤ l) (h : W.heap[l]? = some o) : KpC D s W (W.putObj l o') :=
  ⟨(Below.refl D W).grown (grownBy_putObj' W l o') (by have := (Array.getElem?_eq_some_iff.1 h).1; omega) (fun k e => by cases e; omega), fun q h1 h2 => World.putObj_heap_other (by omega)⟩

theorem wpIn_hands {P : Program} {n : Nat} {g : Operand} {ps : Array Tmp} {assign body : Code} {Q : Exit → Act → World → Prop} {a : Act} {w : World} (h1 : 1 ≤ n) {gf : Nat} {lb : Array Value}
    (hg : a.eval g = .func (.func gf) #[] lb) (eg : ∀ args w, (callFunc gf args).run P w = .ok (.enter gf args) w) {s D : Nat} {ws : List (List UInt8)} (hseq : Hands P gf lb (n - 1) s D ws w) (hps : ps.size = 1) (hs : s + 3 ≤ w.heap.size) (hD : D ≤ w.heap.size)
    (I Ix : Nat → World → Prop) (hIa : ∀ k W o, I k W → I k (W.alloc o)) (hIc : ∀ k W v, I k W → I k (W.setCell ⟨s, 0, none⟩ v))
    (hIp : ∀ k W l o o', w.heap.size ≤ l → W.heap[l]? = some o → o.isCells = false → I k W → I k (W.putObj l o')) (hXp : ∀ k W l o o', w.heap.size ≤ l → W.heap[l]? = some o → o.isCells = false → Ix k W → Ix k (W.putObj l o'))
    (h0 : I 0 w) (a₁ : List UInt8 → Act)
    (hassign : ∀ (l : Nat) (x : List UInt8) (W : World) (K : Act → World → Prop), K (a₁ x) W →
      assign.wpIn (Fence.wide.inRound l) (n - 1 - 1) P (Exit.then K (fun _ _ _ => False)) { tmps := (ps.zip #[.string ⟨x.toArray⟩]).foldl (fun t (p, v) => t.setIfInBounds p v) a.tmps, defers := [] } W)
    (hbody : ∀ (l k : Nat) (x : List UInt8) (W : World), k < ws.length → x = ws.getD k [] → I k W → body.wpIn (Fence.wide.inRound l) (n - 1 - 1) P (leftBy D s (I (k + 1)) (Ix k) W) (a₁ x) W)
    (hdone : ∀ (M : Nat) (W : World), w.heap.size ≤ M → I ws.length W → W.heap[M]? = some (.deferred (some [])) → Q .normal { a with defers := { target := .collected M, args := #[] } :: a.defers } W)
    (hstop : ∀ (M k : Nat) (W : World), w.heap.size ≤ M → k < ws.length → Ix k W → W.heap[M]? = some (.deferred (some [])) → Code.ret.wpIn Fence.wide n P Q { a with defers := { target := .collected M, args := #[] } :: a.defers } W) :
    (Code.rangeFunc g ps assign body).wpIn Fence.wide n P Q a w := by
  refine wpIn_rangeFunc fun fn hfn => ?_
  obtain ⟨M, eM⟩ : ∃ M, M = w.heap.size := ⟨_, rfl⟩
  obtain ⟨R, eR⟩ : ∃ R : LoopState → Option Code → Loop, R = fun st pe => { state := st, pending := pe, fn := fn, tmps := a.tmps, params := ps, assign := assign, body := body, defers := w.heap.size } := ⟨_, rfl⟩
  have pR : ∀ st pe, (R st pe).params.size = 1 := fun st pe => by rw [eR]; exact hps
  have rdy : (R .ready none).state = .ready := by rw [eR]
  have bsy : ∀ st pe, { R st pe with state := LoopState.busy } = R .busy pe := fun st pe => by rw [eR]
  have fin : ∀ st pe st' pe', { R st pe with state := st', pending := pe' } = R st' pe' := fun st pe st' pe' => by rw [eR]
  have nb : ∀ st pe, (R st pe).state = st ∧ (R st pe).pending = pe := fun st pe => by rw [eR]; exact ⟨rfl, rfl⟩
  obtain ⟨W1, eW⟩ : ∃ W1, W1 = (w.alloc (.deferred (some []))).alloc (.loop (R .ready none)) := ⟨_, rfl⟩
  have hl1 : W1.heap[M + 1]? = some (.loop (R .ready none)) := by
    have := World.alloc_heap_new (w.alloc (.deferred (some []))) (.loop (R .ready none))
    rw [World.size_alloc] at this
    rw [eW, eM]
    exact this
  have hm1 : W1.heap[M]? = some (.deferred (some [])) := by
    rw [eW, eM]
    exact (Below.heap_alloc _ _ _ (by simp)).trans (World.alloc_heap_new w _)
  have hb1 : Below w.heap.size w W1 := by
    rw [eW]
    exact ((Below.refl _ w).alloc (Nat.le_refl _) _).alloc (by simp) _
  have hi1 : I 0 W1 := by rw [eW]; exact hIa _ _ _ (hIa _ _ _ h0)
  have keepC : ∀ (A : World) (v : Value) (q : Nat) (o : Obj), M ≤ q → A.heap[q]? = some o → (A.setCell ⟨s, 0, none⟩ v).heap[q]? = some o := fun A v q o hq ho => (Below.heap_setCell A _ _ _ (by simp; omega)).trans ho
  refine ⟨M + 1, [{ target := .collected M, args := #[] }], W1, { target := .fn (.func gf) lb, args := #[.func (.yield (M + 1)) #[] #[]] }, W1, gf, #[.func (.yield (M + 1)) #[] #[]] ++ lb, W1, ?_, ?_, ?_, ?_, fun _ => h1, ?_⟩
  · rw [eW, eM, eR]
    exact run_enterLoop_outer _ _ _ _ _
  · simp only [resolve, hg]
    simp [go_sem]
  · intro f' _
    trivial
  · simp [invoke, go_sem, eg]
  refine (hseq (M + 1) (fun k W => I k W ∧ W.heap[M + 1]? = some (.loop (R .ready none)) ∧ W.heap[M]? = some (.deferred (some [])))
    (fun k W => Ix k W ∧ W.heap[M + 1]? = some (.loop (R .done (some .ret))) ∧ W.heap[M]? = some (.deferred (some []))) W1 hb1
    (fun k A v hh => ⟨hIc _ _ _ hh.1, keepC _ _ _ _ (by omega) hh.2.1, keepC _ _ _ _ (by omega) hh.2.2⟩) ?_ ⟨hi1, hl1, hm1⟩).mono ?_
  · rintro k x W hk hx ⟨hi, hl, hm⟩
    have hlt : M + 1 < W.heap.size := (Array.getElem?_eq_some_iff.1 hl).1
    have hy := run_yield (P := P) (args := #[.string ⟨x.toArray⟩]) hl (by rw [pR]; rfl)
    have efn : (R .ready none).fn = fn ∧ (R .ready none).params = ps ∧ (R .ready none).tmps = a.tmps ∧ (R .ready none).assign = assign ∧ (R .ready none).body = body := by rw [eR]; exact ⟨rfl, rfl, rfl, rfl, rfl⟩
    obtain ⟨f1, f2, f3, f4, f5⟩ := efn
    rw [f1, f2, f3, f4, f5] at hy
    refine ⟨fn, _, assign, body, hy, roundIn_of_wpIn hfn (hassign _ x W _ ⟨_, run_beginRound hl rdy, ?_⟩)⟩
    rw [bsy]
    have hl2 : (W.putObj (M + 1) (.loop (R .busy none))).heap[M + 1]? = some (.loop (R .busy none)) := World.putObj_heap_same hlt
    have hm2 : (W.putObj (M + 1) (.loop (R .busy none))).heap[M]? = some (.deferred (some [])) := (World.putObj_heap_other (by omega)).trans hm
    have hk2 : KpC D s W (W.putObj (M + 1) (.loop (R .busy none))) := kpC_put (by omega) (by omega) hl
    refine wpIn_mono (hbody _ k x _ hk hx (hIp _ _ _ _ _ (by omega) hl rfl hi)) ?_
    rintro e a3 W3 hp
    cases e with
    | normal =>
      obtain ⟨ho, hk3, hi3⟩ := hp
      have hl3 := ho.same _ _ hl2 rfl
      have hm3 := ho.same _ _ hm2 rfl
      have hE := run_endRound (P := P) none hl3
      rw [fin] at hE
      exact ⟨_, _, hE, .inl ⟨rfl, ⟨hIp _ _ _ _ _ (by omega) hl3 rfl hi3, World.putObj_heap_same (Array.getElem?_eq_some_iff.1 hl3).1, (World.putObj_heap_other (by omega)).trans hm3⟩, (hk2.trans hk3).trans (kpC_put (by omega) (by omega) hl3)⟩⟩
    | ret =>
      obtain ⟨ho, hi3⟩ := hp
      have hl3 := ho.same _ _ hl2 rfl
      have hm3 := ho.same _ _ hm2 rfl
      have hE := run_endRound (P := P) (some .ret) hl3
      rw [fin] at hE
      exact ⟨_, _, hE, .inr ⟨rfl, hXp _ _ _ _ _ (by omega) hl3 rfl hi3, World.putObj_heap_same (Array.getElem?_eq_some_iff.1 hl3).1, (World.putObj_heap_other (by omega)).trans hm3⟩⟩
    | exit id => exact hp.elim
    | goto t => exact hp.elim
    | panic ch => exact hp.elim
    | outgrown => exact hp.elim
  · rintro e W2 ⟨⟨v, rfl⟩, (⟨hi, hl, hm⟩ | ⟨k, hk, hi, hl, hm⟩)⟩
    · have hE := run_endLoop (P := P) hl (by rw [(nb _ _).1]; simp)
      rw [(nb _ _).2] at hE
      exact ⟨none, _, hE, hdone M _ (by omega) (hIp _ _ _ _ _ (by omega) hl rfl hi) ((World.putObj_heap_other (by omega)).trans hm)⟩
    · have hE := run_endLoop (P := P) hl (by rw [(nb _ _).1]; simp)
      rw [(nb _ _).2] at hE
      exact ⟨some .ret, _, hE, hstop M k _ (by omega) hk (hXp _ _ _ _ _ (by omega) hl rfl hi) ((World.putObj_heap_other (by omega)).trans hm)⟩

open Go.Shelf

attribute [local go_sem] Oper.semAt_some

theorem spl_none {l : List UInt8} (h : Lib.indexByte l 32 = -1) : splF l = [l] := by
  refine splF_word l fun b hb e => ?_
  obtain ⟨k, hk, rfl⟩ := List.getElem_of_mem hb
  refine Lib.indexByte_none h k ?_
  rw [List.getElem?_eq_getElem hk, show l[k] = 32 from UInt8.toNat_inj.1 e]
theorem spl_some {l : List UInt8} {o : Nat} (h : Lib.indexByte l 32 = (o : Int)) : splF l = l.take o :: splF (l.drop (o + 1)) ∧ o < l.length := by
  obtain ⟨h1, h2⟩ := Lib.indexByte_some h
  have ho : o < l.length := (List.getElem?_eq_some_iff.1 h1).1
  refine ⟨?_, ho⟩
  have e : l = l.take o ++ 32 :: l.drop (o + 1) := by
    have h3 : l[o] = 32 := by rw [List.getElem?_eq_getElem ho] at h1; exact Option.some.inj h1
    conv => lhs; rw [← List.take_append_drop o l, List.drop_eq_getElem_cons ho, h3]
  conv => lhs; rw [e]
  refine splF_word_blank _ (fun b hb e2 => ?_) _
  obtain ⟨k, hk, rfl⟩ := List.getElem_of_mem hb
  have hk2 : k < o := by rw [List.length_take] at hk; omega
  refine h2 k hk2 ?_
  rw [List.getElem_take] at e2
  rw [List.getElem?_eq_getElem (by omega), UInt8.toNat_inj.1 (e2.trans (show (32 : Nat) = (32 : UInt8).toNat from rfl))]
/-- the length of the text in a cell -/
def lenAt (s : Nat) (w : World) : Nat := match w.cell? ⟨s, 0, none⟩ with | some (.string b) => b.size | _ => 0
theorem lenAt_box {s : Nat} {w : World} {t : TypeId} {b : ByteArray} (h : Boxed w s t (.string b)) : lenAt s w = b.size := by
  unfold lenAt
  rw [h.cell]
theorem box_kp {D s q : Nat} {A B : World} {t : TypeId} {v : Value} (h : Boxed A q t v) (k : KpC D s A B) (h1 : s ≤ q) (h2 : q < s + 3) : Boxed B q t v := (k.2 q h1 h2).trans h
theorem drop_word {ws : List (List UInt8)} {k : Nat} {x : List UInt8} {r : List (List UInt8)} (h : x :: r = ws.drop k) : k < ws.length ∧ x = ws.getD k [] ∧ r = ws.drop (k + 1) := by
  have hk : k < ws.length := by
    refine Nat.lt_of_not_le fun hc => ?_
    rw [List.drop_eq_nil_of_le hc] at h
    cases h
  rw [List.drop_eq_getElem_cons hk] at h
  injection h with h1 h2
  exact ⟨hk, by rw [h1, List.getD_eq_getElem?_getD, List.getElem?_eq_getElem hk]; rfl, h2⟩

set_option maxRecDepth 100000 in
set_option maxHeartbeats 4000000 in
theorem splitSeq1_hands (l : List UInt8) (hl : l.length ≤ 2000000) (n s D : Nat) (hD : D ≤ s) (w : World) (hs : s + 3 ≤ w.heap.size) (b0 : Boxed w s 9 (.string ⟨l.toArray⟩)) (b1 : Boxed w (s + 1) 9 (.string ⟨#[32]⟩)) (b2 : Boxed w (s + 2) 3 (.int .i64 0)) :
    Hands Tryd.prog 83 #[.pointer (some ⟨s + 1, 0, none⟩), .pointer (some ⟨s, 0, none⟩), .pointer (some ⟨s + 2, 0, none⟩)] n s D (cutL l) w := by
  intro y J Jx W hW hJc hY hJ0
  have B0 : Boxed W s 9 (.string ⟨l.toArray⟩) := (hW.block s (by omega)).trans b0
  have B1 : Boxed W (s + 1) 9 (.string ⟨#[32]⟩) := (hW.block (s + 1) (by omega)).trans b1
  have B2 : Boxed W (s + 2) 3 (.int .i64 0) := (hW.block (s + 2) (by omega)).trans b2
  have hws := cutL_spl l
  obtain ⟨ws, ew⟩ : ∃ ws, ws = cutL l := ⟨_, rfl⟩
  rw [← ew] at hY hws ⊢
  have HWS := Lib.hid hws
  have HY := Lib.hid hY
  have HJc := Lib.hid hJc
  clear ew b0 b1 b2 hY hJc hws hW
  have c1 := B1.cell
  refine callsIn_of_wp Tryd.func83 rfl trivial ?_ rfl
  simp only [Tryd.ntmps83, List.size_toArray, List.length_cons, List.length_nil, Nat.reduceAdd, Nat.reduceSub, Array.replicate_succ, Array.replicate_zero, List.push_toArray, List.append_toArray, List.nil_append, List.cons_append]
  gi_wp2
  gi_loopw [7, 8] (fun i f wr => ∃ (k : Nat) (r : List UInt8), splF r = ws.drop k ∧ r.length ≤ 2000000 ∧ J k wr ∧ Boxed wr s 9 (.string ⟨r.toArray⟩) ∧ Boxed wr (s + 1) 9 (.string ⟨#[32]⟩) ∧ Boxed wr (s + 2) 3 (.int .i64 0))
    (fun _ _ wr => lenAt s wr)
  case atStart => exact ⟨0, l, by rw [HWS.out]; rfl, hl, hJ0, B0, B1, B2⟩
  case round =>
    obtain ⟨k, r, hr, hrl, hJ, hb0, hb1, hb2⟩ := hrel
    clear B0 B1 B2 c1 hJ0
    have c0 := hb0.cell
    have c1 := hb1.cell
    have c2 := hb2.cell
    have f0 := hb0.frozen
    have HL := Lib.hid (lenAt_box hb0)
    obtain ⟨rs, ers⟩ : ∃ rs : ByteArray, rs = ⟨r.toArray⟩ := ⟨_, rfl⟩
    have hsz : rs.size = r.length := by rw [ers]; simp [ByteArray.size]
    have IX := Lib.hid ((callsIn_wide (n := n - 1)).2 (Tryd.strings_Index_one rs 32 wr))
    have hdt : rs.data.toList = r := by rw [ers]
    rw [hdt] at IX
    have hge := Lib.indexByte_ge r 32
    by_cases hm : Lib.indexByte r 32 = -1
    · rw [hm] at IX
      have hsp := spl_none hm
      rw [hr] at hsp
      obtain ⟨hk, hx, hrest⟩ := drop_word hsp.symm
      obtain ⟨fn, tmps, assign, body, hy, hR⟩ := HY.out k r wr hk hx hJ
      have hlast : k + 1 = ws.length := by
        have := congrArg List.length hrest
        simp at this
        omega
      rw [← ers] at hy c0
      have f82 : Fence.wide.fn 82 := trivial
      have fdp : Fence.wide.depth = none := rfl
      clear hx hrest hsp hr hm hge hb0 hb1 hb2 ers hdt
      gi_wp2_with (gi_at_call 82; refine IX.out.mono ?_; rintro e w' ⟨rfl, rfl⟩)
      refine hR.mono ?_
      rintro e W3 (⟨rfl, hJ3, hk3⟩ | ⟨rfl, hJx3⟩)
      · gi_wp2
        go_end0
        rw [hlast] at hJ3
        exact ⟨⟨_, rfl⟩, .inl hJ3⟩
      · gi_wp2
        go_end0
        exact ⟨⟨_, rfl⟩, .inr ⟨k, hk, hJx3⟩⟩
    · obtain ⟨o, ho⟩ : ∃ o : Nat, Lib.indexByte r 32 = (o : Int) := ⟨(Lib.indexByte r 32).toNat, by omega⟩
      rw [ho] at IX
      obtain ⟨hsp, hol⟩ := spl_some ho
      rw [hr] at hsp
      obtain ⟨hk, hx, hrest⟩ := drop_word hsp.symm
      obtain ⟨fn, tmps, assign, body, hy, hR⟩ := HY.out k (r.take o) wr hk hx hJ
      have e1 : rs.extract 0 o = ⟨(r.take o).toArray⟩ := by rw [ers]; exact (ByteArray.extract_mk r 0 o).trans (by simp)
      have e2 : rs.extract (o + 1) r.length = ⟨(r.drop (o + 1)).toArray⟩ := by rw [ers]; exact (ByteArray.extract_mk r (o + 1) r.length).trans (by rw [List.take_of_length_le (by simp)])
      have hdl : (r.drop (o + 1)).length < r.length := by rw [List.length_drop]; omega
      obtain ⟨x, ex⟩ : ∃ x, x = r.take o := ⟨_, rfl⟩
      obtain ⟨z, ez⟩ : ∃ z, z = r.drop (o + 1) := ⟨_, rfl⟩
      rw [← ex] at hy e1
      rw [← ez] at e2 hrest hdl
      rw [← ers] at c0
      have ERS := Lib.hid ers
      have f82 : Fence.wide.fn 82 := trivial
      have fdp : Fence.wide.depth = none := rfl
      have HRest := Lib.hid hrest
      have k0 : IntKind.i64.wrap ((o : Int) + 0) = (o : Int) := by rw [Int.add_zero]; exact IntWalk.i64_in _ (by omega)
      have k1 : IntKind.i64.wrap ((o : Int) + 1) = (o : Int) + 1 := IntWalk.i64_in _ (by omega)
      have g1 : (o : Int) ≤ (rs.size : Int) := by omega
      have g2 : (o : Int) + 1 ≤ (rs.size : Int) := by omega
      have g3 : ((o : Int) + 1).toNat = o + 1 := by omega
      have g4 : o ≤ rs.size := by omega
      have g5 : o + 1 ≤ rs.size := by omega
      clear hx hrest hsp hr hm hge ho ex ez ers hdt
      gi_wp2_with (gi_at_call 82; refine IX.out.mono ?_; rintro e w' ⟨rfl, rfl⟩)
      refine hR.mono ?_
      rintro e W3 (⟨rfl, hJ3, hk3⟩ | ⟨rfl, hJx3⟩)
      · have hb03 := box_kp hb0 hk3 (by omega) (by omega)
        have hb13 := box_kp hb1 hk3 (by omega) (by omega)
        have hb23 := box_kp hb2 hk3 (by omega) (by omega)
        rw [← ERS.out] at hb03
        have d0 := hb03.cell
        have d1 := hb13.cell
        have d2 := hb23.cell
        have h0 := hb03.frozen
        gi_wp2
        go_roundw
        case rel => exact ⟨k + 1, z, HRest.out, by omega, HJc.out _ _ _ hJ3, hb03.set _, hb13.other (by omega) _, hb23.other (by omega) _⟩
        case measure => rw [HL.out, lenAt_box (hb03.set (.string ⟨z.toArray⟩))]; simp [ByteArray.size]; omega
      · gi_wp2
        refine bodyPost_ret (results_none rfl _ _ _) rfl ?_
        exact ⟨⟨_, rfl⟩, .inr ⟨k, hk, hJx3⟩⟩
end Go.Proofs.YtffkoeobehocjaaDoor
