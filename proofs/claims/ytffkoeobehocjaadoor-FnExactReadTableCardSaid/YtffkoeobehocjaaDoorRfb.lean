/- A range over a function that keeps a state of its own in a cell (as strings.SplitSeq does): what such a function owes, and the law for its caller. -/
import Derived.RangeFuncNested
import Derived.RangeFuncBox
import Derived.RangeFuncBound
import Derived.RangeFuncCalls
import Derived.RangeFuncLeaves
import Derived.Test.YtffkoeobehocjaaDoorTdP
namespace Go.Proofs.YtffkoeobehocjaaDoor
open Go.RowKit
set_option linter.unusedVariables false

/-- what a round keeps: all below block D, and the three boxes from s on -/
def KpC (D s : Nat) (A B : World) : Prop := Below D A B ∧ ∀ q, s ≤ q → q < s + 3 → B.heap[q]? = A.heap[q]?
theorem KpC.trans {D s : Nat} {A B C : World} (h : KpC D s A B) (k : KpC D s B C) : KpC D s A C := ⟨h.1.trans k.1, fun q h1 h2 => (k.2 q h1 h2).trans (h.2 q h1 h2)⟩
/-- the words ws are handed out one by one; the cell at s is the function's own -/
def Hands (P : Program) (gf : Nat) (lb : Array Value) (n s D : Nat) (ws : List (List UInt8)) (w : World) : Prop :=
  ∀ (l : Nat) (J Jx : Nat → World → Prop) (W : World), Below w.heap.size w W → (∀ k A v, J k A → J k (A.setCell ⟨s, 0, none⟩ v)) →
    (∀ (k : Nat) (x : List UInt8) (W1 : World), k < ws.length → x = ws.getD k [] → J k W1 → YieldAt Fence.wide (n - 1) P l #[.string ⟨x.toArray⟩] W1 fun e W' =>
      (e = .returned (.bool true) ∧ J (k + 1) W' ∧ KpC D s W1 W') ∨ (e = .returned (.bool false) ∧ Jx k W')) →
    J 0 W → CallsIn Fence.wide n P gf (#[.func (.yield l) #[] #[]] ++ lb) W fun e W' => (∃ v, e = .returned v) ∧ (J ws.length W' ∨ ∃ k, k < ws.length ∧ Jx k W')
/-- how the body is left: it goes on, or it returns -/
def leftBy (D s : Nat) (I Ix : World → Prop) (W : World) : Exit → Act → World → Prop
  | .normal, _, W' => KeepsOthers W W' ∧ KpC D s W W' ∧ I W'
  | .ret, _, W' => KeepsOthers W W' ∧ Ix W'
  | .exit _, _, _ => False
  | .goto _, _, _ => False
  | .panic _, _, _ => False
  | .outgrown, _, _ => False
theorem kpC_put {D s : Nat} {W : World} {l : Nat} {o o' : Obj} (hD : D ≤ l) (hs : s + 3 ≤ l) (h : W.heap[l]? = some o) : KpC D s W (W.putObj l o') :=
  ⟨(Below.refl D W).grown (grownBy_putObj' W l o') (by have := (Array.getElem?_eq_some_iff.1 h).1; omega) (fun k e => by cases e; omega), fun q h1 h2 => World.putObj_heap_other (by omega)⟩

theorem wpIn_hands {P : Program} {n : Nat} {g : Operand} {ps : Array Tmp} {assign body : Code} {Q : Exit → Act → World → Prop} {a : Act} {w : World} (h1 : 1 ≤ n) {gf : Nat} {lb : Array Value}
    (hg : a.eval g = .func (.func gf) #[] lb) (eg : ∀ args w, (callFunc gf args).run P w = .ok (.enter gf args) w) {s D : Nat} {ws : List (List UInt8)} (hseq : Hands P gf lb (n - 1) s D ws w) (hps : ps.size = 1) (hs : s + 3 ≤ w.heap.size) (hD : D ≤ w.heap.size)
    (I Ix : Nat → World → Prop) (hIa : ∀ k W o, I k W → I k (W.alloc o)) (hIc : ∀ k W v, I k W → I k (W.setCell ⟨s, 0, none⟩ v))
    (hIp : ∀ k W l o o', w.heap.size ≤ l → W.heap[l]? = some o → o.isCells = false → I k W → I k (W.putObj l o')) (hXp : ∀ k W l o o', w.heap.size ≤ l → W.heap[l]? = some o → o.isCells = false → Ix k W → Ix k (W.putObj l o'))
    (h0 : I 0 w) (a₁ : List UInt8 → Act)
    (hassign : ∀ (l : Nat) (x : List UInt8) (W : World) (K : Act → World → Prop), K (a₁ x) W →
      assign.wpIn (Fence.wide.inRound l) (n - 1 - 1) P (Exit.then K (fun _ _ _ => False)) { tmps := (ps.zip #[.string ⟨x.toArray⟩]).foldl (fun t (p, v) => t.setIfInBounds p v) a.tmps, defers := [] } W)
    (hbody : ∀ (l k : Nat) (x : List UInt8) (W : World), k < ws.length → x = ws.getD k [] → I k W → body.wpIn (Fence.wide.inRound l) (n - 1 - 1) P (leftBy D s (I (k + 1)) (Ix k) W) (a₁ x) W)
    (hdone : ∀ (M : Nat) (W : World), w.heap.size ≤ M → I ws.length W → W.heap[M]? = some (.deferred (some [])) → Q .normal { a with defers := { target := .collected M, args := #[] } :: a.defers } W)
    (hstop : ∀ (M k : Nat) (W : World), w.heap.size ≤ M → k < ws.length → Ix k W → W.heap[M]? = some (.deferred (some [])) → Code.ret.wpIn Fence.wide n P Q { a with defers := { target := .collected M, args := #[] } :: a.defers } W) :
    (Code.rangeFunc g ps assign body).wpIn Fence.wide n P Q a w := by
  refine wpIn_rangeFunc fun fn hfn => ?_
  obtain ⟨M, eM⟩ : ∃ M, M = w.heap.size := ⟨_, rfl⟩
  obtain ⟨R, eR⟩ : ∃ R : LoopState → Option Code → Loop, R = fun st pe => { state := st, pending := pe, fn := fn, tmps := a.tmps, params := ps, assign := assign, body := body, defers := w.heap.size } := ⟨_, rfl⟩
  have pR : ∀ st pe, (R st pe).params.size = 1 := fun st pe => by rw [eR]; exact hps
  have rdy : (R .ready none).state = .ready := by rw [eR]
  have bsy : ∀ st pe, { R st pe with state := LoopState.busy } = R .busy pe := fun st pe => by rw [eR]
  have fin : ∀ st pe st' pe', { R st pe with state := st', pending := pe' } = R st' pe' := fun st pe st' pe' => by rw [eR]
  have nb : ∀ st pe, (R st pe).state = st ∧ (R st pe).pending = pe := fun st pe => by rw [eR]; exact ⟨rfl, rfl⟩
  obtain ⟨W1, eW⟩ : ∃ W1, W1 = (w.alloc (.deferred (some []))).alloc (.loop (R .ready none)) := ⟨_, rfl⟩
  have hl1 : W1.heap[M + 1]? = some (.loop (R .ready none)) := by
    have := World.alloc_heap_new (w.alloc (.deferred (some []))) (.loop (R .ready none))
    rw [World.size_alloc] at this
    rw [eW, eM]
    exact this
  have hm1 : W1.heap[M]? = some (.deferred (some [])) := by
    rw [eW, eM]
    exact (Below.heap_alloc _ _ _ (by simp)).trans (World.alloc_heap_new w _)
  have hb1 : Below w.heap.size w W1 := by
    rw [eW]
    exact ((Below.refl _ w).alloc (Nat.le_refl _) _).alloc (by simp) _
  have hi1 : I 0 W1 := by rw [eW]; exact hIa _ _ _ (hIa _ _ _ h0)
  have keepC : ∀ (A : World) (v : Value) (q : Nat) (o : Obj), M ≤ q → A.heap[q]? = some o → (A.setCell ⟨s, 0, none⟩ v).heap[q]? = some o := fun A v q o hq ho => (Below.heap_setCell A _ _ _ (by simp; omega)).trans ho
  refine ⟨M + 1, [{ target := .collected M, args := #[] }], W1, { target := .fn (.func gf) lb, args := #[.func (.yield (M + 1)) #[] #[]] }, W1, gf, #[.func (.yield (M + 1)) #[] #[]] ++ lb, W1, ?_, ?_, ?_, ?_, fun _ => h1, ?_⟩
  · rw [eW, eM, eR]
    exact run_enterLoop_outer _ _ _ _ _
  · simp only [resolve, hg]
    simp [go_sem]
  · intro f' _
    trivial
  · simp [invoke, go_sem, eg]
  refine (hseq (M + 1) (fun k W => I k W ∧ W.heap[M + 1]? = some (.loop (R .ready none)) ∧ W.heap[M]? = some (.deferred (some [])))
    (fun k W => Ix k W ∧ W.heap[M + 1]? = some (.loop (R .done (some .ret))) ∧ W.heap[M]? = some (.deferred (some []))) W1 hb1
    (fun k A v hh => ⟨hIc _ _ _ hh.1, keepC _ _ _ _ (by omega) hh.2.1, keepC _ _ _ _ (by omega) hh.2.2⟩) ?_ ⟨hi1, hl1, hm1⟩).mono ?_
  · rintro k x W hk hx ⟨hi, hl, hm⟩
    have hlt : M + 1 < W.heap.size := (Array.getElem?_eq_some_iff.1 hl).1
    have hy := run_yield (P := P) (args := #[.string ⟨x.toArray⟩]) hl (by rw [pR]; rfl)
    have efn : (R .ready none).fn = fn ∧ (R .ready none).params = ps ∧ (R .ready none).tmps = a.tmps ∧ (R .ready none).assign = assign ∧ (R .ready none).body = body := by rw [eR]; exact ⟨rfl, rfl, rfl, rfl, rfl⟩
    obtain ⟨f1, f2, f3, f4, f5⟩ := efn
    rw [f1, f2, f3, f4, f5] at hy
    refine ⟨fn, _, assign, body, hy, roundIn_of_wpIn hfn (hassign _ x W _ ⟨_, run_beginRound hl rdy, ?_⟩)⟩
    rw [bsy]
    have hl2 : (W.putObj (M + 1) (.loop (R .busy none))).heap[M + 1]? = some (.loop (R .busy none)) := World.putObj_heap_same hlt
    have hm2 : (W.putObj (M + 1) (.loop (R .busy none))).heap[M]? = some (.deferred (some [])) := (World.putObj_heap_other (by omega)).trans hm
    have hk2 : KpC D s W (W.putObj (M + 1) (.loop (R .busy none))) := kpC_put (by omega) (by omega) hl
    refine wpIn_mono (hbody _ k x _ hk hx (hIp _ _ _ _ _ (by omega) hl rfl hi)) ?_
    rintro e a3 W3 hp
    cases e with
    | normal =>
      obtain ⟨ho, hk3, hi3⟩ := hp
      have hl3 := ho.same _ _ hl2 rfl
      have hm3 := ho.same _ _ hm2 rfl
      have hE := run_endRound (P := P) none hl3
      rw [fin] at hE
      exact ⟨_, _, hE, .inl ⟨rfl, ⟨hIp _ _ _ _ _ (by omega) hl3 rfl hi3, World.putObj_heap_same (Array.getElem?_eq_some_iff.1 hl3).1, (World.putObj_heap_other (by omega)).trans hm3⟩, (hk2.trans hk3).trans (kpC_put (by omega) (by omega) hl3)⟩⟩
    | ret =>
      obtain ⟨ho, hi3⟩ := hp
      have hl3 := ho.same _ _ hl2 rfl
      have hm3 := ho.same _ _ hm2 rfl
      have hE := run_endRound (P := P) (some .ret) hl3
      rw [fin] at hE
      exact ⟨_, _, hE, .inr ⟨rfl, hXp _ _ _ _ _ (by omega) hl3 rfl hi3, World.putObj_heap_same (Array.getElem?_eq_some_iff.1 hl3).1, (World.putObj_heap_other (by omega)).trans hm3⟩⟩
    | exit id => exact hp.elim
    | goto t => exact hp.elim
    | panic ch => exact hp.elim
    | outgrown => exact hp.elim
  · rintro e W2 ⟨⟨v, rfl⟩, (⟨hi, hl, hm⟩ | ⟨k, hk, hi, hl, hm⟩)⟩
    · have hE := run_endLoop (P := P) hl (by rw [(nb _ _).1]; simp)
      rw [(nb _ _).2] at hE
      exact ⟨none, _, hE, hdone M _ (by omega) (hIp _ _ _ _ _ (by omega) hl rfl hi) ((World.putObj_heap_other (by omega)).trans hm)⟩
    · have hE := run_endLoop (P := P) hl (by rw [(nb _ _).1]; simp)
      rw [(nb _ _).2] at hE
      exact ⟨some .ret, _, hE, hstop M k _ (by omega) hk (hXp _ _ _ _ _ (by omega) hl rfl hi) ((World.putObj_heap_other (by omega)).trans hm)⟩
end Go.Proofs.YtffkoeobehocjaaDoor
