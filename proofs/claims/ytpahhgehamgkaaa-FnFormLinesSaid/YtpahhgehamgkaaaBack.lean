/- Contracts of both CircuitBack, of impl.backwards and of the library's slices.Backward. -/
import Derived.RangeFuncNested
import Derived.RangeFuncBox
import Derived.RangeFuncBound
import Derived.RangeFuncCalls
import Derived.RangeFuncLeaves
import Derived.Shelf.Abstract
import Derived.Shelf.RegionOpen
import Derived.OwnWalkIn
import Derived.TacticsInMore
import Derived.LoopNIn
import Derived.LoopIn
import Derived.Maps.AppendAt
import Derived.Test.YtpahhgehamgkaaaCirc
namespace Go.Proofs.Ytpahhgehamgkaaa
open Go.RowKit Go.Shelf
set_option linter.unusedVariables false

attribute [local go_sem] Oper.semAt_some

/-- what the iterator hands out in round k: the index and the gate -/
def bkAt (gs : List Gt) (k : Nat) : Nat × Gt := (gs.length - 1 - k, gs.getD (gs.length - 1 - k) g0)
/-- what has come when k rounds are over -/
def bkTo (gs : List Gt) (k : Nat) : List (Nat × Gt) := (List.range k).map (bkAt gs)
theorem bkTo_succ (gs : List Gt) (k : Nat) : bkTo gs (k + 1) = bkTo gs k ++ [bkAt gs k] := by simp [bkTo, List.range_succ]
theorem bkTo_len (gs : List Gt) (k : Nat) : (bkTo gs k).length = k := by simp [bkTo]
theorem bkTo_all (gs : List Gt) : (bkTo gs gs.length).map Prod.snd = gs.reverse := by
  apply List.ext_getElem
  · simp [bkTo]
  · intro i h1 h2
    have h3 : i < gs.length := by simpa using h2
    have h4 : gs.length - 1 - i < gs.length := by omega
    simp [bkTo, bkAt, h4, List.getElem_reverse]

/-- the yield's two values -/
def encB (x : Nat × Gt) : Array Value := #[.int .i64 (x.1 : Int), x.2.val]

/-- what a round keeps: all below block n₀, and block s -/
def KpB (n₀ s : Nat) (A B : World) : Prop := Below n₀ A B ∧ B.heap[s]? = A.heap[s]?
theorem KpB.trans {n₀ s : Nat} {A B C : World} (h : KpB n₀ s A B) (k : KpB n₀ s B C) : KpB n₀ s A C := ⟨h.1.trans k.1, k.2.trans h.2⟩
theorem KpB.refl (n₀ s : Nat) (A : World) : KpB n₀ s A A := ⟨Below.refl _ _, rfl⟩
theorem KpB.box {n₀ s : Nat} {A B : World} (h : KpB n₀ s A B) : B.cell? ⟨s, 0, none⟩ = A.cell? ⟨s, 0, none⟩ := World.cell?_of_block (a := ⟨s, 0, none⟩) h.2

set_option maxRecDepth 100000 in
set_option maxHeartbeats 2000000 in
theorem backward1_in (F : Fence) (n : Nat) (hf : F.fn 70) (hro : F.round = none) (hn : 1 ≤ n) (l Bs n₀ b off len cap : Nat) (gs : List Gt) (hlen : len ≤ 1048576) (hb : b < n₀) (hgl : gs.length = len) (J Jx : List (Nat × Gt) → World → Prop)
    (hY : ∀ pre x W, J pre W → pre.length < len → YieldAt F (n - 1) Try.prog l (encB x) W fun e W' =>
      (e = .returned (.bool true) ∧ J (pre ++ [x]) W' ∧ KpB n₀ Bs W W') ∨ (e = .returned (.bool false) ∧ Jx (pre ++ [x]) W'))
    (W : World) (hBs : W.cell? ⟨Bs, 0, none⟩ = some (.slice (some ⟨b, off, none⟩) len cap)) (hc : ∀ j, j < len → GAt W b (off + j * 4) (gs.getD j g0)) (h0 : J [] W) :
    CallsIn F n Try.prog 70 #[.func (.yield l) #[] #[], .pointer (some ⟨Bs, 0, none⟩)] W fun e W' => (∃ v, e = .returned v) ∧
      ((∃ ys, ys = bkTo gs len ∧ J ys W') ∨ (∃ pre, (∃ k, k ≤ len ∧ pre = bkTo gs k) ∧ Jx pre W')) := by
  have HC := Lib.hid hc
  have HGL := Lib.hid hgl
  clear hc hgl
  refine callsIn_of_wp Try.func70 rfl hf ?_ hro
  simp only [Try.ntmps70, List.size_toArray, List.length_cons, List.length_nil, Nat.reduceAdd, Nat.reduceSub, Array.replicate_succ, Array.replicate_zero, List.push_toArray, List.append_toArray, List.nil_append, List.cons_append]
  gi_wp2
  gi_loopw [3] (fun i wr => ∃ k : Nat, k ≤ len ∧ i = .int .i64 ((len : Int) - 1 - k) ∧ J (bkTo gs k) wr ∧ KpB n₀ Bs W wr)
    (fun i _ => (intOf i + 1).toNat)
  case atStart => exact ⟨0, Nat.zero_le _, by simp, h0, KpB.refl _ _ _⟩
  case round =>
    obtain ⟨k, hk, rfl, hJs, hnx⟩ := hrel
    have hbs := hnx.box.trans hBs
    by_cases hlt : k < len
    · obtain ⟨q, hq⟩ : ∃ q : Nat, q + k + 1 = len := ⟨len - 1 - k, by omega⟩
      have e : (len : Int) - 1 - k = (q : Int) := by omega
      have e2 : (len : Int) - 1 - ((k + 1 : Nat) : Int) = (q : Int) - 1 := by omega
      have hat : bkAt gs k = (q, gs.getD q g0) := by
        have := HGL.out
        unfold bkAt
        rw [show gs.length - 1 - k = q by omega]
      have hgat := (HC.out q (by omega)).below hnx.1 hb
      rw [e]
      obtain ⟨g, eg⟩ : ∃ g, g = gs.getD q g0 := ⟨_, rfl⟩
      rw [← eg] at hgat hat
      have HAT := Lib.hid hat
      have E2 := Lib.hid e2
      clear eg e hat e2
      obtain ⟨fn, tmps, assign, body, hy, hR⟩ := hY _ (q, g) wr hJs (by rw [bkTo_len]; exact hlt)
      obtain ⟨x0, x1, x2, x3⟩ := g
      obtain ⟨q0, q1, q2, q3⟩ := hgat
      dsimp only [encB, Gt.val] at hy q0 q1 q2 q3
      have hql : (q : Int) < (len : Int) := by omega
      have hq0 : (0 : Int) ≤ (q : Int) := by omega
      gi_wp2
      refine hR.mono ?_
      rintro e W3 (⟨rfl, hJ3, hk3⟩ | ⟨rfl, hJx3⟩)
      · have hbs3 := hk3.box.trans hbs
        gi_wp2
        go_roundw
        case rel => exact ⟨k + 1, by omega, by rw [E2.out], by rw [bkTo_succ, HAT.out]; exact hJ3, hnx.trans hk3⟩
        case measure => first | (simp [intOf]; done) | (simp [intOf]; omega)
      · gi_wp2
        refine bodyPost_ret (results_none rfl _ _ _) rfl ?_
        exact ⟨⟨_, rfl⟩, .inr ⟨_, ⟨k + 1, by omega, by rw [bkTo_succ, HAT.out]⟩, hJx3⟩⟩
    · obtain rfl : k = len := by omega
      gi_wp2
      go_end0
      exact ⟨⟨_, rfl⟩, .inl ⟨_, rfl, hJs⟩⟩

set_option maxRecDepth 100000 in
set_option maxHeartbeats 1000000 in
theorem backward1_nil_in (F : Fence) (n : Nat) (hf : F.fn 70) (hro : F.round = none) (l Bs : Nat) (A : Option Addr) (cap : Nat) (J : List (Nat × Gt) → World → Prop) (W : World) (hBs : W.cell? ⟨Bs, 0, none⟩ = some (.slice A 0 cap)) (h0 : J [] W) :
    CallsIn F n Try.prog 70 #[.func (.yield l) #[] #[], .pointer (some ⟨Bs, 0, none⟩)] W fun e W' => (∃ v, e = .returned v) ∧ J [] W' := by
  refine callsIn_of_wp Try.func70 rfl hf ?_ hro
  simp only [Try.ntmps70, List.size_toArray, List.length_cons, List.length_nil, Nat.reduceAdd, Nat.reduceSub, Array.replicate_succ, Array.replicate_zero, List.push_toArray, List.append_toArray, List.nil_append, List.cons_append]
  gi_wp2
  gi_loopw [3] (fun i wr => i = .int .i64 (-1) ∧ J [] wr) (fun _ _ => 0)
  case atStart => exact ⟨rfl, h0⟩
  case round =>
    obtain ⟨rfl, hJs⟩ := hrel
    gi_wp2
    go_end0
    exact ⟨⟨_, rfl⟩, hJs⟩

set_option maxHeartbeats 1000000 in
theorem backward_in (F : Fence) (n : Nat) (hf : F.fn 65) (hro : F.round = none) (a : Option Addr) (len cap : Nat) (w : World) :
    CallsIn F n Try.prog 65 #[.slice a len cap] w fun e w' => e = .returned (.func (.func 70) #[] #[.pointer (some ⟨w.heap.size, 0, none⟩)]) ∧ w' = w.alloc (.cells #[.slice a len cap] 26) := by
  refine callsIn_of_wp Try.func65 rfl hf ?_ hro
  simp only [Try.ntmps65, List.size_toArray, List.length_cons, List.length_nil, Nat.reduceAdd, Nat.reduceSub, Array.replicate_succ, Array.replicate_zero, List.push_toArray, List.append_toArray, List.nil_append, List.cons_append]
  gi_wp2
  go_ret
  exact ⟨rfl, rfl⟩

theorem backward_stops (F : Fence) (n : Nat) (hf : F.fn 70) (hro : F.round = none) (hn : 1 ≤ n) (Bs n₀ : Nat) (A : Option Addr) (len cap B : Nat) (gs : List Gt) (hlen : len ≤ 1048576) (w : World) (hBs : Bs < w.heap.size) (hn₀ : n₀ ≤ w.heap.size)
    (hc : w.cell? ⟨Bs, 0, none⟩ = some (.slice A len cap)) (h : Reads w B 4 A len (gcells gs)) (hB : B ≤ n₀) (hz : gs.length = len) :
    SeqStopsK F n Try.prog 70 #[.pointer (some ⟨Bs, 0, none⟩)] encB (KpB n₀ Bs) (fun ys => ys = bkTo gs len) (fun pre => ∃ k, k ≤ len ∧ pre = bkTo gs k) len w := fun l J Jx W hW _ _ hY h0 => by
  have hc' := (hW.cell (p := ⟨Bs, 0, none⟩) (by simp; omega)).trans hc
  rcases Nat.eq_zero_or_pos len with h0' | hpos
  · subst h0'
    exact (backward1_nil_in F n hf hro l Bs A cap J W hc' h0).mono fun e W' ⟨he, hj⟩ => ⟨he, .inl ⟨_, rfl, hj⟩⟩
  · obtain ⟨b, o, rfl, hbB, hcell⟩ := h.openG hz hpos
    exact backward1_in F n hf hro hn l Bs n₀ b o len cap gs hlen (by omega) hz J Jx hY W hc' (fun j hj => (hcell j hj).below hW (by omega)) h0

theorem back_keep {W w1 : World} {Bs B n₀ k size : Nat} {T E : TypeId} {u v v' : Value} {xs : List Value} {tmp : Obj} (hs : Boxed W Bs T u) (hte : T ≠ E) (hrow : W.ownsRow n₀ E size v k xs) (hgrow : (W.alloc tmp).grownBy w1 v.ownBlock) (hne : Bs ≠ B) :
    (w1.setCell ⟨B, 0, none⟩ v').heap[Bs]? = W.heap[Bs]? := by
  have hl := hs.lt
  exact (Below.heap_setCell w1 _ _ _ hne).trans ((hgrow.block Bs (by simp; omega) (hs.not_row hte hrow)).trans (Below.heap_alloc W tmp Bs hl))
theorem blk_own {β : Type} (B : Nat) (t : TypeId) (f : β → Array Value) : Go.Own (fun s W => Blk W B t (f s)) := fun s X Y row hs hg hrow =>
  hs.grown hg (fun e' => by obtain ⟨o, ho, hc⟩ := hrow B e'.symm; rw [show X.heap[B]? = _ from hs] at ho; cases ho; cases hc)

set_option maxRecDepth 100000 in
set_option maxHeartbeats 4000000 in
theorem backwards_any (A : Option Addr) (n c B : Nat) (gs : List Gt) (w : World) (h : Reads w B 4 A n (gcells gs)) (hB : B ≤ w.heap.size) (hz : gs.length = n) (hn : n ≤ 1048576) :
    Calls Try.prog 49 #[.slice A n c] w fun e w' => RetG gs.reverse w e w' := by
  refine (callsIn_wide (n := 9)).1 ?_
  have f0 : Fence.wide.fn 49 := trivial
  have f1 : Fence.wide.fn 65 := trivial
  have f2 : Fence.wide.fn 70 := trivial
  have hro : Fence.wide.round = none := rfl
  have hmk := mk_capG n hn
  obtain ⟨ii, hi, hz0, hz1, hz2⟩ := info_parts infoGate
  refine callsIn_of_wp_marks Try.func49 rfl f0 ?_ hro
  simp only [Try.ntmps49, List.size_toArray, List.length_cons, List.length_nil, Nat.reduceAdd, Nat.reduceSub, Array.replicate_succ, Array.replicate_zero, List.push_toArray, List.append_toArray, List.nil_append, List.cons_append]
  gi_wp2_with (gi_at_call 65; refine (backward_in Fence.wide 8 f1 hro _ _ _ _).mono ?_; rintro e w' ⟨rfl, rfl⟩)
  have own0 := (World.ownsRow_made (base := w.heap.size) (e := 48) (size := 4) w (madeCells #[.int .i64 0, .int .i64 0, .int .i64 0, .int .i64 0] (n * 4)) n (Nat.le_refl _) (by unfold maxLen; omega) (by simp [size_madeCells]))
  have bO := (Boxed.new (w.alloc (.cells (madeCells #[.int .i64 0, .int .i64 0, .int .i64 0, .int .i64 0] (n * 4)) 48)) 26 (.slice (some ⟨w.heap.size, 0, none⟩) 0 n)).alloc (.cells #[.slice A n c] 26)
  have bN := Boxed.new ((w.alloc (.cells (madeCells #[.int .i64 0, .int .i64 0, .int .i64 0, .int .i64 0] (n * 4)) 48)).alloc (.cells #[.slice (some ⟨w.heap.size, 0, none⟩) 0 n] 26)) 26 (.slice A n c)
  have own1 := (own0.alloc (.cells #[.slice (some ⟨w.heap.size, 0, none⟩) 0 n] 26)).alloc (.cells #[.slice A n c] 26)
  simp only [World.size_alloc] at bO bN
  have hB0 : Below w.heap.size w (((w.alloc (.cells (madeCells #[.int .i64 0, .int .i64 0, .int .i64 0, .int .i64 0] (n * 4)) 48)).alloc (.cells #[.slice (some ⟨w.heap.size, 0, none⟩) 0 n] 26)).alloc (.cells #[.slice A n c] 26)) := (((Below.refl _ w).alloc (Nat.le_refl _) _).alloc (by simp) _).alloc (by simp; omega) _
  have hsz : (((w.alloc (.cells (madeCells #[.int .i64 0, .int .i64 0, .int .i64 0, .int .i64 0] (n * 4)) 48)).alloc (.cells #[.slice (some ⟨w.heap.size, 0, none⟩) 0 n] 26)).alloc (.cells #[.slice A n c] 26)).heap.size = w.heap.size + 3 := by simp
  obtain ⟨W0, hW0⟩ : ∃ W0, ((w.alloc (.cells (madeCells #[.int .i64 0, .int .i64 0, .int .i64 0, .int .i64 0] (n * 4)) 48)).alloc (.cells #[.slice (some ⟨w.heap.size, 0, none⟩) 0 n] 26)).alloc (.cells #[.slice A n c] 26) = W0 := ⟨_, rfl⟩
  rw [hW0] at bO bN own1 hB0 hsz ⊢
  have HR := Lib.hid (h.below (hB0.mono hB))
  have HZ := Lib.hid hz
  clear hW0 own0 hmk h hz
  refine wpIn_rangeFunc_ownH (n := 9) hro (by omega) (gf := 70) (lb := #[.pointer (some ⟨w.heap.size + 1 + 1, 0, none⟩)]) rfl f2 (enters_of Try.func70 (by kernel_rfl) rfl)
    (backward_stops Fence.wide 8 f2 hro (by omega) (w.heap.size + 1 + 1) w.heap.size A n c B gs hn W0 (by omega) (by omega) bN.cell HR.out hB HZ.out) KpB.trans (fun W l o o' h1 h2 h3 h4 => ⟨belowK_b (w := w) (Nat.le_refl _) W l o o' (by omega) h2 h3 h4, World.putObj_heap_other (by omega)⟩) (Below.refl _ _) (fun _ => rfl)
    (fun pre W => (∃ v, Boxed W (w.heap.size + 1) 26 v ∧ W.ownsRow w.heap.size 48 4 v pre.length (gcells (pre.map Prod.snd)) ∧ True) ∧ Boxed W (w.heap.size + 1 + 1) 26 (.slice A n c) ∧ Below w.heap.size w W)
    (fun _ _ _ => False)
    (OwnFrom.and (Own.from (holdsRow_own w.heap.size (w.heap.size + 1) 26 48 4 (fun pre => pre.length) (fun pre : List (Nat × Gt) => gcells (pre.map Prod.snd)) (fun pre v => True)) _) (OwnFrom.and (Own.from (boxed_own _ _ _) _) (ownFrom_below (Nat.le_refl _) (by omega))))
    (fun _ _ _ _ _ hs _ _ => hs)
    ⟨⟨_, bO, own1, trivial⟩, bN, hB0⟩
    (fun x a' W => ∃ Bx, w.heap.size + 1 < Bx ∧ Blk W Bx 48 #[.int .i64 x.2.k, .int .i64 x.2.a, .int .i64 x.2.b, .int .i64 x.2.c] ∧ a' = { tmps := #[.slice A n c, undef, .slice none 0 0, .pointer (some ⟨w.heap.size + 1, 0, none⟩), undef, .pointer (some ⟨Bx, 0, none⟩), .slice A n c, .int .i64 n, .slice (some ⟨w.heap.size, 0, none⟩) 0 n, .slice A n c, .func (.func 70) #[] #[.pointer (some ⟨w.heap.size + 1 + 1, 0, none⟩)], .int .i64 x.1, x.2.val, undef, undef, undef, undef, undef], defers := [] })
    (fun x a' _ X Y row hs hg hr => by obtain ⟨Bx, h1, h2, h3⟩ := hs; exact ⟨Bx, h1, blk_own Bx 48 (fun (_ : Unit) => #[.int .i64 x.2.k, .int .i64 x.2.a, .int .i64 x.2.b, .int .i64 x.2.c]) () X Y row h2 hg (fun r e => (hr r e).2), h3⟩)
    ?assign ?body ?done ?stop
  case assign =>
    rintro l pre ⟨xi, x0, x1, x2, x3⟩ W K ⟨⟨v, hv, hrow, _⟩, hbs, hB1⟩ hK
    dsimp only [encB, Gt.val]
    gi_wp2
    exact hK _ _ ((KeepsOthers.alloc _ _).from _) ⟨(Below.refl _ W).alloc hB1.size _, Below.heap_alloc W _ _ hbs.lt⟩ ⟨⟨v, hv.alloc _, hrow.alloc _, trivial⟩, hbs.alloc _, hB1.alloc hB1.size _⟩ ⟨W.heap.size, hv.lt, Blk.new W _ _, rfl⟩
  case body =>
    rintro l pre ⟨xi, x0, x1, x2, x3⟩ a' W hl ⟨r, hr⟩ ⟨⟨v, hv, hrow, _⟩, hbs, hB1⟩ ⟨Bx, hBx, bX, rfl⟩ hlt
    dsimp only [Gt.val] at bX ⊢
    have hc1 := hv.cell
    have c0 : W.cell? ⟨Bx, 0, none⟩ = some (.int .i64 x0) := bX.cell 0
    have c1 : W.cell? ⟨Bx, 1, none⟩ = some (.int .i64 x1) := bX.cell 1
    have c2 : W.cell? ⟨Bx, 2, none⟩ = some (.int .i64 x2) := bX.cell 2
    have c3 : W.cell? ⟨Bx, 3, none⟩ = some (.int .i64 x3) := bX.cell 3
    gi_wp2_with (gi_at_builtin; refine wpListIn_append_own _ rfl _ _ 26 rfl w.heap.size 48 ii (.agg #[.int .i64 0, .int .i64 0, .int .i64 0, .int .i64 0]) 4 32 Try.underlying26 hi hz0 hz1 hz2 rfl (by decide) _ _ _ rfl (hrow.alloc _) ⟨W.heap.size, 0, none⟩ 1 1 [.int .i64 x0, .int .i64 x1, .int .i64 x2, .int .i64 x3] rfl rfl (cells_new _ _ _) (by simp [Value.oneCell']) (by unfold maxLen; omega) (by omega) (by have := hB1.size; simp; omega) ?_; intro v' w1 hown' hgrow _; obtain ⟨g', cap', rfl⟩ := ownsRow_succ hown'; obtain ⟨hv1, hv2, hr2, hk2, hb2⟩ := hv.appended (by decide) hrow hB1.size (by omega) hown' hgrow; have hc2 := hv1.cell; have hf2 := hv1.frozen)
    refine ⟨hk2.from _, ⟨hb2, back_keep hbs (by decide) hrow hgrow (by omega)⟩, ⟨_, hv2, ?_, trivial⟩, ?_, hB1.trans hb2⟩
    · simpa [gcells_app, gcells_one, Gt.cells] using hr2
    · exact (back_keep hbs (by decide) hrow hgrow (by omega)).trans hbs
  case done =>
    rintro D ys W hD rfl ⟨⟨v, hv, hrow, _⟩, hbs, hB1⟩ hK
    have hc1 := hv.cell
    gi_wp2
    refine ⟨by simp, .inl ⟨_, _, rfl, run_takeDeferred hK, ?_⟩⟩
    have hrow2 := ownsRow_putObj hrow (.deferred none) hK rfl
    rw [← HZ.out, bkTo_all] at hrow2
    exact ⟨_, results_tmp rfl _ _ _, retG_acc hrow2 (hB1.trans (belowK_b (w := w) (Nat.le_refl _) W D _ _ (by omega) hK rfl rfl)) rfl⟩
  case stop =>
    rintro D c pre W _ _ h _
    exact h.elim
end Go.Proofs.Ytpahhgehamgkaaa
