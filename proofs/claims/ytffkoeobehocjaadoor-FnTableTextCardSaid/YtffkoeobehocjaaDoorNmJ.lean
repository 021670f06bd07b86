/- Contract of impl.numbersIn at a blank. -/
import Derived.RangeFuncNested
import Derived.RangeFuncBox
import Derived.RangeFuncBound
import Derived.RangeFuncCalls
import Derived.RangeFuncLeaves
import Derived.Shelf.Abstract
import Derived.Shelf.RegionOpen
import Derived.OwnWalkIn
import Derived.TacticsInMore
import Derived.LoopNIn
import Derived.LoopIn
import Derived.Maps.AppendAt
import Derived.Maps.OwnIn
import Derived.Laws.ResultCell
import Derived.Test.YtffkoeobehocjaaDoorSqI
import Derived.Test.YtffkoeobehocjaaDoorJoA
import Derived.Test.YtffkoeobehocjaaDoorCln
import Derived.Deep.RegionHeld3
namespace Go.Proofs.YtffkoeobehocjaaDoor
open Go.RowKit Go.Shelf
set_option linter.unusedVariables false
set_option linter.unusedSimpArgs false

attribute [local go_sem] Oper.semAt_some

theorem results_cells2 {fn : Func} {p u : Tmp} {t1 t2 : TypeId} (h : fn.results = #[.cell p t1, .cell u t2]) {tmps : Array Value} {P : Program} {w : World} {a b : Addr} {v1 v2 : Value} (ha : tmps.getD p undef = .pointer (some a)) (hb : tmps.getD u undef = .pointer (some b))
    (hv1 : (loadVar t1 a).run P w = .ok v1 w) (hv2 : (loadVar t2 b).run P w = .ok v2 w) : (results fn tmps).run P w = .ok (.tuple #[v1, v2]) w := by
  have e1 : (asAddr (tmps.getD p undef)).run P w = .ok a w := by rw [ha]; rfl
  have e2 : (asAddr (tmps.getD u undef)).run P w = .ok b w := by rw [hb]; rfl
  rw [Array.getD_eq_getD_getElem?] at e1 e2
  simp only [results, h]
  simp [Sem.run_bind, Result.andThen]
  simp only [e1, hv1, e2, hv2]
theorem load_ints {w : World} {B : Nat} {t : TypeId} {v : Value} (h : Boxed w B t v) : (loadVar 22 ⟨B, 0, none⟩).run Tryd.prog w = .ok v w := by
  have a := Tryd.isAgg22
  have c := h.cell
  unfold loadVar
  go_simp
theorem load_truth {w : World} {B : Nat} {t : TypeId} {v : Value} (h : Boxed w B t v) : (loadVar 4 ⟨B, 0, none⟩).run Tryd.prog w = .ok v w := by
  have a := Tryd.isAgg4
  have c := h.cell
  unfold loadVar
  go_simp
set_option maxHeartbeats 1000000 in
theorem splitSeq_any (s sep : ByteArray) (w : World) :
    Calls Tryd.prog 57 #[.string s, .string sep] w fun e w' => e = .returned (.func (.func 83) #[] #[.pointer (some ⟨w.heap.size + 1, 0, none⟩), .pointer (some ⟨w.heap.size, 0, none⟩), .pointer (some ⟨w.heap.size + 1 + 1, 0, none⟩)]) ∧
      w' = ((w.alloc (.cells #[.string s] 9)).alloc (.cells #[.string sep] 9)).alloc (.cells #[.int .i64 0] 3) := by
  go_enter Tryd.func57, Tryd.ntmps57
  go_wp2
  go_ret
  exact ⟨rfl, rfl⟩
/-- the two error variables of strconv hold errors -/
def ErrVars (w : World) : Prop := (∃ t p, w.cell? ⟨0, 0, none⟩ = some (.iface t p)) ∧ ∃ t p, w.cell? ⟨1, 0, none⟩ = some (.iface t p)
theorem ErrVars.below {w w' : World} (h : ErrVars w) (hb : Below w.heap.size w w') : ErrVars w' := by
  obtain ⟨⟨t, p, h1⟩, ⟨t2, p2, h2⟩⟩ := h
  have l1 := Lib.lt_of_cell h1
  have l2 := Lib.lt_of_cell h2
  exact ⟨⟨t, p, (hb.cell (p := ⟨0, 0, none⟩) (by simpa using l1)).trans h1⟩, ⟨t2, p2, (hb.cell (p := ⟨1, 0, none⟩) (by simpa using l2)).trans h2⟩⟩
theorem atoi_any (x : List UInt8) (hx : x.length ≤ 2000001) (w : World) (hE : ErrVars w) :
    Calls Tryd.prog 58 #[.string ⟨x.toArray⟩] w fun e w' => ((okF x = true ∧ (-9223372036854775808 ≤ vaF x ∧ vaF x ≤ 9223372036854775807) ∧ e = .returned (.tuple #[.int .i64 (vaF x), .nilIface])) ∨ (okF x = false ∧ ∃ (z : Int) (t : TypeId) (N : Addr), e = .returned (.tuple #[.int .i64 z, .iface t (.pointer (some N))]))) ∧ Below w.heap.size w w' := by
  have hs : (⟨x.toArray⟩ : ByteArray).size = x.length := by simp [ByteArray.size]
  obtain ⟨⟨t1, p1, h1⟩, ⟨t2, p2, h2⟩⟩ := hE
  rcases hx2 : Lib.atoiAll x with v | _ | _
  · refine (Tryd.strconv_Atoi_ok ⟨x.toArray⟩ (by omega) v hx2 w).mono ?_
    rintro e w' ⟨rfl, hw⟩
    have e1 : okF x = true := by unfold okF; rw [hx2]
    have e2 : vaF x = v := by unfold vaF; rw [hx2]
    rw [e2]
    refine ⟨.inl ⟨e1, Lib.atoiAll_bounds hx2, rfl⟩, ?_⟩
    rcases hw with rfl | ⟨t, rfl⟩
    · exact Below.refl _ _
    · exact Lib.bytesWorld_below _ _ _
  · refine (Any.strconv_Atoi_syntax Tryd.laysC172 ⟨x.toArray⟩ (by omega) hx2 (.iface t1 p1) w h1 (Or.inr ⟨t1, p1, rfl⟩)).mono ?_
    rintro e w' ⟨N, rfl, _, _, hb⟩
    have e1 : okF x = false := by unfold okF; rw [hx2]
    exact ⟨.inr ⟨e1, _, _, _, rfl⟩, hb⟩
  · refine (Tryd.strconv_Atoi_range ⟨x.toArray⟩ (by omega) hx2 (.iface t2 p2) w h2 (Or.inr ⟨t2, p2, rfl⟩)).mono ?_
    rintro e w' ⟨N, rfl, _, _, hb⟩
    have e1 : okF x = false := by unfold okF; rw [hx2]
    exact ⟨.inr ⟨e1, _, _, _, rfl⟩, hb⟩

/-- whether the text is one of numbers -/
def okN (l : List UInt8) : Bool := (cutL l).all okF && decide (joinI (tbI l) = l)
/-- what numbersIn answers -/
def NumR (l : List UInt8) (w : World) (e : Ending) (w' : World) : Prop :=
  ∃ A n c, e = .returned (.tuple #[.slice A n c, .bool (okN l)]) ∧ n ≤ 2000001 ∧ Below w.heap.size w w' ∧ (okN l = true → n = (tbI l).length ∧ n ≤ c ∧ Own w' w.heap.size A ((tbI l).map (Value.int .i64)))

theorem clip_any (A : Option Addr) (n c : Nat) (hc : n ≤ c) (hA : A = none → c = 0) (hn : n ≤ 2000001) (w : World) : Calls Tryd.prog 59 #[.slice A n c] w fun e w' => e = .returned (.slice A n n) ∧ w' = w := by
  cases A with
  | none =>
    obtain rfl : c = 0 := hA rfl
    obtain rfl : n = 0 := by omega
    go_enter Tryd.func59, Tryd.ntmps59
    go_wp2
    go_ret
    exact ⟨rfl, rfl⟩
  | some a =>
    obtain ⟨b, o, r⟩ := a
    go_enter Tryd.func59, Tryd.ntmps59
    go_wp2
    go_ret
    exact ⟨rfl, rfl⟩

theorem starts (w : World) (s : ByteArray) : ∃ W0, W0 = (((((((w.alloc (.cells #[.slice none 0 0] 22)).alloc (.cells #[.bool false] 4)).alloc (.cells #[] 3)).alloc (.cells #[.slice (some ⟨w.heap.size + 1 + 1, 0, none⟩) 0 0] 22)).alloc (.cells #[.string s] 9)).alloc (.cells #[.string ⟨#[32]⟩] 9)).alloc (.cells #[.int .i64 0] 3)) ∧
    W0.heap.size = w.heap.size + 7 ∧ Boxed W0 w.heap.size 22 (.slice none 0 0) ∧ Boxed W0 (w.heap.size + 1) 4 (.bool false) ∧ W0.ownsRow w.heap.size 3 1 (.slice (some ⟨w.heap.size + 1 + 1, 0, none⟩) 0 0) 0 [] ∧ Boxed W0 (w.heap.size + 1 + 1 + 1) 22 (.slice (some ⟨w.heap.size + 1 + 1, 0, none⟩) 0 0) ∧
    Boxed W0 (w.heap.size + 1 + 1 + 1 + 1) 9 (.string s) ∧ Boxed W0 (w.heap.size + 1 + 1 + 1 + 1 + 1) 9 (.string ⟨#[32]⟩) ∧ Boxed W0 (w.heap.size + 1 + 1 + 1 + 1 + 2) 3 (.int .i64 0) ∧ Below w.heap.size w W0 := by
  refine ⟨_, rfl, by simp, ?_, ?_, ?_, ?_, ?_, ?_, ?_, ?_⟩
  · exact ((((((Boxed.new w _ _).alloc _).alloc _).alloc _).alloc _).alloc _).alloc _
  · have h := Boxed.new (w.alloc (.cells #[.slice none 0 0] 22)) 4 (.bool false)
    simp only [World.size_alloc] at h
    exact ((((h.alloc _).alloc _).alloc _).alloc _).alloc _
  · have h := World.ownsRow_made (base := w.heap.size) (e := 3) (size := 1) ((w.alloc (.cells #[.slice none 0 0] 22)).alloc (.cells #[.bool false] 4)) #[] 0 (by simp; omega) (by simp [maxLen]) rfl
    simp only [World.size_alloc] at h
    exact (((h.alloc _).alloc _).alloc _).alloc _
  · have h := Boxed.new (((w.alloc (.cells #[.slice none 0 0] 22)).alloc (.cells #[.bool false] 4)).alloc (.cells #[] 3)) 22 (.slice (some ⟨w.heap.size + 1 + 1, 0, none⟩) 0 0)
    simp only [World.size_alloc] at h
    exact ((h.alloc _).alloc _).alloc _
  · have h := Boxed.new ((((w.alloc (.cells #[.slice none 0 0] 22)).alloc (.cells #[.bool false] 4)).alloc (.cells #[] 3)).alloc (.cells #[.slice (some ⟨w.heap.size + 1 + 1, 0, none⟩) 0 0] 22)) 9 (.string s)
    simp only [World.size_alloc] at h
    exact (h.alloc _).alloc _
  · have h := Boxed.new (((((w.alloc (.cells #[.slice none 0 0] 22)).alloc (.cells #[.bool false] 4)).alloc (.cells #[] 3)).alloc (.cells #[.slice (some ⟨w.heap.size + 1 + 1, 0, none⟩) 0 0] 22)).alloc (.cells #[.string s] 9)) 9 (.string ⟨#[32]⟩)
    simp only [World.size_alloc] at h
    exact h.alloc _
  · have h := Boxed.new ((((((w.alloc (.cells #[.slice none 0 0] 22)).alloc (.cells #[.bool false] 4)).alloc (.cells #[] 3)).alloc (.cells #[.slice (some ⟨w.heap.size + 1 + 1, 0, none⟩) 0 0] 22)).alloc (.cells #[.string s] 9)).alloc (.cells #[.string ⟨#[32]⟩] 9)) 3 (.int .i64 0)
    simp only [World.size_alloc] at h
    exact h
  · exact (((((((Below.refl _ w).alloc (Nat.le_refl _) _).alloc (by simp) _).alloc (by rw [World.size_alloc, World.size_alloc]; omega) _).alloc (by simp; omega) _).alloc (by simp; omega) _).alloc (by simp; omega) _).alloc (by simp; omega) _

/-- between two rounds -/
def NmI (l : List UInt8) (w : World) (k : Nat) (W : World) : Prop :=
  (∃ v, Boxed W (w.heap.size + 1 + 1 + 1) 22 v ∧ W.ownsRow w.heap.size 3 1 v k (((tbI l).take k).map (Value.int .i64)) ∧ ∀ q, v.ownBlock = some q → q = w.heap.size + 1 + 1 ∨ w.heap.size + 7 ≤ q) ∧
    w.heap.size + 7 ≤ W.heap.size ∧ (∀ j, j < k → okF ((cutL l).getD j []) = true ∧ -9223372036854775808 ≤ vaF ((cutL l).getD j []) ∧ vaF ((cutL l).getD j []) ≤ 9223372036854775807) ∧ Boxed W w.heap.size 22 (.slice none 0 0) ∧ Boxed W (w.heap.size + 1) 4 (.bool false) ∧ Below w.heap.size w W
/-- a round has returned -/
def NmX (l : List UInt8) (w : World) (k : Nat) (W : World) : Prop :=
  okF ((cutL l).getD k []) = false ∧ Boxed W w.heap.size 22 (.slice none 0 0) ∧ Boxed W (w.heap.size + 1) 4 (.bool false) ∧ Below w.heap.size w W
theorem NmI.alloc {l : List UInt8} {w W : World} {k : Nat} (h : NmI l w k W) (o : Obj) : NmI l w k (W.alloc o) := by
  obtain ⟨⟨v, hv, hr, ho⟩, h7, hk, h1, h2, hb⟩ := h
  exact ⟨⟨v, hv.alloc _, hr.alloc _, ho⟩, by rw [World.size_alloc]; omega, hk, h1.alloc _, h2.alloc _, hb.alloc hb.size _⟩
theorem NmI.cell {l : List UInt8} {w W : World} {k : Nat} (h : NmI l w k W) (u : Value) : NmI l w k (W.setCell ⟨w.heap.size + 1 + 1 + 1 + 1, 0, none⟩ u) := by
  obtain ⟨⟨v, hv, hr, ho⟩, h7, hk, h1, h2, hb⟩ := h
  refine ⟨⟨v, hv.other (by omega) _, hr.kept (grownBy_setCell' W _ u) (.inr fun e => ?_), ho⟩, by simpa using h7, hk, h1.other (by omega) _, h2.other (by omega) _, hb.setCell (p := ⟨w.heap.size + 1 + 1 + 1 + 1, 0, none⟩) (by simp; omega) _⟩
  have := ho _ e
  omega
theorem below_put {D : Nat} {w W : World} {L : Nat} {o : Obj} (hb : Below D w W) (hL : D ≤ L) (hl : W.heap[L]? = some o) (o' : Obj) : Below D w (W.putObj L o') :=
  hb.trans ((Below.refl D W).grown (grownBy_putObj' W L o') (by have := (Array.getElem?_eq_some_iff.1 hl).1; omega) (fun k e => by cases e; exact hL))
theorem NmI.put {l : List UInt8} {w W : World} {k L : Nat} {o o' : Obj} (hL : w.heap.size + 7 ≤ L) (hl : W.heap[L]? = some o) (hc : o.isCells = false) (h : NmI l w k W) : NmI l w k (W.putObj L o') := by
  obtain ⟨⟨v, hv, hr, ho⟩, h7, hk, h1, h2, hb⟩ := h
  exact ⟨⟨v, hv.kept (grownBy_putObj' W L o') (by simp; omega), ownsRow_putObj hr o' hl hc, ho⟩, by simpa using h7, hk, h1.kept (grownBy_putObj' W L o') (by simp; omega), h2.kept (grownBy_putObj' W L o') (by simp; omega), below_put hb (by omega) hl o'⟩
theorem NmX.put {l : List UInt8} {w W : World} {k L : Nat} {o o' : Obj} (hL : w.heap.size + 7 ≤ L) (hl : W.heap[L]? = some o) (h : NmX l w k W) : NmX l w k (W.putObj L o') := by
  obtain ⟨hk, h1, h2, hb⟩ := h
  exact ⟨hk, h1.kept (grownBy_putObj' W L o') (by simp; omega), h2.kept (grownBy_putObj' W L o') (by simp; omega), below_put hb (by omega) hl o'⟩
theorem others_below {W W' : World} (h : Below W.heap.size W W') : KeepsOthers W W' := ⟨h.size, fun k o hk _ => (h.block k (Array.getElem?_eq_some_iff.1 hk).1).trans hk⟩
theorem box_below {W W' : World} {B : Nat} {t : TypeId} {v : Value} (h : Boxed W B t v) (hb : Below W.heap.size W W') : Boxed W' B t v := (hb.block B h.lt).trans h
theorem app_keep {W w1 : World} {v v' : Value} {bx q : Nat} {tmp : Obj} (hgrow : (W.alloc tmp).grownBy w1 v.ownBlock) (hq : q < W.heap.size) (h1 : v.ownBlock ≠ some q) (h2 : q ≠ bx) : (w1.setCell ⟨bx, 0, none⟩ v').heap[q]? = W.heap[q]? :=
  (Below.heap_setCell w1 _ _ _ h2).trans ((hgrow.block q (by simp; omega) (fun e => h1 e.symm)).trans (Below.heap_alloc W tmp q hq))
theorem okN_no {l : List UInt8} {k : Nat} (hk : k < (cutL l).length) (h : okF ((cutL l).getD k []) = false) : okN l = false := by
  unfold okN
  rw [Bool.and_eq_false_iff]
  refine .inl ?_
  rw [List.all_eq_false]
  refine ⟨(cutL l)[k], List.getElem_mem hk, ?_⟩
  rw [List.getD_eq_getElem?_getD, List.getElem?_eq_getElem hk, Option.getD_some] at h
  rw [h]
  simp
theorem okN_all {l : List UInt8} (h : ∀ j, j < (cutL l).length → okF ((cutL l).getD j []) = true) : okN l = decide (joinI (tbI l) = l) := by
  unfold okN
  rw [show (cutL l).all okF = true from ?_, Bool.true_and]
  rw [List.all_eq_true]
  intro x hx
  obtain ⟨k, hk, rfl⟩ := List.getElem_of_mem hx
  have := h k hk
  rw [List.getD_eq_getElem?_getD, List.getElem?_eq_getElem hk, Option.getD_some] at this
  exact this
theorem vaF_bd {x : List UInt8} (h : okF x = true) : -9223372036854775808 ≤ vaF x ∧ vaF x ≤ 9223372036854775807 := by
  unfold okF at h
  unfold vaF
  rcases hx : Lib.atoiAll x with v | _ | _
  · exact Lib.atoiAll_bounds hx
  · rw [hx] at h; cases h
  · rw [hx] at h; cases h
theorem tbI_snoc {l : List UInt8} {k : Nat} (hk : k < (cutL l).length) : (tbI l).take (k + 1) = (tbI l).take k ++ [vaF ((cutL l).getD k [])] := by
  unfold tbI
  rw [List.take_succ_eq_append_getElem (by simpa using hk)]
  simp [List.getD_eq_getElem?_getD, List.getElem?_eq_getElem hk]

theorem owns_own2 {w : World} {B n size c : Nat} {A : Option Addr} {t : TypeId} {xs : List Value} (h : w.ownsRow B t size (.slice A n c) n xs) : Own w B A xs ∧ n ≤ c := by
  obtain ⟨h1, h2⟩ := h
  rcases h2 with ⟨h0, h3⟩ | ⟨g, cap, cur, e, hB, hg, hn, hm, hs, ht⟩
  · cases h0
    have : xs = [] := List.eq_nil_of_length_eq_zero (by simpa using h1)
    subst this
    exact ⟨Own.nil _ _ _, Nat.le_refl _⟩
  · cases e
    refine ⟨fun _ => ?_, hn⟩
    have hb : Blk w g t cur := hg
    refine ⟨g, 0, rfl, hB, hb.lt, fun j u hu => ?_⟩
    rw [Nat.zero_add]
    refine ⟨?_, hb.frozen j⟩
    rw [hb.cell]
    rw [← ht, List.getElem?_take] at hu
    split at hu
    · simpa using hu
    · cases hu

/-- behind the last statement of numbersIn -/
def NmEnd (B M : Nat) (W : World) (v : Value) (b : Bool) (e : Exit) (a : Act) (w' : World) : Prop :=
  e = .normal ∧ a.defers = [{ target := .collected M, args := #[] }] ∧ a.tmps.getD 4 undef = .pointer (some ⟨B, 0, none⟩) ∧ a.tmps.getD 5 undef = .pointer (some ⟨B + 1, 0, none⟩) ∧
    ∃ w5, Below W.heap.size W w5 ∧ w' = (w5.setCell ⟨B, 0, none⟩ v).setCell ⟨B + 1, 0, none⟩ (.bool b)

set_option maxRecDepth 100000 in
set_option maxHeartbeats 4000000 in
theorem numbersIn_any (l : List UInt8) (hl : l.length ≤ 2000000) (w : World) (hE : ErrVars w) (hT : Tab10 w) :
    Calls Tryd.prog 35 #[.string ⟨l.toArray⟩, .string ⟨#[32]⟩] w fun e w' => NumR l w e w' := by
  obtain ⟨s, es⟩ : ∃ s : ByteArray, s = ⟨l.toArray⟩ := ⟨_, rfl⟩
  rw [← es]
  obtain ⟨W0, eW, hz, bR, bK, row0, bO, bS, bP, bV, hB0⟩ := starts w s
  have HH := Lib.hid (show Hands Tryd.prog 83 _ 8 _ w.heap.size (cutL l) W0 from splitSeq1_hands l hl 8 (w.heap.size + 1 + 1 + 1 + 1) w.heap.size (by omega) W0 (by omega) (by rw [← es]; exact bS) bP bV)
  have HI : Hid (NmI l w 0 W0) := Lib.hid ⟨⟨_, bO, by simpa using row0, fun q hq => .inl (by simpa [Value.ownBlock] using hq.symm)⟩, by omega, fun j hj => absurd hj (by omega), bR, bK, hB0⟩
  have HL := Lib.hid (fun k (hk : k < (cutL l).length) => cutL_len2 l k)
  have HLc : Hid ((cutL l).length ≤ 2000001) := Lib.hid (by
    have h1 := cutW_le l l.length
    simp [cutL]
    omega)
  obtain ⟨ii, hi, hz0, hz1, hz2⟩ := info_parts infoInt
  have ES := Lib.hid es
  have HW := Lib.hid eW
  have HE := Lib.hid hE
  have HT := Lib.hid hT
  clear es eW bR bK row0 bO bS bP bV hB0 hE hT
  refine (callsIn_wide (n := 9)).1 ?_
  have f57 : Fence.wide.fn 57 := trivial
  have fdp : Fence.wide.depth = none := rfl
  refine callsIn_of_wp_marks Tryd.func35 rfl trivial ?_ rfl
  simp only [Tryd.ntmps35, List.size_toArray, List.length_cons, List.length_nil, Nat.reduceAdd, Nat.reduceSub, Array.replicate_succ, Array.replicate_zero, List.push_toArray, List.append_toArray, List.nil_append, List.cons_append]
  gi_wp2_with (gi_at_call 57; refine (callsIn_wide.2 (splitSeq_any _ _ _)).mono ?_; rintro e w' ⟨rfl, rfl⟩)
  rw [← HW.out]
  refine wpIn_hands (n := 9) (by omega) (gf := 83) rfl (enters_of Tryd.func83 (by kernel_rfl) rfl) HH.out rfl (by omega) (by omega) (NmI l w) (NmX l w)
    (fun k W o h => h.alloc o) (fun k W v h => h.cell v) (fun k W L o o' h1 h2 h3 h => h.put (by omega) h2 h3) (fun k W L o o' h1 h2 h3 h => h.put (by omega) h2) HI.out
    (fun x => { tmps := #[.string s, .string ⟨#[32]⟩, undef, undef, .pointer (some ⟨w.heap.size, 0, none⟩), .pointer (some ⟨w.heap.size + 1, 0, none⟩), .pointer (some ⟨w.heap.size + 1 + 1 + 1, 0, none⟩), .string ⟨x.toArray⟩, undef, undef, .slice (some ⟨w.heap.size + 1 + 1, 0, none⟩) 0 0, .string s, .string ⟨#[32]⟩, .func (.func 83) #[] #[.pointer (some ⟨w.heap.size + 1 + 1 + 1 + 1 + 1, 0, none⟩), .pointer (some ⟨w.heap.size + 1 + 1 + 1 + 1, 0, none⟩), .pointer (some ⟨w.heap.size + 1 + 1 + 1 + 1 + 1 + 1, 0, none⟩)], .string ⟨x.toArray⟩, undef, undef, undef, undef, undef, undef, undef, undef, undef, undef, undef, undef, undef, undef, undef, undef, undef, undef], defers := [] })
    ?assign ?body ?done ?stop
  case assign =>
    intro y x W K hK
    gi_wp2
    exact hK
  case body =>
    intro y k x W hk hx hI
    obtain ⟨⟨v, hv, hr, ho⟩, h7, hkk, h1, h2, hb⟩ := hI
    have hxl : x.length ≤ 2000001 := by rw [hx]; have := HL.out k hk; omega
    have hk2 : k < 2000001 := by have := HLc.out; omega
    have CA := atoi_any x hxl W (HE.out.below hb)
    have HX := Lib.hid hx
    have f58 : Fence.wide.fn 58 := trivial
    have HO := Lib.hid ho
    have HK := Lib.hid hkk
    clear hx ho hkk HI HH HL HT
    cases hok : okF x with
    | true =>
      have hbd := vaF_bd hok
      have CA' : Hid (Calls Tryd.prog 58 #[.string ⟨x.toArray⟩] W fun e w' => e = .returned (.tuple #[.int .i64 (vaF x), .nilIface]) ∧ Below W.heap.size W w') := Lib.hid (CA.mono (by
        rintro e w' ⟨⟨_, _, he⟩ | ⟨h, _⟩, hb⟩
        · exact ⟨he, hb⟩
        · rw [hok] at h; cases h))
      have Hok := Lib.hid (And.intro hok hbd)
      obtain ⟨z, ez⟩ : ∃ z, z = vaF x := ⟨_, rfl⟩
      rw [← ez] at CA'
      have EZ := Lib.hid ez
      clear CA hok hbd ez
      gi_wp2_with (first | (gi_at_call 58; refine (CallsIn.inRound y (callsIn_wide.2 CA'.out)).mono ?_; rintro e w2 ⟨rfl, hb2⟩; have hv2 := box_below hv hb2; have hr2 := own_next hr hb2; have hc2 := hv2.cell; have hB2 := hb.trans (hb2.mono hb.size); have hs2 := hB2.size) | (gi_at_builtin; refine wpListIn_append_own_at _ rfl _ _ 22 rfl w.heap.size 3 ii (.int .i64 0) 1 8 Tryd.underlying22 hi hz0 hz1 hz2 rfl (by decide) _ _ _ rfl (hr2.alloc _) ⟨w2.heap.size, 0, none⟩ 1 1 [.int .i64 z] rfl rfl (cell_one_new _ _ _) (by simp [Value.oneCell']) (by unfold maxLen; omega) (by omega) (by simp; omega) ?_; intro v' w3 hown' hgrow _ hat; obtain ⟨g', cap', rfl⟩ := ownsRow_succ hown'; obtain ⟨hv3, hv4, hr4, hk4, hb4⟩ := hv2.appended (by decide) hr2 hB2.size (by omega) hown' hgrow; have hc3 := hv3.cell; have hf3 := hv3.frozen))
      have hne : ∀ q, q < w.heap.size + 7 → q ≠ w.heap.size + 1 + 1 → v.ownBlock ≠ some q := fun q h8 h9 e => by have := HO.out q e; omega
      have hkeep : ∀ q, q < w.heap.size + 7 → q ≠ w.heap.size + 1 + 1 → q ≠ w.heap.size + 1 + 1 + 1 → (w3.setCell ⟨w.heap.size + 1 + 1 + 1, 0, none⟩ (.slice (some ⟨g', 0, none⟩) (k + 1) cap')).heap[q]? = W.heap[q]? := fun q a b c =>
        (app_keep hgrow (by have := hb2.size; omega) (hne q a b) c).trans (hb2.block q (by omega))
      refine ⟨(others_below hb2).trans hk4, ⟨(hb2.mono hb.size).trans hb4, fun q a b => hkeep q (by omega) (by omega) (by omega)⟩, ⟨_, hv4, ?_, ?_⟩, ?_, ?_, ?_, ?_, ?_⟩
      · rw [tbI_snoc hk, ← HX.out, ← EZ.out]
        simpa using hr4
      · intro q hq
        rcases hat with e | e
        · rw [e] at hq
          exact HO.out q hq
        · rw [e] at hq
          simp at hq
          have := hb2.size
          omega
      · have := hb4.size
        have := hb2.size
        omega
      · intro j hj
        by_cases ej : j = k
        · subst ej
          rw [← HX.out]
          exact ⟨Hok.out.1, Hok.out.2⟩
        · exact HK.out j (by omega)
      · exact (hkeep _ (by omega) (by omega) (by omega)).trans h1
      · exact (hkeep _ (by omega) (by omega) (by omega)).trans h2
      · exact hb.trans ((hb2.mono hb.size).trans hb4)
    | false =>
      have CA' : Hid (Calls Tryd.prog 58 #[.string ⟨x.toArray⟩] W fun e w' => (∃ (z : Int) (t : TypeId) (N : Addr), e = .returned (.tuple #[.int .i64 z, .iface t (.pointer (some N))])) ∧ Below W.heap.size W w') := Lib.hid (CA.mono (by
        rintro e w' ⟨⟨h, _⟩ | ⟨_, he⟩, hb⟩
        · rw [hok] at h; cases h
        · exact ⟨he, hb⟩))
      have Hok := Lib.hid hok
      clear CA hok
      gi_wp2_with (gi_at_call 58; refine (CallsIn.inRound y (callsIn_wide.2 CA'.out)).mono ?_; rintro e w2 ⟨⟨z, t, N, rfl⟩, hb2⟩; have h12 := box_below h1 hb2; have h22 := box_below h2 hb2; have d1 := h12.cell; have d2 := h22.cell; have e1 := h12.frozen; have e2 := h22.frozen)
      exact ⟨((others_below hb2).trans (KeepsOthers.setCell _ _ _)).trans (KeepsOthers.setCell _ _ _), by rw [← HX.out]; exact Hok.out, (h12.set _).other (by omega) _, (h22.other (by omega) _).set _, ((hb.trans (hb2.mono hb.size)).setCell (p := ⟨w.heap.size, 0, none⟩) (by simp) _).setCell (p := ⟨w.heap.size + 1, 0, none⟩) (by simp) _⟩
  case done =>
    intro M W hM hI hK
    obtain ⟨⟨v, hv, hr, ho⟩, h7, hkk, h1, h2, hb⟩ := hI
    have HKK := Lib.hid hkk
    obtain ⟨m, em⟩ : ∃ m, (cutL l).length = m + 1 := ⟨(cutL l).length - 1, by simp [cutL]⟩
    rw [List.take_of_length_le (by simp [tbI])] at hr
    have EM := Lib.hid em
    rw [em] at hr
    obtain ⟨g, c, rfl⟩ := ownsRow_succ hr
    clear hkk em HI HH HL
    have HEnt : Hid (∀ k, k < m + 1 → -9223372036854775808 ≤ (tbI l).getD k 0 ∧ (tbI l).getD k 0 ≤ 9223372036854775807) := Lib.hid fun k hk => by
      have h0 := (HKK.out k (by rw [EM.out]; exact hk)).2
      have e : (tbI l).getD k 0 = vaF ((cutL l).getD k []) := by
        have hk3 : k < (cutL l).length := by rw [EM.out]; exact hk
        unfold tbI
        simp [List.getD_eq_getElem?_getD, List.getElem?_eq_getElem hk3]
      rw [e]
      exact h0
    have hcap : m + 1 ≤ c := by
      obtain ⟨A, c', e, h⟩ := own_shape hr
      injection e with _ _ e
      omega
    have hm2 : m + 1 ≤ 2000001 := by have := HLc.out; have := EM.out; omega
    have CC := Lib.hid (fun X => clip_any (some ⟨g, 0, none⟩) (m + 1) c hcap (fun h => by cases h) hm2 X)
    have hRd := own_reads hr rfl
    have hlen : (tbI l).length = m + 1 := by rw [← EM.out]; simp [tbI]
    have CJ := Lib.hid (fun X (hX : Below W.heap.size W X) => joined_all (some ⟨g, 0, none⟩) (m + 1) c W.heap.size (tbI l) X (hRd.below hX) hX.size hlen hcap (by omega) (by omega) HEnt.out (HT.out.on (hb.trans (hX.mono hb.size))))
    have hov := Lib.hid (okN_all (l := l) fun j hj => (HKK.out j hj).1)
    have HR := Lib.hid hr
    have HO := Lib.hid ho
    obtain ⟨J, eJ⟩ : ∃ J, J = joinI (tbI l) := ⟨_, rfl⟩
    rw [← eJ] at CJ hov
    have c0 := hv.cell
    have H1 := Lib.hid h1
    have H2 := Lib.hid h2
    have HV := Lib.hid hv
    have hJd := Below.refl W.heap.size W
    have es := ES.out
    subst es
    clear hRd hr ho eJ hlen h1 h2 hv
    gi_wp2_with fail
    refine wpIn_wide.2 ?_
    refine Code.wp_mono (Q := NmEnd w.heap.size M W (.slice (some ⟨g, 0, none⟩) (m + 1) (m + 1)) (J == l)) ?_ ?_
    rotate_left
    · skip
      refine wp_region_noPanic ?_
      refine wp_region_held_drew (S := fun X => X.cell? ⟨w.heap.size + 1 + 1 + 1, 0, none⟩ = some (.slice (some ⟨g, 0, none⟩) (m + 1) c)) (by kernel_rfl) (c0) (fun hHeld => ?_)
      refine wpAnyH_take (i := 0) (oi := _) (v := ?_) rfl (by kernel_rfl) (by kernel_rfl) (by kernel_rfl) (fun _ _ _ h => h) (Or.inl ⟨by rfl, ?_⟩) (by assumption) ?_
      rotate_left
      · (intro w hSw; (try dsimp only at hSw); go_simp; try with_reducible rfl)
      (try simp only [List.getElem_toArray, List.getElem_cons_zero, List.getElem_cons_succ, Act.put, List.setIfInBounds_toArray, List.set_cons_zero, List.set_cons_succ])
      refine wpAnyH_take (i := 2) (oi := _) (v := ?_) rfl (by kernel_rfl) (by kernel_rfl) (by kernel_rfl) (fun _ _ _ h => h) (Or.inl ⟨by rfl, ?_⟩) (by assumption) ?_
      rotate_left
      · (intro w hSw; (try dsimp only at hSw); go_simp; try with_reducible rfl)
      (try simp only [List.getElem_toArray, List.getElem_cons_zero, List.getElem_cons_succ, Act.put, List.setIfInBounds_toArray, List.set_cons_zero, List.set_cons_succ])
      refine wpAnyH_take (i := 3) (oi := _) (v := ?_) rfl (by kernel_rfl) (by kernel_rfl) (by kernel_rfl) (fun _ _ _ h => h) (Or.inl ⟨by rfl, ?_⟩) (by assumption) ?_
      rotate_left
      · (intro w hSw; (try dsimp only at hSw); go_simp; try with_reducible rfl)
      (try simp only [List.getElem_toArray, List.getElem_cons_zero, List.getElem_cons_succ, Act.put, List.setIfInBounds_toArray, List.set_cons_zero, List.set_cons_succ])
      refine wpAnyH_take (i := 5) (oi := _) (v := ?_) rfl (by kernel_rfl) (by kernel_rfl) (by kernel_rfl) (fun _ _ _ h => h) (Or.inl ⟨by rfl, ?_⟩) (by assumption) ?_
      rotate_left
      · (intro w hSw; (try dsimp only at hSw); go_simp; try with_reducible rfl)
      (try simp only [List.getElem_toArray, List.getElem_cons_zero, List.getElem_cons_succ, Act.put, List.setIfInBounds_toArray, List.set_cons_zero, List.set_cons_succ])
      refine wpAnyH_ready (rs := [1]) (by kernel_rfl) (by simp) ?_
      refine AllReadyH.cons (o := _) rfl (fun K hK => ?_) AllReadyH.nil
      go_simp
      ((refine (CC.out _).mono ?_; rintro e w' ⟨rfl, rfl⟩))
      go_wp2_with fail
      refine hK.out _ _ hHeld (fun hHeld => ?_)
      clear hK K
      (try simp only [List.getElem_toArray, List.getElem_cons_zero, List.getElem_cons_succ, Act.put, List.setIfInBounds_toArray, List.set_cons_zero, List.set_cons_succ])
      refine wpAnyH_ready (rs := [4]) (by kernel_rfl) (by simp) ?_
      refine AllReadyH.cons (o := _) rfl (fun K hK => ?_) AllReadyH.nil
      go_simp
      ((refine (CJ.out _ hJd.drew).mono ?_; rintro e w5 ⟨rfl, hb5⟩; have h15 := box_below (W := W.drew) H1.out hb5; have h25 := box_below (W := W.drew) H2.out hb5; have d1 := h15.cell; have d2 := h25.cell; have e1 := h15.frozen; have e2 := h25.frozen))
      go_wp2_with fail
      refine hK.out _ _ ((hb5.cell (World.block_lt_of_cell? _ _ hHeld)).trans hHeld) (fun hHeld => ?_)
      clear hK K
      (try simp only [List.getElem_toArray, List.getElem_cons_zero, List.getElem_cons_succ, Act.put, List.setIfInBounds_toArray, List.set_cons_zero, List.set_cons_succ])
      refine wpAnyH_take (i := 6) (oi := _) (v := ?_) rfl (by kernel_rfl) (by kernel_rfl) (by kernel_rfl) (fun _ _ _ h => h) (Or.inl ⟨by rfl, ?_⟩) (by assumption) ?_
      rotate_left
      · (intro w hSw; (try dsimp only at hSw); go_simp; try with_reducible rfl)
      (try simp only [List.getElem_toArray, List.getElem_cons_zero, List.getElem_cons_succ, Act.put, List.setIfInBounds_toArray, List.set_cons_zero, List.set_cons_succ])
      refine wpAnyH_ready (rs := [7]) (by kernel_rfl) (by simp) ?_
      refine AllReadyH.cons (o := _) rfl (fun K hK => ?_) AllReadyH.nil
      go_simp
      (skip)
      go_wp2_with fail
      refine hK.out _ _ ((World.cell?_of_block (a := ⟨w.heap.size + 1 + 1 + 1, 0, none⟩) (Below.heap_setCell _ _ _ _ (by simp; omega))).trans hHeld) (fun hHeld => ?_)
      clear hK K
      (try simp only [List.getElem_toArray, List.getElem_cons_zero, List.getElem_cons_succ, Act.put, List.setIfInBounds_toArray, List.set_cons_zero, List.set_cons_succ])
      refine wpAnyH_ready (rs := [8]) (by kernel_rfl) (by simp) ?_
      refine AllReadyH.cons (o := _) rfl (fun K hK => ?_) AllReadyH.nil
      go_simp
      (skip)
      go_wp2_with fail
      refine hK.out _ _ ((World.cell?_of_block (a := ⟨w.heap.size + 1 + 1 + 1, 0, none⟩) (Below.heap_setCell _ _ _ _ (by simp; omega))).trans hHeld) (fun hHeld => ?_)
      clear hK K
      (try simp only [List.getElem_toArray, List.getElem_cons_zero, List.getElem_cons_succ, Act.put, List.setIfInBounds_toArray, List.set_cons_zero, List.set_cons_succ])
      refine wpAnyH_done (by kernel_rfl) ?_ _
      refine NoPanic.normal ?_
      exact ⟨rfl, rfl, rfl, rfl, w5, (show Below W.heap.size W w5 from hJd.drew.trans (hb5.mono (by simp))), rfl⟩
    · rintro e a' w' ⟨rfl, hd, t4, t5, w5, hb5, rfl⟩
      have h15 := box_below H1.out hb5
      have h25 := box_below H2.out hb5
      have bR := (h15.set (.slice (some ⟨g, 0, none⟩) (m + 1) (m + 1))).other (B' := w.heap.size + 1) (by omega) (.bool (J == l))
      have bK := (h25.other (B' := w.heap.size) (by omega) (.slice (some ⟨g, 0, none⟩) (m + 1) (m + 1))).set (.bool (J == l))
      have hMl : M < W.heap.size := (Array.getElem?_eq_some_iff.1 hK).1
      have hK5 : ((w5.setCell ⟨w.heap.size, 0, none⟩ (.slice (some ⟨g, 0, none⟩) (m + 1) (m + 1))).setCell ⟨w.heap.size + 1, 0, none⟩ (.bool (J == l))).heap[M]? = some (.deferred (some [])) :=
        (Below.heap_setCell _ _ _ _ (by simp; omega)).trans ((Below.heap_setCell _ _ _ _ (by simp; omega)).trans ((hb5.block M hMl).trans hK))
      have hg : g = w.heap.size + 1 + 1 ∨ w.heap.size + 7 ≤ g := HO.out g rfl
      have hr5 := ((own_next HR.out hb5).kept (grownBy_setCell' w5 w.heap.size (.slice (some ⟨g, 0, none⟩) (m + 1) (m + 1))) (.inr (by simp [Value.ownBlock]; omega))).kept (grownBy_setCell' _ (w.heap.size + 1) (.bool (J == l))) (.inr (by simp [Value.ownBlock]; omega))
      have hbl := ((hb.trans (hb5.mono hb.size)).setCell (p := ⟨w.heap.size, 0, none⟩) (by simp) (.slice (some ⟨g, 0, none⟩) (m + 1) (m + 1))).setCell (p := ⟨w.heap.size + 1, 0, none⟩) (by simp) (.bool (J == l))
      obtain ⟨T, Df⟩ := a'
      dsimp only at hd t4 t5
      subst hd
      generalize (w5.setCell ⟨w.heap.size, 0, none⟩ (.slice (some ⟨g, 0, none⟩) (m + 1) (m + 1))).setCell ⟨w.heap.size + 1, 0, none⟩ (.bool (J == l)) = w6 at bR bK hK5 hr5 hbl ⊢
      have hjl : (J == l) = okN l := by rw [hov.out]; by_cases h : J = l <;> simp [h]
      rw [hjl] at bK
      have HF := Lib.hid (And.intro bR (And.intro bK (And.intro hr5 hbl)))
      have HT4 := Lib.hid (And.intro t4 t5)
      clear bR bK hr5 hbl h15 h25 t4 t5 hjl
      gi_wp2
      refine ⟨by simp, .inl ⟨_, _, rfl, run_takeDeferred hK5, ?_⟩⟩
      obtain ⟨bR, bK, hr5, hbl⟩ := HF.out
      refine ⟨_, results_cells2 rfl HT4.out.1 HT4.out.2 (load_ints (bR.kept (grownBy_putObj' w6 M _) (by simp; omega))) (load_truth (bK.kept (grownBy_putObj' w6 M _) (by simp; omega))), ?_⟩
      exact ⟨_, _, _, rfl, hm2, below_put hbl (by omega) hK5 _, fun _ => ⟨by rw [← EM.out]; simp [tbI], Nat.le_refl _, (owns_own2 (ownsRow_putObj hr5 _ hK5 rfl)).1⟩⟩
  case stop =>
    intro M k W hM hk hX hK
    obtain ⟨hf, h1, h2, hb⟩ := hX
    have hno := okN_no hk hf
    gi_wp2
    refine ⟨by simp, .inl ⟨_, _, rfl, run_takeDeferred hK, ?_⟩⟩
    refine ⟨_, results_cells2 rfl rfl rfl (load_ints (h1.kept (grownBy_putObj' W M _) (by simp; omega))) (load_truth (h2.kept (grownBy_putObj' W M _) (by simp; omega))), ?_⟩
    exact ⟨none, 0, 0, by rw [hno], by omega, below_put hb (by omega) hK _, fun h => by rw [hno] at h; cases h⟩
end Go.Proofs.YtffkoeobehocjaaDoor
