/- Contract of l20Gate: some gate is drawn. -/
import Derived.Test.YtffkoeobehocjaaDoorDrawW
import Derived.Test.YtffkoeobehocjaaDoorDrawB
import Derived.Test.YtffkoeobehocjaaDoorGates
import Derived.Test.YtffkoeobehocjaaDoorAppend
import Derived.Test.YtffkoeobehocjaaDoorToGate
import Derived.Test.YtffkoeobehocjaaDoorSome
import Derived.Deep.DeepCutAuto
import Derived.Deep.RegionHeld3
namespace Go.Proofs.YtffkoeobehocjaaDoor
open Go.RowKit
set_option linter.unusedVariables false

/-- some gate was drawn -/
def DrawnG (w : World) (r p : Nat) (e : Ending) (w' : World) : Prop := ∃ g : Gt, e = .returned g.val ∧ Rd w' r p ∧ w.grownBy w' (some r)

theorem ints_one (zs : List Int) : ∀ u ∈ zs.map (Value.int .i64), u.oneCell' = true := ints_oneCell .i64 zs

/-- what a round of the shuffle leaves -/
theorem gate_round {w w1 wA wB wC : World} {r p k t g : Nat} {L : List Int} {vB vC : Value} {o : Obj} {x : Int}
    (hrd : Rd w1 r p) (hfr : From w.heap.size r w w1) (hblk : Blk w1 w.heap.size 40 #[.int .i64 0, .int .i64 0, .int .i64 0, .int .i64 0]) (hr : r < w.heap.size) (hs1 : w.heap.size < w1.heap.size) (hg : w.heap.size < g) (hg1 : g < w1.heap.size) (htk : t ≤ k) (hL : L.length = k)
    (grA : (w1.alloc o).grownBy wA (some w1.heap.size))
    (grB : (wA.alloc (.cells #[.int .i64 x] 3)).grownBy wB (some g)) (atB : vB.ownBlock = some g ∨ vB.ownBlock = some (wA.alloc (.cells #[.int .i64 x] 3)).heap.size)
    (ownC : wC.ownsRow (w.heap.size + 1) 3 1 vC (t + 1 + (k - t)) ((L.map (Value.int .i64)).take t ++ [.int .i64 x] ++ (L.map (Value.int .i64)).drop t)) (grC : wB.grownBy wC vB.ownBlock) :
    ∃ (g' cap' : Nat) (L' : List Int), vC = .slice (some ⟨g', 0, none⟩) (k + 1) cap' ∧ w.heap.size < g' ∧ L'.length = k + 1 ∧ k + 1 ≤ cap' ∧ cap' ≤ maxLen ∧ wC.ownsRow (w.heap.size + 1) 3 1 (.slice (some ⟨g', 0, none⟩) (k + 1) cap') (k + 1) (L'.map (Value.int .i64)) ∧
      Rd wC r p ∧ From w.heap.size r w wC ∧ Blk wC w.heap.size 40 #[.int .i64 0, .int .i64 0, .int .i64 0, .int .i64 0] := by
  have e1 : t + 1 + (k - t) = k + 1 := by omega
  rw [e1] at ownC
  obtain ⟨g', cap', rfl, h1, h2, h3, h4⟩ := own_pos ownC (by omega)
  have sA := grA.size
  have sB := grB.size
  simp at sA sB
  have rowB : ∀ q, vB.ownBlock = some q → w.heap.size < q := fun q e => by
    rcases atB with h | h <;> rw [h] at e <;> cases e
    · exact hg
    · simp; omega
  refine ⟨g', cap', L.take t ++ [x] ++ L.drop t, rfl, by omega, by simp [List.length_take, List.length_drop]; omega, h3, h4, by simpa using ownC, ?_, ?_, ?_⟩
  · refine ((((hrd.alloc o).onlyO grA (fun q e => by cases e; omega)).alloc _).onlyO grB (fun q e => by cases e; omega)).onlyO grC (fun q e => by have := rowB q e; omega)
  · refine ((((hfr.alloc (by omega) o).only grA (by simp; omega) (fun q e => by cases e; exact .inl (by omega))).alloc (by omega) _).only grB (by simp; omega) (fun q e => by cases e; exact .inl (by omega))).only grC (by omega) (fun q e => .inl (by have := rowB q e; omega))
  · refine ((((hblk.alloc o).grown grA (fun e => by have := Option.some.inj e; omega)).alloc _).grown grB (fun e => by have := Option.some.inj e; omega)).grown grC (fun e => by have := rowB _ e.symm; omega)

theorem tri_cell (v : Int) (h0 : 0 ≤ v) (h1 : v < 3) : ∃ x : Int, (0 ≤ x ∧ x ≤ 3) ∧ (#[.int .i64 0, .int .i64 1, .int .i64 3] : Array Value)[v.toNat]? = some (.int .i64 x) := by
  have : v = 0 ∨ v = 1 ∨ v = 2 := by omega
  rcases this with rfl | rfl | rfl
  · exact ⟨0, by omega, rfl⟩
  · exact ⟨1, by omega, rfl⟩
  · exact ⟨3, by omega, rfl⟩
/-- the gate's block and all that stays -/
def GateW (w0 : World) (r P G : Nat) (w : World) (k a b c : Int) : Prop := r < w0.heap.size ∧ w0.heap.size < G ∧ Blk w G 40 #[.int .i64 k, .int .i64 a, .int .i64 b, .int .i64 c] ∧ Rd w r P ∧ From w0.heap.size r w0 w ∧ Blk w w0.heap.size 40 #[.int .i64 0, .int .i64 0, .int .i64 0, .int .i64 0]
def GateG (w0 : World) (r P G : Nat) (w : World) : Prop := ∃ k a b c : Int, GateW w0 r P G w k a b c
section
variable {w0 w w' : World} {r P Q G : Nat} {k a b c : Int}
theorem GateG.mk (h : GateW w0 r P G w k a b c) : GateG w0 r P G w := ⟨k, a, b, c, h⟩
theorem GateW.sz (h : GateW w0 r P G w k a b c) : w0.heap.size ≤ w.heap.size := h.2.2.2.2.1.2.2.2.1
theorem GateW.drew (h : GateW w0 r P G w k a b c) : GateW w0 r P G w.drew k a b c := h
theorem GateW.alloc (h : GateW w0 r P G w k a b c) (o : Obj) : GateW w0 r P G (w.alloc o) k a b c :=
  ⟨h.1, h.2.1, h.2.2.1.alloc o, h.2.2.2.1.alloc o, h.2.2.2.2.1.alloc h.sz o, h.2.2.2.2.2.alloc o⟩
theorem GateW.pick (h : GateW w0 r P G w k a b c) (hg : w.grownBy w' (some r)) (hr : Rd w' r Q) : GateW w0 r Q G w' k a b c :=
  ⟨h.1, h.2.1, h.2.2.1.grown hg (fun e => by have := h.1; have := h.2.1; have := Option.some.inj e; omega), hr, h.2.2.2.2.1.only hg h.sz (fun q e => .inr (Option.some.inj e).symm), h.2.2.2.2.2.grown hg (fun e => by have := h.1; have := Option.some.inj e; omega)⟩
theorem GateW.mono (h : GateW w0 r P G w k a b c) (hP : P ≤ Q) : GateW w0 r Q G w k a b c := ⟨h.1, h.2.1, h.2.2.1, h.2.2.2.1.mono hP, h.2.2.2.2⟩
theorem GateW.store (h : GateW w0 r P G w k a b c) (i : Nat) (u : Value) {k' a' b' c' : Int} (e : (#[Value.int .i64 k, .int .i64 a, .int .i64 b, .int .i64 c] : Array Value).setIfInBounds i u = #[.int .i64 k', .int .i64 a', .int .i64 b', .int .i64 c']) : GateW w0 r P G (w.setCell ⟨G, i, none⟩ u) k' a' b' c' := by
  have h1 := h.1
  have h2 := h.2.1
  have g1 : w.grownBy (w.setCell ⟨G, i, none⟩ u) (some G) := only_setCell (p := ⟨G, i, none⟩) (World.grownBy.refl _ _) (Or.inl rfl) u
  refine ⟨h1, h2, ?_, h.2.2.2.1.onlyO g1 (fun q e => by have := Option.some.inj e; omega), h.2.2.2.2.1.only g1 h.sz (fun q e => .inl (by have := Option.some.inj e; omega)), h.2.2.2.2.2.grown g1 (fun e => by have := Option.some.inj e; omega)⟩
  rw [← e]
  exact h.2.2.1.set_ i u
theorem GateW.cells (h : GateW w0 r P G w k a b c) : w.cell? ⟨G, 0, none⟩ = some (.int .i64 k) ∧ w.cell? ⟨G, 1, none⟩ = some (.int .i64 a) ∧ w.cell? ⟨G, 2, none⟩ = some (.int .i64 b) ∧ w.cell? ⟨G, 3, none⟩ = some (.int .i64 c) :=
  ⟨h.2.2.1.cell 0, h.2.2.1.cell 1, h.2.2.1.cell 2, h.2.2.1.cell 3⟩
theorem GateW.fz (h : GateW w0 r P G w k a b c) : w.frozen? ⟨G, 0, none⟩ = false ∧ w.frozen? ⟨G, 1, none⟩ = false ∧ w.frozen? ⟨G, 2, none⟩ = false ∧ w.frozen? ⟨G, 3, none⟩ = false :=
  ⟨h.2.2.1.frozen 0, h.2.2.1.frozen 1, h.2.2.1.frozen 2, h.2.2.1.frozen 3⟩
theorem GateW.new {wr w2 : World} (h1 : r < w0.heap.size) (hs : w0.heap.size < w2.heap.size) (hr : Rd w2 r P) (hf : From w0.heap.size r w0 w2) (hb : Blk w2 w0.heap.size 40 #[.int .i64 0, .int .i64 0, .int .i64 0, .int .i64 0]) :
    GateW w0 r P w2.heap.size (w2.alloc (.cells #[.int .i64 k, .int .i64 a, .int .i64 b, .int .i64 c] 40)) k a b c :=
  ⟨h1, hs, Blk.new _ _ _, hr.alloc _, hf.alloc (by omega) _, hb.alloc _⟩
end

set_option maxHeartbeats 32000000 in
set_option maxRecDepth 20000 in
theorem l20Gate_rd (l n : Int) (r p : Nat) (w : World) (h : Rd w r p) (hp : p ≤ 999900) (hn : n ≤ 9223372036854775807) (h1 : 1 ≤ l) (h8 : l ≤ 8) :
    Calls Tryd.prog 55 #[.pointer (some ⟨r, 0, none⟩), .int .i64 l, .int .i64 n] w fun e w' => DrawnG w r (p + 20) e w' := by
  obtain ⟨M, hM, hM3, hM8⟩ : ∃ M : Nat, (if l < 3 then (3 : Int) else l) = (M : Int) ∧ 3 ≤ M ∧ M ≤ 8 := by
    by_cases hl : l < 3
    · exact ⟨3, by rw [if_pos hl]; rfl, by omega, by omega⟩
    · exact ⟨l.toNat, by rw [if_neg hl]; omega, by omega, by omega⟩
  obtain ⟨ii, hi, hz0, hz1, hz2⟩ := info_parts info_int
  have hrl := h.lt
  go_enter Tryd.func55, Tryd.ntmps55
  go_wp2_with fail
  go_loopw [7, 8] (fun v i wr => ∃ (k g cap : Nat) (L : List Int), k ≤ M ∧ i = .int .i64 k ∧ v = .slice (some ⟨g, 0, none⟩) k cap ∧ w.heap.size < g ∧ L.length = k ∧ k ≤ cap ∧ cap ≤ maxLen ∧ wr.ownsRow (w.heap.size + 1) 3 1 (.slice (some ⟨g, 0, none⟩) k cap) k (L.map (Value.int .i64)) ∧
      Rd wr r (p + k) ∧ From w.heap.size r w wr ∧ Blk wr w.heap.size 40 #[.int .i64 0, .int .i64 0, .int .i64 0, .int .i64 0]) (fun _ i _ => M - (intOf i).toNat)
  case atStart =>
    have hmd := World.ownsRow_made (base := w.heap.size + 1) (e := 3) (size := 1) (w.alloc (Obj.cells #[.int .i64 0, .int .i64 0, .int .i64 0, .int .i64 0] 40)) #[] 0 (by simp) (by simp [maxLen]) rfl
    exact ⟨0, w.heap.size + 1, 0, [], by omega, rfl, rfl, by omega, rfl, by omega, by simp [maxLen], by simpa using hmd, (h.alloc _).alloc _, ((From.refl _ _ _).alloc (Nat.le_refl _) _).alloc (by simp) _, (Blk.new _ _ _).alloc _⟩
  case round =>
    obtain ⟨k, g, cap, L, hk, rfl, rfl, hgB, hL, hkc, hcm, hown, hrd, hfr, hblk⟩ := hrel
    unfold maxLen at hcm
    have HL := Lib.hid hL
    clear hL
    have hsz := hfr.2.2.2.1
    have hgl := (hown.lt g rfl).2
    by_cases hlt : k < M
    · have hlt' : (k : Int) < (M : Int) := by omega
      go_wp2_with fail
      refine (pick_rd ((k : Int) + 1) r (p + k) wr hrd (by omega) (by omega)).mono ?_
      rintro e w1 ⟨t', rfl, ⟨t0, t1, _⟩, hrd1, hg1⟩
      obtain ⟨t, rfl⟩ := Int.eq_ofNat_of_zero_le t0
      have htk : t ≤ k := by omega
      have hs1 := hg1.size
      have own1 := hown.kept hg1 (.inr (by simp [Value.ownBlock]; omega))
      have hfr1 := hfr.only hg1 hsz (fun q e => by cases e; exact .inr rfl)
      have hblk1 := hblk.grown hg1 (fun e => by cases e; omega)
      have hmd := World.ownsRow_made (base := w.heap.size + 1) (e := 3) (size := 1) w1 #[] 0 (by omega) (by simp [maxLen]) rfl
      have hgl1 : g < w1.heap.size := by omega
      have rd1 := (own_reads (own1.alloc (Obj.cells #[] 3)) rfl).cut htk hkc
      clear hown hrd hfr hblk hg1
      have one1 : ∀ u ∈ (L.map (Value.int .i64)).drop t, u.oneCell' = true := fun u hu => ints_one L u (List.mem_of_mem_drop hu)
      have hLk := HL.out
      by_cases hct : cap = t
      · have hkt : t = k := by omega
        subst hkt
        have hct2 := hct.symm
        subst hct2
        clear hLk hct
        rw [if_pos rfl, Nat.sub_self, Nat.mul_one] at rd1
        go_wp2_with (first
          | (at_builtin; refine wpList_append_any _ rfl (.tmp 23) (.tmp 26) _ rfl (w.heap.size + 1) 3 ii _ 1 8 Tryd.underlying22 hi hz0 hz1 hz2 rfl (by omega) (.slice (some ⟨w1.heap.size, 0, none⟩) 0 0) 0 [] rfl hmd _ _ 0 0 ((L.map (Value.int .i64)).drop t) rfl rd1 one1 (by unfold maxLen; omega) (by omega) (by simp; omega) ?_; intro vA wA ownA grA atA; simp only [Nat.zero_add, List.nil_append] at ownA; obtain ⟨AA, cA, eA, hcA⟩ := own_shape ownA; subst eA; have grA' : (w1.alloc (Obj.cells #[] 3)).grownBy wA (some w1.heap.size) := grA; have ownP := own_take ((own1.alloc (Obj.cells #[] 3)).kept grA (.inr (by simp [Value.ownBlock]; omega))) htk; have sA := grA.size; simp only [World.size_alloc] at sA)
          | (at_builtin; refine wpList_append_any _ rfl (.tmp 30) (.tmp 32) _ rfl (w.heap.size + 1) 3 ii _ 1 8 Tryd.underlying22 hi hz0 hz1 hz2 rfl (by omega) (.slice (some ⟨g, 0, none⟩) t t) t ((L.map (Value.int .i64)).take t) rfl (ownP.alloc _) _ (some ⟨wA.heap.size, 0, none⟩) 1 1 [.int .i64 t] rfl (reads_new1 wA _ _) (by simp [Value.oneCell']) (by unfold maxLen; omega) (by omega) (by simp; omega) ?_; intro vB wB ownB grB atB; have ownA2 := (ownA.alloc (Obj.cells #[.int .i64 t] 3)).kept grB (.inr (fun e => by rcases atA with h | h <;> rw [h] at e <;> (have := Option.some.inj e; simp at this; omega))); have sB := grB.size; simp only [World.size_alloc] at sB)
          | (at_builtin; refine wpList_append_any _ rfl (.tmp 33) (.tmp 34) _ rfl (w.heap.size + 1) 3 ii _ 1 8 Tryd.underlying22 hi hz0 hz1 hz2 rfl (by omega) vB (t + 1) _ rfl ownB _ AA 0 cA ((L.map (Value.int .i64)).drop t) rfl (own_reads ownA2 rfl) one1 (by unfold maxLen; omega) (by omega) (by omega) ?_; intro vC wC ownC grC atC))
        go_roundw
        case rel =>
          obtain ⟨g', cap', L', rfl, q1, q2, q3, q4, q5, q6, q7, q8⟩ := gate_round (x := t) (k := t) (t := t) (L := L) hrd1 hfr1 hblk1 hrl (by omega) hgB hgl1 (by omega) HL.out grA' grB atB (by rw [Nat.sub_self]; simpa using ownC) grC
          exact ⟨t + 1, g', cap', L', by omega, by go_num, rfl, q1, q2, q3, q4, q5, q6.mono (by omega), q7, q8⟩
        case measure => simp [intOf]; omega
      · rw [if_neg hct] at rd1
        simp only [Option.map_some, Nat.mul_one, add_off, Nat.zero_add] at rd1
        have hct' : t < cap := by omega
        clear hLk
        go_wp2_with (first
          | (at_builtin; refine wpList_append_any _ rfl (.tmp 23) (.tmp 26) _ rfl (w.heap.size + 1) 3 ii _ 1 8 Tryd.underlying22 hi hz0 hz1 hz2 rfl (by omega) (.slice (some ⟨w1.heap.size, 0, none⟩) 0 0) 0 [] rfl hmd _ _ (k - t) (cap - t) ((L.map (Value.int .i64)).drop t) rfl rd1 one1 (by unfold maxLen; omega) (by omega) (by simp; omega) ?_; intro vA wA ownA grA atA; simp only [Nat.zero_add, List.nil_append] at ownA; obtain ⟨AA, cA, eA, hcA⟩ := own_shape ownA; subst eA; have grA' : (w1.alloc (Obj.cells #[] 3)).grownBy wA (some w1.heap.size) := grA; have ownP := own_take ((own1.alloc (Obj.cells #[] 3)).kept grA (.inr (by simp [Value.ownBlock]; omega))) htk; have sA := grA.size; simp only [World.size_alloc] at sA)
          | (at_builtin; refine wpList_append_any _ rfl (.tmp 30) (.tmp 32) _ rfl (w.heap.size + 1) 3 ii _ 1 8 Tryd.underlying22 hi hz0 hz1 hz2 rfl (by omega) (.slice (some ⟨g, 0, none⟩) t cap) t ((L.map (Value.int .i64)).take t) rfl (ownP.alloc _) _ (some ⟨wA.heap.size, 0, none⟩) 1 1 [.int .i64 k] rfl (reads_new1 wA _ _) (by simp [Value.oneCell']) (by unfold maxLen; omega) (by omega) (by simp; omega) ?_; intro vB wB ownB grB atB; have ownA2 := (ownA.alloc (Obj.cells #[.int .i64 k] 3)).kept grB (.inr (fun e => by rcases atA with h | h <;> rw [h] at e <;> (have := Option.some.inj e; simp at this; omega))); have sB := grB.size; simp only [World.size_alloc] at sB)
          | (at_builtin; refine wpList_append_any _ rfl (.tmp 33) (.tmp 34) _ rfl (w.heap.size + 1) 3 ii _ 1 8 Tryd.underlying22 hi hz0 hz1 hz2 rfl (by omega) vB (t + 1) _ rfl ownB _ AA (k - t) cA ((L.map (Value.int .i64)).drop t) rfl (own_reads ownA2 rfl) one1 (by unfold maxLen; omega) (by omega) (by omega) ?_; intro vC wC ownC grC atC))
        go_roundw
        case rel =>
          obtain ⟨g', cap', L', rfl, q1, q2, q3, q4, q5, q6, q7, q8⟩ := gate_round (x := k) (k := k) (t := t) (L := L) hrd1 hfr1 hblk1 hrl (by omega) hgB hgl1 (by omega) HL.out grA' grB atB (by simpa using ownC) grC
          exact ⟨k + 1, g', cap', L', by omega, by go_num, rfl, q1, q2, q3, q4, q5, q6.mono (by omega), q7, q8⟩
        case measure => simp [intOf]; omega
    · have hkM : k = M := by omega
      subst hkM
      obtain ⟨a0, a1, a2, tl, hL3⟩ : ∃ a0 a1 a2 tl, L = a0 :: a1 :: a2 :: tl := by
        match L, HL.out with
        | a0 :: a1 :: a2 :: tl, _ => exact ⟨a0, a1, a2, tl, rfl⟩
        | [], h => simp at h; omega
        | [_], h => simp at h; omega
        | [_, _], h => simp at h; omega
      subst hL3
      go_wp2_with fail
      have cells : ∀ (wx : World), wx.ownsRow (w.heap.size + 1) 3 1 (.slice (some ⟨g, 0, none⟩) k cap) k ((a0 :: a1 :: a2 :: tl).map (Value.int .i64)) → wx.cell? ⟨g, 0, none⟩ = some (.int .i64 a0) ∧ wx.cell? ⟨g, 1, none⟩ = some (.int .i64 a1) ∧ wx.cell? ⟨g, 2, none⟩ = some (.int .i64 a2) := by
        intro wx ho
        obtain ⟨ad, e1, _, _, e4⟩ := (own_reads ho rfl).2 (by omega)
        cases e1
        have f0 := e4 0 (.int .i64 a0) rfl
        have f1 := e4 1 (.int .i64 a1) rfl
        have f2 := e4 2 (.int .i64 a2) rfl
        simp only [add_off, Nat.zero_add] at f0 f1 f2
        exact ⟨f0, f1, f2⟩
      obtain ⟨d0, d1, d2⟩ := cells wr hown
      have CE := Lib.hid cells
      clear cells
      have t0 : 0 < k := by omega
      have t1 : 1 < k := by omega
      have t2 : 2 < k := by omega
      have i0 : (0 : Int) < (k : Int) := by omega
      have i1 : (1 : Int) < (k : Int) := by omega
      have i2 : (2 : Int) < (k : Int) := by omega
      go_cut [11] (fun s11 wx => ∃ G, s11 = .pointer (some ⟨G, 0, none⟩) ∧ GateG w r (p + k + 1) G wx)
      case first =>
        have hn1 : ¬ g = wr.heap.size := by omega
        have hn2 : ¬ wr.heap.size = g := by omega
        go_region_held3 (fun w' => w'.cell? ⟨g, 0, none⟩ = some (.int .i64 a0) ∧ w'.cell? ⟨g, 1, none⟩ = some (.int .i64 a1) ∧ w'.cell? ⟨g, 2, none⟩ = some (.int .i64 a2)) (first | exact ⟨d0, d1, d2⟩ | exact ⟨q0, q1, q2⟩ | go_keep)
          (first
          | (go_at_call 45; (with_reducible refine (pick_rd 5 r (p + k) wr.drew hrd.drew (by omega) (by omega)).mono ?_); rintro e w2 ⟨v, rfl, ⟨v0, v1, v2⟩, hr2, hg2⟩; obtain ⟨q0, q1, q2⟩ := CE.out w2 (hown.drew.kept hg2 (.inr (by simp [Value.ownBlock]; omega))); have hgl2 : g < w2.heap.size := Nat.lt_of_lt_of_le hgl hg2.size; have hn3 : ¬ g = w2.heap.size := Nat.ne_of_lt hgl2; have hn4 : ¬ w2.heap.size = g := (Nat.ne_of_lt hgl2).symm)
          | (go_at_call 45; (with_reducible refine (pick_rd 5 r (p + k) (wr.alloc (Obj.cells #[.int .i64 0, .int .i64 0, .int .i64 0, .int .i64 0] 40)).drew (hrd.alloc _).drew (by omega) (by omega)).mono ?_); rintro e w2 ⟨v, rfl, ⟨v0, v1, v2⟩, hr2, hg2⟩; obtain ⟨q0, q1, q2⟩ := CE.out w2 ((hown.alloc _).drew.kept hg2 (.inr (by simp [Value.ownBlock]; omega))); have hb : Blk w2 wr.heap.size 40 #[.int .i64 0, .int .i64 0, .int .i64 0, .int .i64 0] := (Blk.new wr _ _).drew.grown hg2 (fun e => by have := Option.some.inj e; omega); have z0 : w2.cell? ⟨wr.heap.size, 0, none⟩ = some (.int .i64 0) := hb.cell 0; have z1 : w2.cell? ⟨wr.heap.size, 1, none⟩ = some (.int .i64 0) := hb.cell 1; have z2 : w2.cell? ⟨wr.heap.size, 2, none⟩ = some (.int .i64 0) := hb.cell 2; have z3 : w2.cell? ⟨wr.heap.size, 3, none⟩ = some (.int .i64 0) := hb.cell 3; have y0 := hb.frozen 0; have y1 := hb.frozen 1; have y2 := hb.frozen 2; have y3 := hb.frozen 3))
        · go_wp2_with fail
          go_meet
          exact ⟨_, rfl, v, a0, a1, a2, GateW.new (wr := wr) hrl (by have := hg2.size; simp at this; omega) hr2 (hfr.drew.only hg2 (by simp; omega) (fun q e => .inr (Option.some.inj e).symm)) (hblk.drew.grown hg2 (fun e => by have := Option.some.inj e; omega))⟩
        · go_wp2_with fail
          go_meet
          refine ⟨_, rfl, v, a0, a1, a2, GateW.store (k := v) (a := a0) (b := a1) (c := 0) (GateW.store (k := v) (a := a0) (b := 0) (c := 0) (GateW.store (k := v) (a := 0) (b := 0) (c := 0) (GateW.store (k := 0) (a := 0) (b := 0) (c := 0) ?_ 0 (.int .i64 v) rfl) 1 (.int .i64 a0) rfl) 2 (.int .i64 a1) rfl) 3 (.int .i64 a2) rfl⟩
          exact ⟨hrl, by omega, hb, hr2, (hfr.alloc (by omega) _).drew.only hg2 (by simp; omega) (fun q e => .inr (Option.some.inj e).symm), (hblk.alloc _).drew.grown hg2 (fun e => by have := Option.some.inj e; omega)⟩
      case rest =>
        obtain ⟨G, rfl, HG⟩ := hcut
        clear CE d0 d1 d2 hown hrd hfr hblk i0 i1 i2 t0 t1 t2 hgB hkc hcm hgl
        have h4 : p + k ≤ 999910 := by omega
        obtain ⟨P, hP⟩ : ∃ P, P = p + k := ⟨_, rfl⟩
        rw [← hP] at HG h4
        have HPk := Lib.hid hP
        clear hP
        go_upto_if 49 with fail
        go_cut [11] (fun s11 wx => s11 = .pointer (some ⟨G, 0, none⟩) ∧ GateG w r (P + 1) G wx)
        case first =>
          obtain ⟨ka, aa, ba, ca, HW⟩ := HG
          obtain ⟨e0, e1, e2, e3⟩ := HW.cells
          obtain ⟨f0, f1, f2, f3⟩ := HW.fz
          by_cases hl1 : l = 1
          · have hl1' : (l == 1) = true := by simp [hl1]
            clear hl1
            go_wp2_with fail
            go_meet
            exact ⟨rfl, 0, 0, 0, 0, GateW.store (k := 0) (a := 0) (b := 0) (c := ca) (GateW.store (k := 0) (a := 0) (b := ba) (c := ca) (GateW.store (k := 0) (a := aa) (b := ba) (c := ca) (GateW.store (k := ka) (a := aa) (b := ba) (c := ca) HW 0 (.int .i64 0) rfl) 1 (.int .i64 0) rfl) 2 (.int .i64 0) rfl) 3 (.int .i64 0) rfl⟩
          · have hl1' : (l == 1) = false := by simp [hl1]
            clear hl1
            go_wp2_with fail
            go_meet
            exact ⟨rfl, ka, aa, ba, ca, HW⟩
        case rest =>
          obtain ⟨rfl, HG⟩ := hcut
          go_upto_if 52 with fail
          go_cut [11] (fun s11 wx => s11 = .pointer (some ⟨G, 0, none⟩) ∧ GateG w r (P + 3) G wx)
          case first =>
            obtain ⟨ka, aa, ba, ca, HW⟩ := HG
            by_cases hl2 : l = 2
            · have hl2' : (l == 2) = true := by simp [hl2]
              clear hl2
              have hrd2 := HW.2.2.2.1
              have hrw := hrd2.lt
              have C3a := Lib.hid (pick_rd 3 r (P + 1) wc.drew hrd2.drew (by omega) (by omega))
              have C3b := Lib.hid (pick_rd 3 r (P + 1) (wc.alloc (.cells #[.int .i64 0, .int .i64 1, .int .i64 3] 3)).drew (hrd2.alloc _).drew (by omega) (by omega))
              have hszc := HW.sz
              obtain ⟨e0, e1, e2, e3⟩ := HW.cells
              obtain ⟨f0, f1, f2, f3⟩ := HW.fz
              go_wp2_with fail
              go_region_with (go_at_call 45; (first
                | ((with_reducible refine C3a.out.mono ?_); rintro e w2 ⟨v, rfl, ⟨v0, v1, v2⟩, hr2, hg2⟩; obtain ⟨x, hx, hy⟩ := tri_cell v v0 (by omega); have HW2 := HW.drew.pick hg2 hr2; have hcA : (w2.alloc (.cells #[.int .i64 0, .int .i64 1, .int .i64 3] 3)).cell? ⟨w2.heap.size, v.toNat, none⟩ = some (.int .i64 x) := ((Blk.new w2 _ _).cell _).trans hy; have v3 : v < 3 := (by omega); have HY := Lib.hid hy; have C2a := Lib.hid (pick_rd 2 r (P + 1 + 1) w2 hr2 (by omega) (by omega)); have C2b := Lib.hid (pick_rd 2 r (P + 1 + 1) (w2.alloc (.cells #[.int .i64 0, .int .i64 1, .int .i64 3] 3)) (hr2.alloc _) (by omega) (by omega)); obtain ⟨e0, e1, e2, e3⟩ := HW2.cells; obtain ⟨f0, f1, f2, f3⟩ := HW2.fz; clear C3a C3b hy)
                | ((with_reducible refine C3b.out.mono ?_); rintro e w2 ⟨v, rfl, ⟨v0, v1, v2⟩, hr2, hg2⟩; obtain ⟨x, hx, hy⟩ := tri_cell v v0 (by omega); have HW2 := (HW.alloc (.cells #[.int .i64 0, .int .i64 1, .int .i64 3] 3)).drew.pick hg2 hr2; have hbB : Blk w2 wc.heap.size 3 #[.int .i64 0, .int .i64 1, .int .i64 3] := (Blk.new wc _ _).drew.grown hg2 (fun e => by have := Option.some.inj e; omega); have hcB := (hbB.cell v.toNat).trans hy; have v3 : v < 3 := (by omega); have C2a := Lib.hid (pick_rd 2 r (P + 1 + 1) w2 hr2 (by omega) (by omega)); obtain ⟨e0, e1, e2, e3⟩ := HW2.cells; obtain ⟨f0, f1, f2, f3⟩ := HW2.fz; have HBB := Lib.hid hbB; have HY := Lib.hid hy; clear C3a C3b hy hbB)
                | ((with_reducible refine C2a.out.mono ?_); rintro e w3 ⟨u, rfl, ⟨u0, u1, u2⟩, hr3, hg3⟩; have HW3 := HW2.pick hg3 hr3; (try have hcB3 := ((HBB.out.grown hg3 (fun e => by have := Option.some.inj e; omega)).cell v.toNat).trans HY.out); (try have hcA3 : (w3.alloc (.cells #[.int .i64 0, .int .i64 1, .int .i64 3] 3)).cell? ⟨w3.heap.size, v.toNat, none⟩ = some (.int .i64 x) := ((Blk.new w3 _ _).cell _).trans HY.out); have HW3a := HW3.alloc (.cells #[.int .i64 0, .int .i64 1, .int .i64 3] 3); obtain ⟨e0, e1, e2, e3⟩ := HW3.cells; obtain ⟨f0, f1, f2, f3⟩ := HW3.fz; obtain ⟨g0, g1, g2, g3⟩ := HW3a.cells; obtain ⟨i0, i1, i2, i3⟩ := HW3a.fz; clear C2a)
                | ((with_reducible refine C2b.out.mono ?_); rintro e w3 ⟨u, rfl, ⟨u0, u1, u2⟩, hr3, hg3⟩; have HW3 := (HW2.alloc (.cells #[.int .i64 0, .int .i64 1, .int .i64 3] 3)).pick hg3 hr3; have hcA3 := (((Blk.new w2 3 #[.int .i64 0, .int .i64 1, .int .i64 3]).grown hg3 (fun e => by have := Option.some.inj e; have := hr2.lt; omega)).cell v.toNat).trans HY.out; obtain ⟨e0, e1, e2, e3⟩ := HW3.cells; obtain ⟨f0, f1, f2, f3⟩ := HW3.fz; clear C2a C2b)))
              all_goals
                have u3 : u < 2 := by omega
                clear hx v0 v1 v2 u1
                go_wp2_with fail
                go_meet
                have HE := ((GateW.store (k := x) (a := u) (b := 0) (c := 0) (GateW.store (k := x) (a := u) (b := 0) (c := ca) (GateW.store (k := x) (a := u) (b := ba) (c := ca) (GateW.store (k := x) (a := aa) (b := ba) (c := ca) (GateW.store (k := ka) (a := aa) (b := ba) (c := ca) HW3 0 (.int .i64 x) rfl) 1 (.int .i64 u) rfl) 2 (.int .i64 0) rfl) 3 (.int .i64 0) rfl) 2 (.int .i64 (1 - u)) rfl)).mono (Q := P + 3) (by omega)
                (try have HEa := ((GateW.store (k := x) (a := u) (b := 0) (c := 0) (GateW.store (k := x) (a := u) (b := 0) (c := ca) (GateW.store (k := x) (a := u) (b := ba) (c := ca) (GateW.store (k := x) (a := aa) (b := ba) (c := ca) (GateW.store (k := ka) (a := aa) (b := ba) (c := ca) HW3a 0 (.int .i64 x) rfl) 1 (.int .i64 u) rfl) 2 (.int .i64 0) rfl) 3 (.int .i64 0) rfl) 2 (.int .i64 (1 - u)) rfl)).mono (Q := P + 3) (by omega))
                first
                  | (with_reducible exact ⟨rfl, GateG.mk HE⟩)
                  | (with_reducible exact ⟨rfl, GateG.mk HEa⟩)
            · have hl2' : (l == 2) = false := by simp [hl2]
              clear hl2
              go_wp2_with fail
              go_meet
              exact ⟨rfl, ka, aa, ba, ca, HW.mono (by omega)⟩
          case rest =>
            obtain ⟨rfl, HG⟩ := hcut
            obtain ⟨ka, aa, ba, ca, HW⟩ := HG
            obtain ⟨e0, e1, e2, e3⟩ := HW.cells
            obtain ⟨f0, f1, f2, f3⟩ := HW.fz
            go_upto_if 67 with fail
            go_cut [11] (fun s11 wx => s11 = .pointer (some ⟨G, 0, none⟩) ∧ GateG w r (P + 3) G wx)
            case first =>
              by_cases hk : ka = 0
              · have hk' : (ka == 0) = true := by simp [hk]
                clear hk
                go_wp2_with fail
                go_meet
                exact ⟨rfl, ka, aa, 0, ca, GateW.store HW 2 (.int .i64 0) rfl⟩
              · have hk' : (ka == 0) = false := by simp [hk]
                clear hk
                go_wp2_with fail
                go_meet
                exact ⟨rfl, ka, aa, ba, ca, HW⟩
            case rest =>
              clear HW e0 e1 e2 e3 f0 f1 f2 f3
              obtain ⟨rfl, HG⟩ := hcut
              obtain ⟨ka, aa, ba, ca, HW⟩ := HG
              obtain ⟨e0, e1, e2, e3⟩ := HW.cells
              obtain ⟨f0, f1, f2, f3⟩ := HW.fz
              go_upto_region 16 with fail
              go_cut [81] (fun s81 wx => (∃ b : Bool, s81 = .bool b) ∧ GateG w r (P + 3) G wx)
              case first =>
                cases h0 : (ka == 0)
                · cases h1 : (ka == 1)
                  all_goals
                    go_wp2_with fail
                    go_meet
                    exact ⟨⟨_, rfl⟩, ka, aa, ba, ca, HW⟩
                · go_wp2_with fail
                  go_meet
                  exact ⟨⟨_, rfl⟩, ka, aa, ba, ca, HW⟩
              case rest =>
                clear HW e0 e1 e2 e3 f0 f1 f2 f3
                obtain ⟨⟨b, rfl⟩, HG⟩ := hcut
                obtain ⟨ka, aa, ba, ca, HW⟩ := HG
                obtain ⟨e0, e1, e2, e3⟩ := HW.cells
                obtain ⟨f0, f1, f2, f3⟩ := HW.fz
                go_upto_if 81 with fail
                go_cut [11] (fun s11 wx => s11 = .pointer (some ⟨G, 0, none⟩) ∧ GateG w r (P + 3) G wx)
                case first =>
                  cases b
                  · go_wp2_with fail
                    go_meet
                    exact ⟨rfl, ka, aa, ba, ca, HW⟩
                  · go_wp2_with fail
                    go_meet
                    exact ⟨rfl, ka, aa, ba, 0, GateW.store HW 3 (.int .i64 0) rfl⟩
                case rest =>
                  clear HW e0 e1 e2 e3 f0 f1 f2 f3
                  obtain ⟨rfl, HG⟩ := hcut
                  obtain ⟨ka, aa, ba, ca, HW⟩ := HG
                  have HO := Lib.hid (odd_rd n r (P + 3) wc HW.2.2.2.1 (by omega) hn)
                  go_wp2_with fail
                  refine HO.out.mono ?_
                  rintro e w5 ⟨b, rfl, hr5, hg5⟩
                  have HW5 := HW.pick hg5 hr5
                  clear HW HO
                  go_upto_if 85 with fail
                  go_cut [11] (fun s11 wx => s11 = .pointer (some ⟨G, 0, none⟩) ∧ GateG w r (P + 6) G wx)
                  case first =>
                    cases b
                    · go_wp2_with fail
                      go_meet
                      exact ⟨rfl, ka, aa, ba, ca, HW5.mono (by omega)⟩
                    · have C4 := Lib.hid (pick_rd 4 r (P + 3 + 1) w5 hr5 (by omega) (by omega))
                      go_wp2_with fail
                      refine C4.out.mono ?_
                      rintro e w6 ⟨z, rfl, ⟨z0, z1, z2⟩, hr6, hg6⟩
                      have HW6 := HW5.pick hg6 hr6
                      obtain ⟨e0, e1, e2, e3⟩ := HW6.cells
                      obtain ⟨f0, f1, f2, f3⟩ := HW6.fz
                      have hz4 : z = 0 ∨ z = 1 ∨ z = 2 ∨ z = 3 := by omega
                      clear z0 z1 z2 C4 HW5
                      rcases hz4 with rfl | rfl | rfl | rfl
                      · have C5 := Lib.hid (pick_rd 2 r (P + 3 + 1 + 1) (w6.alloc (.cells #[.int .i64 (-1), .int .i64 5] 3)) (hr6.alloc _) (by omega) (by omega))
                        have hs6 := HW6.sz
                        have hrw6 := hr6.lt
                        have HW6a := HW6.alloc (.cells #[.int .i64 (-1), .int .i64 5] 3)
                        clear e0 e1 e2 e3 f0 f1 f2 f3 HW6
                        go_wp2_with fail
                        refine C5.out.mono ?_
                        rintro e w7 ⟨v, rfl, ⟨v0, v1, v2⟩, hr7, hg7⟩
                        have HW7 := HW6a.pick hg7 hr7
                        obtain ⟨x, hx, hy⟩ := pair_cell (-1) 5 v v0 (by omega)
                        have hbx : Blk w7 w6.heap.size 3 #[.int .i64 (-1), .int .i64 5] := (Blk.new w6 _ _).grown hg7 (fun e => by have := Option.some.inj e; omega)
                        have hcx := (hbx.cell v.toNat).trans hy
                        have v3 : v < 2 := by omega
                        obtain ⟨e0, e1, e2, e3⟩ := HW7.cells
                        obtain ⟨f0, f1, f2, f3⟩ := HW7.fz
                        clear C5 hy v1 v2
                        go_wp2_with fail
                        go_meet
                        exact ⟨rfl, x, aa, ba, ca, (GateW.store HW7 0 (.int .i64 x) rfl).mono (by omega)⟩
                      · go_wp2_with fail
                        go_meet
                        exact ⟨rfl, ka, l, ba, ca, (GateW.store HW6 1 (.int .i64 l) rfl).mono (by omega)⟩
                      · go_wp2_with fail
                        go_meet
                        exact ⟨rfl, ka, aa, aa, ca, (GateW.store HW6 2 (.int .i64 aa) rfl).mono (by omega)⟩
                      · go_wp2_with fail
                        go_meet
                        exact ⟨rfl, ka, aa, ba, -1, (GateW.store HW6 3 (.int .i64 (-1)) rfl).mono (by omega)⟩
                  case rest =>
                    clear HW5
                    obtain ⟨rfl, HG⟩ := hcut
                    obtain ⟨ka, aa, ba, ca, HW⟩ := HG
                    obtain ⟨e0, e1, e2, e3⟩ := HW.cells
                    have hb0 := HW.2.2.2.2.2
                    have x0 : wc.cell? ⟨w.heap.size, 0, none⟩ = some (.int .i64 0) := hb0.cell 0
                    have x1 : wc.cell? ⟨w.heap.size, 1, none⟩ = some (.int .i64 0) := hb0.cell 1
                    have x2 : wc.cell? ⟨w.heap.size, 2, none⟩ = some (.int .i64 0) := hb0.cell 2
                    have x3 : wc.cell? ⟨w.heap.size, 3, none⟩ = some (.int .i64 0) := hb0.cell 3
                    have y0 := hb0.frozen 0
                    have y1 := hb0.frozen 1
                    have y2 := hb0.frozen 2
                    have y3 := hb0.frozen 3
                    go_wp2_with fail
                    have g1 : wc.grownBy ((((wc.setCell ⟨w.heap.size, 0, none⟩ (.int .i64 ka)).setCell ⟨w.heap.size, 1, none⟩ (.int .i64 aa)).setCell ⟨w.heap.size, 2, none⟩ (.int .i64 ba)).setCell ⟨w.heap.size, 3, none⟩ (.int .i64 ca)) (some w.heap.size) :=
                      only_setCell (p := ⟨w.heap.size, 3, none⟩) (only_setCell (p := ⟨w.heap.size, 2, none⟩) (only_setCell (p := ⟨w.heap.size, 1, none⟩) (only_setCell (p := ⟨w.heap.size, 0, none⟩) (World.grownBy.refl _ _) (Or.inl rfl) _) (Or.inl rfl) _) (Or.inl rfl) _) (Or.inl rfl) _
                    have hB4 : Blk ((((wc.setCell ⟨w.heap.size, 0, none⟩ (.int .i64 ka)).setCell ⟨w.heap.size, 1, none⟩ (.int .i64 aa)).setCell ⟨w.heap.size, 2, none⟩ (.int .i64 ba)).setCell ⟨w.heap.size, 3, none⟩ (.int .i64 ca)) w.heap.size 40 #[.int .i64 ka, .int .i64 aa, .int .i64 ba, .int .i64 ca] :=
                      (((hb0.set_ 0 (.int .i64 ka)).set_ 1 (.int .i64 aa)).set_ 2 (.int .i64 ba)).set_ 3 (.int .i64 ca)
                    have hPk := HPk.out
                    have hr9 := (HW.2.2.2.1.onlyO g1 (fun q e => by have := Option.some.inj e; omega)).mono (q := p + 20) (by omega)
                    have hf9 := (HW.2.2.2.2.1.only g1 HW.sz (fun q e => .inl (by have := Option.some.inj e; omega))).grown
                    exact bodyPost_ret (v := .agg #[.int .i64 ka, .int .i64 aa, .int .i64 ba, .int .i64 ca]) (results_cell_ok Tryd.results55 rfl (load_blk hB4 Tryd.underlying40 rfl (gate_size rfl))) rfl ⟨⟨ka, aa, ba, ca⟩, rfl, hr9, hf9⟩
end Go.Proofs.YtffkoeobehocjaaDoor
