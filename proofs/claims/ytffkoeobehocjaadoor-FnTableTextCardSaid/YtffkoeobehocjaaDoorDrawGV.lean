/- Contract of l20Gate where one in none is not valid: a valid gate is drawn. -/
import Derived.Test.YtffkoeobehocjaaDoorDrawG
import Derived.Test.YtffkoeobehocjaaDoorCirc
namespace Go.Proofs.YtffkoeobehocjaaDoor
open Go.RowKit
set_option linter.unusedVariables false
set_option linter.unusedSimpArgs false

theorem odd0_rd (r p : Nat) (w : World) (h : Rd w r p) :
    Calls Tryd.prog 64 #[.pointer (some ⟨r, 0, none⟩), .int .i64 0] w fun e w' => e = .returned (.bool false) ∧ w = w' := by
  go_enter Tryd.func64, Tryd.ntmps64
  go_wp2_with fail
  go_ret
  exact ⟨rfl, rfl⟩
/-- an order of the numbers below its length -/
def OrdL (L : List Int) : Prop := L.Nodup ∧ ∀ x ∈ L, 0 ≤ x ∧ x < L.length
theorem OrdL.ins {L : List Int} (h : OrdL L) (t : Nat) : OrdL (L.take t ++ [(L.length : Int)] ++ L.drop t) := by
  have hp : (L.take t ++ [(L.length : Int)] ++ L.drop t).Perm ((L.length : Int) :: L) := by
    have := List.perm_middle (a := (L.length : Int)) (l₁ := L.take t) (l₂ := L.drop t)
    rw [List.take_append_drop] at this
    simpa using this
  have hl : (L.take t ++ [(L.length : Int)] ++ L.drop t).length = L.length + 1 := by rw [hp.length_eq]; rfl
  refine ⟨hp.nodup_iff.2 (List.nodup_cons.2 ⟨fun hm => by have := (h.2 _ hm).2; omega, h.1⟩), fun x hx => ?_⟩
  rw [hl]
  rcases List.mem_cons.1 (hp.mem_iff.1 hx) with rfl | hx
  · omega
  · have := h.2 x hx; omega
def VA (l k a b c : Int) : Prop := (l = 1 → k = 0 ∧ a = 0 ∧ b = 0 ∧ c = 0) ∧ (¬ l < 3 → (0 ≤ k ∧ k < 5) ∧ (0 ≤ a ∧ a < l) ∧ (0 ≤ b ∧ b < l) ∧ (0 ≤ c ∧ c < l) ∧ ¬ a = b ∧ ¬ a = c ∧ ¬ b = c)
def VZ (l k a b c : Int) : Prop := ¬ l < 3 → (0 ≤ k ∧ k < 5) ∧ (0 ≤ a ∧ a < l) ∧ (0 ≤ b ∧ b < l) ∧ (0 ≤ c ∧ c < l) ∧ ¬ a = b ∧ ¬ a = c ∧ ¬ b = c
def VB (l k a b c : Int) : Prop := VA l k a b c ∧ (l = 2 → (k = 0 ∨ k = 1 ∨ k = 3) ∧ (a = 0 ∨ a = 1) ∧ b = 1 - a ∧ c = 0)
def VC (l k a b c : Int) : Prop := (l = 1 → k = 0 ∧ a = 0 ∧ b = 0 ∧ c = 0) ∧ (l = 2 → (k = 0 ∨ k = 1 ∨ k = 3) ∧ (a = 0 ∨ a = 1) ∧ c = 0 ∧ (k = 0 → b = 0) ∧ (¬ k = 0 → b = 1 - a)) ∧
  (¬ l < 3 → (0 ≤ k ∧ k < 5) ∧ (0 ≤ a ∧ a < l) ∧ (0 ≤ b ∧ b < l) ∧ (0 ≤ c ∧ c < l) ∧ ¬ a = c ∧ (k = 0 → b = 0) ∧ (¬ k = 0 → ¬ a = b ∧ ¬ b = c))
def VD (l k a b c : Int) : Prop := gateB l ⟨k, a, b, c⟩ = true
theorem VB.zero {l k a b c : Int} (h : VB l k a b c) (hk : k = 0) : VC l k a 0 c := by
  unfold VB VA at h
  unfold VC
  obtain ⟨⟨h1, h2⟩, h3⟩ := h
  exact ⟨fun e => ⟨hk, (h1 e).2.1, rfl, (h1 e).2.2.2⟩, fun e => ⟨(h3 e).1, (h3 e).2.1, (h3 e).2.2.2, fun _ => rfl, fun e2 => absurd hk e2⟩, fun e => ⟨(h2 e).1, (h2 e).2.1, by omega, (h2 e).2.2.2.1, (h2 e).2.2.2.2.2.1, fun _ => rfl, fun e2 => absurd hk e2⟩⟩
theorem VB.nz {l k a b c : Int} (h : VB l k a b c) (hk : ¬ k = 0) : VC l k a b c := by
  unfold VB VA at h
  unfold VC
  obtain ⟨⟨h1, h2⟩, h3⟩ := h
  exact ⟨h1, fun e => ⟨(h3 e).1, (h3 e).2.1, (h3 e).2.2.2, fun e2 => absurd e2 hk, fun _ => (h3 e).2.2.1⟩, fun e => ⟨(h2 e).1, (h2 e).2.1, (h2 e).2.2.1, (h2 e).2.2.2.1, (h2 e).2.2.2.2.2.1, fun e2 => absurd e2 hk, fun _ => ⟨(h2 e).2.2.2.2.1, (h2 e).2.2.2.2.2.2⟩⟩⟩
theorem VC.flag {l k a b c : Int} (h : VC l k a b c) (h1 : 1 ≤ l) (h8 : l ≤ 8) (f : (k == 0 || k == 1 || k == 3) = true) : VD l k a b 0 := by
  unfold VC at h
  unfold VD
  obtain ⟨p1, p2, p3⟩ := h
  simp at f
  have hl : l = 1 ∨ l = 2 ∨ ¬ l < 3 := by omega
  have hk : k = 0 ∨ k = 1 ∨ k = 3 := by omega
  rcases hk with rfl | rfl | rfl
  all_goals
    simp [gateB, linesOf, okP, restZ, hasB, inB]
    rcases hl with e | e | e
    · have := p1 e; omega
    · have := p2 e; omega
    · have := p3 e; omega
theorem VC.no {l k a b c : Int} (h : VC l k a b c) (h1 : 1 ≤ l) (h8 : l ≤ 8) (f : (k == 0 || k == 1 || k == 3) = false) : VD l k a b c := by
  unfold VC at h
  unfold VD
  obtain ⟨p1, p2, p3⟩ := h
  simp at f
  have hl : ¬ l < 3 := by
    intro hl
    have h12 : l = 1 ∨ l = 2 := by omega
    rcases h12 with e | e
    · have := p1 e; omega
    · have := p2 e; omega
  have q := p3 hl
  have hk : k = 2 ∨ k = 4 := by omega
  rcases hk with rfl | rfl
  all_goals
    simp [gateB, linesOf, okP, restZ, hasB, inB]
    omega
def GateH (V : Int → Int → Int → Int → Prop) (w0 : World) (r P G : Nat) (w : World) : Prop := ∃ k a b c : Int, GateW w0 r P G w k a b c ∧ V k a b c
theorem GateH.mk {V : Int → Int → Int → Int → Prop} {w0 w : World} {r P G : Nat} {k a b c : Int} (h : GateW w0 r P G w k a b c) (hv : V k a b c) : GateH V w0 r P G w := ⟨k, a, b, c, h, hv⟩
theorem tri_cell' (v : Int) (h0 : 0 ≤ v) (h1 : v < 3) : ∃ x : Int, (x = 0 ∨ x = 1 ∨ x = 3) ∧ (#[.int .i64 0, .int .i64 1, .int .i64 3] : Array Value)[v.toNat]? = some (.int .i64 x) := by
  have : v = 0 ∨ v = 1 ∨ v = 2 := by omega
  rcases this with rfl | rfl | rfl
  · exact ⟨0, by omega, rfl⟩
  · exact ⟨1, by omega, rfl⟩
  · exact ⟨3, by omega, rfl⟩

/-- what a round of the shuffle leaves -/
theorem gate_roundV {w w1 wA wB wC : World} {r p k t g : Nat} {L : List Int} {vB vC : Value} {o : Obj} {x : Int}
    (hrd : Rd w1 r p) (hfr : From w.heap.size r w w1) (hblk : Blk w1 w.heap.size 40 #[.int .i64 0, .int .i64 0, .int .i64 0, .int .i64 0]) (hr : r < w.heap.size) (hs1 : w.heap.size < w1.heap.size) (hg : w.heap.size < g) (hg1 : g < w1.heap.size) (htk : t ≤ k) (hL : L.length = k)
    (grA : (w1.alloc o).grownBy wA (some w1.heap.size))
    (grB : (wA.alloc (.cells #[.int .i64 x] 3)).grownBy wB (some g)) (atB : vB.ownBlock = some g ∨ vB.ownBlock = some (wA.alloc (.cells #[.int .i64 x] 3)).heap.size)
    (ownC : wC.ownsRow (w.heap.size + 1) 3 1 vC (t + 1 + (k - t)) ((L.map (Value.int .i64)).take t ++ [.int .i64 x] ++ (L.map (Value.int .i64)).drop t)) (grC : wB.grownBy wC vB.ownBlock) :
    ∃ (g' cap' : Nat) (L' : List Int), vC = .slice (some ⟨g', 0, none⟩) (k + 1) cap' ∧ w.heap.size < g' ∧ (L' = L.take t ++ [x] ++ L.drop t ∧ L'.length = k + 1) ∧ k + 1 ≤ cap' ∧ cap' ≤ maxLen ∧ wC.ownsRow (w.heap.size + 1) 3 1 (.slice (some ⟨g', 0, none⟩) (k + 1) cap') (k + 1) (L'.map (Value.int .i64)) ∧
      Rd wC r p ∧ From w.heap.size r w wC ∧ Blk wC w.heap.size 40 #[.int .i64 0, .int .i64 0, .int .i64 0, .int .i64 0] := by
  have e1 : t + 1 + (k - t) = k + 1 := by omega
  rw [e1] at ownC
  obtain ⟨g', cap', rfl, h1, h2, h3, h4⟩ := own_pos ownC (by omega)
  have sA := grA.size
  have sB := grB.size
  simp at sA sB
  have rowB : ∀ q, vB.ownBlock = some q → w.heap.size < q := fun q e => by
    rcases atB with h | h <;> rw [h] at e <;> cases e
    · exact hg
    · simp; omega
  refine ⟨g', cap', L.take t ++ [x] ++ L.drop t, rfl, by omega, ⟨rfl, by simp [List.length_take, List.length_drop]; omega⟩, h3, h4, by simpa using ownC, ?_, ?_, ?_⟩
  · refine ((((hrd.alloc o).onlyO grA (fun q e => by cases e; omega)).alloc _).onlyO grB (fun q e => by cases e; omega)).onlyO grC (fun q e => by have := rowB q e; omega)
  · refine ((((hfr.alloc (by omega) o).only grA (by simp; omega) (fun q e => by cases e; exact .inl (by omega))).alloc (by omega) _).only grB (by simp; omega) (fun q e => by cases e; exact .inl (by omega))).only grC (by omega) (fun q e => .inl (by have := rowB q e; omega))
  · refine ((((hblk.alloc o).grown grA (fun e => by have := Option.some.inj e; omega)).alloc _).grown grB (fun e => by have := Option.some.inj e; omega)).grown grC (fun e => by have := rowB _ e.symm; omega)

set_option maxHeartbeats 32000000 in
set_option maxRecDepth 20000 in
theorem l20GateV_rd (l : Int) (r p : Nat) (w : World) (h : Rd w r p) (hp : p ≤ 999900) (h1 : 1 ≤ l) (h8 : l ≤ 8) :
    Calls Tryd.prog 55 #[.pointer (some ⟨r, 0, none⟩), .int .i64 l, .int .i64 0] w fun e w' => ∃ g : Gt, e = .returned g.val ∧ gateB l g = true ∧ Rd w' r (p + 20) ∧ w.grownBy w' (some r) := by
  obtain ⟨M, hM, hM3, hM8, hMl⟩ : ∃ M : Nat, (if l < 3 then (3 : Int) else l) = (M : Int) ∧ 3 ≤ M ∧ M ≤ 8 ∧ Hid (¬ l < 3 → (M : Int) = l) := by
    by_cases hl : l < 3
    · exact ⟨3, by rw [if_pos hl]; rfl, by omega, by omega, Lib.hid (fun h => absurd hl h)⟩
    · exact ⟨l.toNat, by rw [if_neg hl]; omega, by omega, by omega, Lib.hid (fun _ => by omega)⟩
  obtain ⟨ii, hi, hz0, hz1, hz2⟩ := info_parts info_int
  have hrl := h.lt
  go_enter Tryd.func55, Tryd.ntmps55
  go_wp2_with fail
  go_loopw [7, 8] (fun v i wr => ∃ (k g cap : Nat) (L : List Int), k ≤ M ∧ i = .int .i64 k ∧ v = .slice (some ⟨g, 0, none⟩) k cap ∧ w.heap.size < g ∧ (L.length = k ∧ OrdL L) ∧ k ≤ cap ∧ cap ≤ maxLen ∧ wr.ownsRow (w.heap.size + 1) 3 1 (.slice (some ⟨g, 0, none⟩) k cap) k (L.map (Value.int .i64)) ∧
      Rd wr r (p + k) ∧ From w.heap.size r w wr ∧ Blk wr w.heap.size 40 #[.int .i64 0, .int .i64 0, .int .i64 0, .int .i64 0]) (fun _ i _ => M - (intOf i).toNat)
  case atStart =>
    have hmd := World.ownsRow_made (base := w.heap.size + 1) (e := 3) (size := 1) (w.alloc (Obj.cells #[.int .i64 0, .int .i64 0, .int .i64 0, .int .i64 0] 40)) #[] 0 (by simp) (by simp [maxLen]) rfl
    exact ⟨0, w.heap.size + 1, 0, [], by omega, rfl, rfl, by omega, ⟨rfl, List.nodup_nil, fun x hx => by cases hx⟩, by omega, by simp [maxLen], by simpa using hmd, (h.alloc _).alloc _, ((From.refl _ _ _).alloc (Nat.le_refl _) _).alloc (by simp) _, (Blk.new _ _ _).alloc _⟩
  case round =>
    obtain ⟨k, g, cap, L, hk, rfl, rfl, hgB, ⟨hL, hOrd⟩, hkc, hcm, hown, hrd, hfr, hblk⟩ := hrel
    have HOrd := Lib.hid hOrd
    clear hOrd
    unfold maxLen at hcm
    have HL := Lib.hid hL
    clear hL
    have hsz := hfr.2.2.2.1
    have hgl := (hown.lt g rfl).2
    by_cases hlt : k < M
    · have hlt' : (k : Int) < (M : Int) := by omega
      go_wp2_with fail
      refine (pick_rd ((k : Int) + 1) r (p + k) wr hrd (by omega) (by omega)).mono ?_
      rintro e w1 ⟨t', rfl, ⟨t0, t1, _⟩, hrd1, hg1⟩
      obtain ⟨t, rfl⟩ := Int.eq_ofNat_of_zero_le t0
      have htk : t ≤ k := by omega
      have hs1 := hg1.size
      have own1 := hown.kept hg1 (.inr (by simp [Value.ownBlock]; omega))
      have hfr1 := hfr.only hg1 hsz (fun q e => by cases e; exact .inr rfl)
      have hblk1 := hblk.grown hg1 (fun e => by cases e; omega)
      have hmd := World.ownsRow_made (base := w.heap.size + 1) (e := 3) (size := 1) w1 #[] 0 (by omega) (by simp [maxLen]) rfl
      have hgl1 : g < w1.heap.size := by omega
      have rd1 := (own_reads (own1.alloc (Obj.cells #[] 3)) rfl).cut htk hkc
      clear hown hrd hfr hblk hg1
      have one1 : ∀ u ∈ (L.map (Value.int .i64)).drop t, u.oneCell' = true := fun u hu => ints_one L u (List.mem_of_mem_drop hu)
      have hLk := HL.out
      by_cases hct : cap = t
      · have hkt : t = k := by omega
        subst hkt
        have hct2 := hct.symm
        subst hct2
        clear hLk hct
        rw [if_pos rfl, Nat.sub_self, Nat.mul_one] at rd1
        go_wp2_with (first
          | (at_builtin; refine wpList_append_any _ rfl (.tmp 23) (.tmp 26) _ rfl (w.heap.size + 1) 3 ii _ 1 8 Tryd.underlying22 hi hz0 hz1 hz2 rfl (by omega) (.slice (some ⟨w1.heap.size, 0, none⟩) 0 0) 0 [] rfl hmd _ _ 0 0 ((L.map (Value.int .i64)).drop t) rfl rd1 one1 (by unfold maxLen; omega) (by omega) (by simp; omega) ?_; intro vA wA ownA grA atA; simp only [Nat.zero_add, List.nil_append] at ownA; obtain ⟨AA, cA, eA, hcA⟩ := own_shape ownA; subst eA; have grA' : (w1.alloc (Obj.cells #[] 3)).grownBy wA (some w1.heap.size) := grA; have ownP := own_take ((own1.alloc (Obj.cells #[] 3)).kept grA (.inr (by simp [Value.ownBlock]; omega))) htk; have sA := grA.size; simp only [World.size_alloc] at sA)
          | (at_builtin; refine wpList_append_any _ rfl (.tmp 30) (.tmp 32) _ rfl (w.heap.size + 1) 3 ii _ 1 8 Tryd.underlying22 hi hz0 hz1 hz2 rfl (by omega) (.slice (some ⟨g, 0, none⟩) t t) t ((L.map (Value.int .i64)).take t) rfl (ownP.alloc _) _ (some ⟨wA.heap.size, 0, none⟩) 1 1 [.int .i64 t] rfl (reads_new1 wA _ _) (by simp [Value.oneCell']) (by unfold maxLen; omega) (by omega) (by simp; omega) ?_; intro vB wB ownB grB atB; have ownA2 := (ownA.alloc (Obj.cells #[.int .i64 t] 3)).kept grB (.inr (fun e => by rcases atA with h | h <;> rw [h] at e <;> (have := Option.some.inj e; simp at this; omega))); have sB := grB.size; simp only [World.size_alloc] at sB)
          | (at_builtin; refine wpList_append_any _ rfl (.tmp 33) (.tmp 34) _ rfl (w.heap.size + 1) 3 ii _ 1 8 Tryd.underlying22 hi hz0 hz1 hz2 rfl (by omega) vB (t + 1) _ rfl ownB _ AA 0 cA ((L.map (Value.int .i64)).drop t) rfl (own_reads ownA2 rfl) one1 (by unfold maxLen; omega) (by omega) (by omega) ?_; intro vC wC ownC grC atC))
        go_roundw
        case rel =>
          obtain ⟨g', cap', L', rfl, q1, ⟨qL, q2⟩, q3, q4, q5, q6, q7, q8⟩ := gate_roundV (x := t) (k := t) (t := t) (L := L) hrd1 hfr1 hblk1 hrl (by omega) hgB hgl1 (by omega) HL.out grA' grB atB (by rw [Nat.sub_self]; simpa using ownC) grC
          exact ⟨t + 1, g', cap', L', by omega, by go_num, rfl, q1, ⟨q2, by rw [qL, ← HL.out]; exact HOrd.out.ins _⟩, q3, q4, q5, q6.mono (by omega), q7, q8⟩
        case measure => simp [intOf]; omega
      · rw [if_neg hct] at rd1
        simp only [Option.map_some, Nat.mul_one, add_off, Nat.zero_add] at rd1
        have hct' : t < cap := by omega
        clear hLk
        go_wp2_with (first
          | (at_builtin; refine wpList_append_any _ rfl (.tmp 23) (.tmp 26) _ rfl (w.heap.size + 1) 3 ii _ 1 8 Tryd.underlying22 hi hz0 hz1 hz2 rfl (by omega) (.slice (some ⟨w1.heap.size, 0, none⟩) 0 0) 0 [] rfl hmd _ _ (k - t) (cap - t) ((L.map (Value.int .i64)).drop t) rfl rd1 one1 (by unfold maxLen; omega) (by omega) (by simp; omega) ?_; intro vA wA ownA grA atA; simp only [Nat.zero_add, List.nil_append] at ownA; obtain ⟨AA, cA, eA, hcA⟩ := own_shape ownA; subst eA; have grA' : (w1.alloc (Obj.cells #[] 3)).grownBy wA (some w1.heap.size) := grA; have ownP := own_take ((own1.alloc (Obj.cells #[] 3)).kept grA (.inr (by simp [Value.ownBlock]; omega))) htk; have sA := grA.size; simp only [World.size_alloc] at sA)
          | (at_builtin; refine wpList_append_any _ rfl (.tmp 30) (.tmp 32) _ rfl (w.heap.size + 1) 3 ii _ 1 8 Tryd.underlying22 hi hz0 hz1 hz2 rfl (by omega) (.slice (some ⟨g, 0, none⟩) t cap) t ((L.map (Value.int .i64)).take t) rfl (ownP.alloc _) _ (some ⟨wA.heap.size, 0, none⟩) 1 1 [.int .i64 k] rfl (reads_new1 wA _ _) (by simp [Value.oneCell']) (by unfold maxLen; omega) (by omega) (by simp; omega) ?_; intro vB wB ownB grB atB; have ownA2 := (ownA.alloc (Obj.cells #[.int .i64 k] 3)).kept grB (.inr (fun e => by rcases atA with h | h <;> rw [h] at e <;> (have := Option.some.inj e; simp at this; omega))); have sB := grB.size; simp only [World.size_alloc] at sB)
          | (at_builtin; refine wpList_append_any _ rfl (.tmp 33) (.tmp 34) _ rfl (w.heap.size + 1) 3 ii _ 1 8 Tryd.underlying22 hi hz0 hz1 hz2 rfl (by omega) vB (t + 1) _ rfl ownB _ AA (k - t) cA ((L.map (Value.int .i64)).drop t) rfl (own_reads ownA2 rfl) one1 (by unfold maxLen; omega) (by omega) (by omega) ?_; intro vC wC ownC grC atC))
        go_roundw
        case rel =>
          obtain ⟨g', cap', L', rfl, q1, ⟨qL, q2⟩, q3, q4, q5, q6, q7, q8⟩ := gate_roundV (x := k) (k := k) (t := t) (L := L) hrd1 hfr1 hblk1 hrl (by omega) hgB hgl1 (by omega) HL.out grA' grB atB (by simpa using ownC) grC
          exact ⟨k + 1, g', cap', L', by omega, by go_num, rfl, q1, ⟨q2, by rw [qL, ← HL.out]; exact HOrd.out.ins _⟩, q3, q4, q5, q6.mono (by omega), q7, q8⟩
        case measure => simp [intOf]; omega
    · have hkM : k = M := by omega
      subst hkM
      obtain ⟨a0, a1, a2, tl, hL3⟩ : ∃ a0 a1 a2 tl, L = a0 :: a1 :: a2 :: tl := by
        match L, HL.out with
        | a0 :: a1 :: a2 :: tl, _ => exact ⟨a0, a1, a2, tl, rfl⟩
        | [], h => simp at h; omega
        | [_], h => simp at h; omega
        | [_, _], h => simp at h; omega
      subst hL3
      have HD3 : Hid (¬ l < 3 → (0 ≤ a0 ∧ a0 < l) ∧ (0 ≤ a1 ∧ a1 < l) ∧ (0 ≤ a2 ∧ a2 < l) ∧ ¬ a0 = a1 ∧ ¬ a0 = a2 ∧ ¬ a1 = a2) := Lib.hid (fun hl => by
        have hm := hMl.out (by omega)
        have hln := HL.out
        have b0 := HOrd.out.2 a0 (by simp)
        have b1 := HOrd.out.2 a1 (by simp)
        have b2 := HOrd.out.2 a2 (by simp)
        have hnd := HOrd.out.1
        simp only [List.nodup_cons, List.mem_cons, not_or] at hnd
        rw [hln] at b0 b1 b2
        exact ⟨by omega, by omega, by omega, hnd.1.1, hnd.1.2.1, hnd.2.1.1⟩)
      clear HOrd
      go_wp2_with fail
      have cells : ∀ (wx : World), wx.ownsRow (w.heap.size + 1) 3 1 (.slice (some ⟨g, 0, none⟩) k cap) k ((a0 :: a1 :: a2 :: tl).map (Value.int .i64)) → wx.cell? ⟨g, 0, none⟩ = some (.int .i64 a0) ∧ wx.cell? ⟨g, 1, none⟩ = some (.int .i64 a1) ∧ wx.cell? ⟨g, 2, none⟩ = some (.int .i64 a2) := by
        intro wx ho
        obtain ⟨ad, e1, _, _, e4⟩ := (own_reads ho rfl).2 (by omega)
        cases e1
        have f0 := e4 0 (.int .i64 a0) rfl
        have f1 := e4 1 (.int .i64 a1) rfl
        have f2 := e4 2 (.int .i64 a2) rfl
        simp only [add_off, Nat.zero_add] at f0 f1 f2
        exact ⟨f0, f1, f2⟩
      obtain ⟨d0, d1, d2⟩ := cells wr hown
      have CE := Lib.hid cells
      clear cells
      have t0 : 0 < k := by omega
      have t1 : 1 < k := by omega
      have t2 : 2 < k := by omega
      have i0 : (0 : Int) < (k : Int) := by omega
      have i1 : (1 : Int) < (k : Int) := by omega
      have i2 : (2 : Int) < (k : Int) := by omega
      go_cut [11] (fun s11 wx => ∃ G, s11 = .pointer (some ⟨G, 0, none⟩) ∧ GateH (VZ l) w r (p + k + 1) G wx)
      case first =>
        have hn1 : ¬ g = wr.heap.size := by omega
        have hn2 : ¬ wr.heap.size = g := by omega
        go_region_held3 (fun w' => w'.cell? ⟨g, 0, none⟩ = some (.int .i64 a0) ∧ w'.cell? ⟨g, 1, none⟩ = some (.int .i64 a1) ∧ w'.cell? ⟨g, 2, none⟩ = some (.int .i64 a2)) (first | exact ⟨d0, d1, d2⟩ | exact ⟨q0, q1, q2⟩ | go_keep)
          (first
          | (go_at_call 45; (with_reducible refine (pick_rd 5 r (p + k) wr.drew hrd.drew (by omega) (by omega)).mono ?_); rintro e w2 ⟨v, rfl, ⟨v0, v1, v2⟩, hr2, hg2⟩; obtain ⟨q0, q1, q2⟩ := CE.out w2 (hown.drew.kept hg2 (.inr (by simp [Value.ownBlock]; omega))); have hgl2 : g < w2.heap.size := Nat.lt_of_lt_of_le hgl hg2.size; have hn3 : ¬ g = w2.heap.size := Nat.ne_of_lt hgl2; have hn4 : ¬ w2.heap.size = g := (Nat.ne_of_lt hgl2).symm)
          | (go_at_call 45; (with_reducible refine (pick_rd 5 r (p + k) (wr.alloc (Obj.cells #[.int .i64 0, .int .i64 0, .int .i64 0, .int .i64 0] 40)).drew (hrd.alloc _).drew (by omega) (by omega)).mono ?_); rintro e w2 ⟨v, rfl, ⟨v0, v1, v2⟩, hr2, hg2⟩; obtain ⟨q0, q1, q2⟩ := CE.out w2 ((hown.alloc _).drew.kept hg2 (.inr (by simp [Value.ownBlock]; omega))); have hb : Blk w2 wr.heap.size 40 #[.int .i64 0, .int .i64 0, .int .i64 0, .int .i64 0] := (Blk.new wr _ _).drew.grown hg2 (fun e => by have := Option.some.inj e; omega); have z0 : w2.cell? ⟨wr.heap.size, 0, none⟩ = some (.int .i64 0) := hb.cell 0; have z1 : w2.cell? ⟨wr.heap.size, 1, none⟩ = some (.int .i64 0) := hb.cell 1; have z2 : w2.cell? ⟨wr.heap.size, 2, none⟩ = some (.int .i64 0) := hb.cell 2; have z3 : w2.cell? ⟨wr.heap.size, 3, none⟩ = some (.int .i64 0) := hb.cell 3; have y0 := hb.frozen 0; have y1 := hb.frozen 1; have y2 := hb.frozen 2; have y3 := hb.frozen 3))
        · go_wp2_with fail
          go_meet
          exact ⟨_, rfl, v, a0, a1, a2, ⟨GateW.new (wr := wr) hrl (by have := hg2.size; simp at this; omega) hr2 (hfr.drew.only hg2 (by simp; omega) (fun q e => .inr (Option.some.inj e).symm)) (hblk.drew.grown hg2 (fun e => by have := Option.some.inj e; omega)), fun hl => ⟨⟨v0, by omega⟩, HD3.out (by omega)⟩⟩⟩
        · go_wp2_with fail
          go_meet
          refine ⟨_, rfl, v, a0, a1, a2, ⟨GateW.store (k := v) (a := a0) (b := a1) (c := 0) (GateW.store (k := v) (a := a0) (b := 0) (c := 0) (GateW.store (k := v) (a := 0) (b := 0) (c := 0) (GateW.store (k := 0) (a := 0) (b := 0) (c := 0) ?_ 0 (.int .i64 v) rfl) 1 (.int .i64 a0) rfl) 2 (.int .i64 a1) rfl) 3 (.int .i64 a2) rfl, fun hl => ⟨⟨v0, by omega⟩, HD3.out (by omega)⟩⟩⟩
          exact ⟨hrl, by omega, hb, hr2, (hfr.alloc (by omega) _).drew.only hg2 (by simp; omega) (fun q e => .inr (Option.some.inj e).symm), (hblk.alloc _).drew.grown hg2 (fun e => by have := Option.some.inj e; omega)⟩
      case rest =>
        obtain ⟨G, rfl, HG⟩ := hcut
        clear CE d0 d1 d2 hown hrd hfr hblk i0 i1 i2 t0 t1 t2 hgB hkc hcm hgl
        have h4 : p + k ≤ 999910 := by omega
        obtain ⟨P, hP⟩ : ∃ P, P = p + k := ⟨_, rfl⟩
        rw [← hP] at HG h4
        have HPk := Lib.hid hP
        clear hP
        go_upto_if 49 with fail
        go_cut [11] (fun s11 wx => s11 = .pointer (some ⟨G, 0, none⟩) ∧ GateH (VA l) w r (P + 1) G wx)
        case first =>
          obtain ⟨ka, aa, ba, ca, HW, hV⟩ := HG
          have HV := Lib.hid hV
          clear hV
          obtain ⟨e0, e1, e2, e3⟩ := HW.cells
          obtain ⟨f0, f1, f2, f3⟩ := HW.fz
          by_cases hl1 : l = 1
          · have hl1' : (l == 1) = true := by simp [hl1]
            have HL1 := Lib.hid hl1
            clear hl1
            go_wp2_with fail
            go_meet
            exact ⟨rfl, GateH.mk (GateW.store (k := 0) (a := 0) (b := 0) (c := ca) (GateW.store (k := 0) (a := 0) (b := ba) (c := ca) (GateW.store (k := 0) (a := aa) (b := ba) (c := ca) (GateW.store (k := ka) (a := aa) (b := ba) (c := ca) HW 0 (.int .i64 0) rfl) 1 (.int .i64 0) rfl) 2 (.int .i64 0) rfl) 3 (.int .i64 0) rfl) ⟨fun _ => ⟨rfl, rfl, rfl, rfl⟩, fun h => by have := HL1.out; omega⟩⟩
          · have hl1' : (l == 1) = false := by simp [hl1]
            have HL1 := Lib.hid hl1
            clear hl1
            go_wp2_with fail
            go_meet
            exact ⟨rfl, GateH.mk HW ⟨fun e => absurd e HL1.out, HV.out⟩⟩
        case rest =>
          obtain ⟨rfl, HG⟩ := hcut
          go_upto_if 52 with fail
          go_cut [11] (fun s11 wx => s11 = .pointer (some ⟨G, 0, none⟩) ∧ GateH (VB l) w r (P + 3) G wx)
          case first =>
            obtain ⟨ka, aa, ba, ca, HW, hV⟩ := HG
            have HV := Lib.hid hV
            clear hV
            by_cases hl2 : l = 2
            · have hl2' : (l == 2) = true := by simp [hl2]
              have HL2 := Lib.hid hl2
              clear hl2
              have hrd2 := HW.2.2.2.1
              have hrw := hrd2.lt
              have C3a := Lib.hid (pick_rd 3 r (P + 1) wc.drew hrd2.drew (by omega) (by omega))
              have C3b := Lib.hid (pick_rd 3 r (P + 1) (wc.alloc (.cells #[.int .i64 0, .int .i64 1, .int .i64 3] 3)).drew (hrd2.alloc _).drew (by omega) (by omega))
              have hszc := HW.sz
              obtain ⟨e0, e1, e2, e3⟩ := HW.cells
              obtain ⟨f0, f1, f2, f3⟩ := HW.fz
              go_wp2_with fail
              go_region_with (go_at_call 45; (first
                | ((with_reducible refine C3a.out.mono ?_); rintro e w2 ⟨v, rfl, ⟨v0, v1, v2⟩, hr2, hg2⟩; obtain ⟨x, hx, hy⟩ := tri_cell' v v0 (by omega); have HW2 := HW.drew.pick hg2 hr2; have hcA : (w2.alloc (.cells #[.int .i64 0, .int .i64 1, .int .i64 3] 3)).cell? ⟨w2.heap.size, v.toNat, none⟩ = some (.int .i64 x) := ((Blk.new w2 _ _).cell _).trans hy; have v3 : v < 3 := (by omega); have HY := Lib.hid hy; have C2a := Lib.hid (pick_rd 2 r (P + 1 + 1) w2 hr2 (by omega) (by omega)); have C2b := Lib.hid (pick_rd 2 r (P + 1 + 1) (w2.alloc (.cells #[.int .i64 0, .int .i64 1, .int .i64 3] 3)) (hr2.alloc _) (by omega) (by omega)); obtain ⟨e0, e1, e2, e3⟩ := HW2.cells; obtain ⟨f0, f1, f2, f3⟩ := HW2.fz; clear C3a C3b hy)
                | ((with_reducible refine C3b.out.mono ?_); rintro e w2 ⟨v, rfl, ⟨v0, v1, v2⟩, hr2, hg2⟩; obtain ⟨x, hx, hy⟩ := tri_cell' v v0 (by omega); have HW2 := (HW.alloc (.cells #[.int .i64 0, .int .i64 1, .int .i64 3] 3)).drew.pick hg2 hr2; have hbB : Blk w2 wc.heap.size 3 #[.int .i64 0, .int .i64 1, .int .i64 3] := (Blk.new wc _ _).drew.grown hg2 (fun e => by have := Option.some.inj e; omega); have hcB := (hbB.cell v.toNat).trans hy; have v3 : v < 3 := (by omega); have C2a := Lib.hid (pick_rd 2 r (P + 1 + 1) w2 hr2 (by omega) (by omega)); obtain ⟨e0, e1, e2, e3⟩ := HW2.cells; obtain ⟨f0, f1, f2, f3⟩ := HW2.fz; have HBB := Lib.hid hbB; have HY := Lib.hid hy; clear C3a C3b hy hbB)
                | ((with_reducible refine C2a.out.mono ?_); rintro e w3 ⟨u, rfl, ⟨u0, u1, u2⟩, hr3, hg3⟩; have HW3 := HW2.pick hg3 hr3; (try have hcB3 := ((HBB.out.grown hg3 (fun e => by have := Option.some.inj e; omega)).cell v.toNat).trans HY.out); (try have hcA3 : (w3.alloc (.cells #[.int .i64 0, .int .i64 1, .int .i64 3] 3)).cell? ⟨w3.heap.size, v.toNat, none⟩ = some (.int .i64 x) := ((Blk.new w3 _ _).cell _).trans HY.out); have HW3a := HW3.alloc (.cells #[.int .i64 0, .int .i64 1, .int .i64 3] 3); obtain ⟨e0, e1, e2, e3⟩ := HW3.cells; obtain ⟨f0, f1, f2, f3⟩ := HW3.fz; obtain ⟨g0, g1, g2, g3⟩ := HW3a.cells; obtain ⟨i0, i1, i2, i3⟩ := HW3a.fz; clear C2a)
                | ((with_reducible refine C2b.out.mono ?_); rintro e w3 ⟨u, rfl, ⟨u0, u1, u2⟩, hr3, hg3⟩; have HW3 := (HW2.alloc (.cells #[.int .i64 0, .int .i64 1, .int .i64 3] 3)).pick hg3 hr3; have hcA3 := (((Blk.new w2 3 #[.int .i64 0, .int .i64 1, .int .i64 3]).grown hg3 (fun e => by have := Option.some.inj e; have := hr2.lt; omega)).cell v.toNat).trans HY.out; obtain ⟨e0, e1, e2, e3⟩ := HW3.cells; obtain ⟨f0, f1, f2, f3⟩ := HW3.fz; clear C2a C2b)))
              all_goals
                have u3 : u < 2 := by omega
                have HX3 := Lib.hid hx
                clear hx v0 v1 v2 u1
                go_wp2_with fail
                go_meet
                have HP3 : VB l x u (1 - u) 0 := ⟨⟨fun e => by have := HL2.out; omega, fun e => by have := HL2.out; omega⟩, fun _ => ⟨HX3.out, by omega, rfl, rfl⟩⟩
                have HE := ((GateW.store (k := x) (a := u) (b := 0) (c := 0) (GateW.store (k := x) (a := u) (b := 0) (c := ca) (GateW.store (k := x) (a := u) (b := ba) (c := ca) (GateW.store (k := x) (a := aa) (b := ba) (c := ca) (GateW.store (k := ka) (a := aa) (b := ba) (c := ca) HW3 0 (.int .i64 x) rfl) 1 (.int .i64 u) rfl) 2 (.int .i64 0) rfl) 3 (.int .i64 0) rfl) 2 (.int .i64 (1 - u)) rfl)).mono (Q := P + 3) (by omega)
                (try have HEa := ((GateW.store (k := x) (a := u) (b := 0) (c := 0) (GateW.store (k := x) (a := u) (b := 0) (c := ca) (GateW.store (k := x) (a := u) (b := ba) (c := ca) (GateW.store (k := x) (a := aa) (b := ba) (c := ca) (GateW.store (k := ka) (a := aa) (b := ba) (c := ca) HW3a 0 (.int .i64 x) rfl) 1 (.int .i64 u) rfl) 2 (.int .i64 0) rfl) 3 (.int .i64 0) rfl) 2 (.int .i64 (1 - u)) rfl)).mono (Q := P + 3) (by omega))
                first
                  | (with_reducible exact ⟨rfl, GateH.mk HE HP3⟩)
                  | (with_reducible exact ⟨rfl, GateH.mk HEa HP3⟩)
            · have hl2' : (l == 2) = false := by simp [hl2]
              have HL2 := Lib.hid hl2
              clear hl2
              go_wp2_with fail
              go_meet
              exact ⟨rfl, GateH.mk (HW.mono (by omega)) ⟨HV.out, fun e => absurd e HL2.out⟩⟩
          case rest =>
            obtain ⟨rfl, HG⟩ := hcut
            obtain ⟨ka, aa, ba, ca, HW, hV⟩ := HG
            have HV := Lib.hid hV
            clear hV
            obtain ⟨e0, e1, e2, e3⟩ := HW.cells
            obtain ⟨f0, f1, f2, f3⟩ := HW.fz
            go_upto_if 67 with fail
            go_cut [11] (fun s11 wx => s11 = .pointer (some ⟨G, 0, none⟩) ∧ GateH (VC l) w r (P + 3) G wx)
            case first =>
              by_cases hk : ka = 0
              · have hk' : (ka == 0) = true := by simp [hk]
                have HK0 := Lib.hid hk
                clear hk
                go_wp2_with fail
                go_meet
                exact ⟨rfl, GateH.mk (GateW.store HW 2 (.int .i64 0) rfl) (HV.out.zero HK0.out)⟩
              · have hk' : (ka == 0) = false := by simp [hk]
                have HK0 := Lib.hid hk
                clear hk
                go_wp2_with fail
                go_meet
                exact ⟨rfl, GateH.mk HW (HV.out.nz HK0.out)⟩
            case rest =>
              clear HW e0 e1 e2 e3 f0 f1 f2 f3
              obtain ⟨rfl, HG⟩ := hcut
              obtain ⟨ka, aa, ba, ca, HW, hV⟩ := HG
              have HV := Lib.hid hV
              clear hV
              obtain ⟨e0, e1, e2, e3⟩ := HW.cells
              obtain ⟨f0, f1, f2, f3⟩ := HW.fz
              go_upto_region 16 with fail
              go_cut [81] (fun s81 wx => ∃ (b : Bool) (k a b' c : Int), s81 = .bool b ∧ GateW w r (P + 3) G wx k a b' c ∧ VC l k a b' c ∧ b = (k == 0 || k == 1 || k == 3))
              case first =>
                cases h0 : (ka == 0)
                · cases h1 : (ka == 1)
                  all_goals
                    go_wp2_with fail
                    go_meet
                    exact ⟨_, ka, aa, ba, ca, rfl, HW, HV.out, by simp [*]⟩
                · go_wp2_with fail
                  go_meet
                  exact ⟨_, ka, aa, ba, ca, rfl, HW, HV.out, by simp [*]⟩
              case rest =>
                clear HW e0 e1 e2 e3 f0 f1 f2 f3
                obtain ⟨b, ka, aa, ba, ca, rfl, HW, hV, hb⟩ := hcut
                have HV := Lib.hid hV
                have HBF := Lib.hid hb
                clear hV hb
                obtain ⟨e0, e1, e2, e3⟩ := HW.cells
                obtain ⟨f0, f1, f2, f3⟩ := HW.fz
                go_upto_if 81 with fail
                go_cut [11] (fun s11 wx => s11 = .pointer (some ⟨G, 0, none⟩) ∧ GateH (VD l) w r (P + 3) G wx)
                case first =>
                  cases b
                  · go_wp2_with fail
                    go_meet
                    exact ⟨rfl, GateH.mk HW (HV.out.no h1 h8 HBF.out.symm)⟩
                  · go_wp2_with fail
                    go_meet
                    exact ⟨rfl, GateH.mk (GateW.store HW 3 (.int .i64 0) rfl) (HV.out.flag h1 h8 HBF.out.symm)⟩
                case rest =>
                  clear HW e0 e1 e2 e3 f0 f1 f2 f3
                  obtain ⟨rfl, HG⟩ := hcut
                  obtain ⟨ka, aa, ba, ca, HW, hV⟩ := HG
                  have HV := Lib.hid hV
                  clear hV
                  have HO := Lib.hid (odd0_rd r (P + 3) wc HW.2.2.2.1)
                  go_wp2_with fail
                  refine HO.out.mono ?_
                  rintro e w5 ⟨rfl, rfl⟩
                  clear HO
                  obtain ⟨e0, e1, e2, e3⟩ := HW.cells
                  have hb0 := HW.2.2.2.2.2
                  have x0 : wc.cell? ⟨w.heap.size, 0, none⟩ = some (.int .i64 0) := hb0.cell 0
                  have x1 : wc.cell? ⟨w.heap.size, 1, none⟩ = some (.int .i64 0) := hb0.cell 1
                  have x2 : wc.cell? ⟨w.heap.size, 2, none⟩ = some (.int .i64 0) := hb0.cell 2
                  have x3 : wc.cell? ⟨w.heap.size, 3, none⟩ = some (.int .i64 0) := hb0.cell 3
                  have y0 := hb0.frozen 0
                  have y1 := hb0.frozen 1
                  have y2 := hb0.frozen 2
                  have y3 := hb0.frozen 3
                  go_wp2_with fail
                  have g1 : wc.grownBy ((((wc.setCell ⟨w.heap.size, 0, none⟩ (.int .i64 ka)).setCell ⟨w.heap.size, 1, none⟩ (.int .i64 aa)).setCell ⟨w.heap.size, 2, none⟩ (.int .i64 ba)).setCell ⟨w.heap.size, 3, none⟩ (.int .i64 ca)) (some w.heap.size) :=
                    only_setCell (p := ⟨w.heap.size, 3, none⟩) (only_setCell (p := ⟨w.heap.size, 2, none⟩) (only_setCell (p := ⟨w.heap.size, 1, none⟩) (only_setCell (p := ⟨w.heap.size, 0, none⟩) (World.grownBy.refl _ _) (Or.inl rfl) _) (Or.inl rfl) _) (Or.inl rfl) _) (Or.inl rfl) _
                  have hB4 : Blk ((((wc.setCell ⟨w.heap.size, 0, none⟩ (.int .i64 ka)).setCell ⟨w.heap.size, 1, none⟩ (.int .i64 aa)).setCell ⟨w.heap.size, 2, none⟩ (.int .i64 ba)).setCell ⟨w.heap.size, 3, none⟩ (.int .i64 ca)) w.heap.size 40 #[.int .i64 ka, .int .i64 aa, .int .i64 ba, .int .i64 ca] :=
                    (((hb0.set_ 0 (.int .i64 ka)).set_ 1 (.int .i64 aa)).set_ 2 (.int .i64 ba)).set_ 3 (.int .i64 ca)
                  have hPk := HPk.out
                  have hr9 := (HW.2.2.2.1.onlyO g1 (fun q e => by have := Option.some.inj e; omega)).mono (q := p + 20) (by omega)
                  have hf9 := (HW.2.2.2.2.1.only g1 HW.sz (fun q e => .inl (by have := Option.some.inj e; omega))).grown
                  exact bodyPost_ret (v := .agg #[.int .i64 ka, .int .i64 aa, .int .i64 ba, .int .i64 ca]) (results_cell_ok Tryd.results55 rfl (load_blk hB4 Tryd.underlying40 rfl (gate_size rfl))) rfl ⟨⟨ka, aa, ba, ca⟩, rfl, HV.out, hr9, hf9⟩
end Go.Proofs.YtffkoeobehocjaaDoor
