/- Lists of gates: how they lie in memory, and contracts of toGateS, eqGate, eqGateS, markGateS, heldGateS, szGateS. -/
import Derived.Test.YtffkoeobehocjaaDoorToGate
import Derived.Test.YtffkoeobehocjaaDoorIntsB
import Derived.Deep.LoopGhost
import Derived.StillTailTactics
import Derived.Deep.Slices
import Derived.Deep.Fields
import Derived.ChangeSame
namespace Go.Proofs.YtffkoeobehocjaaDoor
open Go.RowKit
set_option linter.unusedVariables false

/-- the cells of some gates -/
def gcells (gs : List Gt) : List Value := gs.flatMap Gt.cells
theorem gcells_len (gs : List Gt) : (gcells gs).length = gs.length * 4 := by
  induction gs with
  | nil => rfl
  | cons g r ih =>
    show (Gt.cells g ++ gcells r).length = _
    rw [List.length_append, ih, List.length_cons]
    simp [Gt.cells]
    omega
theorem gcells_app (gs hs : List Gt) : gcells (gs ++ hs) = gcells gs ++ gcells hs := by simp [gcells]
theorem gcells_one (g : Gt) : gcells [g] = g.cells := by simp [gcells]
theorem gcells_ok (gs : List Gt) : ∀ u ∈ gcells gs, u.oneCell' = true := by
  intro u hu
  obtain ⟨g, _, h⟩ := List.mem_flatMap.1 hu
  simp [Gt.cells] at h
  rcases h with rfl | rfl | rfl | rfl <;> rfl
def g0 : Gt := ⟨0, 0, 0, 0⟩
theorem gcells_at (gs : List Gt) (k : Nat) (h : k < gs.length) : (gcells gs)[k * 4]? = some (.int .i64 (gs.getD k g0).k) ∧ (gcells gs)[k * 4 + 1]? = some (.int .i64 (gs.getD k g0).a) ∧ (gcells gs)[k * 4 + 2]? = some (.int .i64 (gs.getD k g0).b) ∧ (gcells gs)[k * 4 + 3]? = some (.int .i64 (gs.getD k g0).c) := by
  induction gs generalizing k with
  | nil => simp at h
  | cons g r ih =>
    have e : gcells (g :: r) = .int .i64 g.k :: .int .i64 g.a :: .int .i64 g.b :: .int .i64 g.c :: gcells r := rfl
    cases k with
    | zero => rw [e]; simp
    | succ k =>
      have := ih k (by simpa using h)
      rw [e, show (k + 1) * 4 = k * 4 + 4 from by omega]
      simpa using this
theorem gcells_take (gs : List Gt) (k : Nat) : gcells (gs.take k) = (gcells gs).take (k * 4) := by
  induction gs generalizing k with
  | nil => simp [gcells]
  | cons g r ih =>
    cases k with
    | zero => simp [gcells]
    | succ k =>
      rw [List.take_succ_cons, show (k + 1) * 4 = k * 4 + 4 from by omega]
      have e : ∀ r, gcells (g :: r) = .int .i64 g.k :: .int .i64 g.a :: .int .i64 g.b :: .int .i64 g.c :: gcells r := fun r => rfl
      rw [e, e, ih]
      rfl
theorem gcells_drop (gs : List Gt) (k : Nat) : gcells (gs.drop k) = (gcells gs).drop (k * 4) := by
  induction gs generalizing k with
  | nil => simp [gcells]
  | cons g r ih =>
    cases k with
    | zero => simp [gcells]
    | succ k =>
      rw [List.drop_succ_cons, show (k + 1) * 4 = k * 4 + 4 from by omega, ih]
      have e : gcells (g :: r) = .int .i64 g.k :: .int .i64 g.a :: .int .i64 g.b :: .int .i64 g.c :: gcells r := rfl
      rw [e]
      rfl

/-- the four cells of a gate lie from here on -/
def GAt (w : World) (b o : Nat) (g : Gt) : Prop :=
  w.cell? ⟨b, o, none⟩ = some (.int .i64 g.k) ∧ w.cell? ⟨b, o + 1, none⟩ = some (.int .i64 g.a) ∧ w.cell? ⟨b, o + 2, none⟩ = some (.int .i64 g.b) ∧ w.cell? ⟨b, o + 3, none⟩ = some (.int .i64 g.c)
theorem GAt.keep {w w' : World} {b o : Nat} {g : Gt} (h : GAt w b o g) (hk : ∀ i, w'.cell? ⟨b, i, none⟩ = w.cell? ⟨b, i, none⟩) : GAt w' b o g :=
  ⟨(hk _).trans h.1, (hk _).trans h.2.1, (hk _).trans h.2.2.1, (hk _).trans h.2.2.2⟩
theorem GAt.below {w w' : World} {b o B : Nat} {g : Gt} (h : GAt w b o g) (hb : Below B w w') (hB : b < B) : GAt w' b o g := h.keep fun i => hb.cell (p := ⟨b, i, none⟩) hB
theorem Reads.openG {w : World} {B n : Nat} {A : Option Addr} {gs : List Gt} (h : Reads w B 4 A n (gcells gs)) (hz : gs.length = n) (hn : 0 < n) :
    ∃ b o, A = some ⟨b, o, none⟩ ∧ b < B ∧ ∀ j, j < n → GAt w b (o + j * 4) (gs.getD j g0) := by
  obtain ⟨⟨b, o, sp⟩, e, hs, hb, hc⟩ := h.2 hn
  simp only at hs
  subst hs
  refine ⟨b, o, e, hb, fun j hj => ?_⟩
  obtain ⟨h0, h1, h2, h3⟩ := gcells_at gs j (by omega)
  have c0 := hc _ _ h0
  have c1 := hc _ _ h1
  have c2 := hc _ _ h2
  have c3 := hc _ _ h3
  rw [add_off] at c0 c1 c2 c3
  exact ⟨c0, by rw [Nat.add_assoc]; exact c1, by rw [Nat.add_assoc]; exact c2, by rw [Nat.add_assoc]; exact c3⟩

/-- a list of gates in new memory is returned -/
def RetG (gs : List Gt) (w : World) (e : Ending) (w' : World) : Prop :=
  ∃ A c, e = .returned (.slice A gs.length c) ∧ gs.length ≤ c ∧ Own w' w.heap.size A (gcells gs) ∧ Below w.heap.size w w'
/-- a slice of gates that came in -/
def GatesIn (w : World) (A : Option Addr) (n c : Nat) (gs : List Gt) : Prop :=
  n ≤ c ∧ c ≤ maxLen ∧ gs.length = n ∧ True ∧ Reads w w.heap.size 4 A n (gcells gs)

theorem infoGate : (Tryd.prog.info? 40).map (fun i => (i.zero, i.size, i.bytes)) = some (some (.agg #[.int .i64 0, .int .i64 0, .int .i64 0, .int .i64 0]), 4, 32) := by kernel_rfl

theorem mkGates (n : Nat) (hn : n ≤ 1048576) (W : World) : (Instr.makeSlice 90 (.int .i64 (n : Int)) (.int .i64 (n : Int))).run Tryd.prog W = .ok (.slice (some ⟨W.heap.size, 0, none⟩) n n) (W.alloc (.cells (madeCells #[.int .i64 0, .int .i64 0, .int .i64 0, .int .i64 0] (n * 4)) 40)) := by
  obtain ⟨ii, hi, hz0, hz1, hz2⟩ := info_parts infoGate
  have hr := run_make (P := Tryd.prog) W 90 40 ii (.agg #[.int .i64 0, .int .i64 0, .int .i64 0, .int .i64 0]) Tryd.underlying90 hi hz0 .i64 .i64 n n (by omega) (by omega) (by rw [hz2]; omega) (by omega)
  simp only [Int.toNat_natCast, hz1] at hr
  exact hr
theorem rowG_made (w : World) (n : Nat) (t : TypeId) : (w.alloc (.cells (madeCells #[.int .i64 0, .int .i64 0, .int .i64 0, .int .i64 0] (n * 4)) t)).rowIs w.heap.size t (n * 4) (fun _ => .int .i64 0) := by
  have := World.rowIs_alloc w (madeCells #[.int .i64 0, .int .i64 0, .int .i64 0, .int .i64 0] (n * 4)) t (fun _ => .int .i64 0) (fun i hi => by
    rw [size_madeCells] at hi
    have h4 : i % 4 = 0 ∨ i % 4 = 1 ∨ i % 4 = 2 ∨ i % 4 = 3 := by omega
    simp [madeCells, hi]
    rcases h4 with e | e | e | e <;> simp [e])
  rwa [size_madeCells] at this

def gv (gs : List Gt) (j : Nat) : Value := (gcells gs).getD j (.int .i64 0)
theorem gv_at (gs : List Gt) (k : Nat) (h : k < gs.length) : gv gs (k * 4) = .int .i64 (gs.getD k g0).k ∧ gv gs (k * 4 + 1) = .int .i64 (gs.getD k g0).a ∧ gv gs (k * 4 + 2) = .int .i64 (gs.getD k g0).b ∧ gv gs (k * 4 + 3) = .int .i64 (gs.getD k g0).c := by
  obtain ⟨h0, h1, h2, h3⟩ := gcells_at gs k h
  unfold gv List.getD
  rw [h0, h1, h2, h3]
  exact ⟨rfl, rfl, rfl, rfl⟩
/-- the first k gates of a list, then 0 -/
def cpG (gs : List Gt) (k j : Nat) : Value := if j < k * 4 then gv gs j else .int .i64 0
theorem row_setG {w : World} {G n k : Nat} {t : TypeId} {gs : List Gt} (h : w.rowIs G t (n * 4) (cpG gs k)) (hk : k < gs.length) {x0 x1 x2 x3 : Int} (hg : gs.getD k g0 = ⟨x0, x1, x2, x3⟩) :
    ((((w.setCell ⟨G, k * 4, none⟩ (.int .i64 x0)).setCell ⟨G, k * 4 + 1, none⟩ (.int .i64 x1)).setCell ⟨G, k * 4 + 2, none⟩ (.int .i64 x2)).setCell ⟨G, k * 4 + 3, none⟩ (.int .i64 x3)).rowIs G t (n * 4) (cpG gs (k + 1)) := by
  refine ((((h.set (k * 4) _).set (k * 4 + 1) _).set (k * 4 + 2) _).set (k * 4 + 3) _).congr fun j hj => ?_
  obtain ⟨h0, h1, h2, h3⟩ := gv_at gs k hk
  rw [hg] at h0 h1 h2 h3
  unfold cpG
  by_cases e3 : j = k * 4 + 3
  · rw [if_pos e3, if_pos (by omega), e3, h3]
  · rw [if_neg e3]
    by_cases e2 : j = k * 4 + 2
    · rw [if_pos e2, if_pos (by omega), e2, h2]
    · rw [if_neg e2]
      by_cases e1 : j = k * 4 + 1
      · rw [if_pos e1, if_pos (by omega), e1, h1]
      · rw [if_neg e1]
        by_cases e0 : j = k * 4
        · rw [if_pos e0, if_pos (by omega), e0, h0]
        · rw [if_neg e0]
          by_cases hlt : j < k * 4
          · rw [if_pos hlt, if_pos (by omega)]
          · rw [if_neg hlt, if_neg (by omega)]
theorem own_of_rowG {w : World} {B g n : Nat} {t : TypeId} {gs : List Gt} {f : Nat → Value} (h : w.rowIs g t (n * 4) f) (hB : B ≤ g) (hz : gs.length = n) (hf : ∀ j, j < n * 4 → f j = gv gs j) : Own w B (some ⟨g, 0, none⟩) (gcells gs) := fun _ => by
  refine ⟨g, 0, rfl, hB, h.lt, fun j u hu => ?_⟩
  rw [Nat.zero_add]
  have hj : j < n * 4 := by
    rcases Nat.lt_or_ge j (n * 4) with hj | hj
    · exact hj
    · rw [List.getElem?_eq_none (by rw [gcells_len]; omega)] at hu; cases hu
  refine ⟨?_, h.frozen j⟩
  rw [h.cell hj, hf j hj]
  unfold gv List.getD
  rw [hu]
  rfl

theorem eqGate_same (k a b c : Int) (w : World) :
    Calls Tryd.prog 29 #[.agg #[.int .i64 k, .int .i64 a, .int .i64 b, .int .i64 c], .agg #[.int .i64 k, .int .i64 a, .int .i64 b, .int .i64 c]] w fun e w' => e = .returned (.bool true) ∧ Below w.heap.size w w' := by
  have e0 : (k != k) = false := by simp
  have e1 : (a != a) = false := by simp
  have e2 : (b != b) = false := by simp
  have e3 : (c != c) = false := by simp
  go_enter Tryd.func29, Tryd.ntmps29
  go_wp2
  go_ret
  exact ⟨rfl, ((Below.refl _ _).alloc (Nat.le_refl _) _).alloc (by simp) _⟩

/-- n gates with numbers from k on -/
def marksG (k : Int) (n : Nat) : List Gt := (List.range n).map fun i : Nat => ⟨k + 4 * i, k + 4 * i + 1, k + 4 * i + 2, k + 4 * i + 3⟩
theorem marksG_len (k : Int) (n : Nat) : (marksG k n).length = n := by simp [marksG]
theorem marksG_at (k : Int) (n j : Nat) (h : j < n) : (marksG k n).getD j g0 = ⟨k + 4 * j, k + 4 * j + 1, k + 4 * j + 2, k + 4 * j + 3⟩ := by
  simp [marksG, List.getD, List.getElem?_map, List.getElem?_range h]

/-- the cells of a gate may be written -/
def FAt (w : World) (b o : Nat) : Prop := w.frozen? ⟨b, o, none⟩ = false ∧ w.frozen? ⟨b, o + 1, none⟩ = false ∧ w.frozen? ⟨b, o + 2, none⟩ = false ∧ w.frozen? ⟨b, o + 3, none⟩ = false
theorem Sl.openG {w : World} {lo hi : Nat} {A : Option Addr} {gs : List Gt} (h : Sl w lo hi A (gcells gs)) (hn : 0 < gs.length) :
    ∃ b o, A = some ⟨b, o, none⟩ ∧ lo ≤ b ∧ b < hi ∧ hi ≤ w.heap.size ∧ ∀ j, j < gs.length → GAt w b (o + j * 4) (gs.getD j g0) ∧ FAt w b (o + j * 4) := by
  obtain ⟨b, o, e, h1, h2, hc⟩ := h.2 (by rw [gcells_len]; omega)
  refine ⟨b, o, e, h1, h2, h.1, fun j hj => ?_⟩
  obtain ⟨e0, e1, e2, e3⟩ := gcells_at gs j hj
  have c0 := hc _ _ e0
  have c1 := hc _ _ e1
  have c2 := hc _ _ e2
  have c3 := hc _ _ e3
  rw [← Nat.add_assoc] at c1 c2 c3
  exact ⟨⟨c0.1, c1.1, c2.1, c3.1⟩, ⟨c0.2, c1.2, c2.2, c3.2⟩⟩
theorem gcells_get {gs : List Gt} {t : Nat} {u : Value} (hu : (gcells gs)[t]? = some u) : ∃ j i, t = j * 4 + i ∧ j < gs.length ∧ (i = 0 ∧ u = .int .i64 (gs.getD j g0).k ∨ i = 1 ∧ u = .int .i64 (gs.getD j g0).a ∨ i = 2 ∧ u = .int .i64 (gs.getD j g0).b ∨ i = 3 ∧ u = .int .i64 (gs.getD j g0).c) := by
  have ht : t < gs.length * 4 := by
    rcases Nat.lt_or_ge t (gs.length * 4) with h | h
    · exact h
    · rw [List.getElem?_eq_none (by rw [gcells_len]; omega)] at hu; cases hu
  obtain ⟨e0, e1, e2, e3⟩ := gcells_at gs (t / 4) (by omega)
  have hm : t % 4 = 0 ∨ t % 4 = 1 ∨ t % 4 = 2 ∨ t % 4 = 3 := by omega
  refine ⟨t / 4, t % 4, by omega, by omega, ?_⟩
  rcases hm with h | h | h | h
  · rw [show t = t / 4 * 4 from by omega, e0] at hu; exact .inl ⟨h, (Option.some.inj hu).symm⟩
  · rw [show t = t / 4 * 4 + 1 from by omega, e1] at hu; exact .inr (.inl ⟨h, (Option.some.inj hu).symm⟩)
  · rw [show t = t / 4 * 4 + 2 from by omega, e2] at hu; exact .inr (.inr (.inl ⟨h, (Option.some.inj hu).symm⟩))
  · rw [show t = t / 4 * 4 + 3 from by omega, e3] at hu; exact .inr (.inr (.inr ⟨h, (Option.some.inj hu).symm⟩))
theorem Sl.mkG {w : World} {lo hi b o : Nat} {gs : List Gt} (h1 : lo ≤ b) (h2 : b < hi) (h3 : hi ≤ w.heap.size) (hc : ∀ j, j < gs.length → GAt w b (o + j * 4) (gs.getD j g0) ∧ FAt w b (o + j * 4)) : Sl w lo hi (some ⟨b, o, none⟩) (gcells gs) :=
  ⟨h3, fun _ => ⟨b, o, rfl, h1, h2, fun t u hu => by
    obtain ⟨j, i, rfl, hj, h⟩ := gcells_get hu
    obtain ⟨⟨c0, c1, c2, c3⟩, ⟨f0, f1, f2, f3⟩⟩ := hc j hj
    rcases h with ⟨rfl, rfl⟩ | ⟨rfl, rfl⟩ | ⟨rfl, rfl⟩ | ⟨rfl, rfl⟩
    · exact ⟨c0, f0⟩
    · rw [← Nat.add_assoc]; exact ⟨c1, f1⟩
    · rw [← Nat.add_assoc]; exact ⟨c2, f2⟩
    · rw [← Nat.add_assoc]; exact ⟨c3, f3⟩⟩⟩
/-- four cells are written -/
def set4 (w : World) (b o : Nat) (x0 x1 x2 x3 : Int) : World :=
  (((w.setCell ⟨b, o, none⟩ (.int .i64 x0)).setCell ⟨b, o + 1, none⟩ (.int .i64 x1)).setCell ⟨b, o + 2, none⟩ (.int .i64 x2)).setCell ⟨b, o + 3, none⟩ (.int .i64 x3)
theorem set4_other {w : World} {b o : Nat} {x0 x1 x2 x3 : Int} {t : Nat} (h : t < o ∨ o + 4 ≤ t) : (set4 w b o x0 x1 x2 x3).cell? ⟨b, t, none⟩ = w.cell? ⟨b, t, none⟩ := by
  unfold set4
  rw [World.cell?_setCell_other _ _ _ _ (by simp <;> omega), World.cell?_setCell_other _ _ _ _ (by simp <;> omega), World.cell?_setCell_other _ _ _ _ (by simp <;> omega), World.cell?_setCell_other _ _ _ _ (by simp <;> omega)]
theorem set4_frozen {w : World} {b o : Nat} {x0 x1 x2 x3 : Int} (a : Addr) : (set4 w b o x0 x1 x2 x3).frozen? a = w.frozen? a := by
  unfold set4
  rw [frozen_set, frozen_set, frozen_set, frozen_set]
theorem set4_at {w : World} {b o : Nat} {x0 x1 x2 x3 : Int} {g : Gt} (h : GAt w b o g) : GAt (set4 w b o x0 x1 x2 x3) b o ⟨x0, x1, x2, x3⟩ := by
  obtain ⟨h0, h1, h2, h3⟩ := h
  unfold set4
  refine ⟨?_, ?_, ?_, ?_⟩ <;> go_simp

theorem cells_new (w : World) (xs : List Value) (t : TypeId) : ∀ j u, xs[j]? = some u → (w.alloc (.cells xs.toArray t)).cell? ((⟨w.heap.size, 0, none⟩ : Addr).add j) = some u := fun j u hu => by
  rw [add_off, Nat.zero_add, (Blk.new w t xs.toArray).cell]
  simpa using hu
theorem cells_newAt (w : World) (xs : List Value) (t : TypeId) {b : Nat} (hb : b = w.heap.size) : ∀ j u, xs[j]? = some u → (w.alloc (.cells xs.toArray t)).cell? ((⟨b, 0, none⟩ : Addr).add j) = some u := by
  subst hb
  exact cells_new w xs t
theorem mk_capG (n : Nat) (hn : n ≤ 1048576) (W : World) : (Instr.makeSlice 90 (.int .i64 0) (.int .i64 (n : Int))).run Tryd.prog W = .ok (.slice (some ⟨W.heap.size, 0, none⟩) 0 n) (W.alloc (.cells (madeCells #[.int .i64 0, .int .i64 0, .int .i64 0, .int .i64 0] (n * 4)) 40)) := by
  obtain ⟨ii, hi, hz0, hz1, hz2⟩ := info_parts infoGate
  have hr := run_make (P := Tryd.prog) W 90 40 ii (.agg #[.int .i64 0, .int .i64 0, .int .i64 0, .int .i64 0]) Tryd.underlying90 hi hz0 .i64 .i64 0 n (by omega) (by omega) (by rw [hz2]; omega) (by omega)
  simp only [Int.toNat_zero, Int.toNat_natCast, hz1] at hr
  exact hr
theorem retG_acc {w w1 : World} {gs : List Gt} {v : Value} {t : TypeId} {n : Nat} {e : Ending} (ho : w1.ownsRow w.heap.size t 4 v n (gcells gs)) (hb : Below w.heap.size w w1) (he : e = .returned v) : RetG gs w e w1 := by
  obtain ⟨h1, h2⟩ := ho
  have hn : n = gs.length := by rw [gcells_len] at h1; omega
  subst hn
  rcases h2 with ⟨rfl, h0⟩ | ⟨g, cap, cur, rfl, hg, hh, hc, _, hs, ht⟩
  · have : gs = [] := List.eq_nil_of_length_eq_zero h0
    subst this
    exact ⟨none, 0, he, Nat.le_refl _, Own.nil _ _ _, hb⟩
  · refine ⟨_, cap, he, hc, fun _ => ?_, hb⟩
    have hB : Blk w1 g t cur := hh
    refine ⟨g, 0, rfl, hg, hB.lt, fun j u hu => ?_⟩
    rw [Nat.zero_add]
    refine ⟨?_, hB.frozen j⟩
    rw [hB.cell]
    rw [← ht, List.getElem?_take] at hu
    split at hu
    · simpa using hu
    · cases hu
theorem retG_nil {w w1 : World} {e : Ending} {A : Option Addr} {c : Nat} {gs : List Gt} (hz : gs = []) (hb : Below w.heap.size w w1) (he : e = .returned (.slice A 0 c)) : RetG gs w e w1 := by
  subst hz
  exact ⟨A, c, he, Nat.zero_le _, Own.nil _ _ _, hb⟩

section
open Go.ChangeShapes Go.WideShapes Go.Deep
variable {H : Type} {enc : TypeId × Value → H} {P : Program} {w : World} {base : Nat} {spare : Nat → Bool} {held : Bool}
theorem open_slice_fields {t e : TypeId} {fs : Array Field} {fuel : Nat} {cs : List Value} {x : DataW H × List MemPlace} (ht : P.underlying t = some (.slice e)) (he : P.underlying e = some (.struct fs))
    (hone : oneCellFields P fs = true) (hC : P.cellsOf e = fs.size) (h : DataW.trod enc P w base spare held fuel t cs = some x) :
    (cs = [.slice none 0 0] ∧ x = (.nil, [])) ∨
    ∃ (a : Addr) (len cap m : Nat) (D : Nat → DataW H) (Pl : Nat → List MemPlace), cs = [.slice (some a) len cap] ∧ base ≤ a.block ∧ len ≤ cap ∧ cap ≤ maxLen ∧ m = (if spare a.block then cap else len) ∧
      x = (.slice ((List.range len).map D) ((List.range (m - len)).map fun j => D (len + j)), MemPlace.row a (m * fs.size) ++ (List.range m).flatMap Pl) ∧
      ∀ i, i < m → ∃ (ys : List (DataW H × List MemPlace)) (n : Nat), D i = .agg (ys.map (·.1)) ∧ Pl i = ys.flatMap (·.2) ∧ ys.length = fs.size ∧
        ∀ (j : Nat) (f : Field), fs[j]? = some f → ∃ (v : Value) (y : DataW H × List MemPlace), w.cell? (a.add (i * fs.size + j)) = some v ∧ ys[j]? = some y ∧ DataW.trod enc P w base spare held n f.type [v] = some y := by
  rcases open_slice ht h with h0 | ⟨a, len, cap, m, n, D, Pl, hcs, hb, hl, hm, hmm, hx, hi⟩
  · exact .inl h0
  · refine .inr ⟨a, len, cap, m, D, Pl, hcs, hb, hl, hm, hmm, by rw [hC] at hx; exact hx, fun i him => ?_⟩
    obtain ⟨cs', hc, ht'⟩ := hi i him
    rw [hC] at hc
    obtain ⟨ys, n', hn', hy, hlen, hyl, hf⟩ := DataW.trod_struct he ht'
    obtain ⟨_, hcl, hat⟩ := World.cells?_some hc
    simp only [Prod.mk.injEq] at hy
    refine ⟨ys, n', hy.1, hy.2, hyl, fun j f hj => ?_⟩
    obtain ⟨ho, hk⟩ := hone_of hone j f hj
    have hjl : j < fs.size := (Array.getElem?_eq_some_iff.1 hj).1
    have hcell := hat j hjl
    have hv : cs'[j]? = some (cs'[j]'(by omega)) := List.getElem?_eq_getElem (by omega)
    have h1 := hf j f hj
    rw [ho, hk] at h1
    have hone' : (cs'.drop j).take 1 = [cs'[j]'(by omega)] := by
      rw [List.drop_eq_getElem_cons (by omega)]
      rfl
    rw [hone'] at h1
    have hys : ys[j]? = some (ys[j]'(by omega)) := List.getElem?_eq_getElem (by omega)
    refine ⟨_, _, ?_, hys, h1.trans hys⟩
    rw [← Go.Deep.add_add, hcell, hv]

theorem open_gates_in {r : Reach} {b0 ti : Nat} {t e : TypeId} {f0 f1 f2 f3 : Field} {v : Value} {d : DataW H} {p : List MemPlace} (ht : P.underlying t = some (.slice e)) (he : P.underlying e = some (.struct #[f0, f1, f2, f3])) (hone : oneCellFields P #[f0, f1, f2, f3] = true) (hC : P.cellsOf e = 4 ∧ f0.type = ti ∧ f1.type = ti ∧ f2.type = ti ∧ f3.type = ti)
    (hi : P.underlying ti = some (.int .i64)) (hv : Value.okWide P w r b0 t v) (h : DataW.Trod enc P w base spare held t v d p) : ∃ (A : Option Addr) (n c : Nat) (gs : List Gt), v = .slice A n c ∧ GatesIn w A n c gs := by
  obtain ⟨a0, len0, cap0, rfl⟩ := okWide_slice ht hv
  obtain ⟨fuel, hf⟩ := h
  rcases open_slice_fields ht he hone hC.1 hf with ⟨hcs, _⟩ | ⟨x, l, c, m, D, Pl, hcs, _, hl, hm, hmm, _, hcell⟩
  · simp [Value.cells] at hcs
    obtain ⟨rfl, rfl, rfl⟩ := hcs
    exact ⟨none, 0, 0, [], rfl, Nat.le_refl _, by simp [maxLen], rfl, trivial, Reads.none_⟩
  · simp [Value.cells] at hcs
    obtain ⟨rfl, rfl, rfl⟩ := hcs
    have hlm : len0 ≤ m := by rw [hmm]; split <;> omega
    have key : ∀ i, i < len0 → ∃ g : Gt, w.cell? (x.add (i * 4)) = some (.int .i64 g.k) ∧ w.cell? (x.add (i * 4 + 1)) = some (.int .i64 g.a) ∧ w.cell? (x.add (i * 4 + 2)) = some (.int .i64 g.b) ∧ w.cell? (x.add (i * 4 + 3)) = some (.int .i64 g.c) := fun i him => by
      obtain ⟨ys, n, _, _, _, hq⟩ := hcell i (by omega)
      obtain ⟨v0, y0, c0, _, t0⟩ := hq 0 f0 rfl
      obtain ⟨v1, y1, c1, _, t1⟩ := hq 1 f1 rfl
      obtain ⟨v2, y2, c2, _, t2⟩ := hq 2 f2 rfl
      obtain ⟨v3, y3, c3, _, t3⟩ := hq 3 f3 rfl
      rw [hC.2.1] at t0
      rw [hC.2.2.1] at t1
      rw [hC.2.2.2.1] at t2
      rw [hC.2.2.2.2] at t3
      obtain ⟨x0, e0, _, _⟩ := DataW.trod_int hi t0
      obtain ⟨x1, e1, _, _⟩ := DataW.trod_int hi t1
      obtain ⟨x2, e2, _, _⟩ := DataW.trod_int hi t2
      obtain ⟨x3, e3, _, _⟩ := DataW.trod_int hi t3
      simp at e0 e1 e2 e3
      subst e0 e1 e2 e3
      exact ⟨⟨x0, x1, x2, x3⟩, c0, c1, c2, c3⟩
    have hs : 0 < len0 → x.spot = none ∧ x.block < w.heap.size := fun h0 => by
      obtain ⟨g, c0, _⟩ := key 0 h0
      have hsp : (x.add (0 * 4)).spot = none := World.cell?_spot c0
      have hbl := World.block_lt_of_cell? _ _ c0
      rw [block_of_add] at hbl
      exact ⟨by simpa [Addr.add] using hsp, hbl⟩
    refine ⟨some x, len0, cap0, (List.range len0).map fun i => if h : i < len0 then Classical.choose (key i h) else g0, rfl, hl, hm, by simp, trivial, by rw [gcells_len]; simp, fun hn => ⟨x, rfl, (hs hn).1, (hs hn).2, fun j u hu => ?_⟩⟩
    obtain ⟨q, i, rfl, hq, hu⟩ := gcells_get hu
    rw [List.length_map, List.length_range] at hq
    have hd : ((List.range len0).map fun i => if h : i < len0 then Classical.choose (key i h) else g0).getD q g0 = Classical.choose (key q hq) := by
      simp [List.getD, hq]
    rw [hd] at hu
    obtain ⟨c0, c1, c2, c3⟩ := Classical.choose_spec (key q hq)
    rcases hu with ⟨rfl, rfl⟩ | ⟨rfl, rfl⟩ | ⟨rfl, rfl⟩ | ⟨rfl, rfl⟩
    · exact c0
    · exact c1
    · exact c2
    · exact c3
end
end Go.Proofs.YtffkoeobehocjaaDoor
