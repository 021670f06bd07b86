/- Lists of steps: how they lie in memory, and contracts of toStep, toStepS, eqStep, eqStepS, markStepS, szStepS. -/
import Derived.Test.YtpahhgehamgkaaaIntsB
import Derived.Deep.LoopGhost
import Derived.Deep.Slices
import Derived.Deep.Fields
import Derived.ChangeSame
import Derived.Deep.RegionWith
import Derived.Deep.WholeRow
import Derived.Lib.SmallJoins
namespace Go.Proofs.Ytpahhgehamgkaaa
open Go.RowKit
set_option linter.unusedVariables false

/-- a step -/
structure St where
  o : Int
  x : Int
  y : Int
def St.cells (g : St) : List Value := [.int .i64 g.o, .int .i64 g.x, .int .i64 g.y]
def St.val (g : St) : Value := .agg #[.int .i64 g.o, .int .i64 g.x, .int .i64 g.y]

/-- the cells of some steps -/
def scells (gs : List St) : List Value := gs.flatMap St.cells
theorem scells_len (gs : List St) : (scells gs).length = gs.length * 3 := by
  induction gs with
  | nil => rfl
  | cons g r ih =>
    show (St.cells g ++ scells r).length = _
    rw [List.length_append, ih, List.length_cons]
    simp [St.cells]
    omega
theorem scells_app (gs hs : List St) : scells (gs ++ hs) = scells gs ++ scells hs := by simp [scells]
theorem scells_one (g : St) : scells [g] = g.cells := by simp [scells]
theorem scells_ok (gs : List St) : ∀ u ∈ scells gs, u.oneCell' = true := by
  intro u hu
  obtain ⟨g, _, h⟩ := List.mem_flatMap.1 hu
  simp [St.cells] at h
  rcases h with rfl | rfl | rfl <;> rfl
def s0 : St := ⟨0, 0, 0⟩
theorem scells_at (gs : List St) (k : Nat) (h : k < gs.length) : (scells gs)[k * 3]? = some (.int .i64 (gs.getD k s0).o) ∧ (scells gs)[k * 3 + 1]? = some (.int .i64 (gs.getD k s0).x) ∧ (scells gs)[k * 3 + 2]? = some (.int .i64 (gs.getD k s0).y) := by
  induction gs generalizing k with
  | nil => simp at h
  | cons g r ih =>
    have e : scells (g :: r) = .int .i64 g.o :: .int .i64 g.x :: .int .i64 g.y :: scells r := rfl
    cases k with
    | zero => rw [e]; simp
    | succ k =>
      have := ih k (by simpa using h)
      rw [e, show (k + 1) * 3 = k * 3 + 3 from by omega]
      simpa using this
theorem scells_take (gs : List St) (k : Nat) : scells (gs.take k) = (scells gs).take (k * 3) := by
  induction gs generalizing k with
  | nil => simp [scells]
  | cons g r ih =>
    cases k with
    | zero => simp [scells]
    | succ k =>
      rw [List.take_succ_cons, show (k + 1) * 3 = k * 3 + 3 from by omega]
      have e : ∀ r, scells (g :: r) = .int .i64 g.o :: .int .i64 g.x :: .int .i64 g.y :: scells r := fun r => rfl
      rw [e, e, ih]
      rfl

/-- the three cells of a step lie from here on -/
def SAt (w : World) (b o : Nat) (g : St) : Prop :=
  w.cell? ⟨b, o, none⟩ = some (.int .i64 g.o) ∧ w.cell? ⟨b, o + 1, none⟩ = some (.int .i64 g.x) ∧ w.cell? ⟨b, o + 2, none⟩ = some (.int .i64 g.y)
theorem SAt.keep {w w' : World} {b o : Nat} {g : St} (h : SAt w b o g) (hk : ∀ i, w'.cell? ⟨b, i, none⟩ = w.cell? ⟨b, i, none⟩) : SAt w' b o g :=
  ⟨(hk _).trans h.1, (hk _).trans h.2.1, (hk _).trans h.2.2⟩
theorem SAt.below {w w' : World} {b o B : Nat} {g : St} (h : SAt w b o g) (hb : Below B w w') (hB : b < B) : SAt w' b o g := h.keep fun i => hb.cell (p := ⟨b, i, none⟩) hB
theorem Reads.openS {w : World} {B n : Nat} {A : Option Addr} {gs : List St} (h : Reads w B 3 A n (scells gs)) (hz : gs.length = n) (hn : 0 < n) :
    ∃ b o, A = some ⟨b, o, none⟩ ∧ b < B ∧ ∀ j, j < n → SAt w b (o + j * 3) (gs.getD j s0) := by
  obtain ⟨⟨b, o, sp⟩, e, hs, hb, hc⟩ := h.2 hn
  simp only at hs
  subst hs
  refine ⟨b, o, e, hb, fun j hj => ?_⟩
  obtain ⟨h0, h1, h2⟩ := scells_at gs j (by omega)
  have c0 := hc _ _ h0
  have c1 := hc _ _ h1
  have c2 := hc _ _ h2
  rw [add_off] at c0 c1 c2
  exact ⟨c0, by rw [Nat.add_assoc]; exact c1, by rw [Nat.add_assoc]; exact c2⟩

/-- a list of steps in new memory is returned -/
def RetS (gs : List St) (w : World) (e : Ending) (w' : World) : Prop :=
  ∃ A c, e = .returned (.slice A gs.length c) ∧ gs.length ≤ c ∧ Own w' w.heap.size A (scells gs) ∧ Below w.heap.size w w'
/-- a slice of steps that came in -/
def StepsIn (w : World) (A : Option Addr) (n c : Nat) (gs : List St) : Prop :=
  n ≤ c ∧ c ≤ maxLen ∧ gs.length = n ∧ True ∧ Reads w w.heap.size 3 A n (scells gs)

theorem infoStep : (Try.prog.info? 35).map (fun i => (i.zero, i.size, i.bytes)) = some (some (.agg #[.int .i64 0, .int .i64 0, .int .i64 0]), 3, 24) := by kernel_rfl

theorem mkSteps (n : Nat) (hn : n ≤ 1048576) (W : World) : (Instr.makeSlice 39 (.int .i64 (n : Int)) (.int .i64 (n : Int))).run Try.prog W = .ok (.slice (some ⟨W.heap.size, 0, none⟩) n n) (W.alloc (.cells (madeCells #[.int .i64 0, .int .i64 0, .int .i64 0] (n * 3)) 35)) := by
  obtain ⟨ii, hi, hz0, hz1, hz2⟩ := info_parts infoStep
  have hr := run_make (P := Try.prog) W 39 35 ii (.agg #[.int .i64 0, .int .i64 0, .int .i64 0]) Try.underlying39 hi hz0 .i64 .i64 n n (by omega) (by omega) (by rw [hz2]; omega) (by omega)
  simp only [Int.toNat_natCast, hz1] at hr
  exact hr
theorem rowS_made (w : World) (n : Nat) (t : TypeId) : (w.alloc (.cells (madeCells #[.int .i64 0, .int .i64 0, .int .i64 0] (n * 3)) t)).rowIs w.heap.size t (n * 3) (fun _ => .int .i64 0) := by
  have := World.rowIs_alloc w (madeCells #[.int .i64 0, .int .i64 0, .int .i64 0] (n * 3)) t (fun _ => .int .i64 0) (fun i hi => by
    rw [size_madeCells] at hi
    have h4 : i % 3 = 0 ∨ i % 3 = 1 ∨ i % 3 = 2 := by omega
    simp [madeCells, hi]
    rcases h4 with e | e | e <;> simp [e])
  rwa [size_madeCells] at this

def svl (gs : List St) (j : Nat) : Value := (scells gs).getD j (.int .i64 0)
theorem svl_at (gs : List St) (k : Nat) (h : k < gs.length) : svl gs (k * 3) = .int .i64 (gs.getD k s0).o ∧ svl gs (k * 3 + 1) = .int .i64 (gs.getD k s0).x ∧ svl gs (k * 3 + 2) = .int .i64 (gs.getD k s0).y := by
  obtain ⟨h0, h1, h2⟩ := scells_at gs k h
  unfold svl List.getD
  rw [h0, h1, h2]
  exact ⟨rfl, rfl, rfl⟩
/-- the first k steps of a list, then 0 -/
def cpS (gs : List St) (k j : Nat) : Value := if j < k * 3 then svl gs j else .int .i64 0
theorem row_setS {w : World} {G n k : Nat} {t : TypeId} {gs : List St} (h : w.rowIs G t (n * 3) (cpS gs k)) (hk : k < gs.length) {x0 x1 x2 : Int} (hg : gs.getD k s0 = ⟨x0, x1, x2⟩) :
    (((w.setCell ⟨G, k * 3, none⟩ (.int .i64 x0)).setCell ⟨G, k * 3 + 1, none⟩ (.int .i64 x1)).setCell ⟨G, k * 3 + 2, none⟩ (.int .i64 x2)).rowIs G t (n * 3) (cpS gs (k + 1)) := by
  refine (((h.set (k * 3) _).set (k * 3 + 1) _).set (k * 3 + 2) _).congr fun j hj => ?_
  obtain ⟨h0, h1, h2⟩ := svl_at gs k hk
  rw [hg] at h0 h1 h2
  unfold cpS
  by_cases e2 : j = k * 3 + 2
  · rw [if_pos e2, if_pos (by omega), e2, h2]
  · rw [if_neg e2]
    by_cases e1 : j = k * 3 + 1
    · rw [if_pos e1, if_pos (by omega), e1, h1]
    · rw [if_neg e1]
      by_cases e0 : j = k * 3
      · rw [if_pos e0, if_pos (by omega), e0, h0]
      · rw [if_neg e0]
        by_cases hlt : j < k * 3
        · rw [if_pos hlt, if_pos (by omega)]
        · rw [if_neg hlt, if_neg (by omega)]
theorem own_of_rowS {w : World} {B g n : Nat} {t : TypeId} {gs : List St} {f : Nat → Value} (h : w.rowIs g t (n * 3) f) (hB : B ≤ g) (hz : gs.length = n) (hf : ∀ j, j < n * 3 → f j = svl gs j) : Own w B (some ⟨g, 0, none⟩) (scells gs) := fun _ => by
  refine ⟨g, 0, rfl, hB, h.lt, fun j u hu => ?_⟩
  rw [Nat.zero_add]
  have hj : j < n * 3 := by
    rcases Nat.lt_or_ge j (n * 3) with hj | hj
    · exact hj
    · rw [List.getElem?_eq_none (by rw [scells_len]; omega)] at hu; cases hu
  refine ⟨?_, h.frozen j⟩
  rw [h.cell hj, hf j hj]
  unfold svl List.getD
  rw [hu]
  rfl

theorem step_size {cs : Array Value} (h : cs.size = 3) : (Try.prog.info? 35).map (·.size) = some cs.size := by rw [h]; kernel_rfl
theorem results_cellS {fn : Func} {p : Tmp} {ty : TypeId} {tmps : Array Value} {P : Program} {w : World} {a : Addr} {v : Value} (h : fn.results = #[.cell p ty]) (ha : tmps.getD p undef = .pointer (some a))
    (hv : (loadVar ty a).run P w = .ok v w) : (results fn tmps).run P w = .ok v w := by
  have h1 : (results fn tmps).run P w = ((asAddr (tmps.getD p undef)).run P w).andThen fun a w₁ => (loadVar ty a).run P w₁ := by
    simp only [results, h]
    simp [Sem.run_bind, Result.andThen]
  rw [h1, ha]
  exact hv
theorem load_blkS {P : Program} {w : World} {g : Nat} {t ty : TypeId} {cs : Array Value} {d : TypeDesc} (h : Blk w g t cs) (hu : P.underlying ty = some d) (hd : (match d with | .struct _ | .array _ _ => true | _ => false) = true) (hi : (P.info? ty).map (·.size) = some cs.size) :
    (loadVar ty ⟨g, 0, none⟩).run P w = .ok (.agg cs) w := run_loadVar_row _ _ t ty cs (0, 0) _ h hu hd hi
theorem toStep_any (a b c : Int) (w : World) :
    Calls Try.prog 17 #[.agg #[.int .i64 a, .int .i64 b, .int .i64 c]] w fun e w' => e = .returned (.agg #[.int .i64 a, .int .i64 b, .int .i64 c]) ∧ Below w.heap.size w w' := by
  go_enter Try.func17, Try.ntmps17
  go_wp2
  have hB : ∀ o1 o3 : Obj, Blk (((w.alloc o1).alloc (.cells #[.int .i64 a, .int .i64 b, .int .i64 c] 35)).alloc o3) (w.heap.size + 1) 35 #[.int .i64 a, .int .i64 b, .int .i64 c] := fun o1 o3 => by
    have h0 := (Blk.new (w.alloc o1) 35 #[.int .i64 a, .int .i64 b, .int .i64 c]).alloc o3
    simpa using h0
  exact bodyPost_ret (v := .agg #[.int .i64 a, .int .i64 b, .int .i64 c]) (results_cellS Try.results17 rfl (load_blkS (hB _ _) Try.underlying35 rfl (step_size rfl))) rfl ⟨rfl, (((Below.refl _ _).alloc (Nat.le_refl _) _).alloc (by simp) _).alloc (by simp; omega) _⟩

/-- n steps with numbers from k on -/
def marksS (k : Int) (n : Nat) : List St := (List.range n).map fun i : Nat => ⟨k + 3 * i, k + 3 * i + 1, k + 3 * i + 2⟩
theorem marksS_len (k : Int) (n : Nat) : (marksS k n).length = n := by simp [marksS]
theorem marksS_at (k : Int) (n j : Nat) (h : j < n) : (marksS k n).getD j s0 = ⟨k + 3 * j, k + 3 * j + 1, k + 3 * j + 2⟩ := by
  simp [marksS, List.getD, List.getElem?_map, List.getElem?_range h]

/-- the cells of a step may be written -/
def FAtS (w : World) (b o : Nat) : Prop := w.frozen? ⟨b, o, none⟩ = false ∧ w.frozen? ⟨b, o + 1, none⟩ = false ∧ w.frozen? ⟨b, o + 2, none⟩ = false
theorem Sl.openS {w : World} {lo hi : Nat} {A : Option Addr} {gs : List St} (h : Sl w lo hi A (scells gs)) (hn : 0 < gs.length) :
    ∃ b o, A = some ⟨b, o, none⟩ ∧ lo ≤ b ∧ b < hi ∧ hi ≤ w.heap.size ∧ ∀ j, j < gs.length → SAt w b (o + j * 3) (gs.getD j s0) ∧ FAtS w b (o + j * 3) := by
  obtain ⟨b, o, e, h1, h2, hc⟩ := h.2 (by rw [scells_len]; omega)
  refine ⟨b, o, e, h1, h2, h.1, fun j hj => ?_⟩
  obtain ⟨e0, e1, e2⟩ := scells_at gs j hj
  have c0 := hc _ _ e0
  have c1 := hc _ _ e1
  have c2 := hc _ _ e2
  rw [← Nat.add_assoc] at c1 c2
  exact ⟨⟨c0.1, c1.1, c2.1⟩, ⟨c0.2, c1.2, c2.2⟩⟩
theorem scells_get {gs : List St} {t : Nat} {u : Value} (hu : (scells gs)[t]? = some u) : ∃ j i, t = j * 3 + i ∧ j < gs.length ∧ (i = 0 ∧ u = .int .i64 (gs.getD j s0).o ∨ i = 1 ∧ u = .int .i64 (gs.getD j s0).x ∨ i = 2 ∧ u = .int .i64 (gs.getD j s0).y) := by
  have ht : t < gs.length * 3 := by
    rcases Nat.lt_or_ge t (gs.length * 3) with h | h
    · exact h
    · rw [List.getElem?_eq_none (by rw [scells_len]; omega)] at hu; cases hu
  obtain ⟨e0, e1, e2⟩ := scells_at gs (t / 3) (by omega)
  have hm : t % 3 = 0 ∨ t % 3 = 1 ∨ t % 3 = 2 := by omega
  refine ⟨t / 3, t % 3, by omega, by omega, ?_⟩
  rcases hm with h | h | h
  · rw [show t = t / 3 * 3 from by omega, e0] at hu; exact .inl ⟨h, (Option.some.inj hu).symm⟩
  · rw [show t = t / 3 * 3 + 1 from by omega, e1] at hu; exact .inr (.inl ⟨h, (Option.some.inj hu).symm⟩)
  · rw [show t = t / 3 * 3 + 2 from by omega, e2] at hu; exact .inr (.inr ⟨h, (Option.some.inj hu).symm⟩)
theorem Sl.mkS {w : World} {lo hi b o : Nat} {gs : List St} (h1 : lo ≤ b) (h2 : b < hi) (h3 : hi ≤ w.heap.size) (hc : ∀ j, j < gs.length → SAt w b (o + j * 3) (gs.getD j s0) ∧ FAtS w b (o + j * 3)) : Sl w lo hi (some ⟨b, o, none⟩) (scells gs) :=
  ⟨h3, fun _ => ⟨b, o, rfl, h1, h2, fun t u hu => by
    obtain ⟨j, i, rfl, hj, h⟩ := scells_get hu
    obtain ⟨⟨c0, c1, c2⟩, ⟨f0, f1, f2⟩⟩ := hc j hj
    rcases h with ⟨rfl, rfl⟩ | ⟨rfl, rfl⟩ | ⟨rfl, rfl⟩
    · exact ⟨c0, f0⟩
    · rw [← Nat.add_assoc]; exact ⟨c1, f1⟩
    · rw [← Nat.add_assoc]; exact ⟨c2, f2⟩⟩⟩
/-- three cells are written -/
def set3 (w : World) (b o : Nat) (x0 x1 x2 : Int) : World :=
  ((w.setCell ⟨b, o, none⟩ (.int .i64 x0)).setCell ⟨b, o + 1, none⟩ (.int .i64 x1)).setCell ⟨b, o + 2, none⟩ (.int .i64 x2)
theorem set3_other {w : World} {b o : Nat} {x0 x1 x2 : Int} {t : Nat} (h : t < o ∨ o + 3 ≤ t) : (set3 w b o x0 x1 x2).cell? ⟨b, t, none⟩ = w.cell? ⟨b, t, none⟩ := by
  unfold set3
  rw [World.cell?_setCell_other _ _ _ _ (by simp <;> omega), World.cell?_setCell_other _ _ _ _ (by simp <;> omega), World.cell?_setCell_other _ _ _ _ (by simp <;> omega)]
theorem set3_frozen {w : World} {b o : Nat} {x0 x1 x2 : Int} (a : Addr) : (set3 w b o x0 x1 x2).frozen? a = w.frozen? a := by
  unfold set3
  rw [frozen_set, frozen_set, frozen_set]
theorem set3_at {w : World} {b o : Nat} {x0 x1 x2 : Int} {g : St} (h : SAt w b o g) : SAt (set3 w b o x0 x1 x2) b o ⟨x0, x1, x2⟩ := by
  obtain ⟨h0, h1, h2⟩ := h
  unfold set3
  refine ⟨?_, ?_, ?_⟩ <;> go_simp

section
open Go.ChangeShapes Go.WideShapes Go.Deep Go.Joins
variable {H : Type} {enc : TypeId × Value → H} {P : Program} {w : World} {base : Nat} {spare : Nat → Bool} {held : Bool}
theorem open_slice_fieldsS {t e : TypeId} {fs : Array Field} {fuel : Nat} {cs : List Value} {x : DataW H × List MemPlace} (ht : P.underlying t = some (.slice e)) (he : P.underlying e = some (.struct fs))
    (hone : oneCellFields P fs = true) (hC : P.cellsOf e = fs.size) (h : DataW.trod enc P w base spare held fuel t cs = some x) :
    (cs = [.slice none 0 0] ∧ x = (.nil, [])) ∨
    ∃ (a : Addr) (len cap m : Nat) (D : Nat → DataW H) (Pl : Nat → List MemPlace), cs = [.slice (some a) len cap] ∧ base ≤ a.block ∧ len ≤ cap ∧ cap ≤ maxLen ∧ m = (if spare a.block then cap else len) ∧
      x = (.slice ((List.range len).map D) ((List.range (m - len)).map fun j => D (len + j)), MemPlace.row a (m * fs.size) ++ (List.range m).flatMap Pl) ∧
      ∀ i, i < m → ∃ (ys : List (DataW H × List MemPlace)) (n : Nat), D i = .agg (ys.map (·.1)) ∧ Pl i = ys.flatMap (·.2) ∧ ys.length = fs.size ∧
        ∀ (j : Nat) (f : Field), fs[j]? = some f → ∃ (v : Value) (y : DataW H × List MemPlace), w.cell? (a.add (i * fs.size + j)) = some v ∧ ys[j]? = some y ∧ DataW.trod enc P w base spare held n f.type [v] = some y := by
  rcases open_slice ht h with h0 | ⟨a, len, cap, m, n, D, Pl, hcs, hb, hl, hm, hmm, hx, hi⟩
  · exact .inl h0
  · refine .inr ⟨a, len, cap, m, D, Pl, hcs, hb, hl, hm, hmm, by rw [hC] at hx; exact hx, fun i him => ?_⟩
    obtain ⟨cs', hc, ht'⟩ := hi i him
    rw [hC] at hc
    obtain ⟨ys, n', hn', hy, hlen, hyl, hf⟩ := DataW.trod_struct he ht'
    obtain ⟨_, hcl, hat⟩ := World.cells?_some hc
    simp only [Prod.mk.injEq] at hy
    refine ⟨ys, n', hy.1, hy.2, hyl, fun j f hj => ?_⟩
    obtain ⟨ho, hk⟩ := hone_of hone j f hj
    have hjl : j < fs.size := (Array.getElem?_eq_some_iff.1 hj).1
    have hcell := hat j hjl
    have hv : cs'[j]? = some (cs'[j]'(by omega)) := List.getElem?_eq_getElem (by omega)
    have h1 := hf j f hj
    rw [ho, hk] at h1
    have hone' : (cs'.drop j).take 1 = [cs'[j]'(by omega)] := by
      rw [List.drop_eq_getElem_cons (by omega)]
      rfl
    rw [hone'] at h1
    have hys : ys[j]? = some (ys[j]'(by omega)) := List.getElem?_eq_getElem (by omega)
    refine ⟨_, _, ?_, hys, h1.trans hys⟩
    rw [← Go.Deep.add_add, hcell, hv]

theorem open_steps_in {r : Reach} {b0 ti : Nat} {t e : TypeId} {f0 f1 f2 : Field} {v : Value} {d : DataW H} {p : List MemPlace} (ht : P.underlying t = some (.slice e)) (he : P.underlying e = some (.struct #[f0, f1, f2])) (hone : oneCellFields P #[f0, f1, f2] = true) (hC : P.cellsOf e = 3 ∧ f0.type = ti ∧ f1.type = ti ∧ f2.type = ti)
    (hi : P.underlying ti = some (.int .i64)) (hv : Value.okWide P w r b0 t v) (h : DataW.Trod enc P w base spare held t v d p) : ∃ (A : Option Addr) (n c : Nat) (gs : List St), v = .slice A n c ∧ StepsIn w A n c gs := by
  obtain ⟨a0, len0, cap0, rfl⟩ := okWide_slice ht hv
  obtain ⟨fuel, hf⟩ := h
  rcases open_slice_fieldsS ht he hone hC.1 hf with ⟨hcs, _⟩ | ⟨x, l, c, m, D, Pl, hcs, _, hl, hm, hmm, _, hcell⟩
  · simp [Value.cells] at hcs
    obtain ⟨rfl, rfl, rfl⟩ := hcs
    exact ⟨none, 0, 0, [], rfl, Nat.le_refl _, by simp [maxLen], rfl, trivial, Reads.none_⟩
  · simp [Value.cells] at hcs
    obtain ⟨rfl, rfl, rfl⟩ := hcs
    have hlm : len0 ≤ m := by rw [hmm]; split <;> omega
    have key : ∀ i, i < len0 → ∃ g : St, w.cell? (x.add (i * 3)) = some (.int .i64 g.o) ∧ w.cell? (x.add (i * 3 + 1)) = some (.int .i64 g.x) ∧ w.cell? (x.add (i * 3 + 2)) = some (.int .i64 g.y) := fun i him => by
      obtain ⟨ys, n, _, _, _, hq⟩ := hcell i (by omega)
      obtain ⟨v0, y0, c0, _, t0⟩ := hq 0 f0 rfl
      obtain ⟨v1, y1, c1, _, t1⟩ := hq 1 f1 rfl
      obtain ⟨v2, y2, c2, _, t2⟩ := hq 2 f2 rfl
      rw [hC.2.1] at t0
      rw [hC.2.2.1] at t1
      rw [hC.2.2.2] at t2
      obtain ⟨x0, e0, _, _⟩ := DataW.trod_int hi t0
      obtain ⟨x1, e1, _, _⟩ := DataW.trod_int hi t1
      obtain ⟨x2, e2, _, _⟩ := DataW.trod_int hi t2
      simp at e0 e1 e2
      subst e0 e1 e2
      exact ⟨⟨x0, x1, x2⟩, c0, c1, c2⟩
    have hs : 0 < len0 → x.spot = none ∧ x.block < w.heap.size := fun h0 => by
      obtain ⟨g, c0, _⟩ := key 0 h0
      have hsp : (x.add (0 * 3)).spot = none := World.cell?_spot c0
      have hbl := World.block_lt_of_cell? _ _ c0
      rw [block_of_add] at hbl
      exact ⟨by simpa [Addr.add] using hsp, hbl⟩
    refine ⟨some x, len0, cap0, (List.range len0).map fun i => if h : i < len0 then Classical.choose (key i h) else s0, rfl, hl, hm, by simp, trivial, by rw [scells_len]; simp, fun hn => ⟨x, rfl, (hs hn).1, (hs hn).2, fun j u hu => ?_⟩⟩
    obtain ⟨q, i, rfl, hq, hu⟩ := scells_get hu
    rw [List.length_map, List.length_range] at hq
    have hd : ((List.range len0).map fun i => if h : i < len0 then Classical.choose (key i h) else s0).getD q s0 = Classical.choose (key q hq) := by
      simp [List.getD, hq]
    rw [hd] at hu
    obtain ⟨c0, c1, c2⟩ := Classical.choose_spec (key q hq)
    rcases hu with ⟨rfl, rfl⟩ | ⟨rfl, rfl⟩ | ⟨rfl, rfl⟩
    · exact c0
    · exact c1
    · exact c2

theorem open_step {r : Reach} {b0 ti : Nat} {t : TypeId} {f0 f1 f2 : Field} {v : Value} {d : DataW H} {p : List MemPlace} (hs : P.underlying t = some (.struct #[f0, f1, f2])) (hone : oneCellFields P #[f0, f1, f2] = true) (hC : P.cellsOf t = 3 ∧ f0.type = ti ∧ f1.type = ti ∧ f2.type = ti)
    (hi : P.underlying ti = some (.int .i64)) (hv : Value.okWide P w r b0 t v) (h : DataW.Trod enc P w base spare held t v d p) : ∃ g : St, v = g.val := by
  obtain ⟨v0, v1, v2, y0, y1, y2, n, rfl, _, _, h0, h1, h2⟩ := open_agg3 hs hone hC.1 hv h
  rw [hC.2.1] at h0
  rw [hC.2.2.1] at h1
  rw [hC.2.2.2] at h2
  obtain ⟨x0, e0, _, _⟩ := DataW.trod_int hi h0
  obtain ⟨x1, e1, _, _⟩ := DataW.trod_int hi h1
  obtain ⟨x2, e2, _, _⟩ := DataW.trod_int hi h2
  simp at e0 e1 e2
  subst e0 e1 e2
  exact ⟨⟨x0, x1, x2⟩, rfl⟩
end
end Go.Proofs.Ytpahhgehamgkaaa
