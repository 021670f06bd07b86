/- Contracts of l1Has, both LinesOf, nature, natures and some: the lines of a gate. -/
import Derived.Test.YtffkoeobehocjaaDoorBits
import Derived.Deep.RegionWith
import Derived.Lib.SmallJoins
import Derived.ProofKit
import Derived.Deep.QuietTactic
import Derived.BigQuiet
namespace Go.Proofs.YtffkoeobehocjaaDoor
open Go.RowKit

theorem Reads.open1 {w : World} {B n : Nat} {A : Option Addr} {k : IntKind} {zs : List Int} (h : Reads w B 1 A n (zs.map (Value.int k))) (hz : zs.length = n) (hn : 0 < n) :
    ∃ b o, A = some ⟨b, o, none⟩ ∧ b < B ∧ ∀ j, j < n → w.cell? ⟨b, o + j, none⟩ = some (.int k (zs.getD j 0)) := by
  obtain ⟨⟨b, o, sp⟩, e, hs, hb, hc⟩ := h.2 hn
  simp only at hs
  subst hs
  refine ⟨b, o, e, hb, fun j hj => ?_⟩
  have hj' : j < zs.length := by omega
  have := hc j (.int k zs[j]) (by rw [List.getElem?_map, List.getElem?_eq_getElem hj']; rfl)
  rw [add_off] at this
  rw [this]
  simp [List.getD, List.getElem?_eq_getElem hj']

/-- whether a list has a number -/
def hasB (zs : List Int) (x : Int) : Bool := zs.any (· == x)
theorem hasB_snoc (zs : List Int) (k : Nat) (hk : k < zs.length) (x : Int) : hasB (zs.take (k + 1)) x = (hasB (zs.take k) x || (zs.getD k 0 == x)) := by
  unfold hasB
  rw [List.take_succ_eq_append_getElem hk, List.any_append]
  simp [List.getD, List.getElem?_eq_getElem hk]
theorem hasB_take {zs : List Int} {k : Nat} {x : Int} (h : hasB (zs.take k) x = true) : hasB zs x = true := by
  unfold hasB at *
  rw [List.any_eq_true] at *
  obtain ⟨y, hy, h⟩ := h
  exact ⟨y, List.mem_of_mem_take hy, h⟩

theorem l1Has_any (A : Option Addr) (n c B : Nat) (zs : List Int) (x : Int) (w : World) (h : Reads w B 1 A n (zs.map (Value.int .i64))) (hz : zs.length = n) (hn : n ≤ 4611686018427387904) :
    Calls Tryd.prog 66 #[.slice A n c, .int .i64 x] w fun e w' => e = .returned (.bool (hasB zs x)) ∧ w = w' := by
  by_cases h0 : n = 0
  · subst h0
    have hzs : zs = [] := List.eq_nil_of_length_eq_zero hz
    subst hzs
    go_enter Tryd.func66, Tryd.ntmps66
    go_wp2
    refine wp_loop_rounds 1 ?_
    rw [rounds_succ]
    go_wp2
    go_ret
    exact ⟨rfl, rfl⟩
  · obtain ⟨b, o, rfl, hb, hc⟩ := h.open1 hz (by omega)
    clear h h0
    have Hz := Lib.hid hz
    clear hz
    have Hc := Lib.hid hc
    clear hc
    go_enter Tryd.func66, Tryd.ntmps66
    go_wp2
    go_loop [5] (fun i => ∃ k : Nat, k ≤ n ∧ i = .int .i64 k ∧ hasB (zs.take k) x = false) (fun i => n - (intOf i).toNat)
    case atStart => exact ⟨0, Nat.zero_le _, rfl, rfl⟩
    case round =>
      obtain ⟨k, hk, rfl, hno⟩ := hrel
      have Hno := Lib.hid hno
      clear hno
      by_cases hlt : k < n
      · have hc := Hc.out k hlt
        have Hs := Lib.hid (hasB_snoc zs k (by have := Hz.out; omega) x)
        have hlt' : (k : Int) < (n : Int) := by omega
        obtain ⟨z, hz⟩ : ∃ z, z = zs.getD k 0 := ⟨_, rfl⟩
        rw [← hz] at hc
        have HZ := Lib.hid hz
        clear hz
        by_cases he : z = x
        · have he' : (z == x) = true := by simp [he]
          have Hin := Lib.hid (hasB_take (zs := zs) (k := k + 1) (x := x) (by rw [Hs.out, ← HZ.out, he']; simp))
          clear he
          go_wp2
          go_ret
          exact ⟨ret_bool Hin.out.symm, rfl⟩
        · have he' : (z == x) = false := by simp [he]
          clear he
          go_wp2
          go_round
          case rel => exact ⟨k + 1, by omega, by go_num, by rw [Hs.out, Hno.out, ← HZ.out, he']; rfl⟩
          case measure => simp [intOf]; omega
      · have hlt' : ¬ (k : Int) < (n : Int) := by omega
        go_wp2
        go_ret
        refine ⟨ret_bool ?_, rfl⟩
        have := Hno.out
        rw [List.take_of_length_le (by have := Hz.out; omega)] at this
        exact this.symm

/-- a gate -/
structure Gt where
  k : Int
  a : Int
  b : Int
  c : Int
def Gt.cells (g : Gt) : List Value := [.int .i64 g.k, .int .i64 g.a, .int .i64 g.b, .int .i64 g.c]
def Gt.val (g : Gt) : Value := .agg #[.int .i64 g.k, .int .i64 g.a, .int .i64 g.b, .int .i64 g.c]

/-- a list of numbers in new memory is returned -/
def RetL (zs : List Int) (w : World) (e : Ending) (w' : World) : Prop :=
  ∃ A c, e = .returned (.slice A zs.length c) ∧ zs.length ≤ c ∧ Own w' w.heap.size A (zs.map (Value.int .i64)) ∧ Below w.heap.size w w'

/-- the lines of a gate -/
def linesOf (g : Gt) : List Int :=
  if g.k = 0 then [g.a] else if g.k = 1 ∨ g.k = 3 then [g.a, g.b] else if g.k = 2 ∨ g.k = 4 then [g.a, g.b, g.c] else []
theorem linesOf_len (g : Gt) : (linesOf g).length ≤ 3 := by
  unfold linesOf
  split
  · simp
  · split
    · simp
    · split <;> simp

theorem retL_new {w w1 : World} {zs : List Int} {t : TypeId} {cs : Array Value} {b n : Nat} (h : Below w.heap.size w w1) (hz : cs.toList = zs.map (Value.int .i64)) {e : Ending} (he : e = .returned (.slice (some ⟨b, 0, none⟩) n n)) (hb : b = w1.heap.size) (hn : n = zs.length) :
    RetL zs w e (w1.alloc (.cells cs t)) := by
  subst hb
  subst hn
  exact ⟨_, _, he, Nat.le_refl _, by rw [← hz]; exact (Blk.new w1 t cs).own h.size, h.alloc h.size _⟩

theorem specLinesOf_any (g : Gt) (w : World) :
    Calls Tryd.prog 48 #[g.val] w fun e w' => RetL (linesOf g) w e w' := by
  obtain ⟨k, a, b, c⟩ := g
  have hb : ∀ o : Obj, Below w.heap.size w (w.alloc o) := fun o => (Below.refl _ _).alloc (Nat.le_refl _) _
  have Hb := Lib.hid hb
  clear hb
  unfold Gt.val
  by_cases h0 : k = 0
  · subst h0
    go_enter Tryd.func48, Tryd.ntmps48
    go_wp2
    go_ret
    exact retL_new (Hb.out _) rfl rfl (by simp) rfl
  · by_cases h1 : k = 1
    · subst h1
      go_enter Tryd.func48, Tryd.ntmps48
      go_wp2
      go_ret
      exact retL_new (Hb.out _) rfl rfl (by simp) rfl
    · by_cases h2 : k = 2
      · subst h2
        go_enter Tryd.func48, Tryd.ntmps48
        go_wp2
        go_ret
        exact retL_new (Hb.out _) rfl rfl (by simp) rfl
      · by_cases h3 : k = 3
        · subst h3
          go_enter Tryd.func48, Tryd.ntmps48
          go_wp2
          go_ret
          exact retL_new (Hb.out _) rfl rfl (by simp) rfl
        · by_cases h4 : k = 4
          · subst h4
            go_enter Tryd.func48, Tryd.ntmps48
            go_wp2
            go_ret
            exact retL_new (Hb.out _) rfl rfl (by simp) rfl
          · have e0 : (k == 0) = false := by simp [h0]
            have e1 : (k == 1) = false := by simp [h1]
            have e2 : (k == 2) = false := by simp [h2]
            have e3 : (k == 3) = false := by simp [h3]
            have e4 : (k == 4) = false := by simp [h4]
            have hl : linesOf ⟨k, a, b, c⟩ = [] := by simp [linesOf, h0, h1, h2, h3, h4]
            have Hl := Lib.hid hl
            clear hl h0 h1 h2 h3 h4
            go_enter Tryd.func48, Tryd.ntmps48
            go_wp2
            go_ret
            rw [Hl.out]
            exact retL_new (Hb.out _) rfl rfl (by simp) rfl

section
open Go.Joins Go.ChangeShapes Go.WideShapes Go.Deep
variable {H : Type} {enc : TypeId × Value → H} {P : Program} {w : World} {base : Nat} {spare : Nat → Bool} {held : Bool}
theorem open_gate {r : Reach} {b0 ti : Nat} {t : TypeId} {f0 f1 f2 f3 : Field} {v : Value} {d : DataW H} {p : List MemPlace} (hs : P.underlying t = some (.struct #[f0, f1, f2, f3])) (hone : oneCellFields P #[f0, f1, f2, f3] = true) (hC : P.cellsOf t = 4 ∧ f0.type = ti ∧ f1.type = ti ∧ f2.type = ti ∧ f3.type = ti)
    (hi : P.underlying ti = some (.int .i64)) (hv : Value.okWide P w r b0 t v) (h : DataW.Trod enc P w base spare held t v d p) : ∃ g : Gt, v = g.val := by
  obtain ⟨v0, v1, v2, v3, y0, y1, y2, y3, n, rfl, _, _, h0, h1, h2, h3⟩ := open_agg4 hs hone hC.1 hv h
  rw [hC.2.1] at h0
  rw [hC.2.2.1] at h1
  rw [hC.2.2.2.1] at h2
  rw [hC.2.2.2.2] at h3
  obtain ⟨x0, e0, _, _⟩ := DataW.trod_int hi h0
  obtain ⟨x1, e1, _, _⟩ := DataW.trod_int hi h1
  obtain ⟨x2, e2, _, _⟩ := DataW.trod_int hi h2
  obtain ⟨x3, e3, _, _⟩ := DataW.trod_int hi h3
  simp at e0 e1 e2 e3
  subst e0 e1 e2 e3
  exact ⟨⟨x0, x1, x2, x3⟩, rfl⟩
end
end Go.Proofs.YtffkoeobehocjaaDoor
