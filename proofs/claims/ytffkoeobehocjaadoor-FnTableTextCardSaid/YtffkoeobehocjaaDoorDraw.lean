/- Contracts of the reader of codes: l20Open, pick, odd. The value that is drawn is some number in its range. -/
import Derived.Test.YtffkoeobehocjaaDoorBits
import Derived.Deep.QuietTactic
import Derived.BigQuiet
import Derived.Deep.RegionWith
import Derived.Deep.RegionHeld3
namespace Go.Proofs.YtffkoeobehocjaaDoor
open Go.RowKit

/-- block r is a reader at place p over some bytes -/
def RdAt (w : World) (r p : Nat) : Prop :=
  ∃ (A : Option Addr) (n c : Nat) (zs : List Int), Blk w r 93 #[.slice A n c, .int .i64 p] ∧ n ≤ 2000 ∧ zs.length = n ∧ (∀ z ∈ zs, 0 ≤ z ∧ z ≤ 255) ∧ Reads w r 1 A n (zs.map (Value.int .u8))

theorem RdAt.lt {w : World} {r p : Nat} (h : RdAt w r p) : r < w.heap.size := by
  obtain ⟨A, n, c, zs, h, _⟩ := h
  exact h.lt
theorem RdAt.below {w w' : World} {r p : Nat} (h : RdAt w r p) (hb : Below w.heap.size w w') : RdAt w' r p := by
  have hl := h.lt
  obtain ⟨A, n, c, zs, h1, h2, h3, h4, h5⟩ := h
  exact ⟨A, n, c, zs, h1.below hb hl, h2, h3, h4, h5.keep fun q hq => hb.cell (by omega)⟩
theorem RdAt.alloc {w : World} {r p : Nat} (h : RdAt w r p) (o : Obj) : RdAt (w.alloc o) r p := h.below ((Below.refl _ _).alloc (Nat.le_refl _) o)

/-- what a draw of one of n leaves: some number of the range, the reader one place further, all other blocks as they were -/
def Picked (n : Int) (w : World) (r p : Nat) (e : Ending) (w' : World) : Prop :=
  ∃ v : Int, e = .returned (.int .i64 v) ∧ 0 ≤ v ∧ (v < n ∨ v = 0) ∧ v ≤ 9223372036854775807 ∧ RdAt w' r (p + 1) ∧ w.grownBy w' (some r)

theorem RdAt.step {w : World} {r p k : Nat} {A : Option Addr} {n c : Nat} {zs : List Int} (h1 : Blk w r 93 #[.slice A n c, .int .i64 p]) (h2 : n ≤ 2000) (h3 : zs.length = n)
    (h4 : ∀ z ∈ zs, 0 ≤ z ∧ z ≤ 255) (h5 : Reads w r 1 A n (zs.map (Value.int .u8))) {q : Int} (hq : q = ((p + 1 : Nat) : Int)) :
    RdAt ((w.setCell ⟨r, 1, none⟩ (.int .i64 q)).drewN k) r (p + 1) ∧ w.grownBy ((w.setCell ⟨r, 1, none⟩ (.int .i64 q)).drewN k) (some r) := by
  subst hq
  refine ⟨⟨A, n, c, zs, ((h1.set_ 1 _).drewN k), h2, h3, h4, h5.keep fun x hx => ?_⟩, only_drewN (only_setCell (World.grownBy.refl _ _) (.inl rfl) _) k⟩
  show (w.setCell ⟨r, 1, none⟩ _).cell? x = w.cell? x
  exact World.cell?_of_block (Below.heap_setCell w _ _ _ (by simp; omega))

theorem l20Open_any (A : Option Addr) (n c : Nat) (zs : List Int) (w : World) (h : IntsIn .u8 w A n c zs) :
    Calls Tryd.prog 38 #[.slice A n c] w fun e w' => ∃ r, e = .returned (.pointer (some ⟨r, 0, none⟩)) ∧ w.heap.size ≤ r ∧ RdAt w' r 0 ∧ Below w.heap.size w w' := by
  obtain ⟨hnc, hcm, hz, hwf, hr⟩ := h
  unfold maxLen at hcm
  have hbd : ∀ z ∈ zs, 0 ≤ z ∧ z ≤ 255 := fun z hz => bounds_u8 (hwf z hz)
  have hin : ∀ j u, (zs.map (Value.int .u8))[j]? = some u → j < zs.length := fun j u hu => by
    rcases Nat.lt_or_ge j zs.length with hj | hj
    · exact hj
    · rw [List.getElem?_eq_none (by simpa using hj)] at hu; cases hu
  by_cases hn : 2000 < n
  · go_enter Tryd.func38, Tryd.ntmps38
    go_wp2
    go_ret
    refine ⟨w.heap.size, rfl, Nat.le_refl _, ⟨A, 2000, c, zs.take 2000, Blk.new _ _ _, Nat.le_refl _, by rw [List.length_take]; omega, fun z hz => hbd z (List.mem_of_mem_take hz), ?_⟩, (Below.refl _ _).alloc (Nat.le_refl _) _⟩
    refine ⟨by simp [List.length_take]; omega, fun _ => ?_⟩
    obtain ⟨ad, e, hs, hb, hc⟩ := hr.2 (by omega)
    refine ⟨ad, e, hs, hb, fun j u hu => ?_⟩
    rw [World.cell?_alloc_lt w _ _ (by rw [block_of_add]; exact hb)]
    refine hc j u ?_
    rw [List.map_take, List.getElem?_take] at hu
    split at hu
    · exact hu
    · cases hu
  · go_enter Tryd.func38, Tryd.ntmps38
    go_wp2
    go_ret
    refine ⟨w.heap.size, rfl, Nat.le_refl _, ⟨A, n, c, zs, Blk.new _ _ _, by omega, hz, hbd, ?_⟩, (Below.refl _ _).alloc (Nat.le_refl _) _⟩
    exact hr.keep fun q hq => World.cell?_alloc_lt w _ _ hq

theorem pick_any (n : Int) (r p : Nat) (w : World) (h : RdAt w r p) (hp : p ≤ 1000000) (hn : n ≤ 9223372036854775807) :
    Calls Tryd.prog 45 #[.pointer (some ⟨r, 0, none⟩), .int .i64 n] w fun e w' => Picked n w r p e w' := by
  obtain ⟨A, m, c, zs, h1, h2, h3, h4, h5⟩ := h
  have hc0 : w.cell? ⟨r, 0, none⟩ = some (.slice A m c) := h1.cell 0
  have hc1 : w.cell? ⟨r, 1, none⟩ = some (.int .i64 p) := h1.cell 1
  have hf1 : w.frozen? ⟨r, 1, none⟩ = false := h1.frozen 1
  have fin := fun (k : Nat) => RdAt.step (k := k) h1 h2 h3 h4 h5 (q := (p : Int) + 1) (by omega)
  have HF := Lib.hid fin
  clear fin
  by_cases hn1 : n < 1
  · go_enter Tryd.func45, Tryd.ntmps45
    go_wp2
    go_ret
    exact ⟨0, rfl, Int.le_refl _, .inr rfl, by decide, (HF.out 0).1, (HF.out 0).2⟩
  · by_cases hm : m = 0
    · subst hm
      go_enter Tryd.func45, Tryd.ntmps45
      go_wp2
      go_ret
      exact ⟨0, rfl, Int.le_refl _, .inr rfl, by decide, (HF.out 0).1, (HF.out 0).2⟩
    · obtain ⟨ad, rfl, hs, hb, hcell⟩ := h5.2 (by omega)
      obtain ⟨b, o, sp⟩ := ad
      simp only at hs hb
      subst hs
      have hbr : b ≠ r := by omega
      have cellAt : ∀ j, j < m → ∃ z : Int, 0 ≤ z ∧ z ≤ 255 ∧ w.cell? ⟨b, o + j, none⟩ = some (.int .u8 z) := by
        intro j hj
        have hj' : j < zs.length := by omega
        refine ⟨zs[j], (h4 _ (List.getElem_mem hj')).1, (h4 _ (List.getElem_mem hj')).2, ?_⟩
        have := hcell j (.int .u8 zs[j]) (by rw [List.getElem?_map, List.getElem?_eq_getElem hj']; rfl)
        rwa [add_off] at this
      have hmz : ((m : Int) == 0) = false := by simp; omega
      by_cases hlt : p < m
      · obtain ⟨z, z0, z1, hz⟩ := cellAt p hlt
        clear cellAt hcell h5 hm
        have hlt' : (p : Int) < (m : Int) := by omega
        go_enter Tryd.func45, Tryd.ntmps45
        go_wp2
        go_ret
        have e1 := Int.emod_nonneg z (show n ≠ 0 by omega)
        have e2 := Int.emod_lt_of_pos z (show 0 < n by omega)
        exact ⟨z % n, rfl, e1, .inl e2, by omega, (HF.out 0).1, (HF.out 0).2⟩
      · obtain ⟨i, hi, ei⟩ : ∃ i : Nat, i < m ∧ (p : Int).tmod (m : Int) = (i : Int) := ⟨p % m, Nat.mod_lt _ (by omega), by rw [Int.tmod_eq_emod_of_nonneg (by omega)]; rfl⟩
        obtain ⟨j, hj, ej⟩ : ∃ j : Nat, j < m ∧ ((p : Int) * 7 + 3).tmod (m : Int) = (j : Int) := ⟨(p * 7 + 3) % m, Nat.mod_lt _ (by omega), by rw [Int.tmod_eq_emod_of_nonneg (by omega)]; rfl⟩
        obtain ⟨q, hq, eq⟩ : ∃ q : Nat, q ≤ p ∧ (p : Int).tdiv (m : Int) = (q : Int) := ⟨p / m, Nat.div_le_self _ _, by rw [Int.tdiv_eq_ediv_of_nonneg (by omega)]; rfl⟩
        obtain ⟨z, z0, z1, hz⟩ := cellAt i hi
        obtain ⟨y, y0, y1, hy⟩ := cellAt j hj
        clear cellAt hcell h5 hm
        have hlt' : ¬ (p : Int) < (m : Int) := by omega
        have hi' : (i : Int) < (m : Int) := by omega
        have hj' : (j : Int) < (m : Int) := by omega
        have hx := xor_bd (x := z * 131 + y * 1117 + (p : Int) * 29 + (q : Int) * 53) (y := (z * 131 + y * 1117 + (p : Int) * 29 + (q : Int) * 53) / 64) (by omega) (by omega) (by omega) (by omega)
        have k1 : IntKind.i64.wrap ((p : Int) * 7) = (p : Int) * 7 := by exact IntWalk.i64_in _ (by omega)
        have k2 : IntKind.i64.wrap ((p : Int) * 7 + 3) = (p : Int) * 7 + 3 := by exact IntWalk.i64_in _ (by omega)
        have k3 : IntKind.i64.wrap z = z := by exact IntWalk.i64_in _ (by omega)
        have k4 : IntKind.i64.wrap y = y := by exact IntWalk.i64_in _ (by omega)
        have k5 : IntKind.i64.wrap (z * 131) = z * 131 := by exact IntWalk.i64_in _ (by omega)
        have k6 : IntKind.i64.wrap (y * 1117) = y * 1117 := by exact IntWalk.i64_in _ (by omega)
        have k7 : IntKind.i64.wrap (z * 131 + y * 1117) = z * 131 + y * 1117 := by exact IntWalk.i64_in _ (by omega)
        have k8 : IntKind.i64.wrap ((p : Int) * 29) = (p : Int) * 29 := by exact IntWalk.i64_in _ (by omega)
        have k9 : IntKind.i64.wrap (z * 131 + y * 1117 + (p : Int) * 29) = z * 131 + y * 1117 + (p : Int) * 29 := by exact IntWalk.i64_in _ (by omega)
        have k10 : IntKind.i64.wrap ((q : Int) * 53) = (q : Int) * 53 := by exact IntWalk.i64_in _ (by omega)
        have k11 : IntKind.i64.wrap (z * 131 + y * 1117 + (p : Int) * 29 + (q : Int) * 53) = z * 131 + y * 1117 + (p : Int) * 29 + (q : Int) * 53 := by exact IntWalk.i64_in _ (by omega)
        have k12 : IntKind.i64.wrap (q : Int) = (q : Int) := by exact IntWalk.i64_in _ (by omega)
        go_enter Tryd.func45, Tryd.ntmps45
        go_wp2
        go_quiet (fail)
        clear k1 k2 k3 k4 k5 k6 k7 k8 k9 k10 k11 k12
        go_wp2
        go_ret
        have e1 := Int.emod_nonneg (bits BinOp.xor IntKind.i64 (z * 131 + y * 1117 + (p : Int) * 29 + (q : Int) * 53) ((z * 131 + y * 1117 + (p : Int) * 29 + (q : Int) * 53) / 64)) (show n ≠ 0 by omega)
        have e2 := Int.emod_lt_of_pos (bits BinOp.xor IntKind.i64 (z * 131 + y * 1117 + (p : Int) * 29 + (q : Int) * 53) ((z * 131 + y * 1117 + (p : Int) * 29 + (q : Int) * 53) / 64)) (show 0 < n by omega)
        exact ⟨_, rfl, e1, .inl e2, by omega, (HF.out nq).1, (HF.out nq).2⟩

/-- block r is a reader at a place up to p -/
def Rd (w : World) (r p : Nat) : Prop := ∃ q, q ≤ p ∧ RdAt w r q
theorem Rd.below {w w' : World} {r p : Nat} (h : Rd w r p) (hb : Below w.heap.size w w') : Rd w' r p := by
  obtain ⟨q, hq, h⟩ := h
  exact ⟨q, hq, h.below hb⟩
theorem Rd.alloc {w : World} {r p : Nat} (h : Rd w r p) (o : Obj) : Rd (w.alloc o) r p := h.below ((Below.refl _ _).alloc (Nat.le_refl _) o)
theorem Rd.mono {w : World} {r p q : Nat} (h : Rd w r p) (hq : p ≤ q) : Rd w r q := by
  obtain ⟨k, hk, h⟩ := h
  exact ⟨k, by omega, h⟩
theorem Rd.lt {w : World} {r p : Nat} (h : Rd w r p) : r < w.heap.size := by
  obtain ⟨q, _, h⟩ := h
  exact h.lt

/-- some number that meets Q was drawn; the reader is at a place up to p; all other old blocks are as they were -/
def Drawn (Q : Int → Prop) (w : World) (r p : Nat) (e : Ending) (w' : World) : Prop :=
  ∃ v : Int, e = .returned (.int .i64 v) ∧ Q v ∧ Rd w' r p ∧ w.grownBy w' (some r)
/-- a truth was drawn -/
def DrawnB (w : World) (r p : Nat) (e : Ending) (w' : World) : Prop :=
  ∃ b : Bool, e = .returned (.bool b) ∧ Rd w' r p ∧ w.grownBy w' (some r)

def under (n v : Int) : Prop := 0 ≤ v ∧ (v < n ∨ v = 0) ∧ v ≤ 9223372036854775807
theorem pick_rd (n : Int) (r p : Nat) (w : World) (h : Rd w r p) (hp : p ≤ 1000000) (hn : n ≤ 9223372036854775807) :
    Calls Tryd.prog 45 #[.pointer (some ⟨r, 0, none⟩), .int .i64 n] w fun e w' => Drawn (under n) w r (p + 1) e w' := by
  obtain ⟨q, hq, h⟩ := h
  refine (pick_any n r q w h (by omega) hn).mono fun e w' ⟨v, he, h0, h1, h2, h3, h4⟩ => ⟨v, he, ⟨h0, h1, h2⟩, ⟨q + 1, by omega, h3⟩, h4⟩

theorem odd_rd (n : Int) (r p : Nat) (w : World) (h : Rd w r p) (hp : p ≤ 1000000) (hn : n ≤ 9223372036854775807) :
    Calls Tryd.prog 64 #[.pointer (some ⟨r, 0, none⟩), .int .i64 n] w fun e w' => DrawnB w r (p + 1) e w' := by
  by_cases h0 : 0 < n
  · go_enter Tryd.func64, Tryd.ntmps64
    go_wp2_with (go_at_call 45; refine (pick_rd _ _ _ _ h hp hn).mono ?_; rintro e w1 ⟨v, rfl, hv, hr, hg⟩)
    go_ret
    exact ⟨_, rfl, hr, hg⟩
  · go_enter Tryd.func64, Tryd.ntmps64
    go_wp2
    go_ret
    exact ⟨_, rfl, h.mono (by omega), World.grownBy.refl _ _⟩

end Go.Proofs.YtffkoeobehocjaaDoor
