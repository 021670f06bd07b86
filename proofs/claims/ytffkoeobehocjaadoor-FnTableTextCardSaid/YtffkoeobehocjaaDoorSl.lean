/- Slices of the call's own: where they lie, and how they are kept from call to call. No program is in sight. -/
import Derived.Test.YtffkoeobehocjaaDoorAppend
namespace Go.Proofs.YtffkoeobehocjaaDoor
open Go.RowKit

/-- outside the blocks from lo to hi nothing that was there has changed -/
structure Chg (lo hi : Nat) (w w' : World) : Prop where
  os : w'.os = w.os
  tape : w'.tape = w.tape
  output : w'.output = w.output
  size : w.heap.size ≤ w'.heap.size
  block : ∀ i, i < w.heap.size → (i < lo ∨ hi ≤ i) → w'.heap[i]? = w.heap[i]?
theorem Chg.of_only {lo hi g : Nat} {w w' : World} (h : w.grownBy w' (some g)) (h1 : lo ≤ g) (h2 : g < hi) : Chg lo hi w w' :=
  ⟨h.os, h.tape, h.output, h.size, fun i hi' hd => h.block i hi' (fun e => by have := Option.some.inj e; omega)⟩
theorem Chg.refl (lo hi : Nat) (w : World) : Chg lo hi w w := ⟨rfl, rfl, rfl, Nat.le_refl _, fun _ _ _ => rfl⟩
theorem Chg.below {lo hi B : Nat} {w w' : World} (h : Chg lo hi w w') (h1 : B ≤ lo) (h2 : B ≤ w.heap.size) : Below B w w' :=
  ⟨h.os, h.tape, h.output, h.size, fun i hi' => h.block i (by omega) (by omega)⟩

/-- a slice value with this address holds the cells xs, which may be written; they lie in the blocks from lo to hi -/
def Sl (w : World) (lo hi : Nat) (A : Option Addr) (xs : List Value) : Prop :=
  hi ≤ w.heap.size ∧ (0 < xs.length → ∃ g o, A = some ⟨g, o, none⟩ ∧ lo ≤ g ∧ g < hi ∧ ∀ j u, xs[j]? = some u → w.cell? ⟨g, o + j, none⟩ = some u ∧ w.frozen? ⟨g, o + j, none⟩ = false)
section
variable {w w' : World} {lo hi : Nat} {A : Option Addr} {xs : List Value}
theorem Sl.of_own {B : Nat} (h : Own w B A xs) : Sl w B w.heap.size A xs := ⟨Nat.le_refl _, fun hn => by
  obtain ⟨g, o, e, h1, h2, hc⟩ := h hn
  exact ⟨g, o, e, h1, h2, hc⟩⟩
theorem Sl.own (h : Sl w lo hi A xs) : Own w lo A xs := fun hn => by
  obtain ⟨g, o, e, h1, h2, hc⟩ := h.2 hn
  exact ⟨g, o, e, h1, Nat.lt_of_lt_of_le h2 h.1, hc⟩
theorem Sl.reads {size n : Nat} (h : Sl w lo hi A xs) (hl : xs.length = n * size) (hs : 0 < size) : Reads w hi size A n xs :=
  ⟨hl, fun hn => by
    obtain ⟨g, o, e, _, hg, hc⟩ := h.2 (by rw [hl]; exact Nat.mul_pos hn hs)
    exact ⟨⟨g, o, none⟩, e, rfl, hg, fun j u hu => by rw [add_off]; exact (hc j u hu).1⟩⟩
theorem Sl.keep (h : Sl w lo hi A xs) (hs : w.heap.size ≤ w'.heap.size) (hb : ∀ i, lo ≤ i → i < hi → w'.heap[i]? = w.heap[i]?) : Sl w' lo hi A xs :=
  ⟨Nat.le_trans h.1 hs, fun hn => by
    obtain ⟨g, o, e, h1, h2, hc⟩ := h.2 hn
    refine ⟨g, o, e, h1, h2, fun j u hu => ?_⟩
    have := hc j u hu
    exact ⟨(World.cell?_of_block (w := w) (hb g h1 h2)).trans this.1, (World.frozen?_of_block (w := w) (hb g h1 h2)).trans this.2⟩⟩
theorem Sl.below {D : Nat} (h : Sl w lo hi A xs) (hb : Below D w w') (hD : hi ≤ D) : Sl w' lo hi A xs := h.keep hb.size fun i _ h2 => hb.block i (by omega)
theorem Sl.next (h : Sl w lo hi A xs) (hb : Below w.heap.size w w') : Sl w' lo hi A xs := h.below hb h.1
theorem Sl.chg {l k : Nat} (h : Sl w lo hi A xs) (hb : Chg l k w w') (hd : hi ≤ l ∨ k ≤ lo) : Sl w' lo hi A xs := h.keep hb.size fun i h1 h2 => hb.block i (by have := h.1; omega) (by omega)
theorem Sl.wide {l k : Nat} (h : Sl w lo hi A xs) (hl : l ≤ lo) (hk : hi ≤ k) (hs : k ≤ w.heap.size) : Sl w l k A xs :=
  ⟨hs, fun hn => by
    obtain ⟨g, o, e, h1, h2, hc⟩ := h.2 hn
    exact ⟨g, o, e, by omega, by omega, hc⟩⟩
end
theorem Reads.next {w w' : World} {B size n : Nat} {A : Option Addr} {xs : List Value} (h : Reads w B size A n xs) (hb : Below w.heap.size w w') (hB : B ≤ w.heap.size) : Reads w' B size A n xs := h.below (hb.mono hB)
theorem Blk.next {w w' : World} {g : Nat} {t : TypeId} {cs : Array Value} (h : Blk w g t cs) (hb : Below w.heap.size w w') : Blk w' g t cs := h.below hb h.lt
theorem bnext {B : Nat} {a b c : World} (h : Below B a b) (k : Below b.heap.size b c) (hB : B ≤ a.heap.size) : Below B a c := h.trans (k.mono (Nat.le_trans hB h.size))

theorem Blk.chg {lo hi : Nat} {w w' : World} {g : Nat} {t : TypeId} {cs : Array Value} (h : Blk w g t cs) (hb : Chg lo hi w w') (hd : g < lo ∨ hi ≤ g) : Blk w' g t cs := (hb.block g h.lt hd).trans h
theorem box1 {w w1 : World} {t : TypeId} {cs : Array Value} (h : Below (w.alloc (.cells cs t)).heap.size (w.alloc (.cells cs t)) w1) : Blk w1 w.heap.size t cs ∧ Below w.heap.size w w1 :=
  ⟨(Blk.new w t cs).below h (by simp), ((Below.refl _ _).alloc (Nat.le_refl _) _).trans (h.mono (by simp))⟩
theorem box2 {w w1 : World} {t t' : TypeId} {cs cs' : Array Value} (h : Below ((w.alloc (.cells cs t)).alloc (.cells cs' t')).heap.size ((w.alloc (.cells cs t)).alloc (.cells cs' t')) w1) :
    Blk w1 w.heap.size t cs ∧ Blk w1 (w.heap.size + 1) t' cs' ∧ Below w.heap.size w w1 := by
  have h2 := Blk.new (w.alloc (.cells cs t)) t' cs'
  simp only [World.size_alloc] at h2
  exact ⟨((Blk.new w t cs).alloc _).below h (by simp; omega), h2.below h (by simp), (((Below.refl _ _).alloc (Nat.le_refl _) _).alloc (by simp) _).trans (h.mono (by simp; omega))⟩
theorem own_next {w w' : World} {base e size n : Nat} {v : Value} {xs : List Value} (h : w.ownsRow base e size v n xs) (hb : Below w.heap.size w w') : w'.ownsRow base e size v n xs :=
  h.kept (only_of_below hb none) (by cases v.ownBlock <;> simp)

theorem own_shape {w : World} {base e size n : Nat} {v : Value} {xs : List Value} (h : w.ownsRow base e size v n xs) : ∃ A c, v = .slice A n c ∧ n ≤ c := by
  rcases h.2 with ⟨rfl, h0⟩ | ⟨g, cap, cur, rfl, hg, hh, hc, _⟩
  · subst h0; exact ⟨_, _, rfl, Nat.le_refl _⟩
  · exact ⟨_, _, rfl, hc⟩
theorem own_pos {w : World} {base e size n : Nat} {v : Value} {xs : List Value} (h : w.ownsRow base e size v n xs) (hn : 0 < n) : ∃ g cap, v = .slice (some ⟨g, 0, none⟩) n cap ∧ base ≤ g ∧ g < w.heap.size ∧ n ≤ cap ∧ cap ≤ maxLen :=
  own_form h (fun e => by
    subst e
    rcases h.2 with ⟨_, h0⟩ | ⟨_, _, _, h0, _⟩
    · omega
    · cases h0)
theorem reads_new1 (w : World) (t : TypeId) (x : Value) : Reads (w.alloc (.cells #[x] t)) (w.heap.size + 1) 1 (some ⟨w.heap.size, 0, none⟩) 1 [x] := by
  refine ⟨rfl, fun _ => ⟨_, rfl, rfl, by simp, fun j u hu => ?_⟩⟩
  rw [add_off, Nat.zero_add, (Blk.new w t #[x]).cell]
  simpa using hu
theorem own_row_ne {w : World} {base e size n m g : Nat} {v : Value} {xs : List Value} {t : TypeId} {f : Nat → Value} (h : w.ownsRow base e size v n xs) (hr : w.rowIs g t m f) (hne : ¬ e = t) : v.ownBlock ≠ some g := by
  rcases h.2 with ⟨rfl, _⟩ | ⟨g', cap, cur, rfl, _, hh, _⟩
  · simp [Value.ownBlock]
  · intro he
    have : g' = g := by simpa [Value.ownBlock] using he
    subst this
    obtain ⟨c, hc, _⟩ := hr
    rw [hc] at hh
    injection hh with hh
    injection hh with _ ht
    exact hne ht.symm

theorem max_form (a b : Int) : (if a < b then b else a) = max a b := by
  rw [Int.max_def]
  split <;> split <;> omega


/-- a contract whose world is the same, or has drawn, as one whose old blocks are as they were -/
theorem Calls.toBelow {P : Program} {f : FuncId} {args : Array Value} {w : World} {r : Ending} (h : Calls P f args w fun e w' => e = r ∧ w = w') : Calls P f args w fun e w' => e = r ∧ Below w.heap.size w w' :=
  h.mono fun _ _ ⟨he, hw⟩ => ⟨he, by rw [← hw]; exact Below.refl _ _⟩
theorem Calls.drewBelow {P : Program} {f : FuncId} {args : Array Value} {w : World} {r : Ending} (h : Calls P f args w fun e w' => e = r ∧ ∃ d, w' = w.drewN d) : Calls P f args w fun e w' => e = r ∧ Below w.heap.size w w' :=
  h.mono fun _ _ ⟨he, d, hw⟩ => ⟨he, by rw [hw]; exact below_drewN (Below.refl _ _) d⟩
theorem Calls.idBelow {P : Program} {f : FuncId} {args : Array Value} {w : World} {r : Ending} (h : Calls P f args w fun e w' => e = r ∧ Below w.heap.size w w') : Calls P f args w fun e w' => e = r ∧ Below w.heap.size w w' := h
end Go.Proofs.YtffkoeobehocjaaDoor
