/- Contracts of spec.CircuitTable at circuits that are not valid, and of DrawTableThen. -/
import Derived.Test.YtfpnjahdjppeaaaDrawT
namespace Go.Proofs.Ytfpnjahdjppeaaa
open Go.RowKit
set_option linter.unusedVariables false
set_option linter.unusedSimpArgs false

set_option maxHeartbeats 1000000 in
theorem specTable_none (l : Int) (A : Option Addr) (n c B : Nat) (gs : List Gt) (w : World) (h : Reads w B 4 A n (gcells gs)) (hB : B ≤ w.heap.size) (hz : gs.length = n) (hc : n ≤ c) (hn : n ≤ 1048576) (hv : circB l gs = false) :
    Calls Try.prog 38 #[.int .i64 l, .slice A n c] w fun e w' => SomeL 0 w e w' := by
  obtain ⟨t1, ht1, hb1⟩ : ∃ t1, (if l < 0 then (0 : Int) else l) = t1 ∧ 0 ≤ t1 := ⟨_, rfl, by split <;> omega⟩
  obtain ⟨t2, ht2, hb2⟩ : ∃ t2, (if 8 < t1 then (8 : Int) else t1) = t2 ∧ 0 ≤ t2 ∧ t2 ≤ 8 := ⟨_, rfl, by split <;> omega⟩
  obtain ⟨P, hP, hP1, hP2⟩ : ∃ P : Int, (2 : Int) ^ t2.toNat = P ∧ 1 ≤ P ∧ P ≤ 256 := by
    have h9 : t2 = 0 ∨ t2 = 1 ∨ t2 = 2 ∨ t2 = 3 ∨ t2 = 4 ∨ t2 = 5 ∨ t2 = 6 ∨ t2 = 7 ∨ t2 = 8 := by omega
    rcases h9 with rfl | rfl | rfl | rfl | rfl | rfl | rfl | rfl | rfl <;> exact ⟨_, rfl, by decide, by decide⟩
  have HT := Lib.hid (fun W (hw : Below w.heap.size w W) => specCircuitValid_any l A n c B gs W (h.next hw hB) (Nat.le_trans hB hw.size) hz hc hn)
  rw [hv] at HT
  have h0P : (0 : Int) < P := by omega
  have hs : wrap64 ((2 : Int) ^ t2.toNat) = P := by rw [hP]; exact IntWalk.wrap64_in _ (by omega)
  clear h hz hv hP
  go_enter Try.func38, Try.ntmps38
  go_wp2_with fail
  refine wp_loop_rounds 1 ?_
  rw [rounds_succ]
  go_wp2_with fail
  refine (HT.out _ ((Below.refl _ _).alloc (Nat.le_refl _) _)).mono ?_
  rintro e w1 ⟨rfl, hb3⟩
  go_wp2_with fail
  go_ret
  exact ⟨_, [], rfl, rfl, own_next (World.ownsRow_made (base := w.heap.size) (e := 3) (size := 1) w #[] 0 (Nat.le_refl _) (by simp [maxLen]) rfl) hb3, ((Below.refl _ _).alloc (Nat.le_refl _) _).trans (hb3.mono (by simp))⟩

theorem own_onlyR {w w' : World} {B r : Nat} {A : Option Addr} {xs : List Value} (h : Own w B A xs) (hb : w.grownBy w' (some r)) (hr : r < B) : Own w' B A xs := fun hn => by
  obtain ⟨g, o, e, h1, h2, h3⟩ := h hn
  have hk : w'.heap[g]? = w.heap[g]? := hb.block g h2 (by simp; omega)
  refine ⟨g, o, e, h1, Nat.lt_of_lt_of_le h2 hb.size, fun j u hu => ?_⟩
  obtain ⟨c1, c2⟩ := h3 j u hu
  exact ⟨(World.cell?_of_block (a := ⟨g, o + j, none⟩) hk).trans c1, (World.frozen?_of_block (a := ⟨g, o + j, none⟩) hk).trans c2⟩

/-- a number of lines and two lists were drawn -/
def DrawnTT (B : Nat) (w : World) (e : Ending) (w' : World) : Prop :=
  ∃ (l : Int) (xs ys : List Int) (A A' : Option Addr) (c c' : Nat), e = .returned (.tuple #[.int .i64 l, .slice A xs.length c, .slice A' ys.length c']) ∧ xs.length ≤ 17 ∧ ys.length ≤ 256 ∧ xs.length ≤ c ∧ ys.length ≤ c' ∧ Own w' B A (xs.map (Value.int .i64)) ∧ Own w' B A' (ys.map (Value.int .i64))
theorem ret_three {x y z x' y' z' : Value} (h : x = x') (h' : y = y') (h'' : z = z') : Ending.returned (.tuple #[x, y, z]) = .returned (.tuple #[x', y', z']) := by rw [h, h', h'']
set_option maxHeartbeats 2000000 in
set_option maxRecDepth 50000 in
theorem drawTableThen_any (A : Option Addr) (n c : Nat) (zs : List Int) (w : World) (h : IntsIn .u8 w A n c zs) :
    Calls Try.prog 21 #[.slice A n c] w fun e w' => DrawnTT w.heap.size w e w' ∧ Below w.heap.size w w' := by
  go_enter Try.func21, Try.ntmps21
  go_wp2_with fail
  refine (l20Open_any A n c zs w h).mono ?_
  rintro e w1 ⟨r, rfl, hr, hd, hb⟩
  have hd' : Rd w1 r 0 := ⟨0, Nat.le_refl _, hd⟩
  have hr1 := hd'.lt
  have C1 := Lib.hid (l20Table_rd 12 r 0 w1 hd' (by omega) (by omega))
  have hs1 := hb.size
  clear h hd hd'
  go_wp2_with fail
  refine C1.out.mono ?_
  rintro e w2 ⟨⟨l, xs, A2, c2, rfl, l0, l9, h3, hc, ho⟩, hr2, hg2⟩
  have hb2 := below_of_only hb hg2 hr hs1
  have hs2 := hg2.size
  have C3 := Lib.hid (odd_rd 12 r (0 + 600) w2 hr2 (by omega) (by omega))
  clear C1
  go_wp2_with fail
  refine C3.out.mono ?_
  rintro e w3 ⟨b, rfl, hr3, hg3⟩
  have hb3 := below_of_only hb2 hg3 hr hb2.size
  have hs3 := hg3.size
  have ho3 := own_onlyR ho hg3 hr1
  clear C3 ho hg2 hg3 hr2
  cases b with
  | true =>
    have C4 := Lib.hid (l20Table_rd 3 r (0 + 600 + 1) w3 hr3 (by omega) (by omega))
    go_wp2_with fail
    refine C4.out.mono ?_
    rintro e w4 ⟨⟨l', ys, A4, c4, rfl, l0', l9', h3', hc', ho'⟩, hr4, hg4⟩
    have hb4 := below_of_only hb3 hg4 hr hb3.size
    have ho4 := own_onlyR ho3 hg4 hr1
    clear C4 ho3 hg4
    go_wp2_with fail
    go_ret3
    exact ⟨⟨l, xs, ys, A2, A4, c2, c4, rfl, h3, by omega, hc, hc', ho4.mono hs1, ho'.mono (by omega)⟩, hb4⟩
  | false =>
    have C4 := Lib.hid (l20Circuit_rd l 9 0 r (0 + 600 + 1) w3 hr3 (by omega) ⟨by omega, l9⟩ (by omega) (by omega))
    go_wp2_with fail
    refine C4.out.mono ?_
    rintro e w4 ⟨gs, A4, c4, rfl, h26, hc4, hog, hr4, hg4⟩
    have hb4 := below_of_only hb3 hg4 hr hb3.size
    have ho4 := own_onlyR ho3 hg4 hr1
    have hs4 := hg4.size
    have CT : ∃ m, m ≤ 256 ∧ Calls Try.prog 38 #[.int .i64 l, .slice A4 gs.length c4] w4 fun e w' => SomeL m w4 e w' := by
      cases hv : circB l gs with
      | false => exact ⟨0, by omega, specTable_none l A4 gs.length c4 _ gs w4 (hog.reads (n := gs.length) (size := 4) (by rw [gcells_len]) (by omega)) (Nat.le_refl _) rfl hc4 (by omega) hv⟩
      | true =>
        have hlv := inB_t (circB_t hv).2.1
        have hpw := pw_bd hlv.1 hlv.2
        exact ⟨(pw l).toNat, by omega, specTable_some l A4 gs.length c4 _ gs w4 (hog.reads (n := gs.length) (size := 4) (by rw [gcells_len]) (by omega)) (Nat.le_refl _) rfl hc4 (by omega) hv _ (by omega)⟩
    obtain ⟨m, hm, CT⟩ := CT
    have CT' := Lib.hid CT
    have hb4s := hb4.size
    clear C4 ho3 hg4 CT hog
    go_wp2_with fail
    refine CT'.out.mono ?_
    rintro e w5 ⟨v5, ys, rfl, hys, own5, hb5⟩
    obtain ⟨A5, c5, rfl, hc5⟩ := own_shape own5
    have hb15 := bnext hb4 hb5 (Nat.le_refl _)
    have ho5 := ho4.below hb5 (Nat.le_refl _)
    have HO := Lib.hid (owns_own own5).1
    have Hys := Lib.hid hys
    clear CT' own5 hys
    go_wp2_with fail
    go_ret3
    exact ⟨⟨l, xs, ys, A2, A5, c2, c5, by rw [Hys.out]; rfl, h3, by rw [Hys.out]; exact hm, hc, by rw [Hys.out]; exact hc5, ho5.mono hs1, HO.out.mono (by omega)⟩, hb15⟩
end Go.Proofs.Ytfpnjahdjppeaaa
