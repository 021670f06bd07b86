/- Contracts of DrawFormBits and DrawFormOut. -/
import Derived.Test.YtfnebpocngjcmaaDraws3
namespace Go.Proofs.Ytfnebpocngjcmaa
open Go.RowKit
set_option linter.unusedVariables false

theorem Own.onlyR {w w' : World} {B r : Nat} {A : Option Addr} {xs : List Value} (h : Own w B A xs) (hb : w.grownBy w' (some r)) (hr : r < B) : Own w' B A xs := fun hn => by
  obtain ⟨g, o, e, h1, h2, hc⟩ := h hn
  refine ⟨g, o, e, h1, Nat.lt_of_lt_of_le h2 hb.size, fun j u hu => ?_⟩
  have hk := hb.block g h2 (fun e => by cases e; omega)
  have := hc j u hu
  exact ⟨(World.cell?_of_block hk).trans this.1, (World.frozen?_of_block hk).trans this.2⟩
/-- a number of inputs, some steps and a word were drawn -/
def DrawnFW (B : Nat) (w : World) (e : Ending) (w' : World) : Prop :=
  ∃ (i : Int) (gs : List St) (A : Option Addr) (c : Nat) (v : Int), e = .returned (.tuple #[.int .i64 i, .slice A gs.length c, .int .i64 v]) ∧ 0 ≤ i ∧ i ≤ 4 ∧ gs.length ≤ 3 ∧ gs.length ≤ c ∧ -1 ≤ v ∧ v ≤ 256 ∧ Own w' B A (scells gs)
theorem drawFormBits_any (A : Option Addr) (n c : Nat) (zs : List Int) (w : World) (h : IntsIn .u8 w A n c zs) :
    Calls Try.prog 33 #[.slice A n c] w fun e w' => DrawnFW w.heap.size w e w' ∧ Below w.heap.size w w' := by
  go_enter Try.func33, Try.ntmps33
  go_wp2_with fail
  refine (l20Open_any A n c zs w h).mono ?_
  rintro e w1 ⟨r, rfl, hr, hd, hb⟩
  have hd' : Rd w1 r 0 := ⟨0, Nat.le_refl _, hd⟩
  have hrl := hd.lt
  go_wp2_with fail
  refine (l20Form_rd 9 r 0 w1 hd' (by omega) (by omega) (by omega)).mono ?_
  rintro e w2 ⟨⟨i, gs, A2, c2, rfl, hi0, hi4, h3, hc, ho⟩, hr2, hg2⟩
  have hb2 := below_of_only hb hg2 hr hb.size
  have hs := hb.size
  go_wp2_with fail
  refine (l20Word_rd i 12 r (0 + 30) w2 hr2 (by omega) (by omega)).mono ?_
  rintro e w3 ⟨v, rfl, hv, hr3, hg3⟩
  have hb3 := below_of_only hb2 hg3 hr hb2.size
  have ho3 := ho.onlyR hg3 hrl
  go_wp2_with fail
  go_ret3
  exact ⟨⟨i, gs, A2, c2, v, rfl, hi0, hi4, h3, hc, hv.1, hv.2, ho3.mono hs⟩, hb3⟩
theorem drawFormOut_any (A : Option Addr) (n c : Nat) (zs : List Int) (w : World) (h : IntsIn .u8 w A n c zs) :
    Calls Try.prog 36 #[.slice A n c] w fun e w' => DrawnFW w.heap.size w e w' ∧ Below w.heap.size w w' := by
  go_enter Try.func36, Try.ntmps36
  go_wp2_with fail
  refine (drawFormBits_any A n c zs w h).mono ?_
  rintro e w1 ⟨⟨i, gs, A2, c2, v, rfl, hi0, hi4, h3, hc, hv0, hv1, ho⟩, hb⟩
  go_wp2_with fail
  go_ret3
  exact ⟨⟨i, gs, A2, c2, v, rfl, hi0, hi4, h3, hc, hv0, hv1, ho⟩, hb⟩
end Go.Proofs.Ytfnebpocngjcmaa
