/- Contracts of the draws of a formula: l20Inputs, l20FormOf, l20Form. -/
import Derived.Test.YtpahhgehamgkaaaDrawB
import Derived.Test.YtpahhgehamgkaaaSs
import Derived.Deep.DeepCutAuto
namespace Go.Proofs.Ytpahhgehamgkaaa
open Go.RowKit
set_option linter.unusedVariables false

theorem cells_newS (w : World) (xs : List Value) (t : TypeId) {b : Nat} (hb : b = w.heap.size) : ∀ j u, xs[j]? = some u → (w.alloc (.cells xs.toArray t)).cell? ((⟨b, 0, none⟩ : Addr).add j) = some u := fun j u hu => by
  subst hb
  rw [add_off, Nat.zero_add, (Blk.new w t xs.toArray).cell]
  simpa using hu
theorem l20Inputs_rd (n : Int) (r p : Nat) (w : World) (h : Rd w r p) (hp : p ≤ 999980) (hn : n ≤ 9223372036854775807) :
    Calls Try.prog 62 #[.pointer (some ⟨r, 0, none⟩), .int .i64 n] w fun e w' => Drawn (fun v => 0 ≤ v ∧ v ≤ 4) w r (p + 2) e w' := by
  go_enter Try.func62, Try.ntmps62
  go_wp2_with fail
  refine (odd_rd n r p w h (by omega) hn).mono ?_
  rintro e w1 ⟨b, rfl, hr1, hg1⟩
  have hl := hr1.lt
  cases b
  · go_wp2_with fail
    refine (pick_rd 3 r (p + 1) _ hr1 (by omega) (by omega)).mono ?_
    rintro e w2 ⟨v, rfl, ⟨v0, v1, v2⟩, hr2, hg2⟩
    go_wp2_with fail
    go_ret
    exact ⟨1 + v, rfl, by omega, hr2.mono (by omega), only_trans hg1 hg2⟩
  · go_wp2_with fail
    refine (pick_rd 2 r (p + 1) _ (hr1.alloc _) (by omega) (by omega)).mono ?_
    rintro e w2 ⟨v, rfl, ⟨v0, v1, v2⟩, hr2, hg2⟩
    have hb : Blk w2 w1.heap.size 3 #[.int .i64 0, .int .i64 4] := (Blk.new w1 _ _).grown hg2 (fun e => by cases e; omega)
    obtain ⟨x, hx, hx0, hx1⟩ : ∃ x : Int, w2.cell? ⟨w1.heap.size, v.toNat, none⟩ = some (.int .i64 x) ∧ 0 ≤ x ∧ x ≤ 4 := by
      rw [hb.cell]
      have : v = 0 ∨ v = 1 := by omega
      rcases this with rfl | rfl <;> exact ⟨_, rfl, by decide, by decide⟩
    have v3 : v < 2 := by omega
    go_wp2_with fail
    go_ret
    exact ⟨x, rfl, ⟨hx0, hx1⟩, hr2.mono (by omega), only_trans hg1 (only_trans (only_alloc (World.grownBy.refl _ _) _) hg2)⟩

theorem own_owns {w : World} {B n size c : Nat} {A : Option Addr} {t : TypeId} {xs : List Value} (h : w.ownsRow B t size (.slice A n c) n xs) : Own w B A xs ∧ n ≤ c := by
  obtain ⟨h1, h2⟩ := h
  rcases h2 with ⟨h0, h3⟩ | ⟨g, cap, cur, e, hB, hg, hn, hm, hs, ht⟩
  · cases h0
    have : xs = [] := List.eq_nil_of_length_eq_zero (by simpa using h1)
    subst this
    exact ⟨Own.nil _ _ _, Nat.le_refl _⟩
  · cases e
    refine ⟨fun _ => ?_, hn⟩
    have hb : Blk w g t cur := hg
    refine ⟨g, 0, rfl, hB, hb.lt, fun j u hu => ?_⟩
    rw [Nat.zero_add]
    refine ⟨?_, hb.frozen j⟩
    rw [hb.cell]
    rw [← ht, List.getElem?_take] at hu
    split at hu
    · simpa using hu
    · cases hu

/-- some steps were drawn -/
def DrawnS (w : World) (r p : Nat) (e : Ending) (w' : World) : Prop :=
  ∃ (gs : List St) (A : Option Addr) (c : Nat), e = .returned (.slice A gs.length c) ∧ gs.length ≤ 3 ∧ gs.length ≤ c ∧ Own w' w.heap.size A (scells gs) ∧ Rd w' r p ∧ w.grownBy w' (some r)

set_option maxHeartbeats 8000000 in
set_option maxRecDepth 50000 in
theorem l20FormOf_rd (i n : Int) (r p : Nat) (w : World) (h : Rd w r p) (hp : p ≤ 999900) (hn : n ≤ 9223372036854775807) (hi0 : 0 ≤ i) (hi4 : i ≤ 4) :
    Calls Try.prog 63 #[.pointer (some ⟨r, 0, none⟩), .int .i64 i, .int .i64 n] w fun e w' => DrawnS w r (p + 20) e w' := by
  obtain ⟨ig, gi, gz0, gz1, gz2⟩ := info_parts infoStep
  obtain ⟨M, hM, hM1, hM4⟩ : ∃ M : Nat, (if i < 1 then (1 : Int) else i) = (M : Int) ∧ 1 ≤ M ∧ M ≤ 4 := by
    by_cases hl : i < 1
    · exact ⟨1, by rw [if_pos hl]; rfl, by omega, by omega⟩
    · exact ⟨i.toNat, by rw [if_neg hl]; omega, by omega, by omega⟩
  have hrw := h.lt
  go_enter Try.func63, Try.ntmps63
  go_wp2_with fail
  refine (pick_rd 3 r p _ (h.alloc _) (by omega) (by omega)).mono ?_
  rintro e w1 ⟨v, rfl, ⟨v0, v1, v2⟩, hr1, hg1⟩
  obtain ⟨K, hK, hK1, hK3⟩ : ∃ K : Nat, 1 + v = (K : Int) ∧ 1 ≤ K ∧ K ≤ 3 := ⟨(1 + v).toNat, by omega, by omega, by omega⟩
  have own0 : w1.ownsRow w.heap.size 35 3 (.slice (some ⟨w.heap.size, 0, none⟩) 0 0) 0 (scells []) := (World.ownsRow_made (base := w.heap.size) (e := 35) (size := 3) w #[] 0 (Nat.le_refl _) (by simp [maxLen]) rfl).kept hg1 (.inr (by simp [Value.ownBlock]; omega))
  have hf1 : From w.heap.size r w w1 := ((From.refl w.heap.size r w).alloc (Nat.le_refl _) _).only hg1 (by simp) (fun g e => .inr (Option.some.inj e).symm)
  have H1 := Lib.hid hr1
  have HO1 := Lib.hid own0
  have HF1 := Lib.hid hf1
  clear h hr1 hg1 own0 hf1
  go_wp2_with fail
  go_loopg [7, 8] K (fun gh s j wr => ∃ k : Nat, k ≤ K ∧ gh = K - k ∧ j = .int .i64 (K - k : Nat) ∧ (∃ gs : List St, gs.length = k ∧ wr.ownsRow w.heap.size 35 3 s k (scells gs)) ∧ Rd wr r (p + 1 + 3 * k) ∧ From w.heap.size r w wr)
  case atStart => exact ⟨0, Nat.zero_le _, rfl, rfl, ⟨[], rfl, HO1.out⟩, H1.out, HF1.out⟩
  case round =>
    obtain ⟨k, hk, hg, rfl, ⟨gs, hgs, hown⟩, hrd, hfr⟩ := hrel
    have Hg := Lib.hid hg
    obtain ⟨A5, c5, rfl, hc5⟩ := own_shape hown
    have Hown := Lib.hid hown
    clear hg hown
    by_cases hlt : k < K
    · have hlt' : (0 : Int) < ((K - k : Nat) : Int) := by omega
      have hsz := hfr.2.2.2.1
      have C1 := Lib.hid (pick_rd 4 r (p + 1 + 3 * k) wr hrd (by omega) (by omega))
      have hMk : (M : Int) + (k : Int) ≤ 9223372036854775807 := by omega
      go_wp2_with fail
      refine C1.out.mono ?_
      rintro e w2 ⟨op, rfl, ⟨op0, op1, op2⟩, hr2, hg2⟩
      have hf2 := hfr.only hg2 hsz (fun g e => .inr (Option.some.inj e).symm)
      have own2 := Hown.out.kept hg2 (by rcases A5 with _ | a <;> simp [Value.ownBlock]; intro e; have := Hown.out.lt a.block rfl; omega)
      have hs2 := hg2.size
      have C2 := Lib.hid (pick_rd ((M : Int) + (k : Int)) r (p + 1 + 3 * k + 1) w2 hr2 (by omega) hMk)
      clear C1 hfr hg2 hrd
      go_wp2_with fail
      refine C2.out.mono ?_
      rintro e w3 ⟨x, rfl, ⟨x0, x1, x2⟩, hr3, hg3⟩
      have hf3 := hf2.only hg3 (by omega) (fun g e => .inr (Option.some.inj e).symm)
      have own3 := own2.kept hg3 (by rcases A5 with _ | a <;> simp [Value.ownBlock]; intro e; have := Hown.out.lt a.block rfl; omega)
      have hs3 := hg3.size
      have x1' : x < (M : Int) + (k : Int) := by omega
      have op1' : op < 4 := by omega
      clear C2 hf2 hg3 own2 hr2 x1 op1
      by_cases hm : M + k < 2
      · have hm' : (M : Int) + (k : Int) < 2 := by omega
        have ownL := own3.alloc (.cells #[.int .i64 3, .int .i64 x, .int .i64 0] 35)
        have hlw := ownL.lt
        have hsW := (show w.heap.size ≤ (w3.alloc (.cells #[.int .i64 3, .int .i64 x, .int .i64 0] 35)).heap.size by simp; omega)
        have frW := hf3.alloc (by omega) (.cells #[.int .i64 3, .int .i64 x, .int .i64 0] 35)
        have rdW := hr3.alloc (.cells #[.int .i64 3, .int .i64 x, .int .i64 0] 35)
        go_wp2_with (at_builtin; refine wpList_append_own _ rfl _ _ 39 rfl w.heap.size 35 ig (.agg #[.int .i64 0, .int .i64 0, .int .i64 0]) 3 24 Try.underlying39 gi gz0 gz1 gz2 rfl (by decide) _ _ _ rfl (ownL.alloc _) ⟨w3.heap.size + 1, 0, none⟩ 1 1 [.int .i64 3, .int .i64 x, .int .i64 0] rfl rfl (cells_newS _ _ _ (by first | rfl | simp | simp [World.setCell])) (by simp [Value.oneCell']) (by unfold maxLen; omega) (by omega) (by simp; omega) ?_; intro v' wZ hown' hgrow _)
        have frZ := (frW.alloc hsW _).only hgrow (by simp; omega) (fun q e => .inl (hlw q e).1)
        have rdZ := (rdW.alloc _).onlyO hgrow (fun q e => by have := (hlw q e).1; omega)
        have ownZ : wZ.ownsRow w.heap.size 35 3 v' (k + 1) (scells (gs ++ [⟨3, x, 0⟩])) := by rw [scells_app, scells_one]; exact hown'
        clear hown' hgrow hlw
        go_wp2_with fail
        go_roundg (K - (k + 1))
        case measure => have := Hg.out; omega
        case rel => exact ⟨k + 1, by omega, rfl, by go_num, ⟨_, by simp [hgs], ownZ⟩, rdZ.mono (by omega), frZ⟩
      · have hm' : ¬ (M : Int) + (k : Int) < 2 := by omega
        by_cases ho : op = 3
        · subst ho
          have ownL := own3.alloc (.cells #[.int .i64 3, .int .i64 x, .int .i64 0] 35)
          have hlw := ownL.lt
          have hsW := (show w.heap.size ≤ (w3.alloc (.cells #[.int .i64 3, .int .i64 x, .int .i64 0] 35)).heap.size by simp; omega)
          have frW := hf3.alloc (by omega) (.cells #[.int .i64 3, .int .i64 x, .int .i64 0] 35)
          have rdW := hr3.alloc (.cells #[.int .i64 3, .int .i64 x, .int .i64 0] 35)
          go_wp2_with (at_builtin; refine wpList_append_own _ rfl _ _ 39 rfl w.heap.size 35 ig (.agg #[.int .i64 0, .int .i64 0, .int .i64 0]) 3 24 Try.underlying39 gi gz0 gz1 gz2 rfl (by decide) _ _ _ rfl (ownL.alloc _) ⟨w3.heap.size + 1, 0, none⟩ 1 1 [.int .i64 3, .int .i64 x, .int .i64 0] rfl rfl (cells_newS _ _ _ (by first | rfl | simp | simp [World.setCell])) (by simp [Value.oneCell']) (by unfold maxLen; omega) (by omega) (by simp; omega) ?_; intro v' wZ hown' hgrow _)
          have frZ := (frW.alloc hsW _).only hgrow (by simp; omega) (fun q e => .inl (hlw q e).1)
          have rdZ := (rdW.alloc _).onlyO hgrow (fun q e => by have := (hlw q e).1; omega)
          have ownZ : wZ.ownsRow w.heap.size 35 3 v' (k + 1) (scells (gs ++ [⟨3, x, 0⟩])) := by rw [scells_app, scells_one]; exact hown'
          clear hown' hgrow hlw
          go_wp2_with fail
          go_roundg (K - (k + 1))
          case measure => have := Hg.out; omega
          case rel => exact ⟨k + 1, by omega, rfl, by go_num, ⟨_, by simp [hgs], ownZ⟩, rdZ.mono (by omega), frZ⟩
        · obtain ⟨ob, hob⟩ : ∃ ob : Obj, ob = .cells #[.int .i64 op, .int .i64 x, .int .i64 0] 35 := ⟨_, rfl⟩
          have hrS := (hr3.alloc ob).drew
          have hfS := (hf3.alloc (by omega) ob).drew
          have ownS := own3.alloc ob
          have hneM : ¬ ((M : Int) + (k : Int) = 0) := by omega
          have hb0 : Blk (w3.alloc ob).drew w3.heap.size 35 #[.int .i64 op, .int .i64 x, .int .i64 0] := by rw [hob]; exact (Blk.new w3 _ _).drew
          rw [hob] at hrS hfS ownS hb0
          have hc0 : (w3.alloc (.cells #[.int .i64 op, .int .i64 x, .int .i64 0] 35)).drew.cell? ⟨w3.heap.size, 1, none⟩ = some (.int .i64 x) := hb0.cell 1
          have C3 := Lib.hid (pick_rd ((M : Int) + (k : Int) - 1) r (p + 1 + 3 * k + 1 + 1) (w3.alloc (.cells #[.int .i64 op, .int .i64 x, .int .i64 0] 35)).drew hrS (by omega) (by omega))
          have HB0 := Lib.hid hb0
          clear hrS hb0
          have q1 : IntKind.i64.wrap ((M : Int) + (k : Int) - 1) = (M : Int) + (k : Int) - 1 := IntWalk.i64_in _ (by omega)
          have q2 : IntKind.i64.wrap (x + 1) = x + 1 := IntWalk.i64_in _ (by omega)
          go_wp2_with fail
          go_region_with (go_at_call 69; (with_reducible refine C3.out.mono ?_); rintro e w4 ⟨z, rfl, ⟨z0, z1, z2⟩, hr4, hg4⟩; have hb4 := HB0.out.grown hg4 (fun e => by cases e; omega); have hc4 : w4.cell? ⟨w3.heap.size, 1, none⟩ = some (.int .i64 x) := hb4.cell 1; have hc42 : w4.cell? ⟨w3.heap.size, 2, none⟩ = some (.int .i64 0) := hb4.cell 2; have hz4 := hb4.frozen 2; have q3 : IntKind.i64.wrap (x + 1 + z) = x + 1 + z := IntWalk.i64_in _ (by omega))
          all_goals
            have ownD : (w3.alloc (.cells #[.int .i64 op, .int .i64 x, .int .i64 0] 35)).drew.ownsRow w.heap.size 35 3 (.slice A5 k c5) k (scells gs) := ownS
            have l3 := own3.lt
            have own4 := ownD.kept hg4 (by rcases A5 with _ | a <;> simp [Value.ownBlock]; intro e; have := Hown.out.lt a.block rfl; omega)
            have hs4 := hg4.size
            simp only [World.size_drew, World.size_alloc] at hs4
            have hf4 := hfS.only hg4 (by simp; omega) (fun g e => .inr (Option.some.inj e).symm)
            obtain ⟨y, ey⟩ : ∃ y, y = (x + 1 + z).tmod ((M : Int) + (k : Int)) := ⟨_, rfl⟩
            rw [← ey]
            have g5 : w4.grownBy (w4.setCell ⟨w3.heap.size, 2, none⟩ (.int .i64 y)) (some w3.heap.size) := only_setCell (World.grownBy.refl _ _) (.inl rfl) _
            have hb5 : Blk (w4.setCell ⟨w3.heap.size, 2, none⟩ (.int .i64 y)) w3.heap.size 35 #[.int .i64 op, .int .i64 x, .int .i64 y] := hb4.set_ 2 _
            have own5 := own4.kept g5 (.inr (by rcases A5 with _ | a <;> simp [Value.ownBlock]; intro e; have := l3 a.block rfl; omega))
            have hr5 := hr4.onlyO g5 (fun q e => by cases e; have := hrw; omega)
            have hf5 := hf4.only g5 (by omega) (fun q e => by cases e; exact .inl (by omega))
            have hs5 := g5.size
            generalize w4.setCell ⟨w3.heap.size, 2, none⟩ (.int .i64 y) = w5 at g5 hb5 own5 hr5 hf5 hs5 ⊢
            have d0 : w5.cell? ⟨w3.heap.size, 0, none⟩ = some (.int .i64 op) := hb5.cell 0
            have d1 : w5.cell? ⟨w3.heap.size, 1, none⟩ = some (.int .i64 x) := hb5.cell 1
            have d2 : w5.cell? ⟨w3.heap.size, 2, none⟩ = some (.int .i64 y) := hb5.cell 2
            have l5 := hb5.lt
            have d0' : (w5.alloc (.cells #[.int .i64 op, .int .i64 x, .int .i64 y] 35)).cell? ⟨w3.heap.size, 0, none⟩ = some (.int .i64 op) := (hb5.alloc _).cell 0
            clear hc4 hc42 hz4 hb4 hg4 g5 own4 hf4 hr4 ownD hc0 ey q1 q2 q3
            have ownL := own5
            have hlw := ownL.lt
            have hsW := (show w.heap.size ≤ w5.heap.size by omega)
            have frW := hf5
            have rdW := hr5
            go_wp2_with (at_builtin; refine wpList_append_own _ rfl _ _ 39 rfl w.heap.size 35 ig (.agg #[.int .i64 0, .int .i64 0, .int .i64 0]) 3 24 Try.underlying39 gi gz0 gz1 gz2 rfl (by decide) _ _ _ rfl (ownL.alloc _) ⟨w5.heap.size, 0, none⟩ 1 1 [.int .i64 op, .int .i64 x, .int .i64 y] rfl rfl (cells_newS _ _ _ (by first | rfl | simp | simp [World.setCell])) (by simp [Value.oneCell']) (by unfold maxLen; omega) (by omega) (by simp; omega) ?_; intro v' wZ hown' hgrow _)
            have frZ := (frW.alloc hsW _).only hgrow (by simp; omega) (fun q e => .inl (hlw q e).1)
            have rdZ := (rdW.alloc _).onlyO hgrow (fun q e => by have := (hlw q e).1; omega)
            have ownZ : wZ.ownsRow w.heap.size 35 3 v' (k + 1) (scells (gs ++ [⟨op, x, y⟩])) := by rw [scells_app, scells_one]; exact hown'
            clear hown' hgrow hlw
            go_wp2_with fail
            go_roundg (K - (k + 1))
            case measure => have := Hg.out; omega
            case rel => exact ⟨k + 1, by omega, rfl, by go_num, ⟨_, by simp [hgs], ownZ⟩, rdZ.mono (by omega), frZ⟩
    · have hlt' : ¬ (0 : Int) < ((K - k : Nat) : Int) := by omega
      obtain rfl : k = K := by omega
      obtain ⟨g, cap, e, hgB, hgw, hkc, hcm⟩ := own_pos Hown.out (by omega)
      injection e with e1 e2 e3
      subst e1 e3
      have CO := Lib.hid (odd_rd n r (p + 1 + 3 * k) wr hrd (by omega) hn)
      have hsz := hfr.2.2.2.1
      go_wp2_with fail
      refine CO.out.mono ?_
      rintro e w2 ⟨b, rfl, hr2, hg2⟩
      have hf2 := hfr.only hg2 hsz (fun g e => .inr (Option.some.inj e).symm)
      have own2 := Hown.out.kept hg2 (.inr (by simp [Value.ownBlock]; omega))
      have hs2 := hg2.size
      clear CO hfr hrd hg2
      cases b with
      | false =>
        go_wp2_with fail
        go_ret
        exact ⟨gs, some ⟨g, 0, none⟩, c5, by rw [hgs]; rfl, by omega, by omega, (own_owns own2).1, hr2.mono (by omega), hf2.grown⟩
      | true =>
        have C4 := Lib.hid (pick_rd 4 r (p + 1 + 3 * k + 1) w2 hr2 (by omega) (by omega))
        go_wp2_with fail
        refine C4.out.mono ?_
        rintro e w3 ⟨z, rfl, ⟨z0, z1, z2⟩, hr3, hg3⟩
        have hf3 := hf2.only hg3 (by omega) (fun g e => .inr (Option.some.inj e).symm)
        have own3 := own2.kept hg3 (.inr (by simp [Value.ownBlock]; omega))
        have hs3 := hg3.size
        clear C4 hf2 hr2 hg3 own2
        have hz4 : z = 0 ∨ z = 1 ∨ z = 2 ∨ z = 3 := by omega
        clear z0 z1 z2
        have hk0 : (0 : Int) < (k : Int) := by omega
        obtain ⟨a, rest, rfl⟩ : ∃ a rest, gs = a :: rest := by
          rcases gs with _ | ⟨a, rest⟩
          · simp at hgs; omega
          · exact ⟨a, rest, rfl⟩
        obtain ⟨a0, a1, a2⟩ := a
        have Hb := Lib.hid (own_owns own3).1
        obtain ⟨gg, oo, e, _, _, hcl⟩ := Hb.out (by rw [scells_len]; simp)
        injection e with e
        injection e with e1 e2
        subst e1 e2
        have d0 := hcl 0 (.int .i64 a0) rfl
        have d1 := hcl 1 (.int .i64 a1) rfl
        have d2 := hcl 2 (.int .i64 a2) rfl
        simp only [Nat.zero_add] at d0 d1 d2
        clear hcl
        rcases hz4 with rfl | rfl | rfl | rfl
        · go_wp2_with fail
          go_ret
          exact ⟨[], some ⟨w3.heap.size, 0, none⟩, 0, rfl, by simp, by simp, Own.nil _ _ _, (hr3.alloc _).mono (by omega), (hf3.alloc (by omega) _).grown⟩
        · go_wp2_with fail
          go_ret
          have hl : ((⟨a0, M, a2⟩ : St) :: rest).length = k := hgs
          exact ⟨⟨a0, M, a2⟩ :: rest, some ⟨g, 0, none⟩, c5, by rw [hl]; rfl, by omega, by omega, (own_owns (own_set own3 1 (.int .i64 M))).1, (hr3.onlyO (only_setCell (g := g) (p := ⟨g, 1, none⟩) (World.grownBy.refl _ _) (.inl rfl) (.int .i64 M)) (fun q e => by cases e; omega)).mono (by omega), (hf3.setCell (p := ⟨g, 1, none⟩) (by first | omega | (simp only [World.setCell]; simp; omega)) hgB (.int .i64 M)).grown⟩
        · go_wp2_with fail
          go_ret
          have hl : ((⟨0, 0, 0⟩ : St) :: rest).length = k := hgs
          exact ⟨⟨0, 0, 0⟩ :: rest, some ⟨g, 0, none⟩, c5, by rw [hl]; rfl, by omega, by omega, (own_owns (own_set (own_set (own_set own3 0 (.int .i64 0)) 1 (.int .i64 0)) 2 (.int .i64 0))).1, (((hr3.onlyO (only_setCell (g := g) (p := ⟨g, 0, none⟩) (World.grownBy.refl _ _) (.inl rfl) (.int .i64 0)) (fun q e => by cases e; omega)).onlyO (only_setCell (g := g) (p := ⟨g, 1, none⟩) (World.grownBy.refl _ _) (.inl rfl) (.int .i64 0)) (fun q e => by cases e; omega)).onlyO (only_setCell (g := g) (p := ⟨g, 2, none⟩) (World.grownBy.refl _ _) (.inl rfl) (.int .i64 0)) (fun q e => by cases e; omega)).mono (by omega), (((hf3.setCell (p := ⟨g, 0, none⟩) (by first | omega | (simp only [World.setCell]; simp; omega)) hgB (.int .i64 0)).setCell (p := ⟨g, 1, none⟩) (by first | omega | (simp only [World.setCell]; simp; omega)) hgB (.int .i64 0)).setCell (p := ⟨g, 2, none⟩) (by first | omega | (simp only [World.setCell]; simp; omega)) hgB (.int .i64 0)).grown⟩
        · go_wp2_with fail
          go_ret
          have hl : ((⟨3, 0, 1⟩ : St) :: rest).length = k := hgs
          exact ⟨⟨3, 0, 1⟩ :: rest, some ⟨g, 0, none⟩, c5, by rw [hl]; rfl, by omega, by omega, (own_owns (own_set (own_set (own_set own3 0 (.int .i64 3)) 1 (.int .i64 0)) 2 (.int .i64 1))).1, (((hr3.onlyO (only_setCell (g := g) (p := ⟨g, 0, none⟩) (World.grownBy.refl _ _) (.inl rfl) (.int .i64 3)) (fun q e => by cases e; omega)).onlyO (only_setCell (g := g) (p := ⟨g, 1, none⟩) (World.grownBy.refl _ _) (.inl rfl) (.int .i64 0)) (fun q e => by cases e; omega)).onlyO (only_setCell (g := g) (p := ⟨g, 2, none⟩) (World.grownBy.refl _ _) (.inl rfl) (.int .i64 1)) (fun q e => by cases e; omega)).mono (by omega), (((hf3.setCell (p := ⟨g, 0, none⟩) (by first | omega | (simp only [World.setCell]; simp; omega)) hgB (.int .i64 3)).setCell (p := ⟨g, 1, none⟩) (by first | omega | (simp only [World.setCell]; simp; omega)) hgB (.int .i64 0)).setCell (p := ⟨g, 2, none⟩) (by first | omega | (simp only [World.setCell]; simp; omega)) hgB (.int .i64 1)).grown⟩
end Go.Proofs.Ytpahhgehamgkaaa
