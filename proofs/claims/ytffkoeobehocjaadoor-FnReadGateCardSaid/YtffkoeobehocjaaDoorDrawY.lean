/- What spec.DrawReadGate draws: a text. -/
import Derived.Test.YtffkoeobehocjaaDoorDrawX
import Derived.Test.YtffkoeobehocjaaDoorTxt
import Derived.Test.YtffkoeobehocjaaDoorDig
namespace Go.Proofs.YtffkoeobehocjaaDoor
open Go.RowKit
set_option linter.unusedVariables false
set_option linter.unusedSimpArgs false

theorem gateTx_len2 (g : Gt) : (gateTx g).length ≤ 1000 := by
  cases h : gateB 8 g with
  | false => unfold gateTx; rw [h]; simp
  | true =>
    unfold gateTx
    rw [if_pos h, List.length_append]
    have h1 := kindS_len g.k
    have h2 := tailS_len (linesOf g) (linesOf g).length (fun j hj => by have := gate_lines h hj; omega)
    have h3 : (linesOf g).length ≤ 3 := by
      unfold linesOf
      repeat' split
      all_goals simp
    omega
theorem five_cell (v : Int) (h0 : 0 ≤ v) (h1 : v < 5) : ∃ z : List UInt8, z.length ≤ 2 ∧ (#[.string ⟨#[]⟩, .string ⟨#[48]⟩, .string ⟨#[32]⟩, .string ⟨#[52]⟩, .string ⟨#[105, 102]⟩] : Array Value)[v.toNat]? = some (.string ⟨z.toArray⟩) := by
  have : v = 0 ∨ v = 1 ∨ v = 2 ∨ v = 3 ∨ v = 4 := by omega
  rcases this with rfl | rfl | rfl | rfl | rfl
  · exact ⟨[], by simp, rfl⟩
  · exact ⟨[48], by simp, rfl⟩
  · exact ⟨[32], by simp, rfl⟩
  · exact ⟨[52], by simp, rfl⟩
  · exact ⟨[105, 102], by simp, rfl⟩

set_option maxHeartbeats 4000000 in
set_option maxRecDepth 50000 in
theorem drawReadGate_any (A : Option Addr) (n c : Nat) (zs : List Int) (w : World) (h : IntsIn .u8 w A n c zs) :
    Calls Tryd.prog 32 #[.slice A n c] w fun e w' => (∃ l : List UInt8, e = .returned (.string ⟨l.toArray⟩) ∧ l.length ≤ 2100) ∧ Below w.heap.size w w' := by
  go_enter Tryd.func32, Tryd.ntmps32
  go_wp2_with fail
  refine (l20Open_any A n c zs w h).mono ?_
  rintro e w1 ⟨r, rfl, hr, hd, hb⟩
  have hd' : Rd w1 r 0 := ⟨0, Nat.le_refl _, hd⟩
  clear h hd
  go_wp2_with fail
  refine (pick_rd 8 r 0 w1 hd' (by omega) (by omega)).mono ?_
  rintro e w2 ⟨z, rfl, ⟨z0, z1, _⟩, hr2, hg2⟩
  have hb2 := below_of_only hb hg2 hr hb.size
  clear hb hg2 hd'
  go_wp2_with fail
  refine (l20Gate_rd (1 + z) 0 r 1 w2 hr2 (by omega) (by omega) (by omega) (by omega)).mono ?_
  rintro e w3 ⟨g, rfl, hr3, hg3⟩
  have hb3 := below_of_only hb2 hg3 hr hb2.size
  have CG := specGateText_any g w3
  have hlen := gateTx_len2 g
  obtain ⟨l, el⟩ : ∃ l, l = gateTx g := ⟨_, rfl⟩
  rw [← el] at CG hlen
  obtain ⟨s, es⟩ : ∃ s : ByteArray, s = ⟨l.toArray⟩ := ⟨_, rfl⟩
  have hsz : s.size = l.length := by rw [es]; simp [ByteArray.size]
  have EX := Lib.hid (fun a b => (by rw [es]; exact ByteArray.extract_mk l a b : s.extract a b = ⟨((l.drop a).take (b - a)).toArray⟩))
  rw [← es] at CG
  have ES := Lib.hid es
  clear el es hb2 hg3 hr2
  go_wp2_with fail
  refine CG.mono ?_
  rintro e w4 ⟨rfl, hb4⟩
  have hr4 := hr3.below hb4
  have hb04 := bnext hb3 hb4 (Nat.le_refl _)
  clear CG hb3 hb4 hr3
  go_wp2_with fail
  refine (pick_rd 3 r _ w4 hr4 (by omega) (by omega)).mono ?_
  rintro e w5 ⟨q, rfl, ⟨q0, q1, _⟩, hr5, hg5⟩
  have hb5 := below_of_only hb04 hg5 hr hb04.size
  clear hb04 hg5 hr4
  by_cases hq : q = 0
  · by_cases hl : 0 < l.length
    · have hl' : (0 : Int) < (l.length : Int) := by omega
      have hq' : (q == 0) = true := by simp [hq]
      subst hq
      go_wp2_with fail
      refine (pick_rd (l.length : Int) r _ w5 hr5 (by omega) (by omega)).mono ?_
      rintro e w6 ⟨k, rfl, ⟨k0, k1, _⟩, hr6, hg6⟩
      have hb6 := below_of_only hb5 hg6 hr hb5.size
      clear hb5 hg6 hr5
      obtain ⟨m, rfl⟩ : ∃ m : Nat, k = (m : Int) := ⟨k.toNat, by omega⟩
      have hm : m < l.length := by omega
      have x1 := EX.out 0 m
      have x2 := EX.out (m + 1) l.length
      obtain ⟨y1, ey1⟩ : ∃ y, y = (l.drop 0).take (m - 0) := ⟨_, rfl⟩
      obtain ⟨y2, ey2⟩ : ∃ y, y = (l.drop (m + 1)).take (l.length - (m + 1)) := ⟨_, rfl⟩
      have hy1 : y1.length ≤ 1000 := by rw [ey1]; simp; omega
      have hy2 : y2.length ≤ 1000 := by rw [ey2]; simp; omega
      rw [← ey1] at x1
      rw [← ey2] at x2
      clear ey1 ey2
      have hmk : IntKind.i64.wrap ((m : Int) + 1) = (m : Int) + 1 := IntWalk.i64_in _ (by omega)
      have hmt : ((m : Int) + 1).toNat = m + 1 := by omega
      have hmm : (m : Int) ≤ (s.size : Int) := by omega
      have hm1 : (m : Int) + 1 ≤ (s.size : Int) := by omega
      have hm0 : 0 ≤ (m : Int) + 1 := by omega
      have hml : m ≤ l.length := by omega
      have hml1 : (m : Int) + 1 ≤ (l.length : Int) := by omega
      have ha := hr6.alloc (Obj.cells #[.string ⟨#[]⟩, .string ⟨#[48]⟩, .string ⟨#[32]⟩, .string ⟨#[52]⟩, .string ⟨#[105, 102]⟩] 9)
      go_wp2_with fail
      have A1 := fun (z : List UInt8) (hz : z.length ≤ 2) W => add_tx y1 z (by omega) (by omega) W
      have A2 := fun (z : List UInt8) (hz : z.length ≤ 2) W => add_tx (y1 ++ z) y2 (by simp; omega) (by omega) W
      have HA := Lib.hid (And.intro A1 A2)
      clear A1 A2
      have hl6 := hr6.lt
      have hsm : m ≤ s.size := by omega
      have hsm1 : m + 1 ≤ s.size := by omega
      have P1 := Lib.hid (pick_rd 5 r _ (w6.alloc (Obj.cells #[.string ⟨#[]⟩, .string ⟨#[48]⟩, .string ⟨#[32]⟩, .string ⟨#[52]⟩, .string ⟨#[105, 102]⟩] 9)).drew ha.drew (by omega) (by omega))
      have P2 := Lib.hid (pick_rd 5 r _ w6.drew hr6.drew (by omega) (by omega))
      have T1 : Hid (∀ (w7 : World) (v : Int), 0 ≤ v → (v < 5 ∨ v = 0) → (w6.alloc (Obj.cells #[.string ⟨#[]⟩, .string ⟨#[48]⟩, .string ⟨#[32]⟩, .string ⟨#[52]⟩, .string ⟨#[105, 102]⟩] 9)).drew.grownBy w7 (some r) → ∃ x : List UInt8, x.length ≤ 2 ∧ w7.cell? ⟨w6.heap.size, v.toNat, none⟩ = some (.string ⟨x.toArray⟩)) := Lib.hid (by
        intro w7 v v0 v1 hg7
        obtain ⟨x, hx, hy⟩ := five_cell v v0 (by omega)
        have hb : Blk w7 w6.heap.size 9 #[.string ⟨#[]⟩, .string ⟨#[48]⟩, .string ⟨#[32]⟩, .string ⟨#[52]⟩, .string ⟨#[105, 102]⟩] := (Blk.new w6 _ _).drew.grown hg7 (fun e => by cases e; omega)
        exact ⟨x, hx, (hb.cell v.toNat).trans hy⟩)
      have T2 : Hid (∀ (w7 : World) (v : Int), 0 ≤ v → (v < 5 ∨ v = 0) → ∃ x : List UInt8, x.length ≤ 2 ∧ (w7.alloc (Obj.cells #[.string ⟨#[]⟩, .string ⟨#[48]⟩, .string ⟨#[32]⟩, .string ⟨#[52]⟩, .string ⟨#[105, 102]⟩] 9)).cell? ⟨w7.heap.size, v.toNat, none⟩ = some (.string ⟨x.toArray⟩)) := Lib.hid (by
        intro w7 v v0 v1
        obtain ⟨x, hx, hy⟩ := five_cell v v0 (by omega)
        exact ⟨x, hx, ((Blk.new w7 9 #[.string ⟨#[]⟩, .string ⟨#[48]⟩, .string ⟨#[32]⟩, .string ⟨#[52]⟩, .string ⟨#[105, 102]⟩]).cell v.toNat).trans hy⟩)
      refine wp_region_noPanic ?_
      refine wp_region_held_drew (S := fun _ => True) (by kernel_rfl) trivial (fun hHeld => ?_)
      refine wpAnyH_take (i := 0) (oi := _) (v := ?_) rfl (by kernel_rfl) (by kernel_rfl) (by kernel_rfl) (fun _ _ _ h => h) (Or.inl ⟨by rfl, ?_⟩) (by assumption) ?_
      rotate_left
      · (intro w hSw; (try dsimp only at hSw); go_simp; try with_reducible rfl)
      (try simp only [List.getElem_toArray, List.getElem_cons_zero, List.getElem_cons_succ, Act.put, List.setIfInBounds_toArray, List.set_cons_zero, List.set_cons_succ])
      refine wpAnyH_take (i := 1) (oi := _) (v := ?_) rfl (by kernel_rfl) (by kernel_rfl) (by kernel_rfl) (fun _ _ _ h => h) (Or.inl ⟨by rfl, ?_⟩) (by assumption) ?_
      rotate_left
      · (intro w hSw; (try dsimp only at hSw); go_simp; try with_reducible rfl)
      (try simp only [List.getElem_toArray, List.getElem_cons_zero, List.getElem_cons_succ, Act.put, List.setIfInBounds_toArray, List.set_cons_zero, List.set_cons_succ])
      refine wpAnyH_take (i := 2) (oi := _) (v := ?_) rfl (by kernel_rfl) (by kernel_rfl) (by kernel_rfl) (fun _ _ _ h => h) (Or.inl ⟨by rfl, ?_⟩) (by assumption) ?_
      rotate_left
      · (intro w hSw; (try dsimp only at hSw); go_simp; try with_reducible rfl)
      (try simp only [List.getElem_toArray, List.getElem_cons_zero, List.getElem_cons_succ, Act.put, List.setIfInBounds_toArray, List.set_cons_zero, List.set_cons_succ])
      refine wpAnyH_take (i := 4) (oi := _) (v := ?_) rfl (by kernel_rfl) (by kernel_rfl) (by kernel_rfl) (fun _ _ _ h => h) (Or.inl ⟨by rfl, ?_⟩) (by assumption) ?_
      rotate_left
      · (intro w hSw; (try dsimp only at hSw); go_simp; try with_reducible rfl)
      (try simp only [List.getElem_toArray, List.getElem_cons_zero, List.getElem_cons_succ, Act.put, List.setIfInBounds_toArray, List.set_cons_zero, List.set_cons_succ])
      refine wpAnyH_take (i := 9) (oi := _) (v := ?_) rfl (by kernel_rfl) (by kernel_rfl) (by kernel_rfl) (fun _ _ _ h => h) (Or.inl ⟨by rfl, ?_⟩) (by assumption) ?_
      rotate_left
      · (intro w hSw; (try dsimp only at hSw); go_simp; try with_reducible rfl)
      (try simp only [List.getElem_toArray, List.getElem_cons_zero, List.getElem_cons_succ, Act.put, List.setIfInBounds_toArray, List.set_cons_zero, List.set_cons_succ])
      refine wpAnyH_take (i := 10) (oi := _) (v := ?_) rfl (by kernel_rfl) (by kernel_rfl) (by kernel_rfl) (fun _ _ _ h => h) (Or.inl ⟨by rfl, ?_⟩) (by assumption) ?_
      rotate_left
      · (intro w hSw; (try dsimp only at hSw); go_simp; try with_reducible rfl)
      (try simp only [List.getElem_toArray, List.getElem_cons_zero, List.getElem_cons_succ, Act.put, List.setIfInBounds_toArray, List.set_cons_zero, List.set_cons_succ])
      refine wpAnyH_take (i := 11) (oi := _) (v := ?_) rfl (by kernel_rfl) (by kernel_rfl) (by kernel_rfl) (fun _ _ _ h => h) (Or.inl ⟨by rfl, ?_⟩) (by assumption) ?_
      rotate_left
      · (intro w hSw; (try dsimp only at hSw); go_simp; try with_reducible rfl)
      (try simp only [List.getElem_toArray, List.getElem_cons_zero, List.getElem_cons_succ, Act.put, List.setIfInBounds_toArray, List.set_cons_zero, List.set_cons_succ])
      refine wpAnyH_take (i := 12) (oi := _) (v := ?_) rfl (by kernel_rfl) (by kernel_rfl) (by kernel_rfl) (fun _ _ _ h => h) (Or.inl ⟨by rfl, ?_⟩) (by assumption) ?_
      rotate_left
      · (intro w hSw; (try dsimp only at hSw); go_simp; try with_reducible rfl)
      (try simp only [List.getElem_toArray, List.getElem_cons_zero, List.getElem_cons_succ, Act.put, List.setIfInBounds_toArray, List.set_cons_zero, List.set_cons_succ])
      refine wpAnyH_ready (rs := [3, 5]) (by kernel_rfl) (by simp) ?_
      refine AllReadyH.cons (o := _) rfl (fun K hK => ?_) (AllReadyH.cons (o := _) rfl (fun K hK => ?_) AllReadyH.nil)
      · go_simp
        go_wp2_with fail
        refine hK.out _ _ trivial (fun hHeld => ?_)
        clear hK K
        (try simp only [List.getElem_toArray, List.getElem_cons_zero, List.getElem_cons_succ, Act.put, List.setIfInBounds_toArray, List.set_cons_zero, List.set_cons_succ])
        refine wpAnyH_ready (rs := [5]) (by kernel_rfl) (by simp) ?_
        refine AllReadyH.cons (o := _) rfl (fun K hK => ?_) AllReadyH.nil
        go_simp
        ((refine P1.out.mono ?_; rintro e w7 ⟨v, rfl, ⟨v0, v1, v2⟩, hr7, hg7⟩; obtain ⟨x, hx, hc1⟩ := T1.out w7 v v0 v1 hg7; have v3 : v < 5 := (by omega); have A1 := fun W => HA.out.1 x hx W; have A2 := fun W => HA.out.2 x hx W))
        go_wp2_with fail
        refine hK.out _ _ trivial (fun hHeld => ?_)
        clear hK K
        (try simp only [List.getElem_toArray, List.getElem_cons_zero, List.getElem_cons_succ, Act.put, List.setIfInBounds_toArray, List.set_cons_zero, List.set_cons_succ])
        refine wpAnyH_take (i := 6) (oi := _) (v := ?_) rfl (by kernel_rfl) (by kernel_rfl) (by kernel_rfl) (fun _ _ _ h => h) (Or.inl ⟨by rfl, ?_⟩) (by assumption) ?_
        rotate_left
        · (intro w hSw; (try dsimp only at hSw); go_simp; try with_reducible rfl)
        (try simp only [List.getElem_toArray, List.getElem_cons_zero, List.getElem_cons_succ, Act.put, List.setIfInBounds_toArray, List.set_cons_zero, List.set_cons_succ])
        refine wpAnyH_ready (rs := [7]) (by kernel_rfl) (by simp) ?_
        refine AllReadyH.cons (o := _) rfl (fun K hK => ?_) AllReadyH.nil
        go_simp
        (skip)
        go_wp2_with fail
        refine hK.out _ _ trivial (fun hHeld => ?_)
        clear hK K
        (try simp only [List.getElem_toArray, List.getElem_cons_zero, List.getElem_cons_succ, Act.put, List.setIfInBounds_toArray, List.set_cons_zero, List.set_cons_succ])
        refine wpAnyH_take (i := 8) (oi := _) (v := ?_) rfl (by kernel_rfl) (by kernel_rfl) (by kernel_rfl) (fun _ _ _ h => h) (Or.inl ⟨by rfl, ?_⟩) (by assumption) ?_
        rotate_left
        · (intro w hSw; (try dsimp only at hSw); go_simp; try with_reducible rfl)
        (try simp only [List.getElem_toArray, List.getElem_cons_zero, List.getElem_cons_succ, Act.put, List.setIfInBounds_toArray, List.set_cons_zero, List.set_cons_succ])
        refine wpAnyH_take (i := 13) (oi := _) (v := ?_) rfl (by kernel_rfl) (by kernel_rfl) (by kernel_rfl) (fun _ _ _ h => h) (Or.inl ⟨by rfl, ?_⟩) (by assumption) ?_
        rotate_left
        · (intro w hSw; (try dsimp only at hSw); go_simp; try with_reducible rfl)
        (try simp only [List.getElem_toArray, List.getElem_cons_zero, List.getElem_cons_succ, Act.put, List.setIfInBounds_toArray, List.set_cons_zero, List.set_cons_succ])
        refine wpAnyH_take (i := 14) (oi := _) (v := ?_) rfl (by kernel_rfl) (by kernel_rfl) (by kernel_rfl) (fun _ _ _ h => h) (Or.inl ⟨by rfl, ?_⟩) (by assumption) ?_
        rotate_left
        · (intro w hSw; (try dsimp only at hSw); go_simp; try with_reducible rfl)
        (try simp only [List.getElem_toArray, List.getElem_cons_zero, List.getElem_cons_succ, Act.put, List.setIfInBounds_toArray, List.set_cons_zero, List.set_cons_succ])
        refine wpAnyH_done (by kernel_rfl) ?_ _
        refine NoPanic.normal ?_
        go_wp2_with fail
        go_ret
        exact ⟨⟨y1 ++ (x ++ y2), rfl, by simp; omega⟩, below_of_only hb6 (only_trans (only_drew (only_alloc (World.grownBy.refl _ _) _)) hg7) hr hb6.size⟩
      · go_simp
        (refine P2.out.mono ?_; rintro e w7 ⟨v, rfl, ⟨v0, v1, v2⟩, hr7, hg7⟩; obtain ⟨x, hx, hc1⟩ := T2.out w7 v v0 v1; have v3 : v < 5 := (by omega); have A1 := fun W => HA.out.1 x hx W; have A2 := fun W => HA.out.2 x hx W)
        go_wp2_with fail
        refine hK.out _ _ trivial (fun hHeld => ?_)
        clear hK K
        (try simp only [List.getElem_toArray, List.getElem_cons_zero, List.getElem_cons_succ, Act.put, List.setIfInBounds_toArray, List.set_cons_zero, List.set_cons_succ])
        refine wpAnyH_ready (rs := [3]) (by kernel_rfl) (by simp) ?_
        refine AllReadyH.cons (o := _) rfl (fun K hK => ?_) AllReadyH.nil
        go_simp
        (skip)
        go_wp2_with fail
        refine hK.out _ _ trivial (fun hHeld => ?_)
        clear hK K
        (try simp only [List.getElem_toArray, List.getElem_cons_zero, List.getElem_cons_succ, Act.put, List.setIfInBounds_toArray, List.set_cons_zero, List.set_cons_succ])
        refine wpAnyH_take (i := 6) (oi := _) (v := ?_) rfl (by kernel_rfl) (by kernel_rfl) (by kernel_rfl) (fun _ _ _ h => h) (Or.inl ⟨by rfl, ?_⟩) (by assumption) ?_
        rotate_left
        · (intro w hSw; (try dsimp only at hSw); go_simp; try with_reducible rfl)
        (try simp only [List.getElem_toArray, List.getElem_cons_zero, List.getElem_cons_succ, Act.put, List.setIfInBounds_toArray, List.set_cons_zero, List.set_cons_succ])
        refine wpAnyH_ready (rs := [7]) (by kernel_rfl) (by simp) ?_
        refine AllReadyH.cons (o := _) rfl (fun K hK => ?_) AllReadyH.nil
        go_simp
        (skip)
        go_wp2_with fail
        refine hK.out _ _ trivial (fun hHeld => ?_)
        clear hK K
        (try simp only [List.getElem_toArray, List.getElem_cons_zero, List.getElem_cons_succ, Act.put, List.setIfInBounds_toArray, List.set_cons_zero, List.set_cons_succ])
        refine wpAnyH_take (i := 8) (oi := _) (v := ?_) rfl (by kernel_rfl) (by kernel_rfl) (by kernel_rfl) (fun _ _ _ h => h) (Or.inl ⟨by rfl, ?_⟩) (by assumption) ?_
        rotate_left
        · (intro w hSw; (try dsimp only at hSw); go_simp; try with_reducible rfl)
        (try simp only [List.getElem_toArray, List.getElem_cons_zero, List.getElem_cons_succ, Act.put, List.setIfInBounds_toArray, List.set_cons_zero, List.set_cons_succ])
        refine wpAnyH_take (i := 13) (oi := _) (v := ?_) rfl (by kernel_rfl) (by kernel_rfl) (by kernel_rfl) (fun _ _ _ h => h) (Or.inl ⟨by rfl, ?_⟩) (by assumption) ?_
        rotate_left
        · (intro w hSw; (try dsimp only at hSw); go_simp; try with_reducible rfl)
        (try simp only [List.getElem_toArray, List.getElem_cons_zero, List.getElem_cons_succ, Act.put, List.setIfInBounds_toArray, List.set_cons_zero, List.set_cons_succ])
        refine wpAnyH_take (i := 14) (oi := _) (v := ?_) rfl (by kernel_rfl) (by kernel_rfl) (by kernel_rfl) (fun _ _ _ h => h) (Or.inl ⟨by rfl, ?_⟩) (by assumption) ?_
        rotate_left
        · (intro w hSw; (try dsimp only at hSw); go_simp; try with_reducible rfl)
        (try simp only [List.getElem_toArray, List.getElem_cons_zero, List.getElem_cons_succ, Act.put, List.setIfInBounds_toArray, List.set_cons_zero, List.set_cons_succ])
        refine wpAnyH_done (by kernel_rfl) ?_ _
        refine NoPanic.normal ?_
        go_wp2_with fail
        go_ret
        exact ⟨⟨y1 ++ (x ++ y2), rfl, by simp; omega⟩, below_of_only hb6 (only_trans (only_drew (World.grownBy.refl _ _)) (only_alloc hg7 _)) hr hb6.size⟩
    · have hl' : ¬ (0 : Int) < (l.length : Int) := by omega
      have hq' : (q == 0) = true := by simp [hq]
      subst hq
      have es := ES.out
      subst es
      go_wp2_with fail
      go_ret
      exact ⟨⟨l, rfl, by omega⟩, hb5⟩
  · have hq' : (q == 0) = false := by simp [hq]
    have es := ES.out
    subst es
    go_wp2_with fail
    go_ret
    exact ⟨⟨l, rfl, by omega⟩, hb5⟩
end Go.Proofs.YtffkoeobehocjaaDoor
