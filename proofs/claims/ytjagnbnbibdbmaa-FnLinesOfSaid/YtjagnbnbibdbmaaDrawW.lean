/- Contracts of l20Word and of the draws of words. -/
import Derived.Test.YtjagnbnbibdbmaaDraw
namespace Go.Proofs.Ytjagnbnbibdbmaa
open Go.RowKit

theorem pw_bd0 {l : Int} (h1 : 0 ≤ l) (h8 : l ≤ 8) : 1 ≤ pw l ∧ pw l ≤ 256 := by
  by_cases h : l = 0
  · subst h; decide
  · have := pw_bd (l := l) (by omega) h8; omega
theorem shl_one0 {l : Int} (h1 : 0 ≤ l) (h8 : l ≤ 8) : wrap64 (2 ^ l.toNat) = pw l := by
  have := pw_bd0 h1 h8
  show wrap64 (pw l) = pw l
  exact IntWalk.wrap64_in _ (by omega)

theorem Rd.drew {w : World} {r p : Nat} (h : Rd w r p) : Rd w.drew r p := h
theorem pair_cell (a b v : Int) (h0 : 0 ≤ v) (h1 : v < 2) : ∃ x : Int, (x = a ∨ x = b) ∧ (#[.int .i64 a, .int .i64 b] : Array Value)[v.toNat]? = some (.int .i64 x) := by
  have : v = 0 ∨ v = 1 := by omega
  rcases this with rfl | rfl
  · exact ⟨a, .inl rfl, rfl⟩
  · exact ⟨b, .inr rfl, rfl⟩

set_option maxHeartbeats 1000000 in
theorem l20Word_low (lines n : Int) (r p : Nat) (w : World) (h : Rd w r p) (hp : p ≤ 999980) (hn : n ≤ 9223372036854775807) (hc : lines < 0) :
    Calls Try.prog 49 #[.pointer (some ⟨r, 0, none⟩), .int .i64 lines, .int .i64 n] w fun e w' => Drawn (fun v => -1 ≤ v ∧ v ≤ 256) w r (p + 2) e w' := by
  have k1 : wrap64 1 = 1 := by exact IntWalk.wrap64_in _ (by omega)
  have k2 : IntKind.i64.wrap 1 = 1 := by exact IntWalk.i64_in _ (by omega)
  go_enter Try.func49, Try.ntmps49
  go_wp2_with fail
  refine (odd_rd n r p w h (by omega) hn).mono ?_
  rintro e w1 ⟨b, rfl, hr1, hg1⟩
  have hl := hr1.lt
  cases b
  · go_wp2_with fail
    refine (pick_rd (1) r (p + 1) _ hr1 (by omega) (by omega)).mono ?_
    rintro e w2 ⟨v, rfl, ⟨v0, v1, v2⟩, hr2, hg2⟩
    go_wp2_with fail
    go_ret
    exact ⟨v, rfl, by omega, hr2.mono (by omega), only_trans hg1 hg2⟩
  · have ha := hr1.alloc (Obj.cells #[.int .i64 (-1), .int .i64 (1)] 3)
    go_wp2_with fail
    go_region_with (go_at_call 51; (first
      | ((with_reducible refine (pick_rd 2 r (p + 1) (w1.alloc (Obj.cells #[.int .i64 (-1), .int .i64 (1)] 3)).drew ha.drew (by omega) (by omega)).mono ?_); rintro e w2 ⟨v, rfl, ⟨v0, v1, v2⟩, hr2, hg2⟩; obtain ⟨x, hx, hy⟩ := pair_cell (-1) (1) v v0 (by omega); have hb : Blk w2 w1.heap.size 3 #[.int .i64 (-1), .int .i64 (1)] := (Blk.new w1 _ _).drew.grown hg2 (fun e => by cases e; omega); have hc1 := (hb.cell v.toNat).trans hy; have v3 : v < 2 := by omega)
      | ((with_reducible refine (pick_rd 2 r (p + 1) w1.drew hr1.drew (by omega) (by omega)).mono ?_); rintro e w2 ⟨v, rfl, ⟨v0, v1, v2⟩, hr2, hg2⟩; obtain ⟨x, hx, hy⟩ := pair_cell (-1) (1) v v0 (by omega); have hc1 := ((Blk.new w2 3 #[.int .i64 (-1), .int .i64 (1)]).cell v.toNat).trans hy; have v3 : v < 2 := by omega)))
    all_goals go_wp2_with fail
    all_goals
      go_ret
      first
        | exact ⟨x, rfl, by omega, hr2.mono (by omega), only_trans hg1 (only_trans (only_drew (only_alloc (World.grownBy.refl _ _) _)) hg2)⟩
        | exact ⟨x, rfl, by omega, (hr2.alloc _).mono (by omega), only_trans hg1 (only_trans (only_drew (World.grownBy.refl _ _)) (only_alloc hg2 _))⟩
set_option maxHeartbeats 1000000 in
theorem l20Word_mid (lines n : Int) (r p : Nat) (w : World) (h : Rd w r p) (hp : p ≤ 999980) (hn : n ≤ 9223372036854775807) (hc : 0 ≤ lines) (hc8 : lines ≤ 8) :
    Calls Try.prog 49 #[.pointer (some ⟨r, 0, none⟩), .int .i64 lines, .int .i64 n] w fun e w' => Drawn (fun v => -1 ≤ v ∧ v ≤ 256) w r (p + 2) e w' := by
  have k1 := shl_one0 hc hc8
  have hpw := pw_bd0 hc hc8
  have hm1 : (if lines < 0 then (0 : Int) else lines) = lines := if_neg (by omega)
  have hm2 : (if 8 < lines then (8 : Int) else lines) = lines := if_neg (by omega)
  have k2 : IntKind.i64.wrap (2 ^ lines.toNat) = pw lines := IntWalk.i64_in (pw lines) (by omega)
  go_enter Try.func49, Try.ntmps49
  go_wp2_with fail
  refine (odd_rd n r p w h (by omega) hn).mono ?_
  rintro e w1 ⟨b, rfl, hr1, hg1⟩
  have hl := hr1.lt
  cases b
  · go_wp2_with fail
    refine (pick_rd (pw lines) r (p + 1) _ hr1 (by omega) (by omega)).mono ?_
    rintro e w2 ⟨v, rfl, ⟨v0, v1, v2⟩, hr2, hg2⟩
    go_wp2_with fail
    go_ret
    exact ⟨v, rfl, by omega, hr2.mono (by omega), only_trans hg1 hg2⟩
  · have ha := hr1.alloc (Obj.cells #[.int .i64 (-1), .int .i64 (pw lines)] 3)
    go_wp2_with fail
    go_region_with (go_at_call 51; (first
      | ((with_reducible refine (pick_rd 2 r (p + 1) (w1.alloc (Obj.cells #[.int .i64 (-1), .int .i64 (pw lines)] 3)).drew ha.drew (by omega) (by omega)).mono ?_); rintro e w2 ⟨v, rfl, ⟨v0, v1, v2⟩, hr2, hg2⟩; obtain ⟨x, hx, hy⟩ := pair_cell (-1) (pw lines) v v0 (by omega); have hb : Blk w2 w1.heap.size 3 #[.int .i64 (-1), .int .i64 (pw lines)] := (Blk.new w1 _ _).drew.grown hg2 (fun e => by cases e; omega); have hc1 := (hb.cell v.toNat).trans hy; have v3 : v < 2 := by omega)
      | ((with_reducible refine (pick_rd 2 r (p + 1) w1.drew hr1.drew (by omega) (by omega)).mono ?_); rintro e w2 ⟨v, rfl, ⟨v0, v1, v2⟩, hr2, hg2⟩; obtain ⟨x, hx, hy⟩ := pair_cell (-1) (pw lines) v v0 (by omega); have hc1 := ((Blk.new w2 3 #[.int .i64 (-1), .int .i64 (pw lines)]).cell v.toNat).trans hy; have v3 : v < 2 := by omega)))
    all_goals go_wp2_with fail
    all_goals
      go_ret
      first
        | exact ⟨x, rfl, by omega, hr2.mono (by omega), only_trans hg1 (only_trans (only_drew (only_alloc (World.grownBy.refl _ _) _)) hg2)⟩
        | exact ⟨x, rfl, by omega, (hr2.alloc _).mono (by omega), only_trans hg1 (only_trans (only_drew (World.grownBy.refl _ _)) (only_alloc hg2 _))⟩
set_option maxHeartbeats 1000000 in
theorem l20Word_high (lines n : Int) (r p : Nat) (w : World) (h : Rd w r p) (hp : p ≤ 999980) (hn : n ≤ 9223372036854775807) (hc : 8 < lines) :
    Calls Try.prog 49 #[.pointer (some ⟨r, 0, none⟩), .int .i64 lines, .int .i64 n] w fun e w' => Drawn (fun v => -1 ≤ v ∧ v ≤ 256) w r (p + 2) e w' := by
  have hm1 : (if lines < 0 then (0 : Int) else lines) = lines := if_neg (by omega)
  have hm2 : (if 8 < lines then (8 : Int) else lines) = 8 := if_pos hc
  obtain ⟨s, hs1, hs2, k1, k2⟩ : ∃ s : Int, 1 ≤ s ∧ s ≤ 256 ∧ wrap64 256 = s ∧ IntKind.i64.wrap 256 = s := ⟨256, by decide, by decide, by exact IntWalk.wrap64_in _ (by omega), by exact IntWalk.i64_in _ (by omega)⟩
  go_enter Try.func49, Try.ntmps49
  go_wp2_with fail
  refine (odd_rd n r p w h (by omega) hn).mono ?_
  rintro e w1 ⟨b, rfl, hr1, hg1⟩
  have hl := hr1.lt
  cases b
  · go_wp2_with fail
    refine (pick_rd (s) r (p + 1) _ hr1 (by omega) (by omega)).mono ?_
    rintro e w2 ⟨v, rfl, ⟨v0, v1, v2⟩, hr2, hg2⟩
    go_wp2_with fail
    go_ret
    exact ⟨v, rfl, by omega, hr2.mono (by omega), only_trans hg1 hg2⟩
  · have ha := hr1.alloc (Obj.cells #[.int .i64 (-1), .int .i64 (s)] 3)
    go_wp2_with fail
    go_region_with (go_at_call 51; (first
      | ((with_reducible refine (pick_rd 2 r (p + 1) (w1.alloc (Obj.cells #[.int .i64 (-1), .int .i64 (s)] 3)).drew ha.drew (by omega) (by omega)).mono ?_); rintro e w2 ⟨v, rfl, ⟨v0, v1, v2⟩, hr2, hg2⟩; obtain ⟨x, hx, hy⟩ := pair_cell (-1) (s) v v0 (by omega); have hb : Blk w2 w1.heap.size 3 #[.int .i64 (-1), .int .i64 (s)] := (Blk.new w1 _ _).drew.grown hg2 (fun e => by cases e; omega); have hc1 := (hb.cell v.toNat).trans hy; have v3 : v < 2 := by omega)
      | ((with_reducible refine (pick_rd 2 r (p + 1) w1.drew hr1.drew (by omega) (by omega)).mono ?_); rintro e w2 ⟨v, rfl, ⟨v0, v1, v2⟩, hr2, hg2⟩; obtain ⟨x, hx, hy⟩ := pair_cell (-1) (s) v v0 (by omega); have hc1 := ((Blk.new w2 3 #[.int .i64 (-1), .int .i64 (s)]).cell v.toNat).trans hy; have v3 : v < 2 := by omega)))
    all_goals go_wp2_with fail
    all_goals
      go_ret
      first
        | exact ⟨x, rfl, by omega, hr2.mono (by omega), only_trans hg1 (only_trans (only_drew (only_alloc (World.grownBy.refl _ _) _)) hg2)⟩
        | exact ⟨x, rfl, by omega, (hr2.alloc _).mono (by omega), only_trans hg1 (only_trans (only_drew (World.grownBy.refl _ _)) (only_alloc hg2 _))⟩
theorem l20Word_rd (lines n : Int) (r p : Nat) (w : World) (h : Rd w r p) (hp : p ≤ 999980) (hn : n ≤ 9223372036854775807) :
    Calls Try.prog 49 #[.pointer (some ⟨r, 0, none⟩), .int .i64 lines, .int .i64 n] w fun e w' => Drawn (fun v => -1 ≤ v ∧ v ≤ 256) w r (p + 2) e w' := by
  by_cases h1 : lines < 0
  · exact l20Word_low lines n r p w h hp hn h1
  · by_cases h2 : lines ≤ 8
    · exact l20Word_mid lines n r p w h hp hn (by omega) h2
    · exact l20Word_high lines n r p w h hp hn (by omega)
end Go.Proofs.Ytjagnbnbibdbmaa
