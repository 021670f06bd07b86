/- Contracts of DrawWordValid, DrawBitOf, DrawWeight, DrawDiffer and alive. -/
import Derived.Test.YtjagnbnbibdbmaaDrawW
namespace Go.Proofs.Ytjagnbnbibdbmaa
open Go.RowKit

def Two (Q1 Q2 : Int → Prop) (w : World) (e : Ending) (w' : World) : Prop := ∃ u v : Int, e = .returned (.tuple #[.int .i64 u, .int .i64 v]) ∧ Q1 u ∧ Q2 v ∧ Below w.heap.size w w'
def Three (Q1 Q2 Q3 : Int → Prop) (w : World) (e : Ending) (w' : World) : Prop := ∃ u v x : Int, e = .returned (.tuple #[.int .i64 u, .int .i64 v, .int .i64 x]) ∧ Q1 u ∧ Q2 v ∧ Q3 x ∧ Below w.heap.size w w'

theorem alive_any (w : World) : Calls Try.prog 22 #[] w fun e w' => e = .returned (.bool true) ∧ w = w' := by
  have h1 : wordB 3 7 = true := by decide
  have h2 : wordB 3 8 = false := by decide
  go_enter Try.func22, Try.ntmps22
  go_wp2_with (go_at_call 18; refine (implWordValid_any _ _ _).mono ?_; rintro e w' ⟨rfl, rfl⟩)
  go_ret
  exact ⟨rfl, rfl⟩

theorem drawWordValid_any (A : Option Addr) (n c : Nat) (zs : List Int) (w : World) (h : IntsIn .u8 w A n c zs) :
    Calls Try.prog 21 #[.slice A n c] w fun e w' => Two (fun v => -1 ≤ v ∧ v ≤ 9) (fun v => -1 ≤ v ∧ v ≤ 256) w e w' := by
  go_enter Try.func21, Try.ntmps21
  go_wp2_with fail
  refine (l20Open_any A n c zs w h).mono ?_
  rintro e w1 ⟨r, rfl, hr, hd, hb⟩
  have hd' : Rd w1 r 0 := ⟨0, Nat.le_refl _, hd⟩
  go_wp2_with fail
  refine (l20Lines_rd 4 r 0 w1 hd' (by omega) (by omega)).mono ?_
  rintro e w2 ⟨l, rfl, hl, hd2, hg2⟩
  have hb2 := below_of_only hb hg2 hr hb.size
  go_wp2_with fail
  refine (l20Word_rd l 3 r 2 w2 hd2 (by omega) (by omega)).mono ?_
  rintro e w3 ⟨v, rfl, hv, hd3, hg3⟩
  have hb3 := below_of_only hb2 hg3 hr hb2.size
  go_wp2_with fail
  go_ret2
  exact ⟨l, v, rfl, hl, hv, hb3⟩
theorem drawWeight_any (A : Option Addr) (n c : Nat) (zs : List Int) (w : World) (h : IntsIn .u8 w A n c zs) :
    Calls Try.prog 38 #[.slice A n c] w fun e w' => Two (fun v => -1 ≤ v ∧ v ≤ 9) (fun v => -1 ≤ v ∧ v ≤ 256) w e w' := by
  go_enter Try.func38, Try.ntmps38
  go_wp2_with fail
  refine (l20Open_any A n c zs w h).mono ?_
  rintro e w1 ⟨r, rfl, hr, hd, hb⟩
  have hd' : Rd w1 r 0 := ⟨0, Nat.le_refl _, hd⟩
  go_wp2_with fail
  refine (l20Lines_rd 12 r 0 w1 hd' (by omega) (by omega)).mono ?_
  rintro e w2 ⟨l, rfl, hl, hd2, hg2⟩
  have hb2 := below_of_only hb hg2 hr hb.size
  go_wp2_with fail
  refine (l20Word_rd l 12 r 2 w2 hd2 (by omega) (by omega)).mono ?_
  rintro e w3 ⟨v, rfl, hv, hd3, hg3⟩
  have hb3 := below_of_only hb2 hg3 hr hb2.size
  go_wp2_with fail
  go_ret2
  exact ⟨l, v, rfl, hl, hv, hb3⟩
theorem drawDiffer_any (A : Option Addr) (n c : Nat) (zs : List Int) (w : World) (h : IntsIn .u8 w A n c zs) :
    Calls Try.prog 39 #[.slice A n c] w fun e w' => Three (fun v => -1 ≤ v ∧ v ≤ 9) (fun v => -1 ≤ v ∧ v ≤ 256) (fun v => -1 ≤ v ∧ v ≤ 256) w e w' := by
  go_enter Try.func39, Try.ntmps39
  go_wp2_with fail
  refine (l20Open_any A n c zs w h).mono ?_
  rintro e w1 ⟨r, rfl, hr, hd, hb⟩
  have hd' : Rd w1 r 0 := ⟨0, Nat.le_refl _, hd⟩
  go_wp2_with fail
  refine (l20Lines_rd 12 r 0 w1 hd' (by omega) (by omega)).mono ?_
  rintro e w2 ⟨l, rfl, hl, hd2, hg2⟩
  have hb2 := below_of_only hb hg2 hr hb.size
  go_wp2_with fail
  refine (l20Word_rd l 12 r 2 w2 hd2 (by omega) (by omega)).mono ?_
  rintro e w3 ⟨v, rfl, hv, hd3, hg3⟩
  have hb3 := below_of_only hb2 hg3 hr hb2.size
  go_wp2_with fail
  refine (l20Word_rd l 12 r 4 w3 hd3 (by omega) (by omega)).mono ?_
  rintro e w4 ⟨x, rfl, hx, hd4, hg4⟩
  have hb4 := below_of_only hb3 hg4 hr hb3.size
  go_wp2_with fail
  go_ret3
  exact ⟨l, v, x, rfl, hl, hv, hx, hb4⟩
theorem drawBitOf_any (A : Option Addr) (n c : Nat) (zs : List Int) (w : World) (h : IntsIn .u8 w A n c zs) :
    Calls Try.prog 25 #[.slice A n c] w fun e w' => Three (fun v => -1 ≤ v ∧ v ≤ 9) (fun v => -1 ≤ v ∧ v ≤ 256) (fun v => -1 ≤ v ∧ v ≤ 20) w e w' := by
  go_enter Try.func25, Try.ntmps25
  go_wp2_with fail
  refine (l20Open_any A n c zs w h).mono ?_
  rintro e w1 ⟨r, rfl, hr, hd, hb⟩
  have hd' : Rd w1 r 0 := ⟨0, Nat.le_refl _, hd⟩
  go_wp2_with fail
  refine (l20Lines_rd 12 r 0 w1 hd' (by omega) (by omega)).mono ?_
  rintro e w2 ⟨l, rfl, hl, hd2, hg2⟩
  have hb2 := below_of_only hb hg2 hr hb.size
  go_wp2_with fail
  refine (l20Word_rd l 12 r 2 w2 hd2 (by omega) (by omega)).mono ?_
  rintro e w3 ⟨v, rfl, hv, hd3, hg3⟩
  have hb3 := below_of_only hb2 hg3 hr hb2.size
  by_cases hl0 : l < 0
  · go_wp2_with fail
    refine (pick_rd 2 r 4 w3 hd3 (by omega) (by omega)).mono ?_
    rintro e w4 ⟨x, rfl, ⟨x0, x1, x2⟩, hd4, hg4⟩
    have hb4 := below_of_only hb3 hg4 hr hb3.size
    go_wp2_with fail
    refine (pick_rd 20 r 5 w4 hd4 (by omega) (by omega)).mono ?_
    rintro e w5 ⟨y, rfl, ⟨y0, y1, y2⟩, hd5, hg5⟩
    have hb5 := below_of_only hb4 hg5 hr hb4.size
    have hq : 0 ≤ y / 19 ∧ y / 19 ≤ 1 := by omega
    go_wp2_with fail
    go_ret3
    exact ⟨l, v, x - y / 19, rfl, hl, hv, by omega, hb5⟩
  · have hm : (if l < 0 then (0 : Int) else l) = l := if_neg hl0
    go_wp2_with fail
    refine (pick_rd (l + 2) r 4 w3 hd3 (by omega) (by omega)).mono ?_
    rintro e w4 ⟨x, rfl, ⟨x0, x1, x2⟩, hd4, hg4⟩
    have hb4 := below_of_only hb3 hg4 hr hb3.size
    go_wp2_with fail
    refine (pick_rd 20 r 5 w4 hd4 (by omega) (by omega)).mono ?_
    rintro e w5 ⟨y, rfl, ⟨y0, y1, y2⟩, hd5, hg5⟩
    have hb5 := below_of_only hb4 hg5 hr hb4.size
    have hq : 0 ≤ y / 19 ∧ y / 19 ≤ 1 := by omega
    go_wp2_with fail
    go_ret3
    exact ⟨l, v, x - y / 19, rfl, hl, hv, by omega, hb5⟩
end Go.Proofs.Ytjagnbnbibdbmaa
