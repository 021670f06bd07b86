/- The words that strings.Split finds at a blank are those of cutL. No program is in sight. -/
import Derived.Test.YtffkoeobehocjaaDoorCut
import Derived.Lib.SplitLaws
namespace Go.Proofs.YtffkoeobehocjaaDoor
open Go.RowKit
set_option linter.unusedVariables false

/-- a letter ahead of the first word, if there is one -/
def putW (b : UInt8) : List (List UInt8) → List (List UInt8)
  | [] => []
  | x :: t => (b :: x) :: t
/-- the words of a text, from the front -/
def splF : List UInt8 → List (List UInt8)
  | [] => [[]]
  | b :: l => if b.toNat = 32 then [] :: splF l else putW b (splF l)
theorem cut_blank (b : UInt8) (l : List UInt8) (hb : b.toNat = 32) (k : Nat) : cutF (b :: l) (k + 1) = cutF l k + 1 ∧ cutW (b :: l) (k + 1) = [] :: cutW l k := by
  induction k with
  | zero =>
    have e0 : ((b :: l).getD 0 0).toNat = 32 := hb
    unfold cutF cutW
    rw [if_pos e0, if_pos e0]
    simp [cutF, cutW]
  | succ k ih =>
    have eg : (b :: l).getD (k + 1) 0 = l.getD k 0 := rfl
    rw [cutF, cutW, eg, ih.1, ih.2]
    have sF : cutF l (k + 1) = if (l.getD k 0).toNat = 32 then k + 1 else cutF l k := rfl
    have sW : cutW l (k + 1) = if (l.getD k 0).toNat = 32 then cutW l k ++ [(l.drop (cutF l k)).take (k - cutF l k)] else cutW l k := rfl
    rw [sF, sW]
    by_cases h : (l.getD k 0).toNat = 32
    · rw [if_pos h, if_pos h, if_pos h, if_pos h]
      refine ⟨rfl, ?_⟩
      rw [List.cons_append, List.drop_succ_cons, Nat.add_sub_add_right]
    · rw [if_neg h, if_neg h, if_neg h, if_neg h]
      exact ⟨rfl, rfl⟩
theorem cut_other (b : UInt8) (l : List UInt8) (hb : b.toNat ≠ 32) (k : Nat) :
    cutF (b :: l) (k + 1) = (if cutW l k = [] then 0 else cutF l k + 1) ∧ cutW (b :: l) (k + 1) = putW b (cutW l k) ∧ (cutW l k = [] → cutF l k = 0) := by
  induction k with
  | zero =>
    have e0 : ¬ ((b :: l).getD 0 0).toNat = 32 := hb
    have cF : cutF (b :: l) (0 + 1) = if ((b :: l).getD 0 0).toNat = 32 then 0 + 1 else cutF (b :: l) 0 := rfl
    have cW : cutW (b :: l) (0 + 1) = if ((b :: l).getD 0 0).toNat = 32 then cutW (b :: l) 0 ++ [((b :: l).drop (cutF (b :: l) 0)).take (0 - cutF (b :: l) 0)] else cutW (b :: l) 0 := rfl
    rw [cF, cW, if_neg e0, if_neg e0]
    simp [cutF, cutW, putW]
  | succ k ih =>
    obtain ⟨i1, i2, i3⟩ := ih
    have eg : (b :: l).getD (k + 1) 0 = l.getD k 0 := rfl
    have cF : cutF (b :: l) (k + 1 + 1) = if ((b :: l).getD (k + 1) 0).toNat = 32 then k + 1 + 1 else cutF (b :: l) (k + 1) := rfl
    have cW : cutW (b :: l) (k + 1 + 1) = if ((b :: l).getD (k + 1) 0).toNat = 32 then cutW (b :: l) (k + 1) ++ [((b :: l).drop (cutF (b :: l) (k + 1))).take (k + 1 - cutF (b :: l) (k + 1))] else cutW (b :: l) (k + 1) := rfl
    rw [cF, cW, eg, i1, i2]
    have sF : cutF l (k + 1) = if (l.getD k 0).toNat = 32 then k + 1 else cutF l k := rfl
    have sW : cutW l (k + 1) = if (l.getD k 0).toNat = 32 then cutW l k ++ [(l.drop (cutF l k)).take (k - cutF l k)] else cutW l k := rfl
    rw [sF, sW]
    by_cases h : (l.getD k 0).toNat = 32
    · rw [if_pos h, if_pos h, if_pos h, if_pos h]
      refine ⟨by rw [if_neg (by simp)], ?_, fun e => by simp at e⟩
      cases hw : cutW l k with
      | nil =>
        rw [if_pos rfl, i3 hw]
        simp [putW]
      | cons x t =>
        rw [if_neg (by simp)]
        simp [putW]
    · rw [if_neg h, if_neg h, if_neg h, if_neg h]
      exact ⟨rfl, rfl, i3⟩
theorem cutL_spl : ∀ l : List UInt8, cutL l = splF l
  | [] => rfl
  | b :: l => by
    have ih := cutL_spl l
    unfold cutL at ih ⊢
    unfold splF
    rw [List.length_cons, ← ih]
    by_cases hb : b.toNat = 32
    · obtain ⟨h1, h2⟩ := cut_blank b l hb l.length
      rw [if_pos hb, h1, h2]
      rfl
    · obtain ⟨h1, h2, h3⟩ := cut_other b l hb l.length
      rw [if_neg hb, h1, h2]
      cases hw : cutW l l.length with
      | nil =>
        rw [if_pos rfl, h3 hw]
        rfl
      | cons x t =>
        rw [if_neg (by simp)]
        rfl
theorem splitK_spl : ∀ l : List UInt8, Lib.splitK [32] 0 (Lib.count l [32]) l = splF l
  | [] => by
    rw [Lib.count_miss (by simp [Lib.index])]
    rfl
  | b :: l => by
    have ih := splitK_spl l
    unfold splF
    by_cases hb : b = 32
    · subst hb
      have hix : Lib.index (32 :: l) [32] = ((0 : Nat) : Int) := by rw [Lib.index]; simp [List.isPrefixOf]
      rw [if_pos (by decide), Lib.count_cons_eq, Nat.add_comm, Lib.splitK, hix, ← ih]
      simp
    · have hb' : ¬ b.toNat = 32 := fun e => hb (UInt8.toNat_inj.1 e)
      rw [if_neg hb', Lib.count_cons_ne b 32 l hb, ← ih]
      have hix : Lib.index (b :: l) [32] = if Lib.index l [32] == -1 then -1 else Lib.index l [32] + 1 := by
        rw [Lib.index]
        have hp : ([32] : List UInt8).isPrefixOf (b :: l) = false := by simp [List.isPrefixOf, Ne.symm hb]
        rw [hp]
        simp
      cases hc : Lib.count l [32] with
      | zero => rfl
      | succ k =>
        by_cases hm : Lib.index l [32] = -1
        · rw [Lib.count_miss hm] at hc
          cases hc
        · have hge := Lib.index_ge l [32]
          obtain ⟨j, hj⟩ : ∃ j : Nat, Lib.index l [32] = j := ⟨(Lib.index l [32]).toNat, by omega⟩
          have hix' : Lib.index (b :: l) [32] = ((j + 1 : Nat) : Int) := by rw [hix, if_neg (fun e => hm (beq_iff_eq.1 e)), hj]; omega
          rw [Lib.splitK, Lib.splitK, hix', hj, if_neg (by simp; omega), if_neg (by simp)]
          simp [putW]
theorem splitB_cut (l : List UInt8) : Lib.splitB ⟨#[32]⟩ 0 (Lib.countB ⟨l.toArray⟩ ⟨#[32]⟩) ⟨l.toArray⟩ = (cutL l).map fun x => ⟨x.toArray⟩ := by
  have h := Lib.splitB_data ⟨#[32]⟩ 0 (Lib.countB ⟨l.toArray⟩ ⟨#[32]⟩) ⟨l.toArray⟩
  have e : Lib.splitK [32] 0 (Lib.count l [32]) l = cutL l := (splitK_spl l).trans (cutL_spl l).symm
  have h2 := h.trans e
  have h3 := congrArg (List.map fun x => (⟨x.toArray⟩ : ByteArray)) h2
  rw [List.map_map] at h3
  refine Eq.trans ?_ h3
  conv => lhs; rw [← List.map_id (Lib.splitB ⟨#[32]⟩ 0 (Lib.countB ⟨l.toArray⟩ ⟨#[32]⟩) ⟨l.toArray⟩)]
  refine List.map_congr_left fun x _ => ?_
  obtain ⟨⟨t⟩⟩ := x
  rfl
theorem countB_cut (l : List UInt8) : Lib.countB ⟨l.toArray⟩ ⟨#[32]⟩ + 1 = (cutL l).length := by
  have h := congrArg List.length (splitB_cut l)
  rw [Lib.splitB_all _ (by decide) 0 _ _ rfl, List.length_map] at h
  exact h
end Go.Proofs.YtffkoeobehocjaaDoor
