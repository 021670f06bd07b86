/- Contract of impl.ReadTable. -/
import Derived.Test.YtffkoeobehocjaaDoorNmJ
import Derived.Test.YtffkoeobehocjaaDoorTdS
namespace Go.Proofs.YtffkoeobehocjaaDoor
open Go.RowKit
set_option linter.unusedVariables false
set_option linter.unusedSimpArgs false

theorem tiOk_is (l : List UInt8) : tiOk l = (okN l && tblB (lnOf (tbI l)) (tbI l)) := by
  unfold tiOk okN
  rw [Bool.and_assoc]
theorem bitLen_bd (x : Nat) (h : x ≤ 2000001) : Lib.bitLen x ≤ 64 := by
  unfold Lib.bitLen
  have : ∀ k y, Lib.bitLenAux k y ≤ k := by
    intro k
    induction k with
    | zero => intro y; simp [Lib.bitLenAux]
    | succ k ih =>
      intro y
      unfold Lib.bitLenAux
      split
      · omega
      · have := ih (y / 2); omega
  exact this 64 x

set_option maxHeartbeats 4000000 in
set_option maxRecDepth 50000 in
theorem implReadTable_any (l : List UInt8) (hl : l.length ≤ 2000000) (w : World) (hE : ErrVars w) (hT : Tab10 w) :
    Calls Tryd.prog 12 #[.string ⟨l.toArray⟩] w fun e w' => RetT l w e w' := by
  have HN := Lib.hid (numbersIn_any l hl w hE hT)
  have hti := tiOk_is l
  have hsm := td_same l
  rw [hsm.1] at hti
  have HTI := Lib.hid hti
  have HSM := Lib.hid hsm.2
  clear hti hsm hE hT
  go_enter Tryd.func12, Tryd.ntmps12
  go_wp2_with fail
  refine HN.out.mono ?_
  rintro e w1 ⟨A, n, c, rfl, hn, hb1, hok⟩
  have hbl := bitLen_bd n hn
  have CB := Lib.hid (fun W => Tryd.bits_Len (n : Int) W (by omega) (by omega))
  rw [Int.toNat_natCast] at CB
  obtain ⟨b, eb⟩ : ∃ b, b = Lib.bitLen n := ⟨_, rfl⟩
  rw [← eb] at CB hbl
  have EB := Lib.hid eb
  have HOK := Lib.hid hok
  have kw : IntKind.i64.wrap ((b : Int) - 1) = (b : Int) - 1 := IntWalk.i64_in _ (by omega)
  have ku : IntKind.u64.wrap (n : Int) = (n : Int) := IntWalk.u64_in _ (by omega)
  clear eb hok
  cases hv : okN l with
  | false =>
    have Hno : Hid (tdOk l = false) := Lib.hid (by rw [HTI.out, hv]; rfl)
    clear hv
    go_wp2_with fail
    refine (CB.out _).mono ?_
    rintro e w2 ⟨rfl, rfl⟩
    go_wp2_with fail
    go_ret3
    exact retT_no Hno.out hb1 rfl
  | true =>
    obtain ⟨hn2, hc, hown⟩ := HOK.out hv
    have eln : lnOf (tbI l) = (b : Int) - 1 := by unfold lnOf; rw [← hn2, ← EB.out]
    have R1 := hown.reads (n := n) (size := 1) (by simp [hn2]) (by omega)
    have CV := Lib.hid (implTableValid_any (lnOf (tbI l)) A n c w1.heap.size (tbI l) w1 R1 (Nat.le_refl _) hn2.symm hc (by omega))
    have hti2 := HTI.out
    rw [hv, Bool.true_and] at hti2
    rw [← hti2] at CV
    rw [eln] at CV
    have ELN := Lib.hid eln
    have HOW := Lib.hid hown
    have HN2 := Lib.hid hn2
    clear hti2 hown hn2 eln R1 hv HOK HTI
    go_wp2_with fail
    refine (CB.out _).mono ?_
    rintro e w2 ⟨rfl, rfl⟩
    cases ht : tdOk l with
    | false =>
      rw [ht] at CV
      have Ht := Lib.hid ht
      clear ht
      go_wp2_with fail
      refine CV.out.mono ?_
      rintro e w3 ⟨rfl, hb3⟩
      go_wp2_with fail
      go_ret3
      exact retT_no Ht.out (bnext hb1 hb3 (Nat.le_refl _)) rfl
    | true =>
      rw [ht] at CV
      have Ht := Lib.hid ht
      clear ht
      go_wp2_with fail
      refine CV.out.mono ?_
      rintro e w3 ⟨rfl, hb3⟩
      go_wp2_with fail
      go_ret3
      have eN : rtN l = lnOf (tbS l) := if_pos Ht.out
      have eL : rtL l = tbS l := if_pos Ht.out
      have e1 := HSM.out Ht.out
      unfold RetT
      rw [eN, eL, Ht.out, ← e1, ELN.out, ← HN2.out]
      exact ⟨A, c, rfl, hc, HOW.out.below hb3 (Nat.le_refl _), bnext hb1 hb3 (Nat.le_refl _)⟩
end Go.Proofs.YtffkoeobehocjaaDoor
