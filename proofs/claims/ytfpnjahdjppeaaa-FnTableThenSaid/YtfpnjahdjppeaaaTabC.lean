/- Contracts of cycles, both TableCycles and both TableOdd. -/
import Derived.Test.YtfpnjahdjppeaaaPerm
import Derived.Test.YtfpnjahdjppeaaaTabT
import Derived.Deep.LoopGhost
namespace Go.Proofs.Ytfpnjahdjppeaaa
open Go.RowKit
set_option linter.unusedVariables false

/-- what has been seen behind i steps from k -/
def seenI (xs : List Int) (k i j : Nat) : Bool := seenB xs k j || (List.range i).any fun q => it xs q k == j
theorem seenI_zero (xs : List Int) (k j : Nat) : seenI xs k 0 j = seenB xs k j := by simp [seenI]
theorem seenI_succ (xs : List Int) (k i j : Nat) : seenI xs k (i + 1) j = (seenI xs k i j || it xs i k == j) := by
  unfold seenI
  rw [List.range_succ, List.any_append]
  simp [Bool.or_assoc]
section
variable {xs : List Int} (P : Pm xs)
include P
theorem seenI_new {k i : Nat} (hk : k < xs.length) (h : seenB xs k k = false) (hi : i < per xs k) : seenI xs k i (it xs i k) = false := by
  unfold seenI
  rw [seenB_it P hk, h, Bool.false_or, List.any_eq_false]
  intro q hq
  have := it_ne P hk (List.mem_range.1 hq) hi
  simpa using this
theorem seenI_back {k : Nat} (hk : k < xs.length) : seenI xs k (per xs k) (it xs (per xs k) k) = true := by
  have hp := per_spec P hk
  unfold seenI
  rw [hp.2.2.1, Bool.or_eq_true, List.any_eq_true]
  exact .inr ⟨0, List.mem_range.2 (by omega), by simp [it]⟩
theorem seenI_all {k j : Nat} (hk : k < xs.length) (hj : j < xs.length) : seenI xs k (per xs k) j = seenB xs (k + 1) j := (seenB_succ P hk hj).symm
end

set_option maxHeartbeats 4000000 in
theorem cycles_any (A : Option Addr) (n c B : Nat) (xs : List Int) (w : World) (h : Reads w B 1 A n (xs.map (Value.int .i64))) (hB : B ≤ w.heap.size) (hz : xs.length = n) (hn : n ≤ 256) (P : Pm xs) :
    Calls Try.prog 36 #[.slice A n c] w fun e w' => RetL (cycL xs n) w e w' := by
  have hmk := run_make_row' (P := Try.prog) 40 4 (.bool false) 1 Try.underlying40 infoBool rfl .i64 .i64 n (by omega) (by omega)
  obtain ⟨ii, hi, hz0, hz1, hz2⟩ := info_parts infoInt
  have HR := Lib.hid h
  have HZ := Lib.hid hz
  have HC := Lib.hid (cycL_len xs)
  have HP := Lib.hid P
  have htt : ¬ 3 = 4 := by decide
  clear h hz P
  go_enter Try.func36, Try.ntmps36
  go_wp2_with fail
  clear hmk
  go_loopg [3, 14] n (fun gh v i wr => ∃ k : Nat, k ≤ n ∧ gh = n - k ∧ i = .int .i64 k ∧ wr.ownsRow w.heap.size 3 1 v (cycL xs k).length ((cycL xs k).map (Value.int .i64)) ∧ wr.rowIs (w.heap.size + 1) 4 n (fun j => .bool (seenB xs k j)) ∧ Below w.heap.size w wr)
  case atStart =>
    refine ⟨0, Nat.zero_le _, rfl, rfl, ?_, ?_, ((Below.refl _ _).alloc (Nat.le_refl _) _).alloc (by simp) _⟩
    · have := (World.ownsRow_made (base := w.heap.size) (e := 3) (size := 1) w #[] 0 (Nat.le_refl _) (by simp [maxLen]) rfl).alloc (Obj.cells (madeCells #[.bool false] n) 4)
      simpa [cycL] using this
    · have := World.rowIs_made (w.alloc (Obj.cells #[] 3)) (.bool false) n 4
      simp only [World.size_alloc] at this
      exact this.congr fun j hj => by rw [seenB_zero]
  case round =>
    obtain ⟨k, hk, hg, rfl, hown, hrow, hb⟩ := hrel
    obtain ⟨wo, rfl⟩ : ∃ wo : World, wo = wr := ⟨_, rfl⟩
    have hs := hb.size
    have Hg := Lib.hid hg
    have Hown := Lib.hid hown
    have Hrow := Lib.hid hrow
    clear hg hown hrow
    by_cases hlt : k < n
    · have hlt' : (k : Int) < (n : Int) := by omega
      have hkl : k < xs.length := by have := HZ.out; omega
      have hx1 := Hrow.out.cell hlt
      have hx2 := Hrow.out.lt
      have hcl := HC.out k
      cases hf : seenB xs k k with
      | true =>
        rw [hf] at hx1
        have Hc : Hid (cycL xs (k + 1) = cycL xs k) := Lib.hid (by simp only [cycL]; rw [if_neg (by rw [hf]; decide)])
        have Hsb : Hid (∀ j, j < n → seenB xs (k + 1) j = seenB xs k j) := Lib.hid (fun j hj => seenB_old HP.out hkl (by have := HZ.out; omega) hf)
        clear hf
        go_wp2_with fail
        refine wp_loop_rounds 1 ?_
        rw [rounds_succ]
        go_wp2_with fail
        go_roundg (n - (k + 1))
        case measure => have := Hg.out; omega
        case rel =>
          exact ⟨k + 1, by omega, rfl, by go_num, by rw [Hc.out]; exact Hown.out, Hrow.out.congr fun j hj => by rw [Hsb.out j hj], hb⟩
      | false =>
        rw [hf] at hx1
        have hp := per_spec HP.out hkl
        have hpn : per xs k ≤ n := by have := HZ.out; omega
        have hp1 := hp.1
        obtain ⟨p, ep⟩ : ∃ p, p = per xs k := ⟨_, rfl⟩
        rw [← ep] at hpn hp1
        have Ep := Lib.hid ep
        have Hc : Hid (cycL xs (k + 1) = cycL xs k ++ [(p : Int)]) := Lib.hid (by simp only [cycL]; rw [if_pos hf, ep])
        have Hf := Lib.hid hf
        clear hf hx1 hp ep
        go_wp2_with fail
        go_loopg [6, 7] p (fun gh lg at_ wr => ∃ i : Nat, i ≤ p ∧ gh = p - i ∧ lg = .int .i64 i ∧ at_ = .int .i64 (it xs i k) ∧ wr.rowIs (w.heap.size + 1) 4 n (fun j => .bool (seenI xs k i j)) ∧ wo.grownBy wr (some (w.heap.size + 1)))
        case atStart => exact ⟨0, Nat.zero_le _, rfl, rfl, rfl, Hrow.out.congr fun j hj => by rw [seenI_zero], World.grownBy.refl _ _⟩
        case round =>
          obtain ⟨i, hi', hg2, rfl, rfl, hrow2, hgr⟩ := hrel
          have Hg2 := Lib.hid hg2
          have Hrow2 := Lib.hid hrow2
          clear hg2 hrow2
          have hal := it_lt HP.out hkl (i := i)
          obtain ⟨a, ea⟩ : ∃ a, a = it xs i k := ⟨_, rfl⟩
          rw [← ea] at hal ⊢
          have Ea := Lib.hid ea
          have han : a < n := by have := HZ.out; omega
          have han' : (a : Int) < (n : Int) := by omega
          have hy1 := Hrow2.out.cell han
          have hy2 := Hrow2.out.frozen a
          have hsz := hgr.size
          clear ea
          by_cases hip : i < p
          · have hq : seenI xs k i a = false := by rw [Ea.out]; exact seenI_new HP.out hkl Hf.out (by rw [← Ep.out]; exact hip)
            rw [hq] at hy1
            obtain ⟨b, o, rfl, hbB, hcell⟩ := HR.out.open1 HZ.out (by omega)
            have hnn := HP.out.nn a hal
            have hc1 : wr.cell? ⟨b, o + a, none⟩ = some (.int .i64 (it xs (i + 1) k)) := by
              have h1 := hgr.cell (a := ⟨b, o + a, none⟩) ((hb.cell (p := ⟨b, o + a, none⟩) (by simp; omega)).trans (hcell a han)) (by simp; omega)
              rw [h1, hnn, Ea.out]
              rfl
            have hS : Hid (∀ j, seenI xs k (i + 1) j = (seenI xs k i j || a == j)) := Lib.hid (fun j => by rw [seenI_succ, ← Ea.out])
            have hne : ¬ b = w.heap.size + 1 := by omega
            obtain ⟨z, ez⟩ : ∃ z : Nat, z = it xs (i + 1) k := ⟨_, rfl⟩
            rw [← ez] at hc1
            have Ez := Lib.hid ez
            clear hcell hnn hq ez
            go_wp2_with fail
            go_roundg (p - (i + 1))
            case measure => have := Hg2.out; omega
            case rel =>
              refine ⟨i + 1, by omega, rfl, by go_num, by rw [Ez.out], (Hrow2.out.set a _).congr fun j hj => ?_, only_setCell hgr (.inl rfl) _⟩
              rw [hS.out]
              by_cases e : j = a
              · subst e; simp
              · rw [if_neg e]
                have : (a == j) = false := by simp; omega
                rw [this, Bool.or_false]
          · have hip' : i = p := by omega
            have hq : seenI xs k i a = true := by rw [Ea.out, hip', Ep.out]; exact seenI_back HP.out hkl
            rw [hq] at hy1
            have hi0 : (0 : Int) < (i : Int) := by omega
            have Hip := Lib.hid hip'
            have hown2 := Hown.out.kept hgr (.inr (own_row_ne Hown.out Hrow.out htt))
            have hlw := hown2.lt
            have hb2 := hb.grown hgr (by omega) (fun q e => by have := Option.some.inj e; omega)
            have hs2 := hb2.size
            have hne2 := own_row_ne hown2 Hrow2.out htt
            have Hne2 := Lib.hid hne2
            clear hq hip' hne2
            go_wp2_with (at_builtin; refine wpList_append_own _ rfl _ _ 23 rfl w.heap.size 3 ii (.int .i64 0) 1 8 Try.underlying23 hi hz0 hz1 hz2 rfl (by decide) _ _ _ rfl (hown2.alloc _) ⟨wr.heap.size, 0, none⟩ 1 1 [.int .i64 i] rfl rfl (cell_one_new _ _ _) (by simp [Value.oneCell']) (by unfold maxLen; omega) (by omega) (by simp; omega) ?_; intro v' w3 hown' hgrow _)
            have hb3 := (hb2.alloc hs2 (Obj.cells #[.int .i64 i] 3)).grown hgrow (by simp; omega) (fun q e => (hlw q e).1)
            have hrow3 := (Hrow2.out.alloc (Obj.cells #[.int .i64 i] 3)).of_block (hgrow.block _ (Hrow2.out.alloc (Obj.cells #[.int .i64 i] 3)).lt (fun e => Hne2.out e.symm))
            have Hrow3 := Lib.hid hrow3
            clear hown2 hlw hrow3 hgrow
            go_wp2_with fail
            go_roundg (n - (k + 1))
            case measure => have := Hg.out; omega
            case rel =>
              refine ⟨k + 1, by omega, rfl, by go_num, ?_, Hrow3.out.congr fun j hj => ?_, hb3⟩
              · rw [Hc.out, ← Hip.out]
                simpa using hown'
              · rw [Hip.out, Ep.out, seenI_all HP.out hkl (by have := HZ.out; omega)]
    · have hlt' : ¬ (k : Int) < (n : Int) := by omega
      have hkn : k = n := by omega
      have hown := Hown.out
      rw [hkn] at hown
      clear hkn
      go_wp2_with fail
      go_ret
      exact retL_acc hown hb rfl

/-- what TableCycles answers -/
def tblCycles (l : Int) (xs : List Int) : Int := if tblB l xs = true then ((cycL xs xs.length).length : Int) else -1
theorem tblCycles_y {l : Int} {xs : List Int} (h : tblB l xs = true) : tblCycles l xs = ((cycL xs xs.length).length : Int) := if_pos h
theorem tblCycles_n {l : Int} {xs : List Int} (h : tblB l xs = false) : tblCycles l xs = -1 := if_neg (by rw [h]; decide)
/-- what TableOdd answers -/
def tblOdd (l : Int) (xs : List Int) : Bool := tblB l xs && (((xs.length : Int) - ((cycL xs xs.length).length : Int)) % 2 == 1)

theorem implTableCycles_any (l : Int) (A : Option Addr) (n c B : Nat) (xs : List Int) (w : World) (h : Reads w B 1 A n (xs.map (Value.int .i64))) (hB : B ≤ w.heap.size) (hz : xs.length = n) (hc : n ≤ c) (hn : n ≤ 1048576) :
    Calls Try.prog 19 #[.int .i64 l, .slice A n c] w fun e w' => e = .returned (.int .i64 (tblCycles l xs)) ∧ Below w.heap.size w w' := by
  have HT := Lib.hid (implTableValid_any l A n c B xs w h hB hz hc (by omega))
  cases hv : tblB l xs with
  | false =>
    have Hr := Lib.hid (tblCycles_n hv)
    rw [hv] at HT
    clear hv h hz
    go_enter Try.func19, Try.ntmps19
    go_wp2_with fail
    refine HT.out.mono ?_
    rintro e w1 ⟨rfl, hb1⟩
    go_wp2_with fail
    go_ret
    exact ⟨ret_int Hr.out.symm, hb1⟩
  | true =>
    have Hr := Lib.hid (tblCycles_y hv)
    have hbd := tblB_bd hv
    have HQ := Lib.hid (fun W (hb : Below w.heap.size w W) => cycles_any A n c B xs W (h.next hb hB) (Nat.le_trans hB hb.size) hz (by omega) (tblB_pm hv))
    rw [hv] at HT
    have HZ := Lib.hid hz
    clear hv h hz hbd
    go_enter Try.func19, Try.ntmps19
    go_wp2_with fail
    refine HT.out.mono ?_
    rintro e w1 ⟨rfl, hb1⟩
    go_wp2_with fail
    refine (HQ.out _ hb1).mono ?_
    rintro e w2 ⟨A2, c2, rfl, hc2, ho2, hb2⟩
    have hb12 := bnext hb1 hb2 (Nat.le_refl _)
    go_wp2_with fail
    go_ret
    exact ⟨ret_int (by rw [Hr.out, HZ.out]), hb12⟩

/-- whether all numbers behind k, up to i steps, are greater -/
def firstB (xs : List Int) (k i : Nat) : Bool := (List.range i).all fun j => decide (j = 0 ∨ k < it xs j k)
theorem firstB_one (xs : List Int) (k : Nat) : firstB xs k 1 = true := by simp [firstB]
theorem firstB_succ (xs : List Int) (k i : Nat) (hi : 1 ≤ i) : firstB xs k (i + 1) = (firstB xs k i && decide (k < it xs i k)) := by
  unfold firstB
  rw [List.range_succ, List.all_append]
  have : ¬ i = 0 := by omega
  simp [this]
theorem firstB_all {xs : List Int} (P : Pm xs) {k : Nat} (hk : k < xs.length) : firstB xs k (per xs k) = !seenB xs k k := by
  have h1 := seenB_first P hk
  rcases hq : seenB xs k k with _ | _
  · rw [hq] at h1
    have h2 := h1.1 rfl
    unfold firstB
    rw [Bool.not_false, List.all_eq_true]
    intro j hj
    have := List.mem_range.1 hj
    rw [decide_eq_true_iff]
    by_cases h0 : j = 0
    · exact .inl h0
    · exact .inr (h2 j (by omega) this)
  · rw [hq] at h1
    rw [Bool.not_true, ← Bool.not_eq_true]
    intro h2
    unfold firstB at h2
    rw [List.all_eq_true] at h2
    have h3 := h1.2 (fun i a b => by
      have := h2 i (List.mem_range.2 b)
      rw [decide_eq_true_iff] at this
      omega)
    cases h3

set_option maxHeartbeats 2000000 in
theorem specTableCycles_any (l : Int) (A : Option Addr) (n c B : Nat) (xs : List Int) (w : World) (h : Reads w B 1 A n (xs.map (Value.int .i64))) (hB : B ≤ w.heap.size) (hz : xs.length = n) (hc : n ≤ c) (hn : n ≤ 1048576) :
    Calls Try.prog 20 #[.int .i64 l, .slice A n c] w fun e w' => e = .returned (.int .i64 (tblCycles l xs)) ∧ Below w.heap.size w w' := by
  have HT := Lib.hid (Calls.drewBelow (specTableValid_any l A n c B xs w h hz hc (by omega)))
  cases hv : tblB l xs with
  | false =>
    have Hr := Lib.hid (tblCycles_n hv)
    rw [hv] at HT
    clear hv h hz
    go_enter Try.func20, Try.ntmps20
    go_wp2_with fail
    refine HT.out.mono ?_
    rintro e w1 ⟨rfl, hb1⟩
    go_wp2_with fail
    go_ret
    exact ⟨ret_int Hr.out.symm, hb1⟩
  | true =>
    have Hr := Lib.hid (tblCycles_y hv)
    have hbd := tblB_bd hv
    have HP := Lib.hid (tblB_pm hv)
    rw [hv] at HT
    have HZ := Lib.hid hz
    have HR := Lib.hid (fun W (hb : Below w.heap.size w W) => h.next hb hB)
    have HC := Lib.hid (cycL_len xs)
    rw [hz] at hbd
    have hn256 := hbd.2.1
    clear hv h hz hbd
    go_enter Try.func20, Try.ntmps20
    go_wp2_with fail
    refine HT.out.mono ?_
    rintro e w1 ⟨rfl, hb1⟩
    have HR1 := Lib.hid (HR.out _ hb1)
    clear HT HR
    go_wp2_with fail
    go_loopg [5, 6] n (fun gh m i wr => ∃ k : Nat, k ≤ n ∧ gh = n - k ∧ i = .int .i64 k ∧ m = .int .i64 (cycL xs k).length ∧ wr = w1)
    case atStart => exact ⟨0, Nat.zero_le _, rfl, rfl, rfl, rfl⟩
    case round =>
      obtain ⟨k, hk, hg, rfl, rfl, rfl⟩ := hrel
      have Hg := Lib.hid hg
      clear hg
      have hcl := HC.out k
      by_cases hlt : k < n
      · have hlt' : (k : Int) < (n : Int) := by omega
        have hkl : k < xs.length := by have := HZ.out; omega
        obtain ⟨b, o, rfl, hbB, hcell⟩ := HR1.out.open1 HZ.out (by omega)
        have hp := per_spec HP.out hkl
        have hpn : per xs k ≤ n := by have := HZ.out; omega
        have hp1 := hp.1
        have hc1 : wr.cell? ⟨b, o + k, none⟩ = some (.int .i64 (it xs 1 k)) := by rw [hcell k hlt, HP.out.nn k hkl]; rfl
        obtain ⟨p, ep⟩ : ∃ p, p = per xs k := ⟨_, rfl⟩
        rw [← ep] at hpn hp1
        have Ep := Lib.hid ep
        have Hfirst := Lib.hid (firstB_all HP.out hkl)
        have Hcell := Lib.hid hcell
        have Hpp := Lib.hid hp
        obtain ⟨m, em⟩ : ∃ m, m = (cycL xs k).length := ⟨_, rfl⟩
        rw [← em] at hcl ⊢
        have Em := Lib.hid em
        obtain ⟨z, ez⟩ : ∃ z : Nat, z = it xs 1 k := ⟨_, rfl⟩
        rw [← ez] at hc1
        have Ez := Lib.hid ez
        clear hp ep hcell em ez
        go_wp2_with fail
        clear hc1
        obtain ⟨wo, ewo⟩ : ∃ wo : World, wo = wr := ⟨_, rfl⟩
        obtain rfl := ewo
        go_loopg [7, 8] p (fun gh f at_ wr2 => ∃ i : Nat, 1 ≤ i ∧ i ≤ p ∧ gh = p - i + 1 ∧ f = .bool (firstB xs k i) ∧ at_ = .int .i64 (it xs i k) ∧ wr2 = wo)
        case atStart => exact ⟨1, Nat.le_refl _, hp1, by omega, by rw [firstB_one], by rw [Ez.out], rfl⟩
        case round =>
          obtain ⟨i, hi1, hi', hg2, rfl, rfl, rfl⟩ := hrel
          have Hg2 := Lib.hid hg2
          clear hg2
          have hal := it_lt HP.out hkl (i := i)
          have hs := firstB_succ xs k i hi1
          obtain ⟨a, ea⟩ : ∃ a, a = it xs i k := ⟨_, rfl⟩
          rw [← ea] at hal hs ⊢
          have Ea := Lib.hid ea
          have Hs := Lib.hid hs
          have han : a < n := by have := HZ.out; omega
          have han' : (a : Int) < (n : Int) := by omega
          clear ea hs
          obtain ⟨f, ef⟩ : ∃ f, f = firstB xs k i := ⟨_, rfl⟩
          rw [← ef]
          have Ef := Lib.hid ef
          clear ef
          by_cases hip : i < p
          · have hak : ¬ a = k := by rw [Ea.out]; exact Hpp.out.2.2.2 i hi1 (by rw [← Ep.out]; exact hip)
            have hak1 : ((a : Int) != (k : Int)) = true := by simp; omega
            have hc1 : wr.cell? ⟨b, o + a, none⟩ = some (.int .i64 (it xs (i + 1) k)) := by rw [Hcell.out a han, HP.out.nn a hal, Ea.out]; rfl
            obtain ⟨z, ez⟩ : ∃ z : Nat, z = it xs (i + 1) k := ⟨_, rfl⟩
            rw [← ez] at hc1
            have Ez2 := Lib.hid ez
            clear ez hak
            by_cases hka : k < a
            · have hka' : decide (k < a) = true := decide_eq_true hka
              have hka2 : (k : Int) < (a : Int) := by omega
              have HS : Hid (firstB xs k (i + 1) = f) := Lib.hid (by rw [Hs.out, hka', Ef.out]; simp)
              clear hka'
              cases f
              all_goals
                go_wp2_with fail
                go_roundg (p - (i + 1) + 1)
                case measure => have := Hg2.out; omega
                case rel => exact ⟨i + 1, by omega, by omega, rfl, by rw [HS.out], by rw [Ez2.out], rfl⟩
            · have hka' : decide (k < a) = false := decide_eq_false hka
              have hka2 : ¬ (k : Int) < (a : Int) := by omega
              have HS : Hid (firstB xs k (i + 1) = false) := Lib.hid (by rw [Hs.out, hka']; simp)
              clear hka'
              cases f
              all_goals
                go_wp2_with fail
                go_roundg (p - (i + 1) + 1)
                case measure => have := Hg2.out; omega
                case rel => exact ⟨i + 1, by omega, by omega, rfl, by rw [HS.out], by rw [Ez2.out], rfl⟩
          · have hip' : i = p := by omega
            have hak : a = k := by rw [Ea.out, hip', Ep.out]; exact Hpp.out.2.2.1
            have hak1 : ((a : Int) != (k : Int)) = false := by simp; omega
            have HF : Hid (f = !seenB xs k k) := Lib.hid (by rw [Ef.out, hip', Ep.out]; exact Hfirst.out)
            clear hak hip'
            cases f with
            | false =>
              have HM : Hid ((cycL xs (k + 1)).length = m) := Lib.hid (by
                have : seenB xs k k = true := by have := HF.out; simpa using this
                simp only [cycL]; rw [if_neg (by rw [this]; decide), Em.out])
              go_wp2_with fail
              go_roundg (n - (k + 1))
              case measure => have := Hg.out; omega
              case rel => exact ⟨k + 1, by omega, rfl, by go_num, by rw [HM.out], rfl⟩
            | true =>
              have HM : Hid ((cycL xs (k + 1)).length = m + 1) := Lib.hid (by
                have : seenB xs k k = false := by have := HF.out; simpa using this
                simp only [cycL]; rw [if_pos this, List.length_append, ← Em.out]; rfl)
              go_wp2_with fail
              go_roundg (n - (k + 1))
              case measure => have := Hg.out; omega
              case rel => exact ⟨k + 1, by omega, rfl, by go_num, by rw [HM.out]; go_num, rfl⟩
      · have hlt' : ¬ (k : Int) < (n : Int) := by omega
        have hkn : k = n := by omega
        go_wp2_with fail
        go_ret
        subst hkn
        exact ⟨ret_int (by rw [Hr.out, HZ.out]), hb1⟩

theorem odd_any (l : Int) (A : Option Addr) (n c B : Nat) (xs : List Int) (w : World) (h : Reads w B 1 A n (xs.map (Value.int .i64))) (hB : B ≤ w.heap.size) (hz : xs.length = n) (hn : n ≤ 256) (P : Pm xs) :
    Calls Try.prog 40 #[.slice A n c] w fun e w' => e = .returned (.bool (((n : Int) - ((cycL xs n).length : Int)) % 2 == 1)) ∧ Below w.heap.size w w' := by
  have HQ := Lib.hid (cycles_any A n c B xs w h hB hz hn P)
  have hl := cycL_len xs n
  obtain ⟨m, em⟩ : ∃ m, m = (cycL xs n).length := ⟨_, rfl⟩
  rw [← em] at hl ⊢
  have Em := Lib.hid em
  clear h hz P em
  go_enter Try.func40, Try.ntmps40
  go_wp2_with fail
  refine HQ.out.mono ?_
  rintro e w1 ⟨A2, c2, rfl, hc2, ho2, hb2⟩
  rw [← Em.out]
  go_wp2_with fail
  go_ret
  exact ⟨rfl, hb2⟩

theorem implTableOdd_any (l : Int) (A : Option Addr) (n c B : Nat) (xs : List Int) (w : World) (h : Reads w B 1 A n (xs.map (Value.int .i64))) (hB : B ≤ w.heap.size) (hz : xs.length = n) (hc : n ≤ c) (hn : n ≤ 1048576) :
    Calls Try.prog 23 #[.int .i64 l, .slice A n c] w fun e w' => e = .returned (.bool (tblOdd l xs)) ∧ Below w.heap.size w w' := by
  have HT := Lib.hid (implTableValid_any l A n c B xs w h hB hz hc (by omega))
  cases hv : tblB l xs with
  | false =>
    have Hr : Hid (tblOdd l xs = false) := Lib.hid (by unfold tblOdd; rw [hv]; rfl)
    rw [hv] at HT
    clear hv h hz
    go_enter Try.func23, Try.ntmps23
    go_wp2_with fail
    refine HT.out.mono ?_
    rintro e w1 ⟨rfl, hb1⟩
    go_wp2_with fail
    go_ret
    exact ⟨ret_bool Hr.out.symm, hb1⟩
  | true =>
    have Hr : Hid (tblOdd l xs = (((n : Int) - ((cycL xs n).length : Int)) % 2 == 1)) := Lib.hid (by unfold tblOdd; rw [hv, hz]; rfl)
    have hbd := tblB_bd hv
    have HQ := Lib.hid (fun W (hb : Below w.heap.size w W) => odd_any l A n c B xs W (h.next hb hB) (Nat.le_trans hB hb.size) hz (by omega) (tblB_pm hv))
    rw [hv] at HT
    obtain ⟨q, eq⟩ : ∃ q, q = (((n : Int) - ((cycL xs n).length : Int)) % 2 == 1) := ⟨_, rfl⟩
    rw [← eq] at HQ Hr
    clear hv h hz hbd eq
    go_enter Try.func23, Try.ntmps23
    go_wp2_with fail
    refine HT.out.mono ?_
    rintro e w1 ⟨rfl, hb1⟩
    go_wp2_with fail
    refine (HQ.out _ hb1).mono ?_
    rintro e w2 ⟨rfl, hb2⟩
    go_wp2_with fail
    go_ret
    exact ⟨ret_bool Hr.out.symm, bnext hb1 hb2 (Nat.le_refl _)⟩

end Go.Proofs.Ytfpnjahdjppeaaa
