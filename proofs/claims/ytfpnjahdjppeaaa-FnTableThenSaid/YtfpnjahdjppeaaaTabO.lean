/- Contracts of both TableOrder. -/
import Derived.Test.YtfpnjahdjppeaaaOrd
import Derived.Test.YtfpnjahdjppeaaaTabC
namespace Go.Proofs.Ytfpnjahdjppeaaa
open Go.RowKit
set_option linter.unusedVariables false

theorem gcd_step (a b : Nat) : Nat.gcd b (a % b) = Nat.gcd a b := by
  rw [Nat.gcd_comm b (a % b), ← Nat.gcd_rec, Nat.gcd_comm]
theorem lcm_form (o l : Nat) : ((o : Int) / ((Nat.gcd o l : Nat) : Int)) * (l : Int) = ((Nat.lcm o l : Nat) : Int) := by
  rw [← Int.natCast_ediv, ← Int.natCast_mul]
  congr 1
  unfold Nat.lcm
  rw [Nat.mul_comm o l, Nat.mul_div_assoc l (Nat.gcd_dvd_left o l), Nat.mul_comm]
/-- what TableOrder answers -/
def tblOrder (l : Int) (xs : List Int) : Int := if tblB l xs = true then ((ordN xs xs.length : Nat) : Int) else -1
theorem tblOrder_y {l : Int} {xs : List Int} (h : tblB l xs = true) : tblOrder l xs = ((ordN xs xs.length : Nat) : Int) := if_pos h
theorem tblOrder_n {l : Int} {xs : List Int} (h : tblB l xs = false) : tblOrder l xs = -1 := if_neg (by rw [h]; decide)
theorem cycL_at {xs : List Int} (P : Pm xs) (i : Nat) (hi : i < (cycL xs xs.length).length) : ∃ q : Nat, (cycL xs xs.length).getD i 0 = (q : Int) ∧ q ≤ xs.length := by
  have hs := cycN_sum P (Nat.le_refl xs.length)
  have hc := cnt_le (seenB xs xs.length) xs.length
  have hm := cycL_map xs xs.length
  rw [hm] at hi ⊢
  rw [List.length_map] at hi
  refine ⟨(cycN xs xs.length)[i], by simp [List.getD, List.getElem?_map, List.getElem?_eq_getElem hi], ?_⟩
  have := le_sum (List.getElem_mem hi)
  omega
theorem lcmT_bd {xs : List Int} (P : Pm xs) (h : xs.length ≤ 256) {i : Nat} (hi : i ≤ (cycL xs xs.length).length) : 0 < lcmT (cycL xs xs.length) i ∧ lcmT (cycL xs xs.length) i ≤ 18014398509481984 := by
  have h1 := lcmT_dvd (cycL xs xs.length) hi
  rw [lcmT_cyc P (Nat.le_refl _)] at h1
  have h2 := ordN_pos P (Nat.le_refl xs.length)
  have h3 := ordN_bd P h (Nat.le_refl xs.length)
  exact ⟨Nat.pos_of_dvd_of_pos h1 h2, Nat.le_trans (Nat.le_of_dvd h2 h1) h3⟩

set_option maxHeartbeats 4000000 in
theorem implTableOrder_any (l : Int) (A : Option Addr) (n c B : Nat) (xs : List Int) (w : World) (h : Reads w B 1 A n (xs.map (Value.int .i64))) (hB : B ≤ w.heap.size) (hz : xs.length = n) (hc : n ≤ c) (hn : n ≤ 1048576) :
    Calls Try.prog 25 #[.int .i64 l, .slice A n c] w fun e w' => e = .returned (.int .i64 (tblOrder l xs)) ∧ Below w.heap.size w w' := by
  have HT := Lib.hid (implTableValid_any l A n c B xs w h hB hz hc (by omega))
  cases hv : tblB l xs with
  | false =>
    have Hr := Lib.hid (tblOrder_n hv)
    rw [hv] at HT
    clear hv h hz
    go_enter Try.func25, Try.ntmps25
    go_wp2_with fail
    refine HT.out.mono ?_
    rintro e w1 ⟨rfl, hb1⟩
    go_wp2_with fail
    go_ret
    exact ⟨ret_int Hr.out.symm, hb1⟩
  | true =>
    have hbd := tblB_bd hv
    have P := tblB_pm hv
    have HQ := Lib.hid (fun W (hb : Below w.heap.size w W) => cycles_any A n c B xs W (h.next hb hB) (Nat.le_trans hB hb.size) hz (by omega) P)
    have hr := tblOrder_y hv
    rw [← lcmT_cyc P (Nat.le_refl _)] at hr
    have hat := cycL_at P
    have hlb := fun i hi => lcmT_bd P hbd.2.1 (i := i) hi
    rw [hz] at hr hat hlb
    have hn256 := hbd.2.1
    rw [hz] at hn256
    obtain ⟨L, eL⟩ : ∃ L, L = cycL xs n := ⟨_, rfl⟩
    have hll := cycL_len xs n
    rw [← eL] at hr hat hlb hll HQ
    obtain ⟨m, em⟩ : ∃ m, m = L.length := ⟨_, rfl⟩
    rw [← em] at hr hat hlb hll
    have Hr := Lib.hid hr
    have HA := Lib.hid hat
    have HL := Lib.hid hlb
    have Em := Lib.hid em
    rw [hv] at HT
    clear hv h hz hbd P hr hat hlb eL em
    go_enter Try.func25, Try.ntmps25
    go_wp2_with fail
    refine HT.out.mono ?_
    rintro e w1 ⟨rfl, hb1⟩
    go_wp2_with fail
    refine (HQ.out _ hb1).mono ?_
    rintro e w2 ⟨A2, c2, rfl, hc2, ho2, hb2⟩
    have hb12 := bnext hb1 hb2 (Nat.le_refl _)
    have HR := Lib.hid (ho2.reads (n := L.length) (size := 1) (by simp) (by omega))
    rw [← Em.out] at HR ⊢
    have hm63 : m ≤ 256 := by omega
    clear ho2 hc2 HQ HT hb1 hb2
    go_wp2_with fail
    go_loopg [5, 17] m (fun gh o i wr => ∃ k : Nat, k ≤ m ∧ gh = m - k ∧ i = .int .i64 k ∧ o = .int .i64 (lcmT L k) ∧ ∃ d, wr = w2.drewN d)
    case atStart => exact ⟨0, Nat.zero_le _, rfl, rfl, rfl, 0, rfl⟩
    case round =>
      obtain ⟨k, hk, hg, rfl, rfl, d, rfl⟩ := hrel
      have Hg := Lib.hid hg
      clear hg
      by_cases hlt : k < m
      · have hlt' : (k : Int) < (m : Int) := by omega
        obtain ⟨b, o, rfl, hbB, hcell⟩ := HR.out.open1 Em.out.symm (by omega)
        obtain ⟨q, eq, hq⟩ := HA.out k hlt
        have hc1 := hcell k hlt
        rw [eq] at hc1
        have Eq := Lib.hid eq
        have hb3 := HL.out k (by omega)
        have hb4 := HL.out (k + 1) (by omega)
        have hls : lcmT L (k + 1) = Nat.lcm (lcmT L k) q := by simp only [lcmT]; rw [eq]; rfl
        obtain ⟨p, ep⟩ : ∃ p, p = lcmT L k := ⟨_, rfl⟩
        obtain ⟨z, ez⟩ : ∃ z, z = lcmT L (k + 1) := ⟨_, rfl⟩
        rw [← ep] at hb3 hls ⊢
        rw [← ez] at hb4 hls
        have Ez := Lib.hid ez
        have Hls := Lib.hid hls
        clear hcell eq hls ep ez
        go_wp2_with fail
        go_loopg [8, 9] q (fun gh a_ b_ wr => ∃ a b' : Nat, gh = b' ∧ a_ = .int .i64 a ∧ b_ = .int .i64 b' ∧ Nat.gcd a b' = Nat.gcd p q ∧ a ≤ 18014398509481984 ∧ b' ≤ 18014398509481984 ∧ ∃ d, wr = w2.drewN d)
        case atStart => exact ⟨p, q, rfl, rfl, rfl, rfl, hb3.2, by omega, d, rfl⟩
        case round =>
          obtain ⟨a, b', hg2, rfl, rfl, hgcd, ha, hb', d2, rfl⟩ := hrel
          have Hg2 := Lib.hid hg2
          have Hgcd := Lib.hid hgcd
          clear hg2 hgcd
          by_cases h0 : b' = 0
          · subst h0
            have ha2 : a = Nat.gcd p q := by rw [← Hgcd.out, Nat.gcd_zero_right]
            have hap : 0 < a := by rw [ha2]; exact Nat.gcd_pos_of_pos_left _ hb3.1
            have hmul : ((p : Int) / (a : Int)) * (q : Int) = (z : Int) := by rw [ha2, lcm_form, Hls.out]
            obtain ⟨Q, eQ⟩ : ∃ Q, Q = p / a := ⟨_, rfl⟩
            have hdiv : (p : Int) / (a : Int) = (Q : Int) := by rw [eQ]; rfl
            have hQ : Q ≤ 18014398509481984 := by rw [eQ]; have := Nat.div_le_self p a; omega
            have hmw : (Q : Int) * (q : Int) = (z : Int) := by rw [← hdiv]; exact hmul
            clear eQ
            clear ha2 hmul
            go_wp2_with fail
            go_roundg (m - (k + 1))
            case measure => have := Hg.out; omega
            case rel => exact ⟨k + 1, by omega, rfl, by go_num, by rw [← Ez.out], _, rfl⟩
          · have hb0 : ((b' : Int) != 0) = true := by simp; omega
            obtain ⟨r, er⟩ : ∃ r, r = a % b' := ⟨_, rfl⟩
            have hrm : (a : Int) % (b' : Int) = (r : Int) := by rw [er]; rfl
            have hrt : (a : Int).tmod (b' : Int) = (r : Int) := by rw [er]; rfl
            have hrb : r < b' := by rw [er]; exact Nat.mod_lt _ (by omega)
            have Hgr : Hid (Nat.gcd b' r = Nat.gcd p q) := Lib.hid (by rw [er, gcd_step]; exact Hgcd.out)
            have hb1' : 1 ≤ b' := by omega
            clear er h0
            go_wp2_with fail
            go_quiet (fail)
            go_wp2_with fail
            go_roundg r
            case measure => have := Hg2.out; omega
            case rel => exact ⟨b', r, rfl, rfl, rfl, Hgr.out, hb', by omega, _, World.drewN_drewN _ _ _⟩
      · have hlt' : ¬ (k : Int) < (m : Int) := by omega
        have hkm : k = m := by omega
        subst hkm
        go_wp2_with fail
        go_ret
        exact ⟨ret_int Hr.out.symm, below_drewN hb12 _⟩

set_option maxHeartbeats 4000000 in
theorem specTableOrder_any (l : Int) (A : Option Addr) (n c B : Nat) (xs : List Int) (w : World) (h : Reads w B 1 A n (xs.map (Value.int .i64))) (hB : B ≤ w.heap.size) (hz : xs.length = n) (hc : n ≤ c) (hn : n ≤ 1048576) :
    Calls Try.prog 26 #[.int .i64 l, .slice A n c] w fun e w' => e = .returned (.int .i64 (tblOrder l xs)) ∧ Below w.heap.size w w' := by
  have HT := Lib.hid (Calls.drewBelow (specTableValid_any l A n c B xs w h hz hc (by omega)))
  cases hv : tblB l xs with
  | false =>
    have Hr := Lib.hid (tblOrder_n hv)
    rw [hv] at HT
    clear hv h hz
    go_enter Try.func26, Try.ntmps26
    go_wp2_with fail
    refine HT.out.mono ?_
    rintro e w1 ⟨rfl, hb1⟩
    go_wp2_with fail
    go_ret
    exact ⟨ret_int Hr.out.symm, hb1⟩
  | true =>
    have hbd := tblB_bd hv
    have P := tblB_pm hv
    have HP := Lib.hid P
    have HZ := Lib.hid hz
    have HR := Lib.hid (fun W (hb : Below w.heap.size w W) => h.next hb hB)
    have hr := tblOrder_y hv
    rw [hz] at hr
    have Hr := Lib.hid hr
    have hob := fun k (hk : k ≤ xs.length) => (⟨ordN_pos P hk, ordN_bd P hbd.2.1 hk⟩ : 0 < ordN xs k ∧ ordN xs k ≤ 18014398509481984)
    have HO := Lib.hid hob
    have hn256 := hbd.2.1
    rw [hz] at hn256
    rw [hv] at HT
    clear hv h hz hbd P hr hob
    go_enter Try.func26, Try.ntmps26
    go_wp2_with fail
    refine HT.out.mono ?_
    rintro e w1 ⟨rfl, hb1⟩
    have HR1 := Lib.hid (HR.out _ hb1)
    clear HT HR
    go_wp2_with fail
    go_loopg [5, 6] n (fun gh o i wr => ∃ k : Nat, k ≤ n ∧ gh = n - k ∧ i = .int .i64 k ∧ o = .int .i64 (ordN xs k) ∧ wr = w1)
    case atStart => exact ⟨0, Nat.zero_le _, rfl, rfl, rfl, rfl⟩
    case round =>
      obtain ⟨k, hk, hg, rfl, rfl, rfl⟩ := hrel
      have Hg := Lib.hid hg
      clear hg
      obtain ⟨wo, ewo⟩ : ∃ wo : World, wo = wr := ⟨_, rfl⟩
      obtain rfl := ewo
      by_cases hlt : k < n
      · have hlt' : (k : Int) < (n : Int) := by omega
        have hkl : k < xs.length := by have := HZ.out; omega
        obtain ⟨b, o, rfl, hbB, hcell⟩ := HR1.out.open1 HZ.out (by omega)
        have Hcell := Lib.hid hcell
        have Hpp := Lib.hid (per_spec HP.out hkl)
        have hb3 := HO.out k (by omega)
        have hb4 := HO.out (k + 1) (by omega)
        obtain ⟨q, eq⟩ : ∃ q, q = per xs k := ⟨_, rfl⟩
        have Eq := Lib.hid eq
        have hq1 : 1 ≤ q := by have := Hpp.out.1; omega
        have hqn : q ≤ n := by have := Hpp.out.2.1; have := HZ.out; omega
        have hls : ordN xs (k + 1) = Nat.lcm (ordN xs k) q := by simp only [ordN]; rw [eq]
        obtain ⟨p, ep⟩ : ∃ p, p = ordN xs k := ⟨_, rfl⟩
        obtain ⟨z, ez⟩ : ∃ z, z = ordN xs (k + 1) := ⟨_, rfl⟩
        rw [← ep] at hb3 hls ⊢
        rw [← ez] at hb4 hls
        have Ez := Lib.hid ez
        have Hls := Lib.hid hls
        have hc1 : wo.cell? ⟨b, o + k, none⟩ = some (.int .i64 (it xs 1 k)) := by rw [hcell k hlt, HP.out.nn k hkl]; rfl
        obtain ⟨s, es⟩ : ∃ s : Nat, s = it xs 1 k := ⟨_, rfl⟩
        rw [← es] at hc1
        have Es := Lib.hid es
        clear hcell eq hls ep ez es
        go_wp2_with fail
        clear hc1
        go_loopg [7, 8] q (fun gh lg at_ wr2 => ∃ i : Nat, 1 ≤ i ∧ i ≤ q ∧ gh = q - i + 1 ∧ lg = .int .i64 i ∧ at_ = .int .i64 (it xs i k) ∧ wr2 = wo)
        case atStart => exact ⟨1, Nat.le_refl _, hq1, by omega, rfl, by rw [Es.out], rfl⟩
        case round =>
          obtain ⟨i, hi1, hi', hg2, rfl, rfl, rfl⟩ := hrel
          have Hg2 := Lib.hid hg2
          clear hg2
          have hal := it_lt HP.out hkl (i := i)
          obtain ⟨a, ea⟩ : ∃ a, a = it xs i k := ⟨_, rfl⟩
          rw [← ea] at hal ⊢
          have Ea := Lib.hid ea
          have han : a < n := by have := HZ.out; omega
          have han' : (a : Int) < (n : Int) := by omega
          clear ea
          by_cases hip : i < q
          · have hak : ¬ a = k := by rw [Ea.out]; exact Hpp.out.2.2.2 i hi1 (by rw [← Eq.out]; exact hip)
            have hak1 : ((a : Int) != (k : Int)) = true := by simp; omega
            have hc1 : wr.cell? ⟨b, o + a, none⟩ = some (.int .i64 (it xs (i + 1) k)) := by rw [Hcell.out a han, HP.out.nn a hal, Ea.out]; rfl
            obtain ⟨s2, es2⟩ : ∃ s : Nat, s = it xs (i + 1) k := ⟨_, rfl⟩
            rw [← es2] at hc1
            have Es2 := Lib.hid es2
            clear es2 hak
            go_wp2_with fail
            go_roundg (q - (i + 1) + 1)
            case measure => have := Hg2.out; omega
            case rel => exact ⟨i + 1, by omega, by omega, rfl, by go_num, by rw [Es2.out], rfl⟩
          · have hip' : i = q := by omega
            subst hip'
            have hak : a = k := by rw [Ea.out, Eq.out]; exact Hpp.out.2.2.1
            have hak1 : ((a : Int) != (k : Int)) = false := by simp; omega
            clear hak
            obtain ⟨wp, ewp⟩ : ∃ wp : World, wp = wr := ⟨_, rfl⟩
            obtain rfl := ewp
            go_wp2_with fail
            clear hak1
            go_loopg [9, 10] i (fun gh a_ b_ wr2 => ∃ a b' : Nat, gh = b' ∧ a_ = .int .i64 a ∧ b_ = .int .i64 b' ∧ Nat.gcd a b' = Nat.gcd p i ∧ a ≤ 18014398509481984 ∧ b' ≤ 18014398509481984 ∧ wr2 = wp)
            case atStart => exact ⟨p, i, rfl, rfl, rfl, rfl, hb3.2, by omega, rfl⟩
            case round =>
              obtain ⟨a', b', hg3, rfl, rfl, hgcd, ha, hb', rfl⟩ := hrel
              have Hg3 := Lib.hid hg3
              have Hgcd := Lib.hid hgcd
              clear hg3 hgcd
              by_cases h0 : b' = 0
              · subst h0
                have ha2 : a' = Nat.gcd p i := by rw [← Hgcd.out, Nat.gcd_zero_right]
                have hap : 0 < a' := by rw [ha2]; exact Nat.gcd_pos_of_pos_left _ hb3.1
                have hmul : ((p : Int) / (a' : Int)) * (i : Int) = (z : Int) := by rw [ha2, lcm_form, Hls.out]
                obtain ⟨Q, eQ⟩ : ∃ Q, Q = p / a' := ⟨_, rfl⟩
                have hdiv : (p : Int) / (a' : Int) = (Q : Int) := by rw [eQ]; rfl
                have hQ : Q ≤ 18014398509481984 := by rw [eQ]; have := Nat.div_le_self p a'; omega
                have hmw : (Q : Int) * (i : Int) = (z : Int) := by rw [← hdiv]; exact hmul
                clear eQ
                clear ha2 hmul
                go_wp2_with fail
                go_roundg (n - (k + 1))
                case measure => have := Hg.out; omega
                case rel => exact ⟨k + 1, by omega, rfl, by go_num, by rw [← Ez.out], rfl⟩
              · have hb0 : ((b' : Int) != 0) = true := by simp; omega
                obtain ⟨r, er⟩ : ∃ r, r = a' % b' := ⟨_, rfl⟩
                have hrm : (a' : Int) % (b' : Int) = (r : Int) := by rw [er]; rfl
                have hrb : r < b' := by rw [er]; exact Nat.mod_lt _ (by omega)
                have Hgr : Hid (Nat.gcd b' r = Nat.gcd p i) := Lib.hid (by rw [er, gcd_step]; exact Hgcd.out)
                have hb1' : 1 ≤ b' := by omega
                clear er h0
                go_wp2_with fail
                go_roundg r
                case measure => have := Hg3.out; omega
                case rel => exact ⟨b', r, rfl, rfl, by rw [hrm], Hgr.out, hb', by omega, rfl⟩
      · have hlt' : ¬ (k : Int) < (n : Int) := by omega
        have hkn : k = n := by omega
        subst hkn
        go_wp2_with fail
        go_ret
        exact ⟨ret_int Hr.out.symm, hb1⟩
end Go.Proofs.Ytfpnjahdjppeaaa
