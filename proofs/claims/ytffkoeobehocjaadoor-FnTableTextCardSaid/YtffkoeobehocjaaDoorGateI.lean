/- Contract of impl.GateValid. -/
import Derived.Test.YtffkoeobehocjaaDoorGateS
import Derived.Test.YtffkoeobehocjaaDoorSome
namespace Go.Proofs.YtffkoeobehocjaaDoor
open Go.RowKit

theorem i64_or_nat (a b : Nat) (ha : a < 9223372036854775808) (hb : b < 9223372036854775808) : bits .or .i64 (a : Int) (b : Int) = ((a ||| b : Nat) : Int) := by
  have hx : a ||| b < 2 ^ 63 := Nat.or_lt_two_pow (by omega) (by omega)
  show IntKind.i64.wrap ((BitVec.ofInt 64 (a : Int) ||| BitVec.ofInt 64 (b : Int)).toNat : Int) = _
  rw [BitVec.toNat_or, ofInt_i64 a ha, ofInt_i64 b hb, IntKind.wrap_i64]
  omega
theorem or_small {a b : Nat} (ha : a < 256) (hb : b < 256) : bits .or .i64 (a : Int) (b : Int) = ((a ||| b : Nat) : Int) := i64_or_nat a b (Nat.lt_trans ha (by decide)) (Nat.lt_trans hb (by decide))
theorem bit_at (s t : Nat) (hs : s < 256) : (bits .and .i64 ((s : Int) / 2 ^ t) 1 == 1) = s.testBit t := by
  have e : ((s : Int) / 2 ^ t) = ((s / 2 ^ t : Nat) : Int) := by rw [Int.natCast_ediv, Int.natCast_pow]; rfl
  have hd : s / 2 ^ t ≤ s := Nat.div_le_self _ _
  rw [e, Nat.testBit_eq_decide_div_mod_eq]
  generalize s / 2 ^ t = q at hd
  rw [and_one (by omega) (by omega)]
  by_cases h : q % 2 = 1
  · rw [decide_eq_true h]; simp; omega
  · rw [decide_eq_false h]; simp; omega
theorem pow_lt8 {t : Nat} (h : t < 8) : 2 ^ t < 256 ∧ wrap64 (2 ^ t) = ((2 ^ t : Nat) : Int) := by
  have : t = 0 ∨ t = 1 ∨ t = 2 ∨ t = 3 ∨ t = 4 ∨ t = 5 ∨ t = 6 ∨ t = 7 := by omega
  rcases this with rfl | rfl | rfl | rfl | rfl | rfl | rfl | rfl <;> exact ⟨by decide, by exact IntWalk.wrap64_in _ (by decide)⟩

/-- s has just the bits of the lines in zs -/
def Bits (s : Nat) (zs : List Int) : Prop := s < 256 ∧ ∀ i : Nat, i < 8 → s.testBit i = hasB zs i
theorem Bits.none_ : Bits 0 [] := ⟨by omega, fun i _ => by simp [hasB]⟩
theorem Bits.add {s t : Nat} {zs : List Int} {k : Nat} (h : Bits s (zs.take k)) (hk : k < zs.length) (ht : t < 8) (e : zs.getD k 0 = (t : Int)) : Bits (s ||| 2 ^ t) (zs.take (k + 1)) := by
  have hp := (pow_lt8 ht).1
  refine ⟨Nat.or_lt_two_pow (n := 8) h.1 hp, fun i hi => ?_⟩
  rw [Nat.testBit_or, h.2 i hi, hasB_snoc zs k hk, e, Nat.testBit_two_pow]
  congr 1
  by_cases hti : t = i
  · subst hti; simp
  · simp only [hti, decide_false]; symm; simp; omega

def allZ (zs : List Int) : Bool := zs.all (· == 0)
theorem allZ_snoc (zs : List Int) (k : Nat) (hk : k < zs.length) : allZ (zs.take (k + 1)) = (allZ (zs.take k) && (zs.getD k 0 == 0)) := by
  unfold allZ
  rw [List.take_succ_eq_append_getElem hk, List.all_append]
  simp [List.getD, List.getElem?_eq_getElem hk]
theorem allZ_not {zs : List Int} {k : Nat} (h : allZ (zs.take k) = false) : allZ zs = false := by
  rw [← Bool.not_eq_true] at *
  intro h'
  apply h
  unfold allZ at *
  rw [List.all_eq_true] at *
  exact fun x hx => h' x (List.mem_of_mem_take hx)
theorem allZ_rest (g : Gt) : allZ (restOf g) = restZ g := by
  unfold restOf restZ allZ
  split
  · simp
  · split <;> simp
theorem restOf_len (g : Gt) : (restOf g).length ≤ 2 := by
  unfold restOf
  split
  · simp
  · split <;> simp

set_option maxHeartbeats 2000000 in
theorem implGateValid_any (l : Int) (g : Gt) (w : World) :
    Calls Tryd.prog 31 #[.int .i64 l, g.val] w fun e w' => e = .returned (.bool (gateB l g)) ∧ Below w.heap.size w w' := by
  obtain ⟨k, a, b, c⟩ := g
  unfold Gt.val
  obtain ⟨nm, li, ch, co, hk, hl⟩ := natOf_form k
  have HK := Lib.hid hk
  clear hk
  have hb0 : ∀ o : Obj, Below w.heap.size w (w.alloc o) := fun o => (Below.refl _ _).alloc (Nat.le_refl _) _
  have Hb := Lib.hid hb0
  clear hb0
  go_enter Tryd.func31, Tryd.ntmps31
  go_wp2_with fail
  refine (nature_any k a b c _).mono ?_
  rintro e w1 ⟨rfl, hb⟩
  have hb1 := (Hb.out _).trans (hb.mono (by simp))
  have hs1 := hb1.size
  have hc0 : ∀ o : Obj, (w1.alloc o).cell? ⟨w.heap.size, 0, none⟩ = some (.int .i64 k) ∧ (w1.alloc o).cell? ⟨w.heap.size, 1, none⟩ = some (.int .i64 a) ∧ (w1.alloc o).cell? ⟨w.heap.size, 2, none⟩ = some (.int .i64 b) ∧ (w1.alloc o).cell? ⟨w.heap.size, 3, none⟩ = some (.int .i64 c) := fun o => by
    have hB := ((Blk.new w _ _).below hb (by simp)).alloc o
    exact ⟨hB.cell 0, hB.cell 1, hB.cell 2, hB.cell 3⟩
  rw [HK.out]
  cases h : inB k 0 4 with
  | false =>
    have Hg : Hid (gateB l ⟨k, a, b, c⟩ = false) := Lib.hid (by simp [gateB, h])
    clear h
    go_wp2_with (go_at_call 42; refine (linesOk_any _ _).mono ?_; rintro e w' ⟨rfl, rfl⟩)
    go_ret
    exact ⟨ret_bool Hg.out.symm, hb1.alloc hb1.size _⟩
  | true =>
    obtain rfl := hl h
    cases hv : inB l 1 8 with
    | false =>
      have Hg : Hid (gateB l ⟨k, a, b, c⟩ = false) := Lib.hid (by simp [gateB, hv])
      go_wp2_with (go_at_call 42; refine (linesOk_any _ _).mono ?_; rintro e w' ⟨rfl, rfl⟩)
      go_ret
      exact ⟨ret_bool Hg.out.symm, hb1.alloc hb1.size _⟩
    | true =>
      have hlv := inB_t hv
      have HH := Lib.hid h
      clear h hl
      obtain ⟨L, hL⟩ : ∃ L, L = natLines k := ⟨_, rfl⟩
      have HS1 := Lib.hid (fun W => some_lines k a b c W HH.out)
      have HS2 := Lib.hid (fun W => some_rest k a b c W HH.out)
      have hL3 := natLines_of k HH.out
      rw [← hL] at HS1 HS2 hL3 ⊢
      obtain ⟨zs, hzs⟩ : ∃ zs, zs = linesOf ⟨k, a, b, c⟩ := ⟨_, rfl⟩
      obtain ⟨rs, hrs⟩ : ∃ rs, rs = restOf ⟨k, a, b, c⟩ := ⟨_, rfl⟩
      have hzl := linesOf_len ⟨k, a, b, c⟩
      have hrl := restOf_len ⟨k, a, b, c⟩
      have Hg : Hid (gateB l ⟨k, a, b, c⟩ = (okP (l - 1) zs zs.length && allZ rs)) := Lib.hid (by unfold gateB; rw [hv, HH.out, hzs, hrs, allZ_rest]; rfl)
      rw [← hzs] at HS1 hzl
      rw [← hrs] at HS2 hrl
      clear hzs hrs hL HH
      go_wp2_with (go_at_call 42; refine (linesOk_any _ _).mono ?_; rintro e w' ⟨rfl, rfl⟩)
      refine (HS1.out _).mono ?_
      rintro e w2 ⟨A, cp, rfl, hcp, ho, hb2⟩
      have hs2 := hb2.size
      have W2 := (hb1.alloc hs1 (Obj.cells #[.string nm, .int .i64 L, .int .i64 ch, .int .i64 co] 67)).trans (hb2.mono (by simp; omega))
      have hx : w2.cell? ⟨w.heap.size, 0, none⟩ = some (.int .i64 k) ∧ w2.cell? ⟨w.heap.size, 1, none⟩ = some (.int .i64 a) ∧ w2.cell? ⟨w.heap.size, 2, none⟩ = some (.int .i64 b) ∧ w2.cell? ⟨w.heap.size, 3, none⟩ = some (.int .i64 c) := by
        have hB := (((Blk.new w _ _).below hb (by simp)).alloc _).below hb2 (by simp; omega)
        exact ⟨hB.cell 0, hB.cell 1, hB.cell 2, hB.cell 3⟩
      have hy : w2.cell? ⟨w1.heap.size, 1, none⟩ = some (.int .i64 L) := ((Blk.new w1 _ _).below hb2 (by simp)).cell 1
      have hr := ho.reads (n := zs.length) (size := 1) (by simp) (by omega)
      clear hc0 hb ho hb2
      obtain ⟨n, hn⟩ : ∃ n, n = zs.length := ⟨_, rfl⟩
      rw [← hn] at hzl hcp hr ⊢
      have Hn := Lib.hid hn
      clear hn HK
      have Hcell : Hid (∀ bb oo, A = some ⟨bb, oo, none⟩ → ∀ j, j < n → w2.cell? ⟨bb, oo + j, none⟩ = some (.int .i64 (zs.getD j 0))) := Lib.hid (fun bb oo e j hj => by
        obtain ⟨b2, o2, e2, _, hc⟩ := hr.open1 Hn.out.symm (by omega)
        rw [e] at e2
        cases e2
        exact hc j hj)
      have hA : n = 0 ∨ ∃ bb oo, A = some ⟨bb, oo, none⟩ := by
        by_cases e : n = 0
        · exact .inl e
        · obtain ⟨b2, o2, e2, _, hc⟩ := hr.open1 Hn.out.symm (by omega)
          exact .inr ⟨b2, o2, e2⟩
      have HA := Lib.hid hA
      clear hA hr
      go_wp2_with fail
      go_loop [7, 29] (fun sn i => ∃ j : Nat, j ≤ n ∧ i = .int .i64 j ∧ okP (l - 1) zs j = true ∧ ∃ s : Nat, sn = .int .i64 s ∧ Bits s (zs.take j)) (fun _ i => n - (intOf i).toNat)
      case atStart => exact ⟨0, Nat.zero_le _, rfl, rfl, 0, rfl, Bits.none_⟩
      case round =>
        obtain ⟨j, hj, rfl, hok, s, rfl, hbits⟩ := hrel
        have Hok := Lib.hid hok
        have HBits := Lib.hid hbits
        have hs256 := hbits.1
        clear hok hbits
        by_cases hlt : j < n
        · obtain ⟨bb, oo, rfl⟩ := HA.out.resolve_left (by omega)
          have hc := Hcell.out bb oo rfl j hlt
          have hlt' : (j : Int) < (n : Int) := by omega
          obtain ⟨z, hz⟩ : ∃ z, z = zs.getD j 0 := ⟨_, rfl⟩
          rw [← hz] at hc
          have hs : okP (l - 1) zs (j + 1) = (inB z 0 (l - 1) && !hasB (zs.take j) z) := by simp only [okP]; rw [Hok.out, ← hz]; rfl
          have Hs := Lib.hid hs
          have Hz := Lib.hid hz
          clear hs hz
          cases hi : inB z 0 (l - 1) with
          | false =>
            have Hf : Hid (gateB l ⟨k, a, b, c⟩ = false) := Lib.hid (by
              have h1 := okP_le (m := l - 1) (zs := zs) (k := j + 1) (n := zs.length) (by have := Hn.out; omega) (by rw [Hs.out, hi]; rfl)
              rw [Hg.out, h1]
              rfl)
            go_wp2_with (go_at_call 43; refine (within_any _ _ _ _).mono ?_; rintro e w' ⟨rfl, rfl⟩)
            go_ret
            exact ⟨ret_bool Hf.out.symm, W2⟩
          | true =>
            have hzi := inB_t hi
            obtain ⟨t, rfl⟩ := Int.eq_ofNat_of_zero_le hzi.1
            have ht8 : t < 8 := by omega
            have hb := bit_at s t hs256
            rw [HBits.out.2 t ht8] at hb
            obtain ⟨p, hp⟩ : ∃ p : Nat, p = 2 ^ t := ⟨_, rfl⟩
            have hp1 := (pow_lt8 ht8).1
            have hp2 := (pow_lt8 ht8).2
            rw [← hp] at hp1 hp2
            have hor := or_small hs256 hp1
            have Hp := Lib.hid hp
            clear hp
            obtain ⟨s2, es2⟩ : ∃ s2 : Nat, s2 = s ||| p := ⟨_, rfl⟩
            rw [← es2] at hor
            have Hs2 := Lib.hid es2
            clear es2
            cases hh : hasB (zs.take j) (t : Int) with
            | true =>
              rw [hh] at hb
              have Hf : Hid (gateB l ⟨k, a, b, c⟩ = false) := Lib.hid (by
                have h1 := okP_le (m := l - 1) (zs := zs) (k := j + 1) (n := zs.length) (by have := Hn.out; omega) (by rw [Hs.out, hi, hh]; rfl)
                rw [Hg.out, h1]
                rfl)
              go_wp2_with (go_at_call 43; refine (within_any _ _ _ _).mono ?_; rintro e w' ⟨rfl, rfl⟩)
              go_ret
              exact ⟨ret_bool Hf.out.symm, W2⟩
            | false =>
              rw [hh] at hb
              have Hok1 : Hid (okP (l - 1) zs (j + 1) = true) := Lib.hid (by rw [Hs.out, hi, hh]; rfl)
              go_wp2_with (go_at_call 43; refine (within_any _ _ _ _).mono ?_; rintro e w' ⟨rfl, rfl⟩)
              go_round
              case rel => exact ⟨j + 1, by omega, by go_num, Hok1.out, s2, rfl, by rw [Hs2.out, Hp.out]; exact HBits.out.add (by have := Hn.out; omega) ht8 Hz.out.symm⟩
              case measure => simp [intOf]; omega
        · have hlt' : ¬ (j : Int) < (n : Int) := by omega
          go_wp2_with fail
          have Hok' : Hid (okP (l - 1) zs zs.length = true) := Lib.hid (by rw [← Hn.out, show n = j from by omega]; exact Hok.out)
          have hxl : bits .xor .i64 (-1) L = -1 - L := by rcases hL3 with rfl | rfl | rfl <;> decide +kernel
          rw [hxl]
          clear hxl Hok HBits hs256 Hcell HA
          refine (HS2.out _).mono ?_
          rintro e w3 ⟨A', cp', rfl, hcp', ho, hb3⟩
          have W3 := W2.trans (hb3.mono W2.size)
          have hr := ho.reads (n := rs.length) (size := 1) (by simp) (by omega)
          clear ho hb3 HS1 HS2 hx hy
          obtain ⟨m, hm⟩ : ∃ m, m = rs.length := ⟨_, rfl⟩
          rw [← hm] at hrl hcp' hr ⊢
          have Hm := Lib.hid hm
          clear hm
          have Hcell : Hid (∀ bb oo, A' = some ⟨bb, oo, none⟩ → ∀ j, j < m → w3.cell? ⟨bb, oo + j, none⟩ = some (.int .i64 (rs.getD j 0))) := Lib.hid (fun bb oo e j hj => by
            obtain ⟨b2, o2, e2, _, hc⟩ := hr.open1 Hm.out.symm (by omega)
            rw [e] at e2
            cases e2
            exact hc j hj)
          have hA : m = 0 ∨ ∃ bb oo, A' = some ⟨bb, oo, none⟩ := by
            by_cases e : m = 0
            · exact .inl e
            · obtain ⟨b2, o2, e2, _, hc⟩ := hr.open1 Hm.out.symm (by omega)
              exact .inr ⟨b2, o2, e2⟩
          have HA := Lib.hid hA
          clear hA hr
          go_wp2_with fail
          go_loop [56] (fun i => ∃ j : Nat, j ≤ m ∧ i = .int .i64 j ∧ allZ (rs.take j) = true) (fun i => m - (intOf i).toNat)
          case atStart => exact ⟨0, Nat.zero_le _, rfl, rfl⟩
          case round =>
            obtain ⟨q, hq, rfl, haz⟩ := hrel
            have Haz := Lib.hid haz
            clear haz
            by_cases hlq : q < m
            · obtain ⟨bb, oo, rfl⟩ := HA.out.resolve_left (by omega)
              have hc := Hcell.out bb oo rfl q hlq
              have hlq' : (q : Int) < (m : Int) := by omega
              obtain ⟨z, hz⟩ : ∃ z, z = rs.getD q 0 := ⟨_, rfl⟩
              rw [← hz] at hc
              have Hs := Lib.hid (show allZ (rs.take (q + 1)) = (z == 0) by rw [allZ_snoc rs q (by have := Hm.out; omega), Haz.out, ← hz]; rfl)
              clear hz
              by_cases hz0 : z = 0
              · have h1 : (z != 0) = false := by simp [hz0]
                have Hz1 : Hid (allZ (rs.take (q + 1)) = true) := Lib.hid (by rw [Hs.out, hz0]; rfl)
                clear hz0
                go_wp2_with fail
                go_round
                case rel => exact ⟨q + 1, by omega, by go_num, Hz1.out⟩
                case measure => simp [intOf]; omega
              · have h1 : (z != 0) = true := by simp [hz0]
                have Hf : Hid (gateB l ⟨k, a, b, c⟩ = false) := Lib.hid (by
                  have h2 := allZ_not (zs := rs) (k := q + 1) (by rw [Hs.out]; simpa using hz0)
                  rw [Hg.out, h2]
                  simp)
                clear hz0
                go_wp2_with fail
                go_ret
                exact ⟨ret_bool Hf.out.symm, W3⟩
            · have hlq' : ¬ (q : Int) < (m : Int) := by omega
              have Hf : Hid (gateB l ⟨k, a, b, c⟩ = true) := Lib.hid (by
                have h2 := Haz.out
                rw [List.take_of_length_le (by have := Hm.out; omega)] at h2
                rw [Hg.out, h2, Hok'.out]
                rfl)
              go_wp2_with fail
              go_ret
              exact ⟨ret_bool Hf.out.symm, W3⟩
end Go.Proofs.YtffkoeobehocjaaDoor
