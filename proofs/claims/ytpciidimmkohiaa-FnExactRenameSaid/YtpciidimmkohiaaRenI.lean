/- Contract of impl.Rename. -/
import Derived.Test.YtpciidimmkohiaaRenS
namespace Go.Proofs.Ytpciidimmkohiaa
open Go.RowKit
set_option linter.unusedVariables false

/-- what is known of a valid gate, and of the bits of its kind's lines -/
theorem ren_form {l : Int} {x0 x1 x2 x3 : Int} {ns : List Int} (h : gateB l ⟨x0, x1, x2, x3⟩ = true) (hl : (ns.length : Int) = l) :
    ∃ (nm : ByteArray) (li ch co : Int) (p1 p2 : Bool) (y1 y2 y3 : Nat), natOf x0 = #[.string nm, .int .i64 li, .int .i64 ch, .int .i64 co] ∧ inB x0 0 4 = true ∧ (bits .and .i64 li 1 == 1) = true ∧ (bits .and .i64 (li / 2) 1 == 1) = p1 ∧ (bits .and .i64 (li / 4) 1 == 1) = p2 ∧ 0 ≤ li ∧ li ≤ 7 ∧
      x1 = (y1 : Int) ∧ x2 = (y2 : Int) ∧ x3 = (y3 : Int) ∧ y1 < ns.length ∧ (p1 = true → y2 < ns.length) ∧ (p2 = true → y3 < ns.length) ∧
      renG ns ⟨x0, x1, x2, x3⟩ = ⟨x0, ns.getD y1 0, if p1 = true then ns.getD y2 0 else x2, if p2 = true then ns.getD y3 0 else x3⟩ := by
  obtain ⟨nm, li, ch, co, hk, hli⟩ := natOf_form x0
  have hin := gateB_kind' h
  obtain rfl := hli hin
  have hf := gateB_form h
  simp only at hf
  rcases hf with ⟨h0, hm, hb, hc, ha0, ha1⟩ | ⟨h0, hm, hc, ha0, ha1, hb0, hb1⟩ | ⟨h0, hm, ha0, ha1, hb0, hb1, hc0, hc1⟩
  · subst h0 hb hc
    obtain ⟨y1, rfl⟩ := Int.eq_ofNat_of_zero_le ha0
    exact ⟨nm, _, ch, co, false, false, y1, 0, 0, hk, hin, by decide +kernel, by decide +kernel, by decide +kernel, by decide, by decide, rfl, rfl, rfl, by omega, (fun h => by cases h), (fun h => by cases h), rfl⟩
  · subst hc
    obtain ⟨y1, rfl⟩ := Int.eq_ofNat_of_zero_le ha0
    obtain ⟨y2, rfl⟩ := Int.eq_ofNat_of_zero_le hb0
    rcases h0 with rfl | rfl
    · exact ⟨nm, _, ch, co, true, false, y1, y2, 0, hk, hin, by decide +kernel, by decide +kernel, by decide +kernel, by decide, by decide, rfl, rfl, rfl, by omega, (fun _ => by omega), (fun h => by cases h), rfl⟩
    · exact ⟨nm, _, ch, co, true, false, y1, y2, 0, hk, hin, by decide +kernel, by decide +kernel, by decide +kernel, by decide, by decide, rfl, rfl, rfl, by omega, (fun _ => by omega), (fun h => by cases h), rfl⟩
  · obtain ⟨y1, rfl⟩ := Int.eq_ofNat_of_zero_le ha0
    obtain ⟨y2, rfl⟩ := Int.eq_ofNat_of_zero_le hb0
    obtain ⟨y3, rfl⟩ := Int.eq_ofNat_of_zero_le hc0
    rcases h0 with rfl | rfl
    · exact ⟨nm, _, ch, co, true, true, y1, y2, y3, hk, hin, by decide +kernel, by decide +kernel, by decide +kernel, by decide, by decide, rfl, rfl, rfl, by omega, (fun _ => by omega), (fun _ => by omega), rfl⟩
    · exact ⟨nm, _, ch, co, true, true, y1, y2, y3, hk, hin, by decide +kernel, by decide +kernel, by decide +kernel, by decide, by decide, rfl, rfl, rfl, by omega, (fun _ => by omega), (fun _ => by omega), rfl⟩

/-- a gate whose first i lines have been renamed -/
def renC (x0 x1 x2 x3 z1 z2 z3 : Int) (i : Nat) : Array Value := #[.int .i64 x0, .int .i64 (if 0 < i then z1 else x1), .int .i64 (if 1 < i then z2 else x2), .int .i64 (if 2 < i then z3 else x3)]

set_option maxHeartbeats 8000000 in
set_option maxRecDepth 100000 in
theorem implRename_any (l : Int) (A : Option Addr) (n c B : Nat) (gs : List Gt) (A' : Option Addr) (n' c' B' : Nat) (ns : List Int) (w : World) (h : Reads w B 4 A n (gcells gs)) (hB : B ≤ w.heap.size) (hz : gs.length = n) (hc : n ≤ c) (hn : n ≤ 1048576)
    (h' : Reads w B' 1 A' n' (ns.map (Value.int .i64))) (hB' : B' ≤ w.heap.size) (hz' : ns.length = n') (hc' : n' ≤ c') (hn' : n' ≤ 1048576) :
    Calls Try.prog 46 #[.int .i64 l, .slice A n c, .slice A' n' c'] w fun e w' => RetG (renL l gs ns) w e w' := by
  have HT := Lib.hid (implCircuitValid_any l A n c B gs w h hB hz hc hn)
  cases hv : circB l gs with
  | false =>
    have Hr := Lib.hid (renL_n (l := l) (gs := gs) (ns := ns) (.inl hv))
    rw [hv] at HT
    clear hv h hz h' hz'
    go_enter Try.func46, Try.ntmps46
    go_wp2_with fail
    refine HT.out.mono ?_
    rintro e w1 ⟨rfl, hb1⟩
    go_wp2_with fail
    go_ret
    exact retG_nil Hr.out hb1 rfl
  | true =>
    rw [hv] at HT
    by_cases hl : (n' : Int) = l
    · have hne : ((n' : Int) != l) = false := by simp [hl]
      have hl8 := inB_t (circB_t hv).2.1
      have h24 : n ≤ 24 := by have := (circB_t hv).2.2; omega
      have HV := Lib.hid (fun k hk => circB_mem hv (k := k) hk)
      have HR := Lib.hid h
      have HZ := Lib.hid hz
      have HR' := Lib.hid h'
      have HZ' := Lib.hid hz'
      have HL := Lib.hid hl
      have hvv := Lib.hid hv
      have hmk := Lib.hid (mk_capG n (by omega))
      obtain ⟨ig, gi, gz0, gz1, gz2⟩ := info_parts infoGate
      clear h hz h' hz' hl hv
      go_enter Try.func46, Try.ntmps46
      go_wp2_with fail
      refine HT.out.mono ?_
      rintro e w1 ⟨rfl, W1⟩
      clear HT
      go_wp2_with fail
      clear hne
      go_loopg [7, 29] n' (fun gh sn i wr => ∃ k : Nat, k ≤ n' ∧ gh = n' - k ∧ i = .int .i64 k ∧ okP (l - 1) ns k = true ∧ (∃ s : Nat, sn = .int .i64 s ∧ Bits s (ns.take k)) ∧ wr = w1)
      case atStart => exact ⟨0, Nat.zero_le _, rfl, rfl, rfl, ⟨0, rfl, Bits.none_⟩, rfl⟩
      case round =>
        obtain ⟨k, hk, hg, rfl, hok, ⟨s, rfl, hbits⟩, rfl⟩ := hrel
        have Hg := Lib.hid hg
        have Hok := Lib.hid hok
        have HBits := Lib.hid hbits
        have hs256 := hbits.1
        clear hok hg hbits
        by_cases hlt : k < n'
        · obtain ⟨b, o, rfl, hbB, hcell⟩ := HR'.out.open1 HZ'.out (by omega)
          obtain ⟨z, hz⟩ : ∃ z, z = ns.getD k 0 := ⟨_, rfl⟩
          have hc1 : wr.cell? ⟨b, o + k, none⟩ = some (.int .i64 z) := (W1.cell (p := ⟨b, o + k, none⟩) (by simp; omega)).trans (by rw [hz]; exact hcell k hlt)
          have hlt' : (k : Int) < (n' : Int) := by omega
          have Hs : Hid (okP (l - 1) ns (k + 1) = (inB z 0 (l - 1) && !hasB (ns.take k) z)) := Lib.hid (by simp only [okP]; rw [Hok.out, ← hz]; rfl)
          have Hz := Lib.hid hz
          clear hcell hz
          cases hi : inB z 0 (l - 1) with
          | false =>
            have Hg2 : Hid (renL l gs ns = []) := Lib.hid (renL_n (.inr (namesB_no (k := k + 1) (by have := HZ'.out; omega) (by rw [Hs.out, hi]; rfl))))
            go_wp2_with (go_at_call 66; refine (within_any _ _ _ _).mono ?_; rintro e w' ⟨rfl, rfl⟩)
            go_ret
            exact retG_nil Hg2.out W1 rfl
          | true =>
            have hzi := inB_t hi
            obtain ⟨t, rfl⟩ := Int.eq_ofNat_of_zero_le hzi.1
            have ht8 : t < 8 := by omega
            have hb := bit_at s t hs256
            rw [HBits.out.2 t ht8] at hb
            obtain ⟨p, hp⟩ : ∃ p : Nat, p = 2 ^ t := ⟨_, rfl⟩
            have hp1 := (pow_lt8 ht8).1
            have hp2 := (pow_lt8 ht8).2
            rw [← hp] at hp1 hp2
            have hor := or_small hs256 hp1
            have Hp := Lib.hid hp
            clear hp
            obtain ⟨s2, es2⟩ : ∃ s2 : Nat, s2 = s ||| p := ⟨_, rfl⟩
            rw [← es2] at hor
            have Hs2 := Lib.hid es2
            clear es2
            cases hh : hasB (ns.take k) (t : Int) with
            | true =>
              rw [hh] at hb
              have Hg2 : Hid (renL l gs ns = []) := Lib.hid (renL_n (.inr (namesB_no (k := k + 1) (by have := HZ'.out; omega) (by rw [Hs.out, hi, hh]; rfl))))
              go_wp2_with (go_at_call 66; refine (within_any _ _ _ _).mono ?_; rintro e w' ⟨rfl, rfl⟩)
              go_ret
              exact retG_nil Hg2.out W1 rfl
            | false =>
              rw [hh] at hb
              have Hok1 : Hid (okP (l - 1) ns (k + 1) = true) := Lib.hid (by rw [Hs.out, hi, hh]; rfl)
              go_wp2_with (go_at_call 66; refine (within_any _ _ _ _).mono ?_; rintro e w' ⟨rfl, rfl⟩)
              go_roundg (n' - (k + 1))
              case measure => have := Hg.out; omega
              case rel => exact ⟨k + 1, by omega, rfl, by go_num, Hok1.out, ⟨s2, rfl, by rw [Hs2.out, Hp.out]; exact HBits.out.add (by have := HZ'.out; omega) ht8 Hz.out.symm⟩, rfl⟩
        · have hlt' : ¬ (k : Int) < (n' : Int) := by omega
          have Hr := Lib.hid (renL_y (ns := ns) hvv.out (namesB_yes (by rw [HZ'.out]; exact HL.out) (by have h2 := Hok.out; rwa [show k = ns.length from by have := HZ'.out; omega] at h2)))
          have hmk2 := hmk.out
          clear hs256 HBits
          go_wp2_with fail
          clear hmk2
          have hsw := W1.size
          go_loopg [10, 55] n (fun gh v i wx => ∃ q : Nat, q ≤ n ∧ gh = n - q ∧ i = .int .i64 q ∧ wx.ownsRow w.heap.size 31 4 v q (gcells ((gs.map (renG ns)).take q)) ∧ Below w.heap.size w wx)
          case atStart => exact ⟨0, Nat.zero_le _, rfl, rfl, by simpa [gcells] using World.ownsRow_made (base := w.heap.size) (e := 31) (size := 4) wr (madeCells #[.int .i64 0, .int .i64 0, .int .i64 0, .int .i64 0] (n * 4)) n hsw (by unfold maxLen; omega) (by simp [size_madeCells]), W1.alloc hsw _⟩
          case round =>
            obtain ⟨q, hq, hg3, rfl, hown, hb⟩ := hrel
            obtain ⟨wo, rfl⟩ : ∃ wo : World, wo = wr := ⟨_, rfl⟩
            have Hg3 := Lib.hid hg3
            have Hown := Lib.hid hown
            have hsz := hb.size
            clear hg3 hown
            by_cases hqn : q < n
            · have hqn' : (q : Int) < (n : Int) := by omega
              obtain ⟨b, o, rfl, hbB, hcell⟩ := HR.out.openG HZ.out (by omega)
              obtain ⟨b', o', rfl, hbB', _⟩ := HR'.out.open1 HZ'.out (by have := HL.out; omega)
              obtain ⟨g, eg⟩ : ∃ g, g = gs.getD q g0 := ⟨_, rfl⟩
              have hgat := (hcell q hqn).below hb (by omega)
              have hgv := HV.out q (by have := HZ.out; omega)
              have hsn := ren_snoc gs ns (k := q) (by have := HZ.out; omega)
              rw [← eg] at hgat hgv hsn
              obtain ⟨x0, x1, x2, x3⟩ := g
              obtain ⟨q0, q1, q2, q3⟩ := hgat
              simp only at q0 q1 q2 q3
              obtain ⟨nm, li, ch, co, p1, p2, y1, y2, y3, hnat, hin, e0, e1, e2, hl0, hl7, rfl, rfl, rfl, hy1, hy2, hy3, hren⟩ := ren_form hgv (ns := ns) (by rw [HZ'.out]; exact HL.out)
              rw [hren] at hsn
              obtain ⟨z1, ez1⟩ : ∃ z, z = ns.getD y1 0 := ⟨_, rfl⟩
              obtain ⟨z2, ez2⟩ : ∃ z, z = (if p1 = true then ns.getD y2 0 else (y2 : Int)) := ⟨_, rfl⟩
              obtain ⟨z3, ez3⟩ : ∃ z, z = (if p2 = true then ns.getD y3 0 else (y3 : Int)) := ⟨_, rfl⟩
              rw [← ez1, ← ez2, ← ez3] at hsn
              have CN := Lib.hid (fun W => by have := nature_any x0 y1 y2 y3 W; rw [hnat, hin] at this; exact this)
              have Hsn := Lib.hid hsn
              have hvl := Hown.out.lt
              have Ez1 := Lib.hid ez1
              have Ez2 := Lib.hid ez2
              have Ez3 := Lib.hid ez3
              have E0 := Lib.hid e0
              have E1 := Lib.hid e1
              have E2 := Lib.hid e2
              have Y2 := Lib.hid hy2
              have Y3 := Lib.hid hy3
              rw [HZ'.out] at hy1 Y2 Y3
              clear hcell eg hgv hsn hnat hin hren ez1 ez2 ez3 e0 e1 e2 hy2 hy3
              go_wp2_with fail
              refine (CN.out _).mono ?_
              rintro e w2 ⟨rfl, hb2⟩
              obtain ⟨B2, W2⟩ := box1 hb2
              have own2 := own_next Hown.out W2
              have Own2 := Lib.hid own2
              have hw2 := W2.size
              have hb3 := bnext hb W2 (Nat.le_refl _)
              have hw3 := hb3.size
              have B2l := B2.lt
              clear hb2 own2 q0 q1 q2 q3
              go_wp2_with fail
              have B12 := (B2.alloc (Obj.cells #[.string nm, .int .i64 li, .int .i64 ch, .int .i64 co] 64)).alloc (Obj.cells #[.pointer (some ⟨wo.heap.size, 1, none⟩), .pointer (some ⟨wo.heap.size, 2, none⟩), .pointer (some ⟨wo.heap.size, 3, none⟩)] 72)
              have BN := (Blk.new w2 64 #[.string nm, .int .i64 li, .int .i64 ch, .int .i64 co]).alloc (Obj.cells #[.pointer (some ⟨wo.heap.size, 1, none⟩), .pointer (some ⟨wo.heap.size, 2, none⟩), .pointer (some ⟨wo.heap.size, 3, none⟩)] 72)
              have BP := Blk.new (w2.alloc (Obj.cells #[.string nm, .int .i64 li, .int .i64 ch, .int .i64 co] 64)) 72 #[.pointer (some ⟨wo.heap.size, 1, none⟩), .pointer (some ⟨wo.heap.size, 2, none⟩), .pointer (some ⟨wo.heap.size, 3, none⟩)]
              have Own3 := Lib.hid ((Own2.out.alloc (Obj.cells #[.string nm, .int .i64 li, .int .i64 ch, .int .i64 co] 64)).alloc (Obj.cells #[.pointer (some ⟨wo.heap.size, 1, none⟩), .pointer (some ⟨wo.heap.size, 2, none⟩), .pointer (some ⟨wo.heap.size, 3, none⟩)] 72))
              have W3 := (hb3.alloc hw3 (Obj.cells #[.string nm, .int .i64 li, .int .i64 ch, .int .i64 co] 64)).alloc (by simp; omega) (Obj.cells #[.pointer (some ⟨wo.heap.size, 1, none⟩), .pointer (some ⟨wo.heap.size, 2, none⟩), .pointer (some ⟨wo.heap.size, 3, none⟩)] 72)
              simp only [World.size_alloc] at BP
              generalize (w2.alloc (Obj.cells #[.string nm, .int .i64 li, .int .i64 ch, .int .i64 co] 64)).alloc (Obj.cells #[.pointer (some ⟨wo.heap.size, 1, none⟩), .pointer (some ⟨wo.heap.size, 2, none⟩), .pointer (some ⟨wo.heap.size, 3, none⟩)] 72) = w3 at B12 BN BP Own3 W3 ⊢
              have hw4 := W3.size
              go_loopg [69] 3 (fun gh i wx => ∃ j : Nat, j ≤ 3 ∧ gh = 3 - j ∧ i = .int .i64 j ∧ Blk wx wo.heap.size 31 (renC x0 y1 y2 y3 z1 z2 z3 j) ∧ w3.grownBy wx (some wo.heap.size))
              case atStart => exact ⟨0, by omega, rfl, rfl, B12, World.grownBy.refl _ _⟩
              case round =>
                obtain ⟨j, hj, hg4, rfl, hbx, hgr⟩ := hrel
                have Hg4 := Lib.hid hg4
                have hgs := hgr.size
                have BNx := BN.grown hgr (fun e => by have := Option.some.inj e; omega)
                have BPx := BP.grown hgr (fun e => by have := Option.some.inj e; omega)
                have Wx := W3.grown hgr hw4 (fun q e => by have := Option.some.inj e; omega)
                have hwx := Wx.size
                have cN : wr.cell? ⟨w2.heap.size, 1, none⟩ = some (.int .i64 li) := BNx.cell 1
                clear hg4
                have hj4 : j = 0 ∨ j = 1 ∨ j = 2 ∨ j = 3 := by omega
                rcases hj4 with rfl | rfl | rfl | rfl
                · have cP : wr.cell? ⟨w2.heap.size + 1, 0, none⟩ = some (.pointer (some ⟨wo.heap.size, 1, none⟩)) := BPx.cell 0
                  have c1 : wr.cell? ⟨wo.heap.size, 1, none⟩ = some (.int .i64 y1) := hbx.cell 1
                  have r1 := hbx.frozen 1
                  have n1 : wr.cell? ⟨b', o' + y1, none⟩ = some (.int .i64 (ns.getD y1 0)) := blk_get HR'.out HZ'.out (Wx.mono hB') rfl hy1
                  rw [← Ez1.out] at n1
                  have e0 := E0.out
                  have hy1' : (y1 : Int) < (n' : Int) := by omega
                  go_wp2_with fail
                  go_roundg 2
                  case measure => have := Hg4.out; omega
                  case rel => exact ⟨1, by omega, rfl, rfl, hbx.set_ 1 _, only_setCell hgr (.inl rfl) _⟩
                · have cP : wr.cell? ⟨w2.heap.size + 1, 1, none⟩ = some (.pointer (some ⟨wo.heap.size, 2, none⟩)) := BPx.cell 1
                  have c1 : wr.cell? ⟨wo.heap.size, 2, none⟩ = some (.int .i64 y2) := hbx.cell 2
                  have r1 := hbx.frozen 2
                  have e1 := E1.out
                  cases p1 with
                  | false =>
                    have hz2 : z2 = (y2 : Int) := Ez2.out
                    have hbx2 : Blk wr wo.heap.size 31 (renC x0 y1 y2 y3 z1 z2 z3 2) := by rw [hz2]; rw [hz2] at hbx; exact hbx
                    have Hbx2 := Lib.hid hbx2
                    clear hz2 hbx2
                    go_wp2_with fail
                    go_roundg 1
                    case measure => have := Hg4.out; omega
                    case rel => exact ⟨2, by omega, rfl, rfl, Hbx2.out, hgr⟩
                  | true =>
                    have hy2n := Y2.out rfl
                    have n1 : wr.cell? ⟨b', o' + y2, none⟩ = some (.int .i64 (ns.getD y2 0)) := blk_get HR'.out HZ'.out (Wx.mono hB') rfl hy2n
                    rw [show ns.getD y2 0 = z2 from Ez2.out.symm] at n1
                    have hy2' : (y2 : Int) < (n' : Int) := by omega
                    go_wp2_with fail
                    go_roundg 1
                    case measure => have := Hg4.out; omega
                    case rel => exact ⟨2, by omega, rfl, rfl, hbx.set_ 2 _, only_setCell hgr (.inl rfl) _⟩
                · have cP : wr.cell? ⟨w2.heap.size + 1, 2, none⟩ = some (.pointer (some ⟨wo.heap.size, 3, none⟩)) := BPx.cell 2
                  have c1 : wr.cell? ⟨wo.heap.size, 3, none⟩ = some (.int .i64 y3) := hbx.cell 3
                  have r1 := hbx.frozen 3
                  have e2 := E2.out
                  cases p2 with
                  | false =>
                    have hz3 : z3 = (y3 : Int) := Ez3.out
                    have hbx2 : Blk wr wo.heap.size 31 (renC x0 y1 y2 y3 z1 z2 z3 3) := by rw [hz3]; rw [hz3] at hbx; exact hbx
                    have Hbx2 := Lib.hid hbx2
                    clear hz3 hbx2
                    go_wp2_with fail
                    go_roundg 0
                    case measure => have := Hg4.out; omega
                    case rel => exact ⟨3, by omega, rfl, rfl, Hbx2.out, hgr⟩
                  | true =>
                    have hy3n := Y3.out rfl
                    have n1 : wr.cell? ⟨b', o' + y3, none⟩ = some (.int .i64 (ns.getD y3 0)) := blk_get HR'.out HZ'.out (Wx.mono hB') rfl hy3n
                    rw [show ns.getD y3 0 = z3 from Ez3.out.symm] at n1
                    have hy3' : (y3 : Int) < (n' : Int) := by omega
                    go_wp2_with fail
                    go_roundg 0
                    case measure => have := Hg4.out; omega
                    case rel => exact ⟨3, by omega, rfl, rfl, hbx.set_ 3 _, only_setCell hgr (.inl rfl) _⟩
                · have c0 : wr.cell? ⟨wo.heap.size, 0, none⟩ = some (.int .i64 x0) := hbx.cell 0
                  have c1 : wr.cell? ⟨wo.heap.size, 1, none⟩ = some (.int .i64 z1) := hbx.cell 1
                  have c2 : wr.cell? ⟨wo.heap.size, 2, none⟩ = some (.int .i64 z2) := hbx.cell 2
                  have c3 : wr.cell? ⟨wo.heap.size, 3, none⟩ = some (.int .i64 z3) := hbx.cell 3
                  have own5 := Own3.out.kept hgr (.inr (fun e => by have := (hvl _ e).2; omega))
                  have Own5 := Lib.hid own5
                  have hlw := own5.lt
                  clear own5
                  go_wp2_with (at_builtin; refine wpList_append_own _ rfl _ _ 22 rfl w.heap.size 31 ig (.agg #[.int .i64 0, .int .i64 0, .int .i64 0, .int .i64 0]) 4 32 Try.underlying22 gi gz0 gz1 gz2 rfl (by decide) _ _ _ rfl (Own5.out.alloc _) ⟨wr.heap.size, 0, none⟩ 1 1 [.int .i64 x0, .int .i64 z1, .int .i64 z2, .int .i64 z3] rfl rfl (cells_newAt _ _ _ (by first | rfl | simp [World.setCell])) (by simp [Value.oneCell']) (by unfold maxLen; omega) (by omega) (by simp; omega) ?_; intro v' w6 hown' hgrow _)
                  have hb' := (Wx.alloc hwx (Obj.cells #[.int .i64 x0, .int .i64 z1, .int .i64 z2, .int .i64 z3] 31)).grown hgrow (by simp; omega) (fun q e => (hlw q e).1)
                  clear hlw hgrow
                  go_wp2_with fail
                  go_roundg (n - (q + 1))
                  case measure => have := Hg3.out; omega
                  case rel => exact ⟨q + 1, by omega, rfl, by go_num, by rw [Hsn.out]; exact hown', hb'⟩
            · have hqn' : ¬ (q : Int) < (n : Int) := by omega
              obtain rfl : q = n := by omega
              have hown := Hown.out
              rw [List.take_of_length_le (by rw [List.length_map, HZ.out]; exact Nat.le_refl _)] at hown
              go_wp2_with fail
              go_ret
              rw [Hr.out]
              exact retG_acc hown hb rfl
    · have hne : ((n' : Int) != l) = true := by simp [hl]
      have Hr := Lib.hid (renL_n (l := l) (gs := gs) (ns := ns) (.inr (namesB_len (by rw [hz']; exact hl))))
      clear hl hv h hz h' hz'
      go_enter Try.func46, Try.ntmps46
      go_wp2_with fail
      refine HT.out.mono ?_
      rintro e w1 ⟨rfl, hb1⟩
      go_wp2_with fail
      go_ret
      exact retG_nil Hr.out hb1 rfl
end Go.Proofs.Ytpciidimmkohiaa
