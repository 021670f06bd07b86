/- Contract of spec.Rename. -/
import Derived.Test.YtpciidimmkohiaaRenM
namespace Go.Proofs.Ytpciidimmkohiaa
open Go.RowKit
set_option linter.unusedVariables false

theorem blk_get {n : Nat} {xs : List Int} {w W : World} {B : Nat} {A : Option Addr} (h : Reads w B 1 A n (xs.map (Value.int .i64))) (hz : xs.length = n) (hb : Below B w W) {b o : Nat} (hA : A = some ⟨b, o, none⟩) {j : Nat} (hj : j < n) : W.cell? ⟨b, o + j, none⟩ = some (.int .i64 (xs.getD j 0)) := by
  obtain ⟨b', o', e, hbB, hc⟩ := h.open1 hz (by omega)
  rw [hA] at e
  cases e
  exact (hb.cell (p := ⟨b, o + j, none⟩) hbB).trans (hc j hj)

set_option maxHeartbeats 8000000 in
set_option maxRecDepth 100000 in
theorem specRename_any (l : Int) (A : Option Addr) (n c B : Nat) (gs : List Gt) (A' : Option Addr) (n' c' B' : Nat) (ns : List Int) (w : World) (h : Reads w B 4 A n (gcells gs)) (hB : B ≤ w.heap.size) (hz : gs.length = n) (hc : n ≤ c) (hn : n ≤ 1048576)
    (h' : Reads w B' 1 A' n' (ns.map (Value.int .i64))) (hB' : B' ≤ w.heap.size) (hz' : ns.length = n') (hc' : n' ≤ c') (hn' : n' ≤ 1048576) :
    Calls Try.prog 44 #[.int .i64 l, .slice A n c, .slice A' n' c'] w fun e w' => RetG (renL l gs ns) w e w' := by
  have hW0 : Below w.heap.size w (w.alloc (.cells #[] 31)) := (Below.refl _ _).alloc (Nat.le_refl _) _
  have HT := Lib.hid (specCircuitValid_any l A n c B gs (w.alloc (.cells #[] 31)) (h.next hW0 hB) (Nat.le_trans hB hW0.size) hz hc hn)
  have HW0 := Lib.hid hW0
  cases hv : circB l gs with
  | false =>
    have Hr := Lib.hid (renL_n (l := l) (gs := gs) (ns := ns) (.inl hv))
    rw [hv] at HT
    clear hv h hz h' hz' hW0
    go_enter Try.func44, Try.ntmps44
    go_wp2_with fail
    refine HT.out.mono ?_
    rintro e w1 ⟨rfl, hb1⟩
    go_wp2_with fail
    go_ret
    exact retG_nil Hr.out (HW0.out.trans (hb1.mono (by simp))) rfl
  | true =>
    rw [hv] at HT
    by_cases hl : (n' : Int) = l
    · have hne : ((n' : Int) != l) = false := by simp [hl]
      have hl8 := inB_t (circB_t hv).2.1
      have h24 : n ≤ 24 := by have := (circB_t hv).2.2; omega
      have HV := Lib.hid (fun k hk => circB_mem hv (k := k) hk)
      have HR := Lib.hid h
      have HZ := Lib.hid hz
      have HR' := Lib.hid h'
      have HZ' := Lib.hid hz'
      have HL := Lib.hid hl
      have hvv := Lib.hid hv
      obtain ⟨ig, gi, gz0, gz1, gz2⟩ := info_parts infoGate
      clear h hz h' hz' hW0 hl hv
      go_enter Try.func44, Try.ntmps44
      go_wp2_with fail
      refine HT.out.mono ?_
      rintro e w1 ⟨rfl, hb1⟩
      have W1 := HW0.out.trans (hb1.mono (by simp))
      have own0 := own_next (World.ownsRow_made (base := w.heap.size) (e := 31) (size := 4) w #[] 0 (Nat.le_refl _) (by simp [maxLen]) rfl) hb1
      have Own0 := Lib.hid own0
      clear HT own0 hb1
      go_wp2_with fail
      clear hne
      go_loopg [8] n' (fun gh i wr => ∃ k : Nat, k ≤ n' ∧ gh = n' - k ∧ i = .int .i64 k ∧ okP (l - 1) ns k = true ∧ ∃ d, wr = w1.drewN d)
      case atStart => exact ⟨0, Nat.zero_le _, rfl, rfl, rfl, 0, rfl⟩
      case round =>
        obtain ⟨k, hk, hg, rfl, hok, d, rfl⟩ := hrel
        have Hg := Lib.hid hg
        have Hok := Lib.hid hok
        clear hok hg
        by_cases hlt : k < n'
        · obtain ⟨b, o, rfl, hbB, hcell⟩ := HR'.out.open1 HZ'.out (by omega)
          obtain ⟨z, hz⟩ : ∃ z, z = ns.getD k 0 := ⟨_, rfl⟩
          have hc1 : w1.cell? ⟨b, o + k, none⟩ = some (.int .i64 z) := (W1.cell (p := ⟨b, o + k, none⟩) (by simp; omega)).trans (by rw [hz]; exact hcell k hlt)
          have hlt' : (k : Int) < (n' : Int) := by omega
          have hkc : k ≤ c' := by omega
          have Hs : Hid (okP (l - 1) ns (k + 1) = (inB z 0 (l - 1) && !hasB (ns.take k) z)) := Lib.hid (by simp only [okP]; rw [Hok.out, ← hz]; rfl)
          have hrt := Lib.hid ((HR'.out.take HZ'.out hk).below (W1.mono hB'))
          have Hlt : Hid ((ns.take k).length = k) := Lib.hid (by rw [List.length_take]; have := HZ'.out; omega)
          clear hcell hz
          cases hi : inB z 0 (l - 1) with
          | false =>
            have Hg2 : Hid (renL l gs ns = []) := Lib.hid (renL_n (.inr (namesB_no (k := k + 1) (by have := HZ'.out; omega) (by rw [Hs.out, hi]; rfl))))
            go_wp2_with fail
            go_quiet ((go_at_call 49; first | exact quiet_add_left (l1In_any _ _ _ _) | exact quiet_left (l1In_any _ _ _ _)))
            go_wp2_with fail
            go_ret
            exact retG_nil Hg2.out (below_drewN (below_drewN W1 _) _) rfl
          | true =>
            cases hh : hasB (ns.take k) z with
            | true =>
              have Hg2 : Hid (renL l gs ns = []) := Lib.hid (renL_n (.inr (namesB_no (k := k + 1) (by have := HZ'.out; omega) (by rw [Hs.out, hi, hh]; rfl))))
              go_wp2_with fail
              go_quiet ((first | (go_at_call 49; first | exact quiet_add_left (l1In_any _ _ _ _) | exact quiet_left (l1In_any _ _ _ _)) | (go_at_call 55; first | exact quiet_add_left (l1Has_any _ _ _ _ _ _ _ (hrt.out.drewN _) Hlt.out (by omega)) | exact quiet_left (l1Has_any _ _ _ _ _ _ _ ((hrt.out.drewN _).drewN _) Hlt.out (by omega)))))
              go_wp2_with fail
              go_ret
              exact retG_nil Hg2.out (below_drewN (below_drewN W1 _) _) rfl
            | false =>
              have Hok1 : Hid (okP (l - 1) ns (k + 1) = true) := Lib.hid (by rw [Hs.out, hi, hh]; rfl)
              go_wp2_with fail
              go_quiet ((first | (go_at_call 49; first | exact quiet_add_left (l1In_any _ _ _ _) | exact quiet_left (l1In_any _ _ _ _)) | (go_at_call 55; first | exact quiet_add_left (l1Has_any _ _ _ _ _ _ _ (hrt.out.drewN _) Hlt.out (by omega)) | exact quiet_left (l1Has_any _ _ _ _ _ _ _ ((hrt.out.drewN _).drewN _) Hlt.out (by omega)))))
              go_wp2_with fail
              go_roundg (n' - (k + 1))
              case measure => have := Hg.out; omega
              case rel => exact ⟨k + 1, by omega, rfl, by go_num, Hok1.out, _, rfl⟩
        · have hlt' : ¬ (k : Int) < (n' : Int) := by omega
          have Hr := Lib.hid (renL_y (ns := ns) hvv.out (namesB_yes (by rw [HZ'.out]; exact HL.out) (by have h2 := Hok.out; rwa [show k = ns.length from by have := HZ'.out; omega] at h2)))
          have hok2 : okP (l - 1) ns ns.length = true := by have h2 := Hok.out; rwa [show k = ns.length from by have := HZ'.out; omega] at h2
          clear hok2
          have Wd := below_drewN W1 d
          have Ownd : Hid ((w1.drewN d).ownsRow w.heap.size 31 4 (.slice (some ⟨w.heap.size, 0, none⟩) 0 0) 0 []) := Own0
          obtain ⟨wd, ewd⟩ : ∃ wd, wd = w1.drewN d := ⟨_, rfl⟩
          rw [← ewd] at Wd Ownd ⊢
          clear ewd
          go_wp2_with fail
          go_loopg [7, 9] n (fun gh v i wr => ∃ q : Nat, q ≤ n ∧ gh = n - q ∧ i = .int .i64 q ∧ wr.ownsRow w.heap.size 31 4 v q (gcells ((gs.map (renG ns)).take q)) ∧ Below w.heap.size w wr)
          case atStart => exact ⟨0, Nat.zero_le _, rfl, rfl, by simpa [gcells] using Ownd.out, Wd⟩
          case round =>
            obtain ⟨q, hq, hg3, rfl, hown, hb⟩ := hrel
            have Hg3 := Lib.hid hg3
            have Hown := Lib.hid hown
            have hsz := hb.size
            clear hg3 hown
            by_cases hqn : q < n
            · have hqn' : (q : Int) < (n : Int) := by omega
              obtain ⟨b, o, rfl, hbB, hcell⟩ := HR.out.openG HZ.out (by omega)
              obtain ⟨b', o', rfl, hbB', _⟩ := HR'.out.open1 HZ'.out (by have := HL.out; omega)
              obtain ⟨g, eg⟩ : ∃ g, g = gs.getD q g0 := ⟨_, rfl⟩
              have hgat := (hcell q hqn).below hb (by omega)
              have hgv := HV.out q (by have := HZ.out; omega)
              have hsn := ren_snoc gs ns (k := q) (by have := HZ.out; omega)
              rw [← eg] at hgat hgv hsn
              have hform := gateB_form hgv
              obtain ⟨x0, x1, x2, x3⟩ := g
              obtain ⟨q0, q1, q2, q3⟩ := hgat
              simp only at q0 q1 q2 q3 hform
              have hC : ∀ W, Calls Try.prog 56 #[.agg #[.int .i64 x0, .int .i64 x1, .int .i64 x2, .int .i64 x3]] W fun e w' => RetL (linesOf ⟨x0, x1, x2, x3⟩) W e w' := fun W => specLinesOf_any ⟨x0, x1, x2, x3⟩ W
              simp only [renG] at hsn
              obtain ⟨zs, ezs⟩ : ∃ zs, zs = linesOf ⟨x0, x1, x2, x3⟩ := ⟨_, rfl⟩
              rw [← ezs] at hC hsn hform
              obtain ⟨m, em⟩ : ∃ m, m = zs.length := ⟨_, rfl⟩
              rw [← em] at hsn hform
              have CL := Lib.hid hC
              have Hsn := Lib.hid hsn
              have Hform := Lib.hid hform
              have Em := Lib.hid em
              have hvl := Hown.out.lt
              clear hcell eg hgv hsn hform hC ezs em
              go_wp2_with fail
              refine (CL.out _).mono ?_
              rintro e w2 ⟨A2, c2, rfl, hc2, ho2, hb2⟩
              rw [← Em.out]
              obtain ⟨B2, W2⟩ := box1 hb2
              have own2 := own_next Hown.out W2
              have Own2 := Lib.hid own2
              have hw2 := W2.size
              have hx1 : 0 ≤ x1 ∧ x1 < n' := by have := HL.out; rcases Hform.out with h | h | h <;> omega
              obtain ⟨y1, rfl⟩ := Int.eq_ofNat_of_zero_le hx1.1
              have hbb := bnext hb W2 (Nat.le_refl _)
              have n1 : w2.cell? ⟨b', o' + y1, none⟩ = some (.int .i64 (ns.getD y1 0)) := blk_get HR'.out HZ'.out (hbb.mono hB') rfl (by omega)
              have f0 : w2.cell? ⟨_, 0, none⟩ = some (.int .i64 x0) := B2.cell 0
              have f1 : w2.cell? ⟨_, 1, none⟩ = some (.int .i64 y1) := B2.cell 1
              have f2 : w2.cell? ⟨_, 2, none⟩ = some (.int .i64 x2) := B2.cell 2
              have f3 : w2.cell? ⟨_, 3, none⟩ = some (.int .i64 x3) := B2.cell 3
              have hy1 : (y1 : Int) < (n' : Int) := by omega
              have hw3 : wr.heap.size < w2.heap.size := Nat.lt_of_lt_of_le B2.lt (Nat.le_refl _)
              have m1 : b' < w2.heap.size := by omega
              have m2 : ¬ wr.heap.size = w2.heap.size := by omega
              obtain ⟨z1, ez1⟩ : ∃ z, z = ns.getD y1 0 := ⟨_, rfl⟩
              rw [← ez1] at n1
              have Ez1 := Lib.hid ez1
              clear hb2 ho2 own2 q0 q1 q2 q3 ez1
              go_wp2_with fail
              go_region
              have W4 := (hbb.alloc hbb.size (Obj.cells #[.int .i64 x0, .int .i64 z1, .int .i64 0, .int .i64 0] 31)).drew
              have B10 := (B2.alloc (Obj.cells #[.int .i64 x0, .int .i64 z1, .int .i64 0, .int .i64 0] 31)).drew
              have B12 := (Blk.new w2 31 #[.int .i64 x0, .int .i64 z1, .int .i64 0, .int .i64 0]).drew
              have own4 := (Own2.out.alloc (Obj.cells #[.int .i64 x0, .int .i64 z1, .int .i64 0, .int .i64 0] 31)).drew
              clear n1 f0 f1 f2 f3
              generalize (w2.alloc (Obj.cells #[.int .i64 x0, .int .i64 z1, .int .i64 0, .int .i64 0] 31)).drew = w4 at W4 B10 B12 own4 ⊢
              have Own4 := Lib.hid own4
              have hw4 := W4.size
              have hw5 : w2.heap.size < w4.heap.size := B12.lt
              have f2 : w4.cell? ⟨_, 2, none⟩ = some (.int .i64 x2) := B10.cell 2
              have f3 : w4.cell? ⟨_, 3, none⟩ = some (.int .i64 x3) := B10.cell 3
              have p0 : w4.cell? ⟨_, 0, none⟩ = some (.int .i64 x0) := B12.cell 0
              have p1 : w4.cell? ⟨_, 1, none⟩ = some (.int .i64 z1) := B12.cell 1
              have p2 : w4.cell? ⟨_, 2, none⟩ = some (.int .i64 0) := B12.cell 2
              have p3 : w4.cell? ⟨_, 3, none⟩ = some (.int .i64 0) := B12.cell 3
              have r2 := B12.frozen 2
              have r3 := B12.frozen 3
              clear own4
              rcases Hform.out with ⟨hk, rfl, hb0, hc0, ha⟩ | ⟨hk, rfl, hc0, ha⟩ | ⟨hk, rfl, ha⟩
              · have hlw := Own4.out.lt
                have Hsn2 : Hid (gcells ((gs.map (renG ns)).take (q + 1)) = gcells ((gs.map (renG ns)).take q) ++ [.int .i64 x0, .int .i64 z1, .int .i64 0, .int .i64 0]) := Lib.hid (by rw [Hsn.out, Ez1.out]; rfl)
                clear hk hb0 hc0 ha
                go_wp2_with (at_builtin; refine wpList_append_own _ rfl _ _ 22 rfl w.heap.size 31 ig (.agg #[.int .i64 0, .int .i64 0, .int .i64 0, .int .i64 0]) 4 32 Try.underlying22 gi gz0 gz1 gz2 rfl (by decide) _ _ _ rfl (Own4.out.alloc _) ⟨w4.heap.size, 0, none⟩ 1 1 [.int .i64 x0, .int .i64 z1, .int .i64 0, .int .i64 0] rfl rfl (cells_newAt _ _ _ (by first | rfl | simp [World.setCell])) (by simp [Value.oneCell']) (by unfold maxLen; omega) (by omega) (by simp; omega) ?_; intro v' w6 hown' hgrow _)
                have hb' := (W4.alloc hw4 (Obj.cells #[.int .i64 x0, .int .i64 z1, .int .i64 0, .int .i64 0] 31)).grown hgrow (by simp; omega) (fun q e => (hlw q e).1)
                clear hlw hgrow
                go_wp2_with fail
                go_roundg (n - (q + 1))
                case measure => have := Hg3.out; omega
                case rel => exact ⟨q + 1, by omega, rfl, by go_num, by rw [Hsn2.out]; exact hown', hb'⟩
              · obtain ⟨y2, rfl⟩ := Int.eq_ofNat_of_zero_le (show 0 ≤ x2 by omega)
                have hy2n : y2 < n' := by have := HL.out; omega
                have n2 : w4.cell? ⟨b', o' + y2, none⟩ = some (.int .i64 (ns.getD y2 0)) := blk_get HR'.out HZ'.out (W4.mono hB') rfl hy2n
                obtain ⟨z2, ez2⟩ : ∃ z, z = ns.getD y2 0 := ⟨_, rfl⟩
                rw [← ez2] at n2
                have Ez2 := Lib.hid ez2
                have hy2 : (y2 : Int) < (n' : Int) := by omega
                have Hsn2 : Hid (gcells ((gs.map (renG ns)).take (q + 1)) = gcells ((gs.map (renG ns)).take q) ++ [.int .i64 x0, .int .i64 z1, .int .i64 z2, .int .i64 0]) := Lib.hid (by rw [Hsn.out, Ez1.out, Ez2.out]; rfl)
                have own5 := Own4.out.kept (only_setCell (p := ⟨w2.heap.size, 2, none⟩) (World.grownBy.refl w4 (some w2.heap.size)) (.inl rfl) (.int .i64 z2)) (.inr (fun e => by have := (hvl _ e).2; omega))
                have W5 := W4.setCell (p := ⟨w2.heap.size, 2, none⟩) (by simp; omega) (.int .i64 z2)
                have Own5 := Lib.hid own5
                have hlw := own5.lt
                clear hk hc0 ha ez2 own5
                go_wp2_with (at_builtin; refine wpList_append_own _ rfl _ _ 22 rfl w.heap.size 31 ig (.agg #[.int .i64 0, .int .i64 0, .int .i64 0, .int .i64 0]) 4 32 Try.underlying22 gi gz0 gz1 gz2 rfl (by decide) _ _ _ rfl (Own5.out.alloc _) ⟨w4.heap.size, 0, none⟩ 1 1 [.int .i64 x0, .int .i64 z1, .int .i64 z2, .int .i64 0] rfl rfl (cells_newAt _ _ _ (by first | rfl | simp [World.setCell])) (by simp [Value.oneCell']) (by unfold maxLen; omega) (by omega) (by simp; omega) ?_; intro v' w6 hown' hgrow _)
                have hb' := (W5.alloc W5.size (Obj.cells #[.int .i64 x0, .int .i64 z1, .int .i64 z2, .int .i64 0] 31)).grown hgrow (by simp; omega) (fun q e => (hlw q e).1)
                clear hlw hgrow
                go_wp2_with fail
                go_roundg (n - (q + 1))
                case measure => have := Hg3.out; omega
                case rel => exact ⟨q + 1, by omega, rfl, by go_num, by rw [Hsn2.out]; exact hown', hb'⟩
              · obtain ⟨y2, rfl⟩ := Int.eq_ofNat_of_zero_le (show 0 ≤ x2 by omega)
                obtain ⟨y3, rfl⟩ := Int.eq_ofNat_of_zero_le (show 0 ≤ x3 by omega)
                have hy2n : y2 < n' := by have := HL.out; omega
                have hy3n : y3 < n' := by have := HL.out; omega
                have n2 : w4.cell? ⟨b', o' + y2, none⟩ = some (.int .i64 (ns.getD y2 0)) := blk_get HR'.out HZ'.out (W4.mono hB') rfl hy2n
                have n3 : w4.cell? ⟨b', o' + y3, none⟩ = some (.int .i64 (ns.getD y3 0)) := blk_get HR'.out HZ'.out (W4.mono hB') rfl hy3n
                obtain ⟨z2, ez2⟩ : ∃ z, z = ns.getD y2 0 := ⟨_, rfl⟩
                obtain ⟨z3, ez3⟩ : ∃ z, z = ns.getD y3 0 := ⟨_, rfl⟩
                rw [← ez2] at n2
                rw [← ez3] at n3
                have Ez2 := Lib.hid ez2
                have Ez3 := Lib.hid ez3
                have hy2 : (y2 : Int) < (n' : Int) := by omega
                have hy3 : (y3 : Int) < (n' : Int) := by omega
                have m3 : ¬ b' = w2.heap.size := by omega
                have m4 : ¬ wr.heap.size = w2.heap.size := by omega
                have Hsn2 : Hid (gcells ((gs.map (renG ns)).take (q + 1)) = gcells ((gs.map (renG ns)).take q) ++ [.int .i64 x0, .int .i64 z1, .int .i64 z2, .int .i64 z3]) := Lib.hid (by rw [Hsn.out, Ez1.out, Ez2.out, Ez3.out]; rfl)
                have own5 := Own4.out.kept (only_setCell (p := ⟨w2.heap.size, 3, none⟩) (only_setCell (p := ⟨w2.heap.size, 2, none⟩) (World.grownBy.refl w4 (some w2.heap.size)) (.inl rfl) (.int .i64 z2)) (.inl rfl) (.int .i64 z3)) (.inr (fun e => by have := (hvl _ e).2; omega))
                have W5 := (W4.setCell (p := ⟨w2.heap.size, 2, none⟩) (by simp; omega) (.int .i64 z2)).setCell (p := ⟨w2.heap.size, 3, none⟩) (by simp; omega) (.int .i64 z3)
                have Own5 := Lib.hid own5
                have hlw := own5.lt
                clear hk ha ez2 ez3 own5
                go_wp2_with (at_builtin; refine wpList_append_own _ rfl _ _ 22 rfl w.heap.size 31 ig (.agg #[.int .i64 0, .int .i64 0, .int .i64 0, .int .i64 0]) 4 32 Try.underlying22 gi gz0 gz1 gz2 rfl (by decide) _ _ _ rfl (Own5.out.alloc _) ⟨w4.heap.size, 0, none⟩ 1 1 [.int .i64 x0, .int .i64 z1, .int .i64 z2, .int .i64 z3] rfl rfl (cells_newAt _ _ _ (by first | rfl | simp [World.setCell])) (by simp [Value.oneCell']) (by unfold maxLen; omega) (by omega) (by simp; omega) ?_; intro v' w6 hown' hgrow _)
                have hb' := (W5.alloc W5.size (Obj.cells #[.int .i64 x0, .int .i64 z1, .int .i64 z2, .int .i64 z3] 31)).grown hgrow (by simp; omega) (fun q e => (hlw q e).1)
                clear hlw hgrow
                go_wp2_with fail
                go_roundg (n - (q + 1))
                case measure => have := Hg3.out; omega
                case rel => exact ⟨q + 1, by omega, rfl, by go_num, by rw [Hsn2.out]; exact hown', hb'⟩
            · have hqn' : ¬ (q : Int) < (n : Int) := by omega
              obtain rfl : q = n := by omega
              have hown := Hown.out
              rw [List.take_of_length_le (by rw [List.length_map, HZ.out]; exact Nat.le_refl _)] at hown
              go_wp2_with fail
              go_ret
              rw [Hr.out]
              exact retG_acc hown hb rfl
    · have hne : ((n' : Int) != l) = true := by simp [hl]
      have Hr := Lib.hid (renL_n (l := l) (gs := gs) (ns := ns) (.inr (namesB_len (by rw [hz']; exact hl))))
      clear hl hv h hz h' hz' hW0
      go_enter Try.func44, Try.ntmps44
      go_wp2_with fail
      refine HT.out.mono ?_
      rintro e w1 ⟨rfl, hb1⟩
      go_wp2_with fail
      go_ret
      exact retG_nil Hr.out (HW0.out.trans (hb1.mono (by simp))) rfl
end Go.Proofs.Ytpciidimmkohiaa
