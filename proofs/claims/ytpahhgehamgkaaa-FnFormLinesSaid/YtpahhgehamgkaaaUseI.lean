/- Contracts of impl.useless and impl.UselessPair. -/
import Derived.Test.YtpahhgehamgkaaaUse
import Derived.BigQuiet
namespace Go.Proofs.Ytpahhgehamgkaaa
open Go.RowKit
set_option linter.unusedVariables false
set_option linter.unusedSimpArgs false

def Kinds (gs : List Gt) : Prop := ∀ k, k < gs.length → (gs.getD k g0).k = 0 ∨ (gs.getD k g0).k = 1 ∨ (gs.getD k g0).k = 2 ∨ (gs.getD k g0).k = 3 ∨ (gs.getD k g0).k = 4
theorem circB_kinds {l : Int} {gs : List Gt} (h : circB l gs = true) : Kinds gs := fun k hk => gateB_five (circB_mem h hk)
theorem ret_pair {p q p' q' : Int} (h : p = p' ∧ q = q') : Ending.returned (.tuple #[.int .i64 p, .int .i64 q]) = .returned (.tuple #[.int .i64 p', .int .i64 q']) := by rw [h.1, h.2]

set_option maxHeartbeats 4000000 in
set_option maxRecDepth 50000 in
theorem useless_any (A : Option Addr) (n c B : Nat) (gs : List Gt) (w : World) (h : Reads w B 4 A n (gcells gs)) (hB : B ≤ w.heap.size) (hz : gs.length = n) (hn : n ≤ 1048576) (hk : Kinds gs) :
    Calls Try.prog 29 #[.slice A n c] w fun e w' => e = .returned (.tuple #[.int .i64 (useA gs), .int .i64 (useB gs)]) ∧ Below w.heap.size w w' := by
  have HR := Lib.hid h
  have HZ := Lib.hid hz
  have HK := Lib.hid hk
  have HB := Lib.hid hB
  clear h hz hk
  go_enter Try.func29, Try.ntmps29
  go_wp2_with fail
  go_loopg [9] n (fun gh i wr => ∃ k : Nat, k ≤ n ∧ gh = n - k ∧ i = .int .i64 k ∧ NoU gs k ∧ Below w.heap.size w wr)
  case atStart => exact ⟨0, Nat.zero_le _, rfl, rfl, NoU.zero gs, Below.refl _ _⟩
  case round =>
    obtain ⟨k, hk, hg, rfl, hno, hb⟩ := hrel
    have Hg := Lib.hid hg
    have Hno := Lib.hid hno
    have hsz := hb.size
    clear hg hno
    by_cases hlt : k < n
    · have hlt' : (k : Int) < (n : Int) := by omega
      obtain ⟨b, o, rfl, hbB, hcell⟩ := HR.out.openG HZ.out (by omega)
      have Hcell := Lib.hid hcell
      obtain ⟨g, eg⟩ : ∃ g, g = gs.getD k g0 := ⟨_, rfl⟩
      have hgat := (hcell k hlt).below hb (by omega)
      have hk5 := HK.out k (by have := HZ.out; omega)
      rw [← eg] at hgat hk5
      have Eg := Lib.hid eg
      obtain ⟨x0, x1, x2, x3⟩ := g
      obtain ⟨q0, q1, q2, q3⟩ := hgat
      simp only at q0 q1 q2 q3
      have Hk5 := Lib.hid hk5
      have HW := Lib.hid (hb.alloc hsz (Obj.cells #[.int .i64 x0, .int .i64 x1, .int .i64 x2, .int .i64 x3] 48))
      have HX := Lib.hid (Blk.new wr 48 #[.int .i64 x0, .int .i64 x1, .int .i64 x2, .int .i64 x3])
      clear hcell eg hk5
      go_wp2_with fail
      obtain ⟨W5, eW5⟩ : ∃ W5, W5 = wr.alloc (Obj.cells #[.int .i64 x0, .int .i64 x1, .int .i64 x2, .int .i64 x3] 48) := ⟨_, rfl⟩
      rw [← eW5] at HW HX ⊢
      obtain ⟨G, eG⟩ : ∃ G, G = wr.heap.size := ⟨_, rfl⟩
      rw [← eG] at HX ⊢
      clear q0 q1 q2 q3 eW5 eG
      have hsz5 := HW.out.size
      go_loopg [6] (n - (k + 1)) (fun gh i wr2 => ∃ m : Nat, k + 1 ≤ m ∧ m ≤ n ∧ gh = n - m ∧ i = .int .i64 m ∧ Look gs k m ∧ Below W5.heap.size W5 wr2)
      case atStart => exact ⟨k + 1, Nat.le_refl _, by omega, rfl, by go_num, Look.zero gs k, Below.refl _ _⟩
      case round =>
        obtain ⟨m, hkm, hm, hg2, rfl, hlk, hb2⟩ := hrel
        have Hg2 := Lib.hid hg2
        have Hlk := Lib.hid hlk
        have hsz2 := hb2.size
        have hb02 := Lib.hid (bnext HW.out hb2 (Nat.le_refl _))
        clear hg2 hlk
        by_cases hlt2 : m < n
        · have hlt2' : (m : Int) < (n : Int) := by omega
          have hgat2 := (Hcell.out m hlt2).below hb02.out (by omega)
          have hk52 := HK.out m (by have := HZ.out; omega)
          obtain ⟨g2, eg2⟩ : ∃ g2, g2 = gs.getD m g0 := ⟨_, rfl⟩
          rw [← eg2] at hgat2 hk52
          have hlks := fun h1 h2 => Hlk.out.succ (m := m) h1 h2
          have hlkh := fun h1 => Hlk.out.hit (m := m) hkm h1
          have hlkt := fun h1 h2 => Hlk.out.stop (m := m) hkm (by have := HZ.out; omega) h1 h2
          rw [← eg2, ← Eg.out] at hlks hlkh hlkt
          obtain ⟨y0, y1, y2, y3⟩ := g2
          obtain ⟨p0, p1, p2, p3⟩ := hgat2
          simp only at p0 p1 p2 p3
          have hx := HX.out.next hb2
          have r0 : wr.cell? ⟨G, 0, none⟩ = some (.int .i64 x0) := hx.cell 0
          have r1 : wr.cell? ⟨G, 1, none⟩ = some (.int .i64 x1) := hx.cell 1
          have r2 : wr.cell? ⟨G, 2, none⟩ = some (.int .i64 x2) := hx.cell 2
          have r3 : wr.cell? ⟨G, 3, none⟩ = some (.int .i64 x3) := hx.cell 3
          have heql := gate_eql y0 y1 y2 y3 x0 x1 x2 x3
          have HA := Lib.hid (fun W => apart_any ⟨y0, y1, y2, y3⟩ ⟨x0, x1, x2, x3⟩ W hk52 Hk5.out)
          obtain ⟨s, es⟩ : ∃ s, s = sameG ⟨y0, y1, y2, y3⟩ ⟨x0, x1, x2, x3⟩ := ⟨_, rfl⟩
          obtain ⟨p, ep⟩ : ∃ p, p = apB ⟨y0, y1, y2, y3⟩ ⟨x0, x1, x2, x3⟩ := ⟨_, rfl⟩
          rw [← es] at heql hlks hlkh hlkt
          rw [← ep] at HA hlks hlkt
          unfold Gt.val at HA
          dsimp only at HA
          have Hlks := Lib.hid hlks
          have Hlkh := Lib.hid hlkh
          have Hlkt := Lib.hid hlkt
          clear eg2 hk52 hx es ep hlks hlkh hlkt
          cases s with
          | true =>
            have Hv := Lib.hid (useP_val (.inr ⟨k, m, rfl, rfl, by omega, by have := HZ.out; omega, Hlkh.out rfl, Hno.out, Hlk.out.noF⟩))
            go_wp2_with fail
            go_quiet (fail)
            go_wp2_with fail
            go_ret2
            exact ⟨ret_pair Hv.out, below_drewN hb02.out _⟩
          | false =>
            cases p with
            | true =>
              have Hs := Lib.hid (Hlks.out rfl rfl)
              go_wp2_with fail
              go_quiet (fail)
              go_wp2_with fail
              go_region_with (go_at_call 55; (with_reducible refine (HA.out _).mono ?_); rintro e w3 ⟨rfl, hb3⟩)
              all_goals
                go_wp2_with fail
                go_roundg (n - (m + 1))
                case measure => have := Hg2.out; omega
                case rel => exact ⟨m + 1, by omega, by omega, rfl, by go_num, Hs.out, bnext (below_drewN hb2 _) hb3 (Nat.le_refl _)⟩
            | false =>
              have Hs := Lib.hid (Hno.out.succ (Hlkt.out rfl rfl))
              go_wp2_with fail
              go_quiet (fail)
              go_wp2_with fail
              go_region_with (go_at_call 55; (with_reducible refine (HA.out _).mono ?_); rintro e w3 ⟨rfl, hb3⟩)
              all_goals
                go_wp2_with fail
                go_roundg (n - (k + 1))
                case measure => have := Hg.out; omega
                case rel => exact ⟨k + 1, by omega, rfl, by go_num, Hs.out, bnext (below_drewN hb02.out _) hb3 (Nat.le_refl _)⟩
        · have hlt2' : ¬ (m : Int) < (n : Int) := by omega
          obtain rfl : m = n := by omega
          have Hs := Lib.hid (Hno.out.succ (by rw [HZ.out]; exact Hlk.out.noF))
          go_wp2_with fail
          go_roundg (m - (k + 1))
          case measure => have := Hg.out; omega
          case rel => exact ⟨k + 1, by omega, rfl, by go_num, Hs.out, hb02.out⟩
    · have hlt' : ¬ (k : Int) < (n : Int) := by omega
      obtain rfl : k = n := by omega
      have Hv := Lib.hid (useP_val (.inl ⟨rfl, rfl, by rw [HZ.out]; exact Hno.out⟩))
      go_wp2_with fail
      go_ret2
      exact ⟨ret_pair Hv.out, hb⟩

/-- what UselessPair answers -/
def usL (l : Int) (gs : List Gt) : List Gt := if circB l gs = true then gs else []
theorem usL_y {l : Int} {gs : List Gt} (h : circB l gs = true) : usL l gs = gs := if_pos h
theorem usL_n {l : Int} {gs : List Gt} (h : circB l gs = false) : usL l gs = [] := if_neg (by rw [h]; decide)
theorem use_nil : useA [] = -1 ∧ useB [] = -1 := ⟨rfl, rfl⟩
theorem usL_no {l : Int} {gs : List Gt} (h : circB l gs = false) : (-1 : Int) = useA (usL l gs) ∧ (-1 : Int) = useB (usL l gs) := by rw [usL_n h]; exact ⟨rfl, rfl⟩

set_option maxHeartbeats 1000000 in
theorem implUselessPair_any (l : Int) (A : Option Addr) (n c B : Nat) (gs : List Gt) (w : World) (h : Reads w B 4 A n (gcells gs)) (hB : B ≤ w.heap.size) (hz : gs.length = n) (hc : n ≤ c) (hn : n ≤ 1048576) :
    Calls Try.prog 10 #[.int .i64 l, .slice A n c] w fun e w' => e = .returned (.tuple #[.int .i64 (useA (usL l gs)), .int .i64 (useB (usL l gs))]) ∧ Below w.heap.size w w' := by
  have HT := Lib.hid (implCircuitValid_any l A n c B gs w h hB hz hc hn)
  cases hv : circB l gs with
  | false =>
    have Hr := Lib.hid (usL_no hv)
    rw [hv] at HT
    clear hv h hz
    go_enter Try.func10, Try.ntmps10
    go_wp2_with fail
    refine HT.out.mono ?_
    rintro e w1 ⟨rfl, hb1⟩
    go_wp2_with fail
    go_ret2
    exact ⟨ret_pair Hr.out, hb1⟩
  | true =>
    have Hr := Lib.hid (usL_y hv)
    have HU := Lib.hid (fun W (hb : Below w.heap.size w W) => useless_any A n c B gs W (h.next hb hB) (Nat.le_trans hB hb.size) hz hn (circB_kinds hv))
    rw [hv] at HT
    rw [Hr.out]
    clear hv h hz
    go_enter Try.func10, Try.ntmps10
    go_wp2_with fail
    refine HT.out.mono ?_
    rintro e w1 ⟨rfl, hb1⟩
    go_wp2_with fail
    refine (HU.out _ hb1).mono ?_
    rintro e w2 ⟨rfl, hb2⟩
    go_wp2_with fail
    go_ret2
    exact ⟨rfl, bnext hb1 hb2 (Nat.le_refl _)⟩
end Go.Proofs.Ytpahhgehamgkaaa
