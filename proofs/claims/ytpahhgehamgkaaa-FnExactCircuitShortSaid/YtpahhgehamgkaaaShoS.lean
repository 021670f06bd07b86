/- Contract of spec.CircuitShort. -/
import Derived.Test.YtpahhgehamgkaaaShoI
namespace Go.Proofs.Ytpahhgehamgkaaa
open Go.RowKit
set_option linter.unusedVariables false
set_option linter.unusedSimpArgs false

set_option maxHeartbeats 4000000 in
set_option maxRecDepth 50000 in
theorem specCircuitShort_any (l : Int) (A : Option Addr) (n c B : Nat) (gs : List Gt) (w : World) (h : Reads w B 4 A n (gcells gs)) (hB : B ≤ w.heap.size) (hz : gs.length = n) (hc : n ≤ c) (hn : n ≤ 1048576) :
    Calls Try.prog 12 #[.int .i64 l, .slice A n c] w fun e w' => RetG (shoL l gs) w e w' := by
  obtain ⟨ig, gi, gz0, gz1, gz2⟩ := info_parts infoGate
  have HT := Lib.hid (fun W (hw : Below w.heap.size w W) => specCircuitValid_any l A n c B gs W (h.below (hw.mono hB)) (Nat.le_trans hB hw.size) hz hc hn)
  cases hv : circB l gs with
  | false =>
    have Hr := Lib.hid (shoL_n hv)
    rw [hv] at HT
    clear hv h hz
    go_enter Try.func12, Try.ntmps12
    go_wp2_with fail
    refine (HT.out _ ((Below.refl _ _).alloc (Nat.le_refl _) _)).mono ?_
    rintro e w1 ⟨rfl, hb1⟩
    go_wp2_with fail
    go_ret
    exact retG_nil Hr.out (((Below.refl _ _).alloc (Nat.le_refl _) _).trans (hb1.mono (by simp))) rfl
  | true =>
    have Hr := Lib.hid (shoL_y hv)
    rw [hv] at HT
    have HV := Lib.hid hv
    have HZ := Lib.hid hz
    have own0 := World.ownsRow_made (base := w.heap.size) (e := 48) (size := 4) w #[] 0 (Nat.le_refl _) (by simp [maxLen]) rfl
    have RD := Lib.hid (fun W (hw : Below w.heap.size w W) => h.below (hw.mono hB))
    have one1 := gcells_ok gs
    clear hv h hz
    go_enter Try.func12, Try.ntmps12
    go_wp2_with fail
    refine (HT.out _ ((Below.refl _ _).alloc (Nat.le_refl _) _)).mono ?_
    rintro e w1 ⟨rfl, hb1⟩
    have hb01 := ((Below.refl w.heap.size w).alloc (Nat.le_refl _) (Obj.cells #[] 48)).trans (hb1.mono (by simp))
    have own1 := own_next own0 hb1
    have rd1 := RD.out w1 hb01
    have hs1 := hb01.size
    clear own0 hb1
    go_wp2_with (at_builtin; (refine wpList_append_any _ rfl _ _ 26 rfl w.heap.size 48 ig (.agg #[.int .i64 0, .int .i64 0, .int .i64 0, .int .i64 0]) 4 32 Try.underlying26 gi gz0 gz1 gz2 rfl (by decide) (.slice (some ⟨w.heap.size, 0, none⟩) 0 0) 0 [] rfl own1 B A n c (gcells gs) rfl rd1 one1 (by unfold maxLen; omega) (by omega) (by omega) ?_; intro vA wA ownA grA _))
    have hlw1 := own1.lt
    have hbA := hb01.grown grA hs1 (fun q e => (hlw1 q e).1)
    rw [Nat.zero_add, List.nil_append] at ownA
    have HOA := Lib.hid ownA
    clear own1 rd1 grA ownA hlw1 one1
    go_wp2_with fail
    go_loopg [5] n (fun gh v wr => ∃ (k : Nat) (cur : List Gt), gh = k ∧ cur.length ≤ k ∧ cur.length ≤ n ∧ shN k cur = shN n gs ∧ circB l cur = true ∧ wr.ownsRow w.heap.size 48 4 v cur.length (gcells cur) ∧ Below w.heap.size w wr)
    case atStart => exact ⟨n, gs, rfl, by have := HZ.out; omega, by have := HZ.out; omega, rfl, HV.out, by rw [HZ.out]; exact HOA.out, hbA⟩
    case round =>
      obtain ⟨k, cur, hgk, hcg, hcn, hsh, hkc, hown, hb⟩ := hrel
      have Hgk := Lib.hid hgk
      clear hgk
      have hcap := hown
      obtain ⟨A5, c5, rfl, hc5⟩ := own_shape hown
      have rd5 := own_form4 hown rfl
      have HU := Lib.hid (specUselessPair_any l A5 cur.length c5 _ cur wr rd5 (Nat.le_refl _) rfl hc5 (by omega))
      rw [usL_y hkc] at HU
      have Hown := Lib.hid hown
      have Hsh := Lib.hid hsh
      have Hkc := Lib.hid hkc
      have hsz := hb.size
      clear hown hsh hkc hcap
      rcases use_pair cur with hu | ⟨a, b, ha, hbb, hab, hbl⟩
      · rw [hu] at HU
        have Hst := Lib.hid (shN_stop (gs := cur) (by rw [hu]; decide))
        obtain ⟨q, eq⟩ : ∃ q, q = useB cur := ⟨_, rfl⟩
        rw [← eq] at HU
        clear hu eq rd5
        go_wp2_with fail
        refine HU.out.mono ?_
        rintro e w2 ⟨rfl, hb2⟩
        have own2 := own_next Hown.out hb2
        have HO2 := Lib.hid own2
        clear own2
        go_wp2_with fail
        go_ret
        rw [Hr.out, HZ.out, ← Hsh.out, Hst.out]
        exact retG_acc HO2.out (bnext hb hb2 (Nat.le_refl _)) rfl
      · have Hgo := Lib.hid (fun k => shN_go (gs := cur) (by rw [ha]; omega) k)
        rw [ha, hbb] at HU Hgo
        have hl2 := drop2_len hab hbl
        have Hdp := Lib.hid (dpT_all cur a b hab)
        have Hcd := Lib.hid (drop2_circ (a := a) (b := b) Hkc.out)
        have HD := Lib.hid (fun W (hw : Below wr.heap.size wr W) => l2Drop_any A5 cur.length c5 _ a b cur W (rd5.below hw) hw.size rfl (by omega))
        rw [Hdp.out] at HD
        obtain ⟨k', rfl⟩ : ∃ k', k = k' + 1 := ⟨k - 1, by omega⟩
        clear rd5
        go_wp2_with fail
        refine HU.out.mono ?_
        rintro e w2 ⟨rfl, hb2⟩
        have hb02 := bnext hb hb2 (Nat.le_refl _)
        have ha0 : ¬ (a : Int) < 0 := by omega
        go_wp2_with fail
        refine (HD.out _ hb2).mono ?_
        rintro e w3 ⟨v3, rfl, own3, hb3⟩
        have HO3 := Lib.hid own3
        have hb03 := bnext hb02 hb3 (Nat.le_refl _)
        clear own3
        go_wp2_with fail
        go_roundg k'
        case measure => have := Hgk.out; omega
        case rel =>
          refine ⟨k', drop2 cur a b, rfl, by omega, by omega, ?_, Hcd.out, own_base HO3.out hb02.size, hb03⟩
          rw [← Hsh.out, Hgo.out k']
          rfl
end Go.Proofs.Ytpahhgehamgkaaa
