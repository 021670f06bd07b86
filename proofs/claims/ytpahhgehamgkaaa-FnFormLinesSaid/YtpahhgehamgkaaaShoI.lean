/- Contracts of impl.short and both CircuitShort. -/
import Derived.Test.YtpahhgehamgkaaaSho
namespace Go.Proofs.Ytpahhgehamgkaaa
open Go.RowKit
set_option linter.unusedVariables false
set_option linter.unusedSimpArgs false

theorem own_form4 {w : World} {base e n : Nat} {v : Value} {gs : List Gt} {A : Option Addr} {c : Nat} (h : w.ownsRow base e 4 v n (gcells gs)) (hv : v = .slice A n c) : Reads w w.heap.size 4 A n (gcells gs) := by
  subst hv
  obtain ⟨h1, h2⟩ := h
  refine ⟨h1, fun hn => ?_⟩
  rcases h2 with ⟨_, h⟩ | ⟨g, cap, cur, he, hg, hh, hc, hm, hs, ht⟩
  · omega
  · cases he
    have hB : Blk w g e cur := hh
    refine ⟨_, rfl, rfl, hB.lt, fun j u hu => ?_⟩
    rw [add_off, Nat.zero_add, hB.cell]
    rw [← ht, List.getElem?_take] at hu
    split at hu
    · simpa using hu
    · cases hu
theorem own_cap {w : World} {base e size n : Nat} {xs : List Value} {A : Option Addr} {c : Nat} (h : w.ownsRow base e size (.slice A n c) n xs) : n ≤ c ∧ c ≤ 9223372036854775807 := by
  rcases h.2 with ⟨e, h0⟩ | ⟨_, _, _, e, _, _, hc, hm, _⟩
  · injection e with _ _ e3; omega
  · injection e with _ _ e3; unfold maxLen at hm; omega
theorem only_bel {B : Nat} {a b c : World} {g : Nat} (h : Below B a b) (k : b.grownBy c (some g)) (hg : B ≤ g) (hB : B ≤ a.heap.size) : Below B a c := below_of_only h k hg (Nat.le_trans hB h.size)

set_option maxHeartbeats 4000000 in
set_option maxRecDepth 50000 in
theorem short_any (A : Option Addr) (n c B : Nat) (gs : List Gt) (w : World) (h : Reads w B 4 A n (gcells gs)) (hB : B ≤ w.heap.size) (hz : gs.length = n) (hn : n ≤ 1048576) (hk : Kinds gs) :
    Calls Try.prog 32 #[.slice A n c] w fun e w' => RetG (shN n gs) w e w' := by
  have HC := Lib.hid (cloneG_any A n c B gs w h hB hz hn)
  have HK := Lib.hid hk
  have HZ := Lib.hid hz
  clear h hz hk
  go_enter Try.func32, Try.ntmps32
  go_wp2_with fail
  refine HC.out.mono ?_
  rintro e w1 ⟨v1, rfl, own1, hb1⟩
  have HO1 := Lib.hid own1
  clear own1 HC
  go_wp2_with fail
  go_loopg [3] n (fun gh v wr => ∃ (k : Nat) (cur : List Gt), gh = k ∧ cur.length ≤ k ∧ cur.length ≤ n ∧ shN k cur = shN n gs ∧ Kinds cur ∧ wr.ownsRow w.heap.size 48 4 v cur.length (gcells cur) ∧ Below w.heap.size w wr)
  case atStart => exact ⟨n, gs, rfl, by have := HZ.out; omega, by have := HZ.out; omega, rfl, HK.out, by rw [HZ.out]; exact HO1.out, hb1⟩
  case round =>
    obtain ⟨k, cur, hgk, hcg, hcn, hsh, hkc, hown, hb⟩ := hrel
    have Hgk := Lib.hid hgk
    clear hgk
    have hcap := hown
    obtain ⟨A5, c5, rfl, hc5⟩ := own_shape hown
    have hcap2 := (own_cap hcap).2
    have HU := Lib.hid (useless_any A5 cur.length c5 _ cur wr (own_form4 hown rfl) (Nat.le_refl _) rfl (by omega) hkc)
    have Hown := Lib.hid hown
    have Hsh := Lib.hid hsh
    have Hkc := Lib.hid hkc
    have hsz := hb.size
    clear hown hsh hkc hcap
    rcases use_pair cur with hu | ⟨a, b, ha, hbb, hab, hbl⟩
    · rw [hu] at HU
      have Hst := Lib.hid (shN_stop (gs := cur) (by rw [hu]; decide))
      obtain ⟨q, eq⟩ : ∃ q, q = useB cur := ⟨_, rfl⟩
      rw [← eq] at HU
      clear hu eq
      go_wp2_with fail
      refine HU.out.mono ?_
      rintro e w2 ⟨rfl, hb2⟩
      have own2 := own_next Hown.out hb2
      have HO2 := Lib.hid own2
      clear own2
      go_wp2_with (go_at_call 47; refine (clipGO_any _ _ _ _ hc5 hcap2).mono ?_; rintro e w' ⟨rfl, rfl⟩)
      go_ret
      rw [← Hsh.out, Hst.out]
      obtain ⟨A2, c2, e2, h1, h2, h3⟩ := retG_acc HO2.out (bnext hb hb2 (Nat.le_refl _)) rfl
      injection e2 with e2
      injection e2 with e3 e4 e5
      subst e3
      exact ⟨_, _, rfl, Nat.le_refl _, h2, h3⟩
    · have Hgo := Lib.hid (fun k => shN_go (gs := cur) (by rw [ha]; omega) k)
      rw [ha, hbb] at HU Hgo
      obtain ⟨m, em⟩ : ∃ m, m = cur.length := ⟨_, rfl⟩
      obtain ⟨g, cap, hv, hgb, hgl, hgc, hgm⟩ := own_pos Hown.out (by omega)
      injection hv with hv1 hv2 hv3
      subst hv1 hv3
      have hl2 := drop2_len hab hbl
      have Hkd : Hid (Kinds (drop2 cur a b)) := Lib.hid (fun k hk => by
        rw [List.getD_eq_getElem?_getD, List.getElem?_eq_getElem hk]
        have hm := drop2_mem (List.getElem_mem hk)
        obtain ⟨i, hi, hie⟩ := List.getElem_of_mem hm
        have := Hkc.out i hi
        rw [List.getD_eq_getElem?_getD, List.getElem?_eq_getElem hi] at this
        rw [hie] at this
        exact this)
      have HD1 := Lib.hid (fun W (ho : W.ownsRow w.heap.size 48 4 (.slice (some ⟨g, 0, none⟩) cur.length c5) cur.length (gcells cur)) => deleteG_any w.heap.size g cur.length c5 b (b + 1) cur W ho rfl rfl hbl (by omega) hc5 hcap2)
      have HD2 := Lib.hid (fun W (ho : W.ownsRow w.heap.size 48 4 (.slice (some ⟨g, 0, none⟩) (cur.length - 1) c5) (cur.length - 1) (gcells (cur.eraseIdx b))) => deleteG_any w.heap.size g (cur.length - 1) c5 a (a + 1) (cur.eraseIdx b) W ho rfl (by rw [List.length_eraseIdx, if_pos hbl]) (by omega) (by omega) (by omega) hcap2)
      obtain ⟨k', rfl⟩ : ∃ k', k = k' + 1 := ⟨k - 1, by omega⟩
      clear em
      go_wp2_with fail
      refine HU.out.mono ?_
      rintro e w2 ⟨rfl, hb2⟩
      have own2 := Lib.hid (own_next Hown.out hb2)
      have hb02 := bnext hb hb2 (Nat.le_refl _)
      have ha0 : ¬ (a : Int) < 0 := by omega
      go_wp2_with fail
      refine (HD1.out _ own2.out).mono ?_
      rintro e w3 ⟨rfl, own3, gr3⟩
      have HO3 := Lib.hid own3
      have hb03 := only_bel hb02 gr3 hgb (Nat.le_refl _)
      clear own3 gr3
      go_wp2_with fail
      refine (HD2.out _ HO3.out).mono ?_
      rintro e w4 ⟨rfl, own4, gr4⟩
      have hb04 := only_bel hb03 gr4 hgb (Nat.le_refl _)
      have HO4 := Lib.hid own4
      clear own4 gr4
      go_wp2_with fail
      go_roundg k'
      case measure => have := Hgk.out; omega
      case rel =>
        have e1 : cur.length - 1 - 1 = (drop2 cur a b).length := by omega
        refine ⟨k', drop2 cur a b, rfl, by omega, by omega, ?_, Hkd.out, ?_, hb04⟩
        · rw [← Hsh.out, Hgo.out k']
          rfl
        · have := HO4.out
          rw [e1] at this
          rw [← e1]
          exact HO4.out
set_option maxHeartbeats 2000000 in
theorem implCircuitShort_any (l : Int) (A : Option Addr) (n c B : Nat) (gs : List Gt) (w : World) (h : Reads w B 4 A n (gcells gs)) (hB : B ≤ w.heap.size) (hz : gs.length = n) (hc : n ≤ c) (hn : n ≤ 1048576) :
    Calls Try.prog 13 #[.int .i64 l, .slice A n c] w fun e w' => RetG (shoL l gs) w e w' := by
  have HT := Lib.hid (implCircuitValid_any l A n c B gs w h hB hz hc hn)
  cases hv : circB l gs with
  | false =>
    have Hr := Lib.hid (shoL_n hv)
    rw [hv] at HT
    clear hv h hz
    go_enter Try.func13, Try.ntmps13
    go_wp2_with fail
    refine HT.out.mono ?_
    rintro e w1 ⟨rfl, hb1⟩
    go_wp2_with fail
    go_ret
    exact retG_nil Hr.out hb1 rfl
  | true =>
    have Hr := Lib.hid (shoL_y hv)
    have HU := Lib.hid (fun W (hb : Below w.heap.size w W) => short_any A n c B gs W (h.next hb hB) (Nat.le_trans hB hb.size) hz hn (circB_kinds hv))
    rw [hv] at HT
    have HZ := Lib.hid hz
    clear hv h hz
    go_enter Try.func13, Try.ntmps13
    go_wp2_with fail
    refine HT.out.mono ?_
    rintro e w1 ⟨rfl, hb1⟩
    go_wp2_with fail
    refine (HU.out _ hb1).mono ?_
    rintro e w2 ⟨A2, c2, rfl, hc2, ho2, hb2⟩
    go_wp2_with fail
    go_ret
    rw [Hr.out, HZ.out]
    exact ⟨A2, c2, rfl, hc2, ho2.mono hb1.size, bnext hb1 hb2 (Nat.le_refl _)⟩
end Go.Proofs.Ytpahhgehamgkaaa
