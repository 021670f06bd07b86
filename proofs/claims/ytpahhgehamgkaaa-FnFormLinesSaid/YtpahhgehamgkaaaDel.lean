/- Contract of slices.Delete at gates: one gate is taken out of a row of the call's own. -/
import Derived.Test.YtpahhgehamgkaaaGs
import Derived.Deep.RegionLaw
import Derived.Shelf.RegionOpenPlain
import Derived.Lib.SliceRun
namespace Go.Proofs.Ytpahhgehamgkaaa
open Go.RowKit
set_option linter.unusedVariables false
set_option linter.unusedSimpArgs false

theorem blk_setCells (g : Nat) (t : TypeId) : ∀ (vs : List Value) (o : Nat) (w : World) (cur : Array Value), Blk w g t cur → o + vs.length ≤ cur.size → ∃ cur', Blk (w.setCells g o vs) g t cur' ∧ cur'.toList = cur.toList.take o ++ vs ++ cur.toList.drop (o + vs.length)
  | [], o, w, cur, h, _ => ⟨cur, h, by simp⟩
  | v :: r, o, w, cur, h, hl => by
    simp only [List.length_cons] at hl
    obtain ⟨cur', h1, h2⟩ := blk_setCells g t r (o + 1) (w.setCell ⟨g, o, none⟩ v) (cur.setIfInBounds o v) (h.set_ o v) (by simp; omega)
    refine ⟨cur', h1, ?_⟩
    rw [h2, Array.toList_setIfInBounds, List.set_eq_take_append_cons_drop, if_pos (by simp; omega)]
    have e1 : (cur.toList.take o).length = o := by simp; omega
    have e3 : (cur.toList.take o).take (o + 1) = cur.toList.take o := List.take_of_length_le (by omega)
    have e4 : (cur.toList.take o).drop (o + 1 + r.length) = [] := List.drop_eq_nil_of_le (by omega)
    rw [List.take_append, List.drop_append, e1, e3, e4, show o + 1 - o = 1 by omega, show o + 1 + r.length - o = r.length + 1 by omega]
    simp [List.drop_drop]
    congr 1
    omega
theorem only_setCells {a : World} {g : Nat} : ∀ (vs : List Value) (o : Nat) (w : World), a.grownBy w (some g) → a.grownBy (w.setCells g o vs) (some g)
  | [], _, _, h => h
  | v :: r, o, w, h => only_setCells r (o + 1) _ (only_setCell h (p := ⟨g, o, none⟩) (.inl rfl) v)

theorem zeroGate (W : World) : (zeroValue 48).run Try.prog W = .ok (.agg #[.int .i64 0, .int .i64 0, .int .i64 0, .int .i64 0]) W := by
  obtain ⟨ii, hi, hz0, hz1, hz2⟩ := info_parts infoGate
  simp [zeroValue, typeInfo, hi, hz0]
theorem run_clear_gate (W : World) (ty : TypeId) (b o m c : Nat) (hm : m = 1) (hc : ∀ j, j < 4 → (W.cell? ⟨b, o + j, none⟩).isSome = true) (hf : ∀ j, j < 4 → W.frozen? ⟨b, o + j, none⟩ = false) :
    (Builtin.clear_ #[26] ty #[.slice (some ⟨b, o, none⟩) m c]).run Try.prog W = .ok (.tuple #[]) (W.setCells b o [.int .i64 0, .int .i64 0, .int .i64 0, .int .i64 0]) := by
  subst hm
  have hst := run_storeCells_cells (P := Try.prog) b o [.int .i64 0, .int .i64 0, .int .i64 0, .int .i64 0] 0 W (by simpa using hc) (by simpa using hf) (by simp [Value.oneCell'])
  simp only [Nat.add_zero] at hst
  have hzc : (Builtin.zeroCells (Value.agg #[.int .i64 0, .int .i64 0, .int .i64 0, .int .i64 0]).cells 1).toList = [.int .i64 0, .int .i64 0, .int .i64 0, .int .i64 0] := by kernel_rfl
  simp [Builtin.clear_, run_underlying Try.underlying26, zeroGate, hzc, hst]

theorem gcells_erase (gs : List Gt) (i : Nat) : gcells (gs.eraseIdx i) = (gcells gs).take (i * 4) ++ (gcells gs).drop ((i + 1) * 4) := by
  rw [List.eraseIdx_eq_take_drop_succ, gcells_app, gcells_take, gcells_drop]

set_option maxHeartbeats 4000000 in
set_option maxRecDepth 1000000 in
theorem deleteG_any (base g n cap i j : Nat) (gs : List Gt) (w : World) (h : w.ownsRow base 48 4 (.slice (some ⟨g, 0, none⟩) n cap) n (gcells gs)) (hj : j = i + 1) (hz : gs.length = n) (hi : i < n) (hn : n ≤ 1048576) (hcp : n ≤ cap) (hm : cap ≤ 9223372036854775807) :
    Calls Try.prog 57 #[.slice (some ⟨g, 0, none⟩) n cap, .int .i64 i, .int .i64 j] w fun e w' =>
      e = .returned (.slice (some ⟨g, 0, none⟩) (n - 1) cap) ∧ w'.ownsRow base 48 4 (.slice (some ⟨g, 0, none⟩) (n - 1) cap) (n - 1) (gcells (gs.eraseIdx i)) ∧ w.grownBy w' (some g) := by
  obtain ⟨hxl, h2⟩ := h
  obtain ⟨cur, hb, hcm, hcs, htk⟩ : ∃ cur, Blk w g 48 cur ∧ cap ≤ maxLen ∧ cur.size = cap * 4 ∧ cur.toList.take (n * 4) = gcells gs := by
    rcases h2 with ⟨h, _⟩ | ⟨g', cap', cur, he, hg, hh, hc, hm, hs, ht⟩
    · cases h
    · cases he
      exact ⟨cur, hh, hm, hs, ht⟩
  have hbase : base ≤ g := by
    rcases h2 with ⟨h, _⟩ | ⟨g', cap', cur, he, hg, _⟩
    · cases h
    · cases he
      exact hg
  clear h2
  obtain ⟨ig, gi, gz0, gz1, gz2⟩ := info_parts infoGate
  obtain ⟨off, eoff⟩ : ∃ off : Nat, off = 0 := ⟨0, rfl⟩
  obtain ⟨news, hnews⟩ : ∃ news, news = gcells (gs.drop j) := ⟨_, rfl⟩
  have hlen : news.length = (n - j) * 4 := by rw [hnews, gcells_len, List.length_drop, hz]
  have hat : ∀ t, t < cap * 4 → w.cell? ⟨g, t, none⟩ = cur[t]? := fun t _ => hb.cell t
  have hsome : ∀ t, t < cap * 4 → (w.cell? ⟨g, t, none⟩).isSome = true := fun t ht => by rw [hb.cell]; simp; omega
  have hfz : ∀ t, w.frozen? ⟨g, t, none⟩ = false := hb.frozen
  have hdr : ∀ t u, news[t]? = some u → w.cell? ⟨g, j * 4 + t, none⟩ = some u := by
    intro t u hu
    rw [hnews, gcells_drop, List.getElem?_drop, ← htk, List.getElem?_take] at hu
    split at hu
    · rw [hb.cell]; simpa using hu
    · cases hu
  obtain ⟨A, hA, hsrc⟩ : ∃ A : Addr, (if cap = j then (some ⟨g, off, none⟩ : Option Addr) else some ⟨g, off + j * 4, none⟩) = some A ∧ Hid (∀ t u, news[t]? = some u → w.drew.cell? (A.add t) = some u) := by
    by_cases h : cap = j
    · refine ⟨⟨g, off, none⟩, by simp [h], Lib.hid fun t u hu => ?_⟩
      have h0 : news.length = 0 := by rw [hlen]; omega
      rw [List.length_eq_zero_iff.1 h0] at hu
      simp at hu
    · refine ⟨⟨g, off + j * 4, none⟩, by simp [h], Lib.hid fun t u hu => ?_⟩
      rw [add_off, eoff, Nat.zero_add]
      exact hdr t u hu
  have s1 : Hid (news.length = (n - j) * 4) := Lib.hid hlen
  have s2 : Hid (∀ u ∈ news, u.oneCell' = true) := Lib.hid (by rw [hnews]; exact gcells_ok _)
  have s3 : Hid (∀ t, t < news.length → (w.drew.cell? ⟨g, off + i * 4 + t, none⟩).isSome = true ∧ w.drew.frozen? ⟨g, off + i * 4 + t, none⟩ = false) := Lib.hid (fun t ht => by
    rw [hlen] at ht
    rw [eoff, Nat.zero_add]
    exact ⟨hsome _ (by omega), hfz _⟩)
  obtain ⟨W1, hW1⟩ : ∃ W1, W1 = w.drew.setCells g (off + i * 4) news := ⟨_, rfl⟩
  obtain ⟨cur1, hb1, ht1⟩ := blk_setCells g _ news (off + i * 4) w.drew cur hb.drew (by rw [hlen, eoff]; omega)
  rw [← hW1] at hb1
  have hs1 : cur1.size = cap * 4 := by
    have := congrArg List.length ht1
    simp at this
    rw [hlen, eoff] at this
    omega
  have hcl : ∀ ty, (Builtin.clear_ #[26] ty #[.slice (some ⟨g, off + (i + (n - j)) * 4, none⟩) (n - (i + (n - j))) (cap - (i + (n - j)))]).run Try.prog W1 = .ok (.tuple #[]) (W1.setCells g (off + (i + (n - j)) * 4) [.int .i64 0, .int .i64 0, .int .i64 0, .int .i64 0]) :=
    fun ty => run_clear_gate W1 ty g _ _ _ (by omega) (fun t ht => by rw [hb1.cell]; simp; omega) (fun t ht => hb1.frozen _)
  obtain ⟨cur2, hb2, ht2⟩ := blk_setCells g _ [.int .i64 0, .int .i64 0, .int .i64 0, .int .i64 0] (off + (i + (n - j)) * 4) W1 cur1 hb1 (by rw [eoff]; simp; omega)
  have hs2 : cur2.size = cap * 4 := by
    have := congrArg List.length ht2
    simp at this
    rw [eoff] at this
    omega
  have hgr : Hid (w.grownBy (W1.setCells g (off + (i + (n - j)) * 4) [.int .i64 0, .int .i64 0, .int .i64 0, .int .i64 0]) (some g)) := Lib.hid (by
    refine only_setCells _ _ _ ?_
    rw [hW1]
    exact only_setCells _ _ _ (only_drew (World.grownBy.refl w _)))
  have hown : Hid ((W1.setCells g (off + (i + (n - j)) * 4) [.int .i64 0, .int .i64 0, .int .i64 0, .int .i64 0]).ownsRow base 48 4 (.slice (some ⟨g, off, none⟩) (n - 1) cap) (n - 1) (gcells (gs.eraseIdx i))) := Lib.hid (by
    subst eoff
    refine ⟨by rw [gcells_len, List.length_eraseIdx, if_pos (by omega), hz], .inr ⟨g, cap, cur2, rfl, hbase, hb2, by omega, hcm, hs2, ?_⟩⟩
    rw [ht2, ht1, gcells_erase, ← hj, ← gcells_drop, ← hnews, Nat.zero_add, Nat.zero_add]
    have e : (i + (n - j)) * 4 = i * 4 + news.length := by rw [hlen]; omega
    have e1 : (n - 1) * 4 = i * 4 + news.length := by rw [hlen]; omega
    have e2 : (cur.toList.take (i * 4) ++ news).length = i * 4 + news.length := by
      simp
      omega
    rw [e, e1, List.append_assoc, List.append_assoc, List.take_append_of_le_length (by simp; omega), List.take_take, Nat.min_self, ← List.append_assoc, ← e2, List.take_left']
    · rw [← htk, List.take_take, Nat.min_eq_left (by omega)]
    · rfl)
  have hW : Hid (W1 = w.drew.setCells g (off + i * 4) news) := Lib.hid hW1
  have hic : i ≤ cap := by omega
  have hjc : j ≤ cap := by omega
  have hij : i < j := by omega
  have hjn : j ≤ n := by omega
  have hin : i + (n - j) = n - 1 := by omega
  have Hin := Lib.hid hin
  have Eoff := Lib.hid eoff
  have mixed : Try.prog.follows Departure.mixedOrders = true := by kernel_rfl
  rw [← eoff]
  clear hj hi hW1 hb hb1 hb2 ht1 ht2 htk hs1 hs2 hnews hlen hat hsome hfz hdr hin eoff hbase hcs hcm hxl
  go_enter Try.func57, Try.ntmps57
  go_wp2_with fail
  go_region_law_o (refine step_append_room rfl (.tmp 22) (.tmp 25) 26 rfl 48 ig 4 Try.underlying26 gi gz1 g off i cap (by simp [Act.eval, Act.put]) A (n - j) (cap - j) news (by simp [Act.eval, Act.put]) s1.out hsrc.out s2.out (by omega) s3.out ?_; rw [← hW.out])
  go_wp2_with fail
  go_ret
  rw [Hin.out] at hgr hown ⊢
  exact ⟨rfl, hown.out, hgr.out⟩
end Go.Proofs.Ytpahhgehamgkaaa
