/- Contracts of natures, nature, some and impl.LinesOf. -/
import Derived.Test.YtffkoeobehocjaaDoorGates
import Derived.Deep.WholeRow
namespace Go.Proofs.YtffkoeobehocjaaDoor
open Go.RowKit

/-- what is known of all kinds -/
def nats : Array Value := #[.string ⟨#[110, 111, 116]⟩, .int .i64 1, .int .i64 1, .int .i64 1, .string ⟨#[99, 111, 112, 121]⟩, .int .i64 3, .int .i64 2, .int .i64 1,
  .string ⟨#[98, 111, 116, 104]⟩, .int .i64 7, .int .i64 4, .int .i64 5, .string ⟨#[115, 119, 97, 112]⟩, .int .i64 3, .int .i64 3, .int .i64 3, .string ⟨#[105, 102]⟩, .int .i64 7, .int .i64 6, .int .i64 7]

theorem nats_size : (Tryd.prog.info? 73).map (·.size) = some nats.size := by kernel_rfl

theorem results_cell {fn : Func} {p : Tmp} {ty : TypeId} (h : fn.results = #[.cell p ty]) (tmps : Array Value) (P : Program) (w : World) :
    (results fn tmps).run P w = ((asAddr (tmps.getD p undef)).run P w).andThen fun a w₁ => (loadVar ty a).run P w₁ := by
  simp only [results, h]
  simp [Sem.run_bind, Result.andThen]
theorem results_cell_ok {fn : Func} {p : Tmp} {ty : TypeId} {tmps : Array Value} {P : Program} {w : World} {a : Addr} {v : Value} (h : fn.results = #[.cell p ty]) (ha : tmps.getD p undef = .pointer (some a))
    (hv : (loadVar ty a).run P w = .ok v w) : (results fn tmps).run P w = .ok v w := by
  rw [results_cell h, ha]
  exact hv
theorem results_cell2_ok {fn : Func} {p u : Tmp} {ty : TypeId} {tmps : Array Value} {P : Program} {w : World} {a : Addr} {v : Value} (h : fn.results = #[.cell p ty, .tmp u]) (ha : tmps.getD p undef = .pointer (some a))
    (hv : (loadVar ty a).run P w = .ok v w) : (results fn tmps).run P w = .ok (.tuple #[v, tmps.getD u undef]) w := by
  rw [results_cell_tmp h, ha]
  show Result.andThen ((loadVar ty a).run P w) _ = _
  rw [hv]
  rfl
theorem nats_one : nats.all (·.oneCell') = true := by kernel_rfl

set_option maxHeartbeats 100000 in
theorem natures_any (w : World) :
    Calls Tryd.prog 54 #[] w fun e w' => e = .returned (.agg nats) ∧ Below w.heap.size w w' := by
  go_enter Tryd.func54, Tryd.ntmps54
  iterate 29 go_step
  refine wpList_store_row rfl 73 _ _ rfl w.heap.size nats rfl rfl 73 ?_ ?_ nats_size ?_ nats_one ?_
  rotate_left
  · exact heap_alloc_last w _
  · rfl
  rw [World.setRow_alloc_new]
  go_wp2
  exact bodyPost_ret (v := .agg nats) (results_cell_ok Tryd.results54 rfl (run_loadVar_new w 73 nats 5 67 Tryd.underlying73 nats_size)) rfl ⟨rfl, (Below.refl _ _).alloc (Nat.le_refl _) _⟩

/-- what is known of a kind -/
def natOf (k : Int) : Array Value :=
  if k = 0 then #[.string ⟨#[110, 111, 116]⟩, .int .i64 1, .int .i64 1, .int .i64 1]
  else if k = 1 then #[.string ⟨#[99, 111, 112, 121]⟩, .int .i64 3, .int .i64 2, .int .i64 1]
  else if k = 2 then #[.string ⟨#[98, 111, 116, 104]⟩, .int .i64 7, .int .i64 4, .int .i64 5]
  else if k = 3 then #[.string ⟨#[115, 119, 97, 112]⟩, .int .i64 3, .int .i64 3, .int .i64 3]
  else if k = 4 then #[.string ⟨#[105, 102]⟩, .int .i64 7, .int .i64 6, .int .i64 7]
  else #[.string ⟨#[]⟩, .int .i64 0, .int .i64 0, .int .i64 0]

theorem load_blk {P : Program} {w : World} {g : Nat} {t ty : TypeId} {cs : Array Value} {d : TypeDesc} (h : Blk w g t cs) (hu : P.underlying ty = some d) (hd : (match d with | .struct _ | .array _ _ => true | _ => false) = true) (hi : (P.info? ty).map (·.size) = some cs.size) :
    (loadVar ty ⟨g, 0, none⟩).run P w = .ok (.agg cs) w := run_loadVar_row _ _ t ty cs (0, 0) _ h hu hd hi
theorem nature_size {cs : Array Value} (h : cs.size = 4) : (Tryd.prog.info? 67).map (·.size) = some cs.size := by rw [h]; kernel_rfl
theorem natOf_size (k : Int) : (natOf k).size = 4 := by
  unfold natOf
  repeat' split
  all_goals rfl

theorem nature_fin {w w1 : World} {o : Obj} {k : Int} {v0 v1 v2 v3 : Value} (hb : Below ((w.alloc o).alloc (.cells #[.string ⟨#[]⟩, .int .i64 0, .int .i64 0, .int .i64 0] 67)).drew.heap.size ((w.alloc o).alloc (.cells #[.string ⟨#[]⟩, .int .i64 0, .int .i64 0, .int .i64 0] 67)).drew w1)
    (hk : natOf k = #[v0, v1, v2, v3]) :
    (loadVar 67 ⟨w.heap.size + 1, 0, none⟩).run Tryd.prog ((((w1.setCell ⟨w.heap.size + 1, 0, none⟩ v0).setCell ⟨w.heap.size + 1, 1, none⟩ v1).setCell ⟨w.heap.size + 1, 2, none⟩ v2).setCell ⟨w.heap.size + 1, 3, none⟩ v3)
      = .ok (.agg (natOf k)) ((((w1.setCell ⟨w.heap.size + 1, 0, none⟩ v0).setCell ⟨w.heap.size + 1, 1, none⟩ v1).setCell ⟨w.heap.size + 1, 2, none⟩ v2).setCell ⟨w.heap.size + 1, 3, none⟩ v3) ∧
    Below w.heap.size w ((((w1.setCell ⟨w.heap.size + 1, 0, none⟩ v0).setCell ⟨w.heap.size + 1, 1, none⟩ v1).setCell ⟨w.heap.size + 1, 2, none⟩ v2).setCell ⟨w.heap.size + 1, 3, none⟩ v3) := by
  have hB : Blk w1 (w.heap.size + 1) 67 #[.string ⟨#[]⟩, .int .i64 0, .int .i64 0, .int .i64 0] := by
    have h0 := (Blk.new (w.alloc o) 67 #[.string ⟨#[]⟩, .int .i64 0, .int .i64 0, .int .i64 0]).drew.below hb (by simp)
    simpa using h0
  have hB4 := (((hB.set_ 0 v0).set_ 1 v1).set_ 2 v2).set_ 3 v3
  rw [hk]
  refine ⟨load_blk hB4 Tryd.underlying67 rfl (nature_size rfl), ?_⟩
  have h1 : Below w.heap.size w w1 := by
    refine Below.trans ?_ (hb.mono (by simp; omega))
    exact (((Below.refl _ _).alloc (Nat.le_refl _) _).alloc (by simp) _).drew
  exact (((h1.setCell (by simp) _).setCell (by simp) _).setCell (by simp) _).setCell (by simp) _

theorem idx0 (w : World) : (Instr.index 73 (.agg nats) (.int .i64 0)).run Tryd.prog w = .ok (.agg #[.string ⟨#[110, 111, 116]⟩, .int .i64 1, .int .i64 1, .int .i64 1]) w := by kernel_rfl
set_option maxHeartbeats 1000000 in
theorem nature0 (a b c : Int) (w : World) :
    Calls Tryd.prog 49 #[.agg #[.int .i64 0, .int .i64 a, .int .i64 b, .int .i64 c]] w fun e w' => e = .returned (.tuple #[.agg (natOf 0), .bool true]) ∧ Below w.heap.size w w' := by
  have hi := idx0
  have hin : inB 0 0 4 = true := rfl
  go_enter Tryd.func49, Tryd.ntmps49
  go_wp2_with (first | (go_at_call 43; refine (within_any _ _ _ _).mono ?_; rintro e w' ⟨rfl, rfl⟩))
  go_region_with (go_at_call 54; refine (natures_any _).mono ?_; rintro e w1 ⟨rfl, hb⟩; obtain ⟨hc, hf⟩ := bcell hb; have hz := hb.size)
  all_goals go_wp2
  all_goals
    obtain ⟨f1, f2⟩ := nature_fin (k := 0) hb rfl
    exact bodyPost_ret (v := .tuple #[.agg (natOf 0), .bool true]) (results_cell2_ok Tryd.results49 rfl f1) rfl ⟨rfl, f2⟩

theorem idx1 (w : World) : (Instr.index 73 (.agg nats) (.int .i64 1)).run Tryd.prog w = .ok (.agg #[.string ⟨#[99, 111, 112, 121]⟩, .int .i64 3, .int .i64 2, .int .i64 1]) w := by kernel_rfl
set_option maxHeartbeats 1000000 in
theorem nature1 (a b c : Int) (w : World) :
    Calls Tryd.prog 49 #[.agg #[.int .i64 1, .int .i64 a, .int .i64 b, .int .i64 c]] w fun e w' => e = .returned (.tuple #[.agg (natOf 1), .bool true]) ∧ Below w.heap.size w w' := by
  have hi := idx1
  have hin : inB 1 0 4 = true := rfl
  go_enter Tryd.func49, Tryd.ntmps49
  go_wp2_with (first | (go_at_call 43; refine (within_any _ _ _ _).mono ?_; rintro e w' ⟨rfl, rfl⟩))
  go_region_with (go_at_call 54; refine (natures_any _).mono ?_; rintro e w1 ⟨rfl, hb⟩; obtain ⟨hc, hf⟩ := bcell hb; have hz := hb.size)
  all_goals go_wp2
  all_goals
    obtain ⟨f1, f2⟩ := nature_fin (k := 1) hb rfl
    exact bodyPost_ret (v := .tuple #[.agg (natOf 1), .bool true]) (results_cell2_ok Tryd.results49 rfl f1) rfl ⟨rfl, f2⟩

theorem idx2 (w : World) : (Instr.index 73 (.agg nats) (.int .i64 2)).run Tryd.prog w = .ok (.agg #[.string ⟨#[98, 111, 116, 104]⟩, .int .i64 7, .int .i64 4, .int .i64 5]) w := by kernel_rfl
set_option maxHeartbeats 1000000 in
theorem nature2 (a b c : Int) (w : World) :
    Calls Tryd.prog 49 #[.agg #[.int .i64 2, .int .i64 a, .int .i64 b, .int .i64 c]] w fun e w' => e = .returned (.tuple #[.agg (natOf 2), .bool true]) ∧ Below w.heap.size w w' := by
  have hi := idx2
  have hin : inB 2 0 4 = true := rfl
  go_enter Tryd.func49, Tryd.ntmps49
  go_wp2_with (first | (go_at_call 43; refine (within_any _ _ _ _).mono ?_; rintro e w' ⟨rfl, rfl⟩))
  go_region_with (go_at_call 54; refine (natures_any _).mono ?_; rintro e w1 ⟨rfl, hb⟩; obtain ⟨hc, hf⟩ := bcell hb; have hz := hb.size)
  all_goals go_wp2
  all_goals
    obtain ⟨f1, f2⟩ := nature_fin (k := 2) hb rfl
    exact bodyPost_ret (v := .tuple #[.agg (natOf 2), .bool true]) (results_cell2_ok Tryd.results49 rfl f1) rfl ⟨rfl, f2⟩

theorem idx3 (w : World) : (Instr.index 73 (.agg nats) (.int .i64 3)).run Tryd.prog w = .ok (.agg #[.string ⟨#[115, 119, 97, 112]⟩, .int .i64 3, .int .i64 3, .int .i64 3]) w := by kernel_rfl
set_option maxHeartbeats 1000000 in
theorem nature3 (a b c : Int) (w : World) :
    Calls Tryd.prog 49 #[.agg #[.int .i64 3, .int .i64 a, .int .i64 b, .int .i64 c]] w fun e w' => e = .returned (.tuple #[.agg (natOf 3), .bool true]) ∧ Below w.heap.size w w' := by
  have hi := idx3
  have hin : inB 3 0 4 = true := rfl
  go_enter Tryd.func49, Tryd.ntmps49
  go_wp2_with (first | (go_at_call 43; refine (within_any _ _ _ _).mono ?_; rintro e w' ⟨rfl, rfl⟩))
  go_region_with (go_at_call 54; refine (natures_any _).mono ?_; rintro e w1 ⟨rfl, hb⟩; obtain ⟨hc, hf⟩ := bcell hb; have hz := hb.size)
  all_goals go_wp2
  all_goals
    obtain ⟨f1, f2⟩ := nature_fin (k := 3) hb rfl
    exact bodyPost_ret (v := .tuple #[.agg (natOf 3), .bool true]) (results_cell2_ok Tryd.results49 rfl f1) rfl ⟨rfl, f2⟩

theorem idx4 (w : World) : (Instr.index 73 (.agg nats) (.int .i64 4)).run Tryd.prog w = .ok (.agg #[.string ⟨#[105, 102]⟩, .int .i64 7, .int .i64 6, .int .i64 7]) w := by kernel_rfl
set_option maxHeartbeats 1000000 in
theorem nature4 (a b c : Int) (w : World) :
    Calls Tryd.prog 49 #[.agg #[.int .i64 4, .int .i64 a, .int .i64 b, .int .i64 c]] w fun e w' => e = .returned (.tuple #[.agg (natOf 4), .bool true]) ∧ Below w.heap.size w w' := by
  have hi := idx4
  have hin : inB 4 0 4 = true := rfl
  go_enter Tryd.func49, Tryd.ntmps49
  go_wp2_with (first | (go_at_call 43; refine (within_any _ _ _ _).mono ?_; rintro e w' ⟨rfl, rfl⟩))
  go_region_with (go_at_call 54; refine (natures_any _).mono ?_; rintro e w1 ⟨rfl, hb⟩; obtain ⟨hc, hf⟩ := bcell hb; have hz := hb.size)
  all_goals go_wp2
  all_goals
    obtain ⟨f1, f2⟩ := nature_fin (k := 4) hb rfl
    exact bodyPost_ret (v := .tuple #[.agg (natOf 4), .bool true]) (results_cell2_ok Tryd.results49 rfl f1) rfl ⟨rfl, f2⟩

theorem nature_no (k a b c : Int) (w : World) (h : inB k 0 4 = false) :
    Calls Tryd.prog 49 #[.agg #[.int .i64 k, .int .i64 a, .int .i64 b, .int .i64 c]] w fun e w' => e = .returned (.tuple #[.agg (natOf k), .bool false]) ∧ Below w.heap.size w w' := by
  have hk : natOf k = #[.string ⟨#[]⟩, .int .i64 0, .int .i64 0, .int .i64 0] := by
    have := inB_f h
    unfold natOf
    rw [if_neg (by omega), if_neg (by omega), if_neg (by omega), if_neg (by omega), if_neg (by omega)]
  have Hk := Lib.hid hk
  clear hk
  go_enter Tryd.func49, Tryd.ntmps49
  go_wp2_with (first | (go_at_call 43; refine (within_any _ _ _ _).mono ?_; rintro e w' ⟨rfl, rfl⟩))
  have hB : ∀ o : Obj, Blk ((w.alloc o).alloc (.cells #[.string ⟨#[]⟩, .int .i64 0, .int .i64 0, .int .i64 0] 67)) (w.heap.size + 1) 67 #[.string ⟨#[]⟩, .int .i64 0, .int .i64 0, .int .i64 0] := fun o => by
    have h0 := Blk.new (w.alloc o) 67 #[.string ⟨#[]⟩, .int .i64 0, .int .i64 0, .int .i64 0]
    simpa using h0
  rw [Hk.out]
  exact bodyPost_ret (v := .tuple #[.agg #[.string ⟨#[]⟩, .int .i64 0, .int .i64 0, .int .i64 0], .bool false]) (results_cell2_ok Tryd.results49 rfl (load_blk (hB _) Tryd.underlying67 rfl (nature_size rfl))) rfl ⟨rfl, ((Below.refl _ _).alloc (Nat.le_refl _) _).alloc (by simp) _⟩

theorem nature_any (k a b c : Int) (w : World) :
    Calls Tryd.prog 49 #[.agg #[.int .i64 k, .int .i64 a, .int .i64 b, .int .i64 c]] w fun e w' => e = .returned (.tuple #[.agg (natOf k), .bool (inB k 0 4)]) ∧ Below w.heap.size w w' := by
  cases h : inB k 0 4 with
  | false => exact nature_no k a b c w h
  | true =>
    have := inB_t h
    have h5 : k = 0 ∨ k = 1 ∨ k = 2 ∨ k = 3 ∨ k = 4 := by omega
    rcases h5 with rfl | rfl | rfl | rfl | rfl
    · exact nature0 a b c w
    · exact nature1 a b c w
    · exact nature2 a b c w
    · exact nature3 a b c w
    · exact nature4 a b c w
end Go.Proofs.YtffkoeobehocjaaDoor
