/- Contracts of both FormLines. -/
import Derived.Test.YtpahhgehamgkaaaFormV
namespace Go.Proofs.Ytpahhgehamgkaaa
open Go.RowKit
set_option linter.unusedVariables false

theorem formB_t {i : Int} {gs : List St} (h : formB i gs = true) : 1 ≤ i ∧ i ≤ 3 ∧ 1 ≤ gs.length ∧ gs.length ≤ 3 ∧ formP i gs gs.length = true := by
  unfold formB at h
  rw [Bool.and_eq_true, Bool.and_eq_true] at h
  have h1 := inB_t h.1
  have h2 := inB_t h.2.1
  exact ⟨h1.1, h1.2, by omega, by omega, h.2.2⟩
/-- what FormLines answers -/
def formLines (i : Int) (gs : List St) : Int := if formB i gs = true then i + gs.length + 1 else -1
theorem formLines_y {i : Int} {gs : List St} (h : formB i gs = true) : formLines i gs = i + gs.length + 1 := if_pos h
theorem formLines_n {i : Int} {gs : List St} (h : formB i gs = false) : formLines i gs = -1 := if_neg (by rw [h]; decide)

theorem implFormLines_any (i : Int) (A : Option Addr) (n c B : Nat) (gs : List St) (w : World) (h : Reads w B 3 A n (scells gs)) (hB : B ≤ w.heap.size) (hz : gs.length = n) (hc : n ≤ c) (hn : n ≤ 1048576) :
    Calls Try.prog 20 #[.int .i64 i, .slice A n c] w fun e w' => e = .returned (.int .i64 (formLines i gs)) ∧ Below w.heap.size w w' := by
  have HT := Lib.hid (implFormValid_any i A n c B gs w h hB hz hc hn)
  cases hv : formB i gs with
  | false =>
    have Hr := Lib.hid (formLines_n hv)
    rw [hv] at HT
    clear hv h hz
    go_enter Try.func20, Try.ntmps20
    go_wp2_with fail
    refine HT.out.mono ?_
    rintro e w1 ⟨rfl, hb1⟩
    go_wp2_with fail
    go_ret
    exact ⟨ret_int Hr.out.symm, hb1⟩
  | true =>
    have Hr := Lib.hid (formLines_y hv)
    have hb := formB_t hv
    have h1 : 1 ≤ i ∧ i ≤ 3 ∧ n ≤ 3 := by omega
    rw [hz] at Hr
    rw [hv] at HT
    clear hv h hz hb
    go_enter Try.func20, Try.ntmps20
    go_wp2_with fail
    refine HT.out.mono ?_
    rintro e w1 ⟨rfl, hb1⟩
    go_wp2_with fail
    go_ret
    exact ⟨ret_int Hr.out.symm, hb1⟩

theorem specFormLines_any (i : Int) (A : Option Addr) (n c B : Nat) (gs : List St) (w : World) (h : Reads w B 3 A n (scells gs)) (hB : B ≤ w.heap.size) (hz : gs.length = n) (hc : n ≤ c) (hn : n ≤ 1048576) :
    Calls Try.prog 21 #[.int .i64 i, .slice A n c] w fun e w' => e = .returned (.int .i64 (formLines i gs)) ∧ Below w.heap.size w w' := by
  have HT := Lib.hid (specFormValid_any i A n c B gs w h hB hz hc hn)
  cases hv : formB i gs with
  | false =>
    have Hr := Lib.hid (formLines_n hv)
    rw [hv] at HT
    clear hv h hz
    go_enter Try.func21, Try.ntmps21
    go_wp2_with fail
    refine HT.out.mono ?_
    rintro e w1 ⟨rfl, hb1⟩
    go_wp2_with fail
    go_ret
    exact ⟨ret_int Hr.out.symm, hb1⟩
  | true =>
    have Hr := Lib.hid (formLines_y hv)
    have hb := formB_t hv
    have h1 : 1 ≤ i ∧ i ≤ 3 ∧ n ≤ 3 := by omega
    rw [hz] at Hr
    rw [hv] at HT
    clear hv h hz hb
    go_enter Try.func21, Try.ntmps21
    go_wp2_with fail
    refine HT.out.mono ?_
    rintro e w1 ⟨rfl, hb1⟩
    go_wp2_with fail
    go_ret
    exact ⟨ret_int Hr.out.symm, hb1⟩
end Go.Proofs.Ytpahhgehamgkaaa
