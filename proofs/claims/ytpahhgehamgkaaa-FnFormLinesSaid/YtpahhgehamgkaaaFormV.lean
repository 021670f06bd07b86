/- Contracts of both FormValid. -/
import Derived.Test.YtpahhgehamgkaaaSs
namespace Go.Proofs.Ytpahhgehamgkaaa
open Go.RowKit
set_option linter.unusedVariables false

/-- a step that is valid, its bits being those up to last -/
def stB (last : Int) (g : St) : Bool := inB g.o 0 3 && (inB g.x 0 last && (if g.o = 3 then g.y == 0 else (inB g.y 0 last && !(g.y == g.x))))
/-- the first k steps are valid -/
def formP (i : Int) (gs : List St) : Nat → Bool
  | 0 => true
  | k + 1 => formP i gs k && stB (i + k - 1) (gs.getD k s0)
theorem formP_le {i : Int} {gs : List St} {k n : Nat} (h : k ≤ n) (h' : formP i gs k = false) : formP i gs n = false := by
  induction n with
  | zero => obtain rfl : k = 0 := by omega
            exact h'
  | succ n ih =>
    by_cases e : k = n + 1
    · subst e; exact h'
    · simp [formP, ih (by omega)]
/-- a formula that is valid -/
def formB (i : Int) (gs : List St) : Bool := inB i 1 3 && (inB (gs.length : Int) 1 3 && formP i gs gs.length)

set_option maxHeartbeats 4000000 in
theorem implFormValid_any (i : Int) (A : Option Addr) (n c B : Nat) (gs : List St) (w : World) (h : Reads w B 3 A n (scells gs)) (hB : B ≤ w.heap.size) (hz : gs.length = n) (hc : n ≤ c) (hn : n ≤ 1048576) :
    Calls Try.prog 41 #[.int .i64 i, .slice A n c] w fun e w' => e = .returned (.bool (formB i gs)) ∧ Below w.heap.size w w' := by
  cases hi : inB i 1 3 with
  | false =>
    have Hg : Hid (formB i gs = false) := Lib.hid (by unfold formB; rw [hi]; rfl)
    clear h hz
    go_enter Try.func41, Try.ntmps41
    go_wp2_with (go_at_call 60; refine (within_any _ _ _ _).mono ?_; rintro e w' ⟨rfl, rfl⟩)
    go_ret
    exact ⟨ret_bool Hg.out.symm, Below.refl _ _⟩
  | true =>
    have hi3 := inB_t hi
    cases hl : inB (n : Int) 1 3 with
    | false =>
      have Hg : Hid (formB i gs = false) := Lib.hid (by unfold formB; rw [hi, hz, hl]; rfl)
      clear h hz
      go_enter Try.func41, Try.ntmps41
      go_wp2_with (go_at_call 60; refine (within_any _ _ _ _).mono ?_; rintro e w' ⟨rfl, rfl⟩)
      go_ret
      exact ⟨ret_bool Hg.out.symm, Below.refl _ _⟩
    | true =>
      have hl3 := inB_t hl
      have HF : Hid (formB i gs = formP i gs gs.length) := Lib.hid (by unfold formB; rw [hi, hz, hl]; rfl)
      have HR := Lib.hid h
      have HZ := Lib.hid hz
      clear h hz
      go_enter Try.func41, Try.ntmps41
      go_wp2_with (go_at_call 60; refine (within_any _ _ _ _).mono ?_; rintro e w' ⟨rfl, rfl⟩)
      clear hi hl
      go_loopg [19] n (fun gh j wr => ∃ k : Nat, k ≤ n ∧ gh = n - k ∧ j = .int .i64 k ∧ formP i gs k = true ∧ Below w.heap.size w wr)
      case atStart => exact ⟨0, Nat.zero_le _, rfl, rfl, rfl, Below.refl _ _⟩
      case round =>
        obtain ⟨k, hk, hg, rfl, hok, hb⟩ := hrel
        have Hg := Lib.hid hg
        have Hok := Lib.hid hok
        have hsz := hb.size
        clear hg hok
        by_cases hlt : k < n
        · have hlt' : (k : Int) < (n : Int) := by omega
          obtain ⟨b, o, rfl, hbB, hcell⟩ := HR.out.openS HZ.out (by omega)
          obtain ⟨g, eg⟩ : ∃ g, g = gs.getD k s0 := ⟨_, rfl⟩
          have hgat := (hcell k hlt).below hb (by omega)
          have hs : formP i gs (k + 1) = stB (i + k - 1) (gs.getD k s0) := by simp only [formP]; rw [Hok.out]; rfl
          rw [← eg] at hgat hs
          obtain ⟨op, x, y⟩ := g
          obtain ⟨q0, q1, q2⟩ := hgat
          simp only at q0 q1 q2
          have hbw : b < wr.heap.size := by omega
          have hb2 := hb.alloc hsz (Obj.cells #[.int .i64 op, .int .i64 x, .int .i64 y] 35)
          have HB : Hid (∀ q : Bool, stB (i + k - 1) ⟨op, x, y⟩ = q → q = false → formB i gs = false) := Lib.hid (fun q h1 h2 => by rw [HF.out]; exact formP_le (k := k + 1) (by have := HZ.out; omega) (by rw [hs, h1, h2]))
          have Hs := Lib.hid hs
          clear hcell eg hs
          cases ho : inB op 0 3 with
          | false =>
            have Hf := Lib.hid (HB.out _ (by unfold stB; rw [ho]; rfl) rfl)
            go_wp2_with (go_at_call 60; refine (within_any _ _ _ _).mono ?_; rintro e w' ⟨rfl, rfl⟩)
            go_ret
            exact ⟨ret_bool Hf.out.symm, hb2⟩
          | true =>
            cases hx : inB x 0 (i + k - 1) with
            | false =>
              have Hf := Lib.hid (HB.out _ (by unfold stB; rw [ho, hx]; rfl) rfl)
              go_wp2_with (go_at_call 60; refine (within_any _ _ _ _).mono ?_; rintro e w' ⟨rfl, rfl⟩)
              go_ret
              exact ⟨ret_bool Hf.out.symm, hb2⟩
            | true =>
              by_cases h3 : op = 3
              · subst h3
                by_cases hy : y = 0
                · have e1 : (y != 0) = false := by simp [hy]
                  have Hs2 : Hid (formP i gs (k + 1) = true) := Lib.hid (by rw [Hs.out]; unfold stB; rw [ho, hx, hy]; rfl)
                  clear hy
                  go_wp2_with (go_at_call 60; refine (within_any _ _ _ _).mono ?_; rintro e w' ⟨rfl, rfl⟩)
                  go_roundg (n - (k + 1))
                  case measure => have := Hg.out; omega
                  case rel => exact ⟨k + 1, by omega, rfl, by go_num, Hs2.out, hb2⟩
                · have e1 : (y != 0) = true := by simp [hy]
                  have e2 : (y == 0) = false := by simp [hy]
                  have Hf := Lib.hid (HB.out false (by unfold stB; rw [ho, hx]; simpa using hy) rfl)
                  clear hy e2
                  go_wp2_with (go_at_call 60; refine (within_any _ _ _ _).mono ?_; rintro e w' ⟨rfl, rfl⟩)
                  go_ret
                  exact ⟨ret_bool Hf.out.symm, hb2⟩
              · have e1 : (op == 3) = false := by simp [h3]
                have e2 : (op != 3) = true := by simp [h3]
                cases hy : inB y 0 (i + k - 1) with
                | false =>
                  have Hf := Lib.hid (HB.out _ (by unfold stB; rw [ho, hx, if_neg h3, hy]; rfl) rfl)
                  clear h3
                  go_wp2_with (go_at_call 60; refine (within_any _ _ _ _).mono ?_; rintro e w' ⟨rfl, rfl⟩)
                  go_ret
                  exact ⟨ret_bool Hf.out.symm, hb2⟩
                | true =>
                  by_cases hxy : y = x
                  · have e3 : (y == x) = true := by simp [hxy]
                    have e4 : (x == y) = true := by simp [hxy]
                    have Hf := Lib.hid (HB.out _ (by unfold stB; rw [ho, hx, if_neg h3, hy, e3]; rfl) rfl)
                    clear h3 hxy
                    go_wp2_with (go_at_call 60; refine (within_any _ _ _ _).mono ?_; rintro e w' ⟨rfl, rfl⟩)
                    go_ret
                    exact ⟨ret_bool Hf.out.symm, hb2⟩
                  · have e3 : (y == x) = false := by simp [hxy]
                    have e4 : (x == y) = false := by simp; omega
                    have Hs2 : Hid (formP i gs (k + 1) = true) := Lib.hid (by rw [Hs.out]; unfold stB; rw [ho, hx, if_neg h3, hy, e3]; rfl)
                    clear h3 hxy
                    go_wp2_with (go_at_call 60; refine (within_any _ _ _ _).mono ?_; rintro e w' ⟨rfl, rfl⟩)
                    go_roundg (n - (k + 1))
                    case measure => have := Hg.out; omega
                    case rel => exact ⟨k + 1, by omega, rfl, by go_num, Hs2.out, hb2⟩
        · have hlt' : ¬ (k : Int) < (n : Int) := by omega
          have Hf : Hid (formB i gs = true) := Lib.hid (by rw [HF.out]; have h2 := Hok.out; rwa [show k = gs.length from by have := HZ.out; omega] at h2)
          go_wp2_with fail
          go_ret
          exact ⟨ret_bool Hf.out.symm, hb⟩

set_option maxHeartbeats 4000000 in
theorem specFormValid_any (i : Int) (A : Option Addr) (n c B : Nat) (gs : List St) (w : World) (h : Reads w B 3 A n (scells gs)) (hB : B ≤ w.heap.size) (hz : gs.length = n) (hc : n ≤ c) (hn : n ≤ 1048576) :
    Calls Try.prog 42 #[.int .i64 i, .slice A n c] w fun e w' => e = .returned (.bool (formB i gs)) ∧ Below w.heap.size w w' := by
  cases hi : inB i 1 3 with
  | false =>
    have Hg : Hid (formB i gs = false) := Lib.hid (by unfold formB; rw [hi]; rfl)
    clear h hz
    go_enter Try.func42, Try.ntmps42
    go_wp2_with (go_at_call 51; refine (l1In_any _ _ _ _).mono ?_; rintro e w' ⟨rfl, rfl⟩)
    go_ret
    exact ⟨ret_bool Hg.out.symm, Below.refl _ _⟩
  | true =>
    have hi3 := inB_t hi
    cases hl : inB (n : Int) 1 3 with
    | false =>
      have Hg : Hid (formB i gs = false) := Lib.hid (by unfold formB; rw [hi, hz, hl]; rfl)
      clear h hz
      go_enter Try.func42, Try.ntmps42
      go_wp2_with (go_at_call 51; refine (l1In_any _ _ _ _).mono ?_; rintro e w' ⟨rfl, rfl⟩)
      go_ret
      exact ⟨ret_bool Hg.out.symm, Below.refl _ _⟩
    | true =>
      have hl3 := inB_t hl
      have HF : Hid (formB i gs = formP i gs gs.length) := Lib.hid (by unfold formB; rw [hi, hz, hl]; rfl)
      have HR := Lib.hid h
      have HZ := Lib.hid hz
      clear h hz
      go_enter Try.func42, Try.ntmps42
      go_wp2_with (go_at_call 51; refine (l1In_any _ _ _ _).mono ?_; rintro e w' ⟨rfl, rfl⟩)
      clear hi hl
      go_loopg [5] n (fun gh j wr => ∃ k : Nat, k ≤ n ∧ gh = n - k ∧ j = .int .i64 k ∧ formP i gs k = true ∧ Below w.heap.size w wr)
      case atStart => exact ⟨0, Nat.zero_le _, rfl, rfl, rfl, Below.refl _ _⟩
      case round =>
        obtain ⟨k, hk, hg, rfl, hok, hb⟩ := hrel
        have Hg := Lib.hid hg
        have Hok := Lib.hid hok
        have hsz := hb.size
        clear hg hok
        by_cases hlt : k < n
        · have hlt' : (k : Int) < (n : Int) := by omega
          obtain ⟨b, o, rfl, hbB, hcell⟩ := HR.out.openS HZ.out (by omega)
          obtain ⟨g, eg⟩ : ∃ g, g = gs.getD k s0 := ⟨_, rfl⟩
          have hgat := (hcell k hlt).below hb (by omega)
          have hs : formP i gs (k + 1) = stB (i + k - 1) (gs.getD k s0) := by simp only [formP]; rw [Hok.out]; rfl
          rw [← eg] at hgat hs
          obtain ⟨op, x, y⟩ := g
          obtain ⟨q0, q1, q2⟩ := hgat
          simp only at q0 q1 q2
          have hbw : b < wr.heap.size := by omega
          have hb2 := hb.alloc hsz (Obj.cells #[.int .i64 op, .int .i64 x, .int .i64 y] 35)
          have HB : Hid (∀ q : Bool, stB (i + k - 1) ⟨op, x, y⟩ = q → q = false → formB i gs = false) := Lib.hid (fun q h1 h2 => by rw [HF.out]; exact formP_le (k := k + 1) (by have := HZ.out; omega) (by rw [hs, h1, h2]))
          have Hs := Lib.hid hs
          clear hcell eg hs
          cases ho : inB op 0 3 with
          | false =>
            have Hf := Lib.hid (HB.out _ (by unfold stB; rw [ho]; rfl) rfl)
            go_wp2_with (go_at_call 51; refine (l1In_any _ _ _ _).mono ?_; rintro e w' ⟨rfl, rfl⟩)
            go_ret
            exact ⟨ret_bool Hf.out.symm, hb2⟩
          | true =>
            cases hx : inB x 0 (i + k - 1) with
            | false =>
              have Hf := Lib.hid (HB.out _ (by unfold stB; rw [ho, hx]; rfl) rfl)
              go_wp2_with (go_at_call 51; refine (l1In_any _ _ _ _).mono ?_; rintro e w' ⟨rfl, rfl⟩)
              go_ret
              exact ⟨ret_bool Hf.out.symm, hb2⟩
            | true =>
              by_cases h3 : op = 3
              · subst h3
                by_cases hy : y = 0
                · have e1 : (y != 0) = false := by simp [hy]
                  have Hs2 : Hid (formP i gs (k + 1) = true) := Lib.hid (by rw [Hs.out]; unfold stB; rw [ho, hx, hy]; rfl)
                  clear hy
                  go_wp2_with (go_at_call 51; refine (l1In_any _ _ _ _).mono ?_; rintro e w' ⟨rfl, rfl⟩)
                  go_roundg (n - (k + 1))
                  case measure => have := Hg.out; omega
                  case rel => exact ⟨k + 1, by omega, rfl, by go_num, Hs2.out, hb2⟩
                · have e1 : (y != 0) = true := by simp [hy]
                  have e2 : (y == 0) = false := by simp [hy]
                  have Hf := Lib.hid (HB.out false (by unfold stB; rw [ho, hx]; simpa using hy) rfl)
                  clear hy e2
                  go_wp2_with (go_at_call 51; refine (l1In_any _ _ _ _).mono ?_; rintro e w' ⟨rfl, rfl⟩)
                  go_ret
                  exact ⟨ret_bool Hf.out.symm, hb2⟩
              · have e1 : (op == 3) = false := by simp [h3]
                have e2 : (op != 3) = true := by simp [h3]
                cases hy : inB y 0 (i + k - 1) with
                | false =>
                  have Hf := Lib.hid (HB.out _ (by unfold stB; rw [ho, hx, if_neg h3, hy]; rfl) rfl)
                  clear h3
                  go_wp2_with (go_at_call 51; refine (l1In_any _ _ _ _).mono ?_; rintro e w' ⟨rfl, rfl⟩)
                  go_ret
                  exact ⟨ret_bool Hf.out.symm, hb2⟩
                | true =>
                  by_cases hxy : y = x
                  · have e3 : (y == x) = true := by simp [hxy]
                    have e4 : (x == y) = true := by simp [hxy]
                    have Hf := Lib.hid (HB.out _ (by unfold stB; rw [ho, hx, if_neg h3, hy, e3]; rfl) rfl)
                    clear h3 hxy
                    go_wp2_with (go_at_call 51; refine (l1In_any _ _ _ _).mono ?_; rintro e w' ⟨rfl, rfl⟩)
                    go_ret
                    exact ⟨ret_bool Hf.out.symm, hb2⟩
                  · have e3 : (y == x) = false := by simp [hxy]
                    have e4 : (x == y) = false := by simp; omega
                    have Hs2 : Hid (formP i gs (k + 1) = true) := Lib.hid (by rw [Hs.out]; unfold stB; rw [ho, hx, if_neg h3, hy, e3]; rfl)
                    clear h3 hxy
                    go_wp2_with (go_at_call 51; refine (l1In_any _ _ _ _).mono ?_; rintro e w' ⟨rfl, rfl⟩)
                    go_roundg (n - (k + 1))
                    case measure => have := Hg.out; omega
                    case rel => exact ⟨k + 1, by omega, rfl, by go_num, Hs2.out, hb2⟩
        · have hlt' : ¬ (k : Int) < (n : Int) := by omega
          have Hf : Hid (formB i gs = true) := Lib.hid (by rw [HF.out]; have h2 := Hok.out; rwa [show k = gs.length from by have := HZ.out; omega] at h2)
          go_wp2_with fail
          go_ret
          exact ⟨ret_bool Hf.out.symm, hb⟩
end Go.Proofs.Ytpahhgehamgkaaa
