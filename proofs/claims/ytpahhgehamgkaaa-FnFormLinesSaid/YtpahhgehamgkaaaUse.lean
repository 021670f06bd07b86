/- What UselessPair answers, and contracts of impl.useless and both UselessPair. -/
import Derived.Test.YtpahhgehamgkaaaApS
import Derived.Deep.RegionHeld3
namespace Go.Proofs.Ytpahhgehamgkaaa
open Go.RowKit
set_option linter.unusedVariables false
set_option linter.unusedSimpArgs false

/-- whether two gates are the same -/
def sameG (g h : Gt) : Bool := (g.k == h.k) && ((g.a == h.a) && ((g.b == h.b) && (g.c == h.c)))
theorem sameG_self (g : Gt) : sameG g g = true := by simp [sameG]
theorem sameG_eq {g h : Gt} (e : sameG g h = true) : g = h := by
  obtain ⟨k, a, b, c⟩ := g
  obtain ⟨k', a', b', c'⟩ := h
  simp [sameG] at e
  obtain ⟨rfl, rfl, rfl, rfl⟩ := e
  rfl
theorem sameG_comm (g h : Gt) : sameG g h = sameG h g := by
  cases e : sameG g h with
  | true => rw [sameG_eq e, sameG_self]
  | false =>
    cases e' : sameG h g with
    | false => rfl
    | true => rw [sameG_eq e', sameG_self] at e; cases e
theorem apB_comm (g h : Gt) : apB g h = apB h g := by unfold apB; exact Bool.and_comm _ _

theorem gate_eql (x0 x1 x2 x3 y0 y1 y2 y3 : Int) (W : World) : (binOp .eql 48 (.agg #[.int .i64 x0, .int .i64 x1, .int .i64 x2, .int .i64 x3]) (.agg #[.int .i64 y0, .int .i64 y1, .int .i64 y2, .int .i64 y3])).run Try.prog W = .ok (.bool (sameG ⟨x0, x1, x2, x3⟩ ⟨y0, y1, y2, y3⟩)) W := by
  have u3 := Try.underlying3
  have a3 := Try.isAgg3
  have z3 := Try.sizeOf3
  have hS : Try.prog.underlying 48 = some (.struct (Try.prog.fieldsOf 48)) := by kernel_rfl
  have hp : Try.prog.stoodInHeld 48 = false := by kernel_rfl
  rw [run_eql_struct, show (10000 : Nat) = 9999 + 1 from rfl, run_equalIn_agg W 9999 48 _ _ hS hp]
  simp only [Program.fieldsOf, Try.underlying48]
  go_simp
  unfold sameG
  by_cases h0 : x0 = y0 <;> by_cases h1 : x1 = y1 <;> by_cases h2 : x2 = y2 <;> by_cases h3 : x3 = y3 <;> simp [h0, h1, h2, h3]

/-- two gates are the same, and each gate behind the first one, as far as m, is the same or apart -/
def frN (gs : List Gt) (a b m : Nat) : Bool := sameG (gs.getD a g0) (gs.getD b g0) && (List.range m).all (fun t => sameG (gs.getD (a + 1 + t) g0) (gs.getD b g0) || apB (gs.getD (a + 1 + t) g0) (gs.getD b g0))
def fr (gs : List Gt) (a b : Nat) : Bool := frN gs a b (b - (a + 1))
theorem frN_zero (gs : List Gt) (a b : Nat) : frN gs a b 0 = sameG (gs.getD a g0) (gs.getD b g0) := by simp [frN]
theorem frN_succ (gs : List Gt) (a b m : Nat) : frN gs a b (m + 1) = (frN gs a b m && (sameG (gs.getD (a + 1 + m) g0) (gs.getD b g0) || apB (gs.getD (a + 1 + m) g0) (gs.getD b g0))) := by
  unfold frN
  rw [List.range_succ, List.all_append]
  simp [Bool.and_assoc]
theorem frN_le {gs : List Gt} {a b m m' : Nat} (h : m ≤ m') (hf : frN gs a b m = false) : frN gs a b m' = false := by
  induction m' with
  | zero =>
    obtain rfl : m = 0 := by omega
    exact hf
  | succ k ih =>
    rcases Nat.lt_or_ge k m with hk | hk
    · obtain rfl : m = k + 1 := by omega
      exact hf
    · rw [frN_succ, ih hk]; rfl
/-- no partner behind a, less than m -/
def NoF (gs : List Gt) (a m : Nat) : Prop := ∀ b, a < b → b < m → fr gs a b = false
def NoU (gs : List Gt) (i : Nat) : Prop := ∀ a, a < i → NoF gs a gs.length
theorem NoF.zero (gs : List Gt) (a : Nat) : NoF gs a (a + 1) := fun b h h' => by omega
theorem NoF.succ {gs : List Gt} {a m : Nat} (h : NoF gs a m) (hf : fr gs a m = false) : NoF gs a (m + 1) := fun b h1 h2 => by
  rcases Nat.lt_or_ge b m with hb | hb
  · exact h b h1 hb
  · obtain rfl : b = m := by omega
    exact hf
theorem NoU.zero (gs : List Gt) : NoU gs 0 := fun a h => by omega
theorem NoU.succ {gs : List Gt} {i : Nat} (h : NoU gs i) (hf : NoF gs i gs.length) : NoU gs (i + 1) := fun a h1 => by
  rcases Nat.lt_or_ge a i with hb | hb
  · exact h a hb
  · obtain rfl : a = i := by omega
    exact hf
/-- the two indices that UselessPair answers -/
def UseP (gs : List Gt) (p q : Int) : Prop := (p = -1 ∧ q = -1 ∧ NoU gs gs.length) ∨ ∃ a b : Nat, p = a ∧ q = b ∧ a < b ∧ b < gs.length ∧ fr gs a b = true ∧ NoU gs a ∧ NoF gs a b
theorem useP_uniq {gs : List Gt} {p q p' q' : Int} (h : UseP gs p q) (h' : UseP gs p' q') : p = p' ∧ q = q' := by
  rcases h with ⟨rfl, rfl, h⟩ | ⟨a, b, rfl, rfl, hab, hb, hf, hu, hn⟩
  · rcases h' with ⟨rfl, rfl, h'⟩ | ⟨a', b', rfl, rfl, hab', hb', hf', hu', hn'⟩
    · exact ⟨rfl, rfl⟩
    · rw [h a' (by omega) b' hab' hb'] at hf'; cases hf'
  · rcases h' with ⟨rfl, rfl, h'⟩ | ⟨a', b', rfl, rfl, hab', hb', hf', hu', hn'⟩
    · rw [h' a (by omega) b hab hb] at hf; cases hf
    · have e : a = a' := by
        rcases Nat.lt_trichotomy a a' with h | h | h
        · rw [hu' a h b hab hb] at hf; cases hf
        · exact h
        · rw [hu a' h b' hab' hb'] at hf'; cases hf'
      subst e
      have e : b = b' := by
        rcases Nat.lt_trichotomy b b' with h | h | h
        · rw [hn' b hab h] at hf; cases hf
        · exact h
        · rw [hn b' hab' h] at hf'; cases hf'
      subst e
      exact ⟨rfl, rfl⟩
/-- the first number with a property, or n -/
def firstN (p : Nat → Bool) : Nat → Nat
  | 0 => 0
  | n + 1 => if firstN p n < n then firstN p n else if p n = true then n else n + 1
theorem firstN_all (p : Nat → Bool) (n : Nat) : firstN p n ≤ n ∧ (∀ j, j < firstN p n → p j = false) ∧ (firstN p n < n → p (firstN p n) = true) := by
  induction n with
  | zero => exact ⟨Nat.le_refl _, fun j h => by simp [firstN] at h, fun h => by simp [firstN] at h⟩
  | succ n ih =>
    obtain ⟨h1, h2, h3⟩ := ih
    unfold firstN
    by_cases hc : firstN p n < n
    · rw [if_pos hc]
      exact ⟨by omega, h2, fun _ => h3 hc⟩
    · rw [if_neg hc]
      have e : firstN p n = n := by omega
      rw [e] at h2
      by_cases hp : p n = true
      · rw [if_pos hp]
        exact ⟨by omega, h2, fun _ => hp⟩
      · rw [if_neg hp]
        refine ⟨Nat.le_refl _, fun j hj => ?_, fun h => by omega⟩
        rcases Nat.lt_or_ge j n with hb | hb
        · exact h2 j hb
        · obtain rfl : j = n := by omega
          simpa using hp
def nxU (gs : List Gt) (a : Nat) : Nat := firstN (fun b => decide (a < b) && fr gs a b) gs.length
def fiU (gs : List Gt) : Nat := firstN (fun a => decide (nxU gs a < gs.length)) gs.length
def useA (gs : List Gt) : Int := if fiU gs < gs.length then (fiU gs : Int) else -1
def useB (gs : List Gt) : Int := if fiU gs < gs.length then (nxU gs (fiU gs) : Int) else -1
theorem nxU_no (gs : List Gt) (a : Nat) : NoF gs a (nxU gs a) := fun b h h' => by
  have := (firstN_all (fun b => decide (a < b) && fr gs a b) gs.length).2.1 b h'
  rw [decide_eq_true h] at this
  simpa using this
theorem useP_is (gs : List Gt) : UseP gs (useA gs) (useB gs) := by
  have hf := firstN_all (fun a => decide (nxU gs a < gs.length)) gs.length
  have hu : NoU gs (fiU gs) := fun a ha => by
    have h1 := of_decide_eq_false (hf.2.1 a ha)
    have h2 := (firstN_all (fun b => decide (a < b) && fr gs a b) gs.length).1
    have e : nxU gs a = gs.length := by unfold nxU at *; omega
    have := nxU_no gs a
    rwa [e] at this
  unfold useA useB
  by_cases hc : fiU gs < gs.length
  · rw [if_pos hc, if_pos hc]
    have h1 : nxU gs (fiU gs) < gs.length := of_decide_eq_true (hf.2.2 hc)
    have h2 := (firstN_all (fun b => decide (fiU gs < b) && fr gs (fiU gs) b) gs.length).2.2 h1
    rw [Bool.and_eq_true] at h2
    exact .inr ⟨fiU gs, nxU gs (fiU gs), rfl, rfl, of_decide_eq_true h2.1, h1, h2.2, hu, nxU_no gs _⟩
  · rw [if_neg hc, if_neg hc]
    have e : fiU gs = gs.length := by have := hf.1; unfold fiU at *; omega
    rw [e] at hu
    exact .inl ⟨rfl, rfl, hu⟩
theorem useP_val {gs : List Gt} {p q : Int} (h : UseP gs p q) : p = useA gs ∧ q = useB gs := useP_uniq h (useP_is gs)

/-- no gate behind a, less than m, is the same, and each is apart: how impl.useless looks -/
def Look (gs : List Gt) (a m : Nat) : Prop := ∀ j, a < j → j < m → sameG (gs.getD j g0) (gs.getD a g0) = false ∧ apB (gs.getD j g0) (gs.getD a g0) = true
theorem Look.zero (gs : List Gt) (a : Nat) : Look gs a (a + 1) := fun b h h' => by omega
theorem Look.succ {gs : List Gt} {a m : Nat} (h : Look gs a m) (h1 : sameG (gs.getD m g0) (gs.getD a g0) = false) (h2 : apB (gs.getD m g0) (gs.getD a g0) = true) : Look gs a (m + 1) := fun b hb hb' => by
  rcases Nat.lt_or_ge b m with hc | hc
  · exact h b hb hc
  · obtain rfl : b = m := by omega
    exact ⟨h1, h2⟩
theorem frN_same {gs : List Gt} {a b m : Nat} (h : frN gs a b m = true) : gs.getD a g0 = gs.getD b g0 := by
  unfold frN at h
  rw [Bool.and_eq_true] at h
  exact sameG_eq h.1
theorem Look.noF {gs : List Gt} {a m : Nat} (h : Look gs a m) : NoF gs a m := fun b hb hb' => by
  cases hf : fr gs a b with
  | false => rfl
  | true =>
    have := (h b hb hb').1
    rw [← frN_same hf, sameG_self] at this
    cases this
theorem Look.hit {gs : List Gt} {a m : Nat} (h : Look gs a m) (ha : a < m) (hs : sameG (gs.getD m g0) (gs.getD a g0) = true) : fr gs a m = true := by
  have e := sameG_eq hs
  have hN : ∀ t, a + 1 + t ≤ m → frN gs a m t = true := by
    intro t
    induction t with
    | zero => intro _; rw [frN_zero, e]; exact sameG_self _
    | succ t ih =>
      intro ht
      rw [frN_succ, ih (by omega), e, (h (a + 1 + t) (by omega) (by omega)).2]
      simp
  exact hN _ (by omega)
theorem Look.stop {gs : List Gt} {a m : Nat} (h : Look gs a m) (ha : a < m) (hm : m < gs.length) (h1 : sameG (gs.getD m g0) (gs.getD a g0) = false) (h2 : apB (gs.getD m g0) (gs.getD a g0) = false) : NoF gs a gs.length := fun b hb hb' => by
  rcases Nat.lt_or_ge b m with hc | hc
  · exact h.noF b hb hc
  · cases hf : fr gs a b with
    | false => rfl
    | true =>
      have e := frN_same hf
      rcases Nat.lt_or_ge m b with hd | hd
      · have hx : frN gs a b (m - (a + 1) + 1) = false := by
          rw [frN_succ, show a + 1 + (m - (a + 1)) = m by omega, ← e, h1, h2]
          simp
        have := frN_le (m' := b - (a + 1)) (by omega) hx
        unfold fr at hf
        rw [hf] at this
        cases this
      · obtain rfl : b = m := by omega
        rw [e, sameG_self] at h1
        cases h1
end Go.Proofs.Ytpahhgehamgkaaa
