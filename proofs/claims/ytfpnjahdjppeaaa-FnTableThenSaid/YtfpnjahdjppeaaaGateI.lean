/- Contract of impl.GateValid. -/
import Derived.Test.YtfpnjahdjppeaaaGateS
import Derived.Test.YtfpnjahdjppeaaaSome
namespace Go.Proofs.Ytfpnjahdjppeaaa
open Go.RowKit

theorem i64_or_nat (a b : Nat) (ha : a < 9223372036854775808) (hb : b < 9223372036854775808) : bits .or .i64 (a : Int) (b : Int) = ((a ||| b : Nat) : Int) := by
  have hx : a ||| b < 2 ^ 63 := Nat.or_lt_two_pow (by omega) (by omega)
  show IntKind.i64.wrap ((BitVec.ofInt 64 (a : Int) ||| BitVec.ofInt 64 (b : Int)).toNat : Int) = _
  rw [BitVec.toNat_or, ofInt_i64 a ha, ofInt_i64 b hb, IntKind.wrap_i64]
  omega
theorem or_small {a b : Nat} (ha : a < 256) (hb : b < 256) : bits .or .i64 (a : Int) (b : Int) = ((a ||| b : Nat) : Int) := i64_or_nat a b (Nat.lt_trans ha (by decide)) (Nat.lt_trans hb (by decide))
theorem bit_at (s t : Nat) (hs : s < 256) : (bits .and .i64 ((s : Int) / 2 ^ t) 1 == 1) = s.testBit t := by
  have e : ((s : Int) / 2 ^ t) = ((s / 2 ^ t : Nat) : Int) := by rw [Int.natCast_ediv, Int.natCast_pow]; rfl
  have hd : s / 2 ^ t ≤ s := Nat.div_le_self _ _
  rw [e, Nat.testBit_eq_decide_div_mod_eq]
  generalize s / 2 ^ t = q at hd
  rw [and_one (by omega) (by omega)]
  by_cases h : q % 2 = 1
  · rw [decide_eq_true h]; simp; omega
  · rw [decide_eq_false h]; simp; omega
theorem pow_lt8 {t : Nat} (h : t < 8) : 2 ^ t < 256 ∧ wrap64 (2 ^ t) = ((2 ^ t : Nat) : Int) := by
  have : t = 0 ∨ t = 1 ∨ t = 2 ∨ t = 3 ∨ t = 4 ∨ t = 5 ∨ t = 6 ∨ t = 7 := by omega
  rcases this with rfl | rfl | rfl | rfl | rfl | rfl | rfl | rfl <;> exact ⟨by decide, by exact IntWalk.wrap64_in _ (by decide)⟩

/-- s has just the bits of the lines in zs -/
def Bits (s : Nat) (zs : List Int) : Prop := s < 256 ∧ ∀ i : Nat, i < 8 → s.testBit i = hasB zs i
theorem Bits.none_ : Bits 0 [] := ⟨by omega, fun i _ => by simp [hasB]⟩
theorem Bits.add {s t : Nat} {zs : List Int} {k : Nat} (h : Bits s (zs.take k)) (hk : k < zs.length) (ht : t < 8) (e : zs.getD k 0 = (t : Int)) : Bits (s ||| 2 ^ t) (zs.take (k + 1)) := by
  have hp := (pow_lt8 ht).1
  refine ⟨Nat.or_lt_two_pow (n := 8) h.1 hp, fun i hi => ?_⟩
  rw [Nat.testBit_or, h.2 i hi, hasB_snoc zs k hk, e, Nat.testBit_two_pow]
  congr 1
  by_cases hti : t = i
  · subst hti; simp
  · simp only [hti, decide_false]; symm; simp; omega

def allZ (zs : List Int) : Bool := zs.all (· == 0)
theorem allZ_snoc (zs : List Int) (k : Nat) (hk : k < zs.length) : allZ (zs.take (k + 1)) = (allZ (zs.take k) && (zs.getD k 0 == 0)) := by
  unfold allZ
  rw [List.take_succ_eq_append_getElem hk, List.all_append]
  simp [List.getD, List.getElem?_eq_getElem hk]
theorem allZ_not {zs : List Int} {k : Nat} (h : allZ (zs.take k) = false) : allZ zs = false := by
  rw [← Bool.not_eq_true] at *
  intro h'
  apply h
  unfold allZ at *
  rw [List.all_eq_true] at *
  exact fun x hx => h' x (List.mem_of_mem_take hx)
theorem allZ_rest (g : Gt) : allZ (restOf g) = restZ g := by
  unfold restOf restZ allZ
  split
  · simp
  · split <;> simp
theorem restOf_len (g : Gt) : (restOf g).length ≤ 2 := by
  unfold restOf
  split
  · simp
  · split <;> simp

end Go.Proofs.Ytfpnjahdjppeaaa
