/- Contracts of l1Bit and both BitOf; the bit of a word. -/
import Derived.Test.YtffkoeobehocjaaDoorWords
import Derived.Laws.BitsAllLaws
import Derived.Laws.BitsLemmas
namespace Go.Proofs.YtffkoeobehocjaaDoor
open Go.RowKit

/-- the bit of a line -/
def bt (v l : Int) : Int := v / 2 ^ l.toNat % 2
theorem bt_bd (v l : Int) : 0 ≤ bt v l ∧ bt v l ≤ 1 := by
  unfold bt
  omega
theorem shr_bd {v l : Int} (h : 0 ≤ v) (h8 : v ≤ 9223372036854775807) : 0 ≤ v / 2 ^ l.toNat ∧ v / 2 ^ l.toNat ≤ 9223372036854775807 := by
  have hp : (0 : Int) < 2 ^ l.toNat := Int.pow_pos (by decide)
  exact ⟨Int.ediv_nonneg h (by omega), by have := Int.ediv_le_self (2 ^ l.toNat) h; omega⟩
theorem and_one {x : Int} (h0 : 0 ≤ x) (h1 : x ≤ 9223372036854775807) : bits .and .i64 x 1 = x % 2 := by
  obtain ⟨n, rfl⟩ := Int.eq_ofNat_of_zero_le h0
  show IntKind.i64.wrap ((BitVec.ofInt 64 (n : Int) &&& BitVec.ofInt 64 1).toNat : Int) = _
  have h2 : (BitVec.ofInt 64 (n : Int)).toNat = n := by
    rw [BitVec.ofInt_natCast, BitVec.toNat_ofNat]; exact Nat.mod_eq_of_lt (by omega)
  rw [BitVec.toNat_and, h2, show (BitVec.ofInt 64 1).toNat = 1 from rfl, Nat.and_one_is_mod, IntKind.wrap_i64]
  omega

theorem ofInt_i64 (a : Nat) (ha : a < 9223372036854775808) : (BitVec.ofInt 64 (a : Int)).toNat = a := by
  rw [BitVec.ofInt_natCast, BitVec.toNat_ofNat]; exact Nat.mod_eq_of_lt (by omega)
theorem i64_xor_nat (a b : Nat) (ha : a < 9223372036854775808) (hb : b < 9223372036854775808) : bits .xor .i64 (a : Int) (b : Int) = ((a ^^^ b : Nat) : Int) := by
  have hx : a ^^^ b < 2 ^ 63 := Nat.xor_lt_two_pow (by omega) (by omega)
  show IntKind.i64.wrap ((BitVec.ofInt 64 (a : Int) ^^^ BitVec.ofInt 64 (b : Int)).toNat : Int) = _
  rw [BitVec.toNat_xor, ofInt_i64 a ha, ofInt_i64 b hb, IntKind.wrap_i64]
  omega

theorem xor_bd {x y : Int} (hx : 0 ≤ x) (hx' : x ≤ 9223372036854775807) (hy : 0 ≤ y) (hy' : y ≤ 9223372036854775807) : 0 ≤ bits .xor .i64 x y ∧ bits .xor .i64 x y ≤ 9223372036854775807 := by
  obtain ⟨m, rfl⟩ := Int.eq_ofNat_of_zero_le hx
  obtain ⟨n, rfl⟩ := Int.eq_ofNat_of_zero_le hy
  rw [i64_xor_nat m n (by omega) (by omega)]
  have : m ^^^ n < 2 ^ 63 := Nat.xor_lt_two_pow (by omega) (by omega)
  omega

theorem l1Bit_any (v l : Int) (w : World) (h0 : 0 ≤ v) (h1 : v ≤ 9223372036854775807) (l0 : 0 ≤ l) (l1 : l ≤ 63) :
    Calls Tryd.prog 104 #[.int .i64 v, .int .i64 l] w fun e w' => e = .returned (.int .i64 (bt v l)) ∧ w = w' := by
  have hs := shr_bd (l := l) h0 h1
  unfold bt
  go_enter Tryd.func104, Tryd.ntmps104
  go_wp2
  go_ret
  exact ⟨rfl, rfl⟩

/-- what BitOf answers -/
def bitOf (lines word line : Int) : Int := if wordB lines word && inB line 0 (lines - 1) then bt word line else -1
theorem bitOf_y {lines word line : Int} (h : wordB lines word = true) (h' : inB line 0 (lines - 1) = true) : bitOf lines word line = bt word line := by unfold bitOf; rw [h, h']; rfl
theorem bitOf_n {lines word line : Int} (h : wordB lines word = true → inB line 0 (lines - 1) = false) : bitOf lines word line = -1 := by
  unfold bitOf
  rw [if_neg]
  intro h'
  rw [Bool.and_eq_true] at h'
  rw [h h'.1] at h'
  cases h'.2

end Go.Proofs.YtffkoeobehocjaaDoor
