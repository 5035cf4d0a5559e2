/-
  The field of 256 elements: multiplication as the document defines it, on numbers.
-/
import Derived.WalkKit
import Derived.Laws.BitsAllLaws
import Derived.Laws.BitsLemmas
namespace Go.Proofs.Ytpfhejodjpgliaa
open Go.RowKit

/-- The product of two polynomials over two elements, the second one's first k coefficients. -/
def mulA (a b : Nat) : Nat → Nat
  | 0 => 0
  | k + 1 => if b.testBit k then mulA a b k ^^^ (a * 2 ^ k) else mulA a b k

/-- The rest by the modulus: the coefficients from 14 down, j of them. -/
def redA (m : Nat) : Nat → Nat
  | 0 => m
  | j + 1 => if (redA m j).testBit (14 - j) then redA m j ^^^ (285 * 2 ^ (6 - j)) else redA m j

/-- The product. -/
def gmul (a b : Nat) : Nat := redA (mulA a b 8) 7 % 256

theorem mulA_lt {a b : Nat} (ha : a < 256) : ∀ k, mulA a b k < 2 ^ (8 + k)
  | 0 => by simp [mulA]
  | k + 1 => by
    have h := mulA_lt (b := b) ha k
    have h1 : (2 : Nat) ^ (8 + k) < 2 ^ (8 + (k + 1)) := Nat.pow_lt_pow_right (by omega) (by omega)
    have h2 : a * 2 ^ k < 2 ^ (8 + (k + 1)) := by
      have : a * 2 ^ k < 256 * 2 ^ k := Nat.mul_lt_mul_of_pos_right ha (Nat.two_pow_pos k)
      have h3 : (2 : Nat) ^ (8 + k) = 256 * 2 ^ k := by rw [Nat.pow_add]
      omega
    simp only [mulA]
    split
    · exact Nat.xor_lt_two_pow (by omega) h2
    · omega

theorem redA_lt {m : Nat} (hm : m < 65536) : ∀ j, j ≤ 7 → redA m j < 65536
  | 0, _ => hm
  | j + 1, h => by
    have h1 := redA_lt hm j (by omega)
    simp only [redA]
    split
    · refine Nat.xor_lt_two_pow (n := 16) (by omega) ?_
      have : (2 : Nat) ^ (6 - j) ≤ 2 ^ 6 := Nat.pow_le_pow_right (by omega) (by omega)
      omega
    · exact h1

theorem gmul_lt (a b : Nat) : gmul a b < 256 := Nat.mod_lt _ (by omega)

theorem ofInt_i64 (a : Nat) (ha : a < 9223372036854775808) : (BitVec.ofInt 64 (a : Int)).toNat = a := by
  rw [BitVec.ofInt_natCast, BitVec.toNat_ofNat]; exact Nat.mod_eq_of_lt (by omega)
theorem i64_and_nat (a b : Nat) (ha : a < 9223372036854775808) (hb : b < 9223372036854775808) : bits .and .i64 (a : Int) (b : Int) = ((a &&& b : Nat) : Int) := by
  have hx : a &&& b < 2 ^ 63 := Nat.and_lt_two_pow _ (by omega)
  show IntKind.i64.wrap ((BitVec.ofInt 64 (a : Int) &&& BitVec.ofInt 64 (b : Int)).toNat : Int) = _
  rw [BitVec.toNat_and, ofInt_i64 a ha, ofInt_i64 b hb, IntKind.wrap_i64]
  omega
theorem i64_xor_nat (a b : Nat) (ha : a < 9223372036854775808) (hb : b < 9223372036854775808) : bits .xor .i64 (a : Int) (b : Int) = ((a ^^^ b : Nat) : Int) := by
  have hx : a ^^^ b < 2 ^ 63 := Nat.xor_lt_two_pow (by omega) (by omega)
  show IntKind.i64.wrap ((BitVec.ofInt 64 (a : Int) ^^^ BitVec.ofInt 64 (b : Int)).toNat : Int) = _
  rw [BitVec.toNat_xor, ofInt_i64 a ha, ofInt_i64 b hb, IntKind.wrap_i64]
  omega

theorem u8_and_one : ∀ n : Fin 256, (bits .and .u8 (n.val : Int) 1 == 1) = decide (n.val % 2 = 1) := by decide +kernel
/-- The test on a byte's bit. -/
theorem u8_bit (b k : Nat) (hb : b < 256) : (bits .and .u8 ((b : Int) / 2 ^ k) 1 == 1) = b.testBit k := by
  have h : ((b : Int) / 2 ^ k) = ((b / 2 ^ k : Nat) : Int) := by simp
  have h2 : b / 2 ^ k < 256 := Nat.lt_of_le_of_lt (Nat.div_le_self _ _) hb
  rw [h, u8_and_one ⟨b / 2 ^ k, h2⟩, Nat.testBit_eq_decide_div_mod_eq]
theorem i64_bit (m k : Nat) (hm : m < 65536) : (bits .and .i64 ((m : Int) / 2 ^ k) 1 == 1) = m.testBit k := by
  have h : ((m : Int) / 2 ^ k) = ((m / 2 ^ k : Nat) : Int) := by simp
  have h2 : m / 2 ^ k < 65536 := Nat.lt_of_le_of_lt (Nat.div_le_self _ _) hm
  have h3 := i64_and_nat (m / 2 ^ k) 1 (by omega) (by omega)
  rw [h]
  rw [show ((1 : Nat) : Int) = 1 from rfl] at h3
  rw [h3, Nat.and_one_is_mod, Nat.testBit_eq_decide_div_mod_eq]
  by_cases hh : m / 2 ^ k % 2 = 1
  · simp [hh]
  · have : m / 2 ^ k % 2 = 0 := by omega
    simp [this]
end Go.Proofs.Ytpfhejodjpgliaa
