/-
  The plain law of the integers' encoding: numbers and lists of bytes alone.
-/
import Derived.Test.YtkdpmjgigknbpaaDoorG
namespace Go.Proofs.YtkdpmjgigknbpaaDoor
namespace Wire

/-- Seven bits a byte, the lowest first. -/
def encU (z : Nat) : List UInt8 := if z < 128 then [UInt8.ofNat z] else UInt8.ofNat (z % 128 + 128) :: encU (z / 128)
decreasing_by omega
def zig (n : Int) : Nat := if 0 ≤ n then (2 * n).toNat else (-2 * n - 1).toNat
def encI (n : Int) : List UInt8 := encU (zig n)

theorem encU_small {z : Nat} (h : z < 128) : encU z = [UInt8.ofNat z] := by rw [encU, if_pos h]
theorem encU_big {z : Nat} (h : ¬ z < 128) : encU z = UInt8.ofNat (z % 128 + 128) :: encU (z / 128) := by rw [encU, if_neg h]
theorem zig_lt {n : Int} (h1 : -9223372036854775808 ≤ n) (h2 : n ≤ 9223372036854775807) : zig n < 18446744073709551616 := by unfold zig; split <;> omega

theorem len_encU : ∀ (k : Nat) (z : Nat), z < 128 ^ k → 0 < k → (encU z).length ≤ k := by
  intro k
  induction k with
  | zero => intro z _ h; omega
  | succ k ih =>
    intro z hz _
    by_cases h : z < 128
    · rw [encU_small h]; simp
    · rw [encU_big h]
      have hk : 0 < k := by
        rcases Nat.eq_zero_or_pos k with h0 | h0
        · subst h0; simp at hz; omega
        · exact h0
      have := ih (z / 128) (by rw [Nat.pow_succ] at hz; omega) hk
      simp only [List.length_cons]; omega
theorem len_encU10 {z : Nat} (h : z < 18446744073709551616) : (encU z).length ≤ 10 := len_encU 10 z (by omega) (by omega)
theorem len_encU_pos (z : Nat) : 0 < (encU z).length := by
  by_cases h : z < 128
  · rw [encU_small h]; simp
  · rw [encU_big h]; simp

/-! ### Go's numbers -/
open Go
open Abs (bytesC)

theorem u64_wrap {x : Int} (h0 : 0 ≤ x) (h1 : x < 18446744073709551616) : IntKind.u64.wrap x = x := by rw [IntKind.wrap_u64]; omega
theorem i64_wrap {x : Int} (h0 : -9223372036854775808 ≤ x) (h1 : x ≤ 9223372036854775807) : IntKind.i64.wrap x = x := by rw [IntKind.wrap_i64]; omega

theorem bits_u64_nat (a b : Nat) (ha : a < 2 ^ 64) (hb : b < 2 ^ 64) : bits .xor .u64 a b = ((a ^^^ b : Nat) : Int) ∧ bits .and .u64 a b = ((a &&& b : Nat) : Int) ∧ bits .or .u64 a b = ((a ||| b : Nat) : Int) := by
  have ha' : a % 2 ^ 64 = a := Nat.mod_eq_of_lt ha
  have hb' : b % 2 ^ 64 = b := Nat.mod_eq_of_lt hb
  have hx : a ^^^ b < 2 ^ 64 := Nat.xor_lt_two_pow ha hb
  have hn : a &&& b < 2 ^ 64 := Nat.and_lt_two_pow _ hb
  have ho : a ||| b < 2 ^ 64 := Nat.or_lt_two_pow ha hb
  refine ⟨?_, ?_, ?_⟩
  · show IntKind.u64.wrap ((BitVec.ofInt 64 a ^^^ BitVec.ofInt 64 b).toNat : Nat) = _
    rw [BitVec.ofInt_natCast, BitVec.ofInt_natCast, BitVec.toNat_xor, BitVec.toNat_ofNat, BitVec.toNat_ofNat, ha', hb', IntKind.wrap_u64]; omega
  · show IntKind.u64.wrap ((BitVec.ofInt 64 a &&& BitVec.ofInt 64 b).toNat : Nat) = _
    rw [BitVec.ofInt_natCast, BitVec.ofInt_natCast, BitVec.toNat_and, BitVec.toNat_ofNat, BitVec.toNat_ofNat, ha', hb', IntKind.wrap_u64]; omega
  · show IntKind.u64.wrap ((BitVec.ofInt 64 a ||| BitVec.ofInt 64 b).toNat : Nat) = _
    rw [BitVec.ofInt_natCast, BitVec.ofInt_natCast, BitVec.toNat_or, BitVec.toNat_ofNat, BitVec.toNat_ofNat, ha', hb', IntKind.wrap_u64]; omega
theorem bits_u8_nat (a b : Nat) (ha : a < 2 ^ 8) (hb : b < 2 ^ 8) : bits .xor .u8 a b = ((a ^^^ b : Nat) : Int) ∧ bits .and .u8 a b = ((a &&& b : Nat) : Int) ∧ bits .or .u8 a b = ((a ||| b : Nat) : Int) := by
  have ha' : a % 2 ^ 8 = a := Nat.mod_eq_of_lt ha
  have hb' : b % 2 ^ 8 = b := Nat.mod_eq_of_lt hb
  have hx : a ^^^ b < 2 ^ 8 := Nat.xor_lt_two_pow ha hb
  have hn : a &&& b < 2 ^ 8 := Nat.and_lt_two_pow _ hb
  have ho : a ||| b < 2 ^ 8 := Nat.or_lt_two_pow ha hb
  refine ⟨?_, ?_, ?_⟩
  · show IntKind.u8.wrap ((BitVec.ofInt 8 a ^^^ BitVec.ofInt 8 b).toNat : Nat) = _
    rw [BitVec.ofInt_natCast, BitVec.ofInt_natCast, BitVec.toNat_xor, BitVec.toNat_ofNat, BitVec.toNat_ofNat, ha', hb', IntKind.wrap_u8]; omega
  · show IntKind.u8.wrap ((BitVec.ofInt 8 a &&& BitVec.ofInt 8 b).toNat : Nat) = _
    rw [BitVec.ofInt_natCast, BitVec.ofInt_natCast, BitVec.toNat_and, BitVec.toNat_ofNat, BitVec.toNat_ofNat, ha', hb', IntKind.wrap_u8]; omega
  · show IntKind.u8.wrap ((BitVec.ofInt 8 a ||| BitVec.ofInt 8 b).toNat : Nat) = _
    rw [BitVec.ofInt_natCast, BitVec.ofInt_natCast, BitVec.toNat_or, BitVec.toNat_ofNat, BitVec.toNat_ofNat, ha', hb', IntKind.wrap_u8]; omega

theorem xor_ones {a : Nat} (h : a < 2 ^ 64) : a ^^^ (2 ^ 64 - 1) = 2 ^ 64 - 1 - a := by
  have e := congrArg BitVec.toNat (BitVec.xor_allOnes (x := BitVec.ofNat 64 a))
  rw [BitVec.toNat_xor, BitVec.toNat_not, BitVec.toNat_ofNat, Nat.mod_eq_of_lt h, BitVec.toNat_allOnes] at e
  exact e

theorem or128 : ∀ y : Nat, y < 256 → y ||| 128 = y % 128 + 128 := by decide +kernel
/-- 'byte(z)|128' -/
theorem or_go (z : Nat) : bits .or .u8 (IntKind.u8.wrap (z : Int)) 128 = ((UInt8.ofNat (z % 128 + 128)).toNat : Int) := by
  have e : (IntKind.u8.wrap (z : Int)) = ((z % 256 : Nat) : Int) := by rw [IntKind.wrap_u8]; omega
  rw [e, show (128 : Int) = ((128 : Nat) : Int) from rfl, (bits_u8_nat (z % 256) 128 (by omega) (by decide)).2.2, or128 _ (by omega)]
  simp
  omega
theorem byte_go (z : Nat) : IntKind.u8.wrap (z : Int) = ((UInt8.ofNat z).toNat : Int) := by rw [IntKind.wrap_u8]; simp
theorem byteC (b : UInt8) : [Abs.CV.v (.int .u8 (b.toNat : Int))] = bytesC [b] := rfl
/-- 'z>>7' -/
theorem shr7_go (z : Nat) : (z : Int).fdiv (2 ^ (min 7 IntKind.u64.bits)) = ((z / 128 : Nat) : Int) := by
  have e2 : min 7 IntKind.u64.bits = 7 := rfl
  rw [e2, Int.fdiv_eq_ediv_of_nonneg _ (by decide)]
  omega

/-- 'uint64(n)<<1 ^ uint64(n>>63)' -/
theorem zig_go {n : Int} (h1 : -9223372036854775808 ≤ n) (h2 : n ≤ 9223372036854775807) :
    bits .xor .u64 (IntKind.u64.wrap (IntKind.u64.wrap n * 2 ^ (min 1 IntKind.u64.bits))) (IntKind.u64.wrap (n.fdiv (2 ^ (min 63 IntKind.i64.bits)))) = (zig n : Int) := by
  have e1 : min 1 IntKind.u64.bits = 1 := rfl
  have e2 : min 63 IntKind.i64.bits = 63 := rfl
  rw [e1, e2, Int.fdiv_eq_ediv_of_nonneg _ (by decide)]
  simp only [IntKind.wrap_u64]
  by_cases h : 0 ≤ n
  · have e3 : n / 2 ^ 63 % 18446744073709551616 = ((0 : Nat) : Int) := by omega
    have e4 : n % 18446744073709551616 * 2 ^ 1 % 18446744073709551616 = ((2 * n).toNat : Int) := by omega
    rw [e3, e4, (bits_u64_nat (2 * n).toNat 0 (by omega) (by omega)).1]
    simp [zig, h]
  · have e3 : n / 2 ^ 63 % 18446744073709551616 = ((2 ^ 64 - 1 : Nat) : Int) := by omega
    have e4 : n % 18446744073709551616 * 2 ^ 1 % 18446744073709551616 = ((2 * (n + 9223372036854775808)).toNat : Int) := by omega
    rw [e3, e4, (bits_u64_nat _ (2 ^ 64 - 1) (by omega) (by omega)).1]
    simp only [zig, if_neg h]
    congr 1
    rw [xor_ones (by omega)]
    omega

end Wire
end Go.Proofs.YtkdpmjgigknbpaaDoor
