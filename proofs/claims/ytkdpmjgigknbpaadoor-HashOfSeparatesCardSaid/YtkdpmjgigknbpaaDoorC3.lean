/-
  The check of 40 bits: words.
-/
import Derived.Test.YtkdpmjgigknbpaaDoorC2
namespace Go.Proofs.YtkdpmjgigknbpaaDoor
namespace Crc
/-- Bits s to s+7 of an integer; bits s to s+3. -/
def byteAt (n : Int) (s : Nat) : Nat := (n / 2 ^ s % 256).toNat
def nibAt (n : Int) (s : Nat) : Nat := (n / 2 ^ s % 16).toNat
/-- Five bytes of an integer. -/
def fiveTo (n : Int) (k : Nat) : List UInt8 := (List.range k).map fun i => UInt8.ofNat (byteAt n (32 - 8 * i))
def five (n : Int) : List UInt8 := fiveTo n 5
theorem five_succ (n : Int) (k : Nat) : fiveTo n (k + 1) = fiveTo n k ++ [UInt8.ofNat (byteAt n (32 - 8 * k))] := by
  simp [fiveTo, List.range_succ]
theorem byteAt_lt (n : Int) (s : Nat) : byteAt n s < 256 := by unfold byteAt; omega
theorem nibAt_lt (n : Int) (s : Nat) : nibAt n s < 16 := by unfold nibAt; omega
theorem byte_nibs (n : Int) (s : Nat) : byteAt n s / 16 = nibAt n (s + 4) ∧ byteAt n s % 16 = nibAt n s := by
  unfold byteAt nibAt
  have e : n / 2 ^ (s + 4) = n / 2 ^ s / 16 := by
    rw [Int.pow_add, ← Int.ediv_ediv_of_nonneg (by exact Int.le_of_lt (Int.pow_pos (by decide)))]; rfl
  rw [e]
  generalize n / 2 ^ s = m
  constructor <;> omega
def nibsTo (n : Int) (r : Reg) : Nat → Reg
  | 0 => r
  | j + 1 => nib (nibsTo n r j) (nibAt n (36 - 4 * j))
theorem nibsTo_two (n : Int) (r : Reg) (j : Nat) (hj : j < 5) : nibsTo n r (2 * j + 2) = crcByte (nibsTo n r (2 * j)) (byteAt n (32 - 8 * j)) := by
  have h := byte_nibs n (32 - 8 * j)
  show nib (nib (nibsTo n r (2 * j)) (nibAt n (36 - 4 * (2 * j)))) (nibAt n (36 - 4 * (2 * j + 1))) = _
  rw [← nib_nib _ (byteAt_lt n _), h.1, h.2, show 36 - 4 * (2 * j) = 32 - 8 * j + 4 by omega, show 36 - 4 * (2 * j + 1) = 32 - 8 * j by omega]
theorem nibsTo_ten (n : Int) (r : Reg) : nibsTo n r 10 = crcReg r (five n) := by
  have key : ∀ j, j ≤ 5 → nibsTo n r (2 * j) = crcReg r (fiveTo n j) := by
    intro j
    induction j with
    | zero => intro _; rfl
    | succ j ih =>
      intro hj
      rw [show 2 * (j + 1) = 2 * j + 2 by omega, nibsTo_two n r j (by omega), ih (by omega), five_succ, crcReg_append]
      show _ = crcByte _ (UInt8.ofNat (byteAt n (32 - 8 * j))).toNat
      rw [UInt8.toNat_ofNat', Nat.mod_eq_of_lt (byteAt_lt n _)]
  exact key 5 (Nat.le_refl _)
/-- The bytes of a list of words. -/
def wordBytes (l : List Int) : List UInt8 := l.flatMap five
theorem five_low (n : Int) : five (n % 1099511627776) = five n := by
  unfold five fiveTo
  refine List.map_congr_left fun i hi => ?_
  have hi : i < 5 := by simpa using hi
  congr 1
  unfold byteAt
  have : i = 0 ∨ i = 1 ∨ i = 2 ∨ i = 3 ∨ i = 4 := by omega
  rcases this with rfl | rfl | rfl | rfl | rfl <;> omega
theorem five_length (n : Int) : (five n).length = 5 := by simp [five, fiveTo]
theorem wordBytes_length (l : List Int) : (wordBytes l).length = 5 * l.length := by
  induction l with
  | nil => rfl
  | cons x l ih => simp only [wordBytes, List.flatMap_cons, List.length_append, five_length, List.length_cons] at ih ⊢; omega
end Crc
end Go.Proofs.YtkdpmjgigknbpaaDoor
