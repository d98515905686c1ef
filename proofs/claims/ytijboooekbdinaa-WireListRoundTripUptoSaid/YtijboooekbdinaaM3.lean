/-
  The plain law of decoding lengths, texts and lists.
-/
import Derived.Test.YtijboooekbdinaaM2
namespace Go.Proofs.Ytijboooekbdinaa
namespace Wire
open Go

theorem unzig_bd {z : Nat} (h : z < 2 ^ 64) : -9223372036854775808 ≤ unzig z ∧ unzig z ≤ 9223372036854775807 := by unfold unzig; split <;> omega
theorem dI_facts (b : List UInt8) : -9223372036854775808 ≤ (dI b).1 ∧ (dI b).1 ≤ 9223372036854775807 ∧ (dI b).2.1 ≤ b.length ∧ (dI b).2.1 ≤ 10 ∧ ((dI b).2.2 = 0 → 0 < (dI b).2.1) ∧ (dI b).2.2 ≤ 11 := by
  have hle := lead_le 10 b
  unfold dI
  split
  · simp
  · split
    · simp
    · split
      · simp
      · rename_i h1 h2 h3
        have hz : valU (b.take (lead 10 b + 1)) < 2 ^ 64 := by
          rw [valU_take b (by omega)]
          exact valU_fit (by omega) (fun h => by omega)
        have hu := unzig_bd hz
        simp only
        omega
/-- A length: of a list of elements with at least m bytes. -/
def dLen (m : Nat) (b : List UInt8) : Int × Nat × Nat :=
  if (dI b).2.2 ≠ 0 then (0, 0, (dI b).2.2) else if (dI b).1 < 0 then (0, 0, 11) else if ((b.length - (dI b).2.1) / m : Nat) < (dI b).1 then (0, 0, 10) else ((dI b).1, (dI b).2.1, 0)
theorem dLen_facts (m : Nat) (b : List UInt8) : 0 ≤ (dLen m b).1 ∧ (dLen m b).1 ≤ ((b.length - (dLen m b).2.1) / m : Nat) ∧ (dLen m b).2.1 ≤ b.length ∧ (dLen m b).2.1 ≤ 10 ∧ (dLen m b).2.2 ≤ 11 := by
  have h := dI_facts b
  have h0 := Int.natCast_nonneg ((b.length - 0) / m)
  unfold dLen
  split
  · simp only; omega
  · split
    · simp only; omega
    · split
      · simp only; omega
      · simp only; omega
/-- A text. -/
def dB (b : List UInt8) : List UInt8 × Nat × Nat :=
  if (dLen 1 b).2.2 ≠ 0 then ([], 0, (dLen 1 b).2.2) else ((b.drop (dLen 1 b).2.1).take (dLen 1 b).1.toNat, (dLen 1 b).2.1 + (dLen 1 b).1.toNat, 0)
variable {α : Type}
def dLoop (f : List UInt8 → α × Nat × Nat) : Nat → List UInt8 → List α × Nat × Nat
  | 0, _ => ([], 0, 0)
  | n + 1, b => if (f b).2.2 ≠ 0 then ([], 0, (f b).2.2) else
      if (dLoop f n (b.drop (f b).2.1)).2.2 ≠ 0 then ([], 0, (dLoop f n (b.drop (f b).2.1)).2.2)
      else ((f b).1 :: (dLoop f n (b.drop (f b).2.1)).1, (f b).2.1 + (dLoop f n (b.drop (f b).2.1)).2.1, 0)
/-- What has been read, and what is still to be read. -/
def fin (acc : List α) (pos : Nat) (r : List α × Nat × Nat) : List α × Nat × Nat := if r.2.2 ≠ 0 then ([], 0, r.2.2) else (acc ++ r.1, pos + r.2.1, 0)
def dList (m : Nat) (f : List UInt8 → α × Nat × Nat) (b : List UInt8) : List α × Nat × Nat :=
  if (dLen m b).2.2 ≠ 0 then ([], 0, (dLen m b).2.2) else fin [] (dLen m b).2.1 (dLoop f (dLen m b).1.toNat (b.drop (dLen m b).2.1))
theorem fin_bad {f : List UInt8 → α × Nat × Nat} {acc : List α} {pos k : Nat} {b : List UInt8} (h : (f b).2.2 ≠ 0) : fin acc pos (dLoop f (k + 1) b) = ([], 0, (f b).2.2) := by
  simp only [dLoop, if_pos h, fin]
theorem fin_step {f : List UInt8 → α × Nat × Nat} {acc : List α} {pos k : Nat} {b : List UInt8} (h : (f b).2.2 = 0) :
    fin acc pos (dLoop f (k + 1) b) = fin (acc ++ [(f b).1]) (pos + (f b).2.1) (dLoop f k (b.drop (f b).2.1)) := by
  simp only [dLoop, if_neg (show ¬ (f b).2.2 ≠ 0 by simp [h])]
  by_cases h2 : (dLoop f k (b.drop (f b).2.1)).2.2 ≠ 0
  · simp only [if_pos h2, fin]
  · simp only [if_neg h2, fin, ne_eq, not_true_eq_false, if_false, List.append_assoc, List.singleton_append, Nat.add_assoc]
theorem fin_done {f : List UInt8 → α × Nat × Nat} {acc : List α} {pos : Nat} {b : List UInt8} : fin acc pos (dLoop f 0 b) = (acc, pos, 0) := by simp [dLoop, fin]
end Wire
end Go.Proofs.Ytijboooekbdinaa
