/-
  The plain law: how long what is decoded is.
-/
import Derived.Test.YtijboooekbdinaaW11
namespace Go.Proofs.Ytijboooekbdinaa
namespace Wire
open Go
variable {α : Type}
theorem dLoop_len (f : List UInt8 → α × Nat × Nat) : ∀ (n : Nat) (b : List UInt8), (dLoop f n b).1.length ≤ n
  | 0, _ => Nat.le_refl _
  | n + 1, b => by
    have ih := dLoop_len f n (b.drop (f b).2.1)
    simp only [dLoop]
    split
    · simp
    · split
      · simp
      · simp only [List.length_cons]; omega
theorem dList_len {m : Nat} (f : List UInt8 → α × Nat × Nat) (b : List UInt8) : (dList m f b).1.length ≤ b.length := by
  have h := dLen_facts m b
  have h2 := dLoop_len f (dLen m b).1.toNat (b.drop (dLen m b).2.1)
  have h3 : (b.length - (dLen m b).2.1) / m ≤ b.length - (dLen m b).2.1 := Nat.div_le_self _ _
  unfold dList fin
  split
  · simp
  · split
    · simp
    · simp only [List.nil_append]; omega
theorem dLoop_mem (f : List UInt8 → α × Nat × Nat) {n : Nat} {b : List UInt8} {d : α} (h : d ∈ (dLoop f (n + 1) b).1) : d = (f b).1 ∨ d ∈ (dLoop f n (b.drop (f b).2.1)).1 := by
  simp only [dLoop] at h
  split at h
  · simp at h
  · split at h
    · simp at h
    · exact List.mem_cons.1 h
theorem dLoop_16 : ∀ (n : Nat) (b : List UInt8), 16 * n ≤ b.length → ∀ d ∈ (dLoop Abs.dD n b).1, d.length = 16
  | 0, _, _, d, h => by simp [dLoop] at h
  | n + 1, b, hb, d, h => by
    have ih := dLoop_16 n (b.drop 16) (by rw [List.length_drop]; omega)
    rcases dLoop_mem _ h with h | h
    · rw [h]; show (b.take 16).length = 16; rw [List.length_take]; omega
    · exact ih d h
theorem dList_16 (b : List UInt8) : ∀ d ∈ (dList 16 Abs.dD b).1, d.length = 16 := by
  have h := dLen_facts 16 b
  intro d hd
  unfold dList fin at hd
  split at hd
  · simp at hd
  · split at hd
    · simp at hd
    · simp only [List.nil_append] at hd
      refine dLoop_16 _ _ ?_ d hd
      rw [List.length_drop]; omega
end Wire
end Go.Proofs.Ytijboooekbdinaa
