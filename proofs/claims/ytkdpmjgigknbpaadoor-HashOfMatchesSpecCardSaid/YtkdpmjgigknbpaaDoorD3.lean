/-
  The hash, block by block.
-/
import Derived.Test.YtkdpmjgigknbpaaDoorD1
namespace Go.Proofs.YtkdpmjgigknbpaaDoor
namespace Sha
def blk (m : List UInt8) (j : Nat) : List UInt8 := (m.drop (64 * j)).take 64
noncomputable def stTo (m : List UInt8) : Nat → R8
  | 0 => r0
  | j + 1 => comp (stTo m j) (blk m j)
theorem blk_length {m : List UInt8} {j : Nat} (h : 64 * (j + 1) ≤ m.length) : (blk m j).length = 64 := by
  rw [blk, List.length_take, List.length_drop]; omega
theorem take_blk (m : List UInt8) (j : Nat) : m.take (64 * (j + 1)) = m.take (64 * j) ++ blk m j := by
  rw [blk, show 64 * (j + 1) = 64 * j + 64 by omega, List.take_add]
theorem feed_blocks (m : List UInt8) : ∀ j, 64 * j ≤ m.length → (feed s0 (m.take (64 * j))).st = stTo m j
  | 0, _ => rfl
  | j + 1, h => by
    have ih := feed_blocks m j (by omega)
    have hb : (feed s0 (m.take (64 * j))).bl.length = 64 := by rw [feed_bl]; rfl
    have hn : (feed s0 (m.take (64 * j))).n = 64 * j := by
      rw [feed_n, List.length_take]
      show 0 + min (64 * j) m.length = 64 * j
      omega
    have hl := blk_length h
    rw [take_blk, feed_append, feed_piece (blk m j) _ hb (by rw [hn, hl]; omega) (fun e => by rw [e] at hl; cases hl)]
    show (if _ then _ else _) = stTo m (j + 1)
    rw [hn, hl, if_pos (by omega), ih, stTo, Nat.mul_mod_right]
    congr 1
    rw [putB, List.take_zero, List.nil_append, List.drop_of_length_le (by rw [hb, hl]; omega), List.append_nil]
theorem pad_length (n : Nat) : (pad n).length = zeros n + 9 := by simp [pad, be8]
theorem padded_length (b : List UInt8) : ∃ K, (b ++ pad b.length).length = 64 * K := by
  refine ⟨(b ++ pad b.length).length / 64, ?_⟩
  rw [List.length_append, pad_length]
  unfold zeros
  omega
theorem sha_blocks (b : List UInt8) {K : Nat} (h : (b ++ pad b.length).length = 64 * K) : sha b = outB (stTo (b ++ pad b.length) K) := by
  have h1 := feed_blocks (b ++ pad b.length) K (by omega)
  rw [List.take_of_length_le (by omega)] at h1
  rw [← h1, sha, fin, feed_append]
  have : (feed s0 b).n = b.length := by rw [feed_n]; show 0 + b.length = _; omega
  rw [this]
end Sha
end Go.Proofs.YtkdpmjgigknbpaaDoor
