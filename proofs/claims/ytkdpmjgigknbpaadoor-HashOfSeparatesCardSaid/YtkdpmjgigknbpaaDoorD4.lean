/-
  What a digest is the hash of tells what it was made of.
-/
import Derived.Test.YtkdpmjgigknbpaaDoorS7
namespace Go.Proofs.YtkdpmjgigknbpaaDoor
namespace Abs
open Wire
theorem encU_inj : ∀ (u v : Nat) (r s : List UInt8), encU u ++ r = encU v ++ s → u = v ∧ r = s := by
  intro u
  induction u using Nat.strongRecOn with
  | ind u ih =>
    intro v r s h
    by_cases hu : u < 128
    · by_cases hv : v < 128
      · rw [encU_small hu, encU_small hv] at h
        simp only [List.singleton_append, List.cons.injEq] at h
        have := congrArg UInt8.toNat h.1
        rw [UInt8.toNat_ofNat', UInt8.toNat_ofNat'] at this
        exact ⟨by omega, h.2⟩
      · rw [encU_small hu, encU_big hv] at h
        simp only [List.singleton_append, List.cons_append, List.cons.injEq] at h
        have := congrArg UInt8.toNat h.1
        rw [UInt8.toNat_ofNat', UInt8.toNat_ofNat'] at this
        omega
    · by_cases hv : v < 128
      · rw [encU_big hu, encU_small hv] at h
        simp only [List.singleton_append, List.cons_append, List.cons.injEq] at h
        have := congrArg UInt8.toNat h.1
        rw [UInt8.toNat_ofNat', UInt8.toNat_ofNat'] at this
        omega
      · rw [encU_big hu, encU_big hv] at h
        simp only [List.cons_append, List.cons.injEq] at h
        have := congrArg UInt8.toNat h.1
        rw [UInt8.toNat_ofNat', UInt8.toNat_ofNat'] at this
        obtain ⟨h1, h2⟩ := ih (u / 128) (by omega) (v / 128) r s h.2
        exact ⟨by omega, h2⟩
theorem encB_inj {x y : ByteArray} {r s : List UInt8} (h : encB x ++ r = encB y ++ s) : x = y ∧ r = s := by
  unfold encB encI at h
  rw [List.append_assoc, List.append_assoc] at h
  obtain ⟨h1, h2⟩ := encU_inj _ _ _ _ h
  have hs : x.size = y.size := by
    unfold zig at h1
    rw [if_pos (by omega), if_pos (by omega)] at h1
    omega
  obtain ⟨h3, h4⟩ := List.append_inj h2 (by rw [len_data2, len_data2]; exact hs)
  refine ⟨?_, h4⟩
  apply ByteArray.ext
  exact Array.toList_inj.1 h3
theorem encB_ne (x : ByteArray) (r : List UInt8) : encB x ++ r ≠ [] := by
  unfold encB encI
  intro h
  have := len_encU_pos (zig (x.size : Nat))
  have h2 := congrArg List.length h
  simp only [List.length_append, List.length_nil] at h2
  omega
theorem flat_inj : ∀ a b : List ByteArray, a.flatMap encB = b.flatMap encB → a = b
  | [], [], _ => rfl
  | [], y :: b, h => by
    rw [List.flatMap_cons] at h
    exact absurd h.symm (encB_ne y _)
  | x :: a, [], h => by
    rw [List.flatMap_cons] at h
    exact absurd h (encB_ne x _)
  | x :: a, y :: b, h => by
    rw [List.flatMap_cons, List.flatMap_cons] at h
    obtain ⟨h1, h2⟩ := encB_inj h
    rw [h1, flat_inj a b h2]
theorem tagB_u8 (x : UInt8) : tagB (x.toNat : Int) = x := by
  have := x.toNat_lt
  unfold tagB
  apply UInt8.toNat_inj.1
  rw [UInt8.toNat_ofNat']
  omega
theorem inputOf_inj (x y : UInt8) (a b : List ByteArray) : inputOf (x.toNat : Int) a = inputOf (y.toNat : Int) b ↔ x = y ∧ a = b := by
  unfold inputOf
  rw [tagB_u8, tagB_u8]
  constructor
  · intro h
    simp only [List.cons.injEq] at h
    exact ⟨h.1, flat_inj a b h.2⟩
  · rintro ⟨rfl, rfl⟩; rfl
end Abs
end Go.Proofs.YtkdpmjgigknbpaaDoor
