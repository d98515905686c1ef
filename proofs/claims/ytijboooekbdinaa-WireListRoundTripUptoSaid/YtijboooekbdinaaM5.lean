/-
  The plain law: what is encoded is decoded, whatever follows.
-/
import Derived.Test.YtijboooekbdinaaM4
namespace Go.Proofs.Ytijboooekbdinaa
namespace Wire
open Go

theorem lead_enc : ∀ (n z : Nat) (t : List UInt8), (encU z).length ≤ n → lead n (encU z ++ t) = (encU z).length - 1
  | 0, z, t, h => by have := len_encU_pos z; omega
  | n + 1, z, t, h => by
    by_cases hz : z < 128
    · rw [encU_small hz]
      show (if (UInt8.ofNat z).toNat < 128 then 0 else _) = 0
      rw [if_pos]
      simp; omega
    · rw [encU_big hz] at h ⊢
      have hp := len_encU_pos (z / 128)
      have ih := lead_enc n (z / 128) t (by simpa using h)
      show (if (UInt8.ofNat (z % 128 + 128)).toNat < 128 then 0 else lead n (encU (z / 128) ++ t) + 1) = _
      rw [if_neg (by simp; omega), ih, List.length_cons]
      omega
theorem enc_ind {p : Nat → Prop} (h1 : ∀ z, z < 128 → p z) (h2 : ∀ z, ¬ z < 128 → p (z / 128) → p z) (z : Nat) : p z := by
  induction z using Nat.strongRecOn with
  | _ z ih =>
    by_cases h : z < 128
    · exact h1 z h
    · exact h2 z h (ih (z / 128) (by omega))
theorem valU_enc (z : Nat) : valU (encU z) = z := by
  refine enc_ind (p := fun z => valU (encU z) = z) (fun z h => ?_) (fun z h ih => ?_) z
  · rw [encU_small h]; simp [valU]; omega
  · rw [encU_big h]; simp only [valU, ih]; simp; omega
theorem last_enc (z : Nat) : ((encU z).getD ((encU z).length - 1) 0).toNat = z / 128 ^ ((encU z).length - 1) ∧ z / 128 ^ ((encU z).length - 1) < 128 ∧ (1 < (encU z).length → 0 < z / 128 ^ ((encU z).length - 1)) := by
  refine enc_ind (p := fun z => ((encU z).getD ((encU z).length - 1) 0).toNat = z / 128 ^ ((encU z).length - 1) ∧ z / 128 ^ ((encU z).length - 1) < 128 ∧ (1 < (encU z).length → 0 < z / 128 ^ ((encU z).length - 1))) (fun z h => ?_) (fun z h ih => ?_) z
  · rw [encU_small h]; simp; omega
  · obtain ⟨i1, i2, i3⟩ := ih
    have hp := len_encU_pos (z / 128)
    obtain ⟨k, hk⟩ : ∃ k, (encU (z / 128)).length = k + 1 := ⟨(encU (z / 128)).length - 1, by omega⟩
    rw [encU_big h, List.length_cons, hk]
    rw [hk] at i1 i2 i3
    simp only [Nat.add_sub_cancel, List.getD_cons_succ] at i1 i2 i3 ⊢
    have e : z / 128 ^ (k + 1) = z / 128 / 128 ^ k := by rw [Nat.pow_succ, Nat.mul_comm, Nat.div_div_eq_div_mul]
    rw [e]
    refine ⟨i1, i2, fun _ => ?_⟩
    rcases Nat.eq_zero_or_pos k with h0 | h0
    · subst h0; simp; omega
    · exact i3 (by omega)
theorem unzig_zig (n : Int) : unzig (zig n) = n := by
  unfold unzig zig
  split <;> split <;> omega
/-- An integer is decoded from its encoding, whatever follows. -/
theorem dI_enc {n : Int} (h1 : -9223372036854775808 ≤ n) (h2 : n ≤ 9223372036854775807) (t : List UInt8) : dI (encI n ++ t) = (n, (encI n).length, 0) := by
  have hz := zig_lt h1 h2
  have hl := len_encU10 hz
  have hp := len_encU_pos (zig n)
  obtain ⟨l1, l2, l3⟩ := last_enc (zig n)
  have hk := lead_enc 10 (zig n) t hl
  unfold encI
  generalize hzz : zig n = z at *
  have hg : ((encU z ++ t).getD ((encU z).length - 1) 0) = (encU z).getD ((encU z).length - 1) 0 := by
    rw [List.getD_eq_getElem?_getD, List.getD_eq_getElem?_getD, List.getElem?_append_left (by omega)]
  have hd := dI_ok (b := encU z ++ t) (i := (encU z).length - 1) (by omega) (by omega) (by rw [List.length_append]; omega)
  rw [hg, l1] at hd
  have ht : (encU z ++ t).take ((encU z).length - 1 + 1) = encU z := by rw [show (encU z).length - 1 + 1 = (encU z).length by omega, List.take_left']; rfl
  have hu : unzig z = n := by rw [← hzz, unzig_zig]
  rw [ht, valU_enc, hu] at hd
  rw [hd ?_ l2]
  · congr 2; omega
  · rintro (⟨e, h⟩ | ⟨e, h⟩)
    · rw [e] at h
      omega
    · have := l3 (by omega); omega
end Wire
end Go.Proofs.Ytijboooekbdinaa
