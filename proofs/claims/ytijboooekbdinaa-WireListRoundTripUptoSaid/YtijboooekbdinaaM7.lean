/-
  The plain law: what is decoded is encoded by the bytes that were used.
-/
import Derived.Test.YtijboooekbdinaaM6
namespace Go.Proofs.Ytijboooekbdinaa
namespace Wire
open Go Abs
variable {α : Type}

theorem enc_canon : ∀ (n : Nat) (b : List UInt8), lead n b < n → lead n b < b.length → (0 < lead n b → (b.getD (lead n b) 0).toNat ≠ 0) → encU (valU (b.take (lead n b + 1))) = b.take (lead n b + 1)
  | 0, _, h, _, _ => absurd h (Nat.not_lt_zero _)
  | _ + 1, [], _, h, _ => absurd h (Nat.not_lt_zero _)
  | n + 1, x :: b, h1, h2, h3 => by
    have hx := x.toNat_lt
    by_cases hs : x.toNat < 128
    · have e : lead (n + 1) (x :: b) = 0 := by unfold lead; rw [if_pos hs]
      rw [e]
      show encU (x.toNat % 128 + 128 * 0) = [x]
      rw [encU_small (by omega)]
      congr 1
      rw [show x.toNat % 128 + 128 * 0 = x.toNat by omega]; simp
    · have e : lead (n + 1) (x :: b) = lead n b + 1 := by
        show (if x.toNat < 128 then 0 else lead n b + 1) = _
        rw [if_neg hs]
      rw [e] at h1 h2 h3 ⊢
      simp only [List.getD_cons_succ] at h3
      simp only [List.length_cons] at h2
      have h3' := h3 (by omega)
      have ih := enc_canon n b (by omega) (by omega) (fun _ => h3')
      rw [List.take_succ_cons]
      show encU (x.toNat % 128 + 128 * valU (b.take (lead n b + 1))) = _
      generalize hv : valU (b.take (lead n b + 1)) = v at ih ⊢
      have hv0 : v ≠ 0 := by
        rintro rfl
        rw [encU_small (by omega)] at ih
        have hl := congrArg List.length ih
        rw [List.length_take, List.length_singleton] at hl
        have h0 : lead n b = 0 := by omega
        rw [h0] at h3' ih
        cases b with
        | nil => simp at h2
        | cons y b =>
          simp at ih
          apply h3'
          rw [← ih]; rfl
      rw [encU_big (by omega)]
      congr 1
      · rw [show (x.toNat % 128 + 128 * v) % 128 + 128 = x.toNat by omega]; simp
      · rw [show (x.toNat % 128 + 128 * v) / 128 = v by omega, ih]
theorem zig_unzig (z : Nat) : zig (unzig z) = z := by
  unfold zig unzig
  split <;> split <;> omega
theorem dI_canon {b : List UInt8} (h : (dI b).2.2 = 0) : encI (dI b).1 = b.take (dI b).2.1 := by
  have hle := lead_le 10 b
  unfold dI at h ⊢
  split at h
  · simp at h
  · split at h
    · simp at h
    · split at h
      · simp at h
      · rename_i h1 h2 h3
        rw [if_neg h1, if_neg h2, if_neg h3]
        show encU (zig (unzig _)) = _
        rw [zig_unzig]
        exact enc_canon 10 b (by omega) (by omega) (fun hp e => h3 (.inr ⟨hp, e⟩))
theorem dLen_canon {m : Nat} {b : List UInt8} (h : (dLen m b).2.2 = 0) : encI ((dLen m b).1.toNat : Nat) = b.take (dLen m b).2.1 := by
  unfold dLen at h ⊢
  split at h
  · exact absurd h (by assumption)
  · rename_i h1
    have h1' : (dI b).2.2 = 0 := by omega
    split at h
    · simp at h
    · split at h
      · simp at h
      · rename_i h2 h3
        rw [if_neg h1, if_neg h2, if_neg h3]
        show encI ((dI b).1.toNat : Int) = _
        rw [Int.toNat_of_nonneg (by omega)]
        exact dI_canon h1'
theorem dB_canon {b : List UInt8} (h : (dB b).2.2 = 0) : encI ((dB b).1.length : Nat) ++ (dB b).1 = b.take (dB b).2.1 ∧ (dB b).2.1 ≤ b.length := by
  have hf := dLen_facts 1 b
  unfold dB at h ⊢
  split at h
  · exact absurd h (by assumption)
  · rename_i h1
    have h1' : (dLen 1 b).2.2 = 0 := by omega
    have hc := dLen_canon h1'
    rw [if_neg h1]
    rw [Nat.div_one] at hf
    have e : ((b.drop (dLen 1 b).2.1).take (dLen 1 b).1.toNat).length = (dLen 1 b).1.toNat := by rw [List.length_take, List.length_drop]; omega
    refine ⟨?_, by simp only; omega⟩
    show encI (((b.drop (dLen 1 b).2.1).take (dLen 1 b).1.toNat).length : Nat) ++ _ = b.take ((dLen 1 b).2.1 + (dLen 1 b).1.toNat)
    rw [e, hc, List.take_add]
theorem dB_facts (b : List UInt8) : (dB b).2.1 ≤ b.length ∧ (dB b).1.length ≤ b.length := by
  have hf := dLen_facts 1 b
  rw [Nat.div_one] at hf
  unfold dB
  split
  · simp
  · simp only [List.length_take, List.length_drop]; omega
theorem dS_canon {b : List UInt8} (h : (dS b).2.2 = 0) : encB (dS b).1 = b.take (dS b).2.1 ∧ (dS b).2.1 ≤ b.length := by
  have := dB_canon (b := b) h
  refine ⟨?_, this.2⟩
  show encB (dS b).1 = b.take (dB b).2.1
  rw [← this.1]
  rfl
theorem dLoop_canon {f : List UInt8 → α × Nat × Nat} {enc : α → List UInt8} (hf : ∀ b, (f b).2.2 = 0 → enc (f b).1 = b.take (f b).2.1 ∧ (f b).2.1 ≤ b.length) :
    ∀ (n : Nat) (b : List UInt8), (dLoop f n b).2.2 = 0 → (dLoop f n b).1.flatMap enc = b.take (dLoop f n b).2.1 ∧ (dLoop f n b).2.1 ≤ b.length ∧ (dLoop f n b).1.length = n
  | 0, b, _ => by simp [dLoop]
  | n + 1, b, h => by
    have ih := dLoop_canon hf n (b.drop (f b).2.1)
    simp only [dLoop] at h ⊢
    split at h
    · exact absurd h (by assumption)
    · rename_i h1
      split at h
      · exact absurd h (by assumption)
      · rename_i h2
        obtain ⟨i1, i2, i3⟩ := ih (by omega)
        obtain ⟨f1, f2⟩ := hf b (by omega)
        rw [if_neg h1, if_neg h2]
        rw [List.length_drop] at i2
        refine ⟨?_, by simp only; omega, by simp only [List.length_cons]; omega⟩
        simp only [List.flatMap_cons]
        rw [f1, i1, List.take_add]
theorem dLoop_canonD : ∀ (n : Nat) (b : List UInt8), 16 * n ≤ b.length → (dLoop dD n b).2.2 = 0 ∧ (dLoop dD n b).1.flatMap id = b.take (dLoop dD n b).2.1 ∧ (dLoop dD n b).2.1 ≤ b.length ∧ (dLoop dD n b).1.length = n
  | 0, b, _ => by simp [dLoop]
  | n + 1, b, h => by
    obtain ⟨i0, i1, i2, i3⟩ := dLoop_canonD n (b.drop 16) (by rw [List.length_drop]; omega)
    have e : dLoop dD (n + 1) b = (b.take 16 :: (dLoop dD n (b.drop 16)).1, 16 + (dLoop dD n (b.drop 16)).2.1, 0) := by
      show (if (0 : Nat) ≠ 0 then _ else if (dLoop dD n (b.drop 16)).2.2 ≠ 0 then _ else _) = _
      rw [if_neg (by simp), if_neg (by omega)]
      rfl
    rw [e]
    rw [List.length_drop] at i2
    refine ⟨rfl, ?_, by simp only; omega, by simp only [List.length_cons]; omega⟩
    simp only [List.flatMap_cons]
    rw [i1, List.take_add]; rfl
/-- A list: nothing, or what was used is its encoding. -/
def Canon (enc : α → List UInt8) (b : List UInt8) (r : List α × Nat × Nat) : Prop := (r.2.2 ≠ 0 ∧ r.1 = [] ∧ r.2.1 = 0) ∨ (r.2.2 = 0 ∧ encL enc r.1 = b.take r.2.1 ∧ r.2.1 ≤ b.length)
theorem dList_canon {m : Nat} {f : List UInt8 → α × Nat × Nat} {enc : α → List UInt8} (b : List UInt8)
    (hf : ∀ n b, m * n ≤ b.length → (dLoop f n b).2.2 = 0 → (dLoop f n b).1.flatMap enc = b.take (dLoop f n b).2.1 ∧ (dLoop f n b).2.1 ≤ b.length ∧ (dLoop f n b).1.length = n) : Canon enc b (dList m f b) := by
  have hl := dLen_facts m b
  unfold dList
  by_cases h1 : (dLen m b).2.2 ≠ 0
  · rw [if_pos h1]; exact .inl ⟨h1, rfl, rfl⟩
  · rw [if_neg h1]
    have h1' : (dLen m b).2.2 = 0 := by omega
    have hc := dLen_canon h1'
    have hm : m * (dLen m b).1.toNat ≤ (b.drop (dLen m b).2.1).length := by
      rw [List.length_drop]
      have : (dLen m b).1.toNat ≤ (b.length - (dLen m b).2.1) / m := by omega
      exact Nat.le_trans (Nat.mul_le_mul_left _ this) (Nat.mul_div_le _ _)
    have hg := hf (dLen m b).1.toNat (b.drop (dLen m b).2.1) hm
    generalize dLoop f (dLen m b).1.toNat (b.drop (dLen m b).2.1) = r at hg
    unfold fin
    by_cases h2 : r.2.2 ≠ 0
    · rw [if_pos h2]; exact .inl ⟨h2, rfl, rfl⟩
    · rw [if_neg h2]
      obtain ⟨g1, g2, g3⟩ := hg (by omega)
      rw [List.length_drop] at g2
      refine .inr ⟨rfl, ?_, by simp only; omega⟩
      simp only [List.nil_append, encL, g3, hc, g1]
      rw [List.take_add]
theorem canonI (b : List UInt8) : Canon encI b (dList 1 dI b) := dList_canon b fun n b _ h => dLoop_canon (fun b h => ⟨dI_canon h, (dI_facts b).2.2.1⟩) n b h
theorem canonS (b : List UInt8) : Canon encB b (dList 1 dS b) := dList_canon b fun n b _ h => dLoop_canon (fun b h => dS_canon h) n b h
theorem canonD (b : List UInt8) : Canon id b (dList 16 dD b) := dList_canon b fun n b hm _ => (dLoop_canonD n b hm).2
theorem Canon.len {enc : α → List UInt8} {b : List UInt8} {r : List α × Nat × Nat} (h : Canon enc b r) : (encL enc r.1).length ≤ b.length + 1 := by
  rcases h with ⟨_, h, _⟩ | ⟨_, h, h2⟩
  · rw [h]; simp [encL, encI, zig, encU]
  · rw [h, List.length_take]; omega
end Wire
end Go.Proofs.Ytijboooekbdinaa
