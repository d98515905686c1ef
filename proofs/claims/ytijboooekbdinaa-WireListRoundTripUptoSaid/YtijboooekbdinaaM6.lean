/-
  The plain law: texts and lists are decoded from their encodings, whatever follows.
-/
import Derived.Test.YtijboooekbdinaaM5
namespace Go.Proofs.Ytijboooekbdinaa
namespace Wire
open Go Abs
variable {α : Type}
theorem dLen_enc {m n : Nat} {t : List UInt8} (hn : n ≤ 9223372036854775807) (h : n ≤ t.length / m) : dLen m (encI n ++ t) = ((n : Int), (encI n).length, 0) := by
  have e := dI_enc (n := n) (by omega) (by omega) t
  unfold dLen
  rw [e]
  simp only [ne_eq, not_true_eq_false, if_false]
  have hl : (encI n ++ t).length - (encI n).length = t.length := by rw [List.length_append]; omega
  rw [if_neg (by omega), hl, if_neg (by omega)]
theorem dB_enc {s t : List UInt8} (hn : s.length ≤ 9223372036854775807) : dB (encI s.length ++ s ++ t) = (s, (encI s.length ++ s).length, 0) := by
  have e := dLen_enc (m := 1) (n := s.length) (t := s ++ t) hn (by rw [Nat.div_one, List.length_append]; omega)
  rw [List.append_assoc]
  unfold dB
  rw [e]
  simp only [ne_eq, not_true_eq_false, if_false, Int.toNat_natCast, List.length_append]
  rw [List.drop_left', List.take_left'] <;> rfl
theorem dS_enc {s : ByteArray} (t : List UInt8) (hn : s.size ≤ 9223372036854775807) : dS (encB s ++ t) = (s, (encB s).length, 0) := by
  have hl := len_data s
  have e := dB_enc (s := s.data.toList) (t := t) (by omega)
  rw [hl] at e
  unfold dS encB
  rw [e]
theorem dLoop_enc (f : List UInt8 → α × Nat × Nat) (enc : α → List UInt8) : ∀ (l : List α) (t : List UInt8), (∀ x ∈ l, ∀ t, f (enc x ++ t) = (x, (enc x).length, 0)) → dLoop f l.length (l.flatMap enc ++ t) = (l, (l.flatMap enc).length, 0)
  | [], t, _ => rfl
  | x :: l, t, h => by
    have ih := dLoop_enc f enc l t fun y hy => h y (List.mem_cons_of_mem _ hy)
    have hx := h x List.mem_cons_self (l.flatMap enc ++ t)
    have ha : (x :: l).flatMap enc ++ t = enc x ++ (l.flatMap enc ++ t) := by simp
    rw [ha, List.length_cons]
    unfold dLoop
    rw [hx]
    simp only [ne_eq, not_true_eq_false, if_false]
    rw [List.drop_left' rfl, ih]
    simp
theorem flat_ge {m : Nat} (enc : α → List UInt8) : ∀ (l : List α), (∀ x ∈ l, m ≤ (enc x).length) → m * l.length ≤ (l.flatMap enc).length
  | [], _ => by simp
  | x :: l, h => by
    have ih := flat_ge enc l fun y hy => h y (List.mem_cons_of_mem _ hy)
    have hx := h x List.mem_cons_self
    simp only [List.flatMap_cons, List.length_append, List.length_cons, Nat.mul_succ]
    omega
theorem dList_enc {m : Nat} (hm : 0 < m) (f : List UInt8 → α × Nat × Nat) (enc : α → List UInt8) (l : List α) (t : List UInt8) (hn : l.length ≤ 9223372036854775807) (h : ∀ x ∈ l, ∀ t, f (enc x ++ t) = (x, (enc x).length, 0)) (hg : ∀ x ∈ l, m ≤ (enc x).length) :
    dList m f (encL enc l ++ t) = (l, (encL enc l).length, 0) := by
  have hge := flat_ge enc l hg
  have e := dLen_enc (m := m) (n := l.length) (t := l.flatMap enc ++ t) hn (by rw [Nat.le_div_iff_mul_le hm, Nat.mul_comm, List.length_append]; omega)
  unfold encL
  rw [List.append_assoc]
  unfold dList
  rw [e]
  simp only [ne_eq, not_true_eq_false, if_false, Int.toNat_natCast]
  rw [List.drop_left' rfl, dLoop_enc f enc l t h]
  simp [fin]
end Wire
end Go.Proofs.Ytijboooekbdinaa
