/-
  The plain law: a beginning of an encoding is told as one.
-/
import Derived.Test.YtijboooekbdinaaM7
namespace Go.Proofs.Ytijboooekbdinaa
namespace Wire
open Go Abs
variable {α : Type}

theorem lead_pre : ∀ (n z i : Nat), i < (encU z).length → i ≤ n → lead n ((encU z).take i) = i
  | 0, z, i, _, h => by have : i = 0 := by omega
                        subst this; rfl
  | n + 1, z, 0, _, _ => by rw [List.take_zero]; rfl
  | n + 1, z, i + 1, h, hn => by
    by_cases hz : z < 128
    · rw [encU_small hz] at h; simp at h
    · rw [encU_big hz] at h ⊢
      have ih := lead_pre n (z / 128) i (by simpa using h) (by omega)
      rw [List.take_succ_cons]
      show (if (UInt8.ofNat (z % 128 + 128)).toNat < 128 then 0 else lead n _ + 1) = _
      rw [if_neg (by simp; omega), ih]
theorem dI_pre {n : Int} (h1 : -9223372036854775808 ≤ n) (h2 : n ≤ 9223372036854775807) {i : Nat} (hi : i < (encI n).length) : dI ((encI n).take i) = (0, 0, 10) := by
  have hl := len_encU10 (zig_lt h1 h2)
  have hi' : i < (encU (zig n)).length := hi
  have hk := lead_pre 10 (zig n) i hi' (by omega)
  exact dI_end (b := (encU (zig n)).take i) (i := i) (by omega) (by omega) (by rw [List.length_take]; omega)
theorem dLen_pre {m : Nat} {n : Int} (h1 : -9223372036854775808 ≤ n) (h2 : n ≤ 9223372036854775807) {i : Nat} (hi : i < (encI n).length) : dLen m ((encI n).take i) = (0, 0, 10) := by
  unfold dLen
  rw [dI_pre h1 h2 hi]
  simp
theorem dLen_short {m n : Nat} {t : List UInt8} (hn : n ≤ 9223372036854775807) (h : t.length / m < n) : dLen m (encI n ++ t) = (0, 0, 10) := by
  have e := dI_enc (n := n) (by omega) (by omega) t
  unfold dLen
  rw [e]
  simp only [ne_eq, not_true_eq_false, if_false]
  have hl : (encI n ++ t).length - (encI n).length = t.length := by rw [List.length_append]; omega
  rw [if_neg (by omega), hl, if_pos (by omega)]
theorem take_app_lt {a b : List α} {i : Nat} (h : i < a.length) : (a ++ b).take i = a.take i := by rw [List.take_append_of_le_length (by omega)]
theorem take_app_ge {a b : List α} {i : Nat} (h : ¬ i < a.length) : (a ++ b).take i = a ++ b.take (i - a.length) := by rw [List.take_append, List.take_of_length_le (by omega)]
theorem dB_pre {s : List UInt8} (hn : s.length ≤ 9223372036854775807) {i : Nat} (hi : i < (encI s.length ++ s).length) : (dB ((encI s.length ++ s).take i)).2.2 = 10 := by
  have e : dLen 1 ((encI s.length ++ s).take i) = (0, 0, 10) := by
    by_cases h : i < (encI (s.length : Nat)).length
    · rw [take_app_lt h]; exact dLen_pre (by omega) (by omega) h
    · rw [take_app_ge h]
      refine dLen_short hn ?_
      rw [List.length_append] at hi
      rw [Nat.div_one, List.length_take]; omega
  unfold dB
  rw [e]; simp
theorem dS_pre {s : ByteArray} (hn : s.size ≤ 9223372036854775807) {i : Nat} (hi : i < (encB s).length) : (dS ((encB s).take i)).2.2 = 10 := by
  have hl := len_data s
  have e := dB_pre (s := s.data.toList) (i := i) (by omega)
  rw [hl] at e
  exact e hi
theorem dLoop_pre {f : List UInt8 → α × Nat × Nat} {enc : α → List UInt8} : ∀ (l : List α) (i : Nat), (∀ x ∈ l, ∀ t, f (enc x ++ t) = (x, (enc x).length, 0)) → (∀ x ∈ l, ∀ i, i < (enc x).length → (f ((enc x).take i)).2.2 = 10) →
    i < (l.flatMap enc).length → (dLoop f l.length ((l.flatMap enc).take i)).2.2 = 10
  | [], i, _, _, h => by simp at h
  | x :: l, i, h1, h2, hi => by
    rw [List.flatMap_cons, List.length_append] at hi
    rw [List.flatMap_cons, List.length_cons]
    unfold dLoop
    by_cases h : i < (enc x).length
    · rw [take_app_lt h]
      have e := h2 x List.mem_cons_self i h
      rw [if_pos (by omega)]
      exact e
    · have ih := dLoop_pre l (i - (enc x).length) (fun y hy => h1 y (List.mem_cons_of_mem _ hy)) (fun y hy => h2 y (List.mem_cons_of_mem _ hy)) (by omega)
      rw [take_app_ge h, h1 x List.mem_cons_self, if_neg (by simp), List.drop_left' rfl, if_pos (by rw [ih]; simp)]
      exact ih
theorem dList_pre {m : Nat} {f : List UInt8 → α × Nat × Nat} {enc : α → List UInt8} {l : List α} (hn : l.length ≤ 9223372036854775807)
    (h : ∀ j, j < (l.flatMap enc).length → l.length ≤ j / m → (dLoop f l.length ((l.flatMap enc).take j)).2.2 = 10) {i : Nat} (hi : i < (encL enc l).length) : (dList m f ((encL enc l).take i)).2.2 = 10 := by
  unfold encL at hi ⊢
  unfold dList
  by_cases h1 : i < (encI (l.length : Nat)).length
  · rw [take_app_lt h1, dLen_pre (by omega) (by omega) h1]; simp
  · rw [List.length_append] at hi
    rw [take_app_ge h1]
    by_cases h2 : l.length ≤ ((l.flatMap enc).take (i - (encI (l.length : Nat)).length)).length / m
    · rw [dLen_enc hn h2]
      simp only [ne_eq, not_true_eq_false, if_false, Int.toNat_natCast]
      rw [List.drop_left' rfl]
      have e := h (i - (encI (l.length : Nat)).length) (by omega) (by rw [List.length_take, Nat.min_eq_left (by omega)] at h2; exact h2)
      unfold fin
      rw [if_pos (by omega)]
      exact e
    · rw [dLen_short hn (by omega)]; simp
theorem preI {l : List Int} (hl : in64 l) (hn : l.length ≤ 9223372036854775807) {i : Nat} (hi : i < (encL encI l).length) : (dList 1 dI ((encL encI l).take i)).2.2 = 10 :=
  dList_pre hn (fun j hj _ => dLoop_pre l j (fun x hx t => dI_enc (hl x hx).1 (hl x hx).2 t) (fun x hx i h => by rw [dI_pre (hl x hx).1 (hl x hx).2 h]) hj) hi
theorem preS {l : List ByteArray} (hl : inB l) (hn : l.length ≤ 9223372036854775807) {i : Nat} (hi : i < (encL encB l).length) : (dList 1 dS ((encL encB l).take i)).2.2 = 10 :=
  dList_pre hn (fun j hj _ => dLoop_pre l j (fun x hx t => dS_enc t (by have := hl x hx; omega)) (fun x hx i h => dS_pre (by have := hl x hx; omega) h) hj) hi
theorem preD {l : List (List UInt8)} (hl : ∀ d ∈ l, d.length = 16) (hn : l.length ≤ 9223372036854775807) {i : Nat} (hi : i < (encL id l).length) : (dList 16 dD ((encL id l).take i)).2.2 = 10 :=
  dList_pre hn (fun j hj h => by
    have e : (l.flatMap id).length = l.length * 16 := by rw [List.flatMap_id]; exact flatten_len hl
    omega) hi

/-! ### Lengths -/
theorem len_mono (z : Nat) : ∀ w, z ≤ w → (encU z).length ≤ (encU w).length := by
  refine enc_ind (p := fun z => ∀ w, z ≤ w → (encU z).length ≤ (encU w).length) (fun z h w _ => ?_) (fun z h ih w hw => ?_) z
  · rw [encU_small h]; exact len_encU_pos w
  · rw [encU_big h, encU_big (z := w) (by omega), List.length_cons, List.length_cons]
    have := ih (w / 128) (by omega)
    omega
theorem len_pair (i : Nat) : (encU (2 * i + 1)).length = (encU (2 * i)).length := by
  by_cases h : 2 * i < 128
  · rw [encU_small h, encU_small (z := 2 * i + 1) (by omega)]; rfl
  · rw [encU_big h, encU_big (z := 2 * i + 1) (by omega), show (2 * i + 1) / 128 = 2 * i / 128 by omega]; rfl
/-- How far an integer is from -1/2. -/
def far (n : Int) : Int := if -1 - n > n then -1 - n else n
theorem far_nat (n : Int) : 0 ≤ far n ∧ (zig n = 2 * (far n).toNat ∨ zig n = 2 * (far n).toNat + 1) := by
  unfold far zig
  split <;> split <;> omega
theorem len_far (n : Int) : (encI n).length = (encU (2 * (far n).toNat)).length := by
  unfold encI
  rcases (far_nat n).2 with h | h <;> rw [h]
  exact len_pair _
theorem len_le {m n : Int} (h : far m ≤ far n) : (encI m).length ≤ (encI n).length := by
  have := far_nat m
  have := far_nat n
  rw [len_far, len_far]
  exact len_mono _ _ (by omega)
theorem len_one (n : Int) : (encI n).length = 1 ↔ far n < 64 := by
  have h0 := (far_nat n).1
  rw [len_far]
  by_cases h : 2 * (far n).toNat < 128
  · rw [encU_small h]; simp; omega
  · have := len_encU_pos (2 * (far n).toNat / 128)
    rw [encU_big h, List.length_cons]; omega
theorem far_neg (n : Int) : far (-1 - n) = far n := by
  unfold far
  split <;> split <;> omega
theorem len_neg (n : Int) : (encI (-1 - n)).length = (encI n).length := by rw [len_far, len_far, far_neg]
theorem pre_lt {m n : Int} (h1 : -9223372036854775808 ≤ m) (h2 : m ≤ 9223372036854775807) (h3 : -9223372036854775808 ≤ n) (h4 : n ≤ 9223372036854775807) (hl : (encI m).length ≤ (encI n).length) (h : encI m = (encI n).take (encI m).length) : m = n := by
  have e1 := dI_enc h1 h2 []
  rw [List.append_nil] at e1
  rcases Nat.lt_or_ge (encI m).length (encI n).length with hlt | hge
  · have := dI_pre h3 h4 hlt
    rw [← h, e1] at this
    have := congrArg (fun x => x.2.2) this
    simp at this
  · rw [List.take_of_length_le hge] at h
    have e2 := dI_enc h3 h4 []
    rw [List.append_nil, ← h, e1] at e2
    exact congrArg (fun x => x.1) e2
theorem pre_iff {m n : Int} (h1 : -9223372036854775808 ≤ m) (h2 : m ≤ 9223372036854775807) (h3 : -9223372036854775808 ≤ n) (h4 : n ≤ 9223372036854775807) {k : Nat} (hk : k = min (encI m).length (encI n).length) : (encI m).take k = (encI n).take k ↔ m = n := by
  constructor
  · intro h
    rcases Nat.le_total (encI m).length (encI n).length with hl | hl
    · rw [Nat.min_eq_left hl] at hk
      subst hk
      rw [List.take_length] at h
      exact pre_lt h1 h2 h3 h4 hl h
    · rw [Nat.min_eq_right hl] at hk
      subst hk
      rw [List.take_length] at h
      exact (pre_lt h3 h4 h1 h2 hl h.symm).symm
  · rintro rfl; rfl
end Wire
end Go.Proofs.Ytijboooekbdinaa
