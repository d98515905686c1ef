/-
  The check of 40 bits: steps of a register, linear maps, products. Bits alone: no program is named here.
-/
import Derived.Test.YtkdpmjgigknbpaaDoorZ
namespace Go.Proofs.YtkdpmjgigknbpaaDoor
namespace Crc
abbrev Reg := BitVec 40
def poly : Reg := 0x0004820009#40
def sx (r : Reg) : Reg := (r <<< 1) ^^^ (if r.msb then poly else 0#40)
def Sn : Nat → Reg → Reg
  | 0, r => r
  | n + 1, r => sx (Sn n r)

theorem sx_xor (a b : Reg) : sx (a ^^^ b) = sx a ^^^ sx b := by
  unfold sx
  rw [BitVec.shiftLeft_xor_distrib, BitVec.msb_xor]
  cases a.msb <;> cases b.msb <;> simp
  all_goals first | ac_rfl | (rw [BitVec.xor_assoc (a <<< 1), ← BitVec.xor_assoc poly, BitVec.xor_comm poly, BitVec.xor_assoc, BitVec.xor_self, BitVec.xor_zero]) | skip
theorem sx_zero : sx 0#40 = 0#40 := by decide
theorem Sn_xor (n : Nat) (a b : Reg) : Sn n (a ^^^ b) = Sn n a ^^^ Sn n b := by
  induction n with
  | zero => rfl
  | succ n ih => simp only [Sn, ih, sx_xor]
theorem Sn_zero (n : Nat) : Sn n 0#40 = 0#40 := by
  induction n with
  | zero => rfl
  | succ n ih => simp only [Sn, ih, sx_zero]
theorem Sn_add (m n : Nat) (r : Reg) : Sn (m + n) r = Sn m (Sn n r) := by
  induction m with
  | zero => simp [Sn]
  | succ m ih => rw [Nat.succ_add]; simp only [Sn, ih]
theorem Sn_succ (n : Nat) (r : Reg) : Sn (n + 1) r = Sn n (sx r) := Sn_add n 1 r

theorem sx_inj0 {x : Reg} (h : sx x = 0#40) : x = 0#40 := by
  unfold sx at h
  have hb : ∀ i, (x <<< 1 ^^^ if x.msb = true then poly else 0#40).getLsbD i = false := by rw [h]; simp
  have h0 := hb 0
  have hm : x.msb = false := by
    cases hm : x.msb
    · rfl
    · rw [hm] at h0
      simp [poly] at h0
  rw [hm] at h
  simp at h
  apply BitVec.eq_of_getLsbD_eq
  intro i hi
  have h1 : (x <<< 1).getLsbD (i + 1) = false := by rw [h]; simp
  rw [BitVec.getLsbD_shiftLeft] at h1
  by_cases h39 : i = 39
  · subst h39
    rw [BitVec.msb_eq_getLsbD_last] at hm
    simpa using hm
  · simp at h1 ⊢
    exact h1 (by omega)
theorem Sn_inj0 {n : Nat} {x : Reg} (h : Sn n x = 0#40) : x = 0#40 := by
  induction n with
  | zero => exact h
  | succ n ih => exact ih (sx_inj0 h)

/-! ### Linear maps -/
def Lin (f : Reg → Reg) : Prop := ∀ a b, f (a ^^^ b) = f a ^^^ f b
theorem Lin.zero {f : Reg → Reg} (h : Lin f) : f 0#40 = 0#40 := by
  have := h 0#40 0#40
  rw [BitVec.xor_self] at this
  rw [this]
  exact BitVec.xor_self
def tp (i : Nat) : Reg := BitVec.twoPow 40 i
theorem lin_ext {f g : Reg → Reg} (hf : Lin f) (hg : Lin g) (h : ∀ i, i < 40 → f (tp i) = g (tp i)) (x : Reg) : f x = g x := by
  have key : ∀ n, n ≤ 40 → ∀ x : Reg, (∀ i, n ≤ i → x.getLsbD i = false) → f x = g x := by
    intro n
    induction n with
    | zero =>
      intro _ x hx
      have : x = 0#40 := BitVec.eq_of_getLsbD_eq fun i _ => by rw [hx i (Nat.zero_le _)]; simp
      rw [this, hf.zero, hg.zero]
    | succ n ih =>
      intro hn x hx
      by_cases hb : x.getLsbD n = true
      · have e : x = (x ^^^ tp n) ^^^ tp n := by rw [BitVec.xor_assoc, BitVec.xor_self, BitVec.xor_zero]
        have h1 : ∀ i, n ≤ i → (x ^^^ tp n).getLsbD i = false := by
          intro i hi
          rw [BitVec.getLsbD_xor, tp, BitVec.getLsbD_twoPow]
          by_cases hin : i = n
          · subst hin; rw [hb]; simp; omega
          · rw [hx i (by omega)]; simp; omega
        rw [e, hf, hg, ih (by omega) _ h1, h n (by omega)]
      · refine ih (by omega) x fun i hi => ?_
        by_cases hin : i = n
        · subst hin; simpa using hb
        · exact hx i (by omega)
  exact key 40 (Nat.le_refl _) x fun i hi => by rw [BitVec.getLsbD_of_ge]; omega

/-! ### Products -/
def hor (a b : Reg) : Nat → Reg
  | 0 => 0#40
  | k + 1 => sx (hor a b k) ^^^ (if b.getLsbD (39 - k) then a else 0#40)
def mul (a b : Reg) : Reg := hor a b 40
theorem x4 (a b c d : Reg) : (a ^^^ b) ^^^ (c ^^^ d) = (a ^^^ c) ^^^ (b ^^^ d) := by ac_rfl
theorem hor_b (a b c : Reg) (k : Nat) : hor a (b ^^^ c) k = hor a b k ^^^ hor a c k := by
  induction k with
  | zero => simp [hor]
  | succ k ih =>
    simp only [hor, ih, sx_xor, BitVec.getLsbD_xor]
    rw [x4]
    congr 1
    cases b.getLsbD (39 - k) <;> cases c.getLsbD (39 - k) <;> simp
theorem hor_a (a b c : Reg) (k : Nat) : hor (a ^^^ b) c k = hor a c k ^^^ hor b c k := by
  induction k with
  | zero => simp [hor]
  | succ k ih =>
    simp only [hor, ih, sx_xor]
    rw [x4]
    congr 1
    cases c.getLsbD (39 - k) <;> simp
theorem tp_bit (j i : Nat) : (tp j).getLsbD i = (decide (j < 40) && decide (j = i)) := by
  unfold tp
  rw [BitVec.getLsbD_twoPow]
theorem hor_tp (a : Reg) {j : Nat} (hj : j < 40) : ∀ m, m ≤ j → hor a (tp j) (40 - j + m) = Sn m a := by
  have h0 : ∀ k, k ≤ 39 - j → hor a (tp j) k = 0#40 := by
    intro k
    induction k with
    | zero => intro _; rfl
    | succ k ih =>
      intro hk
      simp only [hor, ih (by omega), sx_zero, tp_bit]
      rw [if_neg]
      · simp
      · simp; omega
  intro m
  induction m with
  | zero =>
    intro _
    have e : 40 - j + 0 = (39 - j) + 1 := by omega
    rw [e]
    simp only [hor, h0 (39 - j) (Nat.le_refl _), sx_zero, tp_bit, Sn]
    rw [if_pos]
    · simp
    · simp; omega
  | succ m ih =>
    intro hm
    rw [show 40 - j + (m + 1) = (40 - j + m) + 1 by omega]
    simp only [hor, ih (by omega), tp_bit, Sn]
    rw [if_neg]
    · simp
    · simp; omega
theorem mul_tp (a : Reg) {j : Nat} (hj : j < 40) : mul a (tp j) = Sn j a := by
  have := hor_tp a hj j (Nat.le_refl _)
  rwa [show 40 - j + j = 40 by omega] at this
theorem sx_tp {j : Nat} (hj : j < 39) : sx (tp j) = tp (j + 1) := by
  have : ∀ j : Fin 39, sx (tp j.val) = tp (j.val + 1) := by decide +kernel
  exact this ⟨j, hj⟩
theorem sx_tp39 : sx (tp 39) = poly := by decide +kernel
theorem mul_poly (a : Reg) : mul a poly = Sn 40 a := by
  refine lin_ext (f := fun a => mul a poly) (g := fun a => Sn 40 a) (fun a b => hor_a a b poly 40) (fun a b => Sn_xor 40 a b) ?_ a
  have : ∀ j : Fin 40, mul (tp j.val) poly = Sn 40 (tp j.val) := by decide +kernel
  exact fun i hi => this ⟨i, hi⟩
theorem mul_sx (a b : Reg) : mul a (sx b) = sx (mul a b) := by
  refine lin_ext (f := fun b => mul a (sx b)) (g := fun b => sx (mul a b)) (fun b c => by show mul a (sx (b ^^^ c)) = _; rw [sx_xor]; exact hor_b a _ _ 40) (fun b c => by simp only [mul, hor_b, sx_xor]) ?_ b
  intro i hi
  show mul a (sx (tp i)) = sx (mul a (tp i))
  by_cases h : i < 39
  · rw [sx_tp h, mul_tp a (by omega), mul_tp a hi]; rfl
  · have : i = 39 := by omega
    subst this
    rw [sx_tp39, mul_poly, mul_tp a hi]; rfl
def one : Reg := 1#40
theorem mul_pow (a : Reg) (k : Nat) : mul a (Sn k one) = Sn k a := by
  induction k with
  | zero => exact mul_tp a (j := 0) (by decide)
  | succ k ih => simp only [Sn]; rw [mul_sx, ih]
end Crc
end Go.Proofs.YtkdpmjgigknbpaaDoor
