/-
  The check of 40 bits: messages. Bits alone: no program is named here.
-/
import Derived.Test.YtkdpmjgigknbpaaDoorC1
namespace Go.Proofs.YtkdpmjgigknbpaaDoor
namespace Crc
def nibL : List Nat := [0, 75628553, 151257106, 226885659, 302514212, 378142765, 453771318, 529399871, 605028424, 546439233, 756285530, 697696339, 907542636, 848953445, 1058799742, 1000210551]
def sel (c : Bool) (x : Reg) : Reg := if c then x else 0#40
theorem sel_xor (a b : Bool) (x : Reg) : sel (a ^^ b) x = sel a x ^^^ sel b x := by cases a <;> cases b <;> simp [sel]
def tabV (v : Nat) : Reg := ((sel (v.testBit 0) 75628553#40) ^^^ (sel (v.testBit 1) 151257106#40)) ^^^ ((sel (v.testBit 2) 302514212#40) ^^^ (sel (v.testBit 3) 605028424#40))
theorem tabV_nibL : ∀ v, v < 16 → (tabV v).toNat = nibL.getD v 0 := by decide +kernel
theorem tabV_xor (a b : Nat) : tabV (a ^^^ b) = tabV a ^^^ tabV b := by
  simp only [tabV, Nat.testBit_xor, sel_xor]
  ac_rfl
def sh4 (r : Reg) : Reg := (r <<< 4) ^^^ tabV (r.toNat / 2 ^ 36)
theorem xor_div (a b n : Nat) : (a ^^^ b) / 2 ^ n = (a / 2 ^ n) ^^^ (b / 2 ^ n) := by
  rw [← Nat.shiftRight_eq_div_pow, ← Nat.shiftRight_eq_div_pow, ← Nat.shiftRight_eq_div_pow, Nat.shiftRight_xor_distrib]
theorem xor_mod (a b n : Nat) : (a ^^^ b) % 2 ^ n = (a % 2 ^ n) ^^^ (b % 2 ^ n) := Nat.xor_mod_two_pow
theorem sh4_lin : Lin sh4 := fun a b => by
  unfold sh4
  rw [BitVec.shiftLeft_xor_distrib, BitVec.toNat_xor, xor_div, tabV_xor]
  ac_rfl
theorem Sn4 (r : Reg) : Sn 4 r = sh4 r := by
  refine lin_ext (Sn_xor 4) sh4_lin ?_ r
  have : ∀ i : Fin 40, Sn 4 (tp i.val) = sh4 (tp i.val) := by decide +kernel
  exact fun i hi => this ⟨i, hi⟩

theorem x3 (a b c : Reg) : a ^^^ b ^^^ c = a ^^^ c ^^^ b := by ac_rfl
/-- Four bits of a message. -/
def nib (r : Reg) (n : Nat) : Reg := Sn 4 (r ^^^ (BitVec.ofNat 40 n <<< 36))
theorem nib_go (r : Reg) {n : Nat} (hn : n < 16) : nib r n = (r <<< 4) ^^^ tabV ((r.toNat / 2 ^ 36) ^^^ n) := by
  have h1 : ∀ n : Fin 16, (BitVec.ofNat 40 n.val <<< 36) <<< 4 = 0#40 ∧ (BitVec.ofNat 40 n.val <<< 36).toNat / 2 ^ 36 = n.val := by decide +kernel
  obtain ⟨e1, e2⟩ := h1 ⟨n, hn⟩
  unfold nib
  rw [Sn4, sh4, BitVec.shiftLeft_xor_distrib, e1, BitVec.xor_zero, BitVec.toNat_xor, xor_div, e2]
/-- A byte of a message. -/
def crcByte (r : Reg) (x : Nat) : Reg := Sn 8 (r ^^^ (BitVec.ofNat 40 x <<< 32))
theorem nib_nib (r : Reg) {x : Nat} (hx : x < 256) : nib (nib r (x / 16)) (x % 16) = crcByte r x := by
  have h1 : ∀ x : Fin 256, Sn 4 (BitVec.ofNat 40 (x.val % 16) <<< 32) = BitVec.ofNat 40 (x.val % 16) <<< 36 ∧ (BitVec.ofNat 40 (x.val / 16) <<< 36) ^^^ (BitVec.ofNat 40 (x.val % 16) <<< 32) = BitVec.ofNat 40 x.val <<< 32 := by decide +kernel
  obtain ⟨e1, e2⟩ := h1 ⟨x, hx⟩
  unfold nib crcByte
  simp only at e1 e2
  rw [← e1, ← Sn_xor, ← Sn_add, BitVec.xor_assoc, e2]
/-- A bit of a message. -/
def stepB (r : Reg) (b : Bool) : Reg := sx (r ^^^ sel b (tp 39))
def bitsN (x : Nat) : Nat → Reg → Reg
  | 0, r => r
  | k + 1, r => stepB (bitsN x k r) (x.testBit (7 - k))
theorem bitsN_eq {x : Nat} (hx : x < 256) (r : Reg) : ∀ k, k ≤ 8 → bitsN x k r = Sn k (r ^^^ (BitVec.ofNat 40 (x / 2 ^ (8 - k)) <<< (40 - k))) := by
  have h1 : ∀ x : Fin 256, ∀ k : Fin 8, (BitVec.ofNat 40 (x.val / 2 ^ (8 - (k.val + 1))) <<< (40 - (k.val + 1))) = (BitVec.ofNat 40 (x.val / 2 ^ (8 - k.val)) <<< (40 - k.val)) ^^^ sel (x.val.testBit (7 - k.val)) (tp (39 - k.val)) := by decide +kernel
  have h2 : ∀ k : Fin 8, ∀ b : Bool, Sn k.val (sel b (tp (39 - k.val))) = sel b (tp 39) := by decide +kernel
  intro k
  induction k with
  | zero =>
    intro _
    have : x / 2 ^ 8 = 0 := by omega
    simp only [bitsN, Sn, Nat.sub_zero, this]
    simp
  | succ k ih =>
    intro hk
    have e1 := h1 ⟨x, hx⟩ ⟨k, by omega⟩
    have e2 := h2 ⟨k, by omega⟩ (x.testBit (7 - k))
    simp only at e1 e2
    simp only [bitsN, stepB, Sn]
    rw [ih (by omega), ← e2, ← Sn_xor, BitVec.xor_assoc, ← e1]
theorem bits8 {x : Nat} (hx : x < 256) (r : Reg) : bitsN x 8 r = crcByte r x := by
  rw [bitsN_eq hx r 8 (Nat.le_refl _)]
  simp [crcByte]

/-! ### Messages -/
def crcReg (r : Reg) (l : List UInt8) : Reg := l.foldl (fun r x => crcByte r x.toNat) r
def ones : Reg := 0xffffffffff#40
def crc (l : List UInt8) : Nat := (crcReg ones l ^^^ ones).toNat
theorem crcReg_nil (r : Reg) : crcReg r [] = r := rfl
theorem crcReg_cons (r : Reg) (x : UInt8) (l : List UInt8) : crcReg r (x :: l) = crcReg (crcByte r x.toNat) l := rfl
theorem crcReg_append (r : Reg) (l m : List UInt8) : crcReg r (l ++ m) = crcReg (crcReg r l) m := by unfold crcReg; rw [List.foldl_append]
theorem crcByte_xor (r s : Reg) (x : Nat) : crcByte (r ^^^ s) x = crcByte r x ^^^ Sn 8 s := by
  unfold crcByte
  rw [← Sn_xor, x3]
theorem crcReg_xor (r s : Reg) (l : List UInt8) : crcReg (r ^^^ s) l = crcReg r l ^^^ Sn (8 * l.length) s := by
  induction l generalizing r s with
  | nil => rfl
  | cons x l ih =>
    rw [crcReg_cons, crcReg_cons, crcByte_xor, ih, ← Sn_add, List.length_cons, show 8 * l.length + 8 = 8 * (l.length + 1) by omega]
theorem crc_append (a b : List UInt8) : crcReg ones (a ++ b) ^^^ ones = Sn (8 * b.length) (crcReg ones a ^^^ ones) ^^^ (crcReg ones b ^^^ ones) := by
  rw [crcReg_append]
  have e : crcReg ones a = ones ^^^ (crcReg ones a ^^^ ones) := by rw [BitVec.xor_comm, BitVec.xor_assoc, BitVec.xor_self, BitVec.xor_zero]
  conv => lhs; rw [e]
  rw [crcReg_xor]
  ac_rfl
/-- The exclusive or of two messages. -/
def xorL : List UInt8 → List UInt8 → List UInt8
  | a :: l, b :: m => (a ^^^ b) :: xorL l m
  | _, _ => []
theorem ofNat_xor (a b : Nat) : BitVec.ofNat 40 (a ^^^ b) = BitVec.ofNat 40 a ^^^ BitVec.ofNat 40 b := by
  apply BitVec.eq_of_toNat_eq
  rw [BitVec.toNat_xor, BitVec.toNat_ofNat, BitVec.toNat_ofNat, BitVec.toNat_ofNat, xor_mod]
theorem crcReg_xorL : ∀ (l m : List UInt8) (r s : Reg), l.length = m.length → crcReg (r ^^^ s) (xorL l m) = crcReg r l ^^^ crcReg s m
  | [], [], r, s, _ => rfl
  | a :: l, b :: m, r, s, h => by
    have ih := crcReg_xorL l m (crcByte r a.toNat) (crcByte s b.toNat) (by simpa using h)
    show crcReg (crcByte (r ^^^ s) (a ^^^ b).toNat) (xorL l m) = _
    rw [crcReg_cons, crcReg_cons, ← ih]
    congr 1
    unfold crcByte
    rw [← Sn_xor, UInt8.toNat_xor, ofNat_xor, BitVec.shiftLeft_xor_distrib, x4]
  | [], _ :: _, _, _, h => by simp at h
  | _ :: _, [], _, _, h => by simp at h

/-! ### One bit of a message -/
/-- Bit n of a message (from its beginning) is changed. -/
def flip (l : List UInt8) (n : Nat) : List UInt8 := l.set (n / 8) ((l.getD (n / 8) 0) ^^^ UInt8.ofNat (2 ^ (7 - n % 8)))
theorem Sn_tp {j : Nat} : ∀ k, j + k ≤ 39 → Sn k (tp j) = tp (j + k)
  | 0, _ => rfl
  | k + 1, h => by
    simp only [Sn]
    rw [Sn_tp k (by omega), sx_tp (by omega)]
    rfl
theorem crcByte_flip (r : Reg) (x : Nat) {q : Nat} (hq : q < 8) : crcByte r (x ^^^ 2 ^ (7 - q)) = crcByte r x ^^^ Sn (8 - q) (tp 39) := by
  have h1 : ∀ q : Fin 8, BitVec.ofNat 40 (2 ^ (7 - q.val)) <<< 32 = tp (39 - q.val) := by decide +kernel
  have e := h1 ⟨q, hq⟩
  simp only at e
  unfold crcByte
  rw [ofNat_xor, BitVec.shiftLeft_xor_distrib, e, ← BitVec.xor_assoc, Sn_xor]
  have h2 : Sn q (tp (39 - q)) = tp 39 := by rw [Sn_tp q (by omega), show 39 - q + q = 39 by omega]
  have h3 : Sn 8 (tp (39 - q)) = Sn (8 - q) (tp 39) := by rw [← h2, ← Sn_add, show 8 - q + q = 8 by omega]
  rw [h3]
theorem crcReg_flip : ∀ (l : List UInt8) (r : Reg) (n : Nat), n < 8 * l.length → crcReg r (flip l n) = crcReg r l ^^^ Sn (8 * l.length - n) (tp 39)
  | [], r, n, h => by simp at h
  | x :: l, r, n, h => by
    rw [List.length_cons] at h
    by_cases hn : n < 8
    · have e0 : n / 8 = 0 := by omega
      have e1 : n % 8 = n := by omega
      have hp : 2 ^ (7 - n) < 256 := by
        have : 2 ^ (7 - n) ≤ 2 ^ 7 := Nat.pow_le_pow_right (by decide) (by omega)
        omega
      unfold flip
      rw [e0, e1]
      show crcReg r ((x ^^^ UInt8.ofNat (2 ^ (7 - n))) :: l) = _
      rw [crcReg_cons, crcReg_cons, UInt8.toNat_xor, UInt8.toNat_ofNat', Nat.mod_eq_of_lt hp, crcByte_flip r _ hn, crcReg_xor, ← Sn_add, List.length_cons, show 8 * l.length + (8 - n) = 8 * (l.length + 1) - n by omega]
    · have e : flip (x :: l) n = x :: flip l (n - 8) := by
        have h1 : n / 8 = (n - 8) / 8 + 1 := by omega
        have h2 : (n - 8) % 8 = n % 8 := by omega
        unfold flip
        rw [h1, h2]
        rfl
      rw [e, crcReg_cons, crcReg_cons, crcReg_flip l _ (n - 8) (by omega), List.length_cons, show 8 * l.length - (n - 8) = 8 * (l.length + 1) - n by omega]
theorem flip_length (l : List UInt8) (n : Nat) : (flip l n).length = l.length := by simp [flip]
/-- Some of 40 bits from bit f on are changed: k of them are looked at. -/
def burst (l : List UInt8) (f : Nat) (p : Nat → Bool) : Nat → List UInt8
  | 0 => l
  | k + 1 => if p k then flip (burst l f p k) (f + k) else burst l f p k
def window (p : Nat → Bool) : Nat → Reg
  | 0 => 0#40
  | k + 1 => window p k ^^^ sel (p k) (tp (39 - k))
theorem burst_length (l : List UInt8) (f : Nat) (p : Nat → Bool) : ∀ k, (burst l f p k).length = l.length
  | 0 => rfl
  | k + 1 => by
    simp only [burst]
    split
    · rw [flip_length, burst_length l f p k]
    · exact burst_length l f p k
theorem crcReg_burst (l : List UInt8) (f : Nat) (p : Nat → Bool) (r : Reg) : ∀ k, k ≤ 40 → f + k ≤ 8 * l.length → crcReg r (burst l f p k) = crcReg r l ^^^ Sn (8 * l.length - f) (window p k)
  | 0, _, _ => by simp [burst, window, Sn_zero]
  | k + 1, hk, hf => by
    have ih := crcReg_burst l f p r k (by omega) (by omega)
    simp only [burst, window]
    cases hp : p k
    · simpa [sel] using ih
    · have h2 : Sn k (tp (39 - k)) = tp 39 := by rw [Sn_tp k (by omega), show 39 - k + k = 39 by omega]
      have h3 : Sn (8 * l.length - f) (sel true (tp (39 - k))) = Sn (8 * l.length - (f + k)) (tp 39) := by
        rw [← h2, ← Sn_add, show 8 * l.length - (f + k) + k = 8 * l.length - f by omega]; rfl
      rw [if_pos rfl, crcReg_flip _ _ _ (by rw [burst_length]; omega), ih, burst_length, Sn_xor, BitVec.xor_assoc, h3]
theorem window_bit (p : Nat → Bool) : ∀ k, k ≤ 40 → ∀ i, i < 40 → (window p k).getLsbD i = (decide (40 ≤ i + k) && p (39 - i))
  | 0, _, i, hi => by
    simp [window]; omega
  | k + 1, hk, i, hi => by
    have ih := window_bit p k (by omega) i hi
    simp only [window, BitVec.getLsbD_xor, ih]
    by_cases h : i = 39 - k
    · subst h
      have e1 : decide (40 ≤ 39 - k + k) = false := decide_eq_false (by omega)
      have e2 : decide (40 ≤ 39 - k + (k + 1)) = true := decide_eq_true (by omega)
      rw [e1, e2, show 39 - (39 - k) = k by omega]
      cases p k
      · simp [sel]
      · simp [sel, tp_bit]; omega
    · have e1 : (sel (p k) (tp (39 - k))).getLsbD i = false := by
        unfold sel
        split
        · rw [tp_bit]; simp; omega
        · simp
      have e2 : decide (40 ≤ i + (k + 1)) = decide (40 ≤ i + k) := by
        by_cases h40 : 40 ≤ i + k
        · rw [decide_eq_true h40, decide_eq_true (by omega)]
        · rw [decide_eq_false h40, decide_eq_false (by omega)]
      rw [e1, e2]; simp
theorem window_zero {p : Nat → Bool} {k : Nat} (hk : k ≤ 40) : window p k = 0#40 ↔ ∀ i, i < k → p i = false := by
  constructor
  · intro h i hi
    have := window_bit p k hk (39 - i) (by omega)
    rw [h, show 39 - (39 - i) = i by omega, decide_eq_true (by omega)] at this
    simpa using this.symm
  · intro h
    apply BitVec.eq_of_getLsbD_eq
    intro i hi
    rw [window_bit p k hk i hi]
    by_cases h40 : 40 ≤ i + k
    · rw [h (39 - i) (by omega)]; simp
    · simp [h40]
theorem x_cancel {a b c : Reg} (h : a ^^^ c = a ^^^ b ^^^ c) : b = 0#40 := by
  have h1 := congrArg (· ^^^ c) h
  simp only [BitVec.xor_assoc, BitVec.xor_self, BitVec.xor_zero] at h1
  have h2 := congrArg (a ^^^ ·) h1
  simp only [← BitVec.xor_assoc, BitVec.xor_self, BitVec.zero_xor] at h2
  exact h2.symm
theorem crc_burst {l : List UInt8} {f k : Nat} {p : Nat → Bool} (hk : k ≤ 40) (hf : f + k ≤ 8 * l.length) : crc l = crc (burst l f p k) ↔ ∀ i, i < k → p i = false := by
  rw [← window_zero hk]
  unfold crc
  rw [crcReg_burst l f p ones k hk hf]
  constructor
  · intro h
    exact Sn_inj0 (x_cancel (BitVec.eq_of_toNat_eq h))
  · intro h
    rw [h, Sn_zero, BitVec.xor_zero]
end Crc
end Go.Proofs.YtkdpmjgigknbpaaDoor
