/-
  The plain law of the integers' decoding: numbers and lists of bytes alone.
-/
import Derived.Test.YtijboooekbdinaaM1
namespace Go.Proofs.Ytijboooekbdinaa
namespace Wire
open Go

/-- How many bytes at the beginning say that another one follows, at most n. -/
def lead : Nat → List UInt8 → Nat
  | 0, _ => 0
  | _ + 1, [] => 0
  | n + 1, x :: b => if x.toNat < 128 then 0 else lead n b + 1
def valU : List UInt8 → Nat
  | [] => 0
  | x :: b => x.toNat % 128 + 128 * valU b
def unzig (z : Nat) : Int := if z % 2 = 1 then -1 - (z / 2 : Nat) else (z / 2 : Nat)
/-- An integer at the beginning: the number, the bytes used, the error. -/
def dI (b : List UInt8) : Int × Nat × Nat :=
  if lead 10 b = 10 then (0, 0, 11)
  else if lead 10 b = b.length then (0, 0, 10)
  else if (lead 10 b = 9 ∧ 1 < (b.getD (lead 10 b) 0).toNat) ∨ (0 < lead 10 b ∧ (b.getD (lead 10 b) 0).toNat = 0) then (0, 0, 11)
  else (unzig (valU (b.take (lead 10 b + 1))), lead 10 b + 1, 0)

theorem lead_le : ∀ (n : Nat) (b : List UInt8), lead n b ≤ n ∧ lead n b ≤ b.length
  | 0, _ => by simp [lead]
  | _ + 1, [] => by simp [lead]
  | n + 1, x :: b => by
    have := lead_le n b
    unfold lead
    split <;> simp only [List.length_cons] <;> omega
theorem lead_step : ∀ (n : Nat) (b : List UInt8) (i : Nat), i ≤ lead n b → i < n → i < b.length →
    (128 ≤ (b.getD i 0).toNat → i + 1 ≤ lead n b) ∧ ((b.getD i 0).toNat < 128 → lead n b = i)
  | 0, _, _, _, h, _ => absurd h (Nat.not_lt_zero _)
  | _ + 1, [], _, _, _, h => absurd h (Nat.not_lt_zero _)
  | n + 1, x :: b, 0, _, _, _ => by
    simp only [List.getD_cons_zero, lead]
    constructor
    · intro h; rw [if_neg (by omega)]; omega
    · intro h; rw [if_pos h]
  | n + 1, x :: b, i + 1, h, hn, hl => by
    simp only [List.getD_cons_succ, lead] at h ⊢
    split at h
    · omega
    · rename_i hx
      rw [if_neg hx]
      have := lead_step n b i (by omega) (by omega) (by simpa using hl)
      exact ⟨fun h => by have := this.1 h; omega, fun h => by have := this.2 h; omega⟩
theorem valU_append (a b : List UInt8) : valU (a ++ b) = valU a + 128 ^ a.length * valU b := by
  induction a with
  | nil => simp [valU]
  | cons x a ih => simp only [List.cons_append, valU, ih, List.length_cons, Nat.pow_succ]; rw [Nat.mul_add, Nat.add_assoc, Nat.mul_comm _ 128, Nat.mul_assoc]
theorem valU_lt (a : List UInt8) : valU a < 128 ^ a.length := by
  induction a with
  | nil => simp [valU]
  | cons x a ih => simp only [valU, List.length_cons, Nat.pow_succ]; omega
theorem take_one_more (b : List UInt8) {i : Nat} (h : i < b.length) : b.take (i + 1) = b.take i ++ [b.getD i 0] := by
  rw [List.take_add_one, List.getElem?_eq_getElem h, List.getD_eq_getElem?_getD, List.getElem?_eq_getElem h]; rfl
theorem valU_take (b : List UInt8) {i : Nat} (h : i < b.length) : valU (b.take (i + 1)) = valU (b.take i) + 2 ^ (7 * i) * ((b.getD i 0).toNat % 128) := by
  rw [take_one_more b h, valU_append, List.length_take, Nat.min_eq_left (by omega), Nat.pow_mul]; simp [valU]
theorem valU_take_lt (b : List UInt8) (i : Nat) : valU (b.take i) < 2 ^ (7 * i) := by
  refine Nat.lt_of_lt_of_le (valU_lt _) ?_
  rw [Nat.pow_mul]
  exact Nat.pow_le_pow_right (by decide) (by rw [List.length_take]; omega)
theorem valU_drop (b : List UInt8) {i : Nat} (h : i < b.length) : valU (b.drop i) = (b.getD i 0).toNat % 128 + 128 * valU (b.drop (i + 1)) := by
  rw [List.drop_eq_getElem_cons h, valU, List.getD_eq_getElem?_getD, List.getElem?_eq_getElem h]; rfl
theorem valU_drop_le (b : List UInt8) (i : Nat) : valU (b.drop i) ≤ valU b := by
  induction i generalizing b with
  | zero => simp
  | succ i ih =>
    cases b with
    | nil => simp
    | cons x b => have := ih b; simp only [List.drop_succ_cons, valU]; omega

/-! ### Go's numbers -/
theorem and127 : ∀ y : Nat, y < 256 → y &&& 127 = y % 128 := by decide +kernel
theorem and127_go (x : UInt8) : bits .and .u8 (x.toNat : Int) 127 = ((x.toNat % 128 : Nat) : Int) := by
  rw [show (127 : Int) = ((127 : Nat) : Int) from rfl, (bits_u8_nat x.toNat 127 x.toNat_lt (by decide)).2.1, and127 _ x.toNat_lt]
theorem or_u64 {v c i : Nat} (hv : v < 2 ^ (7 * i)) (h : v + 2 ^ (7 * i) * c < 2 ^ 64) : bits .or .u64 (v : Int) ((2 ^ (7 * i) * c : Nat) : Int) = ((v + 2 ^ (7 * i) * c : Nat) : Int) := by
  rw [(bits_u64_nat v (2 ^ (7 * i) * c) (by omega) (by omega)).2.2, Nat.or_comm, ← Nat.two_pow_add_eq_or_of_lt hv, Nat.add_comm]
theorem and1_go (z : Nat) (h : z < 2 ^ 64) : bits .and .u64 (z : Int) 1 = ((z % 2 : Nat) : Int) := by
  rw [show (1 : Int) = ((1 : Nat) : Int) from rfl, (bits_u64_nat z 1 h (by decide)).2.1, Nat.and_one_is_mod]
theorem xor_i64_zero {a : Nat} (h : a < 2 ^ 63) : bits .xor .i64 (a : Int) 0 = (a : Int) := by
  show IntKind.i64.wrap ((BitVec.ofInt 64 a ^^^ BitVec.ofInt 64 0).toNat : Nat) = _
  rw [BitVec.ofInt_natCast, show BitVec.ofInt 64 0 = 0#64 from rfl, BitVec.xor_zero, BitVec.toNat_ofNat, IntKind.wrap_i64]; omega
theorem xor_i64_neg {a : Nat} (h : a < 2 ^ 63) : bits .xor .i64 (a : Int) (-1) = -1 - (a : Int) := by
  show IntKind.i64.wrap ((BitVec.ofInt 64 a ^^^ BitVec.ofInt 64 (-1)).toNat : Nat) = _
  rw [BitVec.ofInt_natCast, show BitVec.ofInt 64 (-1) = BitVec.allOnes 64 from by decide, BitVec.xor_allOnes, BitVec.toNat_not, BitVec.toNat_ofNat, IntKind.wrap_i64]; omega
theorem unzig_go {z : Nat} (h : z < 2 ^ 64) :
    bits .xor .i64 (IntKind.i64.wrap ((z : Int).fdiv (2 ^ (min 1 IntKind.u64.bits)))) (IntKind.i64.wrap (0 - IntKind.i64.wrap (bits .and .u64 (z : Int) 1))) = unzig z := by
  have e1 : min 1 IntKind.u64.bits = 1 := rfl
  rw [e1, Int.fdiv_eq_ediv_of_nonneg _ (by decide), and1_go z h]
  have e2 : IntKind.i64.wrap ((z : Int) / 2 ^ 1) = ((z / 2 : Nat) : Int) := by rw [IntKind.wrap_i64]; omega
  rw [e2, unzig]
  rcases Nat.mod_two_eq_zero_or_one z with h0 | h0
  · have e3 : IntKind.i64.wrap (0 - IntKind.i64.wrap ((z % 2 : Nat) : Int)) = 0 := by rw [h0]; rfl
    rw [e3, xor_i64_zero (by omega), if_neg (by omega)]
  · have e3 : IntKind.i64.wrap (0 - IntKind.i64.wrap ((z % 2 : Nat) : Int)) = -1 := by rw [h0]; rfl
    rw [e3, xor_i64_neg (by omega), if_pos h0]

/-! ### What the decoding answers, told at a byte -/
theorem dI_bad {b : List UInt8} {i : Nat} (h1 : i ≤ lead 10 b) (h9 : i ≤ 9) (hl : i < b.length) (h : (i = 9 ∧ 1 < (b.getD i 0).toNat) ∨ (0 < i ∧ (b.getD i 0).toNat = 0)) : dI b = (0, 0, 11) := by
  have hs := lead_step 10 b i h1 (by omega) hl
  have hle := lead_le 10 b
  unfold dI
  by_cases hx : (b.getD i 0).toNat < 128
  · have hk := hs.2 hx
    rw [hk, if_neg (by omega), if_neg (by omega), if_pos h]
  · have hk := hs.1 (by omega)
    rw [if_pos (by omega)]
theorem dI_ok {b : List UInt8} {i : Nat} (h1 : i ≤ lead 10 b) (h9 : i ≤ 9) (hl : i < b.length) (h : ¬ ((i = 9 ∧ 1 < (b.getD i 0).toNat) ∨ (0 < i ∧ (b.getD i 0).toNat = 0))) (hx : (b.getD i 0).toNat < 128) : dI b = (unzig (valU (b.take (i + 1))), i + 1, 0) := by
  have hs := lead_step 10 b i h1 (by omega) hl
  have hk := hs.2 hx
  unfold dI
  rw [hk, if_neg (by omega), if_neg (by omega), if_neg h]
theorem dI_end {b : List UInt8} {i : Nat} (h1 : i ≤ lead 10 b) (h9 : i ≤ 9) (hl : b.length ≤ i) : dI b = (0, 0, 10) := by
  have hle := lead_le 10 b
  unfold dI
  rw [if_neg (by omega), if_pos (by omega)]
theorem valU_fit {b : List UInt8} {i : Nat} (h9 : i ≤ 9) (hx : i = 9 → (b.getD i 0).toNat ≤ 1) : valU (b.take i) + 2 ^ (7 * i) * ((b.getD i 0).toNat % 128) < 2 ^ 64 := by
  have hv := valU_take_lt b i
  have hlt : (b.getD i 0).toNat % 128 < 128 := by omega
  generalize valU (b.take i) = v at *
  generalize (b.getD i 0).toNat = x at *
  rcases Nat.lt_or_ge i 9 with h | h
  · have hp : 2 ^ (7 * i) ≤ 2 ^ 56 := Nat.pow_le_pow_right (by decide) (by omega)
    have h2 : 2 ^ (7 * i) * (x % 128) ≤ 2 ^ (7 * i) * 127 := Nat.mul_le_mul_left _ (by omega)
    omega
  · have hi : i = 9 := by omega
    subst hi
    have := hx rfl
    have h2 : 2 ^ (7 * 9) * (x % 128) ≤ 2 ^ (7 * 9) * 1 := Nat.mul_le_mul_left _ (by omega)
    omega

theorem shl_go {c i : Nat} (hi : i ≤ 9) (hc : c < 128) (h : 2 ^ (7 * i) * c < 2 ^ 64) : IntKind.u64.wrap (IntKind.u64.wrap (c : Int) * 2 ^ (min (7 * i) IntKind.u64.bits)) = ((2 ^ (7 * i) * c : Nat) : Int) := by
  have e : min (7 * i) IntKind.u64.bits = 7 * i := by show min (7 * i) 64 = _; omega
  have e2 : ((c : Int) * 2 ^ (7 * i)) = ((2 ^ (7 * i) * c : Nat) : Int) := by rw [Int.mul_comm]; simp
  rw [e, u64_wrap (x := (c : Int)) (by omega) (by omega), e2, u64_wrap (by omega) (by omega)]

theorem or_step {b : List UInt8} {i : Nat} (hi : i ≤ 9) (hl : i < b.length) (hfit : valU (b.take i) + 2 ^ (7 * i) * ((b.getD i 0).toNat % 128) < 2 ^ 64) :
    bits .or .u64 (valU (b.take i) : Int) (IntKind.u64.wrap (IntKind.u64.wrap (((b.getD i 0).toNat % 128 : Nat) : Int) * 2 ^ (min (7 * i) IntKind.u64.bits))) = (valU (b.take (i + 1)) : Int) := by
  rw [shl_go hi (by omega) (by omega), or_u64 (valU_take_lt b i) hfit, ← valU_take b hl]

theorem unzigR {z : Nat} (h : z < 2 ^ 64) : Int.tmod (z : Int) 2 = ((z % 2 : Nat) : Int) ∧
    (z % 2 = 0 → IntKind.i64.wrap (IntKind.u64.wrap (Int.tdiv (z : Int) 2)) = unzig z) ∧ (z % 2 = 1 → IntKind.i64.wrap (-1 - IntKind.i64.wrap (IntKind.u64.wrap (Int.tdiv (z : Int) 2))) = unzig z) := by
  have e : Int.tdiv (z : Int) 2 = ((z / 2 : Nat) : Int) := by rw [Int.tdiv_eq_ediv_of_nonneg (by omega)]; simp
  have e2 : IntKind.u64.wrap ((z / 2 : Nat) : Int) = ((z / 2 : Nat) : Int) := u64_wrap (by omega) (by omega)
  refine ⟨?_, ?_, ?_⟩
  · rw [Int.tmod_eq_emod_of_nonneg (by omega)]; simp
  · intro hm; rw [e, e2, IntKind.wrap_i64, unzig, if_neg (by omega)]; omega
  · intro hm; rw [e, e2, IntKind.wrap_i64, IntKind.wrap_i64, unzig, if_pos (by omega)]; omega

end Wire
end Go.Proofs.Ytijboooekbdinaa
