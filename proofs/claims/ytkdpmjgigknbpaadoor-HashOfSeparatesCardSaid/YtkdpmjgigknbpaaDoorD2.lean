/-
  SHA-256, computed: the same functions, open to the kernel.
-/
import Derived.Test.YtkdpmjgigknbpaaDoorD1
namespace Go.Proofs.YtkdpmjgigknbpaaDoor
namespace Sha
def xC (a b : Nat) : Nat := (a % 4294967296) ^^^ (b % 4294967296)
def nC (a b : Nat) : Nat := (a % 4294967296) &&& (b % 4294967296)
def oC (a b : Nat) : Nat := (a % 4294967296) ||| (b % 4294967296)
def aC (a b : Nat) : Nat := (a + b) % 4294967296
def rC (x i : Nat) : Nat := oC ((x * 2 ^ (32 - i)) % 4294967296) (x / 2 ^ i)
def mC (x i j k : Nat) : Nat := xC (xC (rC x i) (rC x j)) (rC x k)
theorem xC_eq (a b : Nat) : xor32 a b = xC a b := xor32_eq a b
theorem nC_eq (a b : Nat) : and32 a b = nC a b := and32_eq a b
theorem aC_eq (a b : Nat) : add32 a b = aC a b := add32_eq a b
theorem rC_eq (x i : Nat) : rotr x i = rC x i := by rw [rotr, or32_eq, shl32_eq, shr32_eq]; rfl
theorem mC_eq (x i j k : Nat) : mix32 x i j k = mC x i j k := by rw [mix32, rC_eq, rC_eq, rC_eq, xC_eq, xC_eq]; rfl
def beC (b : List UInt8) (t : Nat) : Nat → Nat
  | 0 => 0
  | j + 1 => oC ((beC b t j * 2 ^ 8) % 4294967296) (b.getD (4 * t + j) 0).toNat
theorem beC_eq (b : List UInt8) (t : Nat) : ∀ j, beTo b t j = beC b t j
  | 0 => rfl
  | j + 1 => by simp only [beTo, beC, or32_eq, shl32_eq, beC_eq b t j, oC]
def nextC (b : List UInt8) (l : List Nat) (t : Nat) : Nat :=
  if t < 16 then beC b t 4 else aC (aC (aC (l.getD (t - 16) 0) (xC (xC (rC (l.getD (t - 15) 0) 7) (rC (l.getD (t - 15) 0) 18)) (l.getD (t - 15) 0 / 2 ^ 3))) (l.getD (t - 7) 0)) (xC (xC (rC (l.getD (t - 2) 0) 17) (rC (l.getD (t - 2) 0) 19)) (l.getD (t - 2) 0 / 2 ^ 10))
theorem nextC_eq (b : List UInt8) (l : List Nat) (t : Nat) : nextW b l t = nextC b l t := by
  simp only [nextW, nextC, beC_eq, sig0, sig1, aC_eq, xC_eq, rC_eq, shr32_eq]
/-- A number, reckoned before it is used. -/
def force {α : Type} (n : Nat) (k : Nat → α) : α := match n with
  | 0 => k 0
  | m + 1 => k (m + 1)
theorem force_eq {α : Type} (n : Nat) (k : Nat → α) : force n k = k n := by cases n <;> rfl
def schedC (b : List UInt8) : Nat → Nat → List Nat → List Nat
  | 0, _, l => l
  | k + 1, t, l => force (nextC b l t) fun x => schedC b k (t + 1) (l ++ [x])
theorem schedC_eq (b : List UInt8) : ∀ k t, schedC b k t (schedTo b t) = schedTo b (t + k)
  | 0, t => rfl
  | k + 1, t => by
    rw [schedC, force_eq, ← nextC_eq]
    have := schedC_eq b k (t + 1)
    rw [show t + (k + 1) = t + 1 + k by omega]
    exact this
def roundC (k w : Nat) (s : R8) (f : R8 → List Nat) : List Nat :=
  force (aC (aC (aC (aC s.h (mC s.e 6 11 25)) (xC (nC s.e s.f) (nC (xC 4294967295 s.e) s.g))) k) w) fun x =>
  force (aC x (aC (mC s.a 2 13 22) (xC (xC (nC s.a s.b) (nC s.a s.c)) (nC s.b s.c)))) fun y =>
  force (aC s.d x) fun z => f ⟨y, s.a, s.b, s.c, z, s.e, s.f, s.g⟩
theorem roundC_eq (k w : Nat) (s : R8) (f : R8 → List Nat) : roundC k w s f = f (round k w s) := by
  rw [roundC, force_eq, force_eq, force_eq, round, tem1, tem2]
  simp only [aC_eq, mC_eq, xC_eq, nC_eq]
def rndC (w : List Nat) (f : R8 → List Nat) : Nat → Nat → R8 → List Nat
  | 0, _, s => f s
  | k + 1, t, s => roundC (Abs.rounds.getD t 0) (w.getD t 0) s (rndC w f k (t + 1))
theorem rndC_eq (w : List Nat) (f : R8 → List Nat) (s : R8) : ∀ k t, rndC w f k t (rndTo w s t) = f (rndTo w s (t + k))
  | 0, t => rfl
  | k + 1, t => by
    rw [rndC, roundC_eq]
    have := rndC_eq w f s k (t + 1)
    rw [show t + (k + 1) = t + 1 + k by omega]
    exact this
def sumC (r : R8) : List Nat := [aC r0.a r.a, aC r0.b r.b, aC r0.c r.c, aC r0.d r.d, aC r0.e r.e, aC r0.f r.f, aC r0.g r.g, aC r0.h r.h]
def bytesC4 (x : Nat) : List UInt8 := [UInt8.ofNat (x / 16777216), UInt8.ofNat (x / 65536), UInt8.ofNat (x / 256), UInt8.ofNat x]
/-- The bytes behind one block, from the beginning. -/
def oneC (b : List UInt8) : List UInt8 := (rndC (schedC b 64 0 []) sumC 64 0 r0).flatMap bytesC4
theorem outB_eq (s : R8) : outB s = s.words.flatMap bytesC4 := by
  simp [outB, R8.words, List.range_succ, bytesC4]
theorem oneC_eq (b : List UInt8) : outB (comp r0 b) = oneC b := by
  rw [outB_eq, comp_eq, sched_eq, oneC]
  have e : schedC b 64 0 [] = schedTo b 64 := schedC_eq b 64 0
  have e2 : rndC (schedTo b 64) sumC 64 0 r0 = sumC (rndTo (schedTo b 64) r0 64) := rndC_eq (schedTo b 64) sumC r0 64 0
  rw [e, e2]
  simp only [addR, R8.words, aC_eq, sumC]
/-- A short message: one block. -/
theorem sha_short (l : List UInt8) (h : l.length ≤ 55) : sha l = oneC (l ++ pad l.length) := by
  have hz : zeros l.length = 55 - l.length := by unfold zeros; omega
  have hl : (l ++ pad l.length).length = 64 := by simp [pad, be8, hz]; omega
  have hne : l ++ pad l.length ≠ [] := by intro e; rw [e] at hl; simp at hl
  have hn : (feed s0 l).n = l.length := by rw [feed_n]; show 0 + l.length = _; omega
  have hp := feed_piece (l ++ pad l.length) s0 rfl (by rw [hl]; decide) hne
  rw [hl] at hp
  have e : putB s0.bl (s0.n % 64) (l ++ pad l.length) = l ++ pad l.length := by
    show (List.replicate 64 0).take 0 ++ _ ++ (List.replicate 64 0).drop (0 + _) = _
    rw [hl]; simp
  rw [e] at hp
  rw [sha, fin, hn, ← feed_append, hp, ← oneC_eq]
  rfl
def abc : List UInt8 := [186, 120, 22, 191, 143, 1, 207, 234, 65, 65, 64, 222, 93, 174, 34, 35, 176, 3, 97, 163, 150, 23, 122, 156, 180, 16, 255, 97, 242, 0, 21, 173]
def dig1 : List UInt8 := [75, 245, 18, 47, 52, 69, 84, 197, 59, 222, 46, 187, 140, 210, 183, 227, 209, 96, 10, 214, 49, 195, 133, 165, 215, 204, 226, 60, 119, 133, 69, 154]
theorem sha_abc : sha [97, 98, 99] = abc := by
  rw [sha_short _ (by decide)]
  decide +kernel
theorem sha_one : sha [1] = dig1 := by
  rw [sha_short _ (by decide)]
  decide +kernel
end Sha
end Go.Proofs.YtkdpmjgigknbpaaDoor
