/-
  SHA-256 upon naturals: words, rounds, blocks, streams. No program is named here.
-/
import Derived.Test.YtkdpmjgigknbpaaDoorG
namespace Go.Proofs.YtkdpmjgigknbpaaDoor
namespace Sha
/-- The same, but the kernel does not look into it. -/
noncomputable def hide {α : Type} (a : α) : α := Classical.choose (⟨a, rfl⟩ : ∃ b, b = a)
theorem hide_eq {α : Type} (a : α) : hide a = a := Classical.choose_spec (⟨a, rfl⟩ : ∃ b, b = a)
noncomputable def xor32 : Nat → Nat → Nat := hide fun a b => (a % 4294967296) ^^^ (b % 4294967296)
noncomputable def and32 : Nat → Nat → Nat := hide fun a b => (a % 4294967296) &&& (b % 4294967296)
noncomputable def or32 : Nat → Nat → Nat := hide fun a b => (a % 4294967296) ||| (b % 4294967296)
noncomputable def add32 : Nat → Nat → Nat := hide fun a b => (a + b) % 4294967296
noncomputable def shl32 : Nat → Nat → Nat := hide fun a s => (a * 2 ^ s) % 4294967296
noncomputable def shr32 : Nat → Nat → Nat := hide fun a s => a / 2 ^ s
theorem xor32_eq (a b : Nat) : xor32 a b = (a % 4294967296) ^^^ (b % 4294967296) := by rw [xor32, hide_eq]
theorem and32_eq (a b : Nat) : and32 a b = (a % 4294967296) &&& (b % 4294967296) := by rw [and32, hide_eq]
theorem or32_eq (a b : Nat) : or32 a b = (a % 4294967296) ||| (b % 4294967296) := by rw [or32, hide_eq]
theorem add32_eq (a b : Nat) : add32 a b = (a + b) % 4294967296 := by rw [add32, hide_eq]
theorem shl32_eq (a s : Nat) : shl32 a s = (a * 2 ^ s) % 4294967296 := by rw [shl32, hide_eq]
theorem shr32_eq (a s : Nat) : shr32 a s = a / 2 ^ s := by rw [shr32, hide_eq]
noncomputable def rotr (x i : Nat) : Nat := or32 (shl32 x (32 - i)) (shr32 x i)
noncomputable def mix32 (x i j k : Nat) : Nat := xor32 (xor32 (rotr x i) (rotr x j)) (rotr x k)
theorem xor32_comm (a b : Nat) : xor32 a b = xor32 b a := by rw [xor32_eq, xor32_eq]; exact Nat.xor_comm _ _
theorem or32_comm (a b : Nat) : or32 a b = or32 b a := by rw [or32_eq, or32_eq]; exact Nat.or_comm _ _
/-- A word of a block: four bytes, the first one is the highest. -/
noncomputable def beTo (b : List UInt8) (t : Nat) : Nat → Nat
  | 0 => 0
  | j + 1 => or32 (shl32 (beTo b t j) 8) (b.getD (4 * t + j) 0).toNat
noncomputable def sig0 (p : Nat) : Nat := xor32 (xor32 (rotr p 7) (rotr p 18)) (shr32 p 3)
noncomputable def sig1 (q : Nat) : Nat := xor32 (xor32 (rotr q 17) (rotr q 19)) (shr32 q 10)
noncomputable def nextW (b : List UInt8) (l : List Nat) (t : Nat) : Nat :=
  if t < 16 then beTo b t 4 else add32 (add32 (add32 (l.getD (t - 16) 0) (sig0 (l.getD (t - 15) 0))) (l.getD (t - 7) 0)) (sig1 (l.getD (t - 2) 0))
/-- The message schedule, its first t words. -/
noncomputable def schedTo (b : List UInt8) : Nat → List Nat
  | 0 => []
  | t + 1 => schedTo b t ++ [nextW b (schedTo b t) t]
noncomputable def sched : List UInt8 → List Nat := hide fun b => schedTo b 64
theorem sched_eq (b : List UInt8) : sched b = schedTo b 64 := by rw [sched, hide_eq]
theorem schedTo_length (b : List UInt8) : ∀ t, (schedTo b t).length = t
  | 0 => rfl
  | t + 1 => by simp [schedTo, schedTo_length b t]
/-- The schedule under way: what is to come is 0. -/
noncomputable def schedZ (b : List UInt8) (t : Nat) : List Nat := schedTo b t ++ List.replicate (64 - t) 0
theorem schedZ_length (b : List UInt8) {t : Nat} (h : t ≤ 64) : (schedZ b t).length = 64 := by simp [schedZ, schedTo_length]; omega
theorem schedZ_get (b : List UInt8) {t i : Nat} (h : i < t) : (schedZ b t).getD i 0 = (schedTo b t).getD i 0 := by
  unfold schedZ
  rw [List.getD_eq_getElem?_getD, List.getD_eq_getElem?_getD, List.getElem?_append_left (by rw [schedTo_length]; exact h)]
theorem schedZ_set (b : List UInt8) {t : Nat} (h : t < 64) : (schedZ b t).set t (nextW b (schedTo b t) t) = schedZ b (t + 1) := by
  unfold schedZ
  have hl := schedTo_length b t
  rw [List.set_append_right _ _ (by omega), hl, Nat.sub_self, show 64 - t = (64 - (t + 1)) + 1 by omega, List.replicate_succ, List.set_cons_zero]
  simp [schedTo]
structure R8 where
  a : Nat
  b : Nat
  c : Nat
  d : Nat
  e : Nat
  f : Nat
  g : Nat
  h : Nat
def R8.words (s : R8) : List Nat := [s.a, s.b, s.c, s.d, s.e, s.f, s.g, s.h]
noncomputable def tem1 (s : R8) (k w : Nat) : Nat := add32 (add32 (add32 (add32 s.h (mix32 s.e 6 11 25)) (xor32 (and32 s.e s.f) (and32 (xor32 4294967295 s.e) s.g))) k) w
noncomputable def tem2 (s : R8) : Nat := add32 (mix32 s.a 2 13 22) (xor32 (xor32 (and32 s.a s.b) (and32 s.a s.c)) (and32 s.b s.c))
noncomputable def round (k w : Nat) (s : R8) : R8 := ⟨add32 (tem1 s k w) (tem2 s), s.a, s.b, s.c, add32 s.d (tem1 s k w), s.e, s.f, s.g⟩
noncomputable def rndTo (w : List Nat) (s : R8) : Nat → R8
  | 0 => s
  | t + 1 => round (Abs.rounds.getD t 0) (w.getD t 0) (rndTo w s t)
noncomputable def addR (s r : R8) : R8 := ⟨add32 s.a r.a, add32 s.b r.b, add32 s.c r.c, add32 s.d r.d, add32 s.e r.e, add32 s.f r.f, add32 s.g r.g, add32 s.h r.h⟩
noncomputable def comp : R8 → List UInt8 → R8 := hide fun s b => addR s (rndTo (sched b) s 64)
theorem comp_eq (s : R8) (b : List UInt8) : comp s b = addR s (rndTo (sched b) s 64) := by rw [comp, hide_eq]
def r0 : R8 := ⟨1779033703, 3144134277, 1013904242, 2773480762, 1359893119, 2600822924, 528734635, 1541459225⟩
structure Str where
  st : R8
  bl : List UInt8
  n : Nat
def s0 : Str := ⟨r0, List.replicate 64 0, 0⟩
/-- One byte more. -/
noncomputable def feed1 (s : Str) (x : UInt8) : Str :=
  ⟨if s.n % 64 = 63 then comp s.st (s.bl.set (s.n % 64) x) else s.st, s.bl.set (s.n % 64) x, s.n + 1⟩
noncomputable def feed (s : Str) (l : List UInt8) : Str := l.foldl feed1 s
theorem feed_append (s : Str) (l m : List UInt8) : feed s (l ++ m) = feed (feed s l) m := by unfold feed; rw [List.foldl_append]
theorem feed_cons (s : Str) (x : UInt8) (l : List UInt8) : feed s (x :: l) = feed (feed1 s x) l := rfl
def putB (b : List UInt8) (i : Nat) (l : List UInt8) : List UInt8 := b.take i ++ l ++ b.drop (i + l.length)
theorem putB_length {b : List UInt8} {i : Nat} {l : List UInt8} (h : i + l.length ≤ b.length) : (putB b i l).length = b.length := by
  simp [putB]; omega
theorem putB_cons {b : List UInt8} {i : Nat} {x : UInt8} {l : List UInt8} (h : i < b.length) : putB b i (x :: l) = putB (b.set i x) (i + 1) l := by
  unfold putB
  apply List.ext_getElem?
  intro j
  simp only [List.length_cons, List.append_assoc, List.getElem?_append, List.getElem?_take, List.getElem?_drop, List.length_take, List.length_set, List.getElem?_set]
  have e1 : min i b.length = i := by omega
  have e2 : min (i + 1) b.length = i + 1 := by omega
  rw [e1, e2]
  by_cases h1 : j < i
  · rw [if_pos h1, if_pos (show j < i + 1 by omega), if_pos h1, if_pos (show j < i + 1 by omega), if_neg (by omega)]
  · by_cases h2 : j = i
    · subst h2
      rw [if_neg h1, if_pos (show j < j + 1 by omega)]
      simp [h]
    · rw [if_neg h1, if_neg (show ¬ j < i + 1 by omega)]
      obtain ⟨m, hm⟩ : ∃ m, j - i = m + 1 := ⟨j - i - 1, by omega⟩
      have hm2 : j - (i + 1) = m := by omega
      rw [hm, hm2]
      simp only [List.getElem?_cons_succ, Nat.add_lt_add_iff_right]
      by_cases h3 : m < l.length
      · simp [h3]
      · rw [if_neg (by simpa using h3), if_neg h3, if_neg (by omega)]
        congr 1; omega
/-- A piece that ends within a block. -/
theorem feed_piece : ∀ (l : List UInt8) (s : Str), s.bl.length = 64 → s.n % 64 + l.length ≤ 64 → l ≠ [] →
    feed s l = ⟨if s.n % 64 + l.length = 64 then comp s.st (putB s.bl (s.n % 64) l) else s.st, putB s.bl (s.n % 64) l, s.n + l.length⟩
  | [], s, _, _, h => absurd rfl h
  | [x], s, hb, hl, _ => by
    have hlt : s.n % 64 < 64 := Nat.mod_lt _ (by decide)
    have e : putB s.bl (s.n % 64) [x] = s.bl.set (s.n % 64) x := by
      rw [putB_cons (by omega)]
      unfold putB
      simp
    rw [e]
    show feed1 s x = _
    unfold feed1
    simp only [List.length_singleton]
    congr 1
    by_cases h : s.n % 64 = 63
    · rw [if_pos h, if_pos (by omega)]
    · rw [if_neg h, if_neg (by omega)]
  | x :: y :: l, s, hb, hl, _ => by
    simp only [List.length_cons] at hl
    have e1 : (feed1 s x).n = s.n + 1 := rfl
    have e2 : (feed1 s x).bl = s.bl.set (s.n % 64) x := rfl
    have e3 : (feed1 s x).st = s.st := by
      show (if s.n % 64 = 63 then _ else s.st) = s.st
      rw [if_neg (by omega)]
    have e4 : (s.n + 1) % 64 = s.n % 64 + 1 := by omega
    have ih := feed_piece (y :: l) (feed1 s x) (by rw [e2]; simpa using hb) (by rw [e1, e4]; simp only [List.length_cons]; omega) (by simp)
    rw [feed_cons, ih, e1, e2, e3, e4, ← putB_cons (by omega)]
    simp only [List.length_cons]
    have q1 : s.n % 64 + 1 + (l.length + 1) = s.n % 64 + (l.length + 1 + 1) := by omega
    have q2 : s.n + 1 + (l.length + 1) = s.n + (l.length + 1 + 1) := by omega
    simp only [q1, q2]
theorem feed1_bl (s : Str) (x : UInt8) : (feed1 s x).bl.length = s.bl.length := by simp [feed1]
theorem feed_bl (l : List UInt8) (s : Str) : (feed s l).bl.length = s.bl.length := by
  induction l generalizing s with
  | nil => rfl
  | cons x l ih => rw [feed_cons, ih, feed1_bl]
theorem feed_n (l : List UInt8) (s : Str) : (feed s l).n = s.n + l.length := by
  induction l generalizing s with
  | nil => rfl
  | cons x l ih => rw [feed_cons, ih]; simp only [feed1, List.length_cons]; omega
/-- Eight bytes of a number, the highest first. -/
def be8 (n : Nat) : List UInt8 := (List.range 8).map fun i => UInt8.ofNat (n / 2 ^ (56 - 8 * i))
def zeros (n : Nat) : Nat := (119 - n % 64) % 64
def pad (n : Nat) : List UInt8 := 128 :: List.replicate (zeros n) 0 ++ be8 (8 * n % 18446744073709551616)
def outB (s : R8) : List UInt8 := (List.range 32).map fun i => UInt8.ofNat (s.words.getD (i / 4) 0 / 2 ^ (24 - 8 * (i % 4)))
noncomputable def fin (s : Str) : List UInt8 := outB (feed s (pad s.n)).st
/-- The hash. -/
noncomputable def sha (l : List UInt8) : List UInt8 := fin (feed s0 l)
end Sha
end Go.Proofs.YtkdpmjgigknbpaaDoor
