/-
  Walks: the decoding of lengths and texts.
-/
import Derived.Test.YtijboooekbdinaaM3
import Derived.Test.YtijboooekbdinaaW6
namespace Go.Proofs.Ytijboooekbdinaa
namespace Abs
open Go.RowKit Wire
set_option linter.unusedSimpArgs false
set_option linter.unusedVariables false
theorem spec_length (b : List UInt8) (hb : b.length ≤ 1000000000) (m : Nat) (hm : 0 < m) (hm2 : m ≤ 1000) : SP 42 [.sl none 1 (bytesC b), .v (.int .i64 m)] (tI (dLen m b)) := by
  refine spec_fn (H := H0) (F := F0) Try.func42 rfl Try.ntmps42 Try.results42 (by kernel_rfl) rfl (by simp) ?_
  simp only [zz0, zz1, zz2, zz3, zz4, zz5, zz6, zz7, zz8, zz9, zz10, zz11, zz12, zz13, zz14, gateAt, noAssign, resKeys, killAll, siteDsts, isSite, refs, killL, killAV, st0, number, ev, exSl, bnd, bndOK, cellsAV, plain, ofCV, argsOf, argOf, srcOf, partsV, fillC, repeatL, resOf, binV, shV, intV, isShift, strV, unV, ares, ares1, isNilSl, reduceCtorEq, Nat.reduceBEq, Nat.reduceAdd, Nat.reduceSub, Nat.reduceMul, Nat.reduceLT, Nat.reduceLeDiff, Nat.reduceDiv, Nat.reduceEqDiff, Int.reduceToNat, CV.one, Value.oneCell', Int.reduceLT, Int.reduceLE, Int.reduceNeg, Int.reduceEq, GV, H0, F0, putL, Int.reduceBEq, Int.reduceBNe]
  refine call_by (spec_GetInt b hb) ?_
  have hf := dI_facts b
  have hD : dLen m b = if (dI b).2.2 ≠ 0 then (0, 0, (dI b).2.2) else if (dI b).1 < 0 then (0, 0, 11) else if ((b.length - (dI b).2.1) / m : Nat) < (dI b).1 then (0, 0, 10) else ((dI b).1, (dI b).2.1, 0) := rfl
  generalize dI b = r at *
  obtain ⟨n, u, e⟩ := r
  simp only at hf hD
  by_cases he : e = 0
  · subst he
    rw [if_neg (by simp)] at hD
    by_cases hn : n < 0
    · rw [if_pos hn] at hD
      have g : decide (n < 0) = true := decide_eq_true hn
      simp only [zz0, zz1, zz2, zz3, zz4, zz5, zz6, zz7, zz8, zz9, zz10, zz11, zz12, zz13, zz14, gateAt, noAssign, resKeys, killAll, siteDsts, isSite, refs, killL, killAV, st0, number, ev, exSl, bnd, bndOK, cellsAV, plain, ofCV, argsOf, argOf, srcOf, partsV, fillC, repeatL, resOf, binV, shV, intV, isShift, strV, unV, ares, ares1, isNilSl, reduceCtorEq, Nat.reduceBEq, Nat.reduceAdd, Nat.reduceSub, Nat.reduceMul, Nat.reduceLT, Nat.reduceLeDiff, Nat.reduceDiv, Nat.reduceEqDiff, Int.reduceToNat, CV.one, Value.oneCell', Int.reduceLT, Int.reduceLE, Int.reduceNeg, Int.reduceEq, GV, H0, F0, putL, Int.reduceBEq, Int.reduceBNe, tI, g, hD]
    · rw [if_neg hn] at hD
      have g : decide (n < 0) = false := decide_eq_false hn
      have q : IntKind.i64.wrap (Int.tdiv (IntKind.i64.wrap ((b.length : Int) - (u : Int))) (m : Int)) = ((b.length - u) / m : Nat) := by
        have h2 : (b.length - u) / m ≤ b.length - u := Nat.div_le_self _ _
        have h3 := Int.natCast_nonneg ((b.length - u) / m)
        rw [i64_wrap (x := (b.length : Int) - (u : Int)) (by omega) (by omega), show (b.length : Int) - (u : Int) = ((b.length - u : Nat) : Int) by omega, Int.tdiv_eq_ediv_of_nonneg (by omega), ← Int.natCast_ediv]
        exact i64_wrap (by omega) (by omega)
      have m0 : ((m : Int) = 0) = False := eq_false (by omega)
      by_cases hq : ((b.length - u) / m : Nat) < n
      · rw [if_pos hq] at hD
        have g2 : decide (n > (((b.length - u) / m : Nat) : Int)) = true := decide_eq_true hq
        simp only [zz0, zz1, zz2, zz3, zz4, zz5, zz6, zz7, zz8, zz9, zz10, zz11, zz12, zz13, zz14, gateAt, noAssign, resKeys, killAll, siteDsts, isSite, refs, killL, killAV, st0, number, ev, exSl, bnd, bndOK, cellsAV, plain, ofCV, argsOf, argOf, srcOf, partsV, fillC, repeatL, resOf, binV, shV, intV, isShift, strV, unV, ares, ares1, isNilSl, reduceCtorEq, Nat.reduceBEq, Nat.reduceAdd, Nat.reduceSub, Nat.reduceMul, Nat.reduceLT, Nat.reduceLeDiff, Nat.reduceDiv, Nat.reduceEqDiff, Int.reduceToNat, CV.one, Value.oneCell', Int.reduceLT, Int.reduceLE, Int.reduceNeg, Int.reduceEq, GV, H0, F0, putL, Int.reduceBEq, Int.reduceBNe, tI, g, hD, q, m0, g2]
      · rw [if_neg hq] at hD
        have g2 : decide (n > (((b.length - u) / m : Nat) : Int)) = false := decide_eq_false hq
        simp only [zz0, zz1, zz2, zz3, zz4, zz5, zz6, zz7, zz8, zz9, zz10, zz11, zz12, zz13, zz14, gateAt, noAssign, resKeys, killAll, siteDsts, isSite, refs, killL, killAV, st0, number, ev, exSl, bnd, bndOK, cellsAV, plain, ofCV, argsOf, argOf, srcOf, partsV, fillC, repeatL, resOf, binV, shV, intV, isShift, strV, unV, ares, ares1, isNilSl, reduceCtorEq, Nat.reduceBEq, Nat.reduceAdd, Nat.reduceSub, Nat.reduceMul, Nat.reduceLT, Nat.reduceLeDiff, Nat.reduceDiv, Nat.reduceEqDiff, Int.reduceToNat, CV.one, Value.oneCell', Int.reduceLT, Int.reduceLE, Int.reduceNeg, Int.reduceEq, GV, H0, F0, putL, Int.reduceBEq, Int.reduceBNe, tI, g, hD, q, m0, g2]
  · rw [if_pos he] at hD
    have e0 : ((e : Int) != 0) = true := by simp [he]
    simp only [zz0, zz1, zz2, zz3, zz4, zz5, zz6, zz7, zz8, zz9, zz10, zz11, zz12, zz13, zz14, gateAt, noAssign, resKeys, killAll, siteDsts, isSite, refs, killL, killAV, st0, number, ev, exSl, bnd, bndOK, cellsAV, plain, ofCV, argsOf, argOf, srcOf, partsV, fillC, repeatL, resOf, binV, shV, intV, isShift, strV, unV, ares, ares1, isNilSl, reduceCtorEq, Nat.reduceBEq, Nat.reduceAdd, Nat.reduceSub, Nat.reduceMul, Nat.reduceLT, Nat.reduceLeDiff, Nat.reduceDiv, Nat.reduceEqDiff, Int.reduceToNat, CV.one, Value.oneCell', Int.reduceLT, Int.reduceLE, Int.reduceNeg, Int.reduceEq, GV, H0, F0, putL, Int.reduceBEq, Int.reduceBNe, tI, e0, hD]
theorem spec_Rlength (b : List UInt8) (hb : b.length ≤ 1000000000) (m : Nat) (hm : 0 < m) (hm2 : m ≤ 1000) : SP 44 [.sl none 1 (bytesC b), .v (.int .i64 m)] (tI (dLen m b)) := by
  refine spec_fn (H := H0) (F := F0) Try.func44 rfl Try.ntmps44 Try.results44 (by kernel_rfl) rfl (by simp) ?_
  simp only [zz0, zz1, zz2, zz3, zz4, zz5, zz6, zz7, zz8, zz9, zz10, zz11, zz12, zz13, zz14, gateAt, noAssign, resKeys, killAll, siteDsts, isSite, refs, killL, killAV, st0, number, ev, exSl, bnd, bndOK, cellsAV, plain, ofCV, argsOf, argOf, srcOf, partsV, fillC, repeatL, resOf, binV, shV, intV, isShift, strV, unV, ares, ares1, isNilSl, reduceCtorEq, Nat.reduceBEq, Nat.reduceAdd, Nat.reduceSub, Nat.reduceMul, Nat.reduceLT, Nat.reduceLeDiff, Nat.reduceDiv, Nat.reduceEqDiff, Int.reduceToNat, CV.one, Value.oneCell', Int.reduceLT, Int.reduceLE, Int.reduceNeg, Int.reduceEq, GV, H0, F0, putL, Int.reduceBEq, Int.reduceBNe]
  refine call_by (spec_RGetInt b hb) ?_
  have hf := dI_facts b
  have hD : dLen m b = if (dI b).2.2 ≠ 0 then (0, 0, (dI b).2.2) else if (dI b).1 < 0 then (0, 0, 11) else if ((b.length - (dI b).2.1) / m : Nat) < (dI b).1 then (0, 0, 10) else ((dI b).1, (dI b).2.1, 0) := rfl
  generalize dI b = r at *
  obtain ⟨n, u, e⟩ := r
  simp only at hf hD
  by_cases he : e = 0
  · subst he
    rw [if_neg (by simp)] at hD
    by_cases hn : n < 0
    · rw [if_pos hn] at hD
      have g : decide (n < 0) = true := decide_eq_true hn
      simp only [zz0, zz1, zz2, zz3, zz4, zz5, zz6, zz7, zz8, zz9, zz10, zz11, zz12, zz13, zz14, gateAt, noAssign, resKeys, killAll, siteDsts, isSite, refs, killL, killAV, st0, number, ev, exSl, bnd, bndOK, cellsAV, plain, ofCV, argsOf, argOf, srcOf, partsV, fillC, repeatL, resOf, binV, shV, intV, isShift, strV, unV, ares, ares1, isNilSl, reduceCtorEq, Nat.reduceBEq, Nat.reduceAdd, Nat.reduceSub, Nat.reduceMul, Nat.reduceLT, Nat.reduceLeDiff, Nat.reduceDiv, Nat.reduceEqDiff, Int.reduceToNat, CV.one, Value.oneCell', Int.reduceLT, Int.reduceLE, Int.reduceNeg, Int.reduceEq, GV, H0, F0, putL, Int.reduceBEq, Int.reduceBNe, tI, g, hD]
    · rw [if_neg hn] at hD
      have g : decide (n < 0) = false := decide_eq_false hn
      have q : IntKind.i64.wrap (Int.tdiv (IntKind.i64.wrap ((b.length : Int) - (u : Int))) (m : Int)) = ((b.length - u) / m : Nat) := by
        have h2 : (b.length - u) / m ≤ b.length - u := Nat.div_le_self _ _
        have h3 := Int.natCast_nonneg ((b.length - u) / m)
        rw [i64_wrap (x := (b.length : Int) - (u : Int)) (by omega) (by omega), show (b.length : Int) - (u : Int) = ((b.length - u : Nat) : Int) by omega, Int.tdiv_eq_ediv_of_nonneg (by omega), ← Int.natCast_ediv]
        exact i64_wrap (by omega) (by omega)
      have m0 : ((m : Int) = 0) = False := eq_false (by omega)
      by_cases hq : ((b.length - u) / m : Nat) < n
      · rw [if_pos hq] at hD
        have g2 : decide (n > (((b.length - u) / m : Nat) : Int)) = true := decide_eq_true hq
        simp only [zz0, zz1, zz2, zz3, zz4, zz5, zz6, zz7, zz8, zz9, zz10, zz11, zz12, zz13, zz14, gateAt, noAssign, resKeys, killAll, siteDsts, isSite, refs, killL, killAV, st0, number, ev, exSl, bnd, bndOK, cellsAV, plain, ofCV, argsOf, argOf, srcOf, partsV, fillC, repeatL, resOf, binV, shV, intV, isShift, strV, unV, ares, ares1, isNilSl, reduceCtorEq, Nat.reduceBEq, Nat.reduceAdd, Nat.reduceSub, Nat.reduceMul, Nat.reduceLT, Nat.reduceLeDiff, Nat.reduceDiv, Nat.reduceEqDiff, Int.reduceToNat, CV.one, Value.oneCell', Int.reduceLT, Int.reduceLE, Int.reduceNeg, Int.reduceEq, GV, H0, F0, putL, Int.reduceBEq, Int.reduceBNe, tI, g, hD, q, m0, g2]
      · rw [if_neg hq] at hD
        have g2 : decide (n > (((b.length - u) / m : Nat) : Int)) = false := decide_eq_false hq
        simp only [zz0, zz1, zz2, zz3, zz4, zz5, zz6, zz7, zz8, zz9, zz10, zz11, zz12, zz13, zz14, gateAt, noAssign, resKeys, killAll, siteDsts, isSite, refs, killL, killAV, st0, number, ev, exSl, bnd, bndOK, cellsAV, plain, ofCV, argsOf, argOf, srcOf, partsV, fillC, repeatL, resOf, binV, shV, intV, isShift, strV, unV, ares, ares1, isNilSl, reduceCtorEq, Nat.reduceBEq, Nat.reduceAdd, Nat.reduceSub, Nat.reduceMul, Nat.reduceLT, Nat.reduceLeDiff, Nat.reduceDiv, Nat.reduceEqDiff, Int.reduceToNat, CV.one, Value.oneCell', Int.reduceLT, Int.reduceLE, Int.reduceNeg, Int.reduceEq, GV, H0, F0, putL, Int.reduceBEq, Int.reduceBNe, tI, g, hD, q, m0, g2]
  · rw [if_pos he] at hD
    have e0 : ((e : Int) != 0) = true := by simp [he]
    simp only [zz0, zz1, zz2, zz3, zz4, zz5, zz6, zz7, zz8, zz9, zz10, zz11, zz12, zz13, zz14, gateAt, noAssign, resKeys, killAll, siteDsts, isSite, refs, killL, killAV, st0, number, ev, exSl, bnd, bndOK, cellsAV, plain, ofCV, argsOf, argOf, srcOf, partsV, fillC, repeatL, resOf, binV, shV, intV, isShift, strV, unV, ares, ares1, isNilSl, reduceCtorEq, Nat.reduceBEq, Nat.reduceAdd, Nat.reduceSub, Nat.reduceMul, Nat.reduceLT, Nat.reduceLeDiff, Nat.reduceDiv, Nat.reduceEqDiff, Int.reduceToNat, CV.one, Value.oneCell', Int.reduceLT, Int.reduceLE, Int.reduceNeg, Int.reduceEq, GV, H0, F0, putL, Int.reduceBEq, Int.reduceBNe, tI, e0, hD]
def tB (r : List UInt8 × Nat × Nat) : AV := .tup (.v (.string ⟨r.1.toArray⟩)) (.int .i64 r.2.1) (.int .i64 r.2.2)
theorem spec_GetBytes (b : List UInt8) (hb : b.length ≤ 1000000000) : SP 26 [.sl none 1 (bytesC b)] (tB (dB b)) := by
  refine spec_fn (H := H0) (F := F0) Try.func26 rfl Try.ntmps26 Try.results26 (by kernel_rfl) rfl (by simp) ?_
  simp only [zz0, zz1, zz2, zz3, zz4, zz5, zz6, zz7, zz8, zz9, zz10, zz11, zz12, zz13, zz14, gateAt, noAssign, resKeys, killAll, siteDsts, isSite, refs, killL, killAV, st0, number, ev, exSl, bnd, bndOK, cellsAV, plain, ofCV, argsOf, argOf, srcOf, partsV, fillC, repeatL, resOf, binV, shV, intV, isShift, strV, unV, ares, ares1, isNilSl, reduceCtorEq, Nat.reduceBEq, Nat.reduceAdd, Nat.reduceSub, Nat.reduceMul, Nat.reduceLT, Nat.reduceLeDiff, Nat.reduceDiv, Nat.reduceEqDiff, Int.reduceToNat, CV.one, Value.oneCell', Int.reduceLT, Int.reduceLE, Int.reduceNeg, Int.reduceEq, GV, H0, F0, putL, Int.reduceBEq, Int.reduceBNe]
  refine call_by (spec_length b hb 1 (by omega) (by omega)) ?_
  have hf := dLen_facts 1 b
  unfold dB
  generalize dLen 1 b = r at *
  obtain ⟨n, u, e⟩ := r
  simp only at hf ⊢
  by_cases he : e = 0
  · subst he
    obtain ⟨k, rfl⟩ : ∃ k : Nat, n = k := ⟨n.toNat, by omega⟩
    have hk : k ≤ b.length - u := by have := hf.2.1; rw [Nat.div_one] at this; omega
    have ws : IntKind.i64.wrap ((u : Int) + (k : Int)) = ((u + k : Nat) : Int) := by rw [i64_wrap (by omega) (by omega)]; omega
    simp only [zz0, zz1, zz2, zz3, zz4, zz5, zz6, zz7, zz8, zz9, zz10, zz11, zz12, zz13, zz14, gateAt, noAssign, resKeys, killAll, siteDsts, isSite, refs, killL, killAV, st0, number, ev, exSl, bnd, bndOK, cellsAV, plain, ofCV, argsOf, argOf, srcOf, partsV, fillC, repeatL, resOf, binV, shV, intV, isShift, strV, unV, ares, ares1, isNilSl, reduceCtorEq, Nat.reduceBEq, Nat.reduceAdd, Nat.reduceSub, Nat.reduceMul, Nat.reduceLT, Nat.reduceLeDiff, Nat.reduceDiv, Nat.reduceEqDiff, Int.reduceToNat, CV.one, Value.oneCell', Int.reduceLT, Int.reduceLE, Int.reduceNeg, Int.reduceEq, GV, H0, F0, putL, Int.reduceBEq, Int.reduceBNe, tI, tB, ws]
    refine ⟨by omega, by omega, ?_⟩
    rw [List.drop_take, show u + k - u = k by omega]
  · have e0 : ((e : Int) != 0) = true := by simp [he]
    simp only [zz0, zz1, zz2, zz3, zz4, zz5, zz6, zz7, zz8, zz9, zz10, zz11, zz12, zz13, zz14, gateAt, noAssign, resKeys, killAll, siteDsts, isSite, refs, killL, killAV, st0, number, ev, exSl, bnd, bndOK, cellsAV, plain, ofCV, argsOf, argOf, srcOf, partsV, fillC, repeatL, resOf, binV, shV, intV, isShift, strV, unV, ares, ares1, isNilSl, reduceCtorEq, Nat.reduceBEq, Nat.reduceAdd, Nat.reduceSub, Nat.reduceMul, Nat.reduceLT, Nat.reduceLeDiff, Nat.reduceDiv, Nat.reduceEqDiff, Int.reduceToNat, CV.one, Value.oneCell', Int.reduceLT, Int.reduceLE, Int.reduceNeg, Int.reduceEq, GV, H0, F0, putL, Int.reduceBEq, Int.reduceBNe, tI, tB, e0, he]
theorem spec_RGetBytes (b : List UInt8) (hb : b.length ≤ 1000000000) : SP 27 [.sl none 1 (bytesC b)] (tB (dB b)) := by
  refine spec_fn (H := H0) (F := F0) Try.func27 rfl Try.ntmps27 Try.results27 (by kernel_rfl) rfl (by simp) ?_
  simp only [zz0, zz1, zz2, zz3, zz4, zz5, zz6, zz7, zz8, zz9, zz10, zz11, zz12, zz13, zz14, gateAt, noAssign, resKeys, killAll, siteDsts, isSite, refs, killL, killAV, st0, number, ev, exSl, bnd, bndOK, cellsAV, plain, ofCV, argsOf, argOf, srcOf, partsV, fillC, repeatL, resOf, binV, shV, intV, isShift, strV, unV, ares, ares1, isNilSl, reduceCtorEq, Nat.reduceBEq, Nat.reduceAdd, Nat.reduceSub, Nat.reduceMul, Nat.reduceLT, Nat.reduceLeDiff, Nat.reduceDiv, Nat.reduceEqDiff, Int.reduceToNat, CV.one, Value.oneCell', Int.reduceLT, Int.reduceLE, Int.reduceNeg, Int.reduceEq, GV, H0, F0, putL, Int.reduceBEq, Int.reduceBNe]
  refine call_by (spec_RGetInt b hb) ?_
  have hf := dI_facts b
  have hD : dLen 1 b = if (dI b).2.2 ≠ 0 then (0, 0, (dI b).2.2) else if (dI b).1 < 0 then (0, 0, 11) else if ((b.length - (dI b).2.1) / 1 : Nat) < (dI b).1 then (0, 0, 10) else ((dI b).1, (dI b).2.1, 0) := rfl
  unfold dB
  generalize dI b = r at *
  obtain ⟨n, u, e⟩ := r
  simp only [Nat.div_one] at hf hD
  by_cases he : e = 0
  · subst he
    rw [if_neg (by simp)] at hD
    by_cases hn : n < 0
    · rw [if_pos hn] at hD
      have g : decide (n < 0) = true := decide_eq_true hn
      rw [hD]
      simp only [zz0, zz1, zz2, zz3, zz4, zz5, zz6, zz7, zz8, zz9, zz10, zz11, zz12, zz13, zz14, gateAt, noAssign, resKeys, killAll, siteDsts, isSite, refs, killL, killAV, st0, number, ev, exSl, bnd, bndOK, cellsAV, plain, ofCV, argsOf, argOf, srcOf, partsV, fillC, repeatL, resOf, binV, shV, intV, isShift, strV, unV, ares, ares1, isNilSl, reduceCtorEq, Nat.reduceBEq, Nat.reduceAdd, Nat.reduceSub, Nat.reduceMul, Nat.reduceLT, Nat.reduceLeDiff, Nat.reduceDiv, Nat.reduceEqDiff, Int.reduceToNat, CV.one, Value.oneCell', Int.reduceLT, Int.reduceLE, Int.reduceNeg, Int.reduceEq, GV, H0, F0, putL, Int.reduceBEq, Int.reduceBNe, tI, tB, g, Nat.reduceEqDiff]
    · rw [if_neg hn] at hD
      have g : decide (n < 0) = false := decide_eq_false hn
      obtain ⟨k, rfl⟩ : ∃ k : Nat, n = k := ⟨n.toNat, by omega⟩
      have q : IntKind.i64.wrap ((b.length : Int) - (u : Int)) = ((b.length - u : Nat) : Int) := by rw [i64_wrap (by omega) (by omega)]; omega
      have ws : IntKind.i64.wrap ((u : Int) + (k : Int)) = ((u + k : Nat) : Int) ∨ b.length < k := by
        by_cases h : b.length < k
        · exact .inr h
        · exact .inl (by rw [i64_wrap (by omega) (by omega)]; omega)
      by_cases hq : ((b.length - u : Nat) : Int) < k
      · rw [if_pos hq] at hD
        have g2 : decide ((k : Int) > ((b.length - u : Nat) : Int)) = true := decide_eq_true hq
        rw [hD]
        simp only [zz0, zz1, zz2, zz3, zz4, zz5, zz6, zz7, zz8, zz9, zz10, zz11, zz12, zz13, zz14, gateAt, noAssign, resKeys, killAll, siteDsts, isSite, refs, killL, killAV, st0, number, ev, exSl, bnd, bndOK, cellsAV, plain, ofCV, argsOf, argOf, srcOf, partsV, fillC, repeatL, resOf, binV, shV, intV, isShift, strV, unV, ares, ares1, isNilSl, reduceCtorEq, Nat.reduceBEq, Nat.reduceAdd, Nat.reduceSub, Nat.reduceMul, Nat.reduceLT, Nat.reduceLeDiff, Nat.reduceDiv, Nat.reduceEqDiff, Int.reduceToNat, CV.one, Value.oneCell', Int.reduceLT, Int.reduceLE, Int.reduceNeg, Int.reduceEq, GV, H0, F0, putL, Int.reduceBEq, Int.reduceBNe, tI, tB, g, q, g2]
      · rw [if_neg hq] at hD
        have g2 : decide ((k : Int) > ((b.length - u : Nat) : Int)) = false := decide_eq_false hq
        have ws' : IntKind.i64.wrap ((u : Int) + (k : Int)) = ((u + k : Nat) : Int) := by rcases ws with h | h <;> omega
        rw [hD]
        simp only [zz0, zz1, zz2, zz3, zz4, zz5, zz6, zz7, zz8, zz9, zz10, zz11, zz12, zz13, zz14, gateAt, noAssign, resKeys, killAll, siteDsts, isSite, refs, killL, killAV, st0, number, ev, exSl, bnd, bndOK, cellsAV, plain, ofCV, argsOf, argOf, srcOf, partsV, fillC, repeatL, resOf, binV, shV, intV, isShift, strV, unV, ares, ares1, isNilSl, reduceCtorEq, Nat.reduceBEq, Nat.reduceAdd, Nat.reduceSub, Nat.reduceMul, Nat.reduceLT, Nat.reduceLeDiff, Nat.reduceDiv, Nat.reduceEqDiff, Int.reduceToNat, CV.one, Value.oneCell', Int.reduceLT, Int.reduceLE, Int.reduceNeg, Int.reduceEq, GV, H0, F0, putL, Int.reduceBEq, Int.reduceBNe, tI, tB, g, q, g2, ws']
        refine ⟨by omega, by omega, ?_⟩
        rw [List.drop_take, show u + k - u = k by omega]
  · rw [if_pos he] at hD
    have e0 : ((e : Int) != 0) = true := by simp [he]
    rw [hD]
    simp only [zz0, zz1, zz2, zz3, zz4, zz5, zz6, zz7, zz8, zz9, zz10, zz11, zz12, zz13, zz14, gateAt, noAssign, resKeys, killAll, siteDsts, isSite, refs, killL, killAV, st0, number, ev, exSl, bnd, bndOK, cellsAV, plain, ofCV, argsOf, argOf, srcOf, partsV, fillC, repeatL, resOf, binV, shV, intV, isShift, strV, unV, ares, ares1, isNilSl, reduceCtorEq, Nat.reduceBEq, Nat.reduceAdd, Nat.reduceSub, Nat.reduceMul, Nat.reduceLT, Nat.reduceLeDiff, Nat.reduceDiv, Nat.reduceEqDiff, Int.reduceToNat, CV.one, Value.oneCell', Int.reduceLT, Int.reduceLE, Int.reduceNeg, Int.reduceEq, GV, H0, F0, putL, Int.reduceBEq, Int.reduceBNe, tI, tB, e0, he]
end Abs
end Go.Proofs.Ytijboooekbdinaa
