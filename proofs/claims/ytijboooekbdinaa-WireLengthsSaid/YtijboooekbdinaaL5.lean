/-
  The walk of WireLengths.
-/
import Derived.Test.YtijboooekbdinaaM8
import Derived.Test.YtijboooekbdinaaV
namespace Go.Proofs.Ytijboooekbdinaa
namespace Abs
open Go.RowKit Wire
set_option linter.unusedSimpArgs false
set_option linter.unusedVariables false
def F5 : Nat → Nat → List Nat × List Nat := fun _ k => if k = 4 then ([], [76]) else if k = 5 then ([76], []) else ([5, 6], [])
set_option maxRecDepth 100000 in
set_option maxHeartbeats 8000000 in
theorem spec_Lengths (m n : Int) (h1 : -9223372036854775808 ≤ m) (h2 : m ≤ 9223372036854775807) (h3 : -9223372036854775808 ≤ n) (h4 : n ≤ 9223372036854775807) : SP 5 [.v (.int .i64 m), .v (.int .i64 n)] (.v (.bool true)) := by
  refine spec_fn (H := H0) (F := F5) Try.func5 rfl Try.ntmps5 Try.results5 (by kernel_rfl) rfl (by simp) ?_
  have w1 : IntKind.i64.wrap (-1 - m) = -1 - m := i64_wrap (by omega) (by omega)
  have w2 : IntKind.i64.wrap (-1 - n) = -1 - n := i64_wrap (by omega) (by omega)
  have f1 : (if -1 - m > m then -1 - m else m) = far m := rfl
  have f2 : (if -1 - n > n then -1 - n else n) = far n := rfl
  have k1 := len_encI h1 h2
  have k2 : 0 < (encI m).length := len_encU_pos _
  have k3 : 0 < (encI n).length := len_encU_pos _
  have k4 := len_one m
  have k5 : far m ≤ far n → (encI m).length ≤ (encI n).length := len_le
  have k6 : far n ≤ far m → (encI n).length ≤ (encI m).length := len_le
  have k7 := len_neg m
  have hpre := pre_iff h1 h2 h3 h4 (k := min (encI m).length (encI n).length) rfl
  have g1 : (((encI m).length : Int) == 1) = decide (far m < 64) := by
    by_cases h : far m < 64
    · rw [decide_eq_true h, beq_iff_eq]; have := k4.2 h; omega
    · rw [decide_eq_false h, beq_eq_false_iff_ne]; intro e; exact h (k4.1 (by omega))
  have g2 : decide (((encI m).length : Int) > 10) = false := decide_eq_false (by omega)
  have g3 : (((encI m).length : Int) == 0) = false := by rw [beq_eq_false_iff_ne]; omega
  have g4 : (((encI n).length : Int) == 0) = false := by rw [beq_eq_false_iff_ne]; omega
  have g5 : (if ((encI n).length : Int) < ((encI m).length : Int) then ((encI n).length : Int) else ((encI m).length : Int)) = ((min (encI m).length (encI n).length : Nat) : Int) := by split <;> omega
  have hfin : (List.take (min (encI m).length (encI n).length) (encI m) == List.take (min (encI m).length (encI n).length) (encI n)) = (m == n) := by
    by_cases h : m = n
    · rw [beq_iff_eq.2 (hpre.2 h), beq_iff_eq.2 h]
    · rw [beq_eq_false_iff_ne.2 (fun e => h (hpre.1 e)), beq_eq_false_iff_ne.2 h]
  obtain ⟨c1, d1⟩ : ∃ c, decide (far m ≤ far n) = c := ⟨_, rfl⟩
  obtain ⟨c2, d2⟩ : ∃ c, decide (far n ≤ far m) = c := ⟨_, rfl⟩
  have q1 : c1 = true → decide (((encI m).length : Int) > ((encI n).length : Int)) = false := fun h => decide_eq_false (by have := k5 (of_decide_eq_true (d1.trans h)); omega)
  have q2 : c2 = true → decide (((encI n).length : Int) > ((encI m).length : Int)) = false := fun h => decide_eq_false (by have := k6 (of_decide_eq_true (d2.trans h)); omega)
  simp only [zz0, zz1, zz2, zz3, zz4, zz5, zz6, zz7, zz8, zz9, zz10, zz11, zz12, zz13, zz14, gateAt, noAssign, resKeys, killAll, siteDsts, isSite, refs, killL, killAV, st0, number, ev, exSl, bnd, bndOK, cellsAV, plain, ofCV, argsOf, argOf, srcOf, partsV, fillC, repeatL, resOf, binV, shV, intV, isShift, strV, unV, ares, ares1, isNilSl, reduceCtorEq, Nat.reduceBEq, Nat.reduceAdd, Nat.reduceSub, Nat.reduceMul, Nat.reduceLT, Nat.reduceLeDiff, Nat.reduceDiv, Nat.reduceEqDiff, Int.reduceToNat, CV.one, Value.oneCell', Int.reduceLT, Int.reduceLE, Int.reduceNeg, Int.reduceEq, GV, H0, F0, putL, Int.reduceBEq, Int.reduceBNe, ↓reduceIte, callOps_value, callOps_builtin, F5, Bool.true_or, Bool.or_true, Bool.or_false, Bool.false_or, Nat.zero_le, Nat.min_le_left, Nat.min_le_right, List.append_eq, beq_self_eq_true]
  refine call_by (spec_Int m h1 h2) ?_
  simp only [zz0, zz1, zz2, zz3, zz4, zz5, zz6, zz7, zz8, zz9, zz10, zz11, zz12, zz13, zz14, gateAt, noAssign, resKeys, killAll, siteDsts, isSite, refs, killL, killAV, st0, number, ev, exSl, bnd, bndOK, cellsAV, plain, ofCV, argsOf, argOf, srcOf, partsV, fillC, repeatL, resOf, binV, shV, intV, isShift, strV, unV, ares, ares1, isNilSl, reduceCtorEq, Nat.reduceBEq, Nat.reduceAdd, Nat.reduceSub, Nat.reduceMul, Nat.reduceLT, Nat.reduceLeDiff, Nat.reduceDiv, Nat.reduceEqDiff, Int.reduceToNat, CV.one, Value.oneCell', Int.reduceLT, Int.reduceLE, Int.reduceNeg, Int.reduceEq, GV, H0, F0, putL, Int.reduceBEq, Int.reduceBNe, ↓reduceIte, callOps_value, callOps_builtin, F5, Bool.true_or, Bool.or_true, Bool.or_false, Bool.false_or, Nat.zero_le, Nat.min_le_left, Nat.min_le_right, List.append_eq, beq_self_eq_true]
  refine call_by (spec_Int n h3 h4) ?_
  cases c1 <;> cases c2
  all_goals
    simp (maxSteps := 1000000) only [zz0, zz1, zz2, zz3, zz4, zz5, zz6, zz7, zz8, zz9, zz10, zz11, zz12, zz13, zz14, gateAt, noAssign, resKeys, killAll, siteDsts, isSite, refs, killL, killAV, st0, number, ev, exSl, bnd, bndOK, cellsAV, plain, ofCV, argsOf, argOf, srcOf, partsV, fillC, repeatL, resOf, binV, shV, intV, isShift, strV, unV, ares, ares1, isNilSl, reduceCtorEq, Nat.reduceBEq, Nat.reduceAdd, Nat.reduceSub, Nat.reduceMul, Nat.reduceLT, Nat.reduceLeDiff, Nat.reduceDiv, Nat.reduceEqDiff, Int.reduceToNat, CV.one, Value.oneCell', Int.reduceLT, Int.reduceLE, Int.reduceNeg, Int.reduceEq, GV, H0, F0, putL, Int.reduceBEq, Int.reduceBNe, ↓reduceIte, callOps_value, callOps_builtin, F5, Bool.true_or, Bool.or_true, Bool.or_false, Bool.false_or, Nat.zero_le, Nat.min_le_left, Nat.min_le_right, List.append_eq, beq_self_eq_true, w1, w2, f1, f2, d1, d2, q1, q2, g1, g2, g3, g4, g5, bne_self_eq_false]
  all_goals
    refine ⟨by kernel_rfl, ?_⟩
    refine call_by spec_sanity ?_
    simp (maxSteps := 1000000) only [zz0, zz1, zz2, zz3, zz4, zz5, zz6, zz7, zz8, zz9, zz10, zz11, zz12, zz13, zz14, gateAt, noAssign, resKeys, killAll, siteDsts, isSite, refs, killL, killAV, st0, number, ev, exSl, bnd, bndOK, cellsAV, plain, ofCV, argsOf, argOf, srcOf, partsV, fillC, repeatL, resOf, binV, shV, intV, isShift, strV, unV, ares, ares1, isNilSl, reduceCtorEq, Nat.reduceBEq, Nat.reduceAdd, Nat.reduceSub, Nat.reduceMul, Nat.reduceLT, Nat.reduceLeDiff, Nat.reduceDiv, Nat.reduceEqDiff, Int.reduceToNat, CV.one, Value.oneCell', Int.reduceLT, Int.reduceLE, Int.reduceNeg, Int.reduceEq, GV, H0, F0, putL, Int.reduceBEq, Int.reduceBNe, ↓reduceIte, callOps_value, callOps_builtin, F5, Bool.true_or, Bool.or_true, Bool.or_false, Bool.false_or, Nat.zero_le, Nat.min_le_left, Nat.min_le_right, List.append_eq, beq_self_eq_true, w1]
    refine call_by (spec_Int (-1 - m) (by omega) (by omega)) ?_
    simp (maxSteps := 1000000) only [zz0, zz1, zz2, zz3, zz4, zz5, zz6, zz7, zz8, zz9, zz10, zz11, zz12, zz13, zz14, gateAt, noAssign, resKeys, killAll, siteDsts, isSite, refs, killL, killAV, st0, number, ev, exSl, bnd, bndOK, cellsAV, plain, ofCV, argsOf, argOf, srcOf, partsV, fillC, repeatL, resOf, binV, shV, intV, isShift, strV, unV, ares, ares1, isNilSl, reduceCtorEq, Nat.reduceBEq, Nat.reduceAdd, Nat.reduceSub, Nat.reduceMul, Nat.reduceLT, Nat.reduceLeDiff, Nat.reduceDiv, Nat.reduceEqDiff, Int.reduceToNat, CV.one, Value.oneCell', Int.reduceLT, Int.reduceLE, Int.reduceNeg, Int.reduceEq, GV, H0, F0, putL, Int.reduceBEq, Int.reduceBNe, ↓reduceIte, callOps_value, callOps_builtin, F5, Bool.true_or, Bool.or_true, Bool.or_false, Bool.false_or, Nat.zero_le, Nat.min_le_left, Nat.min_le_right, List.append_eq, beq_self_eq_true, w1, k7]
    rw [toList_mk, toList_mk, hfin]
    rw [beq_self_eq_true]
end Abs
end Go.Proofs.Ytijboooekbdinaa
