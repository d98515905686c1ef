/-
  The walk of few.
-/
import Derived.Test.YtijboooekbdinaaM8
namespace Go.Proofs.Ytijboooekbdinaa
namespace Abs
open Go.RowKit Wire
set_option linter.unusedSimpArgs false
set_option linter.unusedVariables false
def letters (l : List ByteArray) : Nat := (l.map (·.size)).sum
set_option maxRecDepth 100000 in
set_option maxHeartbeats 2000000 in
theorem spec_few (l : List ByteArray) (h : letters l + l.length < 9223372036854775807) : SP 11 [.sl none 1 (strs l)] (.v (.bool (decide ((letters l + l.length : Nat) ≤ (2000 : Int))))) := by
  refine spec_fn (H := H0) (F := F0) Try.func11 rfl Try.ntmps11 Try.results11 (by kernel_rfl) rfl (by simp) ?_
  simp only [zz0, zz1, zz2, zz3, zz4, zz5, zz6, zz7, zz8, zz9, zz10, zz11, zz12, zz13, zz14, gateAt, noAssign, resKeys, killAll, siteDsts, isSite, refs, killL, killAV, st0, number, ev, exSl, bnd, bndOK, cellsAV, plain, ofCV, argsOf, argOf, srcOf, partsV, fillC, repeatL, resOf, binV, shV, intV, isShift, strV, unV, ares, ares1, isNilSl, reduceCtorEq, Nat.reduceBEq, Nat.reduceAdd, Nat.reduceSub, Nat.reduceMul, Nat.reduceLT, Nat.reduceLeDiff, Nat.reduceDiv, Nat.reduceEqDiff, Int.reduceToNat, CV.one, Value.oneCell', Int.reduceLT, Int.reduceLE, Int.reduceNeg, Int.reduceEq, GV, H0, F0, putL, Int.reduceBEq, Int.reduceBNe, List.append_eq, beq_self_eq_true]
  refine loop_by (X := Nat) (fun i => ⟨S [(10, .v (.int .i64 i)), (9, .v (.int .i64 l.length)), (8, .sl none 1 (strs l)), (3, .v (.int .i64 (letters (l.take i) + l.length : Nat)))], B [], O []⟩)
      (fun i => i ≤ l.length) (fun i => l.length - i) 0 (Nat.zero_le _) ?_ ?_
  · refine stLe_mk ?_ ?_ ?_ <;> simp only [forall_mem_cons', forall_mem_nil', lk_hit, lk_miss, Nat.reduceBEq, AVle_refl, AVle_bot, AVle_untag, none_or_some, Option.some.injEq, and_true, true_and, length_bytesC, length_ints, length_strs, List.length_append, List.length_cons, List.length_nil, List.take_zero, letters, List.map_nil, List.sum_nil, Nat.zero_add]
    all_goals simp [AVle_refl]
  · intro i hi
    simp only [zz0, zz1, zz2, zz3, zz4, zz5, zz6, zz7, zz8, zz9, zz10, zz11, zz12, zz13, zz14, gateAt, noAssign, resKeys, killAll, siteDsts, isSite, refs, killL, killAV, st0, number, ev, exSl, bnd, bndOK, cellsAV, plain, ofCV, argsOf, argOf, srcOf, partsV, fillC, repeatL, resOf, binV, shV, intV, isShift, strV, unV, ares, ares1, isNilSl, reduceCtorEq, Nat.reduceBEq, Nat.reduceAdd, Nat.reduceSub, Nat.reduceMul, Nat.reduceLT, Nat.reduceLeDiff, Nat.reduceDiv, Nat.reduceEqDiff, Int.reduceToNat, CV.one, Value.oneCell', Int.reduceLT, Int.reduceLE, Int.reduceNeg, Int.reduceEq, GV, H0, F0, putL, Int.reduceBEq, Int.reduceBNe]
    refine cond_dec (fun hc => ?_) (fun hc => ?_)
    · have hi' : i < l.length := by omega
      have hs : letters (l.take (i + 1)) = letters (l.take i) + (l.getD i ByteArray.empty).size := by
        rw [take_succ' ByteArray.empty hi']; simp [letters]
      have hm : letters (l.take (i + 1)) ≤ letters l := by
        conv => rhs; rw [← List.take_append_drop (i + 1) l]
        simp only [letters, List.map_append, List.sum_append]
        omega
      have w : IntKind.i64.wrap (((letters (l.take i) + l.length : Nat) : Int) + (((l.getD i ByteArray.empty).size : Nat) : Int)) = ((letters (l.take (i + 1)) + l.length : Nat) : Int) := by
        rw [i64_wrap (by omega) (by omega)]; omega
      simp only [zz0, zz1, zz2, zz3, zz4, zz5, zz6, zz7, zz8, zz9, zz10, zz11, zz12, zz13, zz14, gateAt, noAssign, resKeys, killAll, siteDsts, isSite, refs, killL, killAV, st0, number, ev, exSl, bnd, bndOK, cellsAV, plain, ofCV, argsOf, argOf, srcOf, partsV, fillC, repeatL, resOf, binV, shV, intV, isShift, strV, unV, ares, ares1, isNilSl, reduceCtorEq, Nat.reduceBEq, Nat.reduceAdd, Nat.reduceSub, Nat.reduceMul, Nat.reduceLT, Nat.reduceLeDiff, Nat.reduceDiv, Nat.reduceEqDiff, Int.reduceToNat, CV.one, Value.oneCell', Int.reduceLT, Int.reduceLE, Int.reduceNeg, Int.reduceEq, GV, H0, F0, putL, Int.reduceBEq, Int.reduceBNe, eq_true hi', w, i64_nat (show i < 9223372036854775807 by omega)]
      refine ⟨i + 1, by omega, by omega, ?_⟩
      refine stLe_mk ?_ ?_ ?_ <;> simp only [forall_mem_cons', forall_mem_nil', lk_hit, lk_miss, Nat.reduceBEq, AVle_refl, AVle_bot, AVle_untag, none_or_some, Option.some.injEq, and_true, true_and, length_bytesC, length_ints, length_strs, List.length_append, List.length_cons, List.length_nil]
    · simp only [zz0, zz1, zz2, zz3, zz4, zz5, zz6, zz7, zz8, zz9, zz10, zz11, zz12, zz13, zz14, gateAt, noAssign, resKeys, killAll, siteDsts, isSite, refs, killL, killAV, st0, number, ev, exSl, bnd, bndOK, cellsAV, plain, ofCV, argsOf, argOf, srcOf, partsV, fillC, repeatL, resOf, binV, shV, intV, isShift, strV, unV, ares, ares1, isNilSl, reduceCtorEq, Nat.reduceBEq, Nat.reduceAdd, Nat.reduceSub, Nat.reduceMul, Nat.reduceLT, Nat.reduceLeDiff, Nat.reduceDiv, Nat.reduceEqDiff, Int.reduceToNat, CV.one, Value.oneCell', Int.reduceLT, Int.reduceLE, Int.reduceNeg, Int.reduceEq, GV, H0, F0, putL, Int.reduceBEq, Int.reduceBNe]
      have e : i = l.length := by omega
      rw [e, List.take_length]
end Abs
end Go.Proofs.Ytijboooekbdinaa
