/-
  The walk of WireConcat.
-/
import Derived.Test.YtijboooekbdinaaM8
import Derived.Test.YtijboooekbdinaaV
namespace Go.Proofs.Ytijboooekbdinaa
namespace Abs
open Go.RowKit Wire
set_option linter.unusedSimpArgs false
set_option linter.unusedVariables false
theorem flat_le {α : Type} {m : Nat} (enc : α → List UInt8) : ∀ (l : List α), (∀ x ∈ l, (enc x).length ≤ m) → (l.flatMap enc).length ≤ m * l.length
  | [], _ => by simp
  | x :: l, h => by
    have ih := flat_le enc l fun y hy => h y (List.mem_cons_of_mem _ hy)
    have hx := h x List.mem_cons_self
    simp only [List.flatMap_cons, List.length_append, List.length_cons, Nat.mul_succ]
    omega
theorem encL_len {l : List Int} (hl : in64 l) (hn : l.length ≤ 9223372036854775807) : (encL encI l).length ≤ 10 + 10 * l.length := by
  have h0 := len_encI (n := (l.length : Nat)) (by omega) (by omega)
  have h1 := flat_le (m := 10) encI l (fun x hx => len_encI (hl x hx).1 (hl x hx).2)
  rw [encL, List.length_append]; omega
set_option maxRecDepth 100000 in
set_option maxHeartbeats 8000000 in
theorem spec_Concat (s : ByteArray) (l : List Int) (hs : s.size ≤ 140737488355000) (hl : in64 l) (hn : l.length ≤ 140737488355328) : SP 10 [.v (.string s), .sl none 1 (ints .i64 l)] (.v (.bool true)) := by
  refine spec_fn (H := H0) (F := F0) Try.func10 rfl Try.ntmps10 Try.results10 (by kernel_rfl) rfl (by simp) ?_
  have w1 : IntKind.i64.wrap ((s.size : Int) + (l.length : Int)) = (s.size : Int) + (l.length : Int) := i64_wrap (by omega) (by omega)
  simp only [zz0, zz1, zz2, zz3, zz4, zz5, zz6, zz7, zz8, zz9, zz10, zz11, zz12, zz13, zz14, gateAt, noAssign, resKeys, killAll, siteDsts, isSite, refs, killL, killAV, st0, number, ev, exSl, bnd, bndOK, cellsAV, plain, ofCV, argsOf, argOf, srcOf, partsV, fillC, repeatL, resOf, binV, shV, intV, isShift, strV, unV, ares, ares1, isNilSl, reduceCtorEq, Nat.reduceBEq, Nat.reduceAdd, Nat.reduceSub, Nat.reduceMul, Nat.reduceLT, Nat.reduceLeDiff, Nat.reduceDiv, Nat.reduceEqDiff, Int.reduceToNat, CV.one, Value.oneCell', Int.reduceLT, Int.reduceLE, Int.reduceNeg, Int.reduceEq, GV, H0, F0, putL, Int.reduceBEq, Int.reduceBNe, List.append_eq, beq_self_eq_true, w1]
  refine cond_dec (fun h => ?_) (fun h => ?_)
  · simp only [zz0, zz1, zz2, zz3, zz4, zz5, zz6, zz7, zz8, zz9, zz10, zz11, zz12, zz13, zz14, gateAt, noAssign, resKeys, killAll, siteDsts, isSite, refs, killL, killAV, st0, number, ev, exSl, bnd, bndOK, cellsAV, plain, ofCV, argsOf, argOf, srcOf, partsV, fillC, repeatL, resOf, binV, shV, intV, isShift, strV, unV, ares, ares1, isNilSl, reduceCtorEq, Nat.reduceBEq, Nat.reduceAdd, Nat.reduceSub, Nat.reduceMul, Nat.reduceLT, Nat.reduceLeDiff, Nat.reduceDiv, Nat.reduceEqDiff, Int.reduceToNat, CV.one, Value.oneCell', Int.reduceLT, Int.reduceLE, Int.reduceNeg, Int.reduceEq, GV, H0, F0, putL, Int.reduceBEq, Int.reduceBNe, List.append_eq, beq_self_eq_true]
    refine call_by spec_sanity ?_
    simp only [zz0, zz1, zz2, zz3, zz4, zz5, zz6, zz7, zz8, zz9, zz10, zz11, zz12, zz13, zz14, gateAt, noAssign, resKeys, killAll, siteDsts, isSite, refs, killL, killAV, st0, number, ev, exSl, bnd, bndOK, cellsAV, plain, ofCV, argsOf, argOf, srcOf, partsV, fillC, repeatL, resOf, binV, shV, intV, isShift, strV, unV, ares, ares1, isNilSl, reduceCtorEq, Nat.reduceBEq, Nat.reduceAdd, Nat.reduceSub, Nat.reduceMul, Nat.reduceLT, Nat.reduceLeDiff, Nat.reduceDiv, Nat.reduceEqDiff, Int.reduceToNat, CV.one, Value.oneCell', Int.reduceLT, Int.reduceLE, Int.reduceNeg, Int.reduceEq, GV, H0, F0, putL, Int.reduceBEq, Int.reduceBNe, List.append_eq, beq_self_eq_true]
  · have hs' : s.size ≤ 2000 := by omega
    have hl' : l.length ≤ 2000 := by omega
    have b1 : (encB s).length ≤ 2010 := by
      have := len_encI (n := (s.size : Nat)) (by omega) (by omega)
      have := len_data s
      rw [encB, List.length_append]; omega
    have b2 := encL_len hl (by omega)
    have e1 := dS_enc (s := s) (encL encI l) (by omega)
    have e2 := dList_enc (m := 1) (by omega) dI encI l [] (by omega) (fun x hx t => dI_enc (hl x hx).1 (hl x hx).2 t) (fun x hx => len_encU_pos _)
    rw [List.append_nil] at e2
    simp only [zz0, zz1, zz2, zz3, zz4, zz5, zz6, zz7, zz8, zz9, zz10, zz11, zz12, zz13, zz14, gateAt, noAssign, resKeys, killAll, siteDsts, isSite, refs, killL, killAV, st0, number, ev, exSl, bnd, bndOK, cellsAV, plain, ofCV, argsOf, argOf, srcOf, partsV, fillC, repeatL, resOf, binV, shV, intV, isShift, strV, unV, ares, ares1, isNilSl, reduceCtorEq, Nat.reduceBEq, Nat.reduceAdd, Nat.reduceSub, Nat.reduceMul, Nat.reduceLT, Nat.reduceLeDiff, Nat.reduceDiv, Nat.reduceEqDiff, Int.reduceToNat, CV.one, Value.oneCell', Int.reduceLT, Int.reduceLE, Int.reduceNeg, Int.reduceEq, GV, H0, F0, putL, Int.reduceBEq, Int.reduceBNe, List.append_eq, beq_self_eq_true]
    refine call_by (spec_Bytes s (by omega)) ?_
    simp only [zz0, zz1, zz2, zz3, zz4, zz5, zz6, zz7, zz8, zz9, zz10, zz11, zz12, zz13, zz14, gateAt, noAssign, resKeys, killAll, siteDsts, isSite, refs, killL, killAV, st0, number, ev, exSl, bnd, bndOK, cellsAV, plain, ofCV, argsOf, argOf, srcOf, partsV, fillC, repeatL, resOf, binV, shV, intV, isShift, strV, unV, ares, ares1, isNilSl, reduceCtorEq, Nat.reduceBEq, Nat.reduceAdd, Nat.reduceSub, Nat.reduceMul, Nat.reduceLT, Nat.reduceLeDiff, Nat.reduceDiv, Nat.reduceEqDiff, Int.reduceToNat, CV.one, Value.oneCell', Int.reduceLT, Int.reduceLE, Int.reduceNeg, Int.reduceEq, GV, H0, F0, putL, Int.reduceBEq, Int.reduceBNe, List.append_eq, beq_self_eq_true]
    refine call_by (spec_Ints l hl (by omega) (by omega)) ?_
    simp only [zz0, zz1, zz2, zz3, zz4, zz5, zz6, zz7, zz8, zz9, zz10, zz11, zz12, zz13, zz14, gateAt, noAssign, resKeys, killAll, siteDsts, isSite, refs, killL, killAV, st0, number, ev, exSl, bnd, bndOK, cellsAV, plain, ofCV, argsOf, argOf, srcOf, partsV, fillC, repeatL, resOf, binV, shV, intV, isShift, strV, unV, ares, ares1, isNilSl, reduceCtorEq, Nat.reduceBEq, Nat.reduceAdd, Nat.reduceSub, Nat.reduceMul, Nat.reduceLT, Nat.reduceLeDiff, Nat.reduceDiv, Nat.reduceEqDiff, Int.reduceToNat, CV.one, Value.oneCell', Int.reduceLT, Int.reduceLE, Int.reduceNeg, Int.reduceEq, GV, H0, F0, putL, Int.reduceBEq, Int.reduceBNe, List.append_eq, beq_self_eq_true, ← bytesC_append]
    refine ⟨by omega, by omega, ?_⟩
    have sg := spec_GetBytes (encB s ++ encL encI l) (by rw [List.length_append]; omega)
    rw [← tS_dS, e1] at sg
    have sh := spec_GetInts (encL encI l) (by omega)
    rw [e2] at sh
    have g0 : (((0 : Nat) : Int) != 0) = false := rfl
    have g1 : decide (((encB s).length : Int) < 0) = false := decide_eq_false (by omega)
    have g2 : decide (((encB s).length : Int) > (((encB s).length + (encL encI l).length : Nat) : Int)) = false := decide_eq_false (by omega)
    refine call_by sg ?_
    simp only [zz0, zz1, zz2, zz3, zz4, zz5, zz6, zz7, zz8, zz9, zz10, zz11, zz12, zz13, zz14, gateAt, noAssign, resKeys, killAll, siteDsts, isSite, refs, killL, killAV, st0, number, ev, exSl, bnd, bndOK, cellsAV, plain, ofCV, argsOf, argOf, srcOf, partsV, fillC, repeatL, resOf, binV, shV, intV, isShift, strV, unV, ares, ares1, isNilSl, reduceCtorEq, Nat.reduceBEq, Nat.reduceAdd, Nat.reduceSub, Nat.reduceMul, Nat.reduceLT, Nat.reduceLeDiff, Nat.reduceDiv, Nat.reduceEqDiff, Int.reduceToNat, CV.one, Value.oneCell', Int.reduceLT, Int.reduceLE, Int.reduceNeg, Int.reduceEq, GV, H0, F0, putL, Int.reduceBEq, Int.reduceBNe, List.append_eq, beq_self_eq_true, tS, g0, g1, g2, List.length_append]
    have q : List.drop (encB s).length (List.take ((encB s).length + (encL encI l).length) (encB s ++ encL encI l)) = encL encI l := by
      rw [← List.length_append, List.take_length, List.drop_left' rfl]
    rw [q]
    refine ⟨by omega, ?_⟩
    refine call_by sh ?_
    have w2 : IntKind.i64.wrap (((encB s).length : Int) + ((encL encI l).length : Int)) = (((encB s).length + (encL encI l).length : Nat) : Int) := by rw [i64_wrap (by omega) (by omega)]; omega
    simp only [zz0, zz1, zz2, zz3, zz4, zz5, zz6, zz7, zz8, zz9, zz10, zz11, zz12, zz13, zz14, gateAt, noAssign, resKeys, killAll, siteDsts, isSite, refs, killL, killAV, st0, number, ev, exSl, bnd, bndOK, cellsAV, plain, ofCV, argsOf, argOf, srcOf, partsV, fillC, repeatL, resOf, binV, shV, intV, isShift, strV, unV, ares, ares1, isNilSl, reduceCtorEq, Nat.reduceBEq, Nat.reduceAdd, Nat.reduceSub, Nat.reduceMul, Nat.reduceLT, Nat.reduceLeDiff, Nat.reduceDiv, Nat.reduceEqDiff, Int.reduceToNat, CV.one, Value.oneCell', Int.reduceLT, Int.reduceLE, Int.reduceNeg, Int.reduceEq, GV, H0, F0, putL, Int.reduceBEq, Int.reduceBNe, List.append_eq, beq_self_eq_true, tLI, g0, g1, g2, List.length_append, w2, callOps_value, callOps_builtin]
    refine call_by spec_sanity ?_
    simp only [zz0, zz1, zz2, zz3, zz4, zz5, zz6, zz7, zz8, zz9, zz10, zz11, zz12, zz13, zz14, gateAt, noAssign, resKeys, killAll, siteDsts, isSite, refs, killL, killAV, st0, number, ev, exSl, bnd, bndOK, cellsAV, plain, ofCV, argsOf, argOf, srcOf, partsV, fillC, repeatL, resOf, binV, shV, intV, isShift, strV, unV, ares, ares1, isNilSl, reduceCtorEq, Nat.reduceBEq, Nat.reduceAdd, Nat.reduceSub, Nat.reduceMul, Nat.reduceLT, Nat.reduceLeDiff, Nat.reduceDiv, Nat.reduceEqDiff, Int.reduceToNat, CV.one, Value.oneCell', Int.reduceLT, Int.reduceLE, Int.reduceNeg, Int.reduceEq, GV, H0, F0, putL, Int.reduceBEq, Int.reduceBNe, List.append_eq, beq_self_eq_true, tLI, g0, g1, g2, List.length_append, w2, callOps_value, callOps_builtin]
    refine call_by (spec_SameInts _ _ (by omega) (by omega)) ?_
    simp only [zz0, zz1, zz2, zz3, zz4, zz5, zz6, zz7, zz8, zz9, zz10, zz11, zz12, zz13, zz14, gateAt, noAssign, resKeys, killAll, siteDsts, isSite, refs, killL, killAV, st0, number, ev, exSl, bnd, bndOK, cellsAV, plain, ofCV, argsOf, argOf, srcOf, partsV, fillC, repeatL, resOf, binV, shV, intV, isShift, strV, unV, ares, ares1, isNilSl, reduceCtorEq, Nat.reduceBEq, Nat.reduceAdd, Nat.reduceSub, Nat.reduceMul, Nat.reduceLT, Nat.reduceLeDiff, Nat.reduceDiv, Nat.reduceEqDiff, Int.reduceToNat, CV.one, Value.oneCell', Int.reduceLT, Int.reduceLE, Int.reduceNeg, Int.reduceEq, GV, H0, F0, putL, Int.reduceBEq, Int.reduceBNe, List.append_eq, beq_self_eq_true, tLI, g0, g1, g2, List.length_append, w2, callOps_value, callOps_builtin]
end Abs
end Go.Proofs.Ytijboooekbdinaa
