/-
  Walks: the examples.
-/
import Derived.Test.YtijboooekbdinaaW10
namespace Go.Proofs.Ytijboooekbdinaa
namespace Abs
open Go.RowKit Wire
set_option linter.unusedSimpArgs false
set_option linter.unusedVariables false
theorem x1 : SP 24 [.sl none 1 [.v (.int .u8 128), .v (.int .u8 1), .v (.int .u8 9)]] (.tup (.v (.int .i64 64)) (.int .i64 2) (.int .i64 0)) := by
  have h := spec_GetInt [128, 1, 9] (by decide)
  rw [show dI [128, 1, 9] = (64, 2, 0) by decide +kernel] at h
  exact h
theorem x2 : SP 24 [.sl none 1 [.v (.int .u8 128)]] (.tup (.v (.int .i64 0)) (.int .i64 0) (.int .i64 10)) := by
  have h := spec_GetInt [128] (by decide)
  rw [show dI [128] = (0, 0, 10) by decide +kernel] at h
  exact h
theorem x3 : SP 24 [.sl none 1 [.v (.int .u8 128), .v (.int .u8 0)]] (.tup (.v (.int .i64 0)) (.int .i64 0) (.int .i64 11)) := by
  have h := spec_GetInt [128, 0] (by decide)
  rw [show dI [128, 0] = (0, 0, 11) by decide +kernel] at h
  exact h
theorem x4 : SP 26 [.sl none 1 [.v (.int .u8 4), .v (.int .u8 97), .v (.int .u8 98), .v (.int .u8 7)]] (.tup (.v (.string ⟨#[97, 98]⟩)) (.int .i64 3) (.int .i64 0)) := by
  have h := spec_GetBytes [4, 97, 98, 7] (by decide)
  rw [show dB [4, 97, 98, 7] = ([97, 98], 3, 0) by decide +kernel] at h
  exact h
theorem x5 : SP 28 [.sl none 1 [.v (.int .u8 4), .v (.int .u8 2), .v (.int .u8 1)]] (.tup (.sl none 1 (ints .i64 [1, -1])) (.int .i64 3) (.int .i64 0)) := by
  have h := spec_GetInts [4, 2, 1] (by decide)
  rw [show dList 1 dI [4, 2, 1] = ([1, -1], 3, 0) by decide +kernel] at h
  exact h
def dg : List UInt8 := [1, 2, 0, 0, 0, 0, 0, 0, 0, 0, 0, 0, 0, 0, 0, 0]
theorem e2 : encI 1 = [2] := by simp [encI, zig, encU]
theorem x6 : SP 22 [.sl none 16 (bytesC dg)] (.sl none 1 (bytesC (2 :: dg))) := by
  have h := spec_Digests [dg] (by decide) (by decide) (by simp [encL, e2, dg])
  rw [show encL id [dg] = 2 :: dg by simp [encL, e2]] at h
  exact h
theorem x7 : SP 34 [.sl none 1 (bytesC (2 :: dg))] (.tup (.sl none 16 (bytesC dg)) (.int .i64 17) (.int .i64 0)) := by
  have h := spec_GetDigests (2 :: dg) (by decide)
  rw [show dList 16 dD (2 :: dg) = ([dg], 17, 0) by decide +kernel] at h
  exact h
theorem x8 : SP 31 [.sl none 1 [.v (.int .u8 4), .v (.int .u8 0), .v (.int .u8 2), .v (.int .u8 97), .v (.int .u8 5)]] (.tup (.sl none 1 (strs [⟨#[]⟩, ⟨#[97]⟩])) (.int .i64 4) (.int .i64 0)) := by
  have h := spec_GetStrings [4, 0, 2, 97, 5] (by decide)
  rw [show dList 1 dS [4, 0, 2, 97, 5] = ([⟨#[]⟩, ⟨#[97]⟩], 4, 0) by decide +kernel] at h
  exact h
theorem x9 : SP 33 [.sl none 1 (strs [⟨#[]⟩, ⟨#[97]⟩]), .sl none 1 [.v (.string ⟨#[]⟩), .v (.string ⟨#[97]⟩)]] (.v (.bool true)) := by
  have h := spec_SameTexts [⟨#[]⟩, ⟨#[97]⟩] [⟨#[]⟩, ⟨#[97]⟩] (by decide) (by decide)
  rw [decide_eq_true rfl] at h
  exact h
theorem e3 : encI 2 = [4] := by simp [encI, zig, encU]
theorem e1 : encI (-1) = [1] := by simp [encI, zig, encU]
theorem e0 : encI 0 = [0] := by simp [encI, zig, encU]
theorem e65 : encI (-65) = [129, 1] := by simp [encI, zig, encU]
theorem x10 : SP 20 [.sl none 1 [.v (.string ⟨#[]⟩), .v (.string ⟨#[97]⟩)]] (.sl none 1 [.v (.int .u8 4), .v (.int .u8 0), .v (.int .u8 2), .v (.int .u8 97)]) := by
  have e : encL encB [⟨#[]⟩, ⟨#[97]⟩] = [4, 0, 2, 97] := by
    have a : encB ⟨#[]⟩ = [0] := by show encI 0 ++ [] = _; rw [e0]; rfl
    have b : encB ⟨#[97]⟩ = [2, 97] := by show encI 1 ++ [97] = _; rw [e2]; rfl
    show encI 2 ++ [_, _].flatMap encB = _
    simp [a, b, e3]
  have h := spec_Strings [⟨#[]⟩, ⟨#[97]⟩] (by intro x hx; rcases List.mem_cons.1 hx with rfl | hx; (decide); (rw [List.mem_singleton.1 hx]; decide)) (by decide) (by rw [e]; decide)
  rw [e] at h
  exact h
theorem x11 (l : List UInt8) : SP 13 [.sl none 1 (bytesC l), .sl none 1 (bytesC l)] (.v (.bool true)) := by
  have h := spec_Same l l
  rw [decide_eq_true rfl] at h
  exact h
theorem x12 : SP 14 [.v (.int .i64 (-65))] (.sl none 1 [.v (.int .u8 129), .v (.int .u8 1)]) := by
  have h := spec_Int (-65) (by decide) (by decide)
  rw [e65] at h
  exact h
theorem x13 : SP 30 [.sl none 1 (ints .i64 [1, -1]), .sl none 1 [.v (.int .i64 1), .v (.int .i64 (-1))]] (.v (.bool true)) := by
  have h := spec_SameInts [1, -1] [1, -1] (by decide) (by decide)
  rw [decide_eq_true rfl] at h
  exact h
theorem x14 : SP 16 [.v (.string ⟨#[97, 98]⟩)] (.sl none 1 [.v (.int .u8 4), .v (.int .u8 97), .v (.int .u8 98)]) := by
  have h := spec_Bytes ⟨#[97, 98]⟩ (by decide)
  rw [show encB ⟨#[97, 98]⟩ = [4, 97, 98] by show encI 2 ++ [97, 98] = _; rw [e3]; rfl] at h
  exact h
theorem x15 : SP 18 [.sl none 1 [.v (.int .i64 1), .v (.int .i64 (-1))]] (.sl none 1 [.v (.int .u8 4), .v (.int .u8 2), .v (.int .u8 1)]) := by
  have e : encL encI [1, -1] = [4, 2, 1] := by
    show encI 2 ++ [1, -1].flatMap encI = _
    simp [e1, e2, e3]
  have h := spec_Ints [1, -1] (by intro x hx; rcases List.mem_cons.1 hx with rfl | hx; (decide); (rw [List.mem_singleton.1 hx]; decide)) (by decide) (by rw [e]; decide)
  rw [e] at h
  exact h
theorem x16 : SP 36 [.sl none 16 (bytesC dg), .sl none 16 (bytesC dg)] (.v (.bool true)) := by
  have h := spec_SameDigests [dg] [dg] (by decide) (by decide) (by decide) (by decide)
  rw [decide_eq_true rfl] at h
  exact h
set_option maxRecDepth 100000 in
set_option maxHeartbeats 2000000 in
theorem spec_sanity : SP 12 [] (.v (.bool true)) := by
  refine spec_fn (H := H0) (F := F0) Try.func12 rfl Try.ntmps12 Try.results12 (by kernel_rfl) rfl (by simp) ?_
  simp only [zz0, zz1, zz2, zz3, zz4, zz5, zz6, zz7, zz8, zz9, zz10, zz11, zz12, zz13, zz14, gateAt, noAssign, resKeys, killAll, siteDsts, isSite, refs, killL, killAV, st0, number, ev, exSl, bnd, bndOK, cellsAV, plain, ofCV, argsOf, argOf, srcOf, partsV, fillC, repeatL, resOf, binV, shV, intV, isShift, strV, unV, ares, ares1, isNilSl, reduceCtorEq, Nat.reduceBEq, Nat.reduceAdd, Nat.reduceSub, Nat.reduceMul, Nat.reduceLT, Nat.reduceLeDiff, Nat.reduceDiv, Nat.reduceEqDiff, Int.reduceToNat, CV.one, Value.oneCell', Int.reduceLT, Int.reduceLE, Int.reduceNeg, Int.reduceEq, GV, H0, F0, putL, Int.reduceBEq, Int.reduceBNe, List.append_eq, beq_self_eq_true]
  refine call_by x1 ?_
  simp only [zz0, zz1, zz2, zz3, zz4, zz5, zz6, zz7, zz8, zz9, zz10, zz11, zz12, zz13, zz14, gateAt, noAssign, resKeys, killAll, siteDsts, isSite, refs, killL, killAV, st0, number, ev, exSl, bnd, bndOK, cellsAV, plain, ofCV, argsOf, argOf, srcOf, partsV, fillC, repeatL, resOf, binV, shV, intV, isShift, strV, unV, ares, ares1, isNilSl, reduceCtorEq, Nat.reduceBEq, Nat.reduceAdd, Nat.reduceSub, Nat.reduceMul, Nat.reduceLT, Nat.reduceLeDiff, Nat.reduceDiv, Nat.reduceEqDiff, Int.reduceToNat, CV.one, Value.oneCell', Int.reduceLT, Int.reduceLE, Int.reduceNeg, Int.reduceEq, GV, H0, F0, putL, Int.reduceBEq, Int.reduceBNe, List.append_eq, beq_self_eq_true]
  refine call_by x2 ?_
  simp only [zz0, zz1, zz2, zz3, zz4, zz5, zz6, zz7, zz8, zz9, zz10, zz11, zz12, zz13, zz14, gateAt, noAssign, resKeys, killAll, siteDsts, isSite, refs, killL, killAV, st0, number, ev, exSl, bnd, bndOK, cellsAV, plain, ofCV, argsOf, argOf, srcOf, partsV, fillC, repeatL, resOf, binV, shV, intV, isShift, strV, unV, ares, ares1, isNilSl, reduceCtorEq, Nat.reduceBEq, Nat.reduceAdd, Nat.reduceSub, Nat.reduceMul, Nat.reduceLT, Nat.reduceLeDiff, Nat.reduceDiv, Nat.reduceEqDiff, Int.reduceToNat, CV.one, Value.oneCell', Int.reduceLT, Int.reduceLE, Int.reduceNeg, Int.reduceEq, GV, H0, F0, putL, Int.reduceBEq, Int.reduceBNe, List.append_eq, beq_self_eq_true]
  refine call_by x3 ?_
  simp only [zz0, zz1, zz2, zz3, zz4, zz5, zz6, zz7, zz8, zz9, zz10, zz11, zz12, zz13, zz14, gateAt, noAssign, resKeys, killAll, siteDsts, isSite, refs, killL, killAV, st0, number, ev, exSl, bnd, bndOK, cellsAV, plain, ofCV, argsOf, argOf, srcOf, partsV, fillC, repeatL, resOf, binV, shV, intV, isShift, strV, unV, ares, ares1, isNilSl, reduceCtorEq, Nat.reduceBEq, Nat.reduceAdd, Nat.reduceSub, Nat.reduceMul, Nat.reduceLT, Nat.reduceLeDiff, Nat.reduceDiv, Nat.reduceEqDiff, Int.reduceToNat, CV.one, Value.oneCell', Int.reduceLT, Int.reduceLE, Int.reduceNeg, Int.reduceEq, GV, H0, F0, putL, Int.reduceBEq, Int.reduceBNe, List.append_eq, beq_self_eq_true]
  refine call_by x4 ?_
  simp only [zz0, zz1, zz2, zz3, zz4, zz5, zz6, zz7, zz8, zz9, zz10, zz11, zz12, zz13, zz14, gateAt, noAssign, resKeys, killAll, siteDsts, isSite, refs, killL, killAV, st0, number, ev, exSl, bnd, bndOK, cellsAV, plain, ofCV, argsOf, argOf, srcOf, partsV, fillC, repeatL, resOf, binV, shV, intV, isShift, strV, unV, ares, ares1, isNilSl, reduceCtorEq, Nat.reduceBEq, Nat.reduceAdd, Nat.reduceSub, Nat.reduceMul, Nat.reduceLT, Nat.reduceLeDiff, Nat.reduceDiv, Nat.reduceEqDiff, Int.reduceToNat, CV.one, Value.oneCell', Int.reduceLT, Int.reduceLE, Int.reduceNeg, Int.reduceEq, GV, H0, F0, putL, Int.reduceBEq, Int.reduceBNe, List.append_eq, beq_self_eq_true]
  refine call_by x5 ?_
  simp only [zz0, zz1, zz2, zz3, zz4, zz5, zz6, zz7, zz8, zz9, zz10, zz11, zz12, zz13, zz14, gateAt, noAssign, resKeys, killAll, siteDsts, isSite, refs, killL, killAV, st0, number, ev, exSl, bnd, bndOK, cellsAV, plain, ofCV, argsOf, argOf, srcOf, partsV, fillC, repeatL, resOf, binV, shV, intV, isShift, strV, unV, ares, ares1, isNilSl, reduceCtorEq, Nat.reduceBEq, Nat.reduceAdd, Nat.reduceSub, Nat.reduceMul, Nat.reduceLT, Nat.reduceLeDiff, Nat.reduceDiv, Nat.reduceEqDiff, Int.reduceToNat, CV.one, Value.oneCell', Int.reduceLT, Int.reduceLE, Int.reduceNeg, Int.reduceEq, GV, H0, F0, putL, Int.reduceBEq, Int.reduceBNe, List.append_eq, beq_self_eq_true]
  refine call_by x6 ?_
  simp only [zz0, zz1, zz2, zz3, zz4, zz5, zz6, zz7, zz8, zz9, zz10, zz11, zz12, zz13, zz14, gateAt, noAssign, resKeys, killAll, siteDsts, isSite, refs, killL, killAV, st0, number, ev, exSl, bnd, bndOK, cellsAV, plain, ofCV, argsOf, argOf, srcOf, partsV, fillC, repeatL, resOf, binV, shV, intV, isShift, strV, unV, ares, ares1, isNilSl, reduceCtorEq, Nat.reduceBEq, Nat.reduceAdd, Nat.reduceSub, Nat.reduceMul, Nat.reduceLT, Nat.reduceLeDiff, Nat.reduceDiv, Nat.reduceEqDiff, Int.reduceToNat, CV.one, Value.oneCell', Int.reduceLT, Int.reduceLE, Int.reduceNeg, Int.reduceEq, GV, H0, F0, putL, Int.reduceBEq, Int.reduceBNe, List.append_eq, beq_self_eq_true]
  refine call_by x7 ?_
  simp only [zz0, zz1, zz2, zz3, zz4, zz5, zz6, zz7, zz8, zz9, zz10, zz11, zz12, zz13, zz14, gateAt, noAssign, resKeys, killAll, siteDsts, isSite, refs, killL, killAV, st0, number, ev, exSl, bnd, bndOK, cellsAV, plain, ofCV, argsOf, argOf, srcOf, partsV, fillC, repeatL, resOf, binV, shV, intV, isShift, strV, unV, ares, ares1, isNilSl, reduceCtorEq, Nat.reduceBEq, Nat.reduceAdd, Nat.reduceSub, Nat.reduceMul, Nat.reduceLT, Nat.reduceLeDiff, Nat.reduceDiv, Nat.reduceEqDiff, Int.reduceToNat, CV.one, Value.oneCell', Int.reduceLT, Int.reduceLE, Int.reduceNeg, Int.reduceEq, GV, H0, F0, putL, Int.reduceBEq, Int.reduceBNe, List.append_eq, beq_self_eq_true]
  refine call_by x8 ?_
  simp only [zz0, zz1, zz2, zz3, zz4, zz5, zz6, zz7, zz8, zz9, zz10, zz11, zz12, zz13, zz14, gateAt, noAssign, resKeys, killAll, siteDsts, isSite, refs, killL, killAV, st0, number, ev, exSl, bnd, bndOK, cellsAV, plain, ofCV, argsOf, argOf, srcOf, partsV, fillC, repeatL, resOf, binV, shV, intV, isShift, strV, unV, ares, ares1, isNilSl, reduceCtorEq, Nat.reduceBEq, Nat.reduceAdd, Nat.reduceSub, Nat.reduceMul, Nat.reduceLT, Nat.reduceLeDiff, Nat.reduceDiv, Nat.reduceEqDiff, Int.reduceToNat, CV.one, Value.oneCell', Int.reduceLT, Int.reduceLE, Int.reduceNeg, Int.reduceEq, GV, H0, F0, putL, Int.reduceBEq, Int.reduceBNe, List.append_eq, beq_self_eq_true]
  refine call_by x9 ?_
  simp only [zz0, zz1, zz2, zz3, zz4, zz5, zz6, zz7, zz8, zz9, zz10, zz11, zz12, zz13, zz14, gateAt, noAssign, resKeys, killAll, siteDsts, isSite, refs, killL, killAV, st0, number, ev, exSl, bnd, bndOK, cellsAV, plain, ofCV, argsOf, argOf, srcOf, partsV, fillC, repeatL, resOf, binV, shV, intV, isShift, strV, unV, ares, ares1, isNilSl, reduceCtorEq, Nat.reduceBEq, Nat.reduceAdd, Nat.reduceSub, Nat.reduceMul, Nat.reduceLT, Nat.reduceLeDiff, Nat.reduceDiv, Nat.reduceEqDiff, Int.reduceToNat, CV.one, Value.oneCell', Int.reduceLT, Int.reduceLE, Int.reduceNeg, Int.reduceEq, GV, H0, F0, putL, Int.reduceBEq, Int.reduceBNe, List.append_eq, beq_self_eq_true]
  refine call_by x10 ?_
  simp only [zz0, zz1, zz2, zz3, zz4, zz5, zz6, zz7, zz8, zz9, zz10, zz11, zz12, zz13, zz14, gateAt, noAssign, resKeys, killAll, siteDsts, isSite, refs, killL, killAV, st0, number, ev, exSl, bnd, bndOK, cellsAV, plain, ofCV, argsOf, argOf, srcOf, partsV, fillC, repeatL, resOf, binV, shV, intV, isShift, strV, unV, ares, ares1, isNilSl, reduceCtorEq, Nat.reduceBEq, Nat.reduceAdd, Nat.reduceSub, Nat.reduceMul, Nat.reduceLT, Nat.reduceLeDiff, Nat.reduceDiv, Nat.reduceEqDiff, Int.reduceToNat, CV.one, Value.oneCell', Int.reduceLT, Int.reduceLE, Int.reduceNeg, Int.reduceEq, GV, H0, F0, putL, Int.reduceBEq, Int.reduceBNe, List.append_eq, beq_self_eq_true]
  refine call_by (x11 [4, 0, 2, 97]) ?_
  simp only [zz0, zz1, zz2, zz3, zz4, zz5, zz6, zz7, zz8, zz9, zz10, zz11, zz12, zz13, zz14, gateAt, noAssign, resKeys, killAll, siteDsts, isSite, refs, killL, killAV, st0, number, ev, exSl, bnd, bndOK, cellsAV, plain, ofCV, argsOf, argOf, srcOf, partsV, fillC, repeatL, resOf, binV, shV, intV, isShift, strV, unV, ares, ares1, isNilSl, reduceCtorEq, Nat.reduceBEq, Nat.reduceAdd, Nat.reduceSub, Nat.reduceMul, Nat.reduceLT, Nat.reduceLeDiff, Nat.reduceDiv, Nat.reduceEqDiff, Int.reduceToNat, CV.one, Value.oneCell', Int.reduceLT, Int.reduceLE, Int.reduceNeg, Int.reduceEq, GV, H0, F0, putL, Int.reduceBEq, Int.reduceBNe, List.append_eq, beq_self_eq_true]
  refine call_by x12 ?_
  simp only [zz0, zz1, zz2, zz3, zz4, zz5, zz6, zz7, zz8, zz9, zz10, zz11, zz12, zz13, zz14, gateAt, noAssign, resKeys, killAll, siteDsts, isSite, refs, killL, killAV, st0, number, ev, exSl, bnd, bndOK, cellsAV, plain, ofCV, argsOf, argOf, srcOf, partsV, fillC, repeatL, resOf, binV, shV, intV, isShift, strV, unV, ares, ares1, isNilSl, reduceCtorEq, Nat.reduceBEq, Nat.reduceAdd, Nat.reduceSub, Nat.reduceMul, Nat.reduceLT, Nat.reduceLeDiff, Nat.reduceDiv, Nat.reduceEqDiff, Int.reduceToNat, CV.one, Value.oneCell', Int.reduceLT, Int.reduceLE, Int.reduceNeg, Int.reduceEq, GV, H0, F0, putL, Int.reduceBEq, Int.reduceBNe, List.append_eq, beq_self_eq_true]
  refine call_by (x11 [129, 1]) ?_
  simp only [zz0, zz1, zz2, zz3, zz4, zz5, zz6, zz7, zz8, zz9, zz10, zz11, zz12, zz13, zz14, gateAt, noAssign, resKeys, killAll, siteDsts, isSite, refs, killL, killAV, st0, number, ev, exSl, bnd, bndOK, cellsAV, plain, ofCV, argsOf, argOf, srcOf, partsV, fillC, repeatL, resOf, binV, shV, intV, isShift, strV, unV, ares, ares1, isNilSl, reduceCtorEq, Nat.reduceBEq, Nat.reduceAdd, Nat.reduceSub, Nat.reduceMul, Nat.reduceLT, Nat.reduceLeDiff, Nat.reduceDiv, Nat.reduceEqDiff, Int.reduceToNat, CV.one, Value.oneCell', Int.reduceLT, Int.reduceLE, Int.reduceNeg, Int.reduceEq, GV, H0, F0, putL, Int.reduceBEq, Int.reduceBNe, List.append_eq, beq_self_eq_true]
  refine call_by x13 ?_
  simp only [zz0, zz1, zz2, zz3, zz4, zz5, zz6, zz7, zz8, zz9, zz10, zz11, zz12, zz13, zz14, gateAt, noAssign, resKeys, killAll, siteDsts, isSite, refs, killL, killAV, st0, number, ev, exSl, bnd, bndOK, cellsAV, plain, ofCV, argsOf, argOf, srcOf, partsV, fillC, repeatL, resOf, binV, shV, intV, isShift, strV, unV, ares, ares1, isNilSl, reduceCtorEq, Nat.reduceBEq, Nat.reduceAdd, Nat.reduceSub, Nat.reduceMul, Nat.reduceLT, Nat.reduceLeDiff, Nat.reduceDiv, Nat.reduceEqDiff, Int.reduceToNat, CV.one, Value.oneCell', Int.reduceLT, Int.reduceLE, Int.reduceNeg, Int.reduceEq, GV, H0, F0, putL, Int.reduceBEq, Int.reduceBNe, List.append_eq, beq_self_eq_true]
  refine call_by x14 ?_
  simp only [zz0, zz1, zz2, zz3, zz4, zz5, zz6, zz7, zz8, zz9, zz10, zz11, zz12, zz13, zz14, gateAt, noAssign, resKeys, killAll, siteDsts, isSite, refs, killL, killAV, st0, number, ev, exSl, bnd, bndOK, cellsAV, plain, ofCV, argsOf, argOf, srcOf, partsV, fillC, repeatL, resOf, binV, shV, intV, isShift, strV, unV, ares, ares1, isNilSl, reduceCtorEq, Nat.reduceBEq, Nat.reduceAdd, Nat.reduceSub, Nat.reduceMul, Nat.reduceLT, Nat.reduceLeDiff, Nat.reduceDiv, Nat.reduceEqDiff, Int.reduceToNat, CV.one, Value.oneCell', Int.reduceLT, Int.reduceLE, Int.reduceNeg, Int.reduceEq, GV, H0, F0, putL, Int.reduceBEq, Int.reduceBNe, List.append_eq, beq_self_eq_true]
  refine call_by (x11 [4, 97, 98]) ?_
  simp only [zz0, zz1, zz2, zz3, zz4, zz5, zz6, zz7, zz8, zz9, zz10, zz11, zz12, zz13, zz14, gateAt, noAssign, resKeys, killAll, siteDsts, isSite, refs, killL, killAV, st0, number, ev, exSl, bnd, bndOK, cellsAV, plain, ofCV, argsOf, argOf, srcOf, partsV, fillC, repeatL, resOf, binV, shV, intV, isShift, strV, unV, ares, ares1, isNilSl, reduceCtorEq, Nat.reduceBEq, Nat.reduceAdd, Nat.reduceSub, Nat.reduceMul, Nat.reduceLT, Nat.reduceLeDiff, Nat.reduceDiv, Nat.reduceEqDiff, Int.reduceToNat, CV.one, Value.oneCell', Int.reduceLT, Int.reduceLE, Int.reduceNeg, Int.reduceEq, GV, H0, F0, putL, Int.reduceBEq, Int.reduceBNe, List.append_eq, beq_self_eq_true]
  refine call_by x15 ?_
  simp only [zz0, zz1, zz2, zz3, zz4, zz5, zz6, zz7, zz8, zz9, zz10, zz11, zz12, zz13, zz14, gateAt, noAssign, resKeys, killAll, siteDsts, isSite, refs, killL, killAV, st0, number, ev, exSl, bnd, bndOK, cellsAV, plain, ofCV, argsOf, argOf, srcOf, partsV, fillC, repeatL, resOf, binV, shV, intV, isShift, strV, unV, ares, ares1, isNilSl, reduceCtorEq, Nat.reduceBEq, Nat.reduceAdd, Nat.reduceSub, Nat.reduceMul, Nat.reduceLT, Nat.reduceLeDiff, Nat.reduceDiv, Nat.reduceEqDiff, Int.reduceToNat, CV.one, Value.oneCell', Int.reduceLT, Int.reduceLE, Int.reduceNeg, Int.reduceEq, GV, H0, F0, putL, Int.reduceBEq, Int.reduceBNe, List.append_eq, beq_self_eq_true]
  refine call_by (x11 [4, 2, 1]) ?_
  simp only [zz0, zz1, zz2, zz3, zz4, zz5, zz6, zz7, zz8, zz9, zz10, zz11, zz12, zz13, zz14, gateAt, noAssign, resKeys, killAll, siteDsts, isSite, refs, killL, killAV, st0, number, ev, exSl, bnd, bndOK, cellsAV, plain, ofCV, argsOf, argOf, srcOf, partsV, fillC, repeatL, resOf, binV, shV, intV, isShift, strV, unV, ares, ares1, isNilSl, reduceCtorEq, Nat.reduceBEq, Nat.reduceAdd, Nat.reduceSub, Nat.reduceMul, Nat.reduceLT, Nat.reduceLeDiff, Nat.reduceDiv, Nat.reduceEqDiff, Int.reduceToNat, CV.one, Value.oneCell', Int.reduceLT, Int.reduceLE, Int.reduceNeg, Int.reduceEq, GV, H0, F0, putL, Int.reduceBEq, Int.reduceBNe, List.append_eq, beq_self_eq_true]
  refine call_by x16 ?_
  simp only [zz0, zz1, zz2, zz3, zz4, zz5, zz6, zz7, zz8, zz9, zz10, zz11, zz12, zz13, zz14, gateAt, noAssign, resKeys, killAll, siteDsts, isSite, refs, killL, killAV, st0, number, ev, exSl, bnd, bndOK, cellsAV, plain, ofCV, argsOf, argOf, srcOf, partsV, fillC, repeatL, resOf, binV, shV, intV, isShift, strV, unV, ares, ares1, isNilSl, reduceCtorEq, Nat.reduceBEq, Nat.reduceAdd, Nat.reduceSub, Nat.reduceMul, Nat.reduceLT, Nat.reduceLeDiff, Nat.reduceDiv, Nat.reduceEqDiff, Int.reduceToNat, CV.one, Value.oneCell', Int.reduceLT, Int.reduceLE, Int.reduceNeg, Int.reduceEq, GV, H0, F0, putL, Int.reduceBEq, Int.reduceBNe, List.append_eq, beq_self_eq_true]
end Abs
end Go.Proofs.Ytijboooekbdinaa
