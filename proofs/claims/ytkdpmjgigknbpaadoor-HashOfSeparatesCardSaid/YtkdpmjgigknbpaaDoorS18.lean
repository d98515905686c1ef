/-
  Walks: what a digest is the hash of.
-/
import Derived.Test.YtkdpmjgigknbpaaDoorD4
namespace Go.Proofs.YtkdpmjgigknbpaaDoor
namespace Abs
open Go.RowKit Sha
set_option linter.unusedSimpArgs false
set_option linter.unusedVariables false
set_option maxRecDepth 100000 in
set_option maxHeartbeats 2000000 in
theorem spec_Input1 (tag : Int) (parts : List ByteArray) (hp : smallP parts) : SP 19 [.v (.int .i64 tag), .sl none 1 (strs parts)] (.sl none 1 (bytesC (inputOf tag parts))) := by
  refine spec_fn (H := H0) (F := F0) Tryd.func19 rfl Tryd.ntmps19 Tryd.results19 (by kernel_rfl) rfl (by simp) ?_
  obtain ⟨hp1, hp2⟩ := hp
  simp only [zz0, zz1, zz2, zz3, zz4, zz5, zz6, zz7, zz8, zz9, zz10, zz11, zz12, zz13, zz14, zz15, zz16, zz17, zz18, zz19, gateAt, noAssign, resKeys, killAll, siteDsts, isSite, refs, killL, killAV, st0, number, ev, exSl, bnd, bndOK, cellsAV, plain, ofCV, argsOf, argOf, srcOf, partsV, fillC, repeatL, resOf, binV, shV, intV, isShift, strV, unV, ares, ares1, isNilSl, reduceCtorEq, Nat.reduceBEq, Nat.reduceAdd, Nat.reduceSub, Nat.reduceMul, Nat.reduceLT, Nat.reduceLeDiff, Nat.reduceDiv, Nat.reduceEqDiff, Int.reduceToNat, CV.one, Value.oneCell', Int.reduceLT, Int.reduceLE, Int.reduceNeg, Int.reduceEq, GV, H0, F0, Int.reduceBEq, Int.reduceBNe, ↓reduceIte, natV_cells, drop_nats, take_nats, head_nats, length_nats, length_natV, all_nats, exIx_natV, cells_natV, Bool.true_or, Bool.or_true, Bool.false_or, Bool.or_false, callOps_value, callOps_builtin, List.append_eq, beq_self_eq_true, Nat.zero_le, Bool.not_true, Bool.not_false, cvt_31_31, ex_conv_same, put_whole, tagB_go, byteC1]
  refine loop_by (X := Nat) (fun i => ⟨S [(6, .v (.int .i64 i)), (5, .sl (some 5) 1 (bytesC (inputOf tag (parts.take i)))), (1, .sl none 1 (strs parts))], B [], O [(5, some (bytesC (inputOf tag (parts.take i))).length)]⟩)
    (fun i => i ≤ parts.length) (fun i => parts.length - i) 0 (Nat.zero_le _) ?_ ?_
  · refine stLe_mk ?_ ?_ ?_ <;> simp only [forall_mem_cons', forall_mem_nil', lk_hit, lk_miss, Nat.reduceBEq, AVle_refl, AVle_bot, AVle_untag, none_or_some, Option.some.injEq, and_true, true_and, length_bytesC, length_ints, length_strs, List.length_append, List.length_cons, List.length_nil]
    · exact ⟨AVle_of_eq rfl, AVle_of_eq rfl⟩
    · rfl
  · intro i hi
    simp only [zz0, zz1, zz2, zz3, zz4, zz5, zz6, zz7, zz8, zz9, zz10, zz11, zz12, zz13, zz14, zz15, zz16, zz17, zz18, zz19, gateAt, noAssign, resKeys, killAll, siteDsts, isSite, refs, killL, killAV, st0, number, ev, exSl, bnd, bndOK, cellsAV, plain, ofCV, argsOf, argOf, srcOf, partsV, fillC, repeatL, resOf, binV, shV, intV, isShift, strV, unV, ares, ares1, isNilSl, reduceCtorEq, Nat.reduceBEq, Nat.reduceAdd, Nat.reduceSub, Nat.reduceMul, Nat.reduceLT, Nat.reduceLeDiff, Nat.reduceDiv, Nat.reduceEqDiff, Int.reduceToNat, CV.one, Value.oneCell', Int.reduceLT, Int.reduceLE, Int.reduceNeg, Int.reduceEq, GV, H0, F0, Int.reduceBEq, Int.reduceBNe, ↓reduceIte, natV_cells, drop_nats, take_nats, head_nats, length_nats, length_natV, all_nats, exIx_natV, cells_natV, Bool.true_or, Bool.or_true, Bool.false_or, Bool.or_false, callOps_value, callOps_builtin, List.append_eq, beq_self_eq_true, Nat.zero_le, Bool.not_true, Bool.not_false, cvt_31_31, ex_conv_same]
    refine cond_dec (fun hc => ?_) (fun hc => ?_)
    · have hi' : i < parts.length := by omega
      have hps := hp2 _ (getD_mem (d := ByteArray.empty) hi')
      have hfl : (inputOf tag (parts.take i)).length ≤ 20000000 := by
        have := flat_small (parts.take i) (fun p hp => hp2 p (List.mem_of_mem_take hp))
        rw [List.length_take] at this
        simp only [inputOf, List.length_cons]
        omega
      have hel := encB_len hps
      have hstep : bytesC (inputOf tag (parts.take i)) ++ bytesC (encB (parts.getD i ByteArray.empty)) = bytesC (inputOf tag (parts.take (i + 1))) := by
        rw [← bytesC_append, take_succ' ByteArray.empty hi']; simp [inputOf]
      simp only [zz0, zz1, zz2, zz3, zz4, zz5, zz6, zz7, zz8, zz9, zz10, zz11, zz12, zz13, zz14, zz15, zz16, zz17, zz18, zz19, gateAt, noAssign, resKeys, killAll, siteDsts, isSite, refs, killL, killAV, st0, number, ev, exSl, bnd, bndOK, cellsAV, plain, ofCV, argsOf, argOf, srcOf, partsV, fillC, repeatL, resOf, binV, shV, intV, isShift, strV, unV, ares, ares1, isNilSl, reduceCtorEq, Nat.reduceBEq, Nat.reduceAdd, Nat.reduceSub, Nat.reduceMul, Nat.reduceLT, Nat.reduceLeDiff, Nat.reduceDiv, Nat.reduceEqDiff, Int.reduceToNat, CV.one, Value.oneCell', Int.reduceLT, Int.reduceLE, Int.reduceNeg, Int.reduceEq, GV, H0, F0, Int.reduceBEq, Int.reduceBNe, ↓reduceIte, natV_cells, drop_nats, take_nats, head_nats, length_nats, length_natV, all_nats, exIx_natV, cells_natV, Bool.true_or, Bool.or_true, Bool.false_or, Bool.or_false, callOps_value, callOps_builtin, List.append_eq, beq_self_eq_true, Nat.zero_le, Bool.not_true, Bool.not_false, cvt_31_31, ex_conv_same, eq_true hi']
      refine call_by (spec_RBytes _ (by omega)) ?_
      simp only [zz0, zz1, zz2, zz3, zz4, zz5, zz6, zz7, zz8, zz9, zz10, zz11, zz12, zz13, zz14, zz15, zz16, zz17, zz18, zz19, gateAt, noAssign, resKeys, killAll, siteDsts, isSite, refs, killL, killAV, st0, number, ev, exSl, bnd, bndOK, cellsAV, plain, ofCV, argsOf, argOf, srcOf, partsV, fillC, repeatL, resOf, binV, shV, intV, isShift, strV, unV, ares, ares1, isNilSl, reduceCtorEq, Nat.reduceBEq, Nat.reduceAdd, Nat.reduceSub, Nat.reduceMul, Nat.reduceLT, Nat.reduceLeDiff, Nat.reduceDiv, Nat.reduceEqDiff, Int.reduceToNat, CV.one, Value.oneCell', Int.reduceLT, Int.reduceLE, Int.reduceNeg, Int.reduceEq, GV, H0, F0, Int.reduceBEq, Int.reduceBNe, ↓reduceIte, natV_cells, drop_nats, take_nats, head_nats, length_nats, length_natV, all_nats, exIx_natV, cells_natV, Bool.true_or, Bool.or_true, Bool.false_or, Bool.or_false, callOps_value, callOps_builtin, List.append_eq, beq_self_eq_true, Nat.zero_le, Bool.not_true, Bool.not_false, cvt_31_31, ex_conv_same, hstep, i64_nat (show i < 9223372036854775807 by omega)]
      refine ⟨by omega, by omega, i + 1, by omega, by omega, ?_⟩
      refine stLe_mk ?_ ?_ ?_ <;> simp only [forall_mem_cons', forall_mem_nil', lk_hit, lk_miss, Nat.reduceBEq, AVle_refl, AVle_bot, AVle_untag, none_or_some, Option.some.injEq, and_true, true_and, length_bytesC, length_ints, length_strs, List.length_append, List.length_cons, List.length_nil]
    · have hend : i = parts.length := by omega
      subst hend
      simp only [zz0, zz1, zz2, zz3, zz4, zz5, zz6, zz7, zz8, zz9, zz10, zz11, zz12, zz13, zz14, zz15, zz16, zz17, zz18, zz19, gateAt, noAssign, resKeys, killAll, siteDsts, isSite, refs, killL, killAV, st0, number, ev, exSl, bnd, bndOK, cellsAV, plain, ofCV, argsOf, argOf, srcOf, partsV, fillC, repeatL, resOf, binV, shV, intV, isShift, strV, unV, ares, ares1, isNilSl, reduceCtorEq, Nat.reduceBEq, Nat.reduceAdd, Nat.reduceSub, Nat.reduceMul, Nat.reduceLT, Nat.reduceLeDiff, Nat.reduceDiv, Nat.reduceEqDiff, Int.reduceToNat, CV.one, Value.oneCell', Int.reduceLT, Int.reduceLE, Int.reduceNeg, Int.reduceEq, GV, H0, F0, Int.reduceBEq, Int.reduceBNe, ↓reduceIte, natV_cells, drop_nats, take_nats, head_nats, length_nats, length_natV, all_nats, exIx_natV, cells_natV, Bool.true_or, Bool.or_true, Bool.false_or, Bool.or_false, callOps_value, callOps_builtin, List.append_eq, beq_self_eq_true, Nat.zero_le, Bool.not_true, Bool.not_false, cvt_31_31, ex_conv_same, List.take_length]
end Abs
end Go.Proofs.YtkdpmjgigknbpaaDoor
