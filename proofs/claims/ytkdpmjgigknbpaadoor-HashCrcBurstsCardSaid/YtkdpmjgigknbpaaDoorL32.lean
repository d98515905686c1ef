/-
  Walks: exclusive or of two texts.
-/
import Derived.Test.YtkdpmjgigknbpaaDoorL5
import Derived.Test.YtkdpmjgigknbpaaDoorS10
namespace Go.Proofs.YtkdpmjgigknbpaaDoor
namespace Abs
open Go.RowKit Crc
set_option linter.unusedSimpArgs false
set_option linter.unusedVariables false
def xorZ (a b : List UInt8) : List UInt8 := (List.range a.length).map fun i => a.getD i 0 ^^^ b.getD i 0
def xorT (a b : List UInt8) (n : Nat) : List UInt8 := (List.range n).map fun i => a.getD i 0 ^^^ b.getD i 0
theorem xorT_succ (a b : List UInt8) (n : Nat) : xorT a b (n + 1) = xorT a b n ++ [a.getD n 0 ^^^ b.getD n 0] := by simp [xorT, List.range_succ]
theorem xorT_len (a b : List UInt8) (n : Nat) : (xorT a b n).length = n := by simp [xorT]
theorem xor_u8 (a b : UInt8) : bits .xor .u8 (a.toNat : Int) (b.toNat : Int) = ((a ^^^ b).toNat : Int) := by
  rw [(bits_u8_nat a.toNat b.toNat a.toNat_lt b.toNat_lt).1, UInt8.toNat_xor]
set_option maxRecDepth 100000 in
set_option maxHeartbeats 2000000 in
theorem spec_Xor (a b : List UInt8) (ha : a.length ≤ 1000) : SP 32 [.sl none 1 (bytesC a), .sl none 1 (bytesC b)] (.sl none 1 (bytesC (xorZ a b))) := by
  refine spec_fn (H := H0) (F := F0) Tryd.func32 rfl Tryd.ntmps32 Tryd.results32 (by kernel_rfl) rfl (by simp) ?_
  simp only [zz0, zz1, zz2, zz3, zz4, zz5, zz6, zz7, zz8, zz9, zz10, zz11, zz12, zz13, zz14, zz15, zz16, zz17, zz18, zz19, gateAt, noAssign, resKeys, killAll, siteDsts, isSite, refs, killL, killAV, st0, number, ev, exSl, bnd, bndOK, cellsAV, plain, ofCV, argsOf, argOf, srcOf, partsV, fillC, repeatL, resOf, binV, shV, intV, isShift, strV, unV, ares, ares1, isNilSl, reduceCtorEq, Nat.reduceBEq, Nat.reduceAdd, Nat.reduceSub, Nat.reduceMul, Nat.reduceLT, Nat.reduceLeDiff, Nat.reduceDiv, Nat.reduceEqDiff, Int.reduceToNat, CV.one, Value.oneCell', Int.reduceLT, Int.reduceLE, Int.reduceNeg, Int.reduceEq, GV, H0, F0, putL, Int.reduceBEq, Int.reduceBNe, ↓reduceIte, natV_cells, drop_nats, take_nats, head_nats, length_nats, length_natV, all_nats, exIx_natV, cells_natV, Bool.true_or, Bool.or_true, Bool.false_or, Bool.or_false, callOps_value, callOps_builtin, List.append_eq, beq_self_eq_true, Nat.zero_le, Bool.not_true, Bool.not_false, cvt_31_31, ex_conv_same]
  refine loop_by (X := Nat) (fun i => ⟨S [(6, .v (.int .i64 i)), (0, .sl none 1 (bytesC a)), (1, .sl none 1 (bytesC b)), (5, .sl (some 5) 1 (bytesC (xorT a b i)))], B [], O [(5, some (bytesC (xorT a b i)).length)]⟩)
    (fun i => i ≤ a.length) (fun i => a.length - i) 0 (Nat.zero_le _) ?_ ?_
  · refine stLe_mk ?_ ?_ ?_ <;> simp only [forall_mem_cons', forall_mem_nil', lk_hit, lk_miss, Nat.reduceBEq, AVle_refl, AVle_bot, AVle_untag, none_or_some, Option.some.injEq, and_true, true_and, length_bytesC, length_ints, length_strs, List.length_append, List.length_cons, List.length_nil]
    all_goals simp [AVle_refl, xorT, bytesC]
  · intro i hi
    simp only [zz0, zz1, zz2, zz3, zz4, zz5, zz6, zz7, zz8, zz9, zz10, zz11, zz12, zz13, zz14, zz15, zz16, zz17, zz18, zz19, gateAt, noAssign, resKeys, killAll, siteDsts, isSite, refs, killL, killAV, st0, number, ev, exSl, bnd, bndOK, cellsAV, plain, ofCV, argsOf, argOf, srcOf, partsV, fillC, repeatL, resOf, binV, shV, intV, isShift, strV, unV, ares, ares1, isNilSl, reduceCtorEq, Nat.reduceBEq, Nat.reduceAdd, Nat.reduceSub, Nat.reduceMul, Nat.reduceLT, Nat.reduceLeDiff, Nat.reduceDiv, Nat.reduceEqDiff, Int.reduceToNat, CV.one, Value.oneCell', Int.reduceLT, Int.reduceLE, Int.reduceNeg, Int.reduceEq, GV, H0, F0, putL, Int.reduceBEq, Int.reduceBNe, ↓reduceIte, natV_cells, drop_nats, take_nats, head_nats, length_nats, length_natV, all_nats, exIx_natV, cells_natV, Bool.true_or, Bool.or_true, Bool.false_or, Bool.or_false, callOps_value, callOps_builtin, List.append_eq, beq_self_eq_true, Nat.zero_le, Bool.not_true, Bool.not_false, cvt_31_31, ex_conv_same]
    refine cond_dec (fun hc => ?_) (fun hc => ?_)
    · have hi' : i < a.length := by omega
      have hl := xorT_len a b i
      by_cases hb : i < b.length
      · have g : decide ((i : Int) < (b.length : Int)) = true := decide_eq_true (by omega)
        have hst : bytesC (xorT a b i) ++ bytesC [a.getD i 0 ^^^ b.getD i 0] = bytesC (xorT a b (i + 1)) := by rw [xorT_succ, bytesC_append]
        simp only [zz0, zz1, zz2, zz3, zz4, zz5, zz6, zz7, zz8, zz9, zz10, zz11, zz12, zz13, zz14, zz15, zz16, zz17, zz18, zz19, gateAt, noAssign, resKeys, killAll, siteDsts, isSite, refs, killL, killAV, st0, number, ev, exSl, bnd, bndOK, cellsAV, plain, ofCV, argsOf, argOf, srcOf, partsV, fillC, repeatL, resOf, binV, shV, intV, isShift, strV, unV, ares, ares1, isNilSl, reduceCtorEq, Nat.reduceBEq, Nat.reduceAdd, Nat.reduceSub, Nat.reduceMul, Nat.reduceLT, Nat.reduceLeDiff, Nat.reduceDiv, Nat.reduceEqDiff, Int.reduceToNat, CV.one, Value.oneCell', Int.reduceLT, Int.reduceLE, Int.reduceNeg, Int.reduceEq, GV, H0, F0, putL, Int.reduceBEq, Int.reduceBNe, ↓reduceIte, natV_cells, drop_nats, take_nats, head_nats, length_nats, length_natV, all_nats, exIx_natV, cells_natV, Bool.true_or, Bool.or_true, Bool.false_or, Bool.or_false, callOps_value, callOps_builtin, List.append_eq, beq_self_eq_true, Nat.zero_le, Bool.not_true, Bool.not_false, cvt_31_31, ex_conv_same, eq_true hi', eq_true hb, g, xor_u8, byteC1, hst, hl, i64_nat (show i < 9223372036854775807 by omega)]
        refine ⟨by omega, by omega, i + 1, by omega, by omega, ?_⟩
        refine stLe_mk ?_ ?_ ?_ <;> simp only [forall_mem_cons', forall_mem_nil', lk_hit, lk_miss, Nat.reduceBEq, AVle_refl, AVle_bot, AVle_untag, none_or_some, Option.some.injEq, and_true, true_and, length_bytesC, length_ints, length_strs, List.length_append, List.length_cons, List.length_nil]
      · have g : decide ((i : Int) < (b.length : Int)) = false := decide_eq_false (by omega)
        have hz : b.getD i 0 = 0 := by rw [List.getD_eq_getElem?_getD, List.getElem?_eq_none (by omega)]; rfl
        have hst : bytesC (xorT a b i) ++ bytesC [a.getD i 0] = bytesC (xorT a b (i + 1)) := by rw [xorT_succ, bytesC_append, hz, UInt8.xor_zero]
        simp only [zz0, zz1, zz2, zz3, zz4, zz5, zz6, zz7, zz8, zz9, zz10, zz11, zz12, zz13, zz14, zz15, zz16, zz17, zz18, zz19, gateAt, noAssign, resKeys, killAll, siteDsts, isSite, refs, killL, killAV, st0, number, ev, exSl, bnd, bndOK, cellsAV, plain, ofCV, argsOf, argOf, srcOf, partsV, fillC, repeatL, resOf, binV, shV, intV, isShift, strV, unV, ares, ares1, isNilSl, reduceCtorEq, Nat.reduceBEq, Nat.reduceAdd, Nat.reduceSub, Nat.reduceMul, Nat.reduceLT, Nat.reduceLeDiff, Nat.reduceDiv, Nat.reduceEqDiff, Int.reduceToNat, CV.one, Value.oneCell', Int.reduceLT, Int.reduceLE, Int.reduceNeg, Int.reduceEq, GV, H0, F0, putL, Int.reduceBEq, Int.reduceBNe, ↓reduceIte, natV_cells, drop_nats, take_nats, head_nats, length_nats, length_natV, all_nats, exIx_natV, cells_natV, Bool.true_or, Bool.or_true, Bool.false_or, Bool.or_false, callOps_value, callOps_builtin, List.append_eq, beq_self_eq_true, Nat.zero_le, Bool.not_true, Bool.not_false, cvt_31_31, ex_conv_same, eq_true hi', g, byteC1, hst, hl, i64_nat (show i < 9223372036854775807 by omega)]
        refine ⟨by omega, by omega, i + 1, by omega, by omega, ?_⟩
        refine stLe_mk ?_ ?_ ?_ <;> simp only [forall_mem_cons', forall_mem_nil', lk_hit, lk_miss, Nat.reduceBEq, AVle_refl, AVle_bot, AVle_untag, none_or_some, Option.some.injEq, and_true, true_and, length_bytesC, length_ints, length_strs, List.length_append, List.length_cons, List.length_nil]
    · have : i = a.length := by omega
      subst this
      simp only [zz0, zz1, zz2, zz3, zz4, zz5, zz6, zz7, zz8, zz9, zz10, zz11, zz12, zz13, zz14, zz15, zz16, zz17, zz18, zz19, gateAt, noAssign, resKeys, killAll, siteDsts, isSite, refs, killL, killAV, st0, number, ev, exSl, bnd, bndOK, cellsAV, plain, ofCV, argsOf, argOf, srcOf, partsV, fillC, repeatL, resOf, binV, shV, intV, isShift, strV, unV, ares, ares1, isNilSl, reduceCtorEq, Nat.reduceBEq, Nat.reduceAdd, Nat.reduceSub, Nat.reduceMul, Nat.reduceLT, Nat.reduceLeDiff, Nat.reduceDiv, Nat.reduceEqDiff, Int.reduceToNat, CV.one, Value.oneCell', Int.reduceLT, Int.reduceLE, Int.reduceNeg, Int.reduceEq, GV, H0, F0, putL, Int.reduceBEq, Int.reduceBNe, ↓reduceIte, natV_cells, drop_nats, take_nats, head_nats, length_nats, length_natV, all_nats, exIx_natV, cells_natV, Bool.true_or, Bool.or_true, Bool.false_or, Bool.or_false, callOps_value, callOps_builtin, List.append_eq, beq_self_eq_true, Nat.zero_le, Bool.not_true, Bool.not_false, cvt_31_31, ex_conv_same]
      rfl
theorem xorZ_len (a b : List UInt8) : (xorZ a b).length = a.length := by simp [xorZ]
theorem xorZ_L : ∀ (a b : List UInt8), a.length = b.length → xorZ a b = xorL a b
  | [], [], _ => rfl
  | x :: a, y :: b, h => by
    have ih := xorZ_L a b (by simpa using h)
    simp only [xorZ, xorL] at ih ⊢
    rw [← ih, List.length_cons, List.range_succ_eq_map]
    simp [List.map_map, Function.comp_def]
theorem crc_three (a y z : List UInt8) (hy : y.length = a.length) (hz : z.length = a.length) : crcReg ones (xorZ (xorZ a y) z) ^^^ ones = ((crcReg ones a ^^^ ones) ^^^ (crcReg ones y ^^^ ones)) ^^^ (crcReg ones z ^^^ ones) := by
  rw [xorZ_L a y hy.symm]
  have hl : (xorL a y).length = a.length := by rw [← xorZ_L a y hy.symm, xorZ_len]
  rw [xorZ_L _ z (by omega)]
  have e : ones = (ones ^^^ ones) ^^^ ones := by decide
  conv => lhs; rw [e, crcReg_xorL _ _ _ _ (by omega), crcReg_xorL _ _ _ _ hy.symm]
  generalize crcReg ones a = A
  generalize crcReg ones y = Y
  generalize crcReg ones z = Z
  ext i hi
  simp only [BitVec.getElem_xor]
  cases A[i] <;> cases Y[i] <;> cases Z[i] <;> cases ones[i] <;> rfl
end Abs
end Go.Proofs.YtkdpmjgigknbpaaDoor
