/-
  Walks: rotations, the message schedule.
-/
import Derived.Test.YtkdpmjgigknbpaaDoorD1
import Derived.Test.YtkdpmjgigknbpaaDoorW3
namespace Go.Proofs.YtkdpmjgigknbpaaDoor
namespace Abs
open Go.RowKit Sha
set_option linter.unusedSimpArgs false
set_option linter.unusedVariables false
theorem n_xor (a b : Nat) : bits .xor .u32 (a : Int) (b : Int) = (xor32 a b : Int) := by
  show IntKind.u32.wrap ((BitVec.ofInt 32 a ^^^ BitVec.ofInt 32 b).toNat : Nat) = _
  have := Nat.xor_lt_two_pow (n := 32) (Nat.mod_lt a (by decide : 0 < 2 ^ 32)) (Nat.mod_lt b (by decide : 0 < 2 ^ 32))
  rw [BitVec.ofInt_natCast, BitVec.ofInt_natCast, BitVec.toNat_xor, BitVec.toNat_ofNat, BitVec.toNat_ofNat, wrap_nat_u32, Nat.mod_eq_of_lt this, xor32_eq]
theorem n_and (a b : Nat) : bits .and .u32 (a : Int) (b : Int) = (and32 a b : Int) := by
  show IntKind.u32.wrap ((BitVec.ofInt 32 a &&& BitVec.ofInt 32 b).toNat : Nat) = _
  have := Nat.and_lt_two_pow (n := 32) (a % 2 ^ 32) (Nat.mod_lt b (by decide : 0 < 2 ^ 32))
  rw [BitVec.ofInt_natCast, BitVec.ofInt_natCast, BitVec.toNat_and, BitVec.toNat_ofNat, BitVec.toNat_ofNat, wrap_nat_u32, Nat.mod_eq_of_lt this, and32_eq]
theorem n_or (a b : Nat) : bits .or .u32 (a : Int) (b : Int) = (or32 a b : Int) := by
  show IntKind.u32.wrap ((BitVec.ofInt 32 a ||| BitVec.ofInt 32 b).toNat : Nat) = _
  have := Nat.or_lt_two_pow (n := 32) (Nat.mod_lt a (by decide : 0 < 2 ^ 32)) (Nat.mod_lt b (by decide : 0 < 2 ^ 32))
  rw [BitVec.ofInt_natCast, BitVec.ofInt_natCast, BitVec.toNat_or, BitVec.toNat_ofNat, BitVec.toNat_ofNat, wrap_nat_u32, Nat.mod_eq_of_lt this, or32_eq]
theorem n_not (a : Nat) : bits .xor .u32 4294967295 (a : Int) = (xor32 4294967295 a : Int) := n_xor 4294967295 a
theorem n_add (a b : Nat) : IntKind.u32.wrap ((a : Int) + (b : Int)) = (add32 a b : Int) := by
  rw [show (a : Int) + (b : Int) = ((a + b : Nat) : Int) by omega, wrap_nat_u32, add32_eq]
theorem n_shl (a s : Nat) (h : s ≤ 32) : IntKind.u32.wrap ((a : Int) * 2 ^ (min s IntKind.u32.bits)) = (shl32 a s : Int) := by
  rw [shl_nat (k := .u32) a s h, wrap_nat_u32, shl32_eq]
theorem n_shr (a s : Nat) (h : s ≤ 32) : (a : Int).fdiv (2 ^ (min s IntKind.u32.bits)) = (shr32 a s : Int) := by rw [shr_nat (k := .u32) a s h, shr32_eq]
theorem spec_rot (x i : Nat) (k : Int) (hi : 0 < i) (hi2 : i < 32) (hk : k = -(i : Int)) : SP 55 [.v (.int .u32 (x : Int)), .v (.int .i64 k)] (.v (.int .u32 (rotr x i : Int))) := by
  refine spec_fn (H := H0) (F := F0) Tryd.func55 rfl Tryd.ntmps55 Tryd.results55 (by kernel_rfl) rfl (by simp) ?_
  subst hk
  have w1 : bits .and .u64 (IntKind.u64.wrap (-(i : Int))) 31 = ((32 - i : Nat) : Int) := by
    have e : IntKind.u64.wrap (-(i : Int)) = ((18446744073709551616 - i : Nat) : Int) := by rw [IntKind.wrap_u64]; omega
    rw [e, show (31 : Int) = ((2 ^ 5 - 1 : Nat) : Int) from rfl, (bits_u64_nat _ (2 ^ 5 - 1) (by omega) (by decide)).2.1, mask_and]
    omega
  have w2 : IntKind.u64.wrap (32 - ((32 - i : Nat) : Int)) = (i : Int) := by rw [IntKind.wrap_u64]; omega
  have w3 : (((32 - i : Nat) : Int) < 0) = False := eq_false (by omega)
  have w4 : ((i : Int) < 0) = False := eq_false (by omega)
  simp only [zz0, zz1, zz2, zz3, zz4, zz5, zz6, zz7, zz8, zz9, zz10, zz11, zz12, zz13, zz14, zz15, zz16, zz17, zz18, zz19, gateAt, noAssign, resKeys, killAll, siteDsts, isSite, refs, killL, killAV, st0, number, ev, exSl, bnd, bndOK, cellsAV, plain, ofCV, argsOf, argOf, srcOf, partsV, fillC, repeatL, resOf, binV, shV, intV, isShift, strV, unV, ares, ares1, isNilSl, reduceCtorEq, Nat.reduceBEq, Nat.reduceAdd, Nat.reduceSub, Nat.reduceMul, Nat.reduceLT, Nat.reduceLeDiff, Nat.reduceDiv, Nat.reduceEqDiff, Int.reduceToNat, CV.one, Value.oneCell', Int.reduceLT, Int.reduceLE, Int.reduceNeg, Int.reduceEq, GV, H0, F0, Int.reduceBEq, Int.reduceBNe, ↓reduceIte, natV_cells, drop_nats, take_nats, head_nats, length_nats, length_natV, all_nats, exIx_natV, cells_natV, Bool.true_or, Bool.or_true, Bool.false_or, Bool.or_false, callOps_value, callOps_builtin, List.append_eq, beq_self_eq_true, Nat.zero_le, Bool.not_true, Bool.not_false, cvt_31_31, ex_conv_same, w1, w2, w3, w4, n_shl x (32 - i) (by omega), n_shr x i (by omega), n_or]
  rfl
theorem spec_Rrotr (x i : Nat) (hi : 0 < i) (hi2 : i < 32) : SP 49 [.v (.int .u32 (x : Int)), .v (.int .i64 (i : Int))] (.v (.int .u32 (rotr x i : Int))) := by
  refine spec_fn (H := H0) (F := F0) Tryd.func49 rfl Tryd.ntmps49 Tryd.results49 (by kernel_rfl) rfl (by simp) ?_
  have w2 : IntKind.i64.wrap (32 - (i : Int)) = ((32 - i : Nat) : Int) := by rw [IntKind.wrap_i64]; omega
  have w3 : (((32 - i : Nat) : Int) < 0) = False := eq_false (by omega)
  have w4 : ((i : Int) < 0) = False := eq_false (by omega)
  simp only [zz0, zz1, zz2, zz3, zz4, zz5, zz6, zz7, zz8, zz9, zz10, zz11, zz12, zz13, zz14, zz15, zz16, zz17, zz18, zz19, gateAt, noAssign, resKeys, killAll, siteDsts, isSite, refs, killL, killAV, st0, number, ev, exSl, bnd, bndOK, cellsAV, plain, ofCV, argsOf, argOf, srcOf, partsV, fillC, repeatL, resOf, binV, shV, intV, isShift, strV, unV, ares, ares1, isNilSl, reduceCtorEq, Nat.reduceBEq, Nat.reduceAdd, Nat.reduceSub, Nat.reduceMul, Nat.reduceLT, Nat.reduceLeDiff, Nat.reduceDiv, Nat.reduceEqDiff, Int.reduceToNat, CV.one, Value.oneCell', Int.reduceLT, Int.reduceLE, Int.reduceNeg, Int.reduceEq, GV, H0, F0, Int.reduceBEq, Int.reduceBNe, ↓reduceIte, natV_cells, drop_nats, take_nats, head_nats, length_nats, length_natV, all_nats, exIx_natV, cells_natV, Bool.true_or, Bool.or_true, Bool.false_or, Bool.or_false, callOps_value, callOps_builtin, List.append_eq, beq_self_eq_true, Nat.zero_le, Bool.not_true, Bool.not_false, cvt_31_31, ex_conv_same, w2, w3, w4, n_shl x (32 - i) (by omega), n_shr x i (by omega), n_or]
  refine ⟨by kernel_rfl, ?_⟩
  rw [rotr, or32_comm]
theorem spec_mix (x i j k : Nat) (hi : 0 < i) (hi2 : i < 32) (hj : 0 < j) (hj2 : j < 32) (hk : 0 < k) (hk2 : k < 32) : SP 54 [.v (.int .u32 (x : Int)), .v (.int .i64 (i : Int)), .v (.int .i64 (j : Int)), .v (.int .i64 (k : Int))] (.v (.int .u32 (mix32 x i j k : Int))) := by
  refine spec_fn (H := H0) (F := F0) Tryd.func54 rfl Tryd.ntmps54 Tryd.results54 (by kernel_rfl) rfl (by simp) ?_
  have w : ∀ n : Nat, n < 32 → IntKind.i64.wrap (0 - (n : Int)) = -(n : Int) := fun n hn => by rw [IntKind.wrap_i64]; omega
  simp only [zz0, zz1, zz2, zz3, zz4, zz5, zz6, zz7, zz8, zz9, zz10, zz11, zz12, zz13, zz14, zz15, zz16, zz17, zz18, zz19, gateAt, noAssign, resKeys, killAll, siteDsts, isSite, refs, killL, killAV, st0, number, ev, exSl, bnd, bndOK, cellsAV, plain, ofCV, argsOf, argOf, srcOf, partsV, fillC, repeatL, resOf, binV, shV, intV, isShift, strV, unV, ares, ares1, isNilSl, reduceCtorEq, Nat.reduceBEq, Nat.reduceAdd, Nat.reduceSub, Nat.reduceMul, Nat.reduceLT, Nat.reduceLeDiff, Nat.reduceDiv, Nat.reduceEqDiff, Int.reduceToNat, CV.one, Value.oneCell', Int.reduceLT, Int.reduceLE, Int.reduceNeg, Int.reduceEq, GV, H0, F0, Int.reduceBEq, Int.reduceBNe, ↓reduceIte, natV_cells, drop_nats, take_nats, head_nats, length_nats, length_natV, all_nats, exIx_natV, cells_natV, Bool.true_or, Bool.or_true, Bool.false_or, Bool.or_false, callOps_value, callOps_builtin, List.append_eq, beq_self_eq_true, Nat.zero_le, Bool.not_true, Bool.not_false, cvt_31_31, ex_conv_same, w i hi2, w j hj2, w k hk2]
  refine call_by (spec_rot x i _ hi hi2 rfl) ?_
  simp only [zz0, zz1, zz2, zz3, zz4, zz5, zz6, zz7, zz8, zz9, zz10, zz11, zz12, zz13, zz14, zz15, zz16, zz17, zz18, zz19, gateAt, noAssign, resKeys, killAll, siteDsts, isSite, refs, killL, killAV, st0, number, ev, exSl, bnd, bndOK, cellsAV, plain, ofCV, argsOf, argOf, srcOf, partsV, fillC, repeatL, resOf, binV, shV, intV, isShift, strV, unV, ares, ares1, isNilSl, reduceCtorEq, Nat.reduceBEq, Nat.reduceAdd, Nat.reduceSub, Nat.reduceMul, Nat.reduceLT, Nat.reduceLeDiff, Nat.reduceDiv, Nat.reduceEqDiff, Int.reduceToNat, CV.one, Value.oneCell', Int.reduceLT, Int.reduceLE, Int.reduceNeg, Int.reduceEq, GV, H0, F0, Int.reduceBEq, Int.reduceBNe, ↓reduceIte, natV_cells, drop_nats, take_nats, head_nats, length_nats, length_natV, all_nats, exIx_natV, cells_natV, Bool.true_or, Bool.or_true, Bool.false_or, Bool.or_false, callOps_value, callOps_builtin, List.append_eq, beq_self_eq_true, Nat.zero_le, Bool.not_true, Bool.not_false, cvt_31_31, ex_conv_same, w i hi2, w j hj2, w k hk2]
  refine call_by (spec_rot x j _ hj hj2 rfl) ?_
  simp only [zz0, zz1, zz2, zz3, zz4, zz5, zz6, zz7, zz8, zz9, zz10, zz11, zz12, zz13, zz14, zz15, zz16, zz17, zz18, zz19, gateAt, noAssign, resKeys, killAll, siteDsts, isSite, refs, killL, killAV, st0, number, ev, exSl, bnd, bndOK, cellsAV, plain, ofCV, argsOf, argOf, srcOf, partsV, fillC, repeatL, resOf, binV, shV, intV, isShift, strV, unV, ares, ares1, isNilSl, reduceCtorEq, Nat.reduceBEq, Nat.reduceAdd, Nat.reduceSub, Nat.reduceMul, Nat.reduceLT, Nat.reduceLeDiff, Nat.reduceDiv, Nat.reduceEqDiff, Int.reduceToNat, CV.one, Value.oneCell', Int.reduceLT, Int.reduceLE, Int.reduceNeg, Int.reduceEq, GV, H0, F0, Int.reduceBEq, Int.reduceBNe, ↓reduceIte, natV_cells, drop_nats, take_nats, head_nats, length_nats, length_natV, all_nats, exIx_natV, cells_natV, Bool.true_or, Bool.or_true, Bool.false_or, Bool.or_false, callOps_value, callOps_builtin, List.append_eq, beq_self_eq_true, Nat.zero_le, Bool.not_true, Bool.not_false, cvt_31_31, ex_conv_same, w i hi2, w j hj2, w k hk2, n_xor]
  refine call_by (spec_rot x k _ hk hk2 rfl) ?_
  simp only [zz0, zz1, zz2, zz3, zz4, zz5, zz6, zz7, zz8, zz9, zz10, zz11, zz12, zz13, zz14, zz15, zz16, zz17, zz18, zz19, gateAt, noAssign, resKeys, killAll, siteDsts, isSite, refs, killL, killAV, st0, number, ev, exSl, bnd, bndOK, cellsAV, plain, ofCV, argsOf, argOf, srcOf, partsV, fillC, repeatL, resOf, binV, shV, intV, isShift, strV, unV, ares, ares1, isNilSl, reduceCtorEq, Nat.reduceBEq, Nat.reduceAdd, Nat.reduceSub, Nat.reduceMul, Nat.reduceLT, Nat.reduceLeDiff, Nat.reduceDiv, Nat.reduceEqDiff, Int.reduceToNat, CV.one, Value.oneCell', Int.reduceLT, Int.reduceLE, Int.reduceNeg, Int.reduceEq, GV, H0, F0, Int.reduceBEq, Int.reduceBNe, ↓reduceIte, natV_cells, drop_nats, take_nats, head_nats, length_nats, length_natV, all_nats, exIx_natV, cells_natV, Bool.true_or, Bool.or_true, Bool.false_or, Bool.or_false, callOps_value, callOps_builtin, List.append_eq, beq_self_eq_true, Nat.zero_le, Bool.not_true, Bool.not_false, cvt_31_31, ex_conv_same, w i hi2, w j hj2, w k hk2, n_xor]
  rfl
end Abs
end Go.Proofs.YtkdpmjgigknbpaaDoor
