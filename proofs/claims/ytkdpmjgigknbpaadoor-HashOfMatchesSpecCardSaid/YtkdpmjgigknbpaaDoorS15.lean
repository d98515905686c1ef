/-
  Walks: the specification's message schedule.
-/
import Derived.Test.YtkdpmjgigknbpaaDoorS13
namespace Go.Proofs.YtkdpmjgigknbpaaDoor
namespace Abs
open Go.RowKit Sha
set_option linter.unusedSimpArgs false
set_option linter.unusedVariables false
theorem or_low (a b n : Nat) (h : b < 2 ^ n) : (a * 2 ^ n) ||| b = a * 2 ^ n + b := by
  rw [Nat.mul_comm, Nat.two_pow_add_eq_or_of_lt h]
theorem or32_low {a b n : Nat} (h : b < 2 ^ n) (h2 : a * 2 ^ n + b < 4294967296) : or32 (a * 2 ^ n) b = a * 2 ^ n + b := by
  rw [or32_eq, Nat.mod_eq_of_lt (by omega), Nat.mod_eq_of_lt (by omega), or_low a b n h]
theorem shl32_small {a n : Nat} (h : a * 2 ^ n < 4294967296) : shl32 a n = a * 2 ^ n := by rw [shl32_eq, Nat.mod_eq_of_lt h]
theorem be4_nat (x y z w : Nat) (hx : x < 256) (hy : y < 256) (hz : z < 256) (hw : w < 256) :
    or32 (or32 (or32 (shl32 x 24) (shl32 y 16)) (shl32 z 8)) w = or32 (shl32 (or32 (shl32 (or32 (shl32 (or32 (shl32 0 8) x) 8) y) 8) z) 8) w := by
  have p8 : (2 : Nat) ^ 8 = 256 := rfl
  have p16 : (2 : Nat) ^ 16 = 65536 := rfl
  have p24 : (2 : Nat) ^ 24 = 16777216 := rfl
  have a1 : or32 (shl32 x 24) (shl32 y 16) = x * 2 ^ 24 + y * 2 ^ 16 := by
    rw [shl32_small (by omega), shl32_small (by omega)]
    exact or32_low (by omega) (by omega)
  have a2 : or32 (x * 2 ^ 24 + y * 2 ^ 16) (shl32 z 8) = (x * 256 + y) * 2 ^ 16 + z * 2 ^ 8 := by
    rw [shl32_small (by omega), show x * 2 ^ 24 + y * 2 ^ 16 = (x * 256 + y) * 2 ^ 16 by omega]
    exact or32_low (by omega) (by omega)
  have a3 : or32 ((x * 256 + y) * 2 ^ 16 + z * 2 ^ 8) w = ((x * 256 + y) * 256 + z) * 2 ^ 8 + w := by
    rw [show (x * 256 + y) * 2 ^ 16 + z * 2 ^ 8 = ((x * 256 + y) * 256 + z) * 2 ^ 8 by omega]
    exact or32_low (by omega) (by omega)
  have b0 : shl32 0 8 = 0 := by rw [shl32_eq, Nat.zero_mul, Nat.zero_mod]
  have b1 : or32 0 x = x := by rw [or32_eq, Nat.zero_mod, Nat.zero_or, Nat.mod_eq_of_lt (by omega)]
  have b2 : or32 (shl32 x 8) y = x * 2 ^ 8 + y := by
    rw [shl32_small (a := x) (n := 8) (by omega)]
    exact or32_low (by omega) (by omega)
  have b3 : or32 (shl32 (x * 2 ^ 8 + y) 8) z = (x * 2 ^ 8 + y) * 2 ^ 8 + z := by
    rw [shl32_small (a := x * 2 ^ 8 + y) (n := 8) (by omega)]
    exact or32_low (by omega) (by omega)
  have b4 : or32 (shl32 ((x * 2 ^ 8 + y) * 2 ^ 8 + z) 8) w = ((x * 2 ^ 8 + y) * 2 ^ 8 + z) * 2 ^ 8 + w := by
    rw [shl32_small (a := (x * 2 ^ 8 + y) * 2 ^ 8 + z) (n := 8) (by omega)]
    exact or32_low (by omega) (by omega)
  rw [a1, a2, a3, b0, b1, b2, b3, b4]
theorem be4 (b : List UInt8) (t : Nat) : or32 (or32 (or32 (shl32 (b.getD (4 * t) 0).toNat 24) (shl32 (b.getD (4 * t + 1) 0).toNat 16)) (shl32 (b.getD (4 * t + 2) 0).toNat 8)) (b.getD (4 * t + 3) 0).toNat = beTo b t 4 := by
  rw [be4_nat _ _ _ _ (UInt8.toNat_lt _) (UInt8.toNat_lt _) (UInt8.toNat_lt _) (UInt8.toNat_lt _)]
  rfl
theorem rr7 (x : Nat) : SP 49 [.v (.int .u32 (x : Int)), .v (.int .i64 7)] (.v (.int .u32 (rotr x 7 : Int))) := spec_Rrotr x 7 (by decide) (by decide)
theorem rr18 (x : Nat) : SP 49 [.v (.int .u32 (x : Int)), .v (.int .i64 18)] (.v (.int .u32 (rotr x 18 : Int))) := spec_Rrotr x 18 (by decide) (by decide)
theorem rr17 (x : Nat) : SP 49 [.v (.int .u32 (x : Int)), .v (.int .i64 17)] (.v (.int .u32 (rotr x 17 : Int))) := spec_Rrotr x 17 (by decide) (by decide)
theorem rr19 (x : Nat) : SP 49 [.v (.int .u32 (x : Int)), .v (.int .i64 19)] (.v (.int .u32 (rotr x 19 : Int))) := spec_Rrotr x 19 (by decide) (by decide)
def F48 : Nat → Nat → List Nat × List Nat := fun id k => if id = 5 then (if k = 35 then ([3], [3]) else ([3], [])) else if id = 11 then (if k = 15 then ([3], [3]) else ([3], [])) else ([3], [])
set_option maxRecDepth 100000 in
set_option maxHeartbeats 2000000 in
theorem spec_words (b : List UInt8) (hb : b.length = 64) : SP 48 [.sl none 1 (bytesC b)] (.v (.agg (natV .u32 (sched b)).toArray)) := by
  refine spec_fn (H := H0) (F := F48) Tryd.func48 rfl Tryd.ntmps48 Tryd.results48 (by kernel_rfl) rfl (by simp) ?_
  simp only [zz0, zz1, zz2, zz3, zz4, zz5, zz6, zz7, zz8, zz9, zz10, zz11, zz12, zz13, zz14, zz15, zz16, zz17, zz18, zz19, gateAt, noAssign, resKeys, killAll, siteDsts, isSite, refs, killL, killAV, st0, number, ev, exSl, bnd, bndOK, cellsAV, plain, ofCV, argsOf, argOf, srcOf, partsV, fillC, repeatL, resOf, binV, shV, intV, isShift, strV, unV, ares, ares1, isNilSl, reduceCtorEq, Nat.reduceBEq, Nat.reduceAdd, Nat.reduceSub, Nat.reduceMul, Nat.reduceLT, Nat.reduceLeDiff, Nat.reduceDiv, Nat.reduceEqDiff, Int.reduceToNat, CV.one, Value.oneCell', Int.reduceLT, Int.reduceLE, Int.reduceNeg, Int.reduceEq, GV, H0, F0, Int.reduceBEq, Int.reduceBNe, ↓reduceIte, natV_cells, drop_nats, take_nats, head_nats, length_nats, length_natV, all_nats, exIx_natV, cells_natV, Bool.true_or, Bool.or_true, Bool.false_or, Bool.or_false, callOps_value, callOps_builtin, List.append_eq, beq_self_eq_true, Nat.zero_le, Bool.not_true, Bool.not_false, cvt_31_31, ex_conv_same]
  refine loop_by (X := Nat) (fun t => ⟨S [(4, .v (.int .i64 t)), (3, .bp 3 0), (2, .bp 2 0), (0, .sl none 1 (bytesC b))], B [(3, some (nats .u32 (schedZ b t))), (2, some (nats .u32 (List.replicate 64 0)))], O []⟩)
    (fun t => t ≤ 16) (fun t => 16 - t) 0 (Nat.zero_le _) ?_ ?_
  · refine stLe_mk ?_ ?_ ?_ <;> simp only [forall_mem_cons', forall_mem_nil', lk_hit, lk_miss, Nat.reduceBEq, AVle_refl, AVle_bot, AVle_untag, none_or_some, Option.some.injEq, and_true, true_and, length_bytesC, length_ints, length_strs, List.length_append, List.length_cons, List.length_nil]
    · exact AVle_of_eq rfl
    · exact ⟨rfl, rfl⟩
  · intro t ht
    have hZ := schedZ_length b (show t ≤ 64 by omega)
    simp only [zz0, zz1, zz2, zz3, zz4, zz5, zz6, zz7, zz8, zz9, zz10, zz11, zz12, zz13, zz14, zz15, zz16, zz17, zz18, zz19, gateAt, noAssign, resKeys, killAll, siteDsts, isSite, refs, killL, killAV, st0, number, ev, exSl, bnd, bndOK, cellsAV, plain, ofCV, argsOf, argOf, srcOf, partsV, fillC, repeatL, resOf, binV, shV, intV, isShift, strV, unV, ares, ares1, isNilSl, reduceCtorEq, Nat.reduceBEq, Nat.reduceAdd, Nat.reduceSub, Nat.reduceMul, Nat.reduceLT, Nat.reduceLeDiff, Nat.reduceDiv, Nat.reduceEqDiff, Int.reduceToNat, CV.one, Value.oneCell', Int.reduceLT, Int.reduceLE, Int.reduceNeg, Int.reduceEq, GV, H0, F0, Int.reduceBEq, Int.reduceBNe, ↓reduceIte, natV_cells, drop_nats, take_nats, head_nats, length_nats, length_natV, all_nats, exIx_natV, cells_natV, Bool.true_or, Bool.or_true, Bool.false_or, Bool.or_false, callOps_value, callOps_builtin, List.append_eq, beq_self_eq_true, Nat.zero_le, Bool.not_true, Bool.not_false, cvt_31_31, ex_conv_same]
    refine cond_dec (fun hc => ?_) (fun hc => ?_)
    · have ht' : t < 16 := by omega
      have w1 : IntKind.i64.wrap (4 * (t : Int)) = ((4 * t : Nat) : Int) := by rw [IntKind.wrap_i64]; omega
      have w2 : IntKind.i64.wrap (((4 * t : Nat) : Int) + 1) = ((4 * t + 1 : Nat) : Int) := by rw [IntKind.wrap_i64]; omega
      have w3 : IntKind.i64.wrap (((4 * t : Nat) : Int) + 2) = ((4 * t + 2 : Nat) : Int) := by rw [IntKind.wrap_i64]; omega
      have w4 : IntKind.i64.wrap (((4 * t : Nat) : Int) + 3) = ((4 * t + 3 : Nat) : Int) := by rw [IntKind.wrap_i64]; omega
      have l1 : 4 * t < b.length := by omega
      have l2 : 4 * t + 1 < b.length := by omega
      have l3 : 4 * t + 2 < b.length := by omega
      have l4 : 4 * t + 3 < b.length := by omega
      have l5 : t < 64 := by omega
      have l6 : (t : Int) < 64 := by omega
      have hs := schedZ_set b l5
      rw [nextW, if_pos ht', ← be4] at hs
      simp only [zz0, zz1, zz2, zz3, zz4, zz5, zz6, zz7, zz8, zz9, zz10, zz11, zz12, zz13, zz14, zz15, zz16, zz17, zz18, zz19, gateAt, noAssign, resKeys, killAll, siteDsts, isSite, refs, killL, killAV, st0, number, ev, exSl, bnd, bndOK, cellsAV, plain, ofCV, argsOf, argOf, srcOf, partsV, fillC, repeatL, resOf, binV, shV, intV, isShift, strV, unV, ares, ares1, isNilSl, reduceCtorEq, Nat.reduceBEq, Nat.reduceAdd, Nat.reduceSub, Nat.reduceMul, Nat.reduceLT, Nat.reduceLeDiff, Nat.reduceDiv, Nat.reduceEqDiff, Int.reduceToNat, CV.one, Value.oneCell', Int.reduceLT, Int.reduceLE, Int.reduceNeg, Int.reduceEq, GV, H0, F0, Int.reduceBEq, Int.reduceBNe, ↓reduceIte, natV_cells, drop_nats, take_nats, head_nats, length_nats, length_natV, all_nats, exIx_natV, cells_natV, Bool.true_or, Bool.or_true, Bool.false_or, Bool.or_false, callOps_value, callOps_builtin, List.append_eq, beq_self_eq_true, Nat.zero_le, Bool.not_true, Bool.not_false, cvt_31_31, ex_conv_same, w1, w2, w3, w4, l1, l2, l3, l4, l5, l6, hb, hZ, u8_u32, n_shl, n_or, F48, hs, put_nats .u32 _ t _ (by omega : t < (schedZ b t).length), i64_nat (show t < 9223372036854775807 by omega)]
      refine ⟨by kernel_rfl, by omega, by omega, by omega, by omega, by omega, by omega, by omega, by omega, by omega, t + 1, by omega, by omega, ?_⟩
      refine stLe_mk ?_ ?_ ?_ <;> simp only [forall_mem_cons', forall_mem_nil', lk_hit, lk_miss, Nat.reduceBEq, AVle_refl, AVle_bot, AVle_untag, none_or_some, Option.some.injEq, and_true, true_and, length_bytesC, length_ints, length_strs, List.length_append, List.length_cons, List.length_nil]
    · have h16 : t = 16 := by omega
      subst h16
      simp only [zz0, zz1, zz2, zz3, zz4, zz5, zz6, zz7, zz8, zz9, zz10, zz11, zz12, zz13, zz14, zz15, zz16, zz17, zz18, zz19, gateAt, noAssign, resKeys, killAll, siteDsts, isSite, refs, killL, killAV, st0, number, ev, exSl, bnd, bndOK, cellsAV, plain, ofCV, argsOf, argOf, srcOf, partsV, fillC, repeatL, resOf, binV, shV, intV, isShift, strV, unV, ares, ares1, isNilSl, reduceCtorEq, Nat.reduceBEq, Nat.reduceAdd, Nat.reduceSub, Nat.reduceMul, Nat.reduceLT, Nat.reduceLeDiff, Nat.reduceDiv, Nat.reduceEqDiff, Int.reduceToNat, CV.one, Value.oneCell', Int.reduceLT, Int.reduceLE, Int.reduceNeg, Int.reduceEq, GV, H0, F0, Int.reduceBEq, Int.reduceBNe, ↓reduceIte, natV_cells, drop_nats, take_nats, head_nats, length_nats, length_natV, all_nats, exIx_natV, cells_natV, Bool.true_or, Bool.or_true, Bool.false_or, Bool.or_false, callOps_value, callOps_builtin, List.append_eq, beq_self_eq_true, Nat.zero_le, Bool.not_true, Bool.not_false, cvt_31_31, ex_conv_same]
      refine loop_by (X := Nat) (fun t => ⟨S [(5, .v (.int .i64 t)), (3, .bp 3 0), (2, .bp 2 0)], B [(3, some (nats .u32 (schedZ b t))), (2, some (nats .u32 (List.replicate 64 0)))], O []⟩)
        (fun t => 16 ≤ t ∧ t ≤ 64) (fun t => 64 - t) 16 ⟨Nat.le_refl _, by omega⟩ ?_ ?_
      · refine stLe_mk ?_ ?_ ?_ <;> simp only [forall_mem_cons', forall_mem_nil', lk_hit, lk_miss, Nat.reduceBEq, AVle_refl, AVle_bot, AVle_untag, none_or_some, Option.some.injEq, and_true, true_and, length_bytesC, length_ints, length_strs, List.length_append, List.length_cons, List.length_nil]
        exact AVle_of_eq rfl
      · intro t ⟨ht1, ht2⟩
        have hZ := schedZ_length b ht2
        simp only [zz0, zz1, zz2, zz3, zz4, zz5, zz6, zz7, zz8, zz9, zz10, zz11, zz12, zz13, zz14, zz15, zz16, zz17, zz18, zz19, gateAt, noAssign, resKeys, killAll, siteDsts, isSite, refs, killL, killAV, st0, number, ev, exSl, bnd, bndOK, cellsAV, plain, ofCV, argsOf, argOf, srcOf, partsV, fillC, repeatL, resOf, binV, shV, intV, isShift, strV, unV, ares, ares1, isNilSl, reduceCtorEq, Nat.reduceBEq, Nat.reduceAdd, Nat.reduceSub, Nat.reduceMul, Nat.reduceLT, Nat.reduceLeDiff, Nat.reduceDiv, Nat.reduceEqDiff, Int.reduceToNat, CV.one, Value.oneCell', Int.reduceLT, Int.reduceLE, Int.reduceNeg, Int.reduceEq, GV, H0, F0, Int.reduceBEq, Int.reduceBNe, ↓reduceIte, natV_cells, drop_nats, take_nats, head_nats, length_nats, length_natV, all_nats, exIx_natV, cells_natV, Bool.true_or, Bool.or_true, Bool.false_or, Bool.or_false, callOps_value, callOps_builtin, List.append_eq, beq_self_eq_true, Nat.zero_le, Bool.not_true, Bool.not_false, cvt_31_31, ex_conv_same]
        refine cond_dec (fun hc => ?_) (fun hc => ?_)
        · have ht' : t < 64 := by omega
          have w1 : IntKind.i64.wrap ((t : Int) - 15) = ((t - 15 : Nat) : Int) := by rw [IntKind.wrap_i64]; omega
          have w2 : IntKind.i64.wrap ((t : Int) - 2) = ((t - 2 : Nat) : Int) := by rw [IntKind.wrap_i64]; omega
          have w3 : IntKind.i64.wrap ((t : Int) - 16) = ((t - 16 : Nat) : Int) := by rw [IntKind.wrap_i64]; omega
          have w4 : IntKind.i64.wrap ((t : Int) - 7) = ((t - 7 : Nat) : Int) := by rw [IntKind.wrap_i64]; omega
          have l1 : ((t - 15 : Nat) : Int) < 64 := by omega
          have l2 : ((t - 2 : Nat) : Int) < 64 := by omega
          have l3 : ((t - 16 : Nat) : Int) < 64 := by omega
          have l4 : ((t - 7 : Nat) : Int) < 64 := by omega
          have m1 : t - 15 < 64 := by omega
          have m2 : t - 2 < 64 := by omega
          have m3 : t - 16 < 64 := by omega
          have m4 : t - 7 < 64 := by omega
          have l5 : (t : Int) < 64 := by omega
          have hs := schedZ_set b ht'
          rw [nextW, if_neg (by omega), sig0, sig1] at hs
          simp only [zz0, zz1, zz2, zz3, zz4, zz5, zz6, zz7, zz8, zz9, zz10, zz11, zz12, zz13, zz14, zz15, zz16, zz17, zz18, zz19, gateAt, noAssign, resKeys, killAll, siteDsts, isSite, refs, killL, killAV, st0, number, ev, exSl, bnd, bndOK, cellsAV, plain, ofCV, argsOf, argOf, srcOf, partsV, fillC, repeatL, resOf, binV, shV, intV, isShift, strV, unV, ares, ares1, isNilSl, reduceCtorEq, Nat.reduceBEq, Nat.reduceAdd, Nat.reduceSub, Nat.reduceMul, Nat.reduceLT, Nat.reduceLeDiff, Nat.reduceDiv, Nat.reduceEqDiff, Int.reduceToNat, CV.one, Value.oneCell', Int.reduceLT, Int.reduceLE, Int.reduceNeg, Int.reduceEq, GV, H0, F0, Int.reduceBEq, Int.reduceBNe, ↓reduceIte, natV_cells, drop_nats, take_nats, head_nats, length_nats, length_natV, all_nats, exIx_natV, cells_natV, Bool.true_or, Bool.or_true, Bool.false_or, Bool.or_false, callOps_value, callOps_builtin, List.append_eq, beq_self_eq_true, Nat.zero_le, Bool.not_true, Bool.not_false, cvt_31_31, ex_conv_same, w1, w2, w3, w4, l1, l2, l3, l4, l5, m1, m2, m3, m4, hZ, schedZ_get b (show t - 15 < t by omega), schedZ_get b (show t - 2 < t by omega), schedZ_get b (show t - 16 < t by omega), schedZ_get b (show t - 7 < t by omega), F48]
          refine ⟨by kernel_rfl, ?_⟩
          refine call_by (rr7 _) ?_
          simp only [zz0, zz1, zz2, zz3, zz4, zz5, zz6, zz7, zz8, zz9, zz10, zz11, zz12, zz13, zz14, zz15, zz16, zz17, zz18, zz19, gateAt, noAssign, resKeys, killAll, siteDsts, isSite, refs, killL, killAV, st0, number, ev, exSl, bnd, bndOK, cellsAV, plain, ofCV, argsOf, argOf, srcOf, partsV, fillC, repeatL, resOf, binV, shV, intV, isShift, strV, unV, ares, ares1, isNilSl, reduceCtorEq, Nat.reduceBEq, Nat.reduceAdd, Nat.reduceSub, Nat.reduceMul, Nat.reduceLT, Nat.reduceLeDiff, Nat.reduceDiv, Nat.reduceEqDiff, Int.reduceToNat, CV.one, Value.oneCell', Int.reduceLT, Int.reduceLE, Int.reduceNeg, Int.reduceEq, GV, H0, F0, Int.reduceBEq, Int.reduceBNe, ↓reduceIte, natV_cells, drop_nats, take_nats, head_nats, length_nats, length_natV, all_nats, exIx_natV, cells_natV, Bool.true_or, Bool.or_true, Bool.false_or, Bool.or_false, callOps_value, callOps_builtin, List.append_eq, beq_self_eq_true, Nat.zero_le, Bool.not_true, Bool.not_false, cvt_31_31, ex_conv_same, w1, l1, m1, hZ, schedZ_get b (show t - 15 < t by omega), F48]
          refine call_by (rr18 _) ?_
          simp only [zz0, zz1, zz2, zz3, zz4, zz5, zz6, zz7, zz8, zz9, zz10, zz11, zz12, zz13, zz14, zz15, zz16, zz17, zz18, zz19, gateAt, noAssign, resKeys, killAll, siteDsts, isSite, refs, killL, killAV, st0, number, ev, exSl, bnd, bndOK, cellsAV, plain, ofCV, argsOf, argOf, srcOf, partsV, fillC, repeatL, resOf, binV, shV, intV, isShift, strV, unV, ares, ares1, isNilSl, reduceCtorEq, Nat.reduceBEq, Nat.reduceAdd, Nat.reduceSub, Nat.reduceMul, Nat.reduceLT, Nat.reduceLeDiff, Nat.reduceDiv, Nat.reduceEqDiff, Int.reduceToNat, CV.one, Value.oneCell', Int.reduceLT, Int.reduceLE, Int.reduceNeg, Int.reduceEq, GV, H0, F0, Int.reduceBEq, Int.reduceBNe, ↓reduceIte, natV_cells, drop_nats, take_nats, head_nats, length_nats, length_natV, all_nats, exIx_natV, cells_natV, Bool.true_or, Bool.or_true, Bool.false_or, Bool.or_false, callOps_value, callOps_builtin, List.append_eq, beq_self_eq_true, Nat.zero_le, Bool.not_true, Bool.not_false, cvt_31_31, ex_conv_same, w1, l1, m1, w2, l2, m2, hZ, schedZ_get b (show t - 15 < t by omega), schedZ_get b (show t - 2 < t by omega), n_xor, n_shr, F48]
          refine ⟨by kernel_rfl, ?_⟩
          refine call_by (rr17 _) ?_
          simp only [zz0, zz1, zz2, zz3, zz4, zz5, zz6, zz7, zz8, zz9, zz10, zz11, zz12, zz13, zz14, zz15, zz16, zz17, zz18, zz19, gateAt, noAssign, resKeys, killAll, siteDsts, isSite, refs, killL, killAV, st0, number, ev, exSl, bnd, bndOK, cellsAV, plain, ofCV, argsOf, argOf, srcOf, partsV, fillC, repeatL, resOf, binV, shV, intV, isShift, strV, unV, ares, ares1, isNilSl, reduceCtorEq, Nat.reduceBEq, Nat.reduceAdd, Nat.reduceSub, Nat.reduceMul, Nat.reduceLT, Nat.reduceLeDiff, Nat.reduceDiv, Nat.reduceEqDiff, Int.reduceToNat, CV.one, Value.oneCell', Int.reduceLT, Int.reduceLE, Int.reduceNeg, Int.reduceEq, GV, H0, F0, Int.reduceBEq, Int.reduceBNe, ↓reduceIte, natV_cells, drop_nats, take_nats, head_nats, length_nats, length_natV, all_nats, exIx_natV, cells_natV, Bool.true_or, Bool.or_true, Bool.false_or, Bool.or_false, callOps_value, callOps_builtin, List.append_eq, beq_self_eq_true, Nat.zero_le, Bool.not_true, Bool.not_false, cvt_31_31, ex_conv_same, w2, l2, m2, hZ, schedZ_get b (show t - 2 < t by omega), F48]
          refine call_by (rr19 _) ?_
          simp only [zz0, zz1, zz2, zz3, zz4, zz5, zz6, zz7, zz8, zz9, zz10, zz11, zz12, zz13, zz14, zz15, zz16, zz17, zz18, zz19, gateAt, noAssign, resKeys, killAll, siteDsts, isSite, refs, killL, killAV, st0, number, ev, exSl, bnd, bndOK, cellsAV, plain, ofCV, argsOf, argOf, srcOf, partsV, fillC, repeatL, resOf, binV, shV, intV, isShift, strV, unV, ares, ares1, isNilSl, reduceCtorEq, Nat.reduceBEq, Nat.reduceAdd, Nat.reduceSub, Nat.reduceMul, Nat.reduceLT, Nat.reduceLeDiff, Nat.reduceDiv, Nat.reduceEqDiff, Int.reduceToNat, CV.one, Value.oneCell', Int.reduceLT, Int.reduceLE, Int.reduceNeg, Int.reduceEq, GV, H0, F0, Int.reduceBEq, Int.reduceBNe, ↓reduceIte, natV_cells, drop_nats, take_nats, head_nats, length_nats, length_natV, all_nats, exIx_natV, cells_natV, Bool.true_or, Bool.or_true, Bool.false_or, Bool.or_false, callOps_value, callOps_builtin, List.append_eq, beq_self_eq_true, Nat.zero_le, Bool.not_true, Bool.not_false, cvt_31_31, ex_conv_same, n_xor, n_shr, w2, w3, w4, l2, m2, l3, l4, l5, m3, m4, hZ, ht', schedZ_get b (show t - 2 < t by omega), schedZ_get b (show t - 16 < t by omega), schedZ_get b (show t - 7 < t by omega), F48, n_add, put_nats .u32 _ t _ (by omega : t < (schedZ b t).length), hs, i64_nat (show t < 9223372036854775807 by omega)]
          refine ⟨by kernel_rfl, by omega, t + 1, ⟨by omega, by omega⟩, by omega, ?_⟩
          refine stLe_mk ?_ ?_ ?_ <;> simp only [forall_mem_cons', forall_mem_nil', lk_hit, lk_miss, Nat.reduceBEq, AVle_refl, AVle_bot, AVle_untag, none_or_some, Option.some.injEq, and_true, true_and, length_bytesC, length_ints, length_strs, List.length_append, List.length_cons, List.length_nil]
        · have : t = 64 := by omega
          subst this
          have hS : (sched b).length = 64 := by rw [sched_eq]; exact schedTo_length b 64
          have e64 : List.take 64 (sched b) = sched b := List.take_of_length_le (by omega)
          have e0 : schedZ b 64 = sched b := by simp [schedZ, sched_eq]
          have e1 := put_all .u32 (List.replicate 64 0) (sched b) (by rw [hS]; simp)
          simp only [zz0, zz1, zz2, zz3, zz4, zz5, zz6, zz7, zz8, zz9, zz10, zz11, zz12, zz13, zz14, zz15, zz16, zz17, zz18, zz19, gateAt, noAssign, resKeys, killAll, siteDsts, isSite, refs, killL, killAV, st0, number, ev, exSl, bnd, bndOK, cellsAV, plain, ofCV, argsOf, argOf, srcOf, partsV, fillC, repeatL, resOf, binV, shV, intV, isShift, strV, unV, ares, ares1, isNilSl, reduceCtorEq, Nat.reduceBEq, Nat.reduceAdd, Nat.reduceSub, Nat.reduceMul, Nat.reduceLT, Nat.reduceLeDiff, Nat.reduceDiv, Nat.reduceEqDiff, Int.reduceToNat, CV.one, Value.oneCell', Int.reduceLT, Int.reduceLE, Int.reduceNeg, Int.reduceEq, GV, H0, F0, Int.reduceBEq, Int.reduceBNe, ↓reduceIte, natV_cells, drop_nats, take_nats, head_nats, length_nats, length_natV, all_nats, exIx_natV, cells_natV, Bool.true_or, Bool.or_true, Bool.false_or, Bool.or_false, callOps_value, callOps_builtin, List.append_eq, beq_self_eq_true, Nat.zero_le, Bool.not_true, Bool.not_false, cvt_31_31, ex_conv_same, e0, e64, hS, plain_nats, e1, List.length_replicate]
end Abs
end Go.Proofs.YtkdpmjgigknbpaaDoor
