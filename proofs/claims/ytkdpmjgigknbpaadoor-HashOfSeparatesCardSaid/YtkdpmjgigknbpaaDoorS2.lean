/-
  Walks: the message schedule.
-/
import Derived.Test.YtkdpmjgigknbpaaDoorS1
namespace Go.Proofs.YtkdpmjgigknbpaaDoor
namespace Abs
open Go.RowKit Sha
set_option linter.unusedSimpArgs false
set_option linter.unusedVariables false
theorem nats_rep (k : IntKind) (n : Nat) : List.replicate n (CV.v (.int k 0)) = nats k (List.replicate n 0) := by simp [nats]
theorem put_all (k : IntKind) (l m : List Nat) (h : m.length = l.length) : putL (nats k l) 0 (nats k m) = nats k m := by
  simp [putL, nats, h]
theorem set_getD (l : List Nat) (i x : Nat) (h : i < l.length) : (l.set i x).getD i 0 = x := by
  simp [List.getD_eq_getElem?_getD, h]
theorem set_set (l : List Nat) (i x y : Nat) : (l.set i x).set i y = l.set i y := List.set_set ..
theorem u8_u32 (x : UInt8) : IntKind.u32.wrap (x.toNat : Int) = (x.toNat : Int) := by
  have := x.toNat_lt
  rw [IntKind.wrap_u32]; omega
theorem schedZ_set0 (b : List UInt8) {t : Nat} (h : t < 64) : (schedZ b t).set t 0 = schedZ b t := by
  unfold schedZ
  have hl := schedTo_length b t
  rw [List.set_append_right _ _ (by omega), hl, Nat.sub_self, show 64 - t = (64 - (t + 1)) + 1 by omega, List.replicate_succ, List.set_cons_zero]
theorem part_getD (b : List UInt8) (m j : Nat) (h : j < 4) : (List.drop m (List.take (m + 4) b)).getD j 0 = b.getD (m + j) 0 := by
  rw [List.getD_eq_getElem?_getD, List.getD_eq_getElem?_getD, List.getElem?_drop, List.getElem?_take, if_pos (by omega)]
theorem rot7 (x : Nat) : SP 55 [.v (.int .u32 (x : Int)), .v (.int .i64 (-7))] (.v (.int .u32 (rotr x 7 : Int))) := spec_rot x 7 (-7) (by decide) (by decide) (by decide)
theorem rot18 (x : Nat) : SP 55 [.v (.int .u32 (x : Int)), .v (.int .i64 (-18))] (.v (.int .u32 (rotr x 18 : Int))) := spec_rot x 18 (-18) (by decide) (by decide) (by decide)
theorem rot17 (x : Nat) : SP 55 [.v (.int .u32 (x : Int)), .v (.int .i64 (-17))] (.v (.int .u32 (rotr x 17 : Int))) := spec_rot x 17 (-17) (by decide) (by decide) (by decide)
theorem rot19 (x : Nat) : SP 55 [.v (.int .u32 (x : Int)), .v (.int .i64 (-19))] (.v (.int .u32 (rotr x 19 : Int))) := spec_rot x 19 (-19) (by decide) (by decide) (by decide)
def FS2 : Nat → Nat → List Nat × List Nat := fun id k => if id = 14 then (if k = 15 then ([3], [3]) else ([3], [])) else ([3], [])
set_option maxRecDepth 100000 in
set_option maxHeartbeats 2000000 in
theorem spec_schedule (b : List UInt8) (hb : b.length = 64) : SP 53 [.sl none 1 (bytesC b)] (.v (.agg (natV .u32 (sched b)).toArray)) := by
  refine spec_fn (H := H0) (F := FS2) Tryd.func53 rfl Tryd.ntmps53 Tryd.results53 (by kernel_rfl) rfl (by simp) ?_
  have hz : ∀ l : List CV, l = nats .u32 (List.replicate 64 0) → True := fun _ _ => trivial
  simp only [zz0, zz1, zz2, zz3, zz4, zz5, zz6, zz7, zz8, zz9, zz10, zz11, zz12, zz13, zz14, zz15, zz16, zz17, zz18, zz19, gateAt, noAssign, resKeys, killAll, siteDsts, isSite, refs, killL, killAV, st0, number, ev, exSl, bnd, bndOK, cellsAV, plain, ofCV, argsOf, argOf, srcOf, partsV, fillC, repeatL, resOf, binV, shV, intV, isShift, strV, unV, ares, ares1, isNilSl, reduceCtorEq, Nat.reduceBEq, Nat.reduceAdd, Nat.reduceSub, Nat.reduceMul, Nat.reduceLT, Nat.reduceLeDiff, Nat.reduceDiv, Nat.reduceEqDiff, Int.reduceToNat, CV.one, Value.oneCell', Int.reduceLT, Int.reduceLE, Int.reduceNeg, Int.reduceEq, GV, H0, F0, Int.reduceBEq, Int.reduceBNe, ↓reduceIte, natV_cells, drop_nats, take_nats, head_nats, length_nats, length_natV, all_nats, exIx_natV, cells_natV, Bool.true_or, Bool.or_true, Bool.false_or, Bool.or_false, callOps_value, callOps_builtin, List.append_eq, beq_self_eq_true, Nat.zero_le, Bool.not_true, Bool.not_false, cvt_31_31, ex_conv_same]
  refine loop_by (X := Nat) (fun t => ⟨S [(11, .v (.int .i64 t)), (3, .bp 3 0), (2, .bp 2 0), (0, .sl none 1 (bytesC b))], B [(3, some (nats .u32 (schedZ b t))), (2, some (nats .u32 (List.replicate 64 0)))], O []⟩)
    (fun t => t ≤ 64) (fun t => 64 - t) 0 (Nat.zero_le _) ?_ ?_
  · refine stLe_mk ?_ ?_ ?_ <;> simp only [forall_mem_cons', forall_mem_nil', lk_hit, lk_miss, Nat.reduceBEq, AVle_refl, AVle_bot, AVle_untag, none_or_some, Option.some.injEq, and_true, true_and, length_bytesC, length_ints, length_strs, List.length_append, List.length_cons, List.length_nil]
    · exact AVle_of_eq rfl
    · exact ⟨rfl, rfl⟩
  · intro t ht
    have hZ := schedZ_length b ht
    simp only [zz0, zz1, zz2, zz3, zz4, zz5, zz6, zz7, zz8, zz9, zz10, zz11, zz12, zz13, zz14, zz15, zz16, zz17, zz18, zz19, gateAt, noAssign, resKeys, killAll, siteDsts, isSite, refs, killL, killAV, st0, number, ev, exSl, bnd, bndOK, cellsAV, plain, ofCV, argsOf, argOf, srcOf, partsV, fillC, repeatL, resOf, binV, shV, intV, isShift, strV, unV, ares, ares1, isNilSl, reduceCtorEq, Nat.reduceBEq, Nat.reduceAdd, Nat.reduceSub, Nat.reduceMul, Nat.reduceLT, Nat.reduceLeDiff, Nat.reduceDiv, Nat.reduceEqDiff, Int.reduceToNat, CV.one, Value.oneCell', Int.reduceLT, Int.reduceLE, Int.reduceNeg, Int.reduceEq, GV, H0, F0, Int.reduceBEq, Int.reduceBNe, ↓reduceIte, natV_cells, drop_nats, take_nats, head_nats, length_nats, length_natV, all_nats, exIx_natV, cells_natV, Bool.true_or, Bool.or_true, Bool.false_or, Bool.or_false, callOps_value, callOps_builtin, List.append_eq, beq_self_eq_true, Nat.zero_le, Bool.not_true, Bool.not_false, cvt_31_31, ex_conv_same]
    refine cond_dec (fun hc => ?_) (fun hc => ?_)
    · have ht' : t < 64 := by omega
      have hc0 := hc
      by_cases h16 : t < 16
      · have g : decide ((t : Int) < 16) = true := decide_eq_true (by omega)
        have w1 : IntKind.i64.wrap (4 * (t : Int)) = ((4 * t : Nat) : Int) := by rw [IntKind.wrap_i64]; omega
        have w2 : IntKind.i64.wrap (((4 * t : Nat) : Int) + 4) = ((4 * t + 4 : Nat) : Int) := by rw [IntKind.wrap_i64]; omega
        have e1 : (List.drop (4 * t) (List.take (4 * t + 4) b)).length = 4 := by rw [List.length_drop, List.length_take]; omega
        simp only [zz0, zz1, zz2, zz3, zz4, zz5, zz6, zz7, zz8, zz9, zz10, zz11, zz12, zz13, zz14, zz15, zz16, zz17, zz18, zz19, gateAt, noAssign, resKeys, killAll, siteDsts, isSite, refs, killL, killAV, st0, number, ev, exSl, bnd, bndOK, cellsAV, plain, ofCV, argsOf, argOf, srcOf, partsV, fillC, repeatL, resOf, binV, shV, intV, isShift, strV, unV, ares, ares1, isNilSl, reduceCtorEq, Nat.reduceBEq, Nat.reduceAdd, Nat.reduceSub, Nat.reduceMul, Nat.reduceLT, Nat.reduceLeDiff, Nat.reduceDiv, Nat.reduceEqDiff, Int.reduceToNat, CV.one, Value.oneCell', Int.reduceLT, Int.reduceLE, Int.reduceNeg, Int.reduceEq, GV, H0, F0, Int.reduceBEq, Int.reduceBNe, ↓reduceIte, natV_cells, drop_nats, take_nats, head_nats, length_nats, length_natV, all_nats, exIx_natV, cells_natV, Bool.true_or, Bool.or_true, Bool.false_or, Bool.or_false, callOps_value, callOps_builtin, List.append_eq, beq_self_eq_true, Nat.zero_le, Bool.not_true, Bool.not_false, cvt_31_31, ex_conv_same, g, w1, w2, e1]
        refine ⟨by omega, by omega, ?_⟩
        refine loop_by (X := Nat) (fun j => ⟨S [(24, .v (.int .i64 j)), (23, .v (.int .i64 4)), (22, .sl none 1 (bytesC (List.drop (4 * t) (List.take (4 * t + 4) b)))), (4, .v (.int .i64 t)), (11, .v (.int .i64 t)), (3, .bp 3 0), (2, .bp 2 0), (0, .sl none 1 (bytesC b))], B [(3, some (nats .u32 ((schedZ b t).set t (beTo b t j)))), (2, some (nats .u32 (List.replicate 64 0)))], O []⟩)
          (fun j => j ≤ 4) (fun j => 4 - j) 0 (Nat.zero_le _) ?_ ?_
        · refine stLe_mk ?_ ?_ ?_ <;> simp only [forall_mem_cons', forall_mem_nil', lk_hit, lk_miss, Nat.reduceBEq, AVle_refl, AVle_bot, AVle_untag, none_or_some, Option.some.injEq, and_true, true_and, length_bytesC, length_ints, length_strs, List.length_append, List.length_cons, List.length_nil, beTo, schedZ_set0 b ht']
          exact AVle_of_eq rfl
        · intro j hj
          simp only [zz0, zz1, zz2, zz3, zz4, zz5, zz6, zz7, zz8, zz9, zz10, zz11, zz12, zz13, zz14, zz15, zz16, zz17, zz18, zz19, gateAt, noAssign, resKeys, killAll, siteDsts, isSite, refs, killL, killAV, st0, number, ev, exSl, bnd, bndOK, cellsAV, plain, ofCV, argsOf, argOf, srcOf, partsV, fillC, repeatL, resOf, binV, shV, intV, isShift, strV, unV, ares, ares1, isNilSl, reduceCtorEq, Nat.reduceBEq, Nat.reduceAdd, Nat.reduceSub, Nat.reduceMul, Nat.reduceLT, Nat.reduceLeDiff, Nat.reduceDiv, Nat.reduceEqDiff, Int.reduceToNat, CV.one, Value.oneCell', Int.reduceLT, Int.reduceLE, Int.reduceNeg, Int.reduceEq, GV, H0, F0, Int.reduceBEq, Int.reduceBNe, ↓reduceIte, natV_cells, drop_nats, take_nats, head_nats, length_nats, length_natV, all_nats, exIx_natV, cells_natV, Bool.true_or, Bool.or_true, Bool.false_or, Bool.or_false, callOps_value, callOps_builtin, List.append_eq, beq_self_eq_true, Nat.zero_le, Bool.not_true, Bool.not_false, cvt_31_31, ex_conv_same]
          refine cond_dec (fun hc => ?_) (fun hc => ?_)
          · have hj' : j < 4 := by omega
            simp only [zz0, zz1, zz2, zz3, zz4, zz5, zz6, zz7, zz8, zz9, zz10, zz11, zz12, zz13, zz14, zz15, zz16, zz17, zz18, zz19, gateAt, noAssign, resKeys, killAll, siteDsts, isSite, refs, killL, killAV, st0, number, ev, exSl, bnd, bndOK, cellsAV, plain, ofCV, argsOf, argOf, srcOf, partsV, fillC, repeatL, resOf, binV, shV, intV, isShift, strV, unV, ares, ares1, isNilSl, reduceCtorEq, Nat.reduceBEq, Nat.reduceAdd, Nat.reduceSub, Nat.reduceMul, Nat.reduceLT, Nat.reduceLeDiff, Nat.reduceDiv, Nat.reduceEqDiff, Int.reduceToNat, CV.one, Value.oneCell', Int.reduceLT, Int.reduceLE, Int.reduceNeg, Int.reduceEq, GV, H0, F0, Int.reduceBEq, Int.reduceBNe, ↓reduceIte, natV_cells, drop_nats, take_nats, head_nats, length_nats, length_natV, all_nats, exIx_natV, cells_natV, Bool.true_or, Bool.or_true, Bool.false_or, Bool.or_false, callOps_value, callOps_builtin, List.append_eq, beq_self_eq_true, Nat.zero_le, Bool.not_true, Bool.not_false, cvt_31_31, ex_conv_same, e1, hj', part_getD b (4 * t) j hj', List.length_set, hZ, ht', set_getD _ t _ (by omega : t < (schedZ b t).length), n_shl, u8_u32, n_or, put_nats .u32 _ t _ (by rw [List.length_set]; omega : t < ((schedZ b t).set t (beTo b t j)).length), set_set, i64_nat (show j < 9223372036854775807 by omega)]
            refine ⟨hc0, by omega, by omega, j + 1, by omega, by omega, ?_⟩
            refine stLe_mk ?_ ?_ ?_ <;> simp only [forall_mem_cons', forall_mem_nil', lk_hit, lk_miss, Nat.reduceBEq, AVle_refl, AVle_bot, AVle_untag, none_or_some, Option.some.injEq, and_true, true_and, length_bytesC, length_ints, length_strs, List.length_append, List.length_cons, List.length_nil]
            rfl
          · have : j = 4 := by omega
            subst this
            have hs := schedZ_set b ht'
            rw [nextW, if_pos h16] at hs
            simp only [zz0, zz1, zz2, zz3, zz4, zz5, zz6, zz7, zz8, zz9, zz10, zz11, zz12, zz13, zz14, zz15, zz16, zz17, zz18, zz19, gateAt, noAssign, resKeys, killAll, siteDsts, isSite, refs, killL, killAV, st0, number, ev, exSl, bnd, bndOK, cellsAV, plain, ofCV, argsOf, argOf, srcOf, partsV, fillC, repeatL, resOf, binV, shV, intV, isShift, strV, unV, ares, ares1, isNilSl, reduceCtorEq, Nat.reduceBEq, Nat.reduceAdd, Nat.reduceSub, Nat.reduceMul, Nat.reduceLT, Nat.reduceLeDiff, Nat.reduceDiv, Nat.reduceEqDiff, Int.reduceToNat, CV.one, Value.oneCell', Int.reduceLT, Int.reduceLE, Int.reduceNeg, Int.reduceEq, GV, H0, F0, Int.reduceBEq, Int.reduceBNe, ↓reduceIte, natV_cells, drop_nats, take_nats, head_nats, length_nats, length_natV, all_nats, exIx_natV, cells_natV, Bool.true_or, Bool.or_true, Bool.false_or, Bool.or_false, callOps_value, callOps_builtin, List.append_eq, beq_self_eq_true, Nat.zero_le, Bool.not_true, Bool.not_false, cvt_31_31, ex_conv_same, hs, i64_nat (show t < 9223372036854775807 by omega)]
            refine ⟨t + 1, by omega, by omega, ?_⟩
            refine stLe_mk ?_ ?_ ?_ <;> simp only [forall_mem_cons', forall_mem_nil', lk_hit, lk_miss, Nat.reduceBEq, AVle_refl, AVle_bot, AVle_untag, none_or_some, Option.some.injEq, and_true, true_and, length_bytesC, length_ints, length_strs, List.length_append, List.length_cons, List.length_nil]
      · have g : decide ((t : Int) < 16) = false := decide_eq_false (by omega)
        have w1 : IntKind.i64.wrap ((t : Int) - 15) = ((t - 15 : Nat) : Int) := by rw [IntKind.wrap_i64]; omega
        have w2 : IntKind.i64.wrap ((t : Int) - 2) = ((t - 2 : Nat) : Int) := by rw [IntKind.wrap_i64]; omega
        have w3 : IntKind.i64.wrap ((t : Int) - 16) = ((t - 16 : Nat) : Int) := by rw [IntKind.wrap_i64]; omega
        have w4 : IntKind.i64.wrap ((t : Int) - 7) = ((t - 7 : Nat) : Int) := by rw [IntKind.wrap_i64]; omega
        have l1 : ((t - 15 : Nat) : Int) < 64 := by omega
        have l2 : ((t - 2 : Nat) : Int) < 64 := by omega
        have l3 : ((t - 16 : Nat) : Int) < 64 := by omega
        have l4 : ((t - 7 : Nat) : Int) < 64 := by omega
        have m1 : t - 15 < 64 := by omega
        have m2 : t - 2 < 64 := by omega
        have m3 : t - 16 < 64 := by omega
        have m4 : t - 7 < 64 := by omega
        have l5 : (t : Int) < 64 := by omega
        have hs := schedZ_set b ht'
        rw [nextW, if_neg h16, sig0, sig1] at hs
        simp only [zz0, zz1, zz2, zz3, zz4, zz5, zz6, zz7, zz8, zz9, zz10, zz11, zz12, zz13, zz14, zz15, zz16, zz17, zz18, zz19, gateAt, noAssign, resKeys, killAll, siteDsts, isSite, refs, killL, killAV, st0, number, ev, exSl, bnd, bndOK, cellsAV, plain, ofCV, argsOf, argOf, srcOf, partsV, fillC, repeatL, resOf, binV, shV, intV, isShift, strV, unV, ares, ares1, isNilSl, reduceCtorEq, Nat.reduceBEq, Nat.reduceAdd, Nat.reduceSub, Nat.reduceMul, Nat.reduceLT, Nat.reduceLeDiff, Nat.reduceDiv, Nat.reduceEqDiff, Int.reduceToNat, CV.one, Value.oneCell', Int.reduceLT, Int.reduceLE, Int.reduceNeg, Int.reduceEq, GV, H0, F0, Int.reduceBEq, Int.reduceBNe, ↓reduceIte, natV_cells, drop_nats, take_nats, head_nats, length_nats, length_natV, all_nats, exIx_natV, cells_natV, Bool.true_or, Bool.or_true, Bool.false_or, Bool.or_false, callOps_value, callOps_builtin, List.append_eq, beq_self_eq_true, Nat.zero_le, Bool.not_true, Bool.not_false, cvt_31_31, ex_conv_same, g, w1, w2, w3, w4, l1, l2, l3, l4, l5, m1, m2, m3, m4, hZ, schedZ_get b (show t - 15 < t by omega), schedZ_get b (show t - 2 < t by omega), schedZ_get b (show t - 16 < t by omega), schedZ_get b (show t - 7 < t by omega), FS2]
        refine ⟨by kernel_rfl, ?_⟩
        refine call_by (rot7 _) ?_
        simp only [zz0, zz1, zz2, zz3, zz4, zz5, zz6, zz7, zz8, zz9, zz10, zz11, zz12, zz13, zz14, zz15, zz16, zz17, zz18, zz19, gateAt, noAssign, resKeys, killAll, siteDsts, isSite, refs, killL, killAV, st0, number, ev, exSl, bnd, bndOK, cellsAV, plain, ofCV, argsOf, argOf, srcOf, partsV, fillC, repeatL, resOf, binV, shV, intV, isShift, strV, unV, ares, ares1, isNilSl, reduceCtorEq, Nat.reduceBEq, Nat.reduceAdd, Nat.reduceSub, Nat.reduceMul, Nat.reduceLT, Nat.reduceLeDiff, Nat.reduceDiv, Nat.reduceEqDiff, Int.reduceToNat, CV.one, Value.oneCell', Int.reduceLT, Int.reduceLE, Int.reduceNeg, Int.reduceEq, GV, H0, F0, Int.reduceBEq, Int.reduceBNe, ↓reduceIte, natV_cells, drop_nats, take_nats, head_nats, length_nats, length_natV, all_nats, exIx_natV, cells_natV, Bool.true_or, Bool.or_true, Bool.false_or, Bool.or_false, callOps_value, callOps_builtin, List.append_eq, beq_self_eq_true, Nat.zero_le, Bool.not_true, Bool.not_false, cvt_31_31, ex_conv_same]
        refine call_by (rot18 _) ?_
        simp only [zz0, zz1, zz2, zz3, zz4, zz5, zz6, zz7, zz8, zz9, zz10, zz11, zz12, zz13, zz14, zz15, zz16, zz17, zz18, zz19, gateAt, noAssign, resKeys, killAll, siteDsts, isSite, refs, killL, killAV, st0, number, ev, exSl, bnd, bndOK, cellsAV, plain, ofCV, argsOf, argOf, srcOf, partsV, fillC, repeatL, resOf, binV, shV, intV, isShift, strV, unV, ares, ares1, isNilSl, reduceCtorEq, Nat.reduceBEq, Nat.reduceAdd, Nat.reduceSub, Nat.reduceMul, Nat.reduceLT, Nat.reduceLeDiff, Nat.reduceDiv, Nat.reduceEqDiff, Int.reduceToNat, CV.one, Value.oneCell', Int.reduceLT, Int.reduceLE, Int.reduceNeg, Int.reduceEq, GV, H0, F0, Int.reduceBEq, Int.reduceBNe, ↓reduceIte, natV_cells, drop_nats, take_nats, head_nats, length_nats, length_natV, all_nats, exIx_natV, cells_natV, Bool.true_or, Bool.or_true, Bool.false_or, Bool.or_false, callOps_value, callOps_builtin, List.append_eq, beq_self_eq_true, Nat.zero_le, Bool.not_true, Bool.not_false, cvt_31_31, ex_conv_same, n_xor, n_shr]
        refine call_by (rot17 _) ?_
        simp only [zz0, zz1, zz2, zz3, zz4, zz5, zz6, zz7, zz8, zz9, zz10, zz11, zz12, zz13, zz14, zz15, zz16, zz17, zz18, zz19, gateAt, noAssign, resKeys, killAll, siteDsts, isSite, refs, killL, killAV, st0, number, ev, exSl, bnd, bndOK, cellsAV, plain, ofCV, argsOf, argOf, srcOf, partsV, fillC, repeatL, resOf, binV, shV, intV, isShift, strV, unV, ares, ares1, isNilSl, reduceCtorEq, Nat.reduceBEq, Nat.reduceAdd, Nat.reduceSub, Nat.reduceMul, Nat.reduceLT, Nat.reduceLeDiff, Nat.reduceDiv, Nat.reduceEqDiff, Int.reduceToNat, CV.one, Value.oneCell', Int.reduceLT, Int.reduceLE, Int.reduceNeg, Int.reduceEq, GV, H0, F0, Int.reduceBEq, Int.reduceBNe, ↓reduceIte, natV_cells, drop_nats, take_nats, head_nats, length_nats, length_natV, all_nats, exIx_natV, cells_natV, Bool.true_or, Bool.or_true, Bool.false_or, Bool.or_false, callOps_value, callOps_builtin, List.append_eq, beq_self_eq_true, Nat.zero_le, Bool.not_true, Bool.not_false, cvt_31_31, ex_conv_same]
        refine call_by (rot19 _) ?_
        simp only [zz0, zz1, zz2, zz3, zz4, zz5, zz6, zz7, zz8, zz9, zz10, zz11, zz12, zz13, zz14, zz15, zz16, zz17, zz18, zz19, gateAt, noAssign, resKeys, killAll, siteDsts, isSite, refs, killL, killAV, st0, number, ev, exSl, bnd, bndOK, cellsAV, plain, ofCV, argsOf, argOf, srcOf, partsV, fillC, repeatL, resOf, binV, shV, intV, isShift, strV, unV, ares, ares1, isNilSl, reduceCtorEq, Nat.reduceBEq, Nat.reduceAdd, Nat.reduceSub, Nat.reduceMul, Nat.reduceLT, Nat.reduceLeDiff, Nat.reduceDiv, Nat.reduceEqDiff, Int.reduceToNat, CV.one, Value.oneCell', Int.reduceLT, Int.reduceLE, Int.reduceNeg, Int.reduceEq, GV, H0, F0, Int.reduceBEq, Int.reduceBNe, ↓reduceIte, natV_cells, drop_nats, take_nats, head_nats, length_nats, length_natV, all_nats, exIx_natV, cells_natV, Bool.true_or, Bool.or_true, Bool.false_or, Bool.or_false, callOps_value, callOps_builtin, List.append_eq, beq_self_eq_true, Nat.zero_le, Bool.not_true, Bool.not_false, cvt_31_31, ex_conv_same, n_xor, n_shr, w3, w4, l3, l4, l5, m3, m4, hZ, ht', schedZ_get b (show t - 16 < t by omega), schedZ_get b (show t - 7 < t by omega), FS2, n_add, put_nats .u32 _ t _ (by omega : t < (schedZ b t).length), i64_nat (show t < 9223372036854775807 by omega)]
        refine ⟨by kernel_rfl, by omega, t + 1, by omega, by omega, ?_⟩
        refine stLe_mk ?_ ?_ ?_ <;> simp only [forall_mem_cons', forall_mem_nil', lk_hit, lk_miss, Nat.reduceBEq, AVle_refl, AVle_bot, AVle_untag, none_or_some, Option.some.injEq, and_true, true_and, length_bytesC, length_ints, length_strs, List.length_append, List.length_cons, List.length_nil, hs]
    · have : t = 64 := by omega
      subst this
      have hS : (sched b).length = 64 := by rw [sched_eq]; exact schedTo_length b 64
      have e64 : List.take 64 (sched b) = sched b := List.take_of_length_le (by omega)
      have e0 : schedZ b 64 = sched b := by simp [schedZ, sched_eq]
      have e1 := put_all .u32 (List.replicate 64 0) (sched b) (by rw [hS]; simp)
      simp only [zz0, zz1, zz2, zz3, zz4, zz5, zz6, zz7, zz8, zz9, zz10, zz11, zz12, zz13, zz14, zz15, zz16, zz17, zz18, zz19, gateAt, noAssign, resKeys, killAll, siteDsts, isSite, refs, killL, killAV, st0, number, ev, exSl, bnd, bndOK, cellsAV, plain, ofCV, argsOf, argOf, srcOf, partsV, fillC, repeatL, resOf, binV, shV, intV, isShift, strV, unV, ares, ares1, isNilSl, reduceCtorEq, Nat.reduceBEq, Nat.reduceAdd, Nat.reduceSub, Nat.reduceMul, Nat.reduceLT, Nat.reduceLeDiff, Nat.reduceDiv, Nat.reduceEqDiff, Int.reduceToNat, CV.one, Value.oneCell', Int.reduceLT, Int.reduceLE, Int.reduceNeg, Int.reduceEq, GV, H0, F0, Int.reduceBEq, Int.reduceBNe, ↓reduceIte, natV_cells, drop_nats, take_nats, head_nats, length_nats, length_natV, all_nats, exIx_natV, cells_natV, Bool.true_or, Bool.or_true, Bool.false_or, Bool.or_false, callOps_value, callOps_builtin, List.append_eq, beq_self_eq_true, Nat.zero_le, Bool.not_true, Bool.not_false, cvt_31_31, ex_conv_same, e0, e64, hS, plain_nats, e1, List.length_replicate]
end Abs
end Go.Proofs.YtkdpmjgigknbpaaDoor
