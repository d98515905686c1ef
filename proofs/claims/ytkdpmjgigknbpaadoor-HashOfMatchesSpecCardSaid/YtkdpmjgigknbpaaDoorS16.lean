/-
  Walks: the specification's hash.
-/
import Derived.Test.YtkdpmjgigknbpaaDoorS15
import Derived.Test.YtkdpmjgigknbpaaDoorD3
namespace Go.Proofs.YtkdpmjgigknbpaaDoor
namespace Abs
open Go.RowKit Sha
set_option linter.unusedSimpArgs false
set_option linter.unusedVariables false
theorem rot2 (i : Nat) (hi : 0 < i) (hi2 : i < 32) (x : Nat) : SP2 49 [.v (.int .u32 (x : Int)), .v (.int .i64 (i : Int))] (.v (.int .u32 (rotr x i : Int))) := spec_two (spec_Rrotr x i hi hi2)
theorem ro6 (x : Nat) : SP2 49 [.v (.int .u32 (x : Int)), .v (.int .i64 6)] (.v (.int .u32 (rotr x 6 : Int))) := rot2 6 (by decide) (by decide) x
theorem ro11 (x : Nat) : SP2 49 [.v (.int .u32 (x : Int)), .v (.int .i64 11)] (.v (.int .u32 (rotr x 11 : Int))) := rot2 11 (by decide) (by decide) x
theorem ro25 (x : Nat) : SP2 49 [.v (.int .u32 (x : Int)), .v (.int .i64 25)] (.v (.int .u32 (rotr x 25 : Int))) := rot2 25 (by decide) (by decide) x
theorem ro2 (x : Nat) : SP2 49 [.v (.int .u32 (x : Int)), .v (.int .i64 2)] (.v (.int .u32 (rotr x 2 : Int))) := rot2 2 (by decide) (by decide) x
theorem ro13 (x : Nat) : SP2 49 [.v (.int .u32 (x : Int)), .v (.int .i64 13)] (.v (.int .u32 (rotr x 13 : Int))) := rot2 13 (by decide) (by decide) x
theorem ro22 (x : Nat) : SP2 49 [.v (.int .u32 (x : Int)), .v (.int .i64 22)] (.v (.int .u32 (rotr x 22 : Int))) := rot2 22 (by decide) (by decide) x
theorem n_xorM (a : Nat) : bits .xor .u32 (a : Int) 4294967295 = (xor32 4294967295 a : Int) := by rw [xor32_comm]; exact n_xor a 4294967295
noncomputable def sumW (s r : List Nat) (i : Nat) : List Nat := (List.range 8).map fun j => if j < i then add32 (s.getD j 0) (r.getD j 0) else s.getD j 0
theorem sumW_len (s r : List Nat) (i : Nat) : (sumW s r i).length = 8 := by simp [sumW]
theorem sumW_get (s r : List Nat) {i : Nat} (h : i < 8) : (sumW s r i).getD i 0 = s.getD i 0 := by simp [sumW, h]
theorem sumW_set (s r : List Nat) {i : Nat} (h : i < 8) : (sumW s r i).set i (add32 (s.getD i 0) (r.getD i 0)) = sumW s r (i + 1) := by
  apply List.ext_getElem (by simp [sumW])
  intro j h1 h2
  rw [sumW_len] at h2
  simp only [List.getElem_set]
  by_cases hj : i = j
  · subst hj
    rw [if_pos rfl]; simp [sumW]
  · rw [if_neg hj]
    simp only [sumW, List.getElem_map, List.getElem_range]
    by_cases h3 : j < i
    · rw [if_pos h3, if_pos (by omega)]
    · rw [if_neg h3, if_neg (by omega)]
theorem sumW_zero (s r : List Nat) (h : s.length = 8) : sumW s r 0 = s := by
  apply List.ext_getElem (by simp [sumW, h])
  intro j h1 h2
  simp [sumW, List.getD_eq_getElem?_getD, h2]
theorem sumW_eight (s r : R8) : sumW s.words r.words 8 = (addR s r).words := rfl
theorem words_len (s : R8) : s.words.length = 8 := rfl
theorem tab0 : (GV2 0).map CV.v = nats .u32 rounds := by simp [GV2, natV, nats]
def F33 : Nat → Nat → List Nat × List Nat := fun id k => if id = 11 then ([7, 6], []) else if id = 12 then ([7], []) else (if k = 9 then ([3], [3]) else ([3, 7], []))
set_option maxRecDepth 100000 in
set_option maxHeartbeats 4000000 in
theorem spec_RSum (b : List UInt8) (hb : b.length ≤ 1000000) : SP2 33 [.sl none 1 (bytesC b)] (.v (aggB (sha b))) := by
  refine spec_fn (H := H0) (F := F33) Tryd.func33 rfl Tryd.ntmps33 Tryd.results33 (by kernel_rfl) rfl (by simp) ?_
  obtain ⟨K, hK⟩ := padded_length b
  have hsha := sha_blocks b hK
  have hpl := pad_length b.length
  have hz : zeros b.length < 64 := by unfold zeros; omega
  have hKb : 64 * K ≤ 1000100 := by rw [← hK, List.length_append, hpl]; omega
  simp only [zz0, zz1, zz2, zz3, zz4, zz5, zz6, zz7, zz8, zz9, zz10, zz11, zz12, zz13, zz14, zz15, zz16, zz17, zz18, zz19, gateAt, noAssign, resKeys, killAll, siteDsts, isSite, refs, killL, killAV, st0, number, ev, exSl, bnd, bndOK, cellsAV, plain, ofCV, argsOf, argOf, srcOf, partsV, fillC, repeatL, resOf, binV, shV, intV, isShift, strV, unV, ares, ares1, isNilSl, reduceCtorEq, Nat.reduceBEq, Nat.reduceAdd, Nat.reduceSub, Nat.reduceMul, Nat.reduceLT, Nat.reduceLeDiff, Nat.reduceDiv, Nat.reduceEqDiff, Int.reduceToNat, CV.one, Value.oneCell', Int.reduceLT, Int.reduceLE, Int.reduceNeg, Int.reduceEq, GV, H0, F0, Int.reduceBEq, Int.reduceBNe, ↓reduceIte, natV_cells, drop_nats, take_nats, head_nats, length_nats, length_natV, all_nats, exIx_natV, cells_natV, Bool.true_or, Bool.or_true, Bool.false_or, Bool.or_false, callOps_value, callOps_builtin, List.append_eq, beq_self_eq_true, Nat.zero_le, Bool.not_true, Bool.not_false, cvt_31_31, ex_conv_same, putL]
  refine call_by (spec_two (spec_padded b (by omega))) ?_
  generalize b ++ pad b.length = m at hK hsha ⊢
  simp only [zz0, zz1, zz2, zz3, zz4, zz5, zz6, zz7, zz8, zz9, zz10, zz11, zz12, zz13, zz14, zz15, zz16, zz17, zz18, zz19, gateAt, noAssign, resKeys, killAll, siteDsts, isSite, refs, killL, killAV, st0, number, ev, exSl, bnd, bndOK, cellsAV, plain, ofCV, argsOf, argOf, srcOf, partsV, fillC, repeatL, resOf, binV, shV, intV, isShift, strV, unV, ares, ares1, isNilSl, reduceCtorEq, Nat.reduceBEq, Nat.reduceAdd, Nat.reduceSub, Nat.reduceMul, Nat.reduceLT, Nat.reduceLeDiff, Nat.reduceDiv, Nat.reduceEqDiff, Int.reduceToNat, CV.one, Value.oneCell', Int.reduceLT, Int.reduceLE, Int.reduceNeg, Int.reduceEq, GV, H0, F0, Int.reduceBEq, Int.reduceBNe, ↓reduceIte, natV_cells, drop_nats, take_nats, head_nats, length_nats, length_natV, all_nats, exIx_natV, cells_natV, Bool.true_or, Bool.or_true, Bool.false_or, Bool.or_false, callOps_value, callOps_builtin, List.append_eq, beq_self_eq_true, Nat.zero_le, Bool.not_true, Bool.not_false, cvt_31_31, ex_conv_same, put_whole]
  refine loop_by (X := Nat) (fun j => ⟨S [(5, .v (.int .i64 ((64 * j : Nat) : Int))), (4, .sl none 1 (bytesC m)), (3, .bp 3 0), (2, .bp 2 0)], B [(3, some (nats .u32 (stTo m j).words)), (2, some (bytesC (List.replicate 32 0)))], O []⟩)
    (fun j => j ≤ K) (fun j => K - j) 0 (Nat.zero_le _) ?_ ?_
  · refine stLe_mk ?_ ?_ ?_ <;> simp only [forall_mem_cons', forall_mem_nil', lk_hit, lk_miss, Nat.reduceBEq, AVle_refl, AVle_bot, AVle_untag, none_or_some, Option.some.injEq, and_true, true_and, length_bytesC, length_ints, length_strs, List.length_append, List.length_cons, List.length_nil]
    · exact AVle_of_eq rfl
    · exact ⟨rfl, rfl⟩
  · intro j hj
    have hw8 := words_len (stTo m j)
    simp only [zz0, zz1, zz2, zz3, zz4, zz5, zz6, zz7, zz8, zz9, zz10, zz11, zz12, zz13, zz14, zz15, zz16, zz17, zz18, zz19, gateAt, noAssign, resKeys, killAll, siteDsts, isSite, refs, killL, killAV, st0, number, ev, exSl, bnd, bndOK, cellsAV, plain, ofCV, argsOf, argOf, srcOf, partsV, fillC, repeatL, resOf, binV, shV, intV, isShift, strV, unV, ares, ares1, isNilSl, reduceCtorEq, Nat.reduceBEq, Nat.reduceAdd, Nat.reduceSub, Nat.reduceMul, Nat.reduceLT, Nat.reduceLeDiff, Nat.reduceDiv, Nat.reduceEqDiff, Int.reduceToNat, CV.one, Value.oneCell', Int.reduceLT, Int.reduceLE, Int.reduceNeg, Int.reduceEq, GV, H0, F0, Int.reduceBEq, Int.reduceBNe, ↓reduceIte, natV_cells, drop_nats, take_nats, head_nats, length_nats, length_natV, all_nats, exIx_natV, cells_natV, Bool.true_or, Bool.or_true, Bool.false_or, Bool.or_false, callOps_value, callOps_builtin, List.append_eq, beq_self_eq_true, Nat.zero_le, Bool.not_true, Bool.not_false, cvt_31_31, ex_conv_same]
    refine cond_dec (fun hc => ?_) (fun hc => ?_)
    · have hj' : j < K := by omega
      have w1 : IntKind.i64.wrap (((64 * j : Nat) : Int) + 64) = ((64 * (j + 1) : Nat) : Int) := by rw [IntKind.wrap_i64]; omega
      have hbl : (List.drop (64 * j) (List.take (64 * (j + 1)) m)) = blk m j := by
        rw [blk, List.take_drop, show 64 * j + 64 = 64 * (j + 1) by omega]
      have hbk : (blk m j).length = 64 := blk_length (by omega)
      have hS : (sched (blk m j)).length = 64 := by rw [sched_eq]; exact schedTo_length _ 64
      simp only [zz0, zz1, zz2, zz3, zz4, zz5, zz6, zz7, zz8, zz9, zz10, zz11, zz12, zz13, zz14, zz15, zz16, zz17, zz18, zz19, gateAt, noAssign, resKeys, killAll, siteDsts, isSite, refs, killL, killAV, st0, number, ev, exSl, bnd, bndOK, cellsAV, plain, ofCV, argsOf, argOf, srcOf, partsV, fillC, repeatL, resOf, binV, shV, intV, isShift, strV, unV, ares, ares1, isNilSl, reduceCtorEq, Nat.reduceBEq, Nat.reduceAdd, Nat.reduceSub, Nat.reduceMul, Nat.reduceLT, Nat.reduceLeDiff, Nat.reduceDiv, Nat.reduceEqDiff, Int.reduceToNat, CV.one, Value.oneCell', Int.reduceLT, Int.reduceLE, Int.reduceNeg, Int.reduceEq, GV, H0, F0, Int.reduceBEq, Int.reduceBNe, ↓reduceIte, natV_cells, drop_nats, take_nats, head_nats, length_nats, length_natV, all_nats, exIx_natV, cells_natV, Bool.true_or, Bool.or_true, Bool.false_or, Bool.or_false, callOps_value, callOps_builtin, List.append_eq, beq_self_eq_true, Nat.zero_le, Bool.not_true, Bool.not_false, cvt_31_31, ex_conv_same, w1, hbl]
      refine ⟨by omega, by omega, ?_⟩
      refine call_by (spec_two (spec_words (blk m j) hbk)) ?_
      have hst : stTo m (j + 1) = addR (stTo m j) (rndTo (sched (blk m j)) (stTo m j) 64) := by rw [stTo, comp_eq]
      generalize sched (blk m j) = w at hS hst ⊢
      generalize stTo m j = s at hw8 hst ⊢
      have hR : List.take 64 rounds = rounds := rfl
      have hRl : rounds.length = 64 := rfl
      have ht8 : List.take 8 s.words = s.words := rfl
      simp only [zz0, zz1, zz2, zz3, zz4, zz5, zz6, zz7, zz8, zz9, zz10, zz11, zz12, zz13, zz14, zz15, zz16, zz17, zz18, zz19, gateAt, noAssign, resKeys, killAll, siteDsts, isSite, refs, killL, killAV, st0, number, ev, exSl, bnd, bndOK, cellsAV, plain, ofCV, argsOf, argOf, srcOf, partsV, fillC, repeatL, resOf, binV, shV, intV, isShift, strV, unV, ares, ares1, isNilSl, reduceCtorEq, Nat.reduceBEq, Nat.reduceAdd, Nat.reduceSub, Nat.reduceMul, Nat.reduceLT, Nat.reduceLeDiff, Nat.reduceDiv, Nat.reduceEqDiff, Int.reduceToNat, CV.one, Value.oneCell', Int.reduceLT, Int.reduceLE, Int.reduceNeg, Int.reduceEq, GV, H0, F0, Int.reduceBEq, Int.reduceBNe, ↓reduceIte, natV_cells, drop_nats, take_nats, head_nats, length_nats, length_natV, all_nats, exIx_natV, cells_natV, Bool.true_or, Bool.or_true, Bool.false_or, Bool.or_false, callOps_value, callOps_builtin, List.append_eq, beq_self_eq_true, Nat.zero_le, Bool.not_true, Bool.not_false, cvt_31_31, ex_conv_same, hS, hw8, ht8, put_whole, plain_nats]
      refine loop_by (X := Nat) (fun t => ⟨S [(8, .v (.int .i64 t)), (7, .bp 7 0), (6, .bp 6 0), (5, .v (.int .i64 ((64 * j : Nat) : Int))), (4, .sl none 1 (bytesC m)), (3, .bp 3 0), (2, .bp 2 0)],
          B [(7, some (nats .u32 [(rndTo w s t).a, (rndTo w s t).b, (rndTo w s t).c, (rndTo w s t).d, (rndTo w s t).e, (rndTo w s t).f, (rndTo w s t).g, (rndTo w s t).h])), (6, some (nats .u32 w)), (3, some (nats .u32 s.words)), (2, some (bytesC (List.replicate 32 0)))], O []⟩)
        (fun t => t ≤ 64) (fun t => 64 - t) 0 (Nat.zero_le _) ?_ ?_
      · refine stLe_mk ?_ ?_ ?_ <;> simp only [forall_mem_cons', forall_mem_nil', lk_hit, lk_miss, Nat.reduceBEq, AVle_refl, AVle_bot, AVle_untag, none_or_some, Option.some.injEq, and_true, true_and, length_bytesC, length_ints, length_strs, List.length_append, List.length_cons, List.length_nil, rndTo]
        · exact AVle_of_eq rfl
        · rfl
      · intro t ht
        simp only [zz0, zz1, zz2, zz3, zz4, zz5, zz6, zz7, zz8, zz9, zz10, zz11, zz12, zz13, zz14, zz15, zz16, zz17, zz18, zz19, gateAt, noAssign, resKeys, killAll, siteDsts, isSite, refs, killL, killAV, st0, number, ev, exSl, bnd, bndOK, cellsAV, plain, ofCV, argsOf, argOf, srcOf, partsV, fillC, repeatL, resOf, binV, shV, intV, isShift, strV, unV, ares, ares1, isNilSl, reduceCtorEq, Nat.reduceBEq, Nat.reduceAdd, Nat.reduceSub, Nat.reduceMul, Nat.reduceLT, Nat.reduceLeDiff, Nat.reduceDiv, Nat.reduceEqDiff, Int.reduceToNat, CV.one, Value.oneCell', Int.reduceLT, Int.reduceLE, Int.reduceNeg, Int.reduceEq, GV, H0, F0, Int.reduceBEq, Int.reduceBNe, ↓reduceIte, natV_cells, drop_nats, take_nats, head_nats, length_nats, length_natV, all_nats, exIx_natV, cells_natV, Bool.true_or, Bool.or_true, Bool.false_or, Bool.or_false, callOps_value, callOps_builtin, List.append_eq, beq_self_eq_true, Nat.zero_le, Bool.not_true, Bool.not_false, cvt_31_31, ex_conv_same]
        refine cond_dec (fun hc => ?_) (fun hc => ?_)
        · have ht' : t < 64 := by omega
          have hnext : rndTo w s (t + 1) = round (rounds.getD t 0) (w.getD t 0) (rndTo w s t) := rfl
          generalize rndTo w s t = r at hnext ⊢
          simp only [zz0, zz1, zz2, zz3, zz4, zz5, zz6, zz7, zz8, zz9, zz10, zz11, zz12, zz13, zz14, zz15, zz16, zz17, zz18, zz19, gateAt, noAssign, resKeys, killAll, siteDsts, isSite, refs, killL, killAV, st0, number, ev, exSl, bnd, bndOK, cellsAV, plain, ofCV, argsOf, argOf, srcOf, partsV, fillC, repeatL, resOf, binV, shV, intV, isShift, strV, unV, ares, ares1, isNilSl, reduceCtorEq, Nat.reduceBEq, Nat.reduceAdd, Nat.reduceSub, Nat.reduceMul, Nat.reduceLT, Nat.reduceLeDiff, Nat.reduceDiv, Nat.reduceEqDiff, Int.reduceToNat, CV.one, Value.oneCell', Int.reduceLT, Int.reduceLE, Int.reduceNeg, Int.reduceEq, GV, H0, F0, Int.reduceBEq, Int.reduceBNe, ↓reduceIte, natV_cells, drop_nats, take_nats, head_nats, length_nats, length_natV, all_nats, exIx_natV, cells_natV, Bool.true_or, Bool.or_true, Bool.false_or, Bool.or_false, callOps_value, callOps_builtin, List.append_eq, beq_self_eq_true, Nat.zero_le, Bool.not_true, Bool.not_false, cvt_31_31, ex_conv_same, hS, hRl, hc, ht', tab0, put_whole, plain_nats, F33, head_nats_cons]
          refine ⟨by kernel_rfl, ?_⟩
          refine call_by (ro6 _) ?_
          simp only [zz0, zz1, zz2, zz3, zz4, zz5, zz6, zz7, zz8, zz9, zz10, zz11, zz12, zz13, zz14, zz15, zz16, zz17, zz18, zz19, gateAt, noAssign, resKeys, killAll, siteDsts, isSite, refs, killL, killAV, st0, number, ev, exSl, bnd, bndOK, cellsAV, plain, ofCV, argsOf, argOf, srcOf, partsV, fillC, repeatL, resOf, binV, shV, intV, isShift, strV, unV, ares, ares1, isNilSl, reduceCtorEq, Nat.reduceBEq, Nat.reduceAdd, Nat.reduceSub, Nat.reduceMul, Nat.reduceLT, Nat.reduceLeDiff, Nat.reduceDiv, Nat.reduceEqDiff, Int.reduceToNat, CV.one, Value.oneCell', Int.reduceLT, Int.reduceLE, Int.reduceNeg, Int.reduceEq, GV, H0, F0, Int.reduceBEq, Int.reduceBNe, ↓reduceIte, natV_cells, drop_nats, take_nats, head_nats, length_nats, length_natV, all_nats, exIx_natV, cells_natV, Bool.true_or, Bool.or_true, Bool.false_or, Bool.or_false, callOps_value, callOps_builtin, List.append_eq, beq_self_eq_true, Nat.zero_le, Bool.not_true, Bool.not_false, cvt_31_31, ex_conv_same, hS, hRl, hc, ht', tab0, put_whole, plain_nats, F33, head_nats_cons]
          refine call_by (ro11 _) ?_
          simp only [zz0, zz1, zz2, zz3, zz4, zz5, zz6, zz7, zz8, zz9, zz10, zz11, zz12, zz13, zz14, zz15, zz16, zz17, zz18, zz19, gateAt, noAssign, resKeys, killAll, siteDsts, isSite, refs, killL, killAV, st0, number, ev, exSl, bnd, bndOK, cellsAV, plain, ofCV, argsOf, argOf, srcOf, partsV, fillC, repeatL, resOf, binV, shV, intV, isShift, strV, unV, ares, ares1, isNilSl, reduceCtorEq, Nat.reduceBEq, Nat.reduceAdd, Nat.reduceSub, Nat.reduceMul, Nat.reduceLT, Nat.reduceLeDiff, Nat.reduceDiv, Nat.reduceEqDiff, Int.reduceToNat, CV.one, Value.oneCell', Int.reduceLT, Int.reduceLE, Int.reduceNeg, Int.reduceEq, GV, H0, F0, Int.reduceBEq, Int.reduceBNe, ↓reduceIte, natV_cells, drop_nats, take_nats, head_nats, length_nats, length_natV, all_nats, exIx_natV, cells_natV, Bool.true_or, Bool.or_true, Bool.false_or, Bool.or_false, callOps_value, callOps_builtin, List.append_eq, beq_self_eq_true, Nat.zero_le, Bool.not_true, Bool.not_false, cvt_31_31, ex_conv_same, hS, hRl, hc, ht', tab0, put_whole, plain_nats, F33, head_nats_cons, n_xor]
          refine call_by (ro25 _) ?_
          simp only [zz0, zz1, zz2, zz3, zz4, zz5, zz6, zz7, zz8, zz9, zz10, zz11, zz12, zz13, zz14, zz15, zz16, zz17, zz18, zz19, gateAt, noAssign, resKeys, killAll, siteDsts, isSite, refs, killL, killAV, st0, number, ev, exSl, bnd, bndOK, cellsAV, plain, ofCV, argsOf, argOf, srcOf, partsV, fillC, repeatL, resOf, binV, shV, intV, isShift, strV, unV, ares, ares1, isNilSl, reduceCtorEq, Nat.reduceBEq, Nat.reduceAdd, Nat.reduceSub, Nat.reduceMul, Nat.reduceLT, Nat.reduceLeDiff, Nat.reduceDiv, Nat.reduceEqDiff, Int.reduceToNat, CV.one, Value.oneCell', Int.reduceLT, Int.reduceLE, Int.reduceNeg, Int.reduceEq, GV, H0, F0, Int.reduceBEq, Int.reduceBNe, ↓reduceIte, natV_cells, drop_nats, take_nats, head_nats, length_nats, length_natV, all_nats, exIx_natV, cells_natV, Bool.true_or, Bool.or_true, Bool.false_or, Bool.or_false, callOps_value, callOps_builtin, List.append_eq, beq_self_eq_true, Nat.zero_le, Bool.not_true, Bool.not_false, cvt_31_31, ex_conv_same, hS, hRl, hc, ht', tab0, put_whole, plain_nats, F33, head_nats_cons, n_add, n_xor, n_and, n_xorM]
          refine ⟨by kernel_rfl, ?_⟩
          refine call_by (ro2 _) ?_
          simp only [zz0, zz1, zz2, zz3, zz4, zz5, zz6, zz7, zz8, zz9, zz10, zz11, zz12, zz13, zz14, zz15, zz16, zz17, zz18, zz19, gateAt, noAssign, resKeys, killAll, siteDsts, isSite, refs, killL, killAV, st0, number, ev, exSl, bnd, bndOK, cellsAV, plain, ofCV, argsOf, argOf, srcOf, partsV, fillC, repeatL, resOf, binV, shV, intV, isShift, strV, unV, ares, ares1, isNilSl, reduceCtorEq, Nat.reduceBEq, Nat.reduceAdd, Nat.reduceSub, Nat.reduceMul, Nat.reduceLT, Nat.reduceLeDiff, Nat.reduceDiv, Nat.reduceEqDiff, Int.reduceToNat, CV.one, Value.oneCell', Int.reduceLT, Int.reduceLE, Int.reduceNeg, Int.reduceEq, GV, H0, F0, Int.reduceBEq, Int.reduceBNe, ↓reduceIte, natV_cells, drop_nats, take_nats, head_nats, length_nats, length_natV, all_nats, exIx_natV, cells_natV, Bool.true_or, Bool.or_true, Bool.false_or, Bool.or_false, callOps_value, callOps_builtin, List.append_eq, beq_self_eq_true, Nat.zero_le, Bool.not_true, Bool.not_false, cvt_31_31, ex_conv_same, F33, head_nats_cons]
          refine call_by (ro13 _) ?_
          simp only [zz0, zz1, zz2, zz3, zz4, zz5, zz6, zz7, zz8, zz9, zz10, zz11, zz12, zz13, zz14, zz15, zz16, zz17, zz18, zz19, gateAt, noAssign, resKeys, killAll, siteDsts, isSite, refs, killL, killAV, st0, number, ev, exSl, bnd, bndOK, cellsAV, plain, ofCV, argsOf, argOf, srcOf, partsV, fillC, repeatL, resOf, binV, shV, intV, isShift, strV, unV, ares, ares1, isNilSl, reduceCtorEq, Nat.reduceBEq, Nat.reduceAdd, Nat.reduceSub, Nat.reduceMul, Nat.reduceLT, Nat.reduceLeDiff, Nat.reduceDiv, Nat.reduceEqDiff, Int.reduceToNat, CV.one, Value.oneCell', Int.reduceLT, Int.reduceLE, Int.reduceNeg, Int.reduceEq, GV, H0, F0, Int.reduceBEq, Int.reduceBNe, ↓reduceIte, natV_cells, drop_nats, take_nats, head_nats, length_nats, length_natV, all_nats, exIx_natV, cells_natV, Bool.true_or, Bool.or_true, Bool.false_or, Bool.or_false, callOps_value, callOps_builtin, List.append_eq, beq_self_eq_true, Nat.zero_le, Bool.not_true, Bool.not_false, cvt_31_31, ex_conv_same, F33, head_nats_cons, n_xor]
          refine call_by (ro22 _) ?_
          simp only [zz0, zz1, zz2, zz3, zz4, zz5, zz6, zz7, zz8, zz9, zz10, zz11, zz12, zz13, zz14, zz15, zz16, zz17, zz18, zz19, gateAt, noAssign, resKeys, killAll, siteDsts, isSite, refs, killL, killAV, st0, number, ev, exSl, bnd, bndOK, cellsAV, plain, ofCV, argsOf, argOf, srcOf, partsV, fillC, repeatL, resOf, binV, shV, intV, isShift, strV, unV, ares, ares1, isNilSl, reduceCtorEq, Nat.reduceBEq, Nat.reduceAdd, Nat.reduceSub, Nat.reduceMul, Nat.reduceLT, Nat.reduceLeDiff, Nat.reduceDiv, Nat.reduceEqDiff, Int.reduceToNat, CV.one, Value.oneCell', Int.reduceLT, Int.reduceLE, Int.reduceNeg, Int.reduceEq, GV, H0, F0, Int.reduceBEq, Int.reduceBNe, ↓reduceIte, natV_cells, drop_nats, take_nats, head_nats, length_nats, length_natV, all_nats, exIx_natV, cells_natV, Bool.true_or, Bool.or_true, Bool.false_or, Bool.or_false, callOps_value, callOps_builtin, List.append_eq, beq_self_eq_true, Nat.zero_le, Bool.not_true, Bool.not_false, cvt_31_31, ex_conv_same, F33, head_nats_cons, n_add, n_xor, n_and, i64_nat (show t < 9223372036854775807 by omega), nats_cons, nats_nil, putL]
          refine ⟨t + 1, by omega, by omega, ?_⟩
          simp only [hnext, round, tem1, tem2, mix32, nats_cons, nats_nil]
          refine stLe_mk ?_ ?_ ?_ <;> simp only [forall_mem_cons', forall_mem_nil', lk_hit, lk_miss, Nat.reduceBEq, AVle_refl, AVle_bot, AVle_untag, none_or_some, Option.some.injEq, and_true, true_and, length_bytesC, length_ints, length_strs, List.length_append, List.length_cons, List.length_nil]
        · have h64 : t = 64 := by omega
          subst h64
          have hsum := sumW_eight s (rndTo w s 64)
          rw [← hst] at hsum
          obtain ⟨R, hRw⟩ : ∃ R, R = (rndTo w s 64).words := ⟨_, rfl⟩
          have hR8 : R.length = 8 := by rw [hRw]; rfl
          have hRc : nats .u32 [(rndTo w s 64).a, (rndTo w s 64).b, (rndTo w s 64).c, (rndTo w s 64).d, (rndTo w s 64).e, (rndTo w s 64).f, (rndTo w s 64).g, (rndTo w s 64).h] = nats .u32 R := by rw [hRw]; rfl
          rw [← hRw] at hsum
          obtain ⟨W, hW⟩ : ∃ W, W = s.words := ⟨_, rfl⟩
          have hW8 : W.length = 8 := by rw [hW]; rfl
          rw [← hW] at hsum ⊢
          simp only [zz0, zz1, zz2, zz3, zz4, zz5, zz6, zz7, zz8, zz9, zz10, zz11, zz12, zz13, zz14, zz15, zz16, zz17, zz18, zz19, gateAt, noAssign, resKeys, killAll, siteDsts, isSite, refs, killL, killAV, st0, number, ev, exSl, bnd, bndOK, cellsAV, plain, ofCV, argsOf, argOf, srcOf, partsV, fillC, repeatL, resOf, binV, shV, intV, isShift, strV, unV, ares, ares1, isNilSl, reduceCtorEq, Nat.reduceBEq, Nat.reduceAdd, Nat.reduceSub, Nat.reduceMul, Nat.reduceLT, Nat.reduceLeDiff, Nat.reduceDiv, Nat.reduceEqDiff, Int.reduceToNat, CV.one, Value.oneCell', Int.reduceLT, Int.reduceLE, Int.reduceNeg, Int.reduceEq, GV, H0, F0, Int.reduceBEq, Int.reduceBNe, ↓reduceIte, natV_cells, drop_nats, take_nats, head_nats, length_nats, length_natV, all_nats, exIx_natV, cells_natV, Bool.true_or, Bool.or_true, Bool.false_or, Bool.or_false, callOps_value, callOps_builtin, List.append_eq, beq_self_eq_true, Nat.zero_le, Bool.not_true, Bool.not_false, cvt_31_31, ex_conv_same, hRc]
          refine loop_by (X := Nat) (fun i => ⟨S [(11, .v (.int .i64 i)), (7, .bp 7 0), (5, .v (.int .i64 ((64 * j : Nat) : Int))), (4, .sl none 1 (bytesC m)), (3, .bp 3 0), (2, .bp 2 0)],
              B [(7, some (nats .u32 R)), (3, some (nats .u32 (sumW W R i))), (2, some (bytesC (List.replicate 32 0)))], O []⟩)
            (fun i => i ≤ 8) (fun i => 8 - i) 0 (Nat.zero_le _) ?_ ?_
          · refine stLe_mk ?_ ?_ ?_ <;> simp only [forall_mem_cons', forall_mem_nil', lk_hit, lk_miss, Nat.reduceBEq, AVle_refl, AVle_bot, AVle_untag, none_or_some, Option.some.injEq, and_true, true_and, length_bytesC, length_ints, length_strs, List.length_append, List.length_cons, List.length_nil, sumW_zero W R hW8]
            · exact AVle_of_eq rfl
          · intro i hi
            have hlen := sumW_len W R i
            simp only [zz0, zz1, zz2, zz3, zz4, zz5, zz6, zz7, zz8, zz9, zz10, zz11, zz12, zz13, zz14, zz15, zz16, zz17, zz18, zz19, gateAt, noAssign, resKeys, killAll, siteDsts, isSite, refs, killL, killAV, st0, number, ev, exSl, bnd, bndOK, cellsAV, plain, ofCV, argsOf, argOf, srcOf, partsV, fillC, repeatL, resOf, binV, shV, intV, isShift, strV, unV, ares, ares1, isNilSl, reduceCtorEq, Nat.reduceBEq, Nat.reduceAdd, Nat.reduceSub, Nat.reduceMul, Nat.reduceLT, Nat.reduceLeDiff, Nat.reduceDiv, Nat.reduceEqDiff, Int.reduceToNat, CV.one, Value.oneCell', Int.reduceLT, Int.reduceLE, Int.reduceNeg, Int.reduceEq, GV, H0, F0, Int.reduceBEq, Int.reduceBNe, ↓reduceIte, natV_cells, drop_nats, take_nats, head_nats, length_nats, length_natV, all_nats, exIx_natV, cells_natV, Bool.true_or, Bool.or_true, Bool.false_or, Bool.or_false, callOps_value, callOps_builtin, List.append_eq, beq_self_eq_true, Nat.zero_le, Bool.not_true, Bool.not_false, cvt_31_31, ex_conv_same]
            refine cond_dec (fun hc => ?_) (fun hc => ?_)
            · have hi' : i < 8 := by omega
              simp only [zz0, zz1, zz2, zz3, zz4, zz5, zz6, zz7, zz8, zz9, zz10, zz11, zz12, zz13, zz14, zz15, zz16, zz17, zz18, zz19, gateAt, noAssign, resKeys, killAll, siteDsts, isSite, refs, killL, killAV, st0, number, ev, exSl, bnd, bndOK, cellsAV, plain, ofCV, argsOf, argOf, srcOf, partsV, fillC, repeatL, resOf, binV, shV, intV, isShift, strV, unV, ares, ares1, isNilSl, reduceCtorEq, Nat.reduceBEq, Nat.reduceAdd, Nat.reduceSub, Nat.reduceMul, Nat.reduceLT, Nat.reduceLeDiff, Nat.reduceDiv, Nat.reduceEqDiff, Int.reduceToNat, CV.one, Value.oneCell', Int.reduceLT, Int.reduceLE, Int.reduceNeg, Int.reduceEq, GV, H0, F0, Int.reduceBEq, Int.reduceBNe, ↓reduceIte, natV_cells, drop_nats, take_nats, head_nats, length_nats, length_natV, all_nats, exIx_natV, cells_natV, Bool.true_or, Bool.or_true, Bool.false_or, Bool.or_false, callOps_value, callOps_builtin, List.append_eq, beq_self_eq_true, Nat.zero_le, Bool.not_true, Bool.not_false, cvt_31_31, ex_conv_same, hc, hi', hlen, hR8, sumW_get W R hi', F33, n_add, put_nats .u32 _ i _ (by omega : i < (sumW W R i).length), sumW_set W R hi', i64_nat (show i < 9223372036854775807 by omega)]
              refine ⟨by kernel_rfl, by omega, i + 1, by omega, by omega, ?_⟩
              refine stLe_mk ?_ ?_ ?_ <;> simp only [forall_mem_cons', forall_mem_nil', lk_hit, lk_miss, Nat.reduceBEq, AVle_refl, AVle_bot, AVle_untag, none_or_some, Option.some.injEq, and_true, true_and, length_bytesC, length_ints, length_strs, List.length_append, List.length_cons, List.length_nil]
            · have h8 : i = 8 := by omega
              subst h8
              rw [hsum]
              simp only [zz0, zz1, zz2, zz3, zz4, zz5, zz6, zz7, zz8, zz9, zz10, zz11, zz12, zz13, zz14, zz15, zz16, zz17, zz18, zz19, gateAt, noAssign, resKeys, killAll, siteDsts, isSite, refs, killL, killAV, st0, number, ev, exSl, bnd, bndOK, cellsAV, plain, ofCV, argsOf, argOf, srcOf, partsV, fillC, repeatL, resOf, binV, shV, intV, isShift, strV, unV, ares, ares1, isNilSl, reduceCtorEq, Nat.reduceBEq, Nat.reduceAdd, Nat.reduceSub, Nat.reduceMul, Nat.reduceLT, Nat.reduceLeDiff, Nat.reduceDiv, Nat.reduceEqDiff, Int.reduceToNat, CV.one, Value.oneCell', Int.reduceLT, Int.reduceLE, Int.reduceNeg, Int.reduceEq, GV, H0, F0, Int.reduceBEq, Int.reduceBNe, ↓reduceIte, natV_cells, drop_nats, take_nats, head_nats, length_nats, length_natV, all_nats, exIx_natV, cells_natV, Bool.true_or, Bool.or_true, Bool.false_or, Bool.or_false, callOps_value, callOps_builtin, List.append_eq, beq_self_eq_true, Nat.zero_le, Bool.not_true, Bool.not_false, cvt_31_31, ex_conv_same, w1]
              refine ⟨j + 1, by omega, by omega, ?_⟩
              refine stLe_mk ?_ ?_ ?_ <;> simp only [forall_mem_cons', forall_mem_nil', lk_hit, lk_miss, Nat.reduceBEq, AVle_refl, AVle_bot, AVle_untag, none_or_some, Option.some.injEq, and_true, true_and, length_bytesC, length_ints, length_strs, List.length_append, List.length_cons, List.length_nil]
    · have hjK : j = K := by omega
      subst hjK
      generalize stTo m j = u at hw8 hsha ⊢
      simp only [zz0, zz1, zz2, zz3, zz4, zz5, zz6, zz7, zz8, zz9, zz10, zz11, zz12, zz13, zz14, zz15, zz16, zz17, zz18, zz19, gateAt, noAssign, resKeys, killAll, siteDsts, isSite, refs, killL, killAV, st0, number, ev, exSl, bnd, bndOK, cellsAV, plain, ofCV, argsOf, argOf, srcOf, partsV, fillC, repeatL, resOf, binV, shV, intV, isShift, strV, unV, ares, ares1, isNilSl, reduceCtorEq, Nat.reduceBEq, Nat.reduceAdd, Nat.reduceSub, Nat.reduceMul, Nat.reduceLT, Nat.reduceLeDiff, Nat.reduceDiv, Nat.reduceEqDiff, Int.reduceToNat, CV.one, Value.oneCell', Int.reduceLT, Int.reduceLE, Int.reduceNeg, Int.reduceEq, GV, H0, F0, Int.reduceBEq, Int.reduceBNe, ↓reduceIte, natV_cells, drop_nats, take_nats, head_nats, length_nats, length_natV, all_nats, exIx_natV, cells_natV, Bool.true_or, Bool.or_true, Bool.false_or, Bool.or_false, callOps_value, callOps_builtin, List.append_eq, beq_self_eq_true, Nat.zero_le, Bool.not_true, Bool.not_false, cvt_31_31, ex_conv_same]
      refine loop_by (X := Nat) (fun i => ⟨S [(13, .v (.int .i64 i)), (12, .bp 12 0), (3, .bp 3 0), (2, .bp 2 0)], B [(12, some (bytesC (outT u i))), (3, some (nats .u32 u.words)), (2, some (bytesC (List.replicate 32 0)))], O []⟩)
        (fun i => i ≤ 32) (fun i => 32 - i) 0 (Nat.zero_le _) ?_ ?_
      · refine stLe_mk ?_ ?_ ?_ <;> simp only [forall_mem_cons', forall_mem_nil', lk_hit, lk_miss, Nat.reduceBEq, AVle_refl, AVle_bot, AVle_untag, none_or_some, Option.some.injEq, and_true, true_and, length_bytesC, length_ints, length_strs, List.length_append, List.length_cons, List.length_nil]
        · exact AVle_of_eq rfl
        · rfl
      · intro i hi
        have hol := outT_length u hi
        simp only [zz0, zz1, zz2, zz3, zz4, zz5, zz6, zz7, zz8, zz9, zz10, zz11, zz12, zz13, zz14, zz15, zz16, zz17, zz18, zz19, gateAt, noAssign, resKeys, killAll, siteDsts, isSite, refs, killL, killAV, st0, number, ev, exSl, bnd, bndOK, cellsAV, plain, ofCV, argsOf, argOf, srcOf, partsV, fillC, repeatL, resOf, binV, shV, intV, isShift, strV, unV, ares, ares1, isNilSl, reduceCtorEq, Nat.reduceBEq, Nat.reduceAdd, Nat.reduceSub, Nat.reduceMul, Nat.reduceLT, Nat.reduceLeDiff, Nat.reduceDiv, Nat.reduceEqDiff, Int.reduceToNat, CV.one, Value.oneCell', Int.reduceLT, Int.reduceLE, Int.reduceNeg, Int.reduceEq, GV, H0, F0, Int.reduceBEq, Int.reduceBNe, ↓reduceIte, natV_cells, drop_nats, take_nats, head_nats, length_nats, length_natV, all_nats, exIx_natV, cells_natV, Bool.true_or, Bool.or_true, Bool.false_or, Bool.or_false, callOps_value, callOps_builtin, List.append_eq, beq_self_eq_true, Nat.zero_le, Bool.not_true, Bool.not_false, cvt_31_31, ex_conv_same]
        refine cond_dec (fun hc => ?_) (fun hc => ?_)
        · have hi' : i < 32 := by omega
          have v1 : Int.tdiv (i : Int) 4 = ((i / 4 : Nat) : Int) := tdiv_nat i 4
          have v2 : IntKind.i64.wrap ((i / 4 : Nat) : Int) = ((i / 4 : Nat) : Int) := i64_wrap (by omega) (by omega)
          have v3 : Int.tmod (i : Int) 4 = ((i % 4 : Nat) : Int) := tmod_nat i 4
          have v4 : IntKind.i64.wrap (8 * ((i % 4 : Nat) : Int)) = ((8 * (i % 4) : Nat) : Int) := by rw [i64_wrap (by omega) (by omega)]; omega
          have v5 : IntKind.i64.wrap (24 - ((8 * (i % 4) : Nat) : Int)) = ((24 - 8 * (i % 4) : Nat) : Int) := by rw [i64_wrap (by omega) (by omega)]; omega
          have v6 : (((24 - 8 * (i % 4) : Nat) : Int) < 0) = False := eq_false (by omega)
          have v7 : ∀ x : Nat, (x : Int).fdiv (2 ^ (min (24 - 8 * (i % 4)) IntKind.u32.bits)) = ((x / 2 ^ (24 - 8 * (i % 4)) : Nat) : Int) := fun x => shr_nat _ _ (by show 24 - 8 * (i % 4) ≤ 32; omega)
          have v8 : ((i / 4 : Nat) : Int) < 8 := by omega
          have v9 : i / 4 < 8 := by omega
          simp only [zz0, zz1, zz2, zz3, zz4, zz5, zz6, zz7, zz8, zz9, zz10, zz11, zz12, zz13, zz14, zz15, zz16, zz17, zz18, zz19, gateAt, noAssign, resKeys, killAll, siteDsts, isSite, refs, killL, killAV, st0, number, ev, exSl, bnd, bndOK, cellsAV, plain, ofCV, argsOf, argOf, srcOf, partsV, fillC, repeatL, resOf, binV, shV, intV, isShift, strV, unV, ares, ares1, isNilSl, reduceCtorEq, Nat.reduceBEq, Nat.reduceAdd, Nat.reduceSub, Nat.reduceMul, Nat.reduceLT, Nat.reduceLeDiff, Nat.reduceDiv, Nat.reduceEqDiff, Int.reduceToNat, CV.one, Value.oneCell', Int.reduceLT, Int.reduceLE, Int.reduceNeg, Int.reduceEq, GV, H0, F0, Int.reduceBEq, Int.reduceBNe, ↓reduceIte, natV_cells, drop_nats, take_nats, head_nats, length_nats, length_natV, all_nats, exIx_natV, cells_natV, Bool.true_or, Bool.or_true, Bool.false_or, Bool.or_false, callOps_value, callOps_builtin, List.append_eq, beq_self_eq_true, Nat.zero_le, Bool.not_true, Bool.not_false, cvt_31_31, ex_conv_same, v1, v2, v3, v4, v5, v6, v7, v8, v9, hw8, byte_nat, hc, hol, put_bytes _ i _ (by omega : i < (outT u i).length), outT_set u hi', i64_nat (show i < 9223372036854775807 by omega)]
          refine ⟨by omega, i + 1, by omega, by omega, ?_⟩
          refine stLe_mk ?_ ?_ ?_ <;> simp only [forall_mem_cons', forall_mem_nil', lk_hit, lk_miss, Nat.reduceBEq, AVle_refl, AVle_bot, AVle_untag, none_or_some, Option.some.injEq, and_true, true_and, length_bytesC, length_ints, length_strs, List.length_append, List.length_cons, List.length_nil]
        · have h32 : i = 32 := by omega
          subst h32
          have e32 : List.take 32 (outT u 32) = outT u 32 := List.take_of_length_le (by omega)
          have e33 : outT u 32 = outB u := by simp [outT, outB]
          have e34 : putL (bytesC (List.replicate 32 0)) 0 (bytesC (outT u 32)) = bytesC (outT u 32) := put_whole (by rw [length_bytesC, length_bytesC, hol]; simp)
          have e35 : (List.replicate 32 (0 : UInt8)).length = 32 := rfl
          simp only [zz0, zz1, zz2, zz3, zz4, zz5, zz6, zz7, zz8, zz9, zz10, zz11, zz12, zz13, zz14, zz15, zz16, zz17, zz18, zz19, gateAt, noAssign, resKeys, killAll, siteDsts, isSite, refs, killL, killAV, st0, number, ev, exSl, bnd, bndOK, cellsAV, plain, ofCV, argsOf, argOf, srcOf, partsV, fillC, repeatL, resOf, binV, shV, intV, isShift, strV, unV, ares, ares1, isNilSl, reduceCtorEq, Nat.reduceBEq, Nat.reduceAdd, Nat.reduceSub, Nat.reduceMul, Nat.reduceLT, Nat.reduceLeDiff, Nat.reduceDiv, Nat.reduceEqDiff, Int.reduceToNat, CV.one, Value.oneCell', Int.reduceLT, Int.reduceLE, Int.reduceNeg, Int.reduceEq, GV, H0, F0, Int.reduceBEq, Int.reduceBNe, ↓reduceIte, natV_cells, drop_nats, take_nats, head_nats, length_nats, length_natV, all_nats, exIx_natV, cells_natV, Bool.true_or, Bool.or_true, Bool.false_or, Bool.or_false, callOps_value, callOps_builtin, List.append_eq, beq_self_eq_true, Nat.zero_le, Bool.not_true, Bool.not_false, cvt_31_31, ex_conv_same, e32, hol, e34, e35, ret_bytes]
          rw [hsha, ← e33]
end Abs
end Go.Proofs.YtkdpmjgigknbpaaDoor
