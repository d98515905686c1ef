/-
  Walks: the decoding of an integer by the document.
-/
import Derived.Test.YtijboooekbdinaaW5
namespace Go.Proofs.Ytijboooekbdinaa
namespace Abs
open Go.RowKit Wire
set_option linter.unusedSimpArgs false
set_option linter.unusedVariables false
/-- The rounds from the last byte to the first one. -/
theorem back_step {b : List UInt8} {k j : Nat} (hk : k < b.length) (hj : j < k + 1) (hfit : valU (b.take (k + 1)) < 2 ^ 64) :
    IntKind.u64.wrap (IntKind.u64.wrap ((valU ((b.take (k + 1)).drop (j + 1)) : Int) * 128) + IntKind.u64.wrap (Int.tmod ((b.getD j 0).toNat : Int) 128)) = (valU ((b.take (k + 1)).drop j) : Int) := by
  have h1 : j < (b.take (k + 1)).length := by rw [List.length_take]; omega
  have h2 := valU_drop _ h1
  have h3 : (b.take (k + 1)).getD j 0 = b.getD j 0 := by
    rw [List.getD_eq_getElem?_getD, List.getD_eq_getElem?_getD, List.getElem?_take_of_lt hj]
  rw [h3] at h2
  have h4 := valU_drop_le (b.take (k + 1)) j
  have h5 := valU_drop_le (b.take (k + 1)) (j + 1)
  generalize valU ((b.take (k + 1)).drop (j + 1)) = v at *
  generalize (b.getD j 0).toNat = x at *
  rw [Int.tmod_eq_emod_of_nonneg (by omega), h2]
  simp only [IntKind.wrap_u64]
  omega
theorem lead_big {b : List UInt8} {i : Nat} (h1 : i ≤ lead 10 b) (h : i = 10) : dI b = (0, 0, 11) := by
  have := lead_le 10 b
  unfold dI; rw [if_pos (by omega)]
set_option maxHeartbeats 2000000 in
theorem spec_RGetInt (b : List UInt8) (hb : b.length ≤ 1000000000) : SP 25 [.sl none 1 (bytesC b)] (tI (dI b)) := by
  refine spec_fn (H := H0) (F := F0) Try.func25 rfl Try.ntmps25 Try.results25 (by kernel_rfl) rfl (by simp) ?_
  simp only [zz0, zz1, zz2, zz3, zz4, zz5, zz6, zz7, zz8, zz9, zz10, zz11, zz12, zz13, zz14, gateAt, noAssign, resKeys, killAll, siteDsts, isSite, refs, killL, killAV, st0, number, ev, exSl, bnd, bndOK, cellsAV, plain, ofCV, argsOf, argOf, srcOf, partsV, fillC, repeatL, resOf, binV, shV, intV, isShift, strV, unV, ares, ares1, isNilSl, reduceCtorEq, Nat.reduceBEq, Nat.reduceAdd, Nat.reduceSub, Nat.reduceMul, Nat.reduceLT, Nat.reduceLeDiff, Nat.reduceDiv, Nat.reduceEqDiff, Int.reduceToNat, CV.one, Value.oneCell', Int.reduceLT, Int.reduceLE, Int.reduceNeg, Int.reduceEq, GV, H0, F0, putL, Int.reduceBEq, Int.reduceBNe]
  refine loop_by (X := Nat) (fun i => ⟨S [(5, .v (.int .i64 i)), (0, .sl none 1 (bytesC b)), (2, .v (.int .i64 0)), (3, .v (.int .i64 0)), (4, .v (.int .i64 0))], B [], O []⟩)
      (fun i => i ≤ lead 10 b) (fun i => 10 - i) 0 (by omega) ?_ ?_
  · refine stLe_mk ?_ ?_ ?_ <;> simp only [forall_mem_cons', forall_mem_nil', lk_hit, lk_miss, Nat.reduceBEq, AVle_refl, AVle_bot, AVle_untag, none_or_some, Option.some.injEq, and_true, true_and, length_bytesC, length_ints, length_strs, List.length_append, List.length_cons, List.length_nil, bytesC_nil]
    all_goals simp [AVle_refl, valU]
  · rintro i h1
    have hle := lead_le 10 b
    have hx : (b.getD i 0).toNat < 256 := UInt8.toNat_lt _
    by_cases c1 : i < b.length
    · have d1 : decide ((i : Int) < (b.length : Int)) = true := decide_eq_true (by omega)
      by_cases c2 : i < 10
      · have d2 : decide ((i : Int) < 10) = true := decide_eq_true (by omega)
        have hst := lead_step 10 b i h1 c2 c1
        by_cases c3 : 128 ≤ (b.getD i 0).toNat
        · have d3 : decide (((b.getD i 0).toNat : Int) ≥ 128) = true := decide_eq_true (by omega)
          simp only [zz0, zz1, zz2, zz3, zz4, zz5, zz6, zz7, zz8, zz9, zz10, zz11, zz12, zz13, zz14, gateAt, noAssign, resKeys, killAll, siteDsts, isSite, refs, killL, killAV, st0, number, ev, exSl, bnd, bndOK, cellsAV, plain, ofCV, argsOf, argOf, srcOf, partsV, fillC, repeatL, resOf, binV, shV, intV, isShift, strV, unV, ares, ares1, isNilSl, reduceCtorEq, Nat.reduceBEq, Nat.reduceAdd, Nat.reduceSub, Nat.reduceMul, Nat.reduceLT, Nat.reduceLeDiff, Nat.reduceDiv, Nat.reduceEqDiff, Int.reduceToNat, CV.one, Value.oneCell', Int.reduceLT, Int.reduceLE, Int.reduceNeg, Int.reduceEq, GV, H0, F0, putL, Int.reduceBEq, Int.reduceBNe, eq_true c1, d1, d2, d3, i64_nat (show i < 9223372036854775807 by omega)]
          refine ⟨i + 1, hst.1 c3, by omega, ?_⟩
          refine stLe_mk ?_ ?_ ?_ <;> simp only [forall_mem_cons', forall_mem_nil', lk_hit, lk_miss, Nat.reduceBEq, AVle_refl, AVle_bot, AVle_untag, none_or_some, Option.some.injEq, and_true, true_and, length_bytesC, length_ints, length_strs, List.length_append, List.length_cons, List.length_nil]
        · have d3 : decide (((b.getD i 0).toNat : Int) ≥ 128) = false := decide_eq_false (by omega)
          have e10 : ((i : Int) == 10) = false := beq_eq_false_iff_ne.2 (by omega)
          have el : ((i : Int) == (b.length : Int)) = false := beq_eq_false_iff_ne.2 (by omega)
          by_cases h9 : i = 9
          · have b9 : ((i : Int) == 9) = true := by rw [beq_iff_eq]; omega
            by_cases hx1 : 1 < (b.getD i 0).toNat
            · have g1 : decide (((b.getD i 0).toNat : Int) > 1) = true := decide_eq_true (by omega)
              simp only [zz0, zz1, zz2, zz3, zz4, zz5, zz6, zz7, zz8, zz9, zz10, zz11, zz12, zz13, zz14, gateAt, noAssign, resKeys, killAll, siteDsts, isSite, refs, killL, killAV, st0, number, ev, exSl, bnd, bndOK, cellsAV, plain, ofCV, argsOf, argOf, srcOf, partsV, fillC, repeatL, resOf, binV, shV, intV, isShift, strV, unV, ares, ares1, isNilSl, reduceCtorEq, Nat.reduceBEq, Nat.reduceAdd, Nat.reduceSub, Nat.reduceMul, Nat.reduceLT, Nat.reduceLeDiff, Nat.reduceDiv, Nat.reduceEqDiff, Int.reduceToNat, CV.one, Value.oneCell', Int.reduceLT, Int.reduceLE, Int.reduceNeg, Int.reduceEq, GV, H0, F0, putL, Int.reduceBEq, Int.reduceBNe, eq_true c1, d1, d2, d3, e10, el, b9, g1]
              rw [dI_bad h1 (by omega) c1 (by omega)]; rfl
            · have g1 : decide (((b.getD i 0).toNat : Int) > 1) = false := decide_eq_false (by omega)
              have p0 : decide ((i : Int) > 0) = true := decide_eq_true (by omega)
              by_cases hx0 : (b.getD i 0).toNat = 0
              · have g0 : (((b.getD i 0).toNat : Int) == 0) = true := by rw [beq_iff_eq]; omega
                simp only [zz0, zz1, zz2, zz3, zz4, zz5, zz6, zz7, zz8, zz9, zz10, zz11, zz12, zz13, zz14, gateAt, noAssign, resKeys, killAll, siteDsts, isSite, refs, killL, killAV, st0, number, ev, exSl, bnd, bndOK, cellsAV, plain, ofCV, argsOf, argOf, srcOf, partsV, fillC, repeatL, resOf, binV, shV, intV, isShift, strV, unV, ares, ares1, isNilSl, reduceCtorEq, Nat.reduceBEq, Nat.reduceAdd, Nat.reduceSub, Nat.reduceMul, Nat.reduceLT, Nat.reduceLeDiff, Nat.reduceDiv, Nat.reduceEqDiff, Int.reduceToNat, CV.one, Value.oneCell', Int.reduceLT, Int.reduceLE, Int.reduceNeg, Int.reduceEq, GV, H0, F0, putL, Int.reduceBEq, Int.reduceBNe, eq_true c1, d1, d2, d3, e10, el, b9, g1, p0, g0]
                rw [dI_bad h1 (by omega) c1 (by omega)]; rfl
              · have g0 : (((b.getD i 0).toNat : Int) == 0) = false := beq_eq_false_iff_ne.2 (by omega)
                have hbad : ¬ ((i = 9 ∧ 1 < (b.getD i 0).toNat) ∨ (0 < i ∧ (b.getD i 0).toNat = 0)) := by omega
                have hfit := valU_fit (b := b) (show i ≤ 9 by omega) (by omega)
                rw [← valU_take b c1] at hfit
                have hd := dI_ok h1 (by omega) c1 hbad (by omega)
                simp only [zz0, zz1, zz2, zz3, zz4, zz5, zz6, zz7, zz8, zz9, zz10, zz11, zz12, zz13, zz14, gateAt, noAssign, resKeys, killAll, siteDsts, isSite, refs, killL, killAV, st0, number, ev, exSl, bnd, bndOK, cellsAV, plain, ofCV, argsOf, argOf, srcOf, partsV, fillC, repeatL, resOf, binV, shV, intV, isShift, strV, unV, ares, ares1, isNilSl, reduceCtorEq, Nat.reduceBEq, Nat.reduceAdd, Nat.reduceSub, Nat.reduceMul, Nat.reduceLT, Nat.reduceLeDiff, Nat.reduceDiv, Nat.reduceEqDiff, Int.reduceToNat, CV.one, Value.oneCell', Int.reduceLT, Int.reduceLE, Int.reduceNeg, Int.reduceEq, GV, H0, F0, putL, Int.reduceBEq, Int.reduceBNe, eq_true c1, d1, d2, d3, e10, el, b9, g1, p0, g0]
                refine loop_by (X := Nat) (fun j => ⟨S [(7, .v (.int .i64 ((j : Int) - 1))), (6, .v (.int .u64 (valU ((b.take (i + 1)).drop j)))), (0, .sl none 1 (bytesC b)), (5, .v (.int .i64 i)), (2, .v (.int .i64 0)), (3, .v (.int .i64 0)), (4, .v (.int .i64 0))], B [], O []⟩)
                    (fun j => j ≤ i + 1) (fun j => j) (i + 1) (Nat.le_refl _) ?_ ?_
                · refine stLe_mk ?_ ?_ ?_ <;> simp only [forall_mem_cons', forall_mem_nil', lk_hit, lk_miss, Nat.reduceBEq, AVle_refl, AVle_bot, AVle_untag, none_or_some, Option.some.injEq, and_true, true_and, length_bytesC, length_ints, length_strs, List.length_append, List.length_cons, List.length_nil, bytesC_nil]
                  have e : ((i + 1 : Nat) : Int) - 1 = i := by omega
                  rw [e, List.drop_eq_nil_of_le (by rw [List.length_take]; omega)]
                  simp [AVle_refl, valU]
                · intro j hj
                  simp only [zz0, zz1, zz2, zz3, zz4, zz5, zz6, zz7, zz8, zz9, zz10, zz11, zz12, zz13, zz14, gateAt, noAssign, resKeys, killAll, siteDsts, isSite, refs, killL, killAV, st0, number, ev, exSl, bnd, bndOK, cellsAV, plain, ofCV, argsOf, argOf, srcOf, partsV, fillC, repeatL, resOf, binV, shV, intV, isShift, strV, unV, ares, ares1, isNilSl, reduceCtorEq, Nat.reduceBEq, Nat.reduceAdd, Nat.reduceSub, Nat.reduceMul, Nat.reduceLT, Nat.reduceLeDiff, Nat.reduceDiv, Nat.reduceEqDiff, Int.reduceToNat, CV.one, Value.oneCell', Int.reduceLT, Int.reduceLE, Int.reduceNeg, Int.reduceEq, GV, H0, F0, putL, Int.reduceBEq, Int.reduceBNe]
                  refine cond_dec (fun hc => ?_) (fun hc => ?_)
                  · obtain ⟨m, rfl⟩ : ∃ m, j = m + 1 := ⟨j - 1, by omega⟩
                    have em : ((m + 1 : Nat) : Int) - 1 = (m : Int) := by omega
                    have ew : IntKind.i64.wrap ((m : Int) - 1) = (m : Int) - 1 := by rw [IntKind.wrap_i64]; omega
                    simp only [zz0, zz1, zz2, zz3, zz4, zz5, zz6, zz7, zz8, zz9, zz10, zz11, zz12, zz13, zz14, gateAt, noAssign, resKeys, killAll, siteDsts, isSite, refs, killL, killAV, st0, number, ev, exSl, bnd, bndOK, cellsAV, plain, ofCV, argsOf, argOf, srcOf, partsV, fillC, repeatL, resOf, binV, shV, intV, isShift, strV, unV, ares, ares1, isNilSl, reduceCtorEq, Nat.reduceBEq, Nat.reduceAdd, Nat.reduceSub, Nat.reduceMul, Nat.reduceLT, Nat.reduceLeDiff, Nat.reduceDiv, Nat.reduceEqDiff, Int.reduceToNat, CV.one, Value.oneCell', Int.reduceLT, Int.reduceLE, Int.reduceNeg, Int.reduceEq, GV, H0, F0, putL, Int.reduceBEq, Int.reduceBNe, em, ew, eq_true (show m < b.length by omega)]
                    rw [back_step c1 (by omega) hfit]
                    refine ⟨m, by omega, by omega, ?_⟩
                    refine stLe_mk ?_ ?_ ?_ <;> simp only [forall_mem_cons', forall_mem_nil', lk_hit, lk_miss, Nat.reduceBEq, AVle_refl, AVle_bot, AVle_untag, none_or_some, Option.some.injEq, and_true, true_and, length_bytesC, length_ints, length_strs, List.length_append, List.length_cons, List.length_nil]
                  · obtain rfl : j = 0 := by omega
                    have hU := unzigR hfit
                    rcases Nat.mod_two_eq_zero_or_one (valU (b.take (i + 1))) with hm | hm
                    · have t : (((valU (b.take (i + 1)) % 2 : Nat) : Int) == 1) = false := by rw [hm]; rfl
                      simp only [zz0, zz1, zz2, zz3, zz4, zz5, zz6, zz7, zz8, zz9, zz10, zz11, zz12, zz13, zz14, gateAt, noAssign, resKeys, killAll, siteDsts, isSite, refs, killL, killAV, st0, number, ev, exSl, bnd, bndOK, cellsAV, plain, ofCV, argsOf, argOf, srcOf, partsV, fillC, repeatL, resOf, binV, shV, intV, isShift, strV, unV, ares, ares1, isNilSl, reduceCtorEq, Nat.reduceBEq, Nat.reduceAdd, Nat.reduceSub, Nat.reduceMul, Nat.reduceLT, Nat.reduceLeDiff, Nat.reduceDiv, Nat.reduceEqDiff, Int.reduceToNat, CV.one, Value.oneCell', Int.reduceLT, Int.reduceLE, Int.reduceNeg, Int.reduceEq, GV, H0, F0, putL, Int.reduceBEq, Int.reduceBNe, hU.1, t, hU.2.1 hm, i64_nat (show i < 9223372036854775807 by omega)]
                      rw [hd]; rfl
                    · have t : (((valU (b.take (i + 1)) % 2 : Nat) : Int) == 1) = true := by rw [hm]; rfl
                      simp only [zz0, zz1, zz2, zz3, zz4, zz5, zz6, zz7, zz8, zz9, zz10, zz11, zz12, zz13, zz14, gateAt, noAssign, resKeys, killAll, siteDsts, isSite, refs, killL, killAV, st0, number, ev, exSl, bnd, bndOK, cellsAV, plain, ofCV, argsOf, argOf, srcOf, partsV, fillC, repeatL, resOf, binV, shV, intV, isShift, strV, unV, ares, ares1, isNilSl, reduceCtorEq, Nat.reduceBEq, Nat.reduceAdd, Nat.reduceSub, Nat.reduceMul, Nat.reduceLT, Nat.reduceLeDiff, Nat.reduceDiv, Nat.reduceEqDiff, Int.reduceToNat, CV.one, Value.oneCell', Int.reduceLT, Int.reduceLE, Int.reduceNeg, Int.reduceEq, GV, H0, F0, putL, Int.reduceBEq, Int.reduceBNe, hU.1, t, hU.2.2 hm, i64_nat (show i < 9223372036854775807 by omega)]
                      rw [hd]; rfl
          · have b9 : ((i : Int) == 9) = false := beq_eq_false_iff_ne.2 (by omega)
            by_cases hp : 0 < i
            · have p0 : decide ((i : Int) > 0) = true := decide_eq_true (by omega)
              by_cases hx0 : (b.getD i 0).toNat = 0
              · have g0 : (((b.getD i 0).toNat : Int) == 0) = true := by rw [beq_iff_eq]; omega
                simp only [zz0, zz1, zz2, zz3, zz4, zz5, zz6, zz7, zz8, zz9, zz10, zz11, zz12, zz13, zz14, gateAt, noAssign, resKeys, killAll, siteDsts, isSite, refs, killL, killAV, st0, number, ev, exSl, bnd, bndOK, cellsAV, plain, ofCV, argsOf, argOf, srcOf, partsV, fillC, repeatL, resOf, binV, shV, intV, isShift, strV, unV, ares, ares1, isNilSl, reduceCtorEq, Nat.reduceBEq, Nat.reduceAdd, Nat.reduceSub, Nat.reduceMul, Nat.reduceLT, Nat.reduceLeDiff, Nat.reduceDiv, Nat.reduceEqDiff, Int.reduceToNat, CV.one, Value.oneCell', Int.reduceLT, Int.reduceLE, Int.reduceNeg, Int.reduceEq, GV, H0, F0, putL, Int.reduceBEq, Int.reduceBNe, eq_true c1, d1, d2, d3, e10, el, b9, p0, g0]
                rw [dI_bad h1 (by omega) c1 (by omega)]; rfl
              · have g0 : (((b.getD i 0).toNat : Int) == 0) = false := beq_eq_false_iff_ne.2 (by omega)
                have hbad : ¬ ((i = 9 ∧ 1 < (b.getD i 0).toNat) ∨ (0 < i ∧ (b.getD i 0).toNat = 0)) := by omega
                have hfit := valU_fit (b := b) (show i ≤ 9 by omega) (by omega)
                rw [← valU_take b c1] at hfit
                have hd := dI_ok h1 (by omega) c1 hbad (by omega)
                simp only [zz0, zz1, zz2, zz3, zz4, zz5, zz6, zz7, zz8, zz9, zz10, zz11, zz12, zz13, zz14, gateAt, noAssign, resKeys, killAll, siteDsts, isSite, refs, killL, killAV, st0, number, ev, exSl, bnd, bndOK, cellsAV, plain, ofCV, argsOf, argOf, srcOf, partsV, fillC, repeatL, resOf, binV, shV, intV, isShift, strV, unV, ares, ares1, isNilSl, reduceCtorEq, Nat.reduceBEq, Nat.reduceAdd, Nat.reduceSub, Nat.reduceMul, Nat.reduceLT, Nat.reduceLeDiff, Nat.reduceDiv, Nat.reduceEqDiff, Int.reduceToNat, CV.one, Value.oneCell', Int.reduceLT, Int.reduceLE, Int.reduceNeg, Int.reduceEq, GV, H0, F0, putL, Int.reduceBEq, Int.reduceBNe, eq_true c1, d1, d2, d3, e10, el, b9, p0, g0]
                refine loop_by (X := Nat) (fun j => ⟨S [(7, .v (.int .i64 ((j : Int) - 1))), (6, .v (.int .u64 (valU ((b.take (i + 1)).drop j)))), (0, .sl none 1 (bytesC b)), (5, .v (.int .i64 i)), (2, .v (.int .i64 0)), (3, .v (.int .i64 0)), (4, .v (.int .i64 0))], B [], O []⟩)
                    (fun j => j ≤ i + 1) (fun j => j) (i + 1) (Nat.le_refl _) ?_ ?_
                · refine stLe_mk ?_ ?_ ?_ <;> simp only [forall_mem_cons', forall_mem_nil', lk_hit, lk_miss, Nat.reduceBEq, AVle_refl, AVle_bot, AVle_untag, none_or_some, Option.some.injEq, and_true, true_and, length_bytesC, length_ints, length_strs, List.length_append, List.length_cons, List.length_nil, bytesC_nil]
                  have e : ((i + 1 : Nat) : Int) - 1 = i := by omega
                  rw [e, List.drop_eq_nil_of_le (by rw [List.length_take]; omega)]
                  simp [AVle_refl, valU]
                · intro j hj
                  simp only [zz0, zz1, zz2, zz3, zz4, zz5, zz6, zz7, zz8, zz9, zz10, zz11, zz12, zz13, zz14, gateAt, noAssign, resKeys, killAll, siteDsts, isSite, refs, killL, killAV, st0, number, ev, exSl, bnd, bndOK, cellsAV, plain, ofCV, argsOf, argOf, srcOf, partsV, fillC, repeatL, resOf, binV, shV, intV, isShift, strV, unV, ares, ares1, isNilSl, reduceCtorEq, Nat.reduceBEq, Nat.reduceAdd, Nat.reduceSub, Nat.reduceMul, Nat.reduceLT, Nat.reduceLeDiff, Nat.reduceDiv, Nat.reduceEqDiff, Int.reduceToNat, CV.one, Value.oneCell', Int.reduceLT, Int.reduceLE, Int.reduceNeg, Int.reduceEq, GV, H0, F0, putL, Int.reduceBEq, Int.reduceBNe]
                  refine cond_dec (fun hc => ?_) (fun hc => ?_)
                  · obtain ⟨m, rfl⟩ : ∃ m, j = m + 1 := ⟨j - 1, by omega⟩
                    have em : ((m + 1 : Nat) : Int) - 1 = (m : Int) := by omega
                    have ew : IntKind.i64.wrap ((m : Int) - 1) = (m : Int) - 1 := by rw [IntKind.wrap_i64]; omega
                    simp only [zz0, zz1, zz2, zz3, zz4, zz5, zz6, zz7, zz8, zz9, zz10, zz11, zz12, zz13, zz14, gateAt, noAssign, resKeys, killAll, siteDsts, isSite, refs, killL, killAV, st0, number, ev, exSl, bnd, bndOK, cellsAV, plain, ofCV, argsOf, argOf, srcOf, partsV, fillC, repeatL, resOf, binV, shV, intV, isShift, strV, unV, ares, ares1, isNilSl, reduceCtorEq, Nat.reduceBEq, Nat.reduceAdd, Nat.reduceSub, Nat.reduceMul, Nat.reduceLT, Nat.reduceLeDiff, Nat.reduceDiv, Nat.reduceEqDiff, Int.reduceToNat, CV.one, Value.oneCell', Int.reduceLT, Int.reduceLE, Int.reduceNeg, Int.reduceEq, GV, H0, F0, putL, Int.reduceBEq, Int.reduceBNe, em, ew, eq_true (show m < b.length by omega)]
                    rw [back_step c1 (by omega) hfit]
                    refine ⟨m, by omega, by omega, ?_⟩
                    refine stLe_mk ?_ ?_ ?_ <;> simp only [forall_mem_cons', forall_mem_nil', lk_hit, lk_miss, Nat.reduceBEq, AVle_refl, AVle_bot, AVle_untag, none_or_some, Option.some.injEq, and_true, true_and, length_bytesC, length_ints, length_strs, List.length_append, List.length_cons, List.length_nil]
                  · obtain rfl : j = 0 := by omega
                    have hU := unzigR hfit
                    rcases Nat.mod_two_eq_zero_or_one (valU (b.take (i + 1))) with hm | hm
                    · have t : (((valU (b.take (i + 1)) % 2 : Nat) : Int) == 1) = false := by rw [hm]; rfl
                      simp only [zz0, zz1, zz2, zz3, zz4, zz5, zz6, zz7, zz8, zz9, zz10, zz11, zz12, zz13, zz14, gateAt, noAssign, resKeys, killAll, siteDsts, isSite, refs, killL, killAV, st0, number, ev, exSl, bnd, bndOK, cellsAV, plain, ofCV, argsOf, argOf, srcOf, partsV, fillC, repeatL, resOf, binV, shV, intV, isShift, strV, unV, ares, ares1, isNilSl, reduceCtorEq, Nat.reduceBEq, Nat.reduceAdd, Nat.reduceSub, Nat.reduceMul, Nat.reduceLT, Nat.reduceLeDiff, Nat.reduceDiv, Nat.reduceEqDiff, Int.reduceToNat, CV.one, Value.oneCell', Int.reduceLT, Int.reduceLE, Int.reduceNeg, Int.reduceEq, GV, H0, F0, putL, Int.reduceBEq, Int.reduceBNe, hU.1, t, hU.2.1 hm, i64_nat (show i < 9223372036854775807 by omega)]
                      rw [hd]; rfl
                    · have t : (((valU (b.take (i + 1)) % 2 : Nat) : Int) == 1) = true := by rw [hm]; rfl
                      simp only [zz0, zz1, zz2, zz3, zz4, zz5, zz6, zz7, zz8, zz9, zz10, zz11, zz12, zz13, zz14, gateAt, noAssign, resKeys, killAll, siteDsts, isSite, refs, killL, killAV, st0, number, ev, exSl, bnd, bndOK, cellsAV, plain, ofCV, argsOf, argOf, srcOf, partsV, fillC, repeatL, resOf, binV, shV, intV, isShift, strV, unV, ares, ares1, isNilSl, reduceCtorEq, Nat.reduceBEq, Nat.reduceAdd, Nat.reduceSub, Nat.reduceMul, Nat.reduceLT, Nat.reduceLeDiff, Nat.reduceDiv, Nat.reduceEqDiff, Int.reduceToNat, CV.one, Value.oneCell', Int.reduceLT, Int.reduceLE, Int.reduceNeg, Int.reduceEq, GV, H0, F0, putL, Int.reduceBEq, Int.reduceBNe, hU.1, t, hU.2.2 hm, i64_nat (show i < 9223372036854775807 by omega)]
                      rw [hd]; rfl
            · have p0 : decide ((i : Int) > 0) = false := decide_eq_false (by omega)
              have hbad : ¬ ((i = 9 ∧ 1 < (b.getD i 0).toNat) ∨ (0 < i ∧ (b.getD i 0).toNat = 0)) := by omega
              have hfit := valU_fit (b := b) (show i ≤ 9 by omega) (by omega)
              rw [← valU_take b c1] at hfit
              have hd := dI_ok h1 (by omega) c1 hbad (by omega)
              simp only [zz0, zz1, zz2, zz3, zz4, zz5, zz6, zz7, zz8, zz9, zz10, zz11, zz12, zz13, zz14, gateAt, noAssign, resKeys, killAll, siteDsts, isSite, refs, killL, killAV, st0, number, ev, exSl, bnd, bndOK, cellsAV, plain, ofCV, argsOf, argOf, srcOf, partsV, fillC, repeatL, resOf, binV, shV, intV, isShift, strV, unV, ares, ares1, isNilSl, reduceCtorEq, Nat.reduceBEq, Nat.reduceAdd, Nat.reduceSub, Nat.reduceMul, Nat.reduceLT, Nat.reduceLeDiff, Nat.reduceDiv, Nat.reduceEqDiff, Int.reduceToNat, CV.one, Value.oneCell', Int.reduceLT, Int.reduceLE, Int.reduceNeg, Int.reduceEq, GV, H0, F0, putL, Int.reduceBEq, Int.reduceBNe, eq_true c1, d1, d2, d3, e10, el, b9, p0]
              refine loop_by (X := Nat) (fun j => ⟨S [(7, .v (.int .i64 ((j : Int) - 1))), (6, .v (.int .u64 (valU ((b.take (i + 1)).drop j)))), (0, .sl none 1 (bytesC b)), (5, .v (.int .i64 i)), (2, .v (.int .i64 0)), (3, .v (.int .i64 0)), (4, .v (.int .i64 0))], B [], O []⟩)
                  (fun j => j ≤ i + 1) (fun j => j) (i + 1) (Nat.le_refl _) ?_ ?_
              · refine stLe_mk ?_ ?_ ?_ <;> simp only [forall_mem_cons', forall_mem_nil', lk_hit, lk_miss, Nat.reduceBEq, AVle_refl, AVle_bot, AVle_untag, none_or_some, Option.some.injEq, and_true, true_and, length_bytesC, length_ints, length_strs, List.length_append, List.length_cons, List.length_nil, bytesC_nil]
                have e : ((i + 1 : Nat) : Int) - 1 = i := by omega
                rw [e, List.drop_eq_nil_of_le (by rw [List.length_take]; omega)]
                simp [AVle_refl, valU]
              · intro j hj
                simp only [zz0, zz1, zz2, zz3, zz4, zz5, zz6, zz7, zz8, zz9, zz10, zz11, zz12, zz13, zz14, gateAt, noAssign, resKeys, killAll, siteDsts, isSite, refs, killL, killAV, st0, number, ev, exSl, bnd, bndOK, cellsAV, plain, ofCV, argsOf, argOf, srcOf, partsV, fillC, repeatL, resOf, binV, shV, intV, isShift, strV, unV, ares, ares1, isNilSl, reduceCtorEq, Nat.reduceBEq, Nat.reduceAdd, Nat.reduceSub, Nat.reduceMul, Nat.reduceLT, Nat.reduceLeDiff, Nat.reduceDiv, Nat.reduceEqDiff, Int.reduceToNat, CV.one, Value.oneCell', Int.reduceLT, Int.reduceLE, Int.reduceNeg, Int.reduceEq, GV, H0, F0, putL, Int.reduceBEq, Int.reduceBNe]
                refine cond_dec (fun hc => ?_) (fun hc => ?_)
                · obtain ⟨m, rfl⟩ : ∃ m, j = m + 1 := ⟨j - 1, by omega⟩
                  have em : ((m + 1 : Nat) : Int) - 1 = (m : Int) := by omega
                  have ew : IntKind.i64.wrap ((m : Int) - 1) = (m : Int) - 1 := by rw [IntKind.wrap_i64]; omega
                  simp only [zz0, zz1, zz2, zz3, zz4, zz5, zz6, zz7, zz8, zz9, zz10, zz11, zz12, zz13, zz14, gateAt, noAssign, resKeys, killAll, siteDsts, isSite, refs, killL, killAV, st0, number, ev, exSl, bnd, bndOK, cellsAV, plain, ofCV, argsOf, argOf, srcOf, partsV, fillC, repeatL, resOf, binV, shV, intV, isShift, strV, unV, ares, ares1, isNilSl, reduceCtorEq, Nat.reduceBEq, Nat.reduceAdd, Nat.reduceSub, Nat.reduceMul, Nat.reduceLT, Nat.reduceLeDiff, Nat.reduceDiv, Nat.reduceEqDiff, Int.reduceToNat, CV.one, Value.oneCell', Int.reduceLT, Int.reduceLE, Int.reduceNeg, Int.reduceEq, GV, H0, F0, putL, Int.reduceBEq, Int.reduceBNe, em, ew, eq_true (show m < b.length by omega)]
                  rw [back_step c1 (by omega) hfit]
                  refine ⟨m, by omega, by omega, ?_⟩
                  refine stLe_mk ?_ ?_ ?_ <;> simp only [forall_mem_cons', forall_mem_nil', lk_hit, lk_miss, Nat.reduceBEq, AVle_refl, AVle_bot, AVle_untag, none_or_some, Option.some.injEq, and_true, true_and, length_bytesC, length_ints, length_strs, List.length_append, List.length_cons, List.length_nil]
                · obtain rfl : j = 0 := by omega
                  have hU := unzigR hfit
                  rcases Nat.mod_two_eq_zero_or_one (valU (b.take (i + 1))) with hm | hm
                  · have t : (((valU (b.take (i + 1)) % 2 : Nat) : Int) == 1) = false := by rw [hm]; rfl
                    simp only [zz0, zz1, zz2, zz3, zz4, zz5, zz6, zz7, zz8, zz9, zz10, zz11, zz12, zz13, zz14, gateAt, noAssign, resKeys, killAll, siteDsts, isSite, refs, killL, killAV, st0, number, ev, exSl, bnd, bndOK, cellsAV, plain, ofCV, argsOf, argOf, srcOf, partsV, fillC, repeatL, resOf, binV, shV, intV, isShift, strV, unV, ares, ares1, isNilSl, reduceCtorEq, Nat.reduceBEq, Nat.reduceAdd, Nat.reduceSub, Nat.reduceMul, Nat.reduceLT, Nat.reduceLeDiff, Nat.reduceDiv, Nat.reduceEqDiff, Int.reduceToNat, CV.one, Value.oneCell', Int.reduceLT, Int.reduceLE, Int.reduceNeg, Int.reduceEq, GV, H0, F0, putL, Int.reduceBEq, Int.reduceBNe, hU.1, t, hU.2.1 hm, i64_nat (show i < 9223372036854775807 by omega)]
                    rw [hd]; rfl
                  · have t : (((valU (b.take (i + 1)) % 2 : Nat) : Int) == 1) = true := by rw [hm]; rfl
                    simp only [zz0, zz1, zz2, zz3, zz4, zz5, zz6, zz7, zz8, zz9, zz10, zz11, zz12, zz13, zz14, gateAt, noAssign, resKeys, killAll, siteDsts, isSite, refs, killL, killAV, st0, number, ev, exSl, bnd, bndOK, cellsAV, plain, ofCV, argsOf, argOf, srcOf, partsV, fillC, repeatL, resOf, binV, shV, intV, isShift, strV, unV, ares, ares1, isNilSl, reduceCtorEq, Nat.reduceBEq, Nat.reduceAdd, Nat.reduceSub, Nat.reduceMul, Nat.reduceLT, Nat.reduceLeDiff, Nat.reduceDiv, Nat.reduceEqDiff, Int.reduceToNat, CV.one, Value.oneCell', Int.reduceLT, Int.reduceLE, Int.reduceNeg, Int.reduceEq, GV, H0, F0, putL, Int.reduceBEq, Int.reduceBNe, hU.1, t, hU.2.2 hm, i64_nat (show i < 9223372036854775807 by omega)]
                    rw [hd]; rfl
      · have d2 : decide ((i : Int) < 10) = false := decide_eq_false (by omega)
        have e10 : ((i : Int) == 10) = true := by rw [beq_iff_eq]; omega
        simp only [zz0, zz1, zz2, zz3, zz4, zz5, zz6, zz7, zz8, zz9, zz10, zz11, zz12, zz13, zz14, gateAt, noAssign, resKeys, killAll, siteDsts, isSite, refs, killL, killAV, st0, number, ev, exSl, bnd, bndOK, cellsAV, plain, ofCV, argsOf, argOf, srcOf, partsV, fillC, repeatL, resOf, binV, shV, intV, isShift, strV, unV, ares, ares1, isNilSl, reduceCtorEq, Nat.reduceBEq, Nat.reduceAdd, Nat.reduceSub, Nat.reduceMul, Nat.reduceLT, Nat.reduceLeDiff, Nat.reduceDiv, Nat.reduceEqDiff, Int.reduceToNat, CV.one, Value.oneCell', Int.reduceLT, Int.reduceLE, Int.reduceNeg, Int.reduceEq, GV, H0, F0, putL, Int.reduceBEq, Int.reduceBNe, eq_true c1, d1, d2, e10]
        rw [lead_big h1 (by omega)]; rfl
    · have d1 : decide ((i : Int) < (b.length : Int)) = false := decide_eq_false (by omega)
      by_cases c2 : i < 10
      · have e10 : ((i : Int) == 10) = false := beq_eq_false_iff_ne.2 (by omega)
        have el : ((i : Int) == (b.length : Int)) = true := by rw [beq_iff_eq]; omega
        simp only [zz0, zz1, zz2, zz3, zz4, zz5, zz6, zz7, zz8, zz9, zz10, zz11, zz12, zz13, zz14, gateAt, noAssign, resKeys, killAll, siteDsts, isSite, refs, killL, killAV, st0, number, ev, exSl, bnd, bndOK, cellsAV, plain, ofCV, argsOf, argOf, srcOf, partsV, fillC, repeatL, resOf, binV, shV, intV, isShift, strV, unV, ares, ares1, isNilSl, reduceCtorEq, Nat.reduceBEq, Nat.reduceAdd, Nat.reduceSub, Nat.reduceMul, Nat.reduceLT, Nat.reduceLeDiff, Nat.reduceDiv, Nat.reduceEqDiff, Int.reduceToNat, CV.one, Value.oneCell', Int.reduceLT, Int.reduceLE, Int.reduceNeg, Int.reduceEq, GV, H0, F0, putL, Int.reduceBEq, Int.reduceBNe, d1, e10, el]
        rw [dI_end h1 (by omega) (by omega)]; rfl
      · have e10 : ((i : Int) == 10) = true := by rw [beq_iff_eq]; omega
        simp only [zz0, zz1, zz2, zz3, zz4, zz5, zz6, zz7, zz8, zz9, zz10, zz11, zz12, zz13, zz14, gateAt, noAssign, resKeys, killAll, siteDsts, isSite, refs, killL, killAV, st0, number, ev, exSl, bnd, bndOK, cellsAV, plain, ofCV, argsOf, argOf, srcOf, partsV, fillC, repeatL, resOf, binV, shV, intV, isShift, strV, unV, ares, ares1, isNilSl, reduceCtorEq, Nat.reduceBEq, Nat.reduceAdd, Nat.reduceSub, Nat.reduceMul, Nat.reduceLT, Nat.reduceLeDiff, Nat.reduceDiv, Nat.reduceEqDiff, Int.reduceToNat, CV.one, Value.oneCell', Int.reduceLT, Int.reduceLE, Int.reduceNeg, Int.reduceEq, GV, H0, F0, putL, Int.reduceBEq, Int.reduceBNe, d1, e10]
        rw [lead_big h1 (by omega)]; rfl
end Abs
end Go.Proofs.Ytijboooekbdinaa
