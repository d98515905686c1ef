/-
  Walks: the decoding of lists.
-/
import Derived.Test.YtijboooekbdinaaW7
namespace Go.Proofs.Ytijboooekbdinaa
namespace Abs
open Go.RowKit Wire
set_option linter.unusedSimpArgs false
set_option linter.unusedVariables false
def tLI (r : List Int × Nat × Nat) : AV := .tup (.sl none 1 (ints .i64 r.1)) (.int .i64 r.2.1) (.int .i64 r.2.2)
def tLS (r : List ByteArray × Nat × Nat) : AV := .tup (.sl none 1 (strs r.1)) (.int .i64 r.2.1) (.int .i64 r.2.2)
def dS (b : List UInt8) : ByteArray × Nat × Nat := (⟨(dB b).1.toArray⟩, (dB b).2.1, (dB b).2.2)
def tS (r : ByteArray × Nat × Nat) : AV := .tup (.v (.string r.1)) (.int .i64 r.2.1) (.int .i64 r.2.2)
theorem tS_dS (b : List UInt8) : tS (dS b) = tB (dB b) := rfl
theorem dS_facts (b : List UInt8) : (dS b).2.1 ≤ b.length ∧ (dS b).2.2 ≤ 11 := by
  have h := dLen_facts 1 b
  show (dB b).2.1 ≤ b.length ∧ (dB b).2.2 ≤ 11
  unfold dB
  split
  · simp only; omega
  · simp only
    rw [Nat.div_one] at h; omega
theorem dI_facts' (b : List UInt8) : (dI b).2.1 ≤ b.length ∧ (dI b).2.2 ≤ 11 := by have := dI_facts b; omega
theorem spec_GetBytes' (b : List UInt8) (hb : b.length ≤ 1000000000) : SP 26 [.sl none 1 (bytesC b)] (tS (dS b)) := spec_GetBytes b hb
theorem spec_RGetBytes' (b : List UInt8) (hb : b.length ≤ 1000000000) : SP 27 [.sl none 1 (bytesC b)] (tS (dS b)) := spec_RGetBytes b hb
theorem spec_getI (b : List UInt8) (hb : b.length ≤ 1000000000) : SP 43 [.sl none 1 (bytesC b), .v (.int .i64 1), .v (.func (.func 24) #[] #[])] (tLI (dList 1 dI b)) := by
  refine spec_fn (H := H0) (F := F0) Try.func43 rfl Try.ntmps43 Try.results43 (by kernel_rfl) rfl (by simp) ?_
  simp only [zz0, zz1, zz2, zz3, zz4, zz5, zz6, zz7, zz8, zz9, zz10, zz11, zz12, zz13, zz14, gateAt, noAssign, resKeys, killAll, siteDsts, isSite, refs, killL, killAV, st0, number, ev, exSl, bnd, bndOK, cellsAV, plain, ofCV, argsOf, argOf, srcOf, partsV, fillC, repeatL, resOf, binV, shV, intV, isShift, strV, unV, ares, ares1, isNilSl, reduceCtorEq, Nat.reduceBEq, Nat.reduceAdd, Nat.reduceSub, Nat.reduceMul, Nat.reduceLT, Nat.reduceLeDiff, Nat.reduceDiv, Nat.reduceEqDiff, Int.reduceToNat, CV.one, Value.oneCell', Int.reduceLT, Int.reduceLE, Int.reduceNeg, Int.reduceEq, GV, H0, F0, putL, Int.reduceBEq, Int.reduceBNe]
  refine call_by (spec_length b hb 1 (by omega) (by omega)) ?_
  have hf := dLen_facts 1 b
  have hD : dList 1 dI b = if (dLen 1 b).2.2 ≠ 0 then ([], 0, (dLen 1 b).2.2) else fin [] (dLen 1 b).2.1 (dLoop dI (dLen 1 b).1.toNat (b.drop (dLen 1 b).2.1)) := rfl
  generalize dLen 1 b = r at *
  obtain ⟨n, u, e⟩ := r
  simp only at hf hD
  by_cases he : e = 0
  · subst he
    rw [if_neg (by simp)] at hD
    obtain ⟨k, rfl⟩ : ∃ k : Nat, n = k := ⟨n.toNat, by omega⟩
    have hk : k ≤ b.length - u := by have := hf.2.1; rw [Nat.div_one] at this; omega
    simp only [zz0, zz1, zz2, zz3, zz4, zz5, zz6, zz7, zz8, zz9, zz10, zz11, zz12, zz13, zz14, gateAt, noAssign, resKeys, killAll, siteDsts, isSite, refs, killL, killAV, st0, number, ev, exSl, bnd, bndOK, cellsAV, plain, ofCV, argsOf, argOf, srcOf, partsV, fillC, repeatL, resOf, binV, shV, intV, isShift, strV, unV, ares, ares1, isNilSl, reduceCtorEq, Nat.reduceBEq, Nat.reduceAdd, Nat.reduceSub, Nat.reduceMul, Nat.reduceLT, Nat.reduceLeDiff, Nat.reduceDiv, Nat.reduceEqDiff, Int.reduceToNat, CV.one, Value.oneCell', Int.reduceLT, Int.reduceLE, Int.reduceNeg, Int.reduceEq, GV, H0, F0, putL, Int.reduceBEq, Int.reduceBNe, tI]
    refine loop_by (X := Nat × Nat × List Int) (fun x => ⟨S [(27, .v (.int .i64 x.1)), (26, .v (.int .i64 k)), (10, .v (.int .i64 x.2.1)), (12, .sl (some 12) 1 (ints .i64 x.2.2)), (0, .sl none 1 (bytesC b)), (2, .v (.func (.func 24) #[] #[]))], B [], O [(12, some (ints .i64 x.2.2).length)]⟩)
      (fun x => x.1 ≤ k ∧ x.2.1 ≤ b.length ∧ x.2.2.length = x.1 ∧ dList 1 dI b = fin x.2.2 x.2.1 (dLoop dI (k - x.1) (b.drop x.2.1))) (fun x => k - x.1) (0, u, []) ⟨by omega, by dsimp only; omega, rfl, by simpa using hD⟩ ?_ ?_
    · refine stLe_mk ?_ ?_ ?_ <;> simp only [forall_mem_cons', forall_mem_nil', lk_hit, lk_miss, Nat.reduceBEq, AVle_refl, AVle_bot, AVle_untag, none_or_some, Option.some.injEq, and_true, true_and, length_bytesC, length_ints, length_strs, List.length_append, List.length_cons, List.length_nil, ints_nil, strs_nil]
      all_goals simp [AVle_refl]
    · rintro ⟨i, pos, acc⟩ ⟨h1, h2, h3, h4⟩
      simp only at h1 h2 h3 h4
      simp only [zz0, zz1, zz2, zz3, zz4, zz5, zz6, zz7, zz8, zz9, zz10, zz11, zz12, zz13, zz14, gateAt, noAssign, resKeys, killAll, siteDsts, isSite, refs, killL, killAV, st0, number, ev, exSl, bnd, bndOK, cellsAV, plain, ofCV, argsOf, argOf, srcOf, partsV, fillC, repeatL, resOf, binV, shV, intV, isShift, strV, unV, ares, ares1, isNilSl, reduceCtorEq, Nat.reduceBEq, Nat.reduceAdd, Nat.reduceSub, Nat.reduceMul, Nat.reduceLT, Nat.reduceLeDiff, Nat.reduceDiv, Nat.reduceEqDiff, Int.reduceToNat, CV.one, Value.oneCell', Int.reduceLT, Int.reduceLE, Int.reduceNeg, Int.reduceEq, GV, H0, F0, putL, Int.reduceBEq, Int.reduceBNe]
      refine cond_dec (fun hc => ?_) (fun hc => ?_)
      · simp only [zz0, zz1, zz2, zz3, zz4, zz5, zz6, zz7, zz8, zz9, zz10, zz11, zz12, zz13, zz14, gateAt, noAssign, resKeys, killAll, siteDsts, isSite, refs, killL, killAV, st0, number, ev, exSl, bnd, bndOK, cellsAV, plain, ofCV, argsOf, argOf, srcOf, partsV, fillC, repeatL, resOf, binV, shV, intV, isShift, strV, unV, ares, ares1, isNilSl, reduceCtorEq, Nat.reduceBEq, Nat.reduceAdd, Nat.reduceSub, Nat.reduceMul, Nat.reduceLT, Nat.reduceLeDiff, Nat.reduceDiv, Nat.reduceEqDiff, Int.reduceToNat, CV.one, Value.oneCell', Int.reduceLT, Int.reduceLE, Int.reduceNeg, Int.reduceEq, GV, H0, F0, putL, Int.reduceBEq, Int.reduceBNe, eq_true h2]
        refine call_by (spec_GetInt (b.drop pos) (by rw [List.length_drop]; omega)) ?_
        have hx := dI_facts' (b.drop pos)
        obtain ⟨q, hq⟩ : ∃ q, k - i = q + 1 := ⟨k - i - 1, by omega⟩
        have hq' : k - (i + 1) = q := by omega
        rw [hq] at h4
        by_cases hb0 : (dI (b.drop pos)).2.2 = 0
        · rw [fin_step hb0, List.drop_drop] at h4
          rw [List.length_drop] at hx
          generalize dI (b.drop pos) = y at *
          obtain ⟨y, m, e⟩ := y
          simp only at hb0 h4 hx
          subst hb0
          have wp : IntKind.i64.wrap ((pos : Int) + (m : Int)) = ((pos + m : Nat) : Int) := by rw [i64_wrap (by omega) (by omega)]; omega
          simp only [zz0, zz1, zz2, zz3, zz4, zz5, zz6, zz7, zz8, zz9, zz10, zz11, zz12, zz13, zz14, gateAt, noAssign, resKeys, killAll, siteDsts, isSite, refs, killL, killAV, st0, number, ev, exSl, bnd, bndOK, cellsAV, plain, ofCV, argsOf, argOf, srcOf, partsV, fillC, repeatL, resOf, binV, shV, intV, isShift, strV, unV, ares, ares1, isNilSl, reduceCtorEq, Nat.reduceBEq, Nat.reduceAdd, Nat.reduceSub, Nat.reduceMul, Nat.reduceLT, Nat.reduceLeDiff, Nat.reduceDiv, Nat.reduceEqDiff, Int.reduceToNat, CV.one, Value.oneCell', Int.reduceLT, Int.reduceLE, Int.reduceNeg, Int.reduceEq, GV, H0, F0, putL, Int.reduceBEq, Int.reduceBNe, tI, wp, i64_nat (show i < 9223372036854775807 by omega)]
          refine ⟨by omega, by omega, (i + 1, pos + m, acc ++ [y]), ⟨by dsimp only; omega, by dsimp only; omega, by simp [h3], ?_⟩, by dsimp only; omega, ?_⟩
          · simpa [hq'] using h4
          · refine stLe_mk ?_ ?_ ?_ <;> simp only [forall_mem_cons', forall_mem_nil', lk_hit, lk_miss, Nat.reduceBEq, AVle_refl, AVle_bot, AVle_untag, none_or_some, Option.some.injEq, and_true, true_and, length_bytesC, length_ints, length_strs, List.length_append, List.length_cons, List.length_nil, ints_append, strs_append]
            all_goals simp [AVle_refl, ints, strs]
        · rw [fin_bad hb0] at h4
          have e0 : (((dI (b.drop pos)).2.2 : Int) != 0) = true := by simp [hb0]
          simp only [zz0, zz1, zz2, zz3, zz4, zz5, zz6, zz7, zz8, zz9, zz10, zz11, zz12, zz13, zz14, gateAt, noAssign, resKeys, killAll, siteDsts, isSite, refs, killL, killAV, st0, number, ev, exSl, bnd, bndOK, cellsAV, plain, ofCV, argsOf, argOf, srcOf, partsV, fillC, repeatL, resOf, binV, shV, intV, isShift, strV, unV, ares, ares1, isNilSl, reduceCtorEq, Nat.reduceBEq, Nat.reduceAdd, Nat.reduceSub, Nat.reduceMul, Nat.reduceLT, Nat.reduceLeDiff, Nat.reduceDiv, Nat.reduceEqDiff, Int.reduceToNat, CV.one, Value.oneCell', Int.reduceLT, Int.reduceLE, Int.reduceNeg, Int.reduceEq, GV, H0, F0, putL, Int.reduceBEq, Int.reduceBNe, tI, e0]
          rw [h4]
          exact ⟨_, ⟨_, rfl⟩, rfl⟩
      · obtain rfl : i = k := by omega
        rw [Nat.sub_self, fin_done] at h4
        simp only [zz0, zz1, zz2, zz3, zz4, zz5, zz6, zz7, zz8, zz9, zz10, zz11, zz12, zz13, zz14, gateAt, noAssign, resKeys, killAll, siteDsts, isSite, refs, killL, killAV, st0, number, ev, exSl, bnd, bndOK, cellsAV, plain, ofCV, argsOf, argOf, srcOf, partsV, fillC, repeatL, resOf, binV, shV, intV, isShift, strV, unV, ares, ares1, isNilSl, reduceCtorEq, Nat.reduceBEq, Nat.reduceAdd, Nat.reduceSub, Nat.reduceMul, Nat.reduceLT, Nat.reduceLeDiff, Nat.reduceDiv, Nat.reduceEqDiff, Int.reduceToNat, CV.one, Value.oneCell', Int.reduceLT, Int.reduceLE, Int.reduceNeg, Int.reduceEq, GV, H0, F0, putL, Int.reduceBEq, Int.reduceBNe, h4]
        exact ⟨_, ⟨_, rfl⟩, rfl⟩
  · rw [if_pos he] at hD
    have e0 : ((e : Int) != 0) = true := by simp [he]
    simp only [zz0, zz1, zz2, zz3, zz4, zz5, zz6, zz7, zz8, zz9, zz10, zz11, zz12, zz13, zz14, gateAt, noAssign, resKeys, killAll, siteDsts, isSite, refs, killL, killAV, st0, number, ev, exSl, bnd, bndOK, cellsAV, plain, ofCV, argsOf, argOf, srcOf, partsV, fillC, repeatL, resOf, binV, shV, intV, isShift, strV, unV, ares, ares1, isNilSl, reduceCtorEq, Nat.reduceBEq, Nat.reduceAdd, Nat.reduceSub, Nat.reduceMul, Nat.reduceLT, Nat.reduceLeDiff, Nat.reduceDiv, Nat.reduceEqDiff, Int.reduceToNat, CV.one, Value.oneCell', Int.reduceLT, Int.reduceLE, Int.reduceNeg, Int.reduceEq, GV, H0, F0, putL, Int.reduceBEq, Int.reduceBNe, tI, e0, hD, tLI, ints_nil, strs_nil]
theorem spec_getS (b : List UInt8) (hb : b.length ≤ 1000000000) : SP 45 [.sl none 1 (bytesC b), .v (.int .i64 1), .v (.func (.func 26) #[] #[])] (tLS (dList 1 dS b)) := by
  refine spec_fn (H := H0) (F := F0) Try.func45 rfl Try.ntmps45 Try.results45 (by kernel_rfl) rfl (by simp) ?_
  simp only [zz0, zz1, zz2, zz3, zz4, zz5, zz6, zz7, zz8, zz9, zz10, zz11, zz12, zz13, zz14, gateAt, noAssign, resKeys, killAll, siteDsts, isSite, refs, killL, killAV, st0, number, ev, exSl, bnd, bndOK, cellsAV, plain, ofCV, argsOf, argOf, srcOf, partsV, fillC, repeatL, resOf, binV, shV, intV, isShift, strV, unV, ares, ares1, isNilSl, reduceCtorEq, Nat.reduceBEq, Nat.reduceAdd, Nat.reduceSub, Nat.reduceMul, Nat.reduceLT, Nat.reduceLeDiff, Nat.reduceDiv, Nat.reduceEqDiff, Int.reduceToNat, CV.one, Value.oneCell', Int.reduceLT, Int.reduceLE, Int.reduceNeg, Int.reduceEq, GV, H0, F0, putL, Int.reduceBEq, Int.reduceBNe]
  refine call_by (spec_length b hb 1 (by omega) (by omega)) ?_
  have hf := dLen_facts 1 b
  have hD : dList 1 dS b = if (dLen 1 b).2.2 ≠ 0 then ([], 0, (dLen 1 b).2.2) else fin [] (dLen 1 b).2.1 (dLoop dS (dLen 1 b).1.toNat (b.drop (dLen 1 b).2.1)) := rfl
  generalize dLen 1 b = r at *
  obtain ⟨n, u, e⟩ := r
  simp only at hf hD
  by_cases he : e = 0
  · subst he
    rw [if_neg (by simp)] at hD
    obtain ⟨k, rfl⟩ : ∃ k : Nat, n = k := ⟨n.toNat, by omega⟩
    have hk : k ≤ b.length - u := by have := hf.2.1; rw [Nat.div_one] at this; omega
    simp only [zz0, zz1, zz2, zz3, zz4, zz5, zz6, zz7, zz8, zz9, zz10, zz11, zz12, zz13, zz14, gateAt, noAssign, resKeys, killAll, siteDsts, isSite, refs, killL, killAV, st0, number, ev, exSl, bnd, bndOK, cellsAV, plain, ofCV, argsOf, argOf, srcOf, partsV, fillC, repeatL, resOf, binV, shV, intV, isShift, strV, unV, ares, ares1, isNilSl, reduceCtorEq, Nat.reduceBEq, Nat.reduceAdd, Nat.reduceSub, Nat.reduceMul, Nat.reduceLT, Nat.reduceLeDiff, Nat.reduceDiv, Nat.reduceEqDiff, Int.reduceToNat, CV.one, Value.oneCell', Int.reduceLT, Int.reduceLE, Int.reduceNeg, Int.reduceEq, GV, H0, F0, putL, Int.reduceBEq, Int.reduceBNe, tI]
    refine loop_by (X := Nat × Nat × List ByteArray) (fun x => ⟨S [(27, .v (.int .i64 x.1)), (26, .v (.int .i64 k)), (10, .v (.int .i64 x.2.1)), (12, .sl (some 12) 1 (strs x.2.2)), (0, .sl none 1 (bytesC b)), (2, .v (.func (.func 26) #[] #[]))], B [], O [(12, some (strs x.2.2).length)]⟩)
      (fun x => x.1 ≤ k ∧ x.2.1 ≤ b.length ∧ x.2.2.length = x.1 ∧ dList 1 dS b = fin x.2.2 x.2.1 (dLoop dS (k - x.1) (b.drop x.2.1))) (fun x => k - x.1) (0, u, []) ⟨by omega, by dsimp only; omega, rfl, by simpa using hD⟩ ?_ ?_
    · refine stLe_mk ?_ ?_ ?_ <;> simp only [forall_mem_cons', forall_mem_nil', lk_hit, lk_miss, Nat.reduceBEq, AVle_refl, AVle_bot, AVle_untag, none_or_some, Option.some.injEq, and_true, true_and, length_bytesC, length_ints, length_strs, List.length_append, List.length_cons, List.length_nil, ints_nil, strs_nil]
      all_goals simp [AVle_refl]
    · rintro ⟨i, pos, acc⟩ ⟨h1, h2, h3, h4⟩
      simp only at h1 h2 h3 h4
      simp only [zz0, zz1, zz2, zz3, zz4, zz5, zz6, zz7, zz8, zz9, zz10, zz11, zz12, zz13, zz14, gateAt, noAssign, resKeys, killAll, siteDsts, isSite, refs, killL, killAV, st0, number, ev, exSl, bnd, bndOK, cellsAV, plain, ofCV, argsOf, argOf, srcOf, partsV, fillC, repeatL, resOf, binV, shV, intV, isShift, strV, unV, ares, ares1, isNilSl, reduceCtorEq, Nat.reduceBEq, Nat.reduceAdd, Nat.reduceSub, Nat.reduceMul, Nat.reduceLT, Nat.reduceLeDiff, Nat.reduceDiv, Nat.reduceEqDiff, Int.reduceToNat, CV.one, Value.oneCell', Int.reduceLT, Int.reduceLE, Int.reduceNeg, Int.reduceEq, GV, H0, F0, putL, Int.reduceBEq, Int.reduceBNe]
      refine cond_dec (fun hc => ?_) (fun hc => ?_)
      · simp only [zz0, zz1, zz2, zz3, zz4, zz5, zz6, zz7, zz8, zz9, zz10, zz11, zz12, zz13, zz14, gateAt, noAssign, resKeys, killAll, siteDsts, isSite, refs, killL, killAV, st0, number, ev, exSl, bnd, bndOK, cellsAV, plain, ofCV, argsOf, argOf, srcOf, partsV, fillC, repeatL, resOf, binV, shV, intV, isShift, strV, unV, ares, ares1, isNilSl, reduceCtorEq, Nat.reduceBEq, Nat.reduceAdd, Nat.reduceSub, Nat.reduceMul, Nat.reduceLT, Nat.reduceLeDiff, Nat.reduceDiv, Nat.reduceEqDiff, Int.reduceToNat, CV.one, Value.oneCell', Int.reduceLT, Int.reduceLE, Int.reduceNeg, Int.reduceEq, GV, H0, F0, putL, Int.reduceBEq, Int.reduceBNe, eq_true h2]
        refine call_by (spec_GetBytes' (b.drop pos) (by rw [List.length_drop]; omega)) ?_
        have hx := dS_facts (b.drop pos)
        obtain ⟨q, hq⟩ : ∃ q, k - i = q + 1 := ⟨k - i - 1, by omega⟩
        have hq' : k - (i + 1) = q := by omega
        rw [hq] at h4
        by_cases hb0 : (dS (b.drop pos)).2.2 = 0
        · rw [fin_step hb0, List.drop_drop] at h4
          rw [List.length_drop] at hx
          generalize dS (b.drop pos) = y at *
          obtain ⟨y, m, e⟩ := y
          simp only at hb0 h4 hx
          subst hb0
          have wp : IntKind.i64.wrap ((pos : Int) + (m : Int)) = ((pos + m : Nat) : Int) := by rw [i64_wrap (by omega) (by omega)]; omega
          simp only [zz0, zz1, zz2, zz3, zz4, zz5, zz6, zz7, zz8, zz9, zz10, zz11, zz12, zz13, zz14, gateAt, noAssign, resKeys, killAll, siteDsts, isSite, refs, killL, killAV, st0, number, ev, exSl, bnd, bndOK, cellsAV, plain, ofCV, argsOf, argOf, srcOf, partsV, fillC, repeatL, resOf, binV, shV, intV, isShift, strV, unV, ares, ares1, isNilSl, reduceCtorEq, Nat.reduceBEq, Nat.reduceAdd, Nat.reduceSub, Nat.reduceMul, Nat.reduceLT, Nat.reduceLeDiff, Nat.reduceDiv, Nat.reduceEqDiff, Int.reduceToNat, CV.one, Value.oneCell', Int.reduceLT, Int.reduceLE, Int.reduceNeg, Int.reduceEq, GV, H0, F0, putL, Int.reduceBEq, Int.reduceBNe, tS, wp, i64_nat (show i < 9223372036854775807 by omega)]
          refine ⟨by omega, by omega, (i + 1, pos + m, acc ++ [y]), ⟨by dsimp only; omega, by dsimp only; omega, by simp [h3], ?_⟩, by dsimp only; omega, ?_⟩
          · simpa [hq'] using h4
          · refine stLe_mk ?_ ?_ ?_ <;> simp only [forall_mem_cons', forall_mem_nil', lk_hit, lk_miss, Nat.reduceBEq, AVle_refl, AVle_bot, AVle_untag, none_or_some, Option.some.injEq, and_true, true_and, length_bytesC, length_ints, length_strs, List.length_append, List.length_cons, List.length_nil, ints_append, strs_append]
            all_goals simp [AVle_refl, ints, strs]
        · rw [fin_bad hb0] at h4
          have e0 : (((dS (b.drop pos)).2.2 : Int) != 0) = true := by simp [hb0]
          simp only [zz0, zz1, zz2, zz3, zz4, zz5, zz6, zz7, zz8, zz9, zz10, zz11, zz12, zz13, zz14, gateAt, noAssign, resKeys, killAll, siteDsts, isSite, refs, killL, killAV, st0, number, ev, exSl, bnd, bndOK, cellsAV, plain, ofCV, argsOf, argOf, srcOf, partsV, fillC, repeatL, resOf, binV, shV, intV, isShift, strV, unV, ares, ares1, isNilSl, reduceCtorEq, Nat.reduceBEq, Nat.reduceAdd, Nat.reduceSub, Nat.reduceMul, Nat.reduceLT, Nat.reduceLeDiff, Nat.reduceDiv, Nat.reduceEqDiff, Int.reduceToNat, CV.one, Value.oneCell', Int.reduceLT, Int.reduceLE, Int.reduceNeg, Int.reduceEq, GV, H0, F0, putL, Int.reduceBEq, Int.reduceBNe, tS, e0]
          rw [h4]
          exact ⟨_, ⟨_, rfl⟩, rfl⟩
      · obtain rfl : i = k := by omega
        rw [Nat.sub_self, fin_done] at h4
        simp only [zz0, zz1, zz2, zz3, zz4, zz5, zz6, zz7, zz8, zz9, zz10, zz11, zz12, zz13, zz14, gateAt, noAssign, resKeys, killAll, siteDsts, isSite, refs, killL, killAV, st0, number, ev, exSl, bnd, bndOK, cellsAV, plain, ofCV, argsOf, argOf, srcOf, partsV, fillC, repeatL, resOf, binV, shV, intV, isShift, strV, unV, ares, ares1, isNilSl, reduceCtorEq, Nat.reduceBEq, Nat.reduceAdd, Nat.reduceSub, Nat.reduceMul, Nat.reduceLT, Nat.reduceLeDiff, Nat.reduceDiv, Nat.reduceEqDiff, Int.reduceToNat, CV.one, Value.oneCell', Int.reduceLT, Int.reduceLE, Int.reduceNeg, Int.reduceEq, GV, H0, F0, putL, Int.reduceBEq, Int.reduceBNe, h4]
        exact ⟨_, ⟨_, rfl⟩, rfl⟩
  · rw [if_pos he] at hD
    have e0 : ((e : Int) != 0) = true := by simp [he]
    simp only [zz0, zz1, zz2, zz3, zz4, zz5, zz6, zz7, zz8, zz9, zz10, zz11, zz12, zz13, zz14, gateAt, noAssign, resKeys, killAll, siteDsts, isSite, refs, killL, killAV, st0, number, ev, exSl, bnd, bndOK, cellsAV, plain, ofCV, argsOf, argOf, srcOf, partsV, fillC, repeatL, resOf, binV, shV, intV, isShift, strV, unV, ares, ares1, isNilSl, reduceCtorEq, Nat.reduceBEq, Nat.reduceAdd, Nat.reduceSub, Nat.reduceMul, Nat.reduceLT, Nat.reduceLeDiff, Nat.reduceDiv, Nat.reduceEqDiff, Int.reduceToNat, CV.one, Value.oneCell', Int.reduceLT, Int.reduceLE, Int.reduceNeg, Int.reduceEq, GV, H0, F0, putL, Int.reduceBEq, Int.reduceBNe, tI, e0, hD, tLS, ints_nil, strs_nil]
theorem spec_RGetInts (b : List UInt8) (hb : b.length ≤ 1000000000) : SP 29 [.sl none 1 (bytesC b)] (tLI (dList 1 dI b)) := by
  refine spec_fn (H := H0) (F := F0) Try.func29 rfl Try.ntmps29 Try.results29 (by kernel_rfl) rfl (by simp) ?_
  simp only [zz0, zz1, zz2, zz3, zz4, zz5, zz6, zz7, zz8, zz9, zz10, zz11, zz12, zz13, zz14, gateAt, noAssign, resKeys, killAll, siteDsts, isSite, refs, killL, killAV, st0, number, ev, exSl, bnd, bndOK, cellsAV, plain, ofCV, argsOf, argOf, srcOf, partsV, fillC, repeatL, resOf, binV, shV, intV, isShift, strV, unV, ares, ares1, isNilSl, reduceCtorEq, Nat.reduceBEq, Nat.reduceAdd, Nat.reduceSub, Nat.reduceMul, Nat.reduceLT, Nat.reduceLeDiff, Nat.reduceDiv, Nat.reduceEqDiff, Int.reduceToNat, CV.one, Value.oneCell', Int.reduceLT, Int.reduceLE, Int.reduceNeg, Int.reduceEq, GV, H0, F0, putL, Int.reduceBEq, Int.reduceBNe]
  refine call_by (spec_Rlength b hb 1 (by omega) (by omega)) ?_
  have hf := dLen_facts 1 b
  have hD : dList 1 dI b = if (dLen 1 b).2.2 ≠ 0 then ([], 0, (dLen 1 b).2.2) else fin [] (dLen 1 b).2.1 (dLoop dI (dLen 1 b).1.toNat (b.drop (dLen 1 b).2.1)) := rfl
  generalize dLen 1 b = r at *
  obtain ⟨n, u, e⟩ := r
  simp only at hf hD
  by_cases he : e = 0
  · subst he
    rw [if_neg (by simp)] at hD
    obtain ⟨k, rfl⟩ : ∃ k : Nat, n = k := ⟨n.toNat, by omega⟩
    have hk : k ≤ b.length - u := by have := hf.2.1; rw [Nat.div_one] at this; omega
    simp only [zz0, zz1, zz2, zz3, zz4, zz5, zz6, zz7, zz8, zz9, zz10, zz11, zz12, zz13, zz14, gateAt, noAssign, resKeys, killAll, siteDsts, isSite, refs, killL, killAV, st0, number, ev, exSl, bnd, bndOK, cellsAV, plain, ofCV, argsOf, argOf, srcOf, partsV, fillC, repeatL, resOf, binV, shV, intV, isShift, strV, unV, ares, ares1, isNilSl, reduceCtorEq, Nat.reduceBEq, Nat.reduceAdd, Nat.reduceSub, Nat.reduceMul, Nat.reduceLT, Nat.reduceLeDiff, Nat.reduceDiv, Nat.reduceEqDiff, Int.reduceToNat, CV.one, Value.oneCell', Int.reduceLT, Int.reduceLE, Int.reduceNeg, Int.reduceEq, GV, H0, F0, putL, Int.reduceBEq, Int.reduceBNe, tI]
    refine loop_by (X := Nat × Nat × List Int) (fun x => ⟨S [(9, .v (.int .i64 x.1)), (5, .v (.int .i64 k)), (6, .v (.int .i64 x.2.1)), (8, .sl (some 8) 1 (ints .i64 x.2.2)), (0, .sl none 1 (bytesC b))], B [], O [(8, some (ints .i64 x.2.2).length)]⟩)
      (fun x => x.1 ≤ k ∧ x.2.1 ≤ b.length ∧ x.2.2.length = x.1 ∧ dList 1 dI b = fin x.2.2 x.2.1 (dLoop dI (k - x.1) (b.drop x.2.1))) (fun x => k - x.1) (0, u, []) ⟨by omega, by dsimp only; omega, rfl, by simpa using hD⟩ ?_ ?_
    · refine stLe_mk ?_ ?_ ?_ <;> simp only [forall_mem_cons', forall_mem_nil', lk_hit, lk_miss, Nat.reduceBEq, AVle_refl, AVle_bot, AVle_untag, none_or_some, Option.some.injEq, and_true, true_and, length_bytesC, length_ints, length_strs, List.length_append, List.length_cons, List.length_nil, ints_nil, strs_nil]
      all_goals simp [AVle_refl]
    · rintro ⟨i, pos, acc⟩ ⟨h1, h2, h3, h4⟩
      simp only at h1 h2 h3 h4
      simp only [zz0, zz1, zz2, zz3, zz4, zz5, zz6, zz7, zz8, zz9, zz10, zz11, zz12, zz13, zz14, gateAt, noAssign, resKeys, killAll, siteDsts, isSite, refs, killL, killAV, st0, number, ev, exSl, bnd, bndOK, cellsAV, plain, ofCV, argsOf, argOf, srcOf, partsV, fillC, repeatL, resOf, binV, shV, intV, isShift, strV, unV, ares, ares1, isNilSl, reduceCtorEq, Nat.reduceBEq, Nat.reduceAdd, Nat.reduceSub, Nat.reduceMul, Nat.reduceLT, Nat.reduceLeDiff, Nat.reduceDiv, Nat.reduceEqDiff, Int.reduceToNat, CV.one, Value.oneCell', Int.reduceLT, Int.reduceLE, Int.reduceNeg, Int.reduceEq, GV, H0, F0, putL, Int.reduceBEq, Int.reduceBNe]
      refine cond_dec (fun hc => ?_) (fun hc => ?_)
      · simp only [zz0, zz1, zz2, zz3, zz4, zz5, zz6, zz7, zz8, zz9, zz10, zz11, zz12, zz13, zz14, gateAt, noAssign, resKeys, killAll, siteDsts, isSite, refs, killL, killAV, st0, number, ev, exSl, bnd, bndOK, cellsAV, plain, ofCV, argsOf, argOf, srcOf, partsV, fillC, repeatL, resOf, binV, shV, intV, isShift, strV, unV, ares, ares1, isNilSl, reduceCtorEq, Nat.reduceBEq, Nat.reduceAdd, Nat.reduceSub, Nat.reduceMul, Nat.reduceLT, Nat.reduceLeDiff, Nat.reduceDiv, Nat.reduceEqDiff, Int.reduceToNat, CV.one, Value.oneCell', Int.reduceLT, Int.reduceLE, Int.reduceNeg, Int.reduceEq, GV, H0, F0, putL, Int.reduceBEq, Int.reduceBNe, eq_true h2]
        refine call_by (spec_RGetInt (b.drop pos) (by rw [List.length_drop]; omega)) ?_
        have hx := dI_facts' (b.drop pos)
        obtain ⟨q, hq⟩ : ∃ q, k - i = q + 1 := ⟨k - i - 1, by omega⟩
        have hq' : k - (i + 1) = q := by omega
        rw [hq] at h4
        by_cases hb0 : (dI (b.drop pos)).2.2 = 0
        · rw [fin_step hb0, List.drop_drop] at h4
          rw [List.length_drop] at hx
          generalize dI (b.drop pos) = y at *
          obtain ⟨y, m, e⟩ := y
          simp only at hb0 h4 hx
          subst hb0
          have wp : IntKind.i64.wrap ((pos : Int) + (m : Int)) = ((pos + m : Nat) : Int) := by rw [i64_wrap (by omega) (by omega)]; omega
          simp only [zz0, zz1, zz2, zz3, zz4, zz5, zz6, zz7, zz8, zz9, zz10, zz11, zz12, zz13, zz14, gateAt, noAssign, resKeys, killAll, siteDsts, isSite, refs, killL, killAV, st0, number, ev, exSl, bnd, bndOK, cellsAV, plain, ofCV, argsOf, argOf, srcOf, partsV, fillC, repeatL, resOf, binV, shV, intV, isShift, strV, unV, ares, ares1, isNilSl, reduceCtorEq, Nat.reduceBEq, Nat.reduceAdd, Nat.reduceSub, Nat.reduceMul, Nat.reduceLT, Nat.reduceLeDiff, Nat.reduceDiv, Nat.reduceEqDiff, Int.reduceToNat, CV.one, Value.oneCell', Int.reduceLT, Int.reduceLE, Int.reduceNeg, Int.reduceEq, GV, H0, F0, putL, Int.reduceBEq, Int.reduceBNe, tI, wp, i64_nat (show i < 9223372036854775807 by omega)]
          refine ⟨by omega, by omega, (i + 1, pos + m, acc ++ [y]), ⟨by dsimp only; omega, by dsimp only; omega, by simp [h3], ?_⟩, by dsimp only; omega, ?_⟩
          · simpa [hq'] using h4
          · refine stLe_mk ?_ ?_ ?_ <;> simp only [forall_mem_cons', forall_mem_nil', lk_hit, lk_miss, Nat.reduceBEq, AVle_refl, AVle_bot, AVle_untag, none_or_some, Option.some.injEq, and_true, true_and, length_bytesC, length_ints, length_strs, List.length_append, List.length_cons, List.length_nil, ints_append, strs_append]
            all_goals simp [AVle_refl, ints, strs]
        · rw [fin_bad hb0] at h4
          have e0 : (((dI (b.drop pos)).2.2 : Int) != 0) = true := by simp [hb0]
          simp only [zz0, zz1, zz2, zz3, zz4, zz5, zz6, zz7, zz8, zz9, zz10, zz11, zz12, zz13, zz14, gateAt, noAssign, resKeys, killAll, siteDsts, isSite, refs, killL, killAV, st0, number, ev, exSl, bnd, bndOK, cellsAV, plain, ofCV, argsOf, argOf, srcOf, partsV, fillC, repeatL, resOf, binV, shV, intV, isShift, strV, unV, ares, ares1, isNilSl, reduceCtorEq, Nat.reduceBEq, Nat.reduceAdd, Nat.reduceSub, Nat.reduceMul, Nat.reduceLT, Nat.reduceLeDiff, Nat.reduceDiv, Nat.reduceEqDiff, Int.reduceToNat, CV.one, Value.oneCell', Int.reduceLT, Int.reduceLE, Int.reduceNeg, Int.reduceEq, GV, H0, F0, putL, Int.reduceBEq, Int.reduceBNe, tI, e0]
          rw [h4]
          exact ⟨_, ⟨_, rfl⟩, rfl⟩
      · obtain rfl : i = k := by omega
        rw [Nat.sub_self, fin_done] at h4
        simp only [zz0, zz1, zz2, zz3, zz4, zz5, zz6, zz7, zz8, zz9, zz10, zz11, zz12, zz13, zz14, gateAt, noAssign, resKeys, killAll, siteDsts, isSite, refs, killL, killAV, st0, number, ev, exSl, bnd, bndOK, cellsAV, plain, ofCV, argsOf, argOf, srcOf, partsV, fillC, repeatL, resOf, binV, shV, intV, isShift, strV, unV, ares, ares1, isNilSl, reduceCtorEq, Nat.reduceBEq, Nat.reduceAdd, Nat.reduceSub, Nat.reduceMul, Nat.reduceLT, Nat.reduceLeDiff, Nat.reduceDiv, Nat.reduceEqDiff, Int.reduceToNat, CV.one, Value.oneCell', Int.reduceLT, Int.reduceLE, Int.reduceNeg, Int.reduceEq, GV, H0, F0, putL, Int.reduceBEq, Int.reduceBNe, h4]
        exact ⟨_, ⟨_, rfl⟩, rfl⟩
  · rw [if_pos he] at hD
    have e0 : ((e : Int) != 0) = true := by simp [he]
    simp only [zz0, zz1, zz2, zz3, zz4, zz5, zz6, zz7, zz8, zz9, zz10, zz11, zz12, zz13, zz14, gateAt, noAssign, resKeys, killAll, siteDsts, isSite, refs, killL, killAV, st0, number, ev, exSl, bnd, bndOK, cellsAV, plain, ofCV, argsOf, argOf, srcOf, partsV, fillC, repeatL, resOf, binV, shV, intV, isShift, strV, unV, ares, ares1, isNilSl, reduceCtorEq, Nat.reduceBEq, Nat.reduceAdd, Nat.reduceSub, Nat.reduceMul, Nat.reduceLT, Nat.reduceLeDiff, Nat.reduceDiv, Nat.reduceEqDiff, Int.reduceToNat, CV.one, Value.oneCell', Int.reduceLT, Int.reduceLE, Int.reduceNeg, Int.reduceEq, GV, H0, F0, putL, Int.reduceBEq, Int.reduceBNe, tI, e0, hD, tLI, ints_nil, strs_nil]
theorem spec_RGetStrings (b : List UInt8) (hb : b.length ≤ 1000000000) : SP 32 [.sl none 1 (bytesC b)] (tLS (dList 1 dS b)) := by
  refine spec_fn (H := H0) (F := F0) Try.func32 rfl Try.ntmps32 Try.results32 (by kernel_rfl) rfl (by simp) ?_
  simp only [zz0, zz1, zz2, zz3, zz4, zz5, zz6, zz7, zz8, zz9, zz10, zz11, zz12, zz13, zz14, gateAt, noAssign, resKeys, killAll, siteDsts, isSite, refs, killL, killAV, st0, number, ev, exSl, bnd, bndOK, cellsAV, plain, ofCV, argsOf, argOf, srcOf, partsV, fillC, repeatL, resOf, binV, shV, intV, isShift, strV, unV, ares, ares1, isNilSl, reduceCtorEq, Nat.reduceBEq, Nat.reduceAdd, Nat.reduceSub, Nat.reduceMul, Nat.reduceLT, Nat.reduceLeDiff, Nat.reduceDiv, Nat.reduceEqDiff, Int.reduceToNat, CV.one, Value.oneCell', Int.reduceLT, Int.reduceLE, Int.reduceNeg, Int.reduceEq, GV, H0, F0, putL, Int.reduceBEq, Int.reduceBNe]
  refine call_by (spec_Rlength b hb 1 (by omega) (by omega)) ?_
  have hf := dLen_facts 1 b
  have hD : dList 1 dS b = if (dLen 1 b).2.2 ≠ 0 then ([], 0, (dLen 1 b).2.2) else fin [] (dLen 1 b).2.1 (dLoop dS (dLen 1 b).1.toNat (b.drop (dLen 1 b).2.1)) := rfl
  generalize dLen 1 b = r at *
  obtain ⟨n, u, e⟩ := r
  simp only at hf hD
  by_cases he : e = 0
  · subst he
    rw [if_neg (by simp)] at hD
    obtain ⟨k, rfl⟩ : ∃ k : Nat, n = k := ⟨n.toNat, by omega⟩
    have hk : k ≤ b.length - u := by have := hf.2.1; rw [Nat.div_one] at this; omega
    simp only [zz0, zz1, zz2, zz3, zz4, zz5, zz6, zz7, zz8, zz9, zz10, zz11, zz12, zz13, zz14, gateAt, noAssign, resKeys, killAll, siteDsts, isSite, refs, killL, killAV, st0, number, ev, exSl, bnd, bndOK, cellsAV, plain, ofCV, argsOf, argOf, srcOf, partsV, fillC, repeatL, resOf, binV, shV, intV, isShift, strV, unV, ares, ares1, isNilSl, reduceCtorEq, Nat.reduceBEq, Nat.reduceAdd, Nat.reduceSub, Nat.reduceMul, Nat.reduceLT, Nat.reduceLeDiff, Nat.reduceDiv, Nat.reduceEqDiff, Int.reduceToNat, CV.one, Value.oneCell', Int.reduceLT, Int.reduceLE, Int.reduceNeg, Int.reduceEq, GV, H0, F0, putL, Int.reduceBEq, Int.reduceBNe, tI]
    refine loop_by (X := Nat × Nat × List ByteArray) (fun x => ⟨S [(9, .v (.int .i64 x.1)), (5, .v (.int .i64 k)), (6, .v (.int .i64 x.2.1)), (8, .sl (some 8) 1 (strs x.2.2)), (0, .sl none 1 (bytesC b))], B [], O [(8, some (strs x.2.2).length)]⟩)
      (fun x => x.1 ≤ k ∧ x.2.1 ≤ b.length ∧ x.2.2.length = x.1 ∧ dList 1 dS b = fin x.2.2 x.2.1 (dLoop dS (k - x.1) (b.drop x.2.1))) (fun x => k - x.1) (0, u, []) ⟨by omega, by dsimp only; omega, rfl, by simpa using hD⟩ ?_ ?_
    · refine stLe_mk ?_ ?_ ?_ <;> simp only [forall_mem_cons', forall_mem_nil', lk_hit, lk_miss, Nat.reduceBEq, AVle_refl, AVle_bot, AVle_untag, none_or_some, Option.some.injEq, and_true, true_and, length_bytesC, length_ints, length_strs, List.length_append, List.length_cons, List.length_nil, ints_nil, strs_nil]
      all_goals simp [AVle_refl]
    · rintro ⟨i, pos, acc⟩ ⟨h1, h2, h3, h4⟩
      simp only at h1 h2 h3 h4
      simp only [zz0, zz1, zz2, zz3, zz4, zz5, zz6, zz7, zz8, zz9, zz10, zz11, zz12, zz13, zz14, gateAt, noAssign, resKeys, killAll, siteDsts, isSite, refs, killL, killAV, st0, number, ev, exSl, bnd, bndOK, cellsAV, plain, ofCV, argsOf, argOf, srcOf, partsV, fillC, repeatL, resOf, binV, shV, intV, isShift, strV, unV, ares, ares1, isNilSl, reduceCtorEq, Nat.reduceBEq, Nat.reduceAdd, Nat.reduceSub, Nat.reduceMul, Nat.reduceLT, Nat.reduceLeDiff, Nat.reduceDiv, Nat.reduceEqDiff, Int.reduceToNat, CV.one, Value.oneCell', Int.reduceLT, Int.reduceLE, Int.reduceNeg, Int.reduceEq, GV, H0, F0, putL, Int.reduceBEq, Int.reduceBNe]
      refine cond_dec (fun hc => ?_) (fun hc => ?_)
      · simp only [zz0, zz1, zz2, zz3, zz4, zz5, zz6, zz7, zz8, zz9, zz10, zz11, zz12, zz13, zz14, gateAt, noAssign, resKeys, killAll, siteDsts, isSite, refs, killL, killAV, st0, number, ev, exSl, bnd, bndOK, cellsAV, plain, ofCV, argsOf, argOf, srcOf, partsV, fillC, repeatL, resOf, binV, shV, intV, isShift, strV, unV, ares, ares1, isNilSl, reduceCtorEq, Nat.reduceBEq, Nat.reduceAdd, Nat.reduceSub, Nat.reduceMul, Nat.reduceLT, Nat.reduceLeDiff, Nat.reduceDiv, Nat.reduceEqDiff, Int.reduceToNat, CV.one, Value.oneCell', Int.reduceLT, Int.reduceLE, Int.reduceNeg, Int.reduceEq, GV, H0, F0, putL, Int.reduceBEq, Int.reduceBNe, eq_true h2]
        refine call_by (spec_RGetBytes' (b.drop pos) (by rw [List.length_drop]; omega)) ?_
        have hx := dS_facts (b.drop pos)
        obtain ⟨q, hq⟩ : ∃ q, k - i = q + 1 := ⟨k - i - 1, by omega⟩
        have hq' : k - (i + 1) = q := by omega
        rw [hq] at h4
        by_cases hb0 : (dS (b.drop pos)).2.2 = 0
        · rw [fin_step hb0, List.drop_drop] at h4
          rw [List.length_drop] at hx
          generalize dS (b.drop pos) = y at *
          obtain ⟨y, m, e⟩ := y
          simp only at hb0 h4 hx
          subst hb0
          have wp : IntKind.i64.wrap ((pos : Int) + (m : Int)) = ((pos + m : Nat) : Int) := by rw [i64_wrap (by omega) (by omega)]; omega
          simp only [zz0, zz1, zz2, zz3, zz4, zz5, zz6, zz7, zz8, zz9, zz10, zz11, zz12, zz13, zz14, gateAt, noAssign, resKeys, killAll, siteDsts, isSite, refs, killL, killAV, st0, number, ev, exSl, bnd, bndOK, cellsAV, plain, ofCV, argsOf, argOf, srcOf, partsV, fillC, repeatL, resOf, binV, shV, intV, isShift, strV, unV, ares, ares1, isNilSl, reduceCtorEq, Nat.reduceBEq, Nat.reduceAdd, Nat.reduceSub, Nat.reduceMul, Nat.reduceLT, Nat.reduceLeDiff, Nat.reduceDiv, Nat.reduceEqDiff, Int.reduceToNat, CV.one, Value.oneCell', Int.reduceLT, Int.reduceLE, Int.reduceNeg, Int.reduceEq, GV, H0, F0, putL, Int.reduceBEq, Int.reduceBNe, tS, wp, i64_nat (show i < 9223372036854775807 by omega)]
          refine ⟨by omega, by omega, (i + 1, pos + m, acc ++ [y]), ⟨by dsimp only; omega, by dsimp only; omega, by simp [h3], ?_⟩, by dsimp only; omega, ?_⟩
          · simpa [hq'] using h4
          · refine stLe_mk ?_ ?_ ?_ <;> simp only [forall_mem_cons', forall_mem_nil', lk_hit, lk_miss, Nat.reduceBEq, AVle_refl, AVle_bot, AVle_untag, none_or_some, Option.some.injEq, and_true, true_and, length_bytesC, length_ints, length_strs, List.length_append, List.length_cons, List.length_nil, ints_append, strs_append]
            all_goals simp [AVle_refl, ints, strs]
        · rw [fin_bad hb0] at h4
          have e0 : (((dS (b.drop pos)).2.2 : Int) != 0) = true := by simp [hb0]
          simp only [zz0, zz1, zz2, zz3, zz4, zz5, zz6, zz7, zz8, zz9, zz10, zz11, zz12, zz13, zz14, gateAt, noAssign, resKeys, killAll, siteDsts, isSite, refs, killL, killAV, st0, number, ev, exSl, bnd, bndOK, cellsAV, plain, ofCV, argsOf, argOf, srcOf, partsV, fillC, repeatL, resOf, binV, shV, intV, isShift, strV, unV, ares, ares1, isNilSl, reduceCtorEq, Nat.reduceBEq, Nat.reduceAdd, Nat.reduceSub, Nat.reduceMul, Nat.reduceLT, Nat.reduceLeDiff, Nat.reduceDiv, Nat.reduceEqDiff, Int.reduceToNat, CV.one, Value.oneCell', Int.reduceLT, Int.reduceLE, Int.reduceNeg, Int.reduceEq, GV, H0, F0, putL, Int.reduceBEq, Int.reduceBNe, tS, e0]
          rw [h4]
          exact ⟨_, ⟨_, rfl⟩, rfl⟩
      · obtain rfl : i = k := by omega
        rw [Nat.sub_self, fin_done] at h4
        simp only [zz0, zz1, zz2, zz3, zz4, zz5, zz6, zz7, zz8, zz9, zz10, zz11, zz12, zz13, zz14, gateAt, noAssign, resKeys, killAll, siteDsts, isSite, refs, killL, killAV, st0, number, ev, exSl, bnd, bndOK, cellsAV, plain, ofCV, argsOf, argOf, srcOf, partsV, fillC, repeatL, resOf, binV, shV, intV, isShift, strV, unV, ares, ares1, isNilSl, reduceCtorEq, Nat.reduceBEq, Nat.reduceAdd, Nat.reduceSub, Nat.reduceMul, Nat.reduceLT, Nat.reduceLeDiff, Nat.reduceDiv, Nat.reduceEqDiff, Int.reduceToNat, CV.one, Value.oneCell', Int.reduceLT, Int.reduceLE, Int.reduceNeg, Int.reduceEq, GV, H0, F0, putL, Int.reduceBEq, Int.reduceBNe, h4]
        exact ⟨_, ⟨_, rfl⟩, rfl⟩
  · rw [if_pos he] at hD
    have e0 : ((e : Int) != 0) = true := by simp [he]
    simp only [zz0, zz1, zz2, zz3, zz4, zz5, zz6, zz7, zz8, zz9, zz10, zz11, zz12, zz13, zz14, gateAt, noAssign, resKeys, killAll, siteDsts, isSite, refs, killL, killAV, st0, number, ev, exSl, bnd, bndOK, cellsAV, plain, ofCV, argsOf, argOf, srcOf, partsV, fillC, repeatL, resOf, binV, shV, intV, isShift, strV, unV, ares, ares1, isNilSl, reduceCtorEq, Nat.reduceBEq, Nat.reduceAdd, Nat.reduceSub, Nat.reduceMul, Nat.reduceLT, Nat.reduceLeDiff, Nat.reduceDiv, Nat.reduceEqDiff, Int.reduceToNat, CV.one, Value.oneCell', Int.reduceLT, Int.reduceLE, Int.reduceNeg, Int.reduceEq, GV, H0, F0, putL, Int.reduceBEq, Int.reduceBNe, tI, e0, hD, tLS, ints_nil, strs_nil]
theorem spec_GetInts (b : List UInt8) (hb : b.length ≤ 1000000000) : SP 28 [.sl none 1 (bytesC b)] (tLI (dList 1 dI b)) := by
  refine spec_fn (H := H0) (F := F0) Try.func28 rfl Try.ntmps28 Try.results28 (by kernel_rfl) rfl (by simp) ?_
  simp only [zz0, zz1, zz2, zz3, zz4, zz5, zz6, zz7, zz8, zz9, zz10, zz11, zz12, zz13, zz14, gateAt, noAssign, resKeys, killAll, siteDsts, isSite, refs, killL, killAV, st0, number, ev, exSl, bnd, bndOK, cellsAV, plain, ofCV, argsOf, argOf, srcOf, partsV, fillC, repeatL, resOf, binV, shV, intV, isShift, strV, unV, ares, ares1, isNilSl, reduceCtorEq, Nat.reduceBEq, Nat.reduceAdd, Nat.reduceSub, Nat.reduceMul, Nat.reduceLT, Nat.reduceLeDiff, Nat.reduceDiv, Nat.reduceEqDiff, Int.reduceToNat, CV.one, Value.oneCell', Int.reduceLT, Int.reduceLE, Int.reduceNeg, Int.reduceEq, GV, H0, F0, putL, Int.reduceBEq, Int.reduceBNe]
  refine call_by (spec_getI b hb) ?_
  simp only [zz0, zz1, zz2, zz3, zz4, zz5, zz6, zz7, zz8, zz9, zz10, zz11, zz12, zz13, zz14, gateAt, noAssign, resKeys, killAll, siteDsts, isSite, refs, killL, killAV, st0, number, ev, exSl, bnd, bndOK, cellsAV, plain, ofCV, argsOf, argOf, srcOf, partsV, fillC, repeatL, resOf, binV, shV, intV, isShift, strV, unV, ares, ares1, isNilSl, reduceCtorEq, Nat.reduceBEq, Nat.reduceAdd, Nat.reduceSub, Nat.reduceMul, Nat.reduceLT, Nat.reduceLeDiff, Nat.reduceDiv, Nat.reduceEqDiff, Int.reduceToNat, CV.one, Value.oneCell', Int.reduceLT, Int.reduceLE, Int.reduceNeg, Int.reduceEq, GV, H0, F0, putL, Int.reduceBEq, Int.reduceBNe, tLI]
theorem spec_GetStrings (b : List UInt8) (hb : b.length ≤ 1000000000) : SP 31 [.sl none 1 (bytesC b)] (tLS (dList 1 dS b)) := by
  refine spec_fn (H := H0) (F := F0) Try.func31 rfl Try.ntmps31 Try.results31 (by kernel_rfl) rfl (by simp) ?_
  simp only [zz0, zz1, zz2, zz3, zz4, zz5, zz6, zz7, zz8, zz9, zz10, zz11, zz12, zz13, zz14, gateAt, noAssign, resKeys, killAll, siteDsts, isSite, refs, killL, killAV, st0, number, ev, exSl, bnd, bndOK, cellsAV, plain, ofCV, argsOf, argOf, srcOf, partsV, fillC, repeatL, resOf, binV, shV, intV, isShift, strV, unV, ares, ares1, isNilSl, reduceCtorEq, Nat.reduceBEq, Nat.reduceAdd, Nat.reduceSub, Nat.reduceMul, Nat.reduceLT, Nat.reduceLeDiff, Nat.reduceDiv, Nat.reduceEqDiff, Int.reduceToNat, CV.one, Value.oneCell', Int.reduceLT, Int.reduceLE, Int.reduceNeg, Int.reduceEq, GV, H0, F0, putL, Int.reduceBEq, Int.reduceBNe]
  refine call_by (spec_getS b hb) ?_
  simp only [zz0, zz1, zz2, zz3, zz4, zz5, zz6, zz7, zz8, zz9, zz10, zz11, zz12, zz13, zz14, gateAt, noAssign, resKeys, killAll, siteDsts, isSite, refs, killL, killAV, st0, number, ev, exSl, bnd, bndOK, cellsAV, plain, ofCV, argsOf, argOf, srcOf, partsV, fillC, repeatL, resOf, binV, shV, intV, isShift, strV, unV, ares, ares1, isNilSl, reduceCtorEq, Nat.reduceBEq, Nat.reduceAdd, Nat.reduceSub, Nat.reduceMul, Nat.reduceLT, Nat.reduceLeDiff, Nat.reduceDiv, Nat.reduceEqDiff, Int.reduceToNat, CV.one, Value.oneCell', Int.reduceLT, Int.reduceLE, Int.reduceNeg, Int.reduceEq, GV, H0, F0, putL, Int.reduceBEq, Int.reduceBNe, tLS]
end Abs
end Go.Proofs.Ytijboooekbdinaa
