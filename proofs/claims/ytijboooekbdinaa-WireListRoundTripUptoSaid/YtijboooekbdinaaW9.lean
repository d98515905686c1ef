/-
  Walks: the decoding of lists of digests.
-/
import Derived.Test.YtijboooekbdinaaW8
namespace Go.Proofs.Ytijboooekbdinaa
namespace Abs
open Go.RowKit Wire
set_option linter.unusedSimpArgs false
set_option linter.unusedVariables false
def dD (b : List UInt8) : List UInt8 × Nat × Nat := (b.take 16, 16, 0)
def tLD (r : List (List UInt8) × Nat × Nat) : AV := .tup (.sl none 16 (bytesC r.1.flatten)) (.int .i64 r.2.1) (.int .i64 r.2.2)
theorem spec_getDigest (b : List UInt8) (h : 16 ≤ b.length) (hb : b.length ≤ 1000000000) : SP 47 [.sl none 1 (bytesC b)] (.tup (.v (aggB (b.take 16))) (.int .i64 16) (.int .i64 0)) := by
  refine spec_fn (H := H0) (F := F0) Try.func47 rfl Try.ntmps47 Try.results47 (by kernel_rfl) rfl (by simp) ?_
  have hl : (b.take 16).length = 16 := by rw [List.length_take]; omega
  have ht : (b.take 16).take 16 = b.take 16 := by rw [List.take_of_length_le (by omega)]
  simp only [zz0, zz1, zz2, zz3, zz4, zz5, zz6, zz7, zz8, zz9, zz10, zz11, zz12, zz13, zz14, gateAt, noAssign, resKeys, killAll, siteDsts, isSite, refs, killL, killAV, st0, number, ev, exSl, bnd, bndOK, cellsAV, plain, ofCV, argsOf, argOf, srcOf, partsV, fillC, repeatL, resOf, binV, shV, intV, isShift, strV, unV, ares, ares1, isNilSl, reduceCtorEq, Nat.reduceBEq, Nat.reduceAdd, Nat.reduceSub, Nat.reduceMul, Nat.reduceLT, Nat.reduceLeDiff, Nat.reduceDiv, Nat.reduceEqDiff, Int.reduceToNat, CV.one, Value.oneCell', Int.reduceLT, Int.reduceLE, Int.reduceNeg, Int.reduceEq, GV, H0, F0, putL, Int.reduceBEq, Int.reduceBNe, hl, ht, h]
  exact ⟨_, plain_bytesC _, by rw [List.length_map]; exact hl, rfl⟩
theorem fill_step {b : List UInt8} {pos j : Nat} (hj : j < 16) (h : pos + j < b.length) :
    bytesC (((b.drop pos).take j ++ List.replicate (16 - j) 0).take j) ++ [CV.v (.int .u8 ((b.getD (pos + j) 0).toNat : Int))] ++ bytesC (((b.drop pos).take j ++ List.replicate (16 - j) 0).drop (j + 1)) = bytesC ((b.drop pos).take (j + 1) ++ List.replicate (16 - (j + 1)) 0) := by
  have h1 : ((b.drop pos).take j).length = j := by rw [List.length_take, List.length_drop]; omega
  have h2 : ((b.drop pos).take j ++ List.replicate (16 - j) 0).take j = (b.drop pos).take j := by rw [List.take_append_of_le_length (by omega), List.take_of_length_le (by omega)]
  have h3 : ((b.drop pos).take j ++ List.replicate (16 - j) 0).drop (j + 1) = List.replicate (16 - (j + 1)) (0 : UInt8) := by
    rw [List.drop_append, List.drop_eq_nil_of_le (by omega), h1, List.nil_append, List.drop_replicate]; congr 1; omega
  have h4 : (b.drop pos).take (j + 1) = (b.drop pos).take j ++ [b.getD (pos + j) 0] := by
    rw [take_one_more _ (by rw [List.length_drop]; omega)]
    congr 2
    rw [List.getD_eq_getElem?_getD, List.getElem?_drop, ← List.getD_eq_getElem?_getD]
  rw [h2, h3, h4, byteC, ← bytesC_append, ← bytesC_append]
theorem div16 {a k : Nat} (h : (k : Int) ≤ ((a / 16 : Nat) : Int)) : 16 * k ≤ a := by omega
theorem spec_getD (b : List UInt8) (hb : b.length ≤ 1000000000) : SP 46 [.sl none 1 (bytesC b), .v (.int .i64 16), .v (.func (.func 47) #[] #[])] (tLD (dList 16 dD b)) := by
  refine spec_fn (H := H0) (F := F0) Try.func46 rfl Try.ntmps46 Try.results46 (by kernel_rfl) rfl (by simp) ?_
  simp only [zz0, zz1, zz2, zz3, zz4, zz5, zz6, zz7, zz8, zz9, zz10, zz11, zz12, zz13, zz14, gateAt, noAssign, resKeys, killAll, siteDsts, isSite, refs, killL, killAV, st0, number, ev, exSl, bnd, bndOK, cellsAV, plain, ofCV, argsOf, argOf, srcOf, partsV, fillC, repeatL, resOf, binV, shV, intV, isShift, strV, unV, ares, ares1, isNilSl, reduceCtorEq, Nat.reduceBEq, Nat.reduceAdd, Nat.reduceSub, Nat.reduceMul, Nat.reduceLT, Nat.reduceLeDiff, Nat.reduceDiv, Nat.reduceEqDiff, Int.reduceToNat, CV.one, Value.oneCell', Int.reduceLT, Int.reduceLE, Int.reduceNeg, Int.reduceEq, GV, H0, F0, putL, Int.reduceBEq, Int.reduceBNe]
  refine call_by (spec_length b hb 16 (by omega) (by omega)) ?_
  have hf := dLen_facts 16 b
  have hD : dList 16 dD b = if (dLen 16 b).2.2 ≠ 0 then ([], 0, (dLen 16 b).2.2) else fin [] (dLen 16 b).2.1 (dLoop dD (dLen 16 b).1.toNat (b.drop (dLen 16 b).2.1)) := rfl
  generalize dLen 16 b = r at *
  obtain ⟨n, u, e⟩ := r
  simp only at hf hD
  by_cases he : e = 0
  · subst he
    rw [if_neg (by simp)] at hD
    obtain ⟨k, rfl⟩ : ∃ k : Nat, n = k := ⟨n.toNat, by omega⟩
    have hk : 16 * k ≤ b.length - u := div16 hf.2.1
    simp only [zz0, zz1, zz2, zz3, zz4, zz5, zz6, zz7, zz8, zz9, zz10, zz11, zz12, zz13, zz14, gateAt, noAssign, resKeys, killAll, siteDsts, isSite, refs, killL, killAV, st0, number, ev, exSl, bnd, bndOK, cellsAV, plain, ofCV, argsOf, argOf, srcOf, partsV, fillC, repeatL, resOf, binV, shV, intV, isShift, strV, unV, ares, ares1, isNilSl, reduceCtorEq, Nat.reduceBEq, Nat.reduceAdd, Nat.reduceSub, Nat.reduceMul, Nat.reduceLT, Nat.reduceLeDiff, Nat.reduceDiv, Nat.reduceEqDiff, Int.reduceToNat, CV.one, Value.oneCell', Int.reduceLT, Int.reduceLE, Int.reduceNeg, Int.reduceEq, GV, H0, F0, putL, Int.reduceBEq, Int.reduceBNe, tI]
    refine loop_by (X := Nat × Nat × List (List UInt8)) (fun x => ⟨S [(27, .v (.int .i64 x.1)), (26, .v (.int .i64 k)), (10, .v (.int .i64 x.2.1)), (12, .sl (some 12) 16 (bytesC x.2.2.flatten)), (0, .sl none 1 (bytesC b)), (2, .v (.func (.func 47) #[] #[]))], B [], O [(12, some (bytesC x.2.2.flatten).length)]⟩)
      (fun x => x.1 ≤ k ∧ x.2.1 + 16 * (k - x.1) ≤ b.length ∧ x.2.2.length = x.1 ∧ (∀ d ∈ x.2.2, d.length = 16) ∧ dList 16 dD b = fin x.2.2 x.2.1 (dLoop dD (k - x.1) (b.drop x.2.1))) (fun x => k - x.1) (0, u, []) ⟨by omega, by dsimp only; omega, rfl, (by simp), by simpa using hD⟩ ?_ ?_
    · refine stLe_mk ?_ ?_ ?_ <;> simp only [forall_mem_cons', forall_mem_nil', lk_hit, lk_miss, Nat.reduceBEq, AVle_refl, AVle_bot, AVle_untag, none_or_some, Option.some.injEq, and_true, true_and, length_bytesC, length_ints, length_strs, List.length_append, List.length_cons, List.length_nil, bytesC_nil, List.flatten_nil]
      all_goals simp [AVle_refl]
    · rintro ⟨i, pos, acc⟩ ⟨h1, h2, h3, h5, h4⟩
      simp only at h1 h2 h3 h4 h5
      have hf := flatten_len h5
      simp only [zz0, zz1, zz2, zz3, zz4, zz5, zz6, zz7, zz8, zz9, zz10, zz11, zz12, zz13, zz14, gateAt, noAssign, resKeys, killAll, siteDsts, isSite, refs, killL, killAV, st0, number, ev, exSl, bnd, bndOK, cellsAV, plain, ofCV, argsOf, argOf, srcOf, partsV, fillC, repeatL, resOf, binV, shV, intV, isShift, strV, unV, ares, ares1, isNilSl, reduceCtorEq, Nat.reduceBEq, Nat.reduceAdd, Nat.reduceSub, Nat.reduceMul, Nat.reduceLT, Nat.reduceLeDiff, Nat.reduceDiv, Nat.reduceEqDiff, Int.reduceToNat, CV.one, Value.oneCell', Int.reduceLT, Int.reduceLE, Int.reduceNeg, Int.reduceEq, GV, H0, F0, putL, Int.reduceBEq, Int.reduceBNe]
      refine cond_dec (fun hc => ?_) (fun hc => ?_)
      · have hp : pos ≤ b.length := by omega
        simp only [zz0, zz1, zz2, zz3, zz4, zz5, zz6, zz7, zz8, zz9, zz10, zz11, zz12, zz13, zz14, gateAt, noAssign, resKeys, killAll, siteDsts, isSite, refs, killL, killAV, st0, number, ev, exSl, bnd, bndOK, cellsAV, plain, ofCV, argsOf, argOf, srcOf, partsV, fillC, repeatL, resOf, binV, shV, intV, isShift, strV, unV, ares, ares1, isNilSl, reduceCtorEq, Nat.reduceBEq, Nat.reduceAdd, Nat.reduceSub, Nat.reduceMul, Nat.reduceLT, Nat.reduceLeDiff, Nat.reduceDiv, Nat.reduceEqDiff, Int.reduceToNat, CV.one, Value.oneCell', Int.reduceLT, Int.reduceLE, Int.reduceNeg, Int.reduceEq, GV, H0, F0, putL, Int.reduceBEq, Int.reduceBNe, eq_true hp]
        refine call_by (spec_getDigest (b.drop pos) (by rw [List.length_drop]; omega) (by rw [List.length_drop]; omega)) ?_
        obtain ⟨q, hq⟩ : ∃ q, k - i = q + 1 := ⟨k - i - 1, by omega⟩
        have hq' : k - (i + 1) = q := by omega
        rw [hq, fin_step rfl, List.drop_drop] at h4
        have wp : IntKind.i64.wrap ((pos : Int) + 16) = ((pos + 16 : Nat) : Int) := by rw [i64_wrap (by omega) (by omega)]; omega
        have hl : ((b.drop pos).take 16).length = 16 := by rw [List.length_take, List.length_drop]; omega
        have ht : ((b.drop pos).take 16).take 16 = (b.drop pos).take 16 := by rw [List.take_of_length_le (by omega)]
        simp only [dD] at h4
        generalize (b.drop pos).take 16 = y at *
        simp only [zz0, zz1, zz2, zz3, zz4, zz5, zz6, zz7, zz8, zz9, zz10, zz11, zz12, zz13, zz14, gateAt, noAssign, resKeys, killAll, siteDsts, isSite, refs, killL, killAV, st0, number, ev, exSl, bnd, bndOK, cellsAV, plain, ofCV, argsOf, argOf, srcOf, partsV, fillC, repeatL, resOf, binV, shV, intV, isShift, strV, unV, ares, ares1, isNilSl, reduceCtorEq, Nat.reduceBEq, Nat.reduceAdd, Nat.reduceSub, Nat.reduceMul, Nat.reduceLT, Nat.reduceLeDiff, Nat.reduceDiv, Nat.reduceEqDiff, Int.reduceToNat, CV.one, Value.oneCell', Int.reduceLT, Int.reduceLE, Int.reduceNeg, Int.reduceEq, GV, H0, F0, putL, Int.reduceBEq, Int.reduceBNe, wp, hl, ht, i64_nat (show i < 9223372036854775807 by omega)]
        refine ⟨by omega, by omega, (i + 1, pos + 16, acc ++ [y]), ⟨by dsimp only; omega, by dsimp only; omega, by simp [h3], ?_, ?_⟩, by dsimp only; omega, ?_⟩
        · intro d hd
          rcases List.mem_append.1 hd with hd | hd
          · exact h5 d hd
          · rw [List.mem_singleton.1 hd]; exact hl
        · simpa [hq'] using h4
        · refine stLe_mk ?_ ?_ ?_ <;> simp only [forall_mem_cons', forall_mem_nil', lk_hit, lk_miss, Nat.reduceBEq, AVle_refl, AVle_bot, AVle_untag, none_or_some, Option.some.injEq, and_true, true_and, length_bytesC, length_ints, length_strs, List.length_append, List.length_cons, List.length_nil, List.flatten_append, List.flatten_cons, List.flatten_nil, List.append_nil, bytesC_append]
      · obtain rfl : i = k := by omega
        rw [Nat.sub_self, fin_done] at h4
        simp only [zz0, zz1, zz2, zz3, zz4, zz5, zz6, zz7, zz8, zz9, zz10, zz11, zz12, zz13, zz14, gateAt, noAssign, resKeys, killAll, siteDsts, isSite, refs, killL, killAV, st0, number, ev, exSl, bnd, bndOK, cellsAV, plain, ofCV, argsOf, argOf, srcOf, partsV, fillC, repeatL, resOf, binV, shV, intV, isShift, strV, unV, ares, ares1, isNilSl, reduceCtorEq, Nat.reduceBEq, Nat.reduceAdd, Nat.reduceSub, Nat.reduceMul, Nat.reduceLT, Nat.reduceLeDiff, Nat.reduceDiv, Nat.reduceEqDiff, Int.reduceToNat, CV.one, Value.oneCell', Int.reduceLT, Int.reduceLE, Int.reduceNeg, Int.reduceEq, GV, H0, F0, putL, Int.reduceBEq, Int.reduceBNe, h4, tLD]
  · rw [if_pos he] at hD
    have e0 : ((e : Int) != 0) = true := by simp [he]
    simp only [zz0, zz1, zz2, zz3, zz4, zz5, zz6, zz7, zz8, zz9, zz10, zz11, zz12, zz13, zz14, gateAt, noAssign, resKeys, killAll, siteDsts, isSite, refs, killL, killAV, st0, number, ev, exSl, bnd, bndOK, cellsAV, plain, ofCV, argsOf, argOf, srcOf, partsV, fillC, repeatL, resOf, binV, shV, intV, isShift, strV, unV, ares, ares1, isNilSl, reduceCtorEq, Nat.reduceBEq, Nat.reduceAdd, Nat.reduceSub, Nat.reduceMul, Nat.reduceLT, Nat.reduceLeDiff, Nat.reduceDiv, Nat.reduceEqDiff, Int.reduceToNat, CV.one, Value.oneCell', Int.reduceLT, Int.reduceLE, Int.reduceNeg, Int.reduceEq, GV, H0, F0, putL, Int.reduceBEq, Int.reduceBNe, tI, e0, hD, tLD, List.flatten_nil, bytesC_nil]
theorem spec_GetDigests (b : List UInt8) (hb : b.length ≤ 1000000000) : SP 34 [.sl none 1 (bytesC b)] (tLD (dList 16 dD b)) := by
  refine spec_fn (H := H0) (F := F0) Try.func34 rfl Try.ntmps34 Try.results34 (by kernel_rfl) rfl (by simp) ?_
  simp only [zz0, zz1, zz2, zz3, zz4, zz5, zz6, zz7, zz8, zz9, zz10, zz11, zz12, zz13, zz14, gateAt, noAssign, resKeys, killAll, siteDsts, isSite, refs, killL, killAV, st0, number, ev, exSl, bnd, bndOK, cellsAV, plain, ofCV, argsOf, argOf, srcOf, partsV, fillC, repeatL, resOf, binV, shV, intV, isShift, strV, unV, ares, ares1, isNilSl, reduceCtorEq, Nat.reduceBEq, Nat.reduceAdd, Nat.reduceSub, Nat.reduceMul, Nat.reduceLT, Nat.reduceLeDiff, Nat.reduceDiv, Nat.reduceEqDiff, Int.reduceToNat, CV.one, Value.oneCell', Int.reduceLT, Int.reduceLE, Int.reduceNeg, Int.reduceEq, GV, H0, F0, putL, Int.reduceBEq, Int.reduceBNe]
  refine call_by (spec_getD b hb) ?_
  simp only [zz0, zz1, zz2, zz3, zz4, zz5, zz6, zz7, zz8, zz9, zz10, zz11, zz12, zz13, zz14, gateAt, noAssign, resKeys, killAll, siteDsts, isSite, refs, killL, killAV, st0, number, ev, exSl, bnd, bndOK, cellsAV, plain, ofCV, argsOf, argOf, srcOf, partsV, fillC, repeatL, resOf, binV, shV, intV, isShift, strV, unV, ares, ares1, isNilSl, reduceCtorEq, Nat.reduceBEq, Nat.reduceAdd, Nat.reduceSub, Nat.reduceMul, Nat.reduceLT, Nat.reduceLeDiff, Nat.reduceDiv, Nat.reduceEqDiff, Int.reduceToNat, CV.one, Value.oneCell', Int.reduceLT, Int.reduceLE, Int.reduceNeg, Int.reduceEq, GV, H0, F0, putL, Int.reduceBEq, Int.reduceBNe, tLD]
theorem spec_RGetDigests (b : List UInt8) (hb : b.length ≤ 1000000000) : SP 35 [.sl none 1 (bytesC b)] (tLD (dList 16 dD b)) := by
  refine spec_fn (H := H0) (F := F0) Try.func35 rfl Try.ntmps35 Try.results35 (by kernel_rfl) rfl (by simp) ?_
  simp only [zz0, zz1, zz2, zz3, zz4, zz5, zz6, zz7, zz8, zz9, zz10, zz11, zz12, zz13, zz14, gateAt, noAssign, resKeys, killAll, siteDsts, isSite, refs, killL, killAV, st0, number, ev, exSl, bnd, bndOK, cellsAV, plain, ofCV, argsOf, argOf, srcOf, partsV, fillC, repeatL, resOf, binV, shV, intV, isShift, strV, unV, ares, ares1, isNilSl, reduceCtorEq, Nat.reduceBEq, Nat.reduceAdd, Nat.reduceSub, Nat.reduceMul, Nat.reduceLT, Nat.reduceLeDiff, Nat.reduceDiv, Nat.reduceEqDiff, Int.reduceToNat, CV.one, Value.oneCell', Int.reduceLT, Int.reduceLE, Int.reduceNeg, Int.reduceEq, GV, H0, F0, putL, Int.reduceBEq, Int.reduceBNe]
  refine call_by (spec_Rlength b hb 16 (by omega) (by omega)) ?_
  have hf := dLen_facts 16 b
  have hD : dList 16 dD b = if (dLen 16 b).2.2 ≠ 0 then ([], 0, (dLen 16 b).2.2) else fin [] (dLen 16 b).2.1 (dLoop dD (dLen 16 b).1.toNat (b.drop (dLen 16 b).2.1)) := rfl
  generalize dLen 16 b = r at *
  obtain ⟨n, u, e⟩ := r
  simp only at hf hD
  by_cases he : e = 0
  · subst he
    rw [if_neg (by simp)] at hD
    obtain ⟨k, rfl⟩ : ∃ k : Nat, n = k := ⟨n.toNat, by omega⟩
    have hk : 16 * k ≤ b.length - u := div16 hf.2.1
    simp only [zz0, zz1, zz2, zz3, zz4, zz5, zz6, zz7, zz8, zz9, zz10, zz11, zz12, zz13, zz14, gateAt, noAssign, resKeys, killAll, siteDsts, isSite, refs, killL, killAV, st0, number, ev, exSl, bnd, bndOK, cellsAV, plain, ofCV, argsOf, argOf, srcOf, partsV, fillC, repeatL, resOf, binV, shV, intV, isShift, strV, unV, ares, ares1, isNilSl, reduceCtorEq, Nat.reduceBEq, Nat.reduceAdd, Nat.reduceSub, Nat.reduceMul, Nat.reduceLT, Nat.reduceLeDiff, Nat.reduceDiv, Nat.reduceEqDiff, Int.reduceToNat, CV.one, Value.oneCell', Int.reduceLT, Int.reduceLE, Int.reduceNeg, Int.reduceEq, GV, H0, F0, putL, Int.reduceBEq, Int.reduceBNe, tI]
    refine loop_by (X := Nat × Nat × List (List UInt8)) (fun x => ⟨S [(9, .v (.int .i64 x.1)), (5, .v (.int .i64 k)), (6, .v (.int .i64 x.2.1)), (8, .sl (some 8) 16 (bytesC x.2.2.flatten)), (0, .sl none 1 (bytesC b))], B [], O [(8, some (bytesC x.2.2.flatten).length)]⟩)
      (fun x => x.1 ≤ k ∧ x.2.1 + 16 * (k - x.1) ≤ b.length ∧ x.2.2.length = x.1 ∧ (∀ d ∈ x.2.2, d.length = 16) ∧ dList 16 dD b = fin x.2.2 x.2.1 (dLoop dD (k - x.1) (b.drop x.2.1))) (fun x => k - x.1) (0, u, []) ⟨by omega, by dsimp only; omega, rfl, (by simp), by simpa using hD⟩ ?_ ?_
    · refine stLe_mk ?_ ?_ ?_ <;> simp only [forall_mem_cons', forall_mem_nil', lk_hit, lk_miss, Nat.reduceBEq, AVle_refl, AVle_bot, AVle_untag, none_or_some, Option.some.injEq, and_true, true_and, length_bytesC, length_ints, length_strs, List.length_append, List.length_cons, List.length_nil, bytesC_nil, List.flatten_nil]
      all_goals simp [AVle_refl]
    · rintro ⟨i, pos, acc⟩ ⟨h1, h2, h3, h5, h4⟩
      simp only at h1 h2 h3 h4 h5
      have hf := flatten_len h5
      simp only [zz0, zz1, zz2, zz3, zz4, zz5, zz6, zz7, zz8, zz9, zz10, zz11, zz12, zz13, zz14, gateAt, noAssign, resKeys, killAll, siteDsts, isSite, refs, killL, killAV, st0, number, ev, exSl, bnd, bndOK, cellsAV, plain, ofCV, argsOf, argOf, srcOf, partsV, fillC, repeatL, resOf, binV, shV, intV, isShift, strV, unV, ares, ares1, isNilSl, reduceCtorEq, Nat.reduceBEq, Nat.reduceAdd, Nat.reduceSub, Nat.reduceMul, Nat.reduceLT, Nat.reduceLeDiff, Nat.reduceDiv, Nat.reduceEqDiff, Int.reduceToNat, CV.one, Value.oneCell', Int.reduceLT, Int.reduceLE, Int.reduceNeg, Int.reduceEq, GV, H0, F0, putL, Int.reduceBEq, Int.reduceBNe]
      refine cond_dec (fun hc => ?_) (fun hc => ?_)
      · have hp : pos ≤ b.length := by omega
        obtain ⟨q, hq⟩ : ∃ q, k - i = q + 1 := ⟨k - i - 1, by omega⟩
        have hq' : k - (i + 1) = q := by omega
        rw [hq, fin_step rfl, List.drop_drop] at h4
        have wp : IntKind.i64.wrap ((pos : Int) + 16) = ((pos + 16 : Nat) : Int) := by rw [i64_wrap (by omega) (by omega)]; omega
        have hl : ((b.drop pos).take 16).length = 16 := by rw [List.length_take, List.length_drop]; omega
        have ht : ((b.drop pos).take 16).take 16 = (b.drop pos).take 16 := by rw [List.take_of_length_le (by omega)]
        simp only [dD] at h4
        simp only [zz0, zz1, zz2, zz3, zz4, zz5, zz6, zz7, zz8, zz9, zz10, zz11, zz12, zz13, zz14, gateAt, noAssign, resKeys, killAll, siteDsts, isSite, refs, killL, killAV, st0, number, ev, exSl, bnd, bndOK, cellsAV, plain, ofCV, argsOf, argOf, srcOf, partsV, fillC, repeatL, resOf, binV, shV, intV, isShift, strV, unV, ares, ares1, isNilSl, reduceCtorEq, Nat.reduceBEq, Nat.reduceAdd, Nat.reduceSub, Nat.reduceMul, Nat.reduceLT, Nat.reduceLeDiff, Nat.reduceDiv, Nat.reduceEqDiff, Int.reduceToNat, CV.one, Value.oneCell', Int.reduceLT, Int.reduceLE, Int.reduceNeg, Int.reduceEq, GV, H0, F0, putL, Int.reduceBEq, Int.reduceBNe]
        refine loop_by (X := Nat) (fun j => ⟨S [(11, .v (.int .i64 j)), (10, .bp 10 0), (9, .v (.int .i64 i)), (5, .v (.int .i64 k)), (6, .v (.int .i64 pos)), (8, .sl (some 8) 16 (bytesC acc.flatten)), (0, .sl none 1 (bytesC b))], B [(10, some (bytesC ((b.drop pos).take j ++ List.replicate (16 - j) 0)))], O [(8, some (bytesC acc.flatten).length)]⟩)
          (fun j => j ≤ 16) (fun j => 16 - j) 0 (Nat.zero_le _) ?_ ?_
        · refine stLe_mk ?_ ?_ ?_ <;> simp only [forall_mem_cons', forall_mem_nil', lk_hit, lk_miss, Nat.reduceBEq, AVle_refl, AVle_bot, AVle_untag, none_or_some, Option.some.injEq, and_true, true_and, length_bytesC, length_ints, length_strs, List.length_append, List.length_cons, List.length_nil]
          · exact AVle_refl _ ▸ trivial
          · rfl
        · intro j hj
          simp only [zz0, zz1, zz2, zz3, zz4, zz5, zz6, zz7, zz8, zz9, zz10, zz11, zz12, zz13, zz14, gateAt, noAssign, resKeys, killAll, siteDsts, isSite, refs, killL, killAV, st0, number, ev, exSl, bnd, bndOK, cellsAV, plain, ofCV, argsOf, argOf, srcOf, partsV, fillC, repeatL, resOf, binV, shV, intV, isShift, strV, unV, ares, ares1, isNilSl, reduceCtorEq, Nat.reduceBEq, Nat.reduceAdd, Nat.reduceSub, Nat.reduceMul, Nat.reduceLT, Nat.reduceLeDiff, Nat.reduceDiv, Nat.reduceEqDiff, Int.reduceToNat, CV.one, Value.oneCell', Int.reduceLT, Int.reduceLE, Int.reduceNeg, Int.reduceEq, GV, H0, F0, putL, Int.reduceBEq, Int.reduceBNe]
          refine cond_dec (fun hj' => ?_) (fun hj' => ?_)
          · have wj : IntKind.i64.wrap ((pos : Int) + (j : Int)) = ((pos + j : Nat) : Int) := by rw [i64_wrap (by omega) (by omega)]; omega
            simp only [zz0, zz1, zz2, zz3, zz4, zz5, zz6, zz7, zz8, zz9, zz10, zz11, zz12, zz13, zz14, gateAt, noAssign, resKeys, killAll, siteDsts, isSite, refs, killL, killAV, st0, number, ev, exSl, bnd, bndOK, cellsAV, plain, ofCV, argsOf, argOf, srcOf, partsV, fillC, repeatL, resOf, binV, shV, intV, isShift, strV, unV, ares, ares1, isNilSl, reduceCtorEq, Nat.reduceBEq, Nat.reduceAdd, Nat.reduceSub, Nat.reduceMul, Nat.reduceLT, Nat.reduceLeDiff, Nat.reduceDiv, Nat.reduceEqDiff, Int.reduceToNat, CV.one, Value.oneCell', Int.reduceLT, Int.reduceLE, Int.reduceNeg, Int.reduceEq, GV, H0, F0, putL, Int.reduceBEq, Int.reduceBNe, wj, i64_nat (show j < 9223372036854775807 by omega)]
            rw [fill_step (by omega) (by omega)]
            refine ⟨by omega, by omega, by omega, by rw [List.length_append, List.length_take, List.length_drop, List.length_replicate]; omega, j + 1, by omega, by omega, ?_⟩
            refine stLe_mk ?_ ?_ ?_ <;> simp only [forall_mem_cons', forall_mem_nil', lk_hit, lk_miss, Nat.reduceBEq, AVle_refl, AVle_bot, AVle_untag, none_or_some, Option.some.injEq, and_true, true_and, length_bytesC, length_ints, length_strs, List.length_append, List.length_cons, List.length_nil]
          · obtain rfl : j = 16 := by omega
            simp only [zz0, zz1, zz2, zz3, zz4, zz5, zz6, zz7, zz8, zz9, zz10, zz11, zz12, zz13, zz14, gateAt, noAssign, resKeys, killAll, siteDsts, isSite, refs, killL, killAV, st0, number, ev, exSl, bnd, bndOK, cellsAV, plain, ofCV, argsOf, argOf, srcOf, partsV, fillC, repeatL, resOf, binV, shV, intV, isShift, strV, unV, ares, ares1, isNilSl, reduceCtorEq, Nat.reduceBEq, Nat.reduceAdd, Nat.reduceSub, Nat.reduceMul, Nat.reduceLT, Nat.reduceLeDiff, Nat.reduceDiv, Nat.reduceEqDiff, Int.reduceToNat, CV.one, Value.oneCell', Int.reduceLT, Int.reduceLE, Int.reduceNeg, Int.reduceEq, GV, H0, F0, putL, Int.reduceBEq, Int.reduceBNe, Nat.sub_self, List.replicate_zero]
            generalize (b.drop pos).take 16 = y at *
            simp only [zz0, zz1, zz2, zz3, zz4, zz5, zz6, zz7, zz8, zz9, zz10, zz11, zz12, zz13, zz14, gateAt, noAssign, resKeys, killAll, siteDsts, isSite, refs, killL, killAV, st0, number, ev, exSl, bnd, bndOK, cellsAV, plain, ofCV, argsOf, argOf, srcOf, partsV, fillC, repeatL, resOf, binV, shV, intV, isShift, strV, unV, ares, ares1, isNilSl, reduceCtorEq, Nat.reduceBEq, Nat.reduceAdd, Nat.reduceSub, Nat.reduceMul, Nat.reduceLT, Nat.reduceLeDiff, Nat.reduceDiv, Nat.reduceEqDiff, Int.reduceToNat, CV.one, Value.oneCell', Int.reduceLT, Int.reduceLE, Int.reduceNeg, Int.reduceEq, GV, H0, F0, putL, Int.reduceBEq, Int.reduceBNe, wp, hl, ht, i64_nat (show i < 9223372036854775807 by omega)]
            refine ⟨by omega, by omega, (i + 1, pos + 16, acc ++ [y]), ⟨by dsimp only; omega, by dsimp only; omega, by simp [h3], ?_, ?_⟩, by dsimp only; omega, ?_⟩
            · intro d hd
              rcases List.mem_append.1 hd with hd | hd
              · exact h5 d hd
              · rw [List.mem_singleton.1 hd]; exact hl
            · simpa [hq'] using h4
            · refine stLe_mk ?_ ?_ ?_ <;> simp only [forall_mem_cons', forall_mem_nil', lk_hit, lk_miss, Nat.reduceBEq, AVle_refl, AVle_bot, AVle_untag, none_or_some, Option.some.injEq, and_true, true_and, length_bytesC, length_ints, length_strs, List.length_append, List.length_cons, List.length_nil, List.flatten_append, List.flatten_cons, List.flatten_nil, List.append_nil, bytesC_append]
      · obtain rfl : i = k := by omega
        rw [Nat.sub_self, fin_done] at h4
        simp only [zz0, zz1, zz2, zz3, zz4, zz5, zz6, zz7, zz8, zz9, zz10, zz11, zz12, zz13, zz14, gateAt, noAssign, resKeys, killAll, siteDsts, isSite, refs, killL, killAV, st0, number, ev, exSl, bnd, bndOK, cellsAV, plain, ofCV, argsOf, argOf, srcOf, partsV, fillC, repeatL, resOf, binV, shV, intV, isShift, strV, unV, ares, ares1, isNilSl, reduceCtorEq, Nat.reduceBEq, Nat.reduceAdd, Nat.reduceSub, Nat.reduceMul, Nat.reduceLT, Nat.reduceLeDiff, Nat.reduceDiv, Nat.reduceEqDiff, Int.reduceToNat, CV.one, Value.oneCell', Int.reduceLT, Int.reduceLE, Int.reduceNeg, Int.reduceEq, GV, H0, F0, putL, Int.reduceBEq, Int.reduceBNe, h4, tLD]
  · rw [if_pos he] at hD
    have e0 : ((e : Int) != 0) = true := by simp [he]
    simp only [zz0, zz1, zz2, zz3, zz4, zz5, zz6, zz7, zz8, zz9, zz10, zz11, zz12, zz13, zz14, gateAt, noAssign, resKeys, killAll, siteDsts, isSite, refs, killL, killAV, st0, number, ev, exSl, bnd, bndOK, cellsAV, plain, ofCV, argsOf, argOf, srcOf, partsV, fillC, repeatL, resOf, binV, shV, intV, isShift, strV, unV, ares, ares1, isNilSl, reduceCtorEq, Nat.reduceBEq, Nat.reduceAdd, Nat.reduceSub, Nat.reduceMul, Nat.reduceLT, Nat.reduceLeDiff, Nat.reduceDiv, Nat.reduceEqDiff, Int.reduceToNat, CV.one, Value.oneCell', Int.reduceLT, Int.reduceLE, Int.reduceNeg, Int.reduceEq, GV, H0, F0, putL, Int.reduceBEq, Int.reduceBNe, tI, e0, hD, tLD, List.flatten_nil, bytesC_nil]
end Abs
end Go.Proofs.Ytijboooekbdinaa
