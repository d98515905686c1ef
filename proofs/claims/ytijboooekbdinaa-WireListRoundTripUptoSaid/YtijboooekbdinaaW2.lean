/-
  Walks: the encodings.
-/
import Derived.Test.YtijboooekbdinaaW1
namespace Go.Proofs.Ytijboooekbdinaa
namespace Abs
open Go.RowKit Wire
set_option linter.unusedSimpArgs false
theorem rem_go (z : Nat) : IntKind.u8.wrap (IntKind.u8.wrap (Int.tmod (z : Int) 128) + 128) = ((UInt8.ofNat (z % 128 + 128)).toNat : Int) := by
  rw [Int.tmod_eq_emod_of_nonneg (by omega), IntKind.wrap_u8, IntKind.wrap_u8]; simp
theorem quo_go (z : Nat) : Int.tdiv (z : Int) 128 = ((z / 128 : Nat) : Int) := by rw [Int.tdiv_eq_ediv_of_nonneg (by omega)]; simp
theorem spec_RInt (n : Int) (h1 : -9223372036854775808 ≤ n) (h2 : n ≤ 9223372036854775807) : SP 15 [.v (.int .i64 n)] (.sl none 1 (bytesC (encI n))) := by
  refine spec_fn (H := H0) (F := F0) Try.func15 rfl Try.ntmps15 Try.results15 (by kernel_rfl) rfl (by simp) ?_
  have hz := zig_lt h1 h2
  have hl := len_encU10 hz
  simp only [zz0, zz1, zz2, zz3, zz4, zz5, zz6, zz7, zz8, zz9, zz10, zz11, zz12, zz13, zz14, gateAt, noAssign, resKeys, killAll, siteDsts, isSite, refs, killL, killAV, st0, number, ev, exSl, bnd, bndOK, cellsAV, plain, ofCV, argsOf, argOf, srcOf, partsV, fillC, repeatL, resOf, binV, shV, intV, isShift, strV, unV, ares, ares1, isNilSl, reduceCtorEq, Nat.reduceBEq, Nat.reduceAdd, Nat.reduceSub, Nat.reduceMul, Nat.reduceLT, Nat.reduceLeDiff, Nat.reduceDiv, Nat.reduceEqDiff, Int.reduceToNat, CV.one, Value.oneCell', Int.reduceLT, Int.reduceLE, Int.reduceNeg, Int.reduceEq, GV, H0, F0, putL, Int.reduceBEq, Int.reduceBNe, zig_go h1 h2]
  refine cond_dec (fun h => ?_) (fun h => ?_)
  · have e : IntKind.u64.wrap (IntKind.u64.wrap (IntKind.u64.wrap (IntKind.i64.wrap (-1 - n)) * 2) + 1) = (zig n : Int) := by
      rw [zig, if_neg (show ¬ 0 ≤ n by omega), IntKind.wrap_i64]; simp only [IntKind.wrap_u64]; omega
    simp only [zz0, zz1, zz2, zz3, zz4, zz5, zz6, zz7, zz8, zz9, zz10, zz11, zz12, zz13, zz14, gateAt, noAssign, resKeys, killAll, siteDsts, isSite, refs, killL, killAV, st0, number, ev, exSl, bnd, bndOK, cellsAV, plain, ofCV, argsOf, argOf, srcOf, partsV, fillC, repeatL, resOf, binV, shV, intV, isShift, strV, unV, ares, ares1, isNilSl, reduceCtorEq, Nat.reduceBEq, Nat.reduceAdd, Nat.reduceSub, Nat.reduceMul, Nat.reduceLT, Nat.reduceLeDiff, Nat.reduceDiv, Nat.reduceEqDiff, Int.reduceToNat, CV.one, Value.oneCell', Int.reduceLT, Int.reduceLE, Int.reduceNeg, Int.reduceEq, GV, H0, F0, putL, Int.reduceBEq, Int.reduceBNe, e]
    refine loop_by (X := Nat × List UInt8) (fun x => ⟨S [(0, .v (.int .i64 n)), (3, .v (.int .u64 x.1)), (4, .sl (some 4) 1 (bytesC x.2))], B [], O [(4, some (bytesC x.2).length)]⟩)
      (fun x => x.2 ++ encU x.1 = encI n ∧ x.1 < 18446744073709551616) (fun x => x.1) (zig n, []) ⟨rfl, hz⟩ ?_ ?_
    · refine stLe_mk ?_ ?_ ?_ <;> simp only [forall_mem_cons', forall_mem_nil', lk_hit, lk_miss, Nat.reduceBEq, AVle_refl, AVle_bot, AVle_untag, none_or_some, Option.some.injEq, and_true, true_and, length_bytesC, length_ints, length_strs, List.length_append, List.length_cons, List.length_nil, bytesC_nil]
    · rintro ⟨z, xs⟩ ⟨hx, hz'⟩
      have hle : (xs ++ encU z).length ≤ 10 := hx ▸ hl
      have hp := len_encU_pos z
      rw [List.length_append] at hle
      dsimp only at hx hz'
      simp only [zz0, zz1, zz2, zz3, zz4, zz5, zz6, zz7, zz8, zz9, zz10, zz11, zz12, zz13, zz14, gateAt, noAssign, resKeys, killAll, siteDsts, isSite, refs, killL, killAV, st0, number, ev, exSl, bnd, bndOK, cellsAV, plain, ofCV, argsOf, argOf, srcOf, partsV, fillC, repeatL, resOf, binV, shV, intV, isShift, strV, unV, ares, ares1, isNilSl, reduceCtorEq, Nat.reduceBEq, Nat.reduceAdd, Nat.reduceSub, Nat.reduceMul, Nat.reduceLT, Nat.reduceLeDiff, Nat.reduceDiv, Nat.reduceEqDiff, Int.reduceToNat, CV.one, Value.oneCell', Int.reduceLT, Int.reduceLE, Int.reduceNeg, Int.reduceEq, GV, H0, F0, putL, Int.reduceBEq, Int.reduceBNe, or_go, byteC, byte_go, shr7_go, ← bytesC_append]
      refine cond_dec (fun h => ?_) (fun h => ?_)
      · have h' : ¬ z < 128 := by omega
        rw [encU_big h', List.length_cons] at hle
        simp only [zz0, zz1, zz2, zz3, zz4, zz5, zz6, zz7, zz8, zz9, zz10, zz11, zz12, zz13, zz14, gateAt, noAssign, resKeys, killAll, siteDsts, isSite, refs, killL, killAV, st0, number, ev, exSl, bnd, bndOK, cellsAV, plain, ofCV, argsOf, argOf, srcOf, partsV, fillC, repeatL, resOf, binV, shV, intV, isShift, strV, unV, ares, ares1, isNilSl, reduceCtorEq, Nat.reduceBEq, Nat.reduceAdd, Nat.reduceSub, Nat.reduceMul, Nat.reduceLT, Nat.reduceLeDiff, Nat.reduceDiv, Nat.reduceEqDiff, Int.reduceToNat, CV.one, Value.oneCell', Int.reduceLT, Int.reduceLE, Int.reduceNeg, Int.reduceEq, GV, H0, F0, putL, Int.reduceBEq, Int.reduceBNe, rem_go, quo_go, u64_wrap (show 0 ≤ ((z / 128 : Nat) : Int) by omega) (by omega), byteC, shr7_go, ← bytesC_append]
        refine ⟨by omega, by omega, (z / 128, xs ++ [UInt8.ofNat (z % 128 + 128)]), ⟨?_, by dsimp only; omega⟩, by dsimp only; omega, ?_⟩
        · rw [← hx, encU_big h']; simp
        · refine stLe_mk ?_ ?_ ?_ <;> simp only [forall_mem_cons', forall_mem_nil', lk_hit, lk_miss, Nat.reduceBEq, AVle_refl, AVle_bot, AVle_untag, none_or_some, Option.some.injEq, and_true, true_and, length_bytesC, length_ints, length_strs, List.length_append, List.length_cons, List.length_nil]
      · have h' : z < 128 := by omega
        simp only [zz0, zz1, zz2, zz3, zz4, zz5, zz6, zz7, zz8, zz9, zz10, zz11, zz12, zz13, zz14, gateAt, noAssign, resKeys, killAll, siteDsts, isSite, refs, killL, killAV, st0, number, ev, exSl, bnd, bndOK, cellsAV, plain, ofCV, argsOf, argOf, srcOf, partsV, fillC, repeatL, resOf, binV, shV, intV, isShift, strV, unV, ares, ares1, isNilSl, reduceCtorEq, Nat.reduceBEq, Nat.reduceAdd, Nat.reduceSub, Nat.reduceMul, Nat.reduceLT, Nat.reduceLeDiff, Nat.reduceDiv, Nat.reduceEqDiff, Int.reduceToNat, CV.one, Value.oneCell', Int.reduceLT, Int.reduceLE, Int.reduceNeg, Int.reduceEq, GV, H0, F0, putL, Int.reduceBEq, Int.reduceBNe, or_go, byteC, byte_go, shr7_go, ← bytesC_append]
        refine ⟨by omega, by omega, ?_⟩
        rw [← hx, encU_small h']
  · have e : IntKind.u64.wrap (IntKind.u64.wrap n * 2) = (zig n : Int) := by
      rw [zig, if_pos (show 0 ≤ n by omega)]; simp only [IntKind.wrap_u64]; omega
    simp only [zz0, zz1, zz2, zz3, zz4, zz5, zz6, zz7, zz8, zz9, zz10, zz11, zz12, zz13, zz14, gateAt, noAssign, resKeys, killAll, siteDsts, isSite, refs, killL, killAV, st0, number, ev, exSl, bnd, bndOK, cellsAV, plain, ofCV, argsOf, argOf, srcOf, partsV, fillC, repeatL, resOf, binV, shV, intV, isShift, strV, unV, ares, ares1, isNilSl, reduceCtorEq, Nat.reduceBEq, Nat.reduceAdd, Nat.reduceSub, Nat.reduceMul, Nat.reduceLT, Nat.reduceLeDiff, Nat.reduceDiv, Nat.reduceEqDiff, Int.reduceToNat, CV.one, Value.oneCell', Int.reduceLT, Int.reduceLE, Int.reduceNeg, Int.reduceEq, GV, H0, F0, putL, Int.reduceBEq, Int.reduceBNe, e]
    refine loop_by (X := Nat × List UInt8) (fun x => ⟨S [(0, .v (.int .i64 n)), (3, .v (.int .u64 x.1)), (4, .sl (some 4) 1 (bytesC x.2))], B [], O [(4, some (bytesC x.2).length)]⟩)
      (fun x => x.2 ++ encU x.1 = encI n ∧ x.1 < 18446744073709551616) (fun x => x.1) (zig n, []) ⟨rfl, hz⟩ ?_ ?_
    · refine stLe_mk ?_ ?_ ?_ <;> simp only [forall_mem_cons', forall_mem_nil', lk_hit, lk_miss, Nat.reduceBEq, AVle_refl, AVle_bot, AVle_untag, none_or_some, Option.some.injEq, and_true, true_and, length_bytesC, length_ints, length_strs, List.length_append, List.length_cons, List.length_nil, bytesC_nil]
    · rintro ⟨z, xs⟩ ⟨hx, hz'⟩
      have hle : (xs ++ encU z).length ≤ 10 := hx ▸ hl
      have hp := len_encU_pos z
      rw [List.length_append] at hle
      dsimp only at hx hz'
      simp only [zz0, zz1, zz2, zz3, zz4, zz5, zz6, zz7, zz8, zz9, zz10, zz11, zz12, zz13, zz14, gateAt, noAssign, resKeys, killAll, siteDsts, isSite, refs, killL, killAV, st0, number, ev, exSl, bnd, bndOK, cellsAV, plain, ofCV, argsOf, argOf, srcOf, partsV, fillC, repeatL, resOf, binV, shV, intV, isShift, strV, unV, ares, ares1, isNilSl, reduceCtorEq, Nat.reduceBEq, Nat.reduceAdd, Nat.reduceSub, Nat.reduceMul, Nat.reduceLT, Nat.reduceLeDiff, Nat.reduceDiv, Nat.reduceEqDiff, Int.reduceToNat, CV.one, Value.oneCell', Int.reduceLT, Int.reduceLE, Int.reduceNeg, Int.reduceEq, GV, H0, F0, putL, Int.reduceBEq, Int.reduceBNe, or_go, byteC, byte_go, shr7_go, ← bytesC_append]
      refine cond_dec (fun h => ?_) (fun h => ?_)
      · have h' : ¬ z < 128 := by omega
        rw [encU_big h', List.length_cons] at hle
        simp only [zz0, zz1, zz2, zz3, zz4, zz5, zz6, zz7, zz8, zz9, zz10, zz11, zz12, zz13, zz14, gateAt, noAssign, resKeys, killAll, siteDsts, isSite, refs, killL, killAV, st0, number, ev, exSl, bnd, bndOK, cellsAV, plain, ofCV, argsOf, argOf, srcOf, partsV, fillC, repeatL, resOf, binV, shV, intV, isShift, strV, unV, ares, ares1, isNilSl, reduceCtorEq, Nat.reduceBEq, Nat.reduceAdd, Nat.reduceSub, Nat.reduceMul, Nat.reduceLT, Nat.reduceLeDiff, Nat.reduceDiv, Nat.reduceEqDiff, Int.reduceToNat, CV.one, Value.oneCell', Int.reduceLT, Int.reduceLE, Int.reduceNeg, Int.reduceEq, GV, H0, F0, putL, Int.reduceBEq, Int.reduceBNe, rem_go, quo_go, u64_wrap (show 0 ≤ ((z / 128 : Nat) : Int) by omega) (by omega), byteC, shr7_go, ← bytesC_append]
        refine ⟨by omega, by omega, (z / 128, xs ++ [UInt8.ofNat (z % 128 + 128)]), ⟨?_, by dsimp only; omega⟩, by dsimp only; omega, ?_⟩
        · rw [← hx, encU_big h']; simp
        · refine stLe_mk ?_ ?_ ?_ <;> simp only [forall_mem_cons', forall_mem_nil', lk_hit, lk_miss, Nat.reduceBEq, AVle_refl, AVle_bot, AVle_untag, none_or_some, Option.some.injEq, and_true, true_and, length_bytesC, length_ints, length_strs, List.length_append, List.length_cons, List.length_nil]
      · have h' : z < 128 := by omega
        simp only [zz0, zz1, zz2, zz3, zz4, zz5, zz6, zz7, zz8, zz9, zz10, zz11, zz12, zz13, zz14, gateAt, noAssign, resKeys, killAll, siteDsts, isSite, refs, killL, killAV, st0, number, ev, exSl, bnd, bndOK, cellsAV, plain, ofCV, argsOf, argOf, srcOf, partsV, fillC, repeatL, resOf, binV, shV, intV, isShift, strV, unV, ares, ares1, isNilSl, reduceCtorEq, Nat.reduceBEq, Nat.reduceAdd, Nat.reduceSub, Nat.reduceMul, Nat.reduceLT, Nat.reduceLeDiff, Nat.reduceDiv, Nat.reduceEqDiff, Int.reduceToNat, CV.one, Value.oneCell', Int.reduceLT, Int.reduceLE, Int.reduceNeg, Int.reduceEq, GV, H0, F0, putL, Int.reduceBEq, Int.reduceBNe, or_go, byteC, byte_go, shr7_go, ← bytesC_append]
        refine ⟨by omega, by omega, ?_⟩
        rw [← hx, encU_small h']
theorem len_encI {n : Int} (h1 : -9223372036854775808 ≤ n) (h2 : n ≤ 9223372036854775807) : (encI n).length ≤ 10 := len_encU10 (zig_lt h1 h2)
def encB (s : ByteArray) : List UInt8 := encI s.size ++ s.data.toList
theorem len_data (s : ByteArray) : s.data.toList.length = s.size := Array.length_toList
theorem spec_Bytes (s : ByteArray) (h : s.size ≤ 140737488355000) : SP 16 [.v (.string s)] (.sl none 1 (bytesC (encB s))) := by
  refine spec_fn (H := H0) (F := F0) Try.func16 rfl Try.ntmps16 Try.results16 (by kernel_rfl) rfl (by simp) ?_
  simp only [zz0, zz1, zz2, zz3, zz4, zz5, zz6, zz7, zz8, zz9, zz10, zz11, zz12, zz13, zz14, gateAt, noAssign, resKeys, killAll, siteDsts, isSite, refs, killL, killAV, st0, number, ev, exSl, bnd, bndOK, cellsAV, plain, ofCV, argsOf, argOf, srcOf, partsV, fillC, repeatL, resOf, binV, shV, intV, isShift, strV, unV, ares, ares1, isNilSl, reduceCtorEq, Nat.reduceBEq, Nat.reduceAdd, Nat.reduceSub, Nat.reduceMul, Nat.reduceLT, Nat.reduceLeDiff, Nat.reduceDiv, Nat.reduceEqDiff, Int.reduceToNat, CV.one, Value.oneCell', Int.reduceLT, Int.reduceLE, Int.reduceNeg, Int.reduceEq, GV, H0, F0, putL, Int.reduceBEq, Int.reduceBNe]
  have := len_encI (n := s.size) (by omega) (by omega)
  refine call_by (spec_Int _ (by omega) (by omega)) ?_
  simp only [zz0, zz1, zz2, zz3, zz4, zz5, zz6, zz7, zz8, zz9, zz10, zz11, zz12, zz13, zz14, gateAt, noAssign, resKeys, killAll, siteDsts, isSite, refs, killL, killAV, st0, number, ev, exSl, bnd, bndOK, cellsAV, plain, ofCV, argsOf, argOf, srcOf, partsV, fillC, repeatL, resOf, binV, shV, intV, isShift, strV, unV, ares, ares1, isNilSl, reduceCtorEq, Nat.reduceBEq, Nat.reduceAdd, Nat.reduceSub, Nat.reduceMul, Nat.reduceLT, Nat.reduceLeDiff, Nat.reduceDiv, Nat.reduceEqDiff, Int.reduceToNat, CV.one, Value.oneCell', Int.reduceLT, Int.reduceLE, Int.reduceNeg, Int.reduceEq, GV, H0, F0, putL, Int.reduceBEq, Int.reduceBNe, len_data, ← bytesC_append]
  exact ⟨by omega, by omega, rfl⟩
theorem spec_RBytes (s : ByteArray) (h : s.size ≤ 140737488355000) : SP 17 [.v (.string s)] (.sl none 1 (bytesC (encB s))) := by
  refine spec_fn (H := H0) (F := F0) Try.func17 rfl Try.ntmps17 Try.results17 (by kernel_rfl) rfl (by simp) ?_
  simp only [zz0, zz1, zz2, zz3, zz4, zz5, zz6, zz7, zz8, zz9, zz10, zz11, zz12, zz13, zz14, gateAt, noAssign, resKeys, killAll, siteDsts, isSite, refs, killL, killAV, st0, number, ev, exSl, bnd, bndOK, cellsAV, plain, ofCV, argsOf, argOf, srcOf, partsV, fillC, repeatL, resOf, binV, shV, intV, isShift, strV, unV, ares, ares1, isNilSl, reduceCtorEq, Nat.reduceBEq, Nat.reduceAdd, Nat.reduceSub, Nat.reduceMul, Nat.reduceLT, Nat.reduceLeDiff, Nat.reduceDiv, Nat.reduceEqDiff, Int.reduceToNat, CV.one, Value.oneCell', Int.reduceLT, Int.reduceLE, Int.reduceNeg, Int.reduceEq, GV, H0, F0, putL, Int.reduceBEq, Int.reduceBNe]
  have := len_encI (n := s.size) (by omega) (by omega)
  refine call_by (spec_RInt _ (by omega) (by omega)) ?_
  simp only [zz0, zz1, zz2, zz3, zz4, zz5, zz6, zz7, zz8, zz9, zz10, zz11, zz12, zz13, zz14, gateAt, noAssign, resKeys, killAll, siteDsts, isSite, refs, killL, killAV, st0, number, ev, exSl, bnd, bndOK, cellsAV, plain, ofCV, argsOf, argOf, srcOf, partsV, fillC, repeatL, resOf, binV, shV, intV, isShift, strV, unV, ares, ares1, isNilSl, reduceCtorEq, Nat.reduceBEq, Nat.reduceAdd, Nat.reduceSub, Nat.reduceMul, Nat.reduceLT, Nat.reduceLeDiff, Nat.reduceDiv, Nat.reduceEqDiff, Int.reduceToNat, CV.one, Value.oneCell', Int.reduceLT, Int.reduceLE, Int.reduceNeg, Int.reduceEq, GV, H0, F0, putL, Int.reduceBEq, Int.reduceBNe, len_data, ← bytesC_append]
  exact ⟨by omega, by omega, rfl⟩
end Abs
end Go.Proofs.Ytijboooekbdinaa
