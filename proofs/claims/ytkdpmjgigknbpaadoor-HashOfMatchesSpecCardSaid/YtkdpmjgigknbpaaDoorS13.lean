/-
  Walks: the specification's padding.
-/
import Derived.Test.YtkdpmjgigknbpaaDoorS5
namespace Go.Proofs.YtkdpmjgigknbpaaDoor
namespace Abs
open Go.RowKit Sha
set_option linter.unusedSimpArgs false
set_option linter.unusedVariables false
set_option maxRecDepth 100000 in
set_option maxHeartbeats 4000000 in
theorem spec_padded (b : List UInt8) (hb : b.length ≤ 10000000) : SP 47 [.sl none 1 (bytesC b)] (.sl none 1 (bytesC (b ++ pad b.length))) := by
  refine spec_fn (H := H0) (F := F0) Tryd.func47 rfl Tryd.ntmps47 Tryd.results47 (by kernel_rfl) rfl (by simp) ?_
  have wn : IntKind.u64.wrap (b.length : Int) = (b.length : Int) := by rw [IntKind.wrap_u64]; omega
  have w8 : IntKind.u64.wrap (8 * (b.length : Int)) = ((8 * b.length % 18446744073709551616 : Nat) : Int) := by rw [IntKind.wrap_u64]; omega
  simp only [zz0, zz1, zz2, zz3, zz4, zz5, zz6, zz7, zz8, zz9, zz10, zz11, zz12, zz13, zz14, zz15, zz16, zz17, zz18, zz19, gateAt, noAssign, resKeys, killAll, siteDsts, isSite, refs, killL, killAV, st0, number, ev, exSl, bnd, bndOK, cellsAV, plain, ofCV, argsOf, argOf, srcOf, partsV, fillC, repeatL, resOf, binV, shV, intV, isShift, strV, unV, ares, ares1, isNilSl, reduceCtorEq, Nat.reduceBEq, Nat.reduceAdd, Nat.reduceSub, Nat.reduceMul, Nat.reduceLT, Nat.reduceLeDiff, Nat.reduceDiv, Nat.reduceEqDiff, Int.reduceToNat, CV.one, Value.oneCell', Int.reduceLT, Int.reduceLE, Int.reduceNeg, Int.reduceEq, GV, H0, F0, Int.reduceBEq, Int.reduceBNe, ↓reduceIte, natV_cells, drop_nats, take_nats, head_nats, length_nats, length_natV, all_nats, exIx_natV, cells_natV, Bool.true_or, Bool.or_true, Bool.false_or, Bool.or_false, callOps_value, callOps_builtin, List.append_eq, beq_self_eq_true, Nat.zero_le, Bool.not_true, Bool.not_false, cvt_31_31, ex_conv_same, put_whole]
  refine ⟨by omega, by omega, by omega, by omega, ?_⟩
  refine loop_by (X := Nat) (fun z => ⟨S [(3, .sl (some 3) 1 (bytesC (b ++ padZ z))), (0, .sl none 1 (bytesC b))], B [], O [(3, some (bytesC (b ++ padZ z)).length)]⟩)
    (fun z => z ≤ zeros b.length) (fun z => zeros b.length - z) 0 (Nat.zero_le _) ?_ ?_
  · refine stLe_mk ?_ ?_ ?_ <;> simp only [forall_mem_cons', forall_mem_nil', lk_hit, lk_miss, Nat.reduceBEq, AVle_refl, AVle_bot, AVle_untag, none_or_some, Option.some.injEq, and_true, true_and, length_bytesC, length_ints, length_strs, List.length_append, List.length_cons, List.length_nil]
    · exact AVle_of_eq (by rw [bytesC_append]; rfl)
    · simp [padZ]
  · intro z hz
    have hz2 : zeros b.length < 64 := by unfold zeros; omega
    have hzl : (padZ z).length = z + 1 := by simp [padZ]
    have hzb : (b ++ padZ z).length = b.length + (z + 1) := by rw [List.length_append, hzl]
    have w2 : Int.tmod ((b.length + (z + 1) : Nat) : Int) 64 = (((b.length + (z + 1)) % 64 : Nat) : Int) := tmod_nat _ 64
    obtain ⟨c, hc⟩ : ∃ c, ((((b.length + (z + 1)) % 64 : Nat) : Int) != 56) = c := ⟨_, rfl⟩
    cases c
    · have he : (b.length + (z + 1)) % 64 = 56 := by
        have := bne_eq_false_iff_eq.1 hc
        omega
      have hzz : z = zeros b.length := by unfold zeros at *; omega
      subst hzz
      have hpad : b ++ pad b.length = (b ++ padZ (zeros b.length)) ++ beT (8 * b.length % 18446744073709551616) 8 := by rw [List.append_assoc]; rfl
      have hbl : ∀ i, (beT (8 * b.length % 18446744073709551616) i).length = i := fun i => by simp [beT]
      simp only [zz0, zz1, zz2, zz3, zz4, zz5, zz6, zz7, zz8, zz9, zz10, zz11, zz12, zz13, zz14, zz15, zz16, zz17, zz18, zz19, gateAt, noAssign, resKeys, killAll, siteDsts, isSite, refs, killL, killAV, st0, number, ev, exSl, bnd, bndOK, cellsAV, plain, ofCV, argsOf, argOf, srcOf, partsV, fillC, repeatL, resOf, binV, shV, intV, isShift, strV, unV, ares, ares1, isNilSl, reduceCtorEq, Nat.reduceBEq, Nat.reduceAdd, Nat.reduceSub, Nat.reduceMul, Nat.reduceLT, Nat.reduceLeDiff, Nat.reduceDiv, Nat.reduceEqDiff, Int.reduceToNat, CV.one, Value.oneCell', Int.reduceLT, Int.reduceLE, Int.reduceNeg, Int.reduceEq, GV, H0, F0, Int.reduceBEq, Int.reduceBNe, ↓reduceIte, natV_cells, drop_nats, take_nats, head_nats, length_nats, length_natV, all_nats, exIx_natV, cells_natV, Bool.true_or, Bool.or_true, Bool.false_or, Bool.or_false, callOps_value, callOps_builtin, List.append_eq, beq_self_eq_true, Nat.zero_le, Bool.not_true, Bool.not_false, cvt_31_31, ex_conv_same, hzb, w2, hc, wn, w8]
      refine loop_by (X := Nat) (fun i => ⟨S [(5, .v (.int .i64 i)), (4, .v (.int .u64 ((8 * b.length % 18446744073709551616 : Nat) : Int))), (3, .sl (some 3) 1 (bytesC ((b ++ padZ (zeros b.length)) ++ beT (8 * b.length % 18446744073709551616) i)))], B [], O [(3, some (bytesC ((b ++ padZ (zeros b.length)) ++ beT (8 * b.length % 18446744073709551616) i)).length)]⟩)
        (fun i => i ≤ 8) (fun i => 8 - i) 0 (Nat.zero_le _) ?_ ?_
      · refine stLe_mk ?_ ?_ ?_ <;> simp only [forall_mem_cons', forall_mem_nil', lk_hit, lk_miss, Nat.reduceBEq, AVle_refl, AVle_bot, AVle_untag, none_or_some, Option.some.injEq, and_true, true_and, length_bytesC, length_ints, length_strs, List.length_append, List.length_cons, List.length_nil]
        · simp [beT, AVle_refl]
        · rw [hzl]; simp [beT]
      · intro i hi
        have hbi := hbl i
        simp only [zz0, zz1, zz2, zz3, zz4, zz5, zz6, zz7, zz8, zz9, zz10, zz11, zz12, zz13, zz14, zz15, zz16, zz17, zz18, zz19, gateAt, noAssign, resKeys, killAll, siteDsts, isSite, refs, killL, killAV, st0, number, ev, exSl, bnd, bndOK, cellsAV, plain, ofCV, argsOf, argOf, srcOf, partsV, fillC, repeatL, resOf, binV, shV, intV, isShift, strV, unV, ares, ares1, isNilSl, reduceCtorEq, Nat.reduceBEq, Nat.reduceAdd, Nat.reduceSub, Nat.reduceMul, Nat.reduceLT, Nat.reduceLeDiff, Nat.reduceDiv, Nat.reduceEqDiff, Int.reduceToNat, CV.one, Value.oneCell', Int.reduceLT, Int.reduceLE, Int.reduceNeg, Int.reduceEq, GV, H0, F0, Int.reduceBEq, Int.reduceBNe, ↓reduceIte, natV_cells, drop_nats, take_nats, head_nats, length_nats, length_natV, all_nats, exIx_natV, cells_natV, Bool.true_or, Bool.or_true, Bool.false_or, Bool.or_false, callOps_value, callOps_builtin, List.append_eq, beq_self_eq_true, Nat.zero_le, Bool.not_true, Bool.not_false, cvt_31_31, ex_conv_same]
        refine cond_dec (fun hc => ?_) (fun hc => ?_)
        · have hi' : i < 8 := by omega
          have v1 : IntKind.i64.wrap (8 * (i : Int)) = ((8 * i : Nat) : Int) := by rw [i64_wrap (by omega) (by omega)]; omega
          have v2 : IntKind.i64.wrap (56 - ((8 * i : Nat) : Int)) = ((56 - 8 * i : Nat) : Int) := by rw [i64_wrap (by omega) (by omega)]; omega
          have v3 : (((56 - 8 * i : Nat) : Int) < 0) = False := eq_false (by omega)
          have v4 : ((8 * b.length % 18446744073709551616 : Nat) : Int).fdiv (2 ^ (min (56 - 8 * i) IntKind.u64.bits)) = ((8 * b.length % 18446744073709551616 / 2 ^ (56 - 8 * i) : Nat) : Int) := shr_nat _ _ (by show 56 - 8 * i ≤ 64; omega)
          have hst : bytesC ((b ++ padZ (zeros b.length)) ++ beT (8 * b.length % 18446744073709551616) i) ++ bytesC [UInt8.ofNat (8 * b.length % 18446744073709551616 / 2 ^ (56 - 8 * i))] = bytesC ((b ++ padZ (zeros b.length)) ++ beT (8 * b.length % 18446744073709551616) (i + 1)) := by
            rw [← bytesC_append, List.append_assoc, ← beT_succ]
          simp only [zz0, zz1, zz2, zz3, zz4, zz5, zz6, zz7, zz8, zz9, zz10, zz11, zz12, zz13, zz14, zz15, zz16, zz17, zz18, zz19, gateAt, noAssign, resKeys, killAll, siteDsts, isSite, refs, killL, killAV, st0, number, ev, exSl, bnd, bndOK, cellsAV, plain, ofCV, argsOf, argOf, srcOf, partsV, fillC, repeatL, resOf, binV, shV, intV, isShift, strV, unV, ares, ares1, isNilSl, reduceCtorEq, Nat.reduceBEq, Nat.reduceAdd, Nat.reduceSub, Nat.reduceMul, Nat.reduceLT, Nat.reduceLeDiff, Nat.reduceDiv, Nat.reduceEqDiff, Int.reduceToNat, CV.one, Value.oneCell', Int.reduceLT, Int.reduceLE, Int.reduceNeg, Int.reduceEq, GV, H0, F0, Int.reduceBEq, Int.reduceBNe, ↓reduceIte, natV_cells, drop_nats, take_nats, head_nats, length_nats, length_natV, all_nats, exIx_natV, cells_natV, Bool.true_or, Bool.or_true, Bool.false_or, Bool.or_false, callOps_value, callOps_builtin, List.append_eq, beq_self_eq_true, Nat.zero_le, Bool.not_true, Bool.not_false, cvt_31_31, ex_conv_same, v1, v2, v3, v4, byte_nat, put_whole, byteC1, hst, i64_nat (show i < 9223372036854775807 by omega)]
          refine ⟨by rw [List.length_append, hzb, hbi]; omega, by rw [List.length_append, hzb, hbi]; omega, i + 1, by omega, by omega, ?_⟩
          refine stLe_mk ?_ ?_ ?_ <;> simp only [forall_mem_cons', forall_mem_nil', lk_hit, lk_miss, Nat.reduceBEq, AVle_refl, AVle_bot, AVle_untag, none_or_some, Option.some.injEq, and_true, true_and, length_bytesC, length_ints, length_strs, List.length_append, List.length_cons, List.length_nil]
        · have h8 : i = 8 := by omega
          subst h8
          rw [← hpad]
          simp only [zz0, zz1, zz2, zz3, zz4, zz5, zz6, zz7, zz8, zz9, zz10, zz11, zz12, zz13, zz14, zz15, zz16, zz17, zz18, zz19, gateAt, noAssign, resKeys, killAll, siteDsts, isSite, refs, killL, killAV, st0, number, ev, exSl, bnd, bndOK, cellsAV, plain, ofCV, argsOf, argOf, srcOf, partsV, fillC, repeatL, resOf, binV, shV, intV, isShift, strV, unV, ares, ares1, isNilSl, reduceCtorEq, Nat.reduceBEq, Nat.reduceAdd, Nat.reduceSub, Nat.reduceMul, Nat.reduceLT, Nat.reduceLeDiff, Nat.reduceDiv, Nat.reduceEqDiff, Int.reduceToNat, CV.one, Value.oneCell', Int.reduceLT, Int.reduceLE, Int.reduceNeg, Int.reduceEq, GV, H0, F0, Int.reduceBEq, Int.reduceBNe, ↓reduceIte, natV_cells, drop_nats, take_nats, head_nats, length_nats, length_natV, all_nats, exIx_natV, cells_natV, Bool.true_or, Bool.or_true, Bool.false_or, Bool.or_false, callOps_value, callOps_builtin, List.append_eq, beq_self_eq_true, Nat.zero_le, Bool.not_true, Bool.not_false, cvt_31_31, ex_conv_same]
    · have he : ¬ (b.length + (z + 1)) % 64 = 56 := by
        intro e
        rw [e] at hc; exact absurd hc (by decide)
      have hzz : z < zeros b.length := by
        rcases Nat.lt_or_ge z (zeros b.length) with h | h
        · exact h
        · exfalso; apply he; unfold zeros at *; omega
      have hst : bytesC (b ++ padZ z) ++ bytesC [0] = bytesC (b ++ padZ (z + 1)) := by rw [← bytesC_append, List.append_assoc, ← padZ_succ]
      simp only [zz0, zz1, zz2, zz3, zz4, zz5, zz6, zz7, zz8, zz9, zz10, zz11, zz12, zz13, zz14, zz15, zz16, zz17, zz18, zz19, gateAt, noAssign, resKeys, killAll, siteDsts, isSite, refs, killL, killAV, st0, number, ev, exSl, bnd, bndOK, cellsAV, plain, ofCV, argsOf, argOf, srcOf, partsV, fillC, repeatL, resOf, binV, shV, intV, isShift, strV, unV, ares, ares1, isNilSl, reduceCtorEq, Nat.reduceBEq, Nat.reduceAdd, Nat.reduceSub, Nat.reduceMul, Nat.reduceLT, Nat.reduceLeDiff, Nat.reduceDiv, Nat.reduceEqDiff, Int.reduceToNat, CV.one, Value.oneCell', Int.reduceLT, Int.reduceLE, Int.reduceNeg, Int.reduceEq, GV, H0, F0, Int.reduceBEq, Int.reduceBNe, ↓reduceIte, natV_cells, drop_nats, take_nats, head_nats, length_nats, length_natV, all_nats, exIx_natV, cells_natV, Bool.true_or, Bool.or_true, Bool.false_or, Bool.or_false, callOps_value, callOps_builtin, List.append_eq, beq_self_eq_true, Nat.zero_le, Bool.not_true, Bool.not_false, cvt_31_31, ex_conv_same, hzb, w2, hc, put_whole, byte0, hst]
      refine ⟨by omega, by omega, z + 1, by omega, by omega, ?_⟩
      refine stLe_mk ?_ ?_ ?_ <;> simp only [forall_mem_cons', forall_mem_nil', lk_hit, lk_miss, Nat.reduceBEq, AVle_refl, AVle_bot, AVle_untag, none_or_some, Option.some.injEq, and_true, true_and, length_bytesC, length_ints, length_strs, List.length_append, List.length_cons, List.length_nil]
end Abs
end Go.Proofs.YtkdpmjgigknbpaaDoor
