/-
  Walks: digests.
-/
import Derived.Test.YtkdpmjgigknbpaaDoorS6
namespace Go.Proofs.YtkdpmjgigknbpaaDoor
namespace Abs
open Go.RowKit Sha
set_option linter.unusedSimpArgs false
set_option linter.unusedVariables false
def tagB (tag : Int) : UInt8 := UInt8.ofNat (tag % 256).toNat
theorem tagB_go (tag : Int) : IntKind.u8.wrap tag = ((tagB tag).toNat : Int) := by
  rw [IntKind.wrap_u8, tagB, UInt8.toNat_ofNat', Nat.mod_eq_of_lt (by omega)]; omega
/-- What a digest is the hash of. -/
def inputOf (tag : Int) (parts : List ByteArray) : List UInt8 := tagB tag :: parts.flatMap encB
def smallP (parts : List ByteArray) : Prop := parts.length ≤ 100 ∧ ∀ p ∈ parts, p.size ≤ 100000
theorem encB_len {s : ByteArray} (h : s.size ≤ 100000) : (encB s).length ≤ 100010 := by
  have := len_encI (n := (s.size : Nat)) (by omega) (by omega)
  have := len_data s
  rw [encB, List.length_append]; omega
theorem flat_small : ∀ (l : List ByteArray), (∀ p ∈ l, p.size ≤ 100000) → (l.flatMap encB).length ≤ 100010 * l.length
  | [], _ => by simp
  | x :: l, h => by
    have ih := flat_small l fun y hy => h y (List.mem_cons_of_mem _ hy)
    have hx := encB_len (h x List.mem_cons_self)
    simp only [List.flatMap_cons, List.length_append, List.length_cons, Nat.mul_succ]
    omega
theorem getD_mem {α : Type} {l : List α} {i : Nat} {d : α} (h : i < l.length) : l.getD i d ∈ l := by rw [List.getD_eq_getElem?_getD, List.getElem?_eq_getElem h]; exact List.getElem_mem h
def FS7 : Nat → Nat → List Nat × List Nat := fun id k =>
  if id = 1 then (if k = 3 then ([], [12]) else if k = 4 then ([12], []) else if k = 6 then ([], [5]) else if k = 7 then ([5], [5]) else ([], []))
  else (if k = 0 then ([5], []) else if k = 2 then ([], [23]) else if k = 3 then ([23], []) else if k = 5 then ([5], [5]) else ([], []))
set_option maxRecDepth 100000 in
set_option maxHeartbeats 4000000 in
theorem spec_Of (tag : Int) (parts : List ByteArray) (hp : smallP parts) : SP 17 [.v (.int .i64 tag), .sl none 1 (strs parts)] (.v (aggB ((sha (inputOf tag parts)).take 16))) := by
  refine spec_fn (H := H0) (F := FS7) Tryd.func17 rfl Tryd.ntmps17 Tryd.results17 (by kernel_rfl) rfl (by simp) ?_
  obtain ⟨hp1, hp2⟩ := hp
  simp only [zz0, zz1, zz2, zz3, zz4, zz5, zz6, zz7, zz8, zz9, zz10, zz11, zz12, zz13, zz14, zz15, zz16, zz17, zz18, zz19, gateAt, noAssign, resKeys, killAll, siteDsts, isSite, refs, killL, killAV, st0, number, ev, exSl, bnd, bndOK, cellsAV, plain, ofCV, argsOf, argOf, srcOf, partsV, fillC, repeatL, resOf, binV, shV, intV, isShift, strV, unV, ares, ares1, isNilSl, reduceCtorEq, Nat.reduceBEq, Nat.reduceAdd, Nat.reduceSub, Nat.reduceMul, Nat.reduceLT, Nat.reduceLeDiff, Nat.reduceDiv, Nat.reduceEqDiff, Int.reduceToNat, CV.one, Value.oneCell', Int.reduceLT, Int.reduceLE, Int.reduceNeg, Int.reduceEq, GV, H0, F0, Int.reduceBEq, Int.reduceBNe, ↓reduceIte, natV_cells, drop_nats, take_nats, head_nats, length_nats, length_natV, all_nats, exIx_natV, cells_natV, Bool.true_or, Bool.or_true, Bool.false_or, Bool.or_false, callOps_value, callOps_builtin, List.append_eq, beq_self_eq_true, Nat.zero_le, Bool.not_true, Bool.not_false, cvt_31_31, ex_conv_same, FS7]
  refine ⟨by kernel_rfl, ?_⟩
  refine call_by spec_Begin ?_
  have hb0 : ∀ l, (feed s0 l).bl.length = 64 := fun l => by rw [feed_bl]; rfl
  have hn0 : ∀ l, (feed s0 l).n = l.length := fun l => by rw [feed_n]; show 0 + l.length = _; omega
  simp only [zz0, zz1, zz2, zz3, zz4, zz5, zz6, zz7, zz8, zz9, zz10, zz11, zz12, zz13, zz14, zz15, zz16, zz17, zz18, zz19, gateAt, noAssign, resKeys, killAll, siteDsts, isSite, refs, killL, killAV, st0, number, ev, exSl, bnd, bndOK, cellsAV, plain, ofCV, argsOf, argOf, srcOf, partsV, fillC, repeatL, resOf, binV, shV, intV, isShift, strV, unV, ares, ares1, isNilSl, reduceCtorEq, Nat.reduceBEq, Nat.reduceAdd, Nat.reduceSub, Nat.reduceMul, Nat.reduceLT, Nat.reduceLeDiff, Nat.reduceDiv, Nat.reduceEqDiff, Int.reduceToNat, CV.one, Value.oneCell', Int.reduceLT, Int.reduceLE, Int.reduceNeg, Int.reduceEq, GV, H0, F0, Int.reduceBEq, Int.reduceBNe, ↓reduceIte, natV_cells, drop_nats, take_nats, head_nats, length_nats, length_natV, all_nats, exIx_natV, cells_natV, Bool.true_or, Bool.or_true, Bool.false_or, Bool.or_false, callOps_value, callOps_builtin, List.append_eq, beq_self_eq_true, Nat.zero_le, Bool.not_true, Bool.not_false, cvt_31_31, ex_conv_same, FS7, put_whole, tagB_go, byteC1]
  refine call_by (spec_SAdd s0 [tagB tag] rfl (by show 0 + 1 ≤ _; omega)) ?_
  simp only [zz0, zz1, zz2, zz3, zz4, zz5, zz6, zz7, zz8, zz9, zz10, zz11, zz12, zz13, zz14, zz15, zz16, zz17, zz18, zz19, gateAt, noAssign, resKeys, killAll, siteDsts, isSite, refs, killL, killAV, st0, number, ev, exSl, bnd, bndOK, cellsAV, plain, ofCV, argsOf, argOf, srcOf, partsV, fillC, repeatL, resOf, binV, shV, intV, isShift, strV, unV, ares, ares1, isNilSl, reduceCtorEq, Nat.reduceBEq, Nat.reduceAdd, Nat.reduceSub, Nat.reduceMul, Nat.reduceLT, Nat.reduceLeDiff, Nat.reduceDiv, Nat.reduceEqDiff, Int.reduceToNat, CV.one, Value.oneCell', Int.reduceLT, Int.reduceLE, Int.reduceNeg, Int.reduceEq, GV, H0, F0, Int.reduceBEq, Int.reduceBNe, ↓reduceIte, natV_cells, drop_nats, take_nats, head_nats, length_nats, length_natV, all_nats, exIx_natV, cells_natV, Bool.true_or, Bool.or_true, Bool.false_or, Bool.or_false, callOps_value, callOps_builtin, List.append_eq, beq_self_eq_true, Nat.zero_le, Bool.not_true, Bool.not_false, cvt_31_31, ex_conv_same, FS7, put_whole, stmV_cells, length_stmC (hb0 _), all_stmC]
  refine loop_by (X := Nat) (fun i => ⟨S [(17, .v (.int .i64 i)), (16, .v (.int .i64 parts.length)), (15, .sl none 1 (strs parts)), (5, .bp 5 0), (4, .bp 4 0)], B [(5, some (stmC (feed s0 (inputOf tag (parts.take i))))), (4, some (bytesC (List.replicate 16 0)))], O []⟩)
    (fun i => i ≤ parts.length) (fun i => parts.length - i) 0 (Nat.zero_le _) ?_ ?_
  · refine stLe_mk ?_ ?_ ?_ <;> simp only [forall_mem_cons', forall_mem_nil', lk_hit, lk_miss, Nat.reduceBEq, AVle_refl, AVle_bot, AVle_untag, none_or_some, Option.some.injEq, and_true, true_and, length_bytesC, length_ints, length_strs, List.length_append, List.length_cons, List.length_nil]
    · exact AVle_of_eq rfl
    · exact ⟨rfl, rfl⟩
  · intro i hi
    simp only [zz0, zz1, zz2, zz3, zz4, zz5, zz6, zz7, zz8, zz9, zz10, zz11, zz12, zz13, zz14, zz15, zz16, zz17, zz18, zz19, gateAt, noAssign, resKeys, killAll, siteDsts, isSite, refs, killL, killAV, st0, number, ev, exSl, bnd, bndOK, cellsAV, plain, ofCV, argsOf, argOf, srcOf, partsV, fillC, repeatL, resOf, binV, shV, intV, isShift, strV, unV, ares, ares1, isNilSl, reduceCtorEq, Nat.reduceBEq, Nat.reduceAdd, Nat.reduceSub, Nat.reduceMul, Nat.reduceLT, Nat.reduceLeDiff, Nat.reduceDiv, Nat.reduceEqDiff, Int.reduceToNat, CV.one, Value.oneCell', Int.reduceLT, Int.reduceLE, Int.reduceNeg, Int.reduceEq, GV, H0, F0, Int.reduceBEq, Int.reduceBNe, ↓reduceIte, natV_cells, drop_nats, take_nats, head_nats, length_nats, length_natV, all_nats, exIx_natV, cells_natV, Bool.true_or, Bool.or_true, Bool.false_or, Bool.or_false, callOps_value, callOps_builtin, List.append_eq, beq_self_eq_true, Nat.zero_le, Bool.not_true, Bool.not_false, cvt_31_31, ex_conv_same]
    refine cond_dec (fun hc => ?_) (fun hc => ?_)
    · have hi' : i < parts.length := by omega
      have hps := hp2 _ (getD_mem (d := ByteArray.empty) hi')
      have hstep : inputOf tag (parts.take (i + 1)) = inputOf tag (parts.take i) ++ encB (parts.getD i ByteArray.empty) := by
        rw [take_succ' ByteArray.empty hi']; simp [inputOf]
      have hfl : (inputOf tag (parts.take i)).length ≤ 20000000 := by
        have := flat_small (parts.take i) (fun p hp => hp2 p (List.mem_of_mem_take hp))
        rw [List.length_take] at this
        simp only [inputOf, List.length_cons]
        omega
      have hel := encB_len hps
      generalize hu : feed s0 (inputOf tag (parts.take i)) = u
      have hub : u.bl.length = 64 := by rw [← hu]; exact hb0 _
      have hun : u.n = (inputOf tag (parts.take i)).length := by rw [← hu]; exact hn0 _
      simp only [zz0, zz1, zz2, zz3, zz4, zz5, zz6, zz7, zz8, zz9, zz10, zz11, zz12, zz13, zz14, zz15, zz16, zz17, zz18, zz19, gateAt, noAssign, resKeys, killAll, siteDsts, isSite, refs, killL, killAV, st0, number, ev, exSl, bnd, bndOK, cellsAV, plain, ofCV, argsOf, argOf, srcOf, partsV, fillC, repeatL, resOf, binV, shV, intV, isShift, strV, unV, ares, ares1, isNilSl, reduceCtorEq, Nat.reduceBEq, Nat.reduceAdd, Nat.reduceSub, Nat.reduceMul, Nat.reduceLT, Nat.reduceLeDiff, Nat.reduceDiv, Nat.reduceEqDiff, Int.reduceToNat, CV.one, Value.oneCell', Int.reduceLT, Int.reduceLE, Int.reduceNeg, Int.reduceEq, GV, H0, F0, Int.reduceBEq, Int.reduceBNe, ↓reduceIte, natV_cells, drop_nats, take_nats, head_nats, length_nats, length_natV, all_nats, exIx_natV, cells_natV, Bool.true_or, Bool.or_true, Bool.false_or, Bool.or_false, callOps_value, callOps_builtin, List.append_eq, beq_self_eq_true, Nat.zero_le, Bool.not_true, Bool.not_false, cvt_31_31, ex_conv_same, FS7, eq_true hi', take_stmC hub, plain_stmC, length_stmV hub]
      refine ⟨by kernel_rfl, ?_⟩
      refine call_by (spec_Bytes _ (by omega)) ?_
      simp only [zz0, zz1, zz2, zz3, zz4, zz5, zz6, zz7, zz8, zz9, zz10, zz11, zz12, zz13, zz14, zz15, zz16, zz17, zz18, zz19, gateAt, noAssign, resKeys, killAll, siteDsts, isSite, refs, killL, killAV, st0, number, ev, exSl, bnd, bndOK, cellsAV, plain, ofCV, argsOf, argOf, srcOf, partsV, fillC, repeatL, resOf, binV, shV, intV, isShift, strV, unV, ares, ares1, isNilSl, reduceCtorEq, Nat.reduceBEq, Nat.reduceAdd, Nat.reduceSub, Nat.reduceMul, Nat.reduceLT, Nat.reduceLeDiff, Nat.reduceDiv, Nat.reduceEqDiff, Int.reduceToNat, CV.one, Value.oneCell', Int.reduceLT, Int.reduceLE, Int.reduceNeg, Int.reduceEq, GV, H0, F0, Int.reduceBEq, Int.reduceBNe, ↓reduceIte, natV_cells, drop_nats, take_nats, head_nats, length_nats, length_natV, all_nats, exIx_natV, cells_natV, Bool.true_or, Bool.or_true, Bool.false_or, Bool.or_false, callOps_value, callOps_builtin, List.append_eq, beq_self_eq_true, Nat.zero_le, Bool.not_true, Bool.not_false, cvt_31_31, ex_conv_same, FS7]
      refine call_by (spec_SAdd u _ hub (by omega)) ?_
      have hfb : (feed u (encB (parts.getD i ByteArray.empty))).bl.length = 64 := by rw [feed_bl, hub]
      simp only [zz0, zz1, zz2, zz3, zz4, zz5, zz6, zz7, zz8, zz9, zz10, zz11, zz12, zz13, zz14, zz15, zz16, zz17, zz18, zz19, gateAt, noAssign, resKeys, killAll, siteDsts, isSite, refs, killL, killAV, st0, number, ev, exSl, bnd, bndOK, cellsAV, plain, ofCV, argsOf, argOf, srcOf, partsV, fillC, repeatL, resOf, binV, shV, intV, isShift, strV, unV, ares, ares1, isNilSl, reduceCtorEq, Nat.reduceBEq, Nat.reduceAdd, Nat.reduceSub, Nat.reduceMul, Nat.reduceLT, Nat.reduceLeDiff, Nat.reduceDiv, Nat.reduceEqDiff, Int.reduceToNat, CV.one, Value.oneCell', Int.reduceLT, Int.reduceLE, Int.reduceNeg, Int.reduceEq, GV, H0, F0, Int.reduceBEq, Int.reduceBNe, ↓reduceIte, natV_cells, drop_nats, take_nats, head_nats, length_nats, length_natV, all_nats, exIx_natV, cells_natV, Bool.true_or, Bool.or_true, Bool.false_or, Bool.or_false, callOps_value, callOps_builtin, List.append_eq, beq_self_eq_true, Nat.zero_le, Bool.not_true, Bool.not_false, cvt_31_31, ex_conv_same, FS7, stmV_cells, length_stmC hfb, length_stmC hub, all_stmC, put_whole, i64_nat (show i < 9223372036854775807 by omega)]
      refine ⟨i + 1, by omega, by omega, ?_⟩
      rw [hstep, feed_append, hu]
      refine stLe_mk ?_ ?_ ?_ <;> simp only [forall_mem_cons', forall_mem_nil', lk_hit, lk_miss, Nat.reduceBEq, AVle_refl, AVle_bot, AVle_untag, none_or_some, Option.some.injEq, and_true, true_and, length_bytesC, length_ints, length_strs, List.length_append, List.length_cons, List.length_nil]
    · have hend : i = parts.length := by omega
      subst hend
      rw [List.take_length]
      have hfl : (inputOf tag parts).length ≤ 20000000 := by
        have := flat_small parts hp2
        simp only [inputOf, List.length_cons]
        omega
      have hs : sha (inputOf tag parts) = fin (feed s0 (inputOf tag parts)) := rfl
      have hub := hb0 (inputOf tag parts)
      have hun := hn0 (inputOf tag parts)
      generalize feed s0 (inputOf tag parts) = u at hs hub hun ⊢
      have hol : (sha (inputOf tag parts)).length = 32 := outB_length _
      generalize sha (inputOf tag parts) = out at hs hol ⊢
      simp only [zz0, zz1, zz2, zz3, zz4, zz5, zz6, zz7, zz8, zz9, zz10, zz11, zz12, zz13, zz14, zz15, zz16, zz17, zz18, zz19, gateAt, noAssign, resKeys, killAll, siteDsts, isSite, refs, killL, killAV, st0, number, ev, exSl, bnd, bndOK, cellsAV, plain, ofCV, argsOf, argOf, srcOf, partsV, fillC, repeatL, resOf, binV, shV, intV, isShift, strV, unV, ares, ares1, isNilSl, reduceCtorEq, Nat.reduceBEq, Nat.reduceAdd, Nat.reduceSub, Nat.reduceMul, Nat.reduceLT, Nat.reduceLeDiff, Nat.reduceDiv, Nat.reduceEqDiff, Int.reduceToNat, CV.one, Value.oneCell', Int.reduceLT, Int.reduceLE, Int.reduceNeg, Int.reduceEq, GV, H0, F0, Int.reduceBEq, Int.reduceBNe, ↓reduceIte, natV_cells, drop_nats, take_nats, head_nats, length_nats, length_natV, all_nats, exIx_natV, cells_natV, Bool.true_or, Bool.or_true, Bool.false_or, Bool.or_false, callOps_value, callOps_builtin, List.append_eq, beq_self_eq_true, Nat.zero_le, Bool.not_true, Bool.not_false, cvt_31_31, ex_conv_same, take_stmC hub, plain_stmC, length_stmV hub]
      refine call_by (spec_SSum u hub (by omega)) ?_
      rw [← hs]
      have h16 : (List.take 16 out).length = 16 := by rw [List.length_take]; omega
      have e16 : List.take 16 (List.take 16 out) = List.take 16 out := List.take_of_length_le (by omega)
      have e17 : (List.replicate 16 (0 : UInt8)).length = 16 := rfl
      simp only [zz0, zz1, zz2, zz3, zz4, zz5, zz6, zz7, zz8, zz9, zz10, zz11, zz12, zz13, zz14, zz15, zz16, zz17, zz18, zz19, gateAt, noAssign, resKeys, killAll, siteDsts, isSite, refs, killL, killAV, st0, number, ev, exSl, bnd, bndOK, cellsAV, plain, ofCV, argsOf, argOf, srcOf, partsV, fillC, repeatL, resOf, binV, shV, intV, isShift, strV, unV, ares, ares1, isNilSl, reduceCtorEq, Nat.reduceBEq, Nat.reduceAdd, Nat.reduceSub, Nat.reduceMul, Nat.reduceLT, Nat.reduceLeDiff, Nat.reduceDiv, Nat.reduceEqDiff, Int.reduceToNat, CV.one, Value.oneCell', Int.reduceLT, Int.reduceLE, Int.reduceNeg, Int.reduceEq, GV, H0, F0, Int.reduceBEq, Int.reduceBNe, ↓reduceIte, natV_cells, drop_nats, take_nats, head_nats, length_nats, length_natV, all_nats, exIx_natV, cells_natV, Bool.true_or, Bool.or_true, Bool.false_or, Bool.or_false, callOps_value, callOps_builtin, List.append_eq, beq_self_eq_true, Nat.zero_le, Bool.not_true, Bool.not_false, cvt_31_31, ex_conv_same, put_whole, hol, h16, e16, e17, ret_bytes]
end Abs
end Go.Proofs.YtkdpmjgigknbpaaDoor
