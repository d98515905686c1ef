/-
  Walks: the hash of a stream.
-/
import Derived.Test.YtkdpmjgigknbpaaDoorS4
namespace Go.Proofs.YtkdpmjgigknbpaaDoor
namespace Abs
open Go.RowKit Sha
set_option linter.unusedSimpArgs false
set_option linter.unusedVariables false
theorem head_stm {K : Res → Prop} (s : Str) {q : Nat} (hq : q < 8) : exHead ((stmC s).drop q).head? K = K (rv (.v (.int .u32 ((s.st.words.getD q 0 : Nat) : Int)))) := by
  have h : q = 0 ∨ q = 1 ∨ q = 2 ∨ q = 3 ∨ q = 4 ∨ q = 5 ∨ q = 6 ∨ q = 7 := by omega
  rcases h with rfl | rfl | rfl | rfl | rfl | rfl | rfl | rfl <;> rfl
theorem tdiv_nat (a b : Nat) : Int.tdiv (a : Int) (b : Int) = ((a / b : Nat) : Int) := by
  rw [Int.tdiv_eq_ediv_of_nonneg (by omega)]; simp
theorem put_single (a b : CV) : putL [a] 0 [b] = [b] := rfl
theorem byte0 : [CV.v (Value.int .u8 0)] = bytesC [0] := rfl
def padZ (z : Nat) : List UInt8 := 128 :: List.replicate z 0
theorem padZ_succ (z : Nat) : padZ (z + 1) = padZ z ++ [0] := by simp [padZ, List.replicate_succ']
def beT (m i : Nat) : List UInt8 := (List.range i).map fun i => UInt8.ofNat (m / 2 ^ (56 - 8 * i))
theorem beT_succ (m i : Nat) : beT m (i + 1) = beT m i ++ [UInt8.ofNat (m / 2 ^ (56 - 8 * i))] := by simp [beT, List.range_succ]
def outT (s : R8) (i : Nat) : List UInt8 := ((List.range i).map fun i => UInt8.ofNat (s.words.getD (i / 4) 0 / 2 ^ (24 - 8 * (i % 4)))) ++ List.replicate (32 - i) 0
theorem outT_set (s : R8) {i : Nat} (h : i < 32) : (outT s i).set i (UInt8.ofNat (s.words.getD (i / 4) 0 / 2 ^ (24 - 8 * (i % 4)))) = outT s (i + 1) := by
  have e : 32 - i = (32 - (i + 1)) + 1 := by omega
  unfold outT
  rw [List.set_append_right _ _ (by simp), e, List.replicate_succ]
  simp [List.range_succ]
theorem outT_length (s : R8) {i : Nat} (h : i ≤ 32) : (outT s i).length = 32 := by simp [outT]; omega
theorem byte_nat (a : Nat) : IntKind.u8.wrap (a : Int) = ((UInt8.ofNat a).toNat : Int) := by rw [IntKind.wrap_u8]; simp
theorem ret_bytes (l : List UInt8) (n : Nat) (v : Value) : (∃ x, plain (bytesC l) = some x ∧ x.length = n ∧ v = Value.agg x.toArray) = (l.length = n ∧ v = aggB l) := by
  rw [plain_bytesC]
  simp [aggB]
set_option maxRecDepth 100000 in
set_option maxHeartbeats 4000000 in
theorem spec_SSum (s : Str) (hb : s.bl.length = 64) (hn : s.n ≤ 100000000000) : SP 36 [.v (.agg (stmV s).toArray)] (.v (aggB (fin s))) := by
  refine spec_fn (H := H0) (F := F0) Tryd.func36 rfl Tryd.ntmps36 Tryd.results36 (by kernel_rfl) rfl (by simp) ?_
  have w8 : IntKind.u64.wrap (8 * (s.n : Int)) = ((8 * s.n % 18446744073709551616 : Nat) : Int) := by rw [IntKind.wrap_u64]; omega
  have wn : IntKind.i64.wrap (s.n : Int) = (s.n : Int) := i64_wrap (by omega) (by omega)
  simp only [zz0, zz1, zz2, zz3, zz4, zz5, zz6, zz7, zz8, zz9, zz10, zz11, zz12, zz13, zz14, zz15, zz16, zz17, zz18, zz19, gateAt, noAssign, resKeys, killAll, siteDsts, isSite, refs, killL, killAV, st0, number, ev, exSl, bnd, bndOK, cellsAV, plain, ofCV, argsOf, argOf, srcOf, partsV, fillC, repeatL, resOf, binV, shV, intV, isShift, strV, unV, ares, ares1, isNilSl, reduceCtorEq, Nat.reduceBEq, Nat.reduceAdd, Nat.reduceSub, Nat.reduceMul, Nat.reduceLT, Nat.reduceLeDiff, Nat.reduceDiv, Nat.reduceEqDiff, Int.reduceToNat, CV.one, Value.oneCell', Int.reduceLT, Int.reduceLE, Int.reduceNeg, Int.reduceEq, GV, H0, F0, Int.reduceBEq, Int.reduceBNe, ↓reduceIte, natV_cells, drop_nats, take_nats, head_nats, length_nats, length_natV, all_nats, exIx_natV, cells_natV, Bool.true_or, Bool.or_true, Bool.false_or, Bool.or_false, callOps_value, callOps_builtin, List.append_eq, beq_self_eq_true, Nat.zero_le, Bool.not_true, Bool.not_false, cvt_31_31, ex_conv_same, stmV_cells, length_stmC hb, drop72 hb, w8]
  refine loop_by (X := Nat) (fun z => ⟨S [(4, .sl (some 4) 1 (bytesC (padZ z))), (3, .v (.int .u64 ((8 * s.n % 18446744073709551616 : Nat) : Int))), (1, .bp 1 0), (2, .bp 2 0)], B [(1, some (stmC s)), (2, some (bytesC (List.replicate 32 0)))], O [(4, some (bytesC (padZ z)).length)]⟩)
    (fun z => z ≤ zeros s.n) (fun z => zeros s.n - z) 0 (Nat.zero_le _) ?_ ?_
  · refine stLe_mk ?_ ?_ ?_ <;> simp only [forall_mem_cons', forall_mem_nil', lk_hit, lk_miss, Nat.reduceBEq, AVle_refl, AVle_bot, AVle_untag, none_or_some, Option.some.injEq, and_true, true_and, length_bytesC, length_ints, length_strs, List.length_append, List.length_cons, List.length_nil]
    · exact AVle_of_eq rfl
    · rfl
    · rfl
  · intro z hz
    have hz2 : zeros s.n < 64 := by unfold zeros; omega
    have hzl : (padZ z).length = z + 1 := by simp [padZ]
    have w1 : IntKind.i64.wrap ((s.n : Int) + ((z + 1 : Nat) : Int)) = ((s.n + (z + 1) : Nat) : Int) := by rw [i64_wrap (by omega) (by omega)]; omega
    have w2 : Int.tmod ((s.n + (z + 1) : Nat) : Int) 64 = (((s.n + (z + 1)) % 64 : Nat) : Int) := tmod_nat _ 64
    obtain ⟨c, hc⟩ : ∃ c, ((((s.n + (z + 1)) % 64 : Nat) : Int) != 56) = c := ⟨_, rfl⟩
    cases c
    · have he : (s.n + (z + 1)) % 64 = 56 := by
        have := bne_eq_false_iff_eq.1 hc
        omega
      have hzz : z = zeros s.n := by unfold zeros at *; omega
      subst hzz
      have hpad : pad s.n = padZ (zeros s.n) ++ beT (8 * s.n % 18446744073709551616) 8 := rfl
      have hbl : ∀ i, (beT (8 * s.n % 18446744073709551616) i).length = i := fun i => by simp [beT]
      have hpl : (pad s.n).length ≤ 80 := by rw [hpad, List.length_append, hbl, hzl]; omega
      simp only [zz0, zz1, zz2, zz3, zz4, zz5, zz6, zz7, zz8, zz9, zz10, zz11, zz12, zz13, zz14, zz15, zz16, zz17, zz18, zz19, gateAt, noAssign, resKeys, killAll, siteDsts, isSite, refs, killL, killAV, st0, number, ev, exSl, bnd, bndOK, cellsAV, plain, ofCV, argsOf, argOf, srcOf, partsV, fillC, repeatL, resOf, binV, shV, intV, isShift, strV, unV, ares, ares1, isNilSl, reduceCtorEq, Nat.reduceBEq, Nat.reduceAdd, Nat.reduceSub, Nat.reduceMul, Nat.reduceLT, Nat.reduceLeDiff, Nat.reduceDiv, Nat.reduceEqDiff, Int.reduceToNat, CV.one, Value.oneCell', Int.reduceLT, Int.reduceLE, Int.reduceNeg, Int.reduceEq, GV, H0, F0, Int.reduceBEq, Int.reduceBNe, ↓reduceIte, natV_cells, drop_nats, take_nats, head_nats, length_nats, length_natV, all_nats, exIx_natV, cells_natV, Bool.true_or, Bool.or_true, Bool.false_or, Bool.or_false, callOps_value, callOps_builtin, List.append_eq, beq_self_eq_true, Nat.zero_le, Bool.not_true, Bool.not_false, cvt_31_31, ex_conv_same, stmV_cells, length_stmC hb, drop72 hb, wn, hzl, w1, w2, hc]
      refine loop_by (X := Nat) (fun i => ⟨S [(23, .v (.int .i64 i)), (4, .sl (some 4) 1 (bytesC (padZ (zeros s.n) ++ beT (8 * s.n % 18446744073709551616) i))), (3, .v (.int .u64 ((8 * s.n % 18446744073709551616 : Nat) : Int))), (1, .bp 1 0), (2, .bp 2 0)], B [(1, some (stmC s)), (2, some (bytesC (List.replicate 32 0)))], O [(4, some (bytesC (padZ (zeros s.n) ++ beT (8 * s.n % 18446744073709551616) i)).length)]⟩)
        (fun i => i ≤ 8) (fun i => 8 - i) 0 (Nat.zero_le _) ?_ ?_
      · refine stLe_mk ?_ ?_ ?_ <;> simp only [forall_mem_cons', forall_mem_nil', lk_hit, lk_miss, Nat.reduceBEq, AVle_refl, AVle_bot, AVle_untag, none_or_some, Option.some.injEq, and_true, true_and, length_bytesC, length_ints, length_strs, List.length_append, List.length_cons, List.length_nil]
        · simp [beT, AVle_refl]
        · rw [hzl]; simp [beT]
      · intro i hi
        have hbi := hbl i
        simp only [zz0, zz1, zz2, zz3, zz4, zz5, zz6, zz7, zz8, zz9, zz10, zz11, zz12, zz13, zz14, zz15, zz16, zz17, zz18, zz19, gateAt, noAssign, resKeys, killAll, siteDsts, isSite, refs, killL, killAV, st0, number, ev, exSl, bnd, bndOK, cellsAV, plain, ofCV, argsOf, argOf, srcOf, partsV, fillC, repeatL, resOf, binV, shV, intV, isShift, strV, unV, ares, ares1, isNilSl, reduceCtorEq, Nat.reduceBEq, Nat.reduceAdd, Nat.reduceSub, Nat.reduceMul, Nat.reduceLT, Nat.reduceLeDiff, Nat.reduceDiv, Nat.reduceEqDiff, Int.reduceToNat, CV.one, Value.oneCell', Int.reduceLT, Int.reduceLE, Int.reduceNeg, Int.reduceEq, GV, H0, F0, Int.reduceBEq, Int.reduceBNe, ↓reduceIte, natV_cells, drop_nats, take_nats, head_nats, length_nats, length_natV, all_nats, exIx_natV, cells_natV, Bool.true_or, Bool.or_true, Bool.false_or, Bool.or_false, callOps_value, callOps_builtin, List.append_eq, beq_self_eq_true, Nat.zero_le, Bool.not_true, Bool.not_false, cvt_31_31, ex_conv_same]
        refine cond_dec (fun hc => ?_) (fun hc => ?_)
        · have hi' : i < 8 := by omega
          have v1 : IntKind.i64.wrap (8 * (i : Int)) = ((8 * i : Nat) : Int) := by rw [i64_wrap (by omega) (by omega)]; omega
          have v2 : IntKind.i64.wrap (56 - ((8 * i : Nat) : Int)) = ((56 - 8 * i : Nat) : Int) := by rw [i64_wrap (by omega) (by omega)]; omega
          have v3 : (((56 - 8 * i : Nat) : Int) < 0) = False := eq_false (by omega)
          have v4 : ((8 * s.n % 18446744073709551616 : Nat) : Int).fdiv (2 ^ (min (56 - 8 * i) IntKind.u64.bits)) = ((8 * s.n % 18446744073709551616 / 2 ^ (56 - 8 * i) : Nat) : Int) := shr_nat _ _ (by show 56 - 8 * i ≤ 64; omega)
          simp only [zz0, zz1, zz2, zz3, zz4, zz5, zz6, zz7, zz8, zz9, zz10, zz11, zz12, zz13, zz14, zz15, zz16, zz17, zz18, zz19, gateAt, noAssign, resKeys, killAll, siteDsts, isSite, refs, killL, killAV, st0, number, ev, exSl, bnd, bndOK, cellsAV, plain, ofCV, argsOf, argOf, srcOf, partsV, fillC, repeatL, resOf, binV, shV, intV, isShift, strV, unV, ares, ares1, isNilSl, reduceCtorEq, Nat.reduceBEq, Nat.reduceAdd, Nat.reduceSub, Nat.reduceMul, Nat.reduceLT, Nat.reduceLeDiff, Nat.reduceDiv, Nat.reduceEqDiff, Int.reduceToNat, CV.one, Value.oneCell', Int.reduceLT, Int.reduceLE, Int.reduceNeg, Int.reduceEq, GV, H0, F0, Int.reduceBEq, Int.reduceBNe, ↓reduceIte, natV_cells, drop_nats, take_nats, head_nats, length_nats, length_natV, all_nats, exIx_natV, cells_natV, Bool.true_or, Bool.or_true, Bool.false_or, Bool.or_false, callOps_value, callOps_builtin, List.append_eq, beq_self_eq_true, Nat.zero_le, Bool.not_true, Bool.not_false, cvt_31_31, ex_conv_same, v1, v2, v3, v4, byte_nat, put_whole, byteC1, ← bytesC_append, List.append_assoc, ← beT_succ, i64_nat (show i < 9223372036854775807 by omega)]
          refine ⟨by rw [List.length_append, hbi, hzl]; omega, by rw [List.length_append, hbi, hzl]; omega, i + 1, by omega, by omega, ?_⟩
          refine stLe_mk ?_ ?_ ?_ <;> simp only [forall_mem_cons', forall_mem_nil', lk_hit, lk_miss, Nat.reduceBEq, AVle_refl, AVle_bot, AVle_untag, none_or_some, Option.some.injEq, and_true, true_and, length_bytesC, length_ints, length_strs, List.length_append, List.length_cons, List.length_nil]
        · have h8 : i = 8 := by omega
          subst h8
          rw [← hpad]
          simp only [zz0, zz1, zz2, zz3, zz4, zz5, zz6, zz7, zz8, zz9, zz10, zz11, zz12, zz13, zz14, zz15, zz16, zz17, zz18, zz19, gateAt, noAssign, resKeys, killAll, siteDsts, isSite, refs, killL, killAV, st0, number, ev, exSl, bnd, bndOK, cellsAV, plain, ofCV, argsOf, argOf, srcOf, partsV, fillC, repeatL, resOf, binV, shV, intV, isShift, strV, unV, ares, ares1, isNilSl, reduceCtorEq, Nat.reduceBEq, Nat.reduceAdd, Nat.reduceSub, Nat.reduceMul, Nat.reduceLT, Nat.reduceLeDiff, Nat.reduceDiv, Nat.reduceEqDiff, Int.reduceToNat, CV.one, Value.oneCell', Int.reduceLT, Int.reduceLE, Int.reduceNeg, Int.reduceEq, GV, H0, F0, Int.reduceBEq, Int.reduceBNe, ↓reduceIte, natV_cells, drop_nats, take_nats, head_nats, length_nats, length_natV, all_nats, exIx_natV, cells_natV, Bool.true_or, Bool.or_true, Bool.false_or, Bool.or_false, callOps_value, callOps_builtin, List.append_eq, beq_self_eq_true, Nat.zero_le, Bool.not_true, Bool.not_false, cvt_31_31, ex_conv_same, take_stmC hb, plain_stmC, length_stmV hb]
          refine call_by (spec_SAdd s (pad s.n) hb (by omega)) ?_
          have hfb : (feed s (pad s.n)).bl.length = 64 := by rw [feed_bl, hb]
          have hfin : fin s = outB (feed s (pad s.n)).st := rfl
          generalize feed s (pad s.n) = u at hfb hfin ⊢
          simp only [zz0, zz1, zz2, zz3, zz4, zz5, zz6, zz7, zz8, zz9, zz10, zz11, zz12, zz13, zz14, zz15, zz16, zz17, zz18, zz19, gateAt, noAssign, resKeys, killAll, siteDsts, isSite, refs, killL, killAV, st0, number, ev, exSl, bnd, bndOK, cellsAV, plain, ofCV, argsOf, argOf, srcOf, partsV, fillC, repeatL, resOf, binV, shV, intV, isShift, strV, unV, ares, ares1, isNilSl, reduceCtorEq, Nat.reduceBEq, Nat.reduceAdd, Nat.reduceSub, Nat.reduceMul, Nat.reduceLT, Nat.reduceLeDiff, Nat.reduceDiv, Nat.reduceEqDiff, Int.reduceToNat, CV.one, Value.oneCell', Int.reduceLT, Int.reduceLE, Int.reduceNeg, Int.reduceEq, GV, H0, F0, Int.reduceBEq, Int.reduceBNe, ↓reduceIte, natV_cells, drop_nats, take_nats, head_nats, length_nats, length_natV, all_nats, exIx_natV, cells_natV, Bool.true_or, Bool.or_true, Bool.false_or, Bool.or_false, callOps_value, callOps_builtin, List.append_eq, beq_self_eq_true, Nat.zero_le, Bool.not_true, Bool.not_false, cvt_31_31, ex_conv_same, stmV_cells, length_stmC hb, length_stmC hfb, put_whole, all_stmC]
          refine loop_by (X := Nat) (fun i => ⟨S [(40, .v (.int .i64 i)), (6, .bp 6 0), (1, .bp 1 0), (2, .bp 2 0)], B [(6, some (bytesC (outT u.st i))), (1, some (stmC u)), (2, some (bytesC (List.replicate 32 0)))], O []⟩)
            (fun i => i ≤ 32) (fun i => 32 - i) 0 (Nat.zero_le _) ?_ ?_
          · refine stLe_mk ?_ ?_ ?_ <;> simp only [forall_mem_cons', forall_mem_nil', lk_hit, lk_miss, Nat.reduceBEq, AVle_refl, AVle_bot, AVle_untag, none_or_some, Option.some.injEq, and_true, true_and, length_bytesC, length_ints, length_strs, List.length_append, List.length_cons, List.length_nil]
            · exact AVle_of_eq rfl
            · rfl
          · intro i hi
            have hol := outT_length u.st hi
            simp only [zz0, zz1, zz2, zz3, zz4, zz5, zz6, zz7, zz8, zz9, zz10, zz11, zz12, zz13, zz14, zz15, zz16, zz17, zz18, zz19, gateAt, noAssign, resKeys, killAll, siteDsts, isSite, refs, killL, killAV, st0, number, ev, exSl, bnd, bndOK, cellsAV, plain, ofCV, argsOf, argOf, srcOf, partsV, fillC, repeatL, resOf, binV, shV, intV, isShift, strV, unV, ares, ares1, isNilSl, reduceCtorEq, Nat.reduceBEq, Nat.reduceAdd, Nat.reduceSub, Nat.reduceMul, Nat.reduceLT, Nat.reduceLeDiff, Nat.reduceDiv, Nat.reduceEqDiff, Int.reduceToNat, CV.one, Value.oneCell', Int.reduceLT, Int.reduceLE, Int.reduceNeg, Int.reduceEq, GV, H0, F0, Int.reduceBEq, Int.reduceBNe, ↓reduceIte, natV_cells, drop_nats, take_nats, head_nats, length_nats, length_natV, all_nats, exIx_natV, cells_natV, Bool.true_or, Bool.or_true, Bool.false_or, Bool.or_false, callOps_value, callOps_builtin, List.append_eq, beq_self_eq_true, Nat.zero_le, Bool.not_true, Bool.not_false, cvt_31_31, ex_conv_same]
            refine cond_dec (fun hc => ?_) (fun hc => ?_)
            · have hi' : i < 32 := by omega
              have v1 : Int.tdiv (i : Int) 4 = ((i / 4 : Nat) : Int) := tdiv_nat i 4
              have v2 : IntKind.i64.wrap ((i / 4 : Nat) : Int) = ((i / 4 : Nat) : Int) := i64_wrap (by omega) (by omega)
              have v3 : Int.tmod (i : Int) 4 = ((i % 4 : Nat) : Int) := tmod_nat i 4
              have v4 : IntKind.i64.wrap (8 * ((i % 4 : Nat) : Int)) = ((8 * (i % 4) : Nat) : Int) := by rw [i64_wrap (by omega) (by omega)]; omega
              have v5 : IntKind.i64.wrap (24 - ((8 * (i % 4) : Nat) : Int)) = ((24 - 8 * (i % 4) : Nat) : Int) := by rw [i64_wrap (by omega) (by omega)]; omega
              have v6 : (((24 - 8 * (i % 4) : Nat) : Int) < 0) = False := eq_false (by omega)
              have v7 : ∀ x : Nat, (x : Int).fdiv (2 ^ (min (24 - 8 * (i % 4)) IntKind.u32.bits)) = ((x / 2 ^ (24 - 8 * (i % 4)) : Nat) : Int) := fun x => shr_nat _ _ (by show 24 - 8 * (i % 4) ≤ 32; omega)
              have v8 : ((i / 4 : Nat) : Int) < 8 := by omega
              have v9 : i / 4 < 8 := by omega
              simp only [zz0, zz1, zz2, zz3, zz4, zz5, zz6, zz7, zz8, zz9, zz10, zz11, zz12, zz13, zz14, zz15, zz16, zz17, zz18, zz19, gateAt, noAssign, resKeys, killAll, siteDsts, isSite, refs, killL, killAV, st0, number, ev, exSl, bnd, bndOK, cellsAV, plain, ofCV, argsOf, argOf, srcOf, partsV, fillC, repeatL, resOf, binV, shV, intV, isShift, strV, unV, ares, ares1, isNilSl, reduceCtorEq, Nat.reduceBEq, Nat.reduceAdd, Nat.reduceSub, Nat.reduceMul, Nat.reduceLT, Nat.reduceLeDiff, Nat.reduceDiv, Nat.reduceEqDiff, Int.reduceToNat, CV.one, Value.oneCell', Int.reduceLT, Int.reduceLE, Int.reduceNeg, Int.reduceEq, GV, H0, F0, Int.reduceBEq, Int.reduceBNe, ↓reduceIte, natV_cells, drop_nats, take_nats, head_nats, length_nats, length_natV, all_nats, exIx_natV, cells_natV, Bool.true_or, Bool.or_true, Bool.false_or, Bool.or_false, callOps_value, callOps_builtin, List.append_eq, beq_self_eq_true, Nat.zero_le, Bool.not_true, Bool.not_false, cvt_31_31, ex_conv_same, v1, v2, v3, v4, v5, v6, v7, v8, head_stm u v9, byte_nat, hc, hol, put_bytes _ i _ (by omega : i < (outT u.st i).length), outT_set u.st hi', i64_nat (show i < 9223372036854775807 by omega)]
              refine ⟨by omega, i + 1, by omega, by omega, ?_⟩
              refine stLe_mk ?_ ?_ ?_ <;> simp only [forall_mem_cons', forall_mem_nil', lk_hit, lk_miss, Nat.reduceBEq, AVle_refl, AVle_bot, AVle_untag, none_or_some, Option.some.injEq, and_true, true_and, length_bytesC, length_ints, length_strs, List.length_append, List.length_cons, List.length_nil]
            · have h32 : i = 32 := by omega
              subst h32
              have e32 : List.take 32 (outT u.st 32) = outT u.st 32 := List.take_of_length_le (by omega)
              have e33 : outT u.st 32 = outB u.st := by simp [outT, outB]
              have e34 : putL (bytesC (List.replicate 32 0)) 0 (bytesC (outT u.st 32)) = bytesC (outT u.st 32) := put_whole (by rw [length_bytesC, length_bytesC, hol]; simp)
              have e35 : (List.replicate 32 (0 : UInt8)).length = 32 := rfl
              simp only [zz0, zz1, zz2, zz3, zz4, zz5, zz6, zz7, zz8, zz9, zz10, zz11, zz12, zz13, zz14, zz15, zz16, zz17, zz18, zz19, gateAt, noAssign, resKeys, killAll, siteDsts, isSite, refs, killL, killAV, st0, number, ev, exSl, bnd, bndOK, cellsAV, plain, ofCV, argsOf, argOf, srcOf, partsV, fillC, repeatL, resOf, binV, shV, intV, isShift, strV, unV, ares, ares1, isNilSl, reduceCtorEq, Nat.reduceBEq, Nat.reduceAdd, Nat.reduceSub, Nat.reduceMul, Nat.reduceLT, Nat.reduceLeDiff, Nat.reduceDiv, Nat.reduceEqDiff, Int.reduceToNat, CV.one, Value.oneCell', Int.reduceLT, Int.reduceLE, Int.reduceNeg, Int.reduceEq, GV, H0, F0, Int.reduceBEq, Int.reduceBNe, ↓reduceIte, natV_cells, drop_nats, take_nats, head_nats, length_nats, length_natV, all_nats, exIx_natV, cells_natV, Bool.true_or, Bool.or_true, Bool.false_or, Bool.or_false, callOps_value, callOps_builtin, List.append_eq, beq_self_eq_true, Nat.zero_le, Bool.not_true, Bool.not_false, cvt_31_31, ex_conv_same, e32, hol, e34, e35, ret_bytes]
              rw [hfin, ← e33]
    · have he : ¬ (s.n + (z + 1)) % 64 = 56 := by
        intro e
        rw [e] at hc; exact absurd hc (by decide)
      have hzz : z < zeros s.n := by
        rcases Nat.lt_or_ge z (zeros s.n) with h | h
        · exact h
        · exfalso; apply he; unfold zeros at *; omega
      simp only [zz0, zz1, zz2, zz3, zz4, zz5, zz6, zz7, zz8, zz9, zz10, zz11, zz12, zz13, zz14, zz15, zz16, zz17, zz18, zz19, gateAt, noAssign, resKeys, killAll, siteDsts, isSite, refs, killL, killAV, st0, number, ev, exSl, bnd, bndOK, cellsAV, plain, ofCV, argsOf, argOf, srcOf, partsV, fillC, repeatL, resOf, binV, shV, intV, isShift, strV, unV, ares, ares1, isNilSl, reduceCtorEq, Nat.reduceBEq, Nat.reduceAdd, Nat.reduceSub, Nat.reduceMul, Nat.reduceLT, Nat.reduceLeDiff, Nat.reduceDiv, Nat.reduceEqDiff, Int.reduceToNat, CV.one, Value.oneCell', Int.reduceLT, Int.reduceLE, Int.reduceNeg, Int.reduceEq, GV, H0, F0, Int.reduceBEq, Int.reduceBNe, ↓reduceIte, natV_cells, drop_nats, take_nats, head_nats, length_nats, length_natV, all_nats, exIx_natV, cells_natV, Bool.true_or, Bool.or_true, Bool.false_or, Bool.or_false, callOps_value, callOps_builtin, List.append_eq, beq_self_eq_true, Nat.zero_le, Bool.not_true, Bool.not_false, cvt_31_31, ex_conv_same, stmV_cells, length_stmC hb, drop72 hb, wn, hzl, w1, w2, hc, put_whole, byte0, ← bytesC_append, ← padZ_succ]
      refine ⟨by omega, by omega, z + 1, by omega, by omega, ?_⟩
      refine stLe_mk ?_ ?_ ?_ <;> simp only [forall_mem_cons', forall_mem_nil', lk_hit, lk_miss, Nat.reduceBEq, AVle_refl, AVle_bot, AVle_untag, none_or_some, Option.some.injEq, and_true, true_and, length_bytesC, length_ints, length_strs, List.length_append, List.length_cons, List.length_nil]
theorem outB_length (s : R8) : (outB s).length = 32 := by simp [outB]
theorem spec_Sum (l : List UInt8) (hl : l.length ≤ 10000000000) : SP 20 [.sl none 1 (bytesC l)] (.v (aggB (sha l))) := by
  refine spec_fn (H := H0) (F := fun _ k => if k = 5 then ([2], [2]) else ([], [])) Tryd.func20 rfl Tryd.ntmps20 Tryd.results20 (by kernel_rfl) rfl (by simp) ?_
  simp only [zz0, zz1, zz2, zz3, zz4, zz5, zz6, zz7, zz8, zz9, zz10, zz11, zz12, zz13, zz14, zz15, zz16, zz17, zz18, zz19, gateAt, noAssign, resKeys, killAll, siteDsts, isSite, refs, killL, killAV, st0, number, ev, exSl, bnd, bndOK, cellsAV, plain, ofCV, argsOf, argOf, srcOf, partsV, fillC, repeatL, resOf, binV, shV, intV, isShift, strV, unV, ares, ares1, isNilSl, reduceCtorEq, Nat.reduceBEq, Nat.reduceAdd, Nat.reduceSub, Nat.reduceMul, Nat.reduceLT, Nat.reduceLeDiff, Nat.reduceDiv, Nat.reduceEqDiff, Int.reduceToNat, CV.one, Value.oneCell', Int.reduceLT, Int.reduceLE, Int.reduceNeg, Int.reduceEq, GV, H0, F0, Int.reduceBEq, Int.reduceBNe, ↓reduceIte, natV_cells, drop_nats, take_nats, head_nats, length_nats, length_natV, all_nats, exIx_natV, cells_natV, Bool.true_or, Bool.or_true, Bool.false_or, Bool.or_false, callOps_value, callOps_builtin, List.append_eq, beq_self_eq_true, Nat.zero_le, Bool.not_true, Bool.not_false, cvt_31_31, ex_conv_same]
  refine ⟨by kernel_rfl, ?_⟩
  refine call_by spec_Begin ?_
  simp only [zz0, zz1, zz2, zz3, zz4, zz5, zz6, zz7, zz8, zz9, zz10, zz11, zz12, zz13, zz14, zz15, zz16, zz17, zz18, zz19, gateAt, noAssign, resKeys, killAll, siteDsts, isSite, refs, killL, killAV, st0, number, ev, exSl, bnd, bndOK, cellsAV, plain, ofCV, argsOf, argOf, srcOf, partsV, fillC, repeatL, resOf, binV, shV, intV, isShift, strV, unV, ares, ares1, isNilSl, reduceCtorEq, Nat.reduceBEq, Nat.reduceAdd, Nat.reduceSub, Nat.reduceMul, Nat.reduceLT, Nat.reduceLeDiff, Nat.reduceDiv, Nat.reduceEqDiff, Int.reduceToNat, CV.one, Value.oneCell', Int.reduceLT, Int.reduceLE, Int.reduceNeg, Int.reduceEq, GV, H0, F0, Int.reduceBEq, Int.reduceBNe, ↓reduceIte, natV_cells, drop_nats, take_nats, head_nats, length_nats, length_natV, all_nats, exIx_natV, cells_natV, Bool.true_or, Bool.or_true, Bool.false_or, Bool.or_false, callOps_value, callOps_builtin, List.append_eq, beq_self_eq_true, Nat.zero_le, Bool.not_true, Bool.not_false, cvt_31_31, ex_conv_same]
  refine call_by (spec_SAdd s0 l rfl (by show 0 + l.length ≤ _; omega)) ?_
  have hfb : (feed s0 l).bl.length = 64 := by rw [feed_bl]; rfl
  have hfn : (feed s0 l).n = l.length := by rw [feed_n]; show 0 + l.length = _; omega
  have hs : sha l = fin (feed s0 l) := rfl
  have hol : (sha l).length = 32 := outB_length _
  have e32 : List.take 32 (sha l) = sha l := List.take_of_length_le (by omega)
  simp only [zz0, zz1, zz2, zz3, zz4, zz5, zz6, zz7, zz8, zz9, zz10, zz11, zz12, zz13, zz14, zz15, zz16, zz17, zz18, zz19, gateAt, noAssign, resKeys, killAll, siteDsts, isSite, refs, killL, killAV, st0, number, ev, exSl, bnd, bndOK, cellsAV, plain, ofCV, argsOf, argOf, srcOf, partsV, fillC, repeatL, resOf, binV, shV, intV, isShift, strV, unV, ares, ares1, isNilSl, reduceCtorEq, Nat.reduceBEq, Nat.reduceAdd, Nat.reduceSub, Nat.reduceMul, Nat.reduceLT, Nat.reduceLeDiff, Nat.reduceDiv, Nat.reduceEqDiff, Int.reduceToNat, CV.one, Value.oneCell', Int.reduceLT, Int.reduceLE, Int.reduceNeg, Int.reduceEq, GV, H0, F0, Int.reduceBEq, Int.reduceBNe, ↓reduceIte, natV_cells, drop_nats, take_nats, head_nats, length_nats, length_natV, all_nats, exIx_natV, cells_natV, Bool.true_or, Bool.or_true, Bool.false_or, Bool.or_false, callOps_value, callOps_builtin, List.append_eq, beq_self_eq_true, Nat.zero_le, Bool.not_true, Bool.not_false, cvt_31_31, ex_conv_same]
  refine call_by (spec_SSum (feed s0 l) hfb (by omega)) ?_
  simp only [zz0, zz1, zz2, zz3, zz4, zz5, zz6, zz7, zz8, zz9, zz10, zz11, zz12, zz13, zz14, zz15, zz16, zz17, zz18, zz19, gateAt, noAssign, resKeys, killAll, siteDsts, isSite, refs, killL, killAV, st0, number, ev, exSl, bnd, bndOK, cellsAV, plain, ofCV, argsOf, argOf, srcOf, partsV, fillC, repeatL, resOf, binV, shV, intV, isShift, strV, unV, ares, ares1, isNilSl, reduceCtorEq, Nat.reduceBEq, Nat.reduceAdd, Nat.reduceSub, Nat.reduceMul, Nat.reduceLT, Nat.reduceLeDiff, Nat.reduceDiv, Nat.reduceEqDiff, Int.reduceToNat, CV.one, Value.oneCell', Int.reduceLT, Int.reduceLE, Int.reduceNeg, Int.reduceEq, GV, H0, F0, Int.reduceBEq, Int.reduceBNe, ↓reduceIte, natV_cells, drop_nats, take_nats, head_nats, length_nats, length_natV, all_nats, exIx_natV, cells_natV, Bool.true_or, Bool.or_true, Bool.false_or, Bool.or_false, callOps_value, callOps_builtin, List.append_eq, beq_self_eq_true, Nat.zero_le, Bool.not_true, Bool.not_false, cvt_31_31, ex_conv_same, put_whole, hol, e32, ret_bytes, ← hs]
end Abs
end Go.Proofs.YtkdpmjgigknbpaaDoor
