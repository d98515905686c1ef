/-
  The walk of HashCrcBursts.
-/
import Derived.Test.YtkdpmjgigknbpaaDoorL5
import Derived.Test.YtkdpmjgigknbpaaDoorL32
namespace Go.Proofs.YtkdpmjgigknbpaaDoor
namespace Abs
open Go.RowKit Crc
set_option linter.unusedSimpArgs false
set_option linter.unusedVariables false
def H12 : Nat → Bool := fun n => n == 25
def F12 : Nat → Nat → List Nat × List Nat := fun _ k => if k = 14 then ([25], [25]) else ([25], [])
theorem h12 : H12 25 = true := rfl
theorem pat_bit {x : Nat} (k : Nat) (hx : x < 18446744073709551616) (hk : k < 40) : bits .and .u64 ((x : Int).fdiv (2 ^ (min k IntKind.u64.bits))) 1 = (((x.testBit k).toNat : Nat) : Int) := by
  have hd : x / 2 ^ k ≤ x := Nat.div_le_self _ _
  rw [shr_nat x k (by show k ≤ 64; omega), and1 _ (by omega), Nat.toNat_testBit]
def anyP (p : Nat → Bool) : Nat → Bool
  | 0 => false
  | k + 1 => anyP p k || p k
theorem anyP_false {p : Nat → Bool} : ∀ k, anyP p k = false ↔ ∀ i, i < k → p i = false
  | 0 => by simp [anyP]
  | k + 1 => by
    simp only [anyP, Bool.or_eq_false_iff, anyP_false k]
    constructor
    · rintro ⟨h1, h2⟩ i hi
      by_cases h : i = k
      · subst h; exact h2
      · exact h1 i (by omega)
    · intro h
      exact ⟨fun i hi => h i (by omega), h k (by omega)⟩
theorem u8_pow {q : Nat} (h : q < 8) : IntKind.u8.wrap (1 * 2 ^ (min (7 - q) IntKind.u8.bits)) = ((UInt8.ofNat (2 ^ (7 - q))).toNat : Int) := by
  have : ∀ q : Fin 8, IntKind.u8.wrap (1 * 2 ^ (min (7 - q.val) IntKind.u8.bits)) = ((UInt8.ofNat (2 ^ (7 - q.val))).toNat : Int) := by decide
  exact this ⟨q, h⟩
set_option maxRecDepth 100000 in
set_option maxHeartbeats 4000000 in
theorem spec_LBursts (a : List UInt8) (at_ pt : Int) (h1 : 0 ≤ at_) (h2 : at_ ≤ 65535) (h3 : 0 ≤ pt) (h4 : pt ≤ 18446744073709551615) :
    SP 12 [.sl none 1 (bytesC a), .v (.int .u16 at_), .v (.int .u64 pt)] (.v (.bool true)) := by
  refine spec_fn (H := H12) (F := F12) Tryd.func12 rfl Tryd.ntmps12 Tryd.results12 (by kernel_rfl) rfl (by simp) ?_
  obtain ⟨A, rfl⟩ : ∃ A : Nat, at_ = (A : Int) := ⟨at_.toNat, by omega⟩
  obtain ⟨P, rfl⟩ : ∃ P : Nat, pt = (P : Int) := ⟨pt.toNat, by omega⟩
  simp only [zz0, zz1, zz2, zz3, zz4, zz5, zz6, zz7, zz8, zz9, zz10, zz11, zz12, zz13, zz14, zz15, zz16, zz17, zz18, zz19, gateAt, noAssign, resKeys, killAll, siteDsts, isSite, refs, killL, killAV, st0, number, ev, exSl, bnd, bndOK, cellsAV, plain, ofCV, argsOf, argOf, srcOf, partsV, fillC, repeatL, resOf, binV, shV, intV, isShift, strV, unV, ares, ares1, isNilSl, reduceCtorEq, Nat.reduceBEq, Nat.reduceAdd, Nat.reduceSub, Nat.reduceMul, Nat.reduceLT, Nat.reduceLeDiff, Nat.reduceDiv, Nat.reduceEqDiff, Int.reduceToNat, CV.one, Value.oneCell', Int.reduceLT, Int.reduceLE, Int.reduceNeg, Int.reduceEq, GV, H0, F0, Int.reduceBEq, Int.reduceBNe, ↓reduceIte, natV_cells, drop_nats, take_nats, head_nats, length_nats, length_natV, all_nats, exIx_natV, cells_natV, Bool.true_or, Bool.or_true, Bool.false_or, Bool.or_false, callOps_value, callOps_builtin, List.append_eq, beq_self_eq_true, Nat.zero_le, Bool.not_true, Bool.not_false, cvt_31_31, ex_conv_same]
  refine call_by spec_sanity ?_
  by_cases h0 : a.length = 0
  case pos =>
    have g : ((a.length : Int) == 0) = true := by rw [beq_iff_eq]; omega
    simp only [zz0, zz1, zz2, zz3, zz4, zz5, zz6, zz7, zz8, zz9, zz10, zz11, zz12, zz13, zz14, zz15, zz16, zz17, zz18, zz19, gateAt, noAssign, resKeys, killAll, siteDsts, isSite, refs, killL, killAV, st0, number, ev, exSl, bnd, bndOK, cellsAV, plain, ofCV, argsOf, argOf, srcOf, partsV, fillC, repeatL, resOf, binV, shV, intV, isShift, strV, unV, ares, ares1, isNilSl, reduceCtorEq, Nat.reduceBEq, Nat.reduceAdd, Nat.reduceSub, Nat.reduceMul, Nat.reduceLT, Nat.reduceLeDiff, Nat.reduceDiv, Nat.reduceEqDiff, Int.reduceToNat, CV.one, Value.oneCell', Int.reduceLT, Int.reduceLE, Int.reduceNeg, Int.reduceEq, GV, H0, F0, Int.reduceBEq, Int.reduceBNe, ↓reduceIte, natV_cells, drop_nats, take_nats, head_nats, length_nats, length_natV, all_nats, exIx_natV, cells_natV, Bool.true_or, Bool.or_true, Bool.false_or, Bool.or_false, callOps_value, callOps_builtin, List.append_eq, beq_self_eq_true, Nat.zero_le, Bool.not_true, Bool.not_false, cvt_31_31, ex_conv_same, g]
  have g0 : ((a.length : Int) == 0) = false := by rw [beq_eq_false_iff_ne]; omega
  by_cases ha : a.length ≤ 400
  case neg =>
    have g : decide ((a.length : Int) > 400) = true := decide_eq_true (by omega)
    simp only [zz0, zz1, zz2, zz3, zz4, zz5, zz6, zz7, zz8, zz9, zz10, zz11, zz12, zz13, zz14, zz15, zz16, zz17, zz18, zz19, gateAt, noAssign, resKeys, killAll, siteDsts, isSite, refs, killL, killAV, st0, number, ev, exSl, bnd, bndOK, cellsAV, plain, ofCV, argsOf, argOf, srcOf, partsV, fillC, repeatL, resOf, binV, shV, intV, isShift, strV, unV, ares, ares1, isNilSl, reduceCtorEq, Nat.reduceBEq, Nat.reduceAdd, Nat.reduceSub, Nat.reduceMul, Nat.reduceLT, Nat.reduceLeDiff, Nat.reduceDiv, Nat.reduceEqDiff, Int.reduceToNat, CV.one, Value.oneCell', Int.reduceLT, Int.reduceLE, Int.reduceNeg, Int.reduceEq, GV, H0, F0, Int.reduceBEq, Int.reduceBNe, ↓reduceIte, natV_cells, drop_nats, take_nats, head_nats, length_nats, length_natV, all_nats, exIx_natV, cells_natV, Bool.true_or, Bool.or_true, Bool.false_or, Bool.or_false, callOps_value, callOps_builtin, List.append_eq, beq_self_eq_true, Nat.zero_le, Bool.not_true, Bool.not_false, cvt_31_31, ex_conv_same, g0, g]
  have g1 : decide ((a.length : Int) > 400) = false := decide_eq_false (by omega)
  have w0 : IntKind.i64.wrap (A : Int) = (A : Int) := i64_wrap (by omega) (by omega)
  have w1 : IntKind.i64.wrap (8 * (a.length : Int)) = ((8 * a.length : Nat) : Int) := by rw [i64_wrap (by omega) (by omega)]; omega
  have w2 : (((8 * a.length : Nat) : Int) = 0) = False := eq_false (by omega)
  obtain ⟨f, hf, hfl⟩ : ∃ f : Nat, Int.tmod (A : Int) ((8 * a.length : Nat) : Int) = (f : Int) ∧ f < 8 * a.length := ⟨A % (8 * a.length), by rw [Int.tmod_eq_emod_of_nonneg (by omega)]; omega, Nat.mod_lt _ (by omega)⟩
  have hne : bytesC a ≠ [] := by
    intro h
    have := congrArg List.length h
    rw [length_bytesC] at this
    exact h0 this
  simp only [zz0, zz1, zz2, zz3, zz4, zz5, zz6, zz7, zz8, zz9, zz10, zz11, zz12, zz13, zz14, zz15, zz16, zz17, zz18, zz19, gateAt, noAssign, resKeys, killAll, siteDsts, isSite, refs, killL, killAV, st0, number, ev, exSl, bnd, bndOK, cellsAV, plain, ofCV, argsOf, argOf, srcOf, partsV, fillC, repeatL, resOf, binV, shV, intV, isShift, strV, unV, ares, ares1, isNilSl, reduceCtorEq, Nat.reduceBEq, Nat.reduceAdd, Nat.reduceSub, Nat.reduceMul, Nat.reduceLT, Nat.reduceLeDiff, Nat.reduceDiv, Nat.reduceEqDiff, Int.reduceToNat, CV.one, Value.oneCell', Int.reduceLT, Int.reduceLE, Int.reduceNeg, Int.reduceEq, GV, H0, F0, Int.reduceBEq, Int.reduceBNe, ↓reduceIte, natV_cells, drop_nats, take_nats, head_nats, length_nats, length_natV, all_nats, exIx_natV, cells_natV, Bool.true_or, Bool.or_true, Bool.false_or, Bool.or_false, callOps_value, callOps_builtin, List.append_eq, beq_self_eq_true, Nat.zero_le, Bool.not_true, Bool.not_false, cvt_31_31, ex_conv_same, g0, g1, w0, w1, w2, hf, ex_append_emp_mut h12]
  refine ⟨by omega, by omega, hne, ?_⟩
  obtain ⟨M, hM⟩ : ∃ M : Nat, M = min 40 (8 * a.length - f) := ⟨_, rfl⟩
  refine loop_by (X := Nat) (fun k => ⟨S [(11, .v (.int .i64 k)), (10, .v (.bool (anyP P.testBit k))), (9, .v (.int .i64 f)), (8, .bs 25 0 a.length), (7, .v (.bool true)), (0, .sl none 1 (bytesC a)), (2, .v (.int .u64 P))], B [(25, some (bytesC (burst a f P.testBit k)))], O []⟩)
    (fun k => k ≤ M) (fun k => M - k) 0 (Nat.zero_le _) ?_ ?_
  · refine stLe_mk ?_ ?_ ?_ <;> simp only [forall_mem_cons', forall_mem_nil', lk_hit, lk_miss, Nat.reduceBEq, AVle_refl, AVle_bot, AVle_untag, none_or_some, Option.some.injEq, and_true, true_and, length_bytesC, length_ints, length_strs, List.length_append, List.length_cons, List.length_nil]
    · exact ⟨AVle_of_eq rfl, AVle_of_eq rfl⟩
    · rfl
  intro k hk
  have hbl := burst_length a f P.testBit k
  by_cases hkM : k < M
  · have d1 : decide ((k : Int) < 40) = true := decide_eq_true (by omega)
    have v1 : IntKind.i64.wrap ((f : Int) + (k : Int)) = ((f + k : Nat) : Int) := by rw [i64_wrap (by omega) (by omega)]; omega
    have d2 : decide (((f + k : Nat) : Int) < ((8 * a.length : Nat) : Int)) = true := decide_eq_true (by omega)
    have hkn : (((k : Nat) : Int) < 0) = False := eq_false (by omega)
    cases hp : P.testBit k
    · have b1 : (((false.toNat : Nat) : Int) == 1) = false := rfl
      simp only [zz0, zz1, zz2, zz3, zz4, zz5, zz6, zz7, zz8, zz9, zz10, zz11, zz12, zz13, zz14, zz15, zz16, zz17, zz18, zz19, gateAt, noAssign, resKeys, killAll, siteDsts, isSite, refs, killL, killAV, st0, number, ev, exSl, bnd, bndOK, cellsAV, plain, ofCV, argsOf, argOf, srcOf, partsV, fillC, repeatL, resOf, binV, shV, intV, isShift, strV, unV, ares, ares1, isNilSl, reduceCtorEq, Nat.reduceBEq, Nat.reduceAdd, Nat.reduceSub, Nat.reduceMul, Nat.reduceLT, Nat.reduceLeDiff, Nat.reduceDiv, Nat.reduceEqDiff, Int.reduceToNat, CV.one, Value.oneCell', Int.reduceLT, Int.reduceLE, Int.reduceNeg, Int.reduceEq, GV, H0, F0, Int.reduceBEq, Int.reduceBNe, ↓reduceIte, natV_cells, drop_nats, take_nats, head_nats, length_nats, length_natV, all_nats, exIx_natV, cells_natV, Bool.true_or, Bool.or_true, Bool.false_or, Bool.or_false, callOps_value, callOps_builtin, List.append_eq, beq_self_eq_true, Nat.zero_le, Bool.not_true, Bool.not_false, cvt_31_31, ex_conv_same, d1, d2, v1, w1, hkn, pat_bit k (show P < 18446744073709551616 by omega) (show k < 40 by omega), hp, b1, i64_nat (show k < 9223372036854775807 by omega)]
      refine ⟨k + 1, by omega, by omega, ?_⟩
      refine stLe_mk ?_ ?_ ?_ <;> simp only [forall_mem_cons', forall_mem_nil', lk_hit, lk_miss, Nat.reduceBEq, AVle_refl, AVle_bot, AVle_untag, none_or_some, Option.some.injEq, and_true, true_and, length_bytesC, length_ints, length_strs, List.length_append, List.length_cons, List.length_nil, anyP, burst, hp, Bool.or_false]
      rfl
    · have b1 : (((true.toNat : Nat) : Int) == 1) = true := rfl
      have hq : (f + k) % 8 < 8 := Nat.mod_lt _ (by decide)
      have q0 : (((f + k) / 8 : Nat) : Int) < (a.length : Int) := by omega
      have q1 : IntKind.i64.wrap (((f + k : Nat) : Int).tdiv 8) = (((f + k) / 8 : Nat) : Int) := by
        rw [Int.tdiv_eq_ediv_of_nonneg (by omega), i64_wrap (by omega) (by omega)]; omega
      have q2 : ((f + k : Nat) : Int).tmod 8 = (((f + k) % 8 : Nat) : Int) := by rw [Int.tmod_eq_emod_of_nonneg (by omega)]; omega
      have q3 : IntKind.i64.wrap (7 - (((f + k) % 8 : Nat) : Int)) = ((7 - (f + k) % 8 : Nat) : Int) := by rw [i64_wrap (by omega) (by omega)]; omega
      have q4 := u8_pow hq
      have q5 : ((((f + k) / 8 : Nat) : Int) < (a.length : Int)) = True := eq_true q0
      have q6 : ((f + k) / 8 < (burst a f P.testBit k).length) = True := eq_true (by omega)
      have q7 : (((7 - (f + k) % 8 : Nat) : Int) < 0) = False := eq_false (by omega)
      have q8 := put_bytes (burst a f P.testBit k) ((f + k) / 8) ((burst a f P.testBit k).getD ((f + k) / 8) 0 ^^^ UInt8.ofNat (2 ^ (7 - (f + k) % 8))) (by omega)
      have q9 : ((0 : Int) ≤ (((f + k) / 8 : Nat) : Int)) = True := eq_true (by omega)
      have qb : bytesC ((burst a f P.testBit k).set ((f + k) / 8) ((burst a f P.testBit k).getD ((f + k) / 8) 0 ^^^ UInt8.ofNat (2 ^ (7 - (f + k) % 8)))) = bytesC (burst a f P.testBit (k + 1)) := by
        simp only [burst, hp, if_true]; rfl
      have qa : anyP P.testBit (k + 1) = true := by simp only [anyP, hp, Bool.or_true]
      rw [qb] at q8
      simp only [zz0, zz1, zz2, zz3, zz4, zz5, zz6, zz7, zz8, zz9, zz10, zz11, zz12, zz13, zz14, zz15, zz16, zz17, zz18, zz19, gateAt, noAssign, resKeys, killAll, siteDsts, isSite, refs, killL, killAV, st0, number, ev, exSl, bnd, bndOK, cellsAV, plain, ofCV, argsOf, argOf, srcOf, partsV, fillC, repeatL, resOf, binV, shV, intV, isShift, strV, unV, ares, ares1, isNilSl, reduceCtorEq, Nat.reduceBEq, Nat.reduceAdd, Nat.reduceSub, Nat.reduceMul, Nat.reduceLT, Nat.reduceLeDiff, Nat.reduceDiv, Nat.reduceEqDiff, Int.reduceToNat, CV.one, Value.oneCell', Int.reduceLT, Int.reduceLE, Int.reduceNeg, Int.reduceEq, GV, H0, F0, Int.reduceBEq, Int.reduceBNe, ↓reduceIte, natV_cells, drop_nats, take_nats, head_nats, length_nats, length_natV, all_nats, exIx_natV, cells_natV, Bool.true_or, Bool.or_true, Bool.false_or, Bool.or_false, callOps_value, callOps_builtin, List.append_eq, beq_self_eq_true, Nat.zero_le, Bool.not_true, Bool.not_false, cvt_31_31, ex_conv_same, d1, d2, v1, w1, hkn, pat_bit k (show P < 18446744073709551616 by omega) (show k < 40 by omega), hp, b1, q1, q2, q3, q4, q5, q6, q7, q8, q9, xor_u8, F12, i64_nat (show k < 9223372036854775807 by omega)]
      refine ⟨by kernel_rfl, by omega, k + 1, by omega, by omega, ?_⟩
      refine stLe_mk ?_ ?_ ?_ <;> simp only [forall_mem_cons', forall_mem_nil', lk_hit, lk_miss, Nat.reduceBEq, AVle_refl, AVle_bot, AVle_untag, none_or_some, Option.some.injEq, and_true, true_and, length_bytesC, length_ints, length_strs, List.length_append, List.length_cons, List.length_nil, qa]
  · have hkm : k = M := by omega
    have hend : f + k ≤ 8 * a.length := by omega
    have hcb := crc_burst (l := a) (f := f) (k := k) (p := P.testBit) (by omega) hend
    have hlast : decide ((k : Int) < 40) = false ∨ decide ((k : Int) < 40) = true ∧ decide (((f + k : Nat) : Int) < ((8 * a.length : Nat) : Int)) = false := by
      by_cases h : k = 40
      · exact .inl (decide_eq_false (by omega))
      · exact .inr ⟨decide_eq_true (by omega), decide_eq_false (by omega)⟩
    have v1 : IntKind.i64.wrap ((f : Int) + (k : Int)) = ((f + k : Nat) : Int) := by rw [i64_wrap (by omega) (by omega)]; omega
    have e1 : (((crc a : Nat) : Int) == ((crc (burst a f P.testBit k) : Nat) : Int)) = !anyP P.testBit k := by
      cases hany : anyP P.testBit k
      · rw [(anyP_false k)] at hany
        rw [hcb.2 hany]; simp
      · have : ¬ crc a = crc (burst a f P.testBit k) := fun h => by
          rw [(anyP_false k).2 (hcb.1 h)] at hany; exact Bool.noConfusion hany
        simp only [Bool.not_true, beq_eq_false_iff_ne]; omega
    have htk : List.take a.length (burst a f P.testBit k) = burst a f P.testBit k := List.take_of_length_le (by omega)
    have hbe : ((!anyP P.testBit k) == (!anyP P.testBit k)) = true := beq_self_eq_true _
    rcases hlast with g | ⟨g, g'⟩
    · simp only [zz0, zz1, zz2, zz3, zz4, zz5, zz6, zz7, zz8, zz9, zz10, zz11, zz12, zz13, zz14, zz15, zz16, zz17, zz18, zz19, gateAt, noAssign, resKeys, killAll, siteDsts, isSite, refs, killL, killAV, st0, number, ev, exSl, bnd, bndOK, cellsAV, plain, ofCV, argsOf, argOf, srcOf, partsV, fillC, repeatL, resOf, binV, shV, intV, isShift, strV, unV, ares, ares1, isNilSl, reduceCtorEq, Nat.reduceBEq, Nat.reduceAdd, Nat.reduceSub, Nat.reduceMul, Nat.reduceLT, Nat.reduceLeDiff, Nat.reduceDiv, Nat.reduceEqDiff, Int.reduceToNat, CV.one, Value.oneCell', Int.reduceLT, Int.reduceLE, Int.reduceNeg, Int.reduceEq, GV, H0, F0, Int.reduceBEq, Int.reduceBNe, ↓reduceIte, natV_cells, drop_nats, take_nats, head_nats, length_nats, length_natV, all_nats, exIx_natV, cells_natV, Bool.true_or, Bool.or_true, Bool.false_or, Bool.or_false, callOps_value, callOps_builtin, List.append_eq, beq_self_eq_true, Nat.zero_le, Bool.not_true, Bool.not_false, cvt_31_31, ex_conv_same, g, v1, w1]
      refine call_by (spec_Crc40 a (by omega)) ?_
      simp only [zz0, zz1, zz2, zz3, zz4, zz5, zz6, zz7, zz8, zz9, zz10, zz11, zz12, zz13, zz14, zz15, zz16, zz17, zz18, zz19, gateAt, noAssign, resKeys, killAll, siteDsts, isSite, refs, killL, killAV, st0, number, ev, exSl, bnd, bndOK, cellsAV, plain, ofCV, argsOf, argOf, srcOf, partsV, fillC, repeatL, resOf, binV, shV, intV, isShift, strV, unV, ares, ares1, isNilSl, reduceCtorEq, Nat.reduceBEq, Nat.reduceAdd, Nat.reduceSub, Nat.reduceMul, Nat.reduceLT, Nat.reduceLeDiff, Nat.reduceDiv, Nat.reduceEqDiff, Int.reduceToNat, CV.one, Value.oneCell', Int.reduceLT, Int.reduceLE, Int.reduceNeg, Int.reduceEq, GV, H0, F0, Int.reduceBEq, Int.reduceBNe, ↓reduceIte, natV_cells, drop_nats, take_nats, head_nats, length_nats, length_natV, all_nats, exIx_natV, cells_natV, Bool.true_or, Bool.or_true, Bool.false_or, Bool.or_false, callOps_value, callOps_builtin, List.append_eq, beq_self_eq_true, Nat.zero_le, Bool.not_true, Bool.not_false, cvt_31_31, ex_conv_same, hbl, htk]
      refine call_by (spec_Crc40 (burst a f P.testBit k) (by omega)) ?_
      simp only [zz0, zz1, zz2, zz3, zz4, zz5, zz6, zz7, zz8, zz9, zz10, zz11, zz12, zz13, zz14, zz15, zz16, zz17, zz18, zz19, gateAt, noAssign, resKeys, killAll, siteDsts, isSite, refs, killL, killAV, st0, number, ev, exSl, bnd, bndOK, cellsAV, plain, ofCV, argsOf, argOf, srcOf, partsV, fillC, repeatL, resOf, binV, shV, intV, isShift, strV, unV, ares, ares1, isNilSl, reduceCtorEq, Nat.reduceBEq, Nat.reduceAdd, Nat.reduceSub, Nat.reduceMul, Nat.reduceLT, Nat.reduceLeDiff, Nat.reduceDiv, Nat.reduceEqDiff, Int.reduceToNat, CV.one, Value.oneCell', Int.reduceLT, Int.reduceLE, Int.reduceNeg, Int.reduceEq, GV, H0, F0, Int.reduceBEq, Int.reduceBNe, ↓reduceIte, natV_cells, drop_nats, take_nats, head_nats, length_nats, length_natV, all_nats, exIx_natV, cells_natV, Bool.true_or, Bool.or_true, Bool.false_or, Bool.or_false, callOps_value, callOps_builtin, List.append_eq, beq_self_eq_true, Nat.zero_le, Bool.not_true, Bool.not_false, cvt_31_31, ex_conv_same, e1, hbe]
      trace_state
    · simp only [zz0, zz1, zz2, zz3, zz4, zz5, zz6, zz7, zz8, zz9, zz10, zz11, zz12, zz13, zz14, zz15, zz16, zz17, zz18, zz19, gateAt, noAssign, resKeys, killAll, siteDsts, isSite, refs, killL, killAV, st0, number, ev, exSl, bnd, bndOK, cellsAV, plain, ofCV, argsOf, argOf, srcOf, partsV, fillC, repeatL, resOf, binV, shV, intV, isShift, strV, unV, ares, ares1, isNilSl, reduceCtorEq, Nat.reduceBEq, Nat.reduceAdd, Nat.reduceSub, Nat.reduceMul, Nat.reduceLT, Nat.reduceLeDiff, Nat.reduceDiv, Nat.reduceEqDiff, Int.reduceToNat, CV.one, Value.oneCell', Int.reduceLT, Int.reduceLE, Int.reduceNeg, Int.reduceEq, GV, H0, F0, Int.reduceBEq, Int.reduceBNe, ↓reduceIte, natV_cells, drop_nats, take_nats, head_nats, length_nats, length_natV, all_nats, exIx_natV, cells_natV, Bool.true_or, Bool.or_true, Bool.false_or, Bool.or_false, callOps_value, callOps_builtin, List.append_eq, beq_self_eq_true, Nat.zero_le, Bool.not_true, Bool.not_false, cvt_31_31, ex_conv_same, g, g', v1, w1]
      refine call_by (spec_Crc40 a (by omega)) ?_
      simp only [zz0, zz1, zz2, zz3, zz4, zz5, zz6, zz7, zz8, zz9, zz10, zz11, zz12, zz13, zz14, zz15, zz16, zz17, zz18, zz19, gateAt, noAssign, resKeys, killAll, siteDsts, isSite, refs, killL, killAV, st0, number, ev, exSl, bnd, bndOK, cellsAV, plain, ofCV, argsOf, argOf, srcOf, partsV, fillC, repeatL, resOf, binV, shV, intV, isShift, strV, unV, ares, ares1, isNilSl, reduceCtorEq, Nat.reduceBEq, Nat.reduceAdd, Nat.reduceSub, Nat.reduceMul, Nat.reduceLT, Nat.reduceLeDiff, Nat.reduceDiv, Nat.reduceEqDiff, Int.reduceToNat, CV.one, Value.oneCell', Int.reduceLT, Int.reduceLE, Int.reduceNeg, Int.reduceEq, GV, H0, F0, Int.reduceBEq, Int.reduceBNe, ↓reduceIte, natV_cells, drop_nats, take_nats, head_nats, length_nats, length_natV, all_nats, exIx_natV, cells_natV, Bool.true_or, Bool.or_true, Bool.false_or, Bool.or_false, callOps_value, callOps_builtin, List.append_eq, beq_self_eq_true, Nat.zero_le, Bool.not_true, Bool.not_false, cvt_31_31, ex_conv_same, hbl, htk]
      refine call_by (spec_Crc40 (burst a f P.testBit k) (by omega)) ?_
      simp only [zz0, zz1, zz2, zz3, zz4, zz5, zz6, zz7, zz8, zz9, zz10, zz11, zz12, zz13, zz14, zz15, zz16, zz17, zz18, zz19, gateAt, noAssign, resKeys, killAll, siteDsts, isSite, refs, killL, killAV, st0, number, ev, exSl, bnd, bndOK, cellsAV, plain, ofCV, argsOf, argOf, srcOf, partsV, fillC, repeatL, resOf, binV, shV, intV, isShift, strV, unV, ares, ares1, isNilSl, reduceCtorEq, Nat.reduceBEq, Nat.reduceAdd, Nat.reduceSub, Nat.reduceMul, Nat.reduceLT, Nat.reduceLeDiff, Nat.reduceDiv, Nat.reduceEqDiff, Int.reduceToNat, CV.one, Value.oneCell', Int.reduceLT, Int.reduceLE, Int.reduceNeg, Int.reduceEq, GV, H0, F0, Int.reduceBEq, Int.reduceBNe, ↓reduceIte, natV_cells, drop_nats, take_nats, head_nats, length_nats, length_natV, all_nats, exIx_natV, cells_natV, Bool.true_or, Bool.or_true, Bool.false_or, Bool.or_false, callOps_value, callOps_builtin, List.append_eq, beq_self_eq_true, Nat.zero_le, Bool.not_true, Bool.not_false, cvt_31_31, ex_conv_same, e1, hbe]
end Abs
end Go.Proofs.YtkdpmjgigknbpaaDoor
