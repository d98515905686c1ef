/-
  Walks: products; two messages joined.
-/
import Derived.Test.YtkdpmjgigknbpaaDoorW2
namespace Go.Proofs.YtkdpmjgigknbpaaDoor
namespace Abs
open Go.RowKit Crc
set_option linter.unusedSimpArgs false
set_option linter.unusedVariables false
theorem and1_i64 (x : Nat) (h : x < 2 ^ 63) : bits .and .i64 (x : Int) 1 = ((x % 2 : Nat) : Int) := by
  show IntKind.i64.wrap ((BitVec.ofInt 64 x &&& BitVec.ofInt 64 1).toNat : Nat) = _
  rw [BitVec.toNat_and, BitVec.toNat_ofInt, show (BitVec.ofInt 64 1).toNat = 2 ^ 1 - 1 from rfl, mask_and, IntKind.wrap_i64]
  omega
/-- The lowest 40 bits of an integer. -/
def regI (a : Int) : Reg := BitVec.ofNat 40 (a % 1099511627776).toNat
theorem regI_nat (a : Int) : ((regI a).toNat : Int) = a % 1099511627776 := by
  unfold regI
  rw [BitVec.toNat_ofNat]; omega
theorem regI_go (a : Int) : bits .and .u64 (IntKind.u64.wrap a) 1099511627775 = (((regI a).toNat : Nat) : Int) := by
  have e : IntKind.u64.wrap a = (((a % 18446744073709551616).toNat : Nat) : Int) := by rw [IntKind.wrap_u64]; omega
  rw [e, and_all _ (by omega), regI_nat]
  omega
theorem xor_regs (a b : Reg) : bits .xor .u64 ((a.toNat : Nat) : Int) ((b.toNat : Nat) : Int) = (((a ^^^ b).toNat : Nat) : Int) := by
  have ha := reg_lt a
  have hb := reg_lt b
  rw [(bits_u64_nat _ _ (by omega) (by omega)).1, BitVec.toNat_xor]
theorem sx_low {r : Reg} (h : r.toNat < 2 ^ 39) : (sx r).toNat = 2 * r.toNat := by
  have hm : r.msb = false := by
    cases hm : r.msb
    · rfl
    · have := BitVec.le_toNat_of_msb_true hm
      simp at this; omega
  unfold sx
  rw [hm]
  simp [BitVec.toNat_shiftLeft, Nat.shiftLeft_eq]
  omega
theorem sx_high {r : Reg} (h : ¬ r.toNat < 2 ^ 39) : sx r = (r <<< 1) ^^^ poly := by
  have hm : r.msb = true := by
    cases hm : r.msb
    · have := BitVec.toNat_lt_of_msb_false hm
      simp at this; omega
    · rfl
  unfold sx
  rw [hm]; simp
theorem spec_times (a b : Reg) : SP 46 [.v (.int .u64 (a.toNat : Int)), .v (.int .u64 (b.toNat : Int))] (.v (.int .u64 (((mul a b).toNat : Nat) : Int))) := by
  refine spec_fn (H := H0) (F := F0) Tryd.func46 rfl Tryd.ntmps46 Tryd.results46 (by kernel_rfl) rfl (by simp) ?_
  simp only [zz0, zz1, zz2, zz3, zz4, zz5, zz6, zz7, zz8, zz9, zz10, zz11, zz12, zz13, zz14, zz15, zz16, zz17, zz18, zz19, gateAt, noAssign, resKeys, killAll, siteDsts, isSite, refs, killL, killAV, st0, number, ev, exSl, bnd, bndOK, cellsAV, plain, ofCV, argsOf, argOf, srcOf, partsV, fillC, repeatL, resOf, binV, shV, intV, isShift, strV, unV, ares, ares1, isNilSl, reduceCtorEq, Nat.reduceBEq, Nat.reduceAdd, Nat.reduceSub, Nat.reduceMul, Nat.reduceLT, Nat.reduceLeDiff, Nat.reduceDiv, Nat.reduceEqDiff, Int.reduceToNat, CV.one, Value.oneCell', Int.reduceLT, Int.reduceLE, Int.reduceNeg, Int.reduceEq, GV, H0, F0, putL, Int.reduceBEq, Int.reduceBNe, ↓reduceIte, natV_cells, drop_nats, take_nats, head_nats, length_nats, length_natV, all_nats, exIx_natV, cells_natV, Bool.true_or, Bool.or_true, Bool.false_or, Bool.or_false, callOps_value, callOps_builtin, List.append_eq, beq_self_eq_true, Nat.zero_le, Bool.not_true, Bool.not_false, cvt_31_31, ex_conv_same]
  refine loop_by (X := Nat) (fun j => ⟨S [(6, .v (.int .i64 (39 - (j : Int)))), (5, .v (.int .u64 (((hor a b j).toNat : Nat) : Int))), (0, .v (.int .u64 (a.toNat : Int))), (1, .v (.int .u64 (b.toNat : Int)))], B [], O []⟩)
    (fun j => j ≤ 40) (fun j => 40 - j) 0 (Nat.zero_le _) ?_ ?_
  · refine stLe_mk ?_ ?_ ?_ <;> simp only [forall_mem_cons', forall_mem_nil', lk_hit, lk_miss, Nat.reduceBEq, AVle_refl, AVle_bot, AVle_untag, none_or_some, Option.some.injEq, and_true, true_and, length_bytesC, length_ints, length_strs, List.length_append, List.length_cons, List.length_nil]
    all_goals simp [AVle_refl, hor]
  · intro j hj
    simp only [zz0, zz1, zz2, zz3, zz4, zz5, zz6, zz7, zz8, zz9, zz10, zz11, zz12, zz13, zz14, zz15, zz16, zz17, zz18, zz19, gateAt, noAssign, resKeys, killAll, siteDsts, isSite, refs, killL, killAV, st0, number, ev, exSl, bnd, bndOK, cellsAV, plain, ofCV, argsOf, argOf, srcOf, partsV, fillC, repeatL, resOf, binV, shV, intV, isShift, strV, unV, ares, ares1, isNilSl, reduceCtorEq, Nat.reduceBEq, Nat.reduceAdd, Nat.reduceSub, Nat.reduceMul, Nat.reduceLT, Nat.reduceLeDiff, Nat.reduceDiv, Nat.reduceEqDiff, Int.reduceToNat, CV.one, Value.oneCell', Int.reduceLT, Int.reduceLE, Int.reduceNeg, Int.reduceEq, GV, H0, F0, putL, Int.reduceBEq, Int.reduceBNe, ↓reduceIte, natV_cells, drop_nats, take_nats, head_nats, length_nats, length_natV, all_nats, exIx_natV, cells_natV, Bool.true_or, Bool.or_true, Bool.false_or, Bool.or_false, callOps_value, callOps_builtin, List.append_eq, beq_self_eq_true, Nat.zero_le, Bool.not_true, Bool.not_false, cvt_31_31, ex_conv_same]
    refine cond_dec (fun hc => ?_) (fun hc => ?_)
    · have hj' : j < 40 := by omega
      have hr := reg_lt (hor a b j)
      have hb := reg_lt b
      have w0 : (39 - (j : Int)) = ((39 - j : Nat) : Int) := by omega
      have w3 : ((((39 - j : Nat) : Nat) : Int) < 0) = False := eq_false (by omega)
      have w5 : IntKind.i64.wrap (((39 - j : Nat) : Int) - 1) = 39 - ((j + 1 : Nat) : Int) := by rw [i64_wrap (by omega) (by omega)]; omega
      have x1 : IntKind.u64.wrap (((hor a b j).toNat : Int) * 2 ^ (min 1 IntKind.u64.bits)) = ((2 * (hor a b j).toNat : Nat) : Int) := by
        rw [shl_nat _ 1 (by decide), wrap_nat_u64]; omega
      have x2 : ((2 * (hor a b j).toNat : Nat) : Int).fdiv (2 ^ (min 40 IntKind.u64.bits)) = ((2 * (hor a b j).toNat / 2 ^ 40 : Nat) : Int) := shr_nat _ 40 (by decide)
      have hd : b.toNat / 2 ^ (39 - j) ≤ b.toNat := Nat.div_le_self _ _
      have y1 : bits .and .u64 ((b.toNat : Int).fdiv (2 ^ (min (39 - j) IntKind.u64.bits))) 1 = (((b.getLsbD (39 - j)).toNat : Nat) : Int) := by
        rw [shr_nat _ (39 - j) (by show 39 - j ≤ 64; omega), and1 _ (by omega), ← Nat.toNat_testBit]; rfl
      obtain ⟨c1, d1⟩ : ∃ c, (((2 * (hor a b j).toNat / 2 ^ 40 : Nat) : Int) == 1) = c := ⟨_, rfl⟩
      have z : (((b.getLsbD (39 - j)).toNat : Nat) : Int) == 1 ↔ b.getLsbD (39 - j) = true := by
        cases b.getLsbD (39 - j) <;> decide
      have zz : ((((b.getLsbD (39 - j)).toNat : Nat) : Int) == 1) = b.getLsbD (39 - j) := by
        cases b.getLsbD (39 - j) <;> rfl
      have hh : hor a b (j + 1) = sx (hor a b j) ^^^ sel (b.getLsbD (39 - j)) a := rfl
      cases c1
      · have hlow : (hor a b j).toNat < 2 ^ 39 := by
          have : ¬ (2 * (hor a b j).toNat / 2 ^ 40 : Nat) = 1 := by
            intro e; rw [e] at d1; exact absurd d1 (by decide)
          omega
        have e1 := sx_low hlow
        rw [← e1] at x1 x2 d1
        cases hbit : b.getLsbD (39 - j)
        · rw [hbit] at zz hh y1
          simp only [zz0, zz1, zz2, zz3, zz4, zz5, zz6, zz7, zz8, zz9, zz10, zz11, zz12, zz13, zz14, zz15, zz16, zz17, zz18, zz19, gateAt, noAssign, resKeys, killAll, siteDsts, isSite, refs, killL, killAV, st0, number, ev, exSl, bnd, bndOK, cellsAV, plain, ofCV, argsOf, argOf, srcOf, partsV, fillC, repeatL, resOf, binV, shV, intV, isShift, strV, unV, ares, ares1, isNilSl, reduceCtorEq, Nat.reduceBEq, Nat.reduceAdd, Nat.reduceSub, Nat.reduceMul, Nat.reduceLT, Nat.reduceLeDiff, Nat.reduceDiv, Nat.reduceEqDiff, Int.reduceToNat, CV.one, Value.oneCell', Int.reduceLT, Int.reduceLE, Int.reduceNeg, Int.reduceEq, GV, H0, F0, putL, Int.reduceBEq, Int.reduceBNe, ↓reduceIte, natV_cells, drop_nats, take_nats, head_nats, length_nats, length_natV, all_nats, exIx_natV, cells_natV, Bool.true_or, Bool.or_true, Bool.false_or, Bool.or_false, callOps_value, callOps_builtin, List.append_eq, beq_self_eq_true, Nat.zero_le, Bool.not_true, Bool.not_false, cvt_31_31, ex_conv_same, w0, w3, w5, x1, x2, d1, y1, zz, Bool.toNat_false, Bool.toNat_true]
          refine ⟨j + 1, by omega, by omega, ?_⟩
          refine stLe_mk ?_ ?_ ?_ <;> simp only [forall_mem_cons', forall_mem_nil', lk_hit, lk_miss, Nat.reduceBEq, AVle_refl, AVle_bot, AVle_untag, none_or_some, Option.some.injEq, and_true, true_and, length_bytesC, length_ints, length_strs, List.length_append, List.length_cons, List.length_nil]
          all_goals simp [AVle_refl, hh, sel]
        · rw [hbit] at zz hh y1
          simp only [zz0, zz1, zz2, zz3, zz4, zz5, zz6, zz7, zz8, zz9, zz10, zz11, zz12, zz13, zz14, zz15, zz16, zz17, zz18, zz19, gateAt, noAssign, resKeys, killAll, siteDsts, isSite, refs, killL, killAV, st0, number, ev, exSl, bnd, bndOK, cellsAV, plain, ofCV, argsOf, argOf, srcOf, partsV, fillC, repeatL, resOf, binV, shV, intV, isShift, strV, unV, ares, ares1, isNilSl, reduceCtorEq, Nat.reduceBEq, Nat.reduceAdd, Nat.reduceSub, Nat.reduceMul, Nat.reduceLT, Nat.reduceLeDiff, Nat.reduceDiv, Nat.reduceEqDiff, Int.reduceToNat, CV.one, Value.oneCell', Int.reduceLT, Int.reduceLE, Int.reduceNeg, Int.reduceEq, GV, H0, F0, putL, Int.reduceBEq, Int.reduceBNe, ↓reduceIte, natV_cells, drop_nats, take_nats, head_nats, length_nats, length_natV, all_nats, exIx_natV, cells_natV, Bool.true_or, Bool.or_true, Bool.false_or, Bool.or_false, callOps_value, callOps_builtin, List.append_eq, beq_self_eq_true, Nat.zero_le, Bool.not_true, Bool.not_false, cvt_31_31, ex_conv_same, w0, w3, w5, x1, x2, d1, y1, zz, Bool.toNat_false, Bool.toNat_true, xor_regs]
          refine ⟨j + 1, by omega, by omega, ?_⟩
          refine stLe_mk ?_ ?_ ?_ <;> simp only [forall_mem_cons', forall_mem_nil', lk_hit, lk_miss, Nat.reduceBEq, AVle_refl, AVle_bot, AVle_untag, none_or_some, Option.some.injEq, and_true, true_and, length_bytesC, length_ints, length_strs, List.length_append, List.length_cons, List.length_nil]
          all_goals simp [AVle_refl, hh, sel]
      · have hhigh : ¬ (hor a b j).toNat < 2 ^ 39 := by
          intro h
          have e : (2 * (hor a b j).toNat / 2 ^ 40 : Nat) = 0 := by omega
          rw [e] at d1; exact absurd d1 (by decide)
        have e1 := sx_high hhigh
        have x3 : bits .and .u64 ((2 * (hor a b j).toNat : Nat) : Int) 1099511627775 = ((((hor a b j) <<< 1).toNat : Nat) : Int) := by
          rw [and_all _ (by omega), BitVec.toNat_shiftLeft, Nat.shiftLeft_eq, Nat.mul_comm 2]
        have nb : ((nibs.getD 1 0 : Nat) : Int) = 75628553 := rfl
        have nl : (1 < nibs.length) = True := eq_true (by decide)
        cases hbit : b.getLsbD (39 - j)
        · rw [hbit] at zz hh y1
          simp only [zz0, zz1, zz2, zz3, zz4, zz5, zz6, zz7, zz8, zz9, zz10, zz11, zz12, zz13, zz14, zz15, zz16, zz17, zz18, zz19, gateAt, noAssign, resKeys, killAll, siteDsts, isSite, refs, killL, killAV, st0, number, ev, exSl, bnd, bndOK, cellsAV, plain, ofCV, argsOf, argOf, srcOf, partsV, fillC, repeatL, resOf, binV, shV, intV, isShift, strV, unV, ares, ares1, isNilSl, reduceCtorEq, Nat.reduceBEq, Nat.reduceAdd, Nat.reduceSub, Nat.reduceMul, Nat.reduceLT, Nat.reduceLeDiff, Nat.reduceDiv, Nat.reduceEqDiff, Int.reduceToNat, CV.one, Value.oneCell', Int.reduceLT, Int.reduceLE, Int.reduceNeg, Int.reduceEq, GV, H0, F0, putL, Int.reduceBEq, Int.reduceBNe, ↓reduceIte, natV_cells, drop_nats, take_nats, head_nats, length_nats, length_natV, all_nats, exIx_natV, cells_natV, Bool.true_or, Bool.or_true, Bool.false_or, Bool.or_false, callOps_value, callOps_builtin, List.append_eq, beq_self_eq_true, Nat.zero_le, Bool.not_true, Bool.not_false, cvt_31_31, ex_conv_same, w0, w3, w5, x1, x2, x3, nb, nl, xor_poly, ← e1, d1, y1, zz, Bool.toNat_false, Bool.toNat_true]
          refine ⟨j + 1, by omega, by omega, ?_⟩
          refine stLe_mk ?_ ?_ ?_ <;> simp only [forall_mem_cons', forall_mem_nil', lk_hit, lk_miss, Nat.reduceBEq, AVle_refl, AVle_bot, AVle_untag, none_or_some, Option.some.injEq, and_true, true_and, length_bytesC, length_ints, length_strs, List.length_append, List.length_cons, List.length_nil]
          all_goals simp [AVle_refl, hh, sel]
        · rw [hbit] at zz hh y1
          simp only [zz0, zz1, zz2, zz3, zz4, zz5, zz6, zz7, zz8, zz9, zz10, zz11, zz12, zz13, zz14, zz15, zz16, zz17, zz18, zz19, gateAt, noAssign, resKeys, killAll, siteDsts, isSite, refs, killL, killAV, st0, number, ev, exSl, bnd, bndOK, cellsAV, plain, ofCV, argsOf, argOf, srcOf, partsV, fillC, repeatL, resOf, binV, shV, intV, isShift, strV, unV, ares, ares1, isNilSl, reduceCtorEq, Nat.reduceBEq, Nat.reduceAdd, Nat.reduceSub, Nat.reduceMul, Nat.reduceLT, Nat.reduceLeDiff, Nat.reduceDiv, Nat.reduceEqDiff, Int.reduceToNat, CV.one, Value.oneCell', Int.reduceLT, Int.reduceLE, Int.reduceNeg, Int.reduceEq, GV, H0, F0, putL, Int.reduceBEq, Int.reduceBNe, ↓reduceIte, natV_cells, drop_nats, take_nats, head_nats, length_nats, length_natV, all_nats, exIx_natV, cells_natV, Bool.true_or, Bool.or_true, Bool.false_or, Bool.or_false, callOps_value, callOps_builtin, List.append_eq, beq_self_eq_true, Nat.zero_le, Bool.not_true, Bool.not_false, cvt_31_31, ex_conv_same, w0, w3, w5, x1, x2, x3, nb, nl, xor_poly, ← e1, d1, y1, zz, Bool.toNat_false, Bool.toNat_true, xor_regs]
          refine ⟨j + 1, by omega, by omega, ?_⟩
          refine stLe_mk ?_ ?_ ?_ <;> simp only [forall_mem_cons', forall_mem_nil', lk_hit, lk_miss, Nat.reduceBEq, AVle_refl, AVle_bot, AVle_untag, none_or_some, Option.some.injEq, and_true, true_and, length_bytesC, length_ints, length_strs, List.length_append, List.length_cons, List.length_nil]
          all_goals simp [AVle_refl, hh, sel]
    · have : j = 40 := by omega
      subst this
      simp only [zz0, zz1, zz2, zz3, zz4, zz5, zz6, zz7, zz8, zz9, zz10, zz11, zz12, zz13, zz14, zz15, zz16, zz17, zz18, zz19, gateAt, noAssign, resKeys, killAll, siteDsts, isSite, refs, killL, killAV, st0, number, ev, exSl, bnd, bndOK, cellsAV, plain, ofCV, argsOf, argOf, srcOf, partsV, fillC, repeatL, resOf, binV, shV, intV, isShift, strV, unV, ares, ares1, isNilSl, reduceCtorEq, Nat.reduceBEq, Nat.reduceAdd, Nat.reduceSub, Nat.reduceMul, Nat.reduceLT, Nat.reduceLeDiff, Nat.reduceDiv, Nat.reduceEqDiff, Int.reduceToNat, CV.one, Value.oneCell', Int.reduceLT, Int.reduceLE, Int.reduceNeg, Int.reduceEq, GV, H0, F0, putL, Int.reduceBEq, Int.reduceBNe, ↓reduceIte, natV_cells, drop_nats, take_nats, head_nats, length_nats, length_natV, all_nats, exIx_natV, cells_natV, Bool.true_or, Bool.or_true, Bool.false_or, Bool.or_false, callOps_value, callOps_builtin, List.append_eq, beq_self_eq_true, Nat.zero_le, Bool.not_true, Bool.not_false, cvt_31_31, ex_conv_same]
      rfl
/-- What 'Join' answers. -/
def joinI (a b n : Int) : Int := if n < 0 then 0 else (((Sn (8 * n.toNat) (regI a) ^^^ regI b).toNat : Nat) : Int)
theorem spec_Join (a b n : Int) (hn : n ≤ 9223372036854775807) : SP 30 [.v (.int .i64 a), .v (.int .i64 b), .v (.int .i64 n)] (.v (.int .i64 (joinI a b n))) := by
  refine spec_fn (H := H0) (F := F0) Tryd.func30 rfl Tryd.ntmps30 Tryd.results30 (by kernel_rfl) rfl (by simp) ?_
  by_cases h0 : n < 0
  · have g : decide (n < 0) = true := decide_eq_true h0
    simp only [zz0, zz1, zz2, zz3, zz4, zz5, zz6, zz7, zz8, zz9, zz10, zz11, zz12, zz13, zz14, zz15, zz16, zz17, zz18, zz19, gateAt, noAssign, resKeys, killAll, siteDsts, isSite, refs, killL, killAV, st0, number, ev, exSl, bnd, bndOK, cellsAV, plain, ofCV, argsOf, argOf, srcOf, partsV, fillC, repeatL, resOf, binV, shV, intV, isShift, strV, unV, ares, ares1, isNilSl, reduceCtorEq, Nat.reduceBEq, Nat.reduceAdd, Nat.reduceSub, Nat.reduceMul, Nat.reduceLT, Nat.reduceLeDiff, Nat.reduceDiv, Nat.reduceEqDiff, Int.reduceToNat, CV.one, Value.oneCell', Int.reduceLT, Int.reduceLE, Int.reduceNeg, Int.reduceEq, GV, H0, F0, putL, Int.reduceBEq, Int.reduceBNe, ↓reduceIte, natV_cells, drop_nats, take_nats, head_nats, length_nats, length_natV, all_nats, exIx_natV, cells_natV, Bool.true_or, Bool.or_true, Bool.false_or, Bool.or_false, callOps_value, callOps_builtin, List.append_eq, beq_self_eq_true, Nat.zero_le, Bool.not_true, Bool.not_false, cvt_31_31, ex_conv_same, g, joinI, h0]
  · obtain ⟨m, rfl⟩ : ∃ m : Nat, n = m := ⟨n.toNat, by omega⟩
    have g : decide ((m : Int) < 0) = false := decide_eq_false h0
    have h8 : (256 : Int) = (((Sn 8 one).toNat : Nat) : Int) := by decide +kernel
    simp only [zz0, zz1, zz2, zz3, zz4, zz5, zz6, zz7, zz8, zz9, zz10, zz11, zz12, zz13, zz14, zz15, zz16, zz17, zz18, zz19, gateAt, noAssign, resKeys, killAll, siteDsts, isSite, refs, killL, killAV, st0, number, ev, exSl, bnd, bndOK, cellsAV, plain, ofCV, argsOf, argOf, srcOf, partsV, fillC, repeatL, resOf, binV, shV, intV, isShift, strV, unV, ares, ares1, isNilSl, reduceCtorEq, Nat.reduceBEq, Nat.reduceAdd, Nat.reduceSub, Nat.reduceMul, Nat.reduceLT, Nat.reduceLeDiff, Nat.reduceDiv, Nat.reduceEqDiff, Int.reduceToNat, CV.one, Value.oneCell', Int.reduceLT, Int.reduceLE, Int.reduceNeg, Int.reduceEq, GV, H0, F0, putL, Int.reduceBEq, Int.reduceBNe, ↓reduceIte, natV_cells, drop_nats, take_nats, head_nats, length_nats, length_natV, all_nats, exIx_natV, cells_natV, Bool.true_or, Bool.or_true, Bool.false_or, Bool.or_false, callOps_value, callOps_builtin, List.append_eq, beq_self_eq_true, Nat.zero_le, Bool.not_true, Bool.not_false, cvt_31_31, ex_conv_same, g, regI_go]
    refine loop_by (X := Reg × Reg × Nat) (fun x => ⟨S [(7, .v (.int .u64 ((x.1.toNat : Nat) : Int))), (8, .v (.int .u64 ((x.2.1.toNat : Nat) : Int))), (2, .v (.int .i64 x.2.2)), (1, .v (.int .i64 b))], B [], O []⟩)
      (fun x => ∃ A B, x.1 = Sn A (regI a) ∧ x.2.1 = Sn B one ∧ A + B * x.2.2 = 8 * m ∧ x.2.2 ≤ m) (fun x => x.2.2) (regI a, Sn 8 one, m) ⟨0, 8, rfl, rfl, by simp, Nat.le_refl _⟩ ?_ ?_
    · refine stLe_mk ?_ ?_ ?_ <;> simp only [forall_mem_cons', forall_mem_nil', lk_hit, lk_miss, Nat.reduceBEq, AVle_refl, AVle_bot, AVle_untag, none_or_some, Option.some.injEq, and_true, true_and, length_bytesC, length_ints, length_strs, List.length_append, List.length_cons, List.length_nil, h8]
    · rintro ⟨out, power, k⟩ ⟨A, B, rfl, rfl, hk, hkm⟩
      simp only at hk hkm
      simp only [zz0, zz1, zz2, zz3, zz4, zz5, zz6, zz7, zz8, zz9, zz10, zz11, zz12, zz13, zz14, zz15, zz16, zz17, zz18, zz19, gateAt, noAssign, resKeys, killAll, siteDsts, isSite, refs, killL, killAV, st0, number, ev, exSl, bnd, bndOK, cellsAV, plain, ofCV, argsOf, argOf, srcOf, partsV, fillC, repeatL, resOf, binV, shV, intV, isShift, strV, unV, ares, ares1, isNilSl, reduceCtorEq, Nat.reduceBEq, Nat.reduceAdd, Nat.reduceSub, Nat.reduceMul, Nat.reduceLT, Nat.reduceLeDiff, Nat.reduceDiv, Nat.reduceEqDiff, Int.reduceToNat, CV.one, Value.oneCell', Int.reduceLT, Int.reduceLE, Int.reduceNeg, Int.reduceEq, GV, H0, F0, putL, Int.reduceBEq, Int.reduceBNe, ↓reduceIte, natV_cells, drop_nats, take_nats, head_nats, length_nats, length_natV, all_nats, exIx_natV, cells_natV, Bool.true_or, Bool.or_true, Bool.false_or, Bool.or_false, callOps_value, callOps_builtin, List.append_eq, beq_self_eq_true, Nat.zero_le, Bool.not_true, Bool.not_false, cvt_31_31, ex_conv_same]
      refine cond_dec (fun hc => ?_) (fun hc => ?_)
      · have hk0 : 0 < k := by omega
        have x1 : bits .and .i64 (k : Int) 1 = ((k % 2 : Nat) : Int) := and1_i64 k (by omega)
        have x2 : (k : Int).fdiv (2 ^ (min 1 IntKind.i64.bits)) = ((k / 2 : Nat) : Int) := shr_nat k 1 (by decide)
        rcases Nat.mod_two_eq_zero_or_one k with hm | hm
        · have x3 : (((k % 2 : Nat) : Int) == 1) = false := by rw [hm]; rfl
          simp only [zz0, zz1, zz2, zz3, zz4, zz5, zz6, zz7, zz8, zz9, zz10, zz11, zz12, zz13, zz14, zz15, zz16, zz17, zz18, zz19, gateAt, noAssign, resKeys, killAll, siteDsts, isSite, refs, killL, killAV, st0, number, ev, exSl, bnd, bndOK, cellsAV, plain, ofCV, argsOf, argOf, srcOf, partsV, fillC, repeatL, resOf, binV, shV, intV, isShift, strV, unV, ares, ares1, isNilSl, reduceCtorEq, Nat.reduceBEq, Nat.reduceAdd, Nat.reduceSub, Nat.reduceMul, Nat.reduceLT, Nat.reduceLeDiff, Nat.reduceDiv, Nat.reduceEqDiff, Int.reduceToNat, CV.one, Value.oneCell', Int.reduceLT, Int.reduceLE, Int.reduceNeg, Int.reduceEq, GV, H0, F0, putL, Int.reduceBEq, Int.reduceBNe, ↓reduceIte, natV_cells, drop_nats, take_nats, head_nats, length_nats, length_natV, all_nats, exIx_natV, cells_natV, Bool.true_or, Bool.or_true, Bool.false_or, Bool.or_false, callOps_value, callOps_builtin, List.append_eq, beq_self_eq_true, Nat.zero_le, Bool.not_true, Bool.not_false, cvt_31_31, ex_conv_same, x1, x2, x3]
          refine call_by (spec_times _ _) ?_
          simp only [zz0, zz1, zz2, zz3, zz4, zz5, zz6, zz7, zz8, zz9, zz10, zz11, zz12, zz13, zz14, zz15, zz16, zz17, zz18, zz19, gateAt, noAssign, resKeys, killAll, siteDsts, isSite, refs, killL, killAV, st0, number, ev, exSl, bnd, bndOK, cellsAV, plain, ofCV, argsOf, argOf, srcOf, partsV, fillC, repeatL, resOf, binV, shV, intV, isShift, strV, unV, ares, ares1, isNilSl, reduceCtorEq, Nat.reduceBEq, Nat.reduceAdd, Nat.reduceSub, Nat.reduceMul, Nat.reduceLT, Nat.reduceLeDiff, Nat.reduceDiv, Nat.reduceEqDiff, Int.reduceToNat, CV.one, Value.oneCell', Int.reduceLT, Int.reduceLE, Int.reduceNeg, Int.reduceEq, GV, H0, F0, putL, Int.reduceBEq, Int.reduceBNe, ↓reduceIte, natV_cells, drop_nats, take_nats, head_nats, length_nats, length_natV, all_nats, exIx_natV, cells_natV, Bool.true_or, Bool.or_true, Bool.false_or, Bool.or_false, callOps_value, callOps_builtin, List.append_eq, beq_self_eq_true, Nat.zero_le, Bool.not_true, Bool.not_false, cvt_31_31, ex_conv_same, x1, x2, x3, mul_pow, ← Sn_add]
          refine ⟨(Sn A (regI a), Sn (B + B) one, k / 2), ⟨A, rfl, B + B, rfl, ?_, by simp only; omega⟩, by simp only; omega, ?_⟩
          · have : k = 2 * (k / 2) := by omega
            rw [← hk]
            conv => rhs; rw [this]
            simp only [Nat.add_mul, Nat.two_mul, Nat.mul_add]
          · refine stLe_mk ?_ ?_ ?_ <;> simp only [forall_mem_cons', forall_mem_nil', lk_hit, lk_miss, Nat.reduceBEq, AVle_refl, AVle_bot, AVle_untag, none_or_some, Option.some.injEq, and_true, true_and, length_bytesC, length_ints, length_strs, List.length_append, List.length_cons, List.length_nil]
        · have x3 : (((k % 2 : Nat) : Int) == 1) = true := by rw [hm]; rfl
          simp only [zz0, zz1, zz2, zz3, zz4, zz5, zz6, zz7, zz8, zz9, zz10, zz11, zz12, zz13, zz14, zz15, zz16, zz17, zz18, zz19, gateAt, noAssign, resKeys, killAll, siteDsts, isSite, refs, killL, killAV, st0, number, ev, exSl, bnd, bndOK, cellsAV, plain, ofCV, argsOf, argOf, srcOf, partsV, fillC, repeatL, resOf, binV, shV, intV, isShift, strV, unV, ares, ares1, isNilSl, reduceCtorEq, Nat.reduceBEq, Nat.reduceAdd, Nat.reduceSub, Nat.reduceMul, Nat.reduceLT, Nat.reduceLeDiff, Nat.reduceDiv, Nat.reduceEqDiff, Int.reduceToNat, CV.one, Value.oneCell', Int.reduceLT, Int.reduceLE, Int.reduceNeg, Int.reduceEq, GV, H0, F0, putL, Int.reduceBEq, Int.reduceBNe, ↓reduceIte, natV_cells, drop_nats, take_nats, head_nats, length_nats, length_natV, all_nats, exIx_natV, cells_natV, Bool.true_or, Bool.or_true, Bool.false_or, Bool.or_false, callOps_value, callOps_builtin, List.append_eq, beq_self_eq_true, Nat.zero_le, Bool.not_true, Bool.not_false, cvt_31_31, ex_conv_same, x1, x2, x3]
          refine call_by (spec_times _ _) ?_
          simp only [zz0, zz1, zz2, zz3, zz4, zz5, zz6, zz7, zz8, zz9, zz10, zz11, zz12, zz13, zz14, zz15, zz16, zz17, zz18, zz19, gateAt, noAssign, resKeys, killAll, siteDsts, isSite, refs, killL, killAV, st0, number, ev, exSl, bnd, bndOK, cellsAV, plain, ofCV, argsOf, argOf, srcOf, partsV, fillC, repeatL, resOf, binV, shV, intV, isShift, strV, unV, ares, ares1, isNilSl, reduceCtorEq, Nat.reduceBEq, Nat.reduceAdd, Nat.reduceSub, Nat.reduceMul, Nat.reduceLT, Nat.reduceLeDiff, Nat.reduceDiv, Nat.reduceEqDiff, Int.reduceToNat, CV.one, Value.oneCell', Int.reduceLT, Int.reduceLE, Int.reduceNeg, Int.reduceEq, GV, H0, F0, putL, Int.reduceBEq, Int.reduceBNe, ↓reduceIte, natV_cells, drop_nats, take_nats, head_nats, length_nats, length_natV, all_nats, exIx_natV, cells_natV, Bool.true_or, Bool.or_true, Bool.false_or, Bool.or_false, callOps_value, callOps_builtin, List.append_eq, beq_self_eq_true, Nat.zero_le, Bool.not_true, Bool.not_false, cvt_31_31, ex_conv_same, x1, x2, x3, mul_pow, ← Sn_add]
          refine call_by (spec_times _ _) ?_
          simp only [zz0, zz1, zz2, zz3, zz4, zz5, zz6, zz7, zz8, zz9, zz10, zz11, zz12, zz13, zz14, zz15, zz16, zz17, zz18, zz19, gateAt, noAssign, resKeys, killAll, siteDsts, isSite, refs, killL, killAV, st0, number, ev, exSl, bnd, bndOK, cellsAV, plain, ofCV, argsOf, argOf, srcOf, partsV, fillC, repeatL, resOf, binV, shV, intV, isShift, strV, unV, ares, ares1, isNilSl, reduceCtorEq, Nat.reduceBEq, Nat.reduceAdd, Nat.reduceSub, Nat.reduceMul, Nat.reduceLT, Nat.reduceLeDiff, Nat.reduceDiv, Nat.reduceEqDiff, Int.reduceToNat, CV.one, Value.oneCell', Int.reduceLT, Int.reduceLE, Int.reduceNeg, Int.reduceEq, GV, H0, F0, putL, Int.reduceBEq, Int.reduceBNe, ↓reduceIte, natV_cells, drop_nats, take_nats, head_nats, length_nats, length_natV, all_nats, exIx_natV, cells_natV, Bool.true_or, Bool.or_true, Bool.false_or, Bool.or_false, callOps_value, callOps_builtin, List.append_eq, beq_self_eq_true, Nat.zero_le, Bool.not_true, Bool.not_false, cvt_31_31, ex_conv_same, x1, x2, x3, mul_pow, ← Sn_add]
          refine ⟨(Sn (B + A) (regI a), Sn (B + B) one, k / 2), ⟨B + A, rfl, B + B, rfl, ?_, by simp only; omega⟩, by simp only; omega, ?_⟩
          · have : k = 2 * (k / 2) + 1 := by omega
            rw [← hk]
            conv => rhs; rw [this]
            simp only [Nat.add_mul, Nat.two_mul, Nat.mul_add, Nat.mul_one]
            omega
          · refine stLe_mk ?_ ?_ ?_ <;> simp only [forall_mem_cons', forall_mem_nil', lk_hit, lk_miss, Nat.reduceBEq, AVle_refl, AVle_bot, AVle_untag, none_or_some, Option.some.injEq, and_true, true_and, length_bytesC, length_ints, length_strs, List.length_append, List.length_cons, List.length_nil]
      · have : k = 0 := by omega
        subst this
        have e : joinI a b (m : Int) = (((Sn A (regI a) ^^^ regI b).toNat : Nat) : Int) := by
          rw [joinI, if_neg h0, Int.toNat_natCast]
          simp at hk
          rw [hk]
        simp only [zz0, zz1, zz2, zz3, zz4, zz5, zz6, zz7, zz8, zz9, zz10, zz11, zz12, zz13, zz14, zz15, zz16, zz17, zz18, zz19, gateAt, noAssign, resKeys, killAll, siteDsts, isSite, refs, killL, killAV, st0, number, ev, exSl, bnd, bndOK, cellsAV, plain, ofCV, argsOf, argOf, srcOf, partsV, fillC, repeatL, resOf, binV, shV, intV, isShift, strV, unV, ares, ares1, isNilSl, reduceCtorEq, Nat.reduceBEq, Nat.reduceAdd, Nat.reduceSub, Nat.reduceMul, Nat.reduceLT, Nat.reduceLeDiff, Nat.reduceDiv, Nat.reduceEqDiff, Int.reduceToNat, CV.one, Value.oneCell', Int.reduceLT, Int.reduceLE, Int.reduceNeg, Int.reduceEq, GV, H0, F0, putL, Int.reduceBEq, Int.reduceBNe, ↓reduceIte, natV_cells, drop_nats, take_nats, head_nats, length_nats, length_natV, all_nats, exIx_natV, cells_natV, Bool.true_or, Bool.or_true, Bool.false_or, Bool.or_false, callOps_value, callOps_builtin, List.append_eq, beq_self_eq_true, Nat.zero_le, Bool.not_true, Bool.not_false, cvt_31_31, ex_conv_same, regI_go, xor_regs, i64_reg, e]
theorem spec_RJoin (a b n : Int) (hn : n ≤ 300) (hn2 : -9223372036854775808 ≤ n) : SP 31 [.v (.int .i64 a), .v (.int .i64 b), .v (.int .i64 n)] (.v (.int .i64 (joinI a b n))) := by
  refine spec_fn (H := H0) (F := F0) Tryd.func31 rfl Tryd.ntmps31 Tryd.results31 (by kernel_rfl) rfl (by simp) ?_
  by_cases h0 : n < 0
  · have g : decide (n < 0) = true := decide_eq_true h0
    simp only [zz0, zz1, zz2, zz3, zz4, zz5, zz6, zz7, zz8, zz9, zz10, zz11, zz12, zz13, zz14, zz15, zz16, zz17, zz18, zz19, gateAt, noAssign, resKeys, killAll, siteDsts, isSite, refs, killL, killAV, st0, number, ev, exSl, bnd, bndOK, cellsAV, plain, ofCV, argsOf, argOf, srcOf, partsV, fillC, repeatL, resOf, binV, shV, intV, isShift, strV, unV, ares, ares1, isNilSl, reduceCtorEq, Nat.reduceBEq, Nat.reduceAdd, Nat.reduceSub, Nat.reduceMul, Nat.reduceLT, Nat.reduceLeDiff, Nat.reduceDiv, Nat.reduceEqDiff, Int.reduceToNat, CV.one, Value.oneCell', Int.reduceLT, Int.reduceLE, Int.reduceNeg, Int.reduceEq, GV, H0, F0, putL, Int.reduceBEq, Int.reduceBNe, ↓reduceIte, natV_cells, drop_nats, take_nats, head_nats, length_nats, length_natV, all_nats, exIx_natV, cells_natV, Bool.true_or, Bool.or_true, Bool.false_or, Bool.or_false, callOps_value, callOps_builtin, List.append_eq, beq_self_eq_true, Nat.zero_le, Bool.not_true, Bool.not_false, cvt_31_31, ex_conv_same, g, joinI, h0]
  · obtain ⟨m, rfl⟩ : ∃ m : Nat, n = m := ⟨n.toNat, by omega⟩
    have g : decide ((m : Int) < 0) = false := decide_eq_false h0
    have w1 : IntKind.i64.wrap (8 * (m : Int)) = ((8 * m : Nat) : Int) := by rw [i64_wrap (by omega) (by omega)]; omega
    simp only [zz0, zz1, zz2, zz3, zz4, zz5, zz6, zz7, zz8, zz9, zz10, zz11, zz12, zz13, zz14, zz15, zz16, zz17, zz18, zz19, gateAt, noAssign, resKeys, killAll, siteDsts, isSite, refs, killL, killAV, st0, number, ev, exSl, bnd, bndOK, cellsAV, plain, ofCV, argsOf, argOf, srcOf, partsV, fillC, repeatL, resOf, binV, shV, intV, isShift, strV, unV, ares, ares1, isNilSl, reduceCtorEq, Nat.reduceBEq, Nat.reduceAdd, Nat.reduceSub, Nat.reduceMul, Nat.reduceLT, Nat.reduceLeDiff, Nat.reduceDiv, Nat.reduceEqDiff, Int.reduceToNat, CV.one, Value.oneCell', Int.reduceLT, Int.reduceLE, Int.reduceNeg, Int.reduceEq, GV, H0, F0, putL, Int.reduceBEq, Int.reduceBNe, ↓reduceIte, natV_cells, drop_nats, take_nats, head_nats, length_nats, length_natV, all_nats, exIx_natV, cells_natV, Bool.true_or, Bool.or_true, Bool.false_or, Bool.or_false, callOps_value, callOps_builtin, List.append_eq, beq_self_eq_true, Nat.zero_le, Bool.not_true, Bool.not_false, cvt_31_31, ex_conv_same, g, regI_go]
    refine loop_by (X := Nat) (fun i => ⟨S [(8, .v (.int .i64 i)), (7, .v (.int .u64 (((Sn i (regI a)).toNat : Nat) : Int))), (2, .v (.int .i64 m)), (1, .v (.int .i64 b))], B [], O []⟩)
      (fun i => i ≤ 8 * m) (fun i => 8 * m - i) 0 (Nat.zero_le _) ?_ ?_
    · refine stLe_mk ?_ ?_ ?_ <;> simp only [forall_mem_cons', forall_mem_nil', lk_hit, lk_miss, Nat.reduceBEq, AVle_refl, AVle_bot, AVle_untag, none_or_some, Option.some.injEq, and_true, true_and, length_bytesC, length_ints, length_strs, List.length_append, List.length_cons, List.length_nil]
      all_goals simp [AVle_refl, Sn]
    · intro i hi
      simp only [zz0, zz1, zz2, zz3, zz4, zz5, zz6, zz7, zz8, zz9, zz10, zz11, zz12, zz13, zz14, zz15, zz16, zz17, zz18, zz19, gateAt, noAssign, resKeys, killAll, siteDsts, isSite, refs, killL, killAV, st0, number, ev, exSl, bnd, bndOK, cellsAV, plain, ofCV, argsOf, argOf, srcOf, partsV, fillC, repeatL, resOf, binV, shV, intV, isShift, strV, unV, ares, ares1, isNilSl, reduceCtorEq, Nat.reduceBEq, Nat.reduceAdd, Nat.reduceSub, Nat.reduceMul, Nat.reduceLT, Nat.reduceLeDiff, Nat.reduceDiv, Nat.reduceEqDiff, Int.reduceToNat, CV.one, Value.oneCell', Int.reduceLT, Int.reduceLE, Int.reduceNeg, Int.reduceEq, GV, H0, F0, putL, Int.reduceBEq, Int.reduceBNe, ↓reduceIte, natV_cells, drop_nats, take_nats, head_nats, length_nats, length_natV, all_nats, exIx_natV, cells_natV, Bool.true_or, Bool.or_true, Bool.false_or, Bool.or_false, callOps_value, callOps_builtin, List.append_eq, beq_self_eq_true, Nat.zero_le, Bool.not_true, Bool.not_false, cvt_31_31, ex_conv_same, w1]
      refine cond_dec (fun hc => ?_) (fun hc => ?_)
      · have hs := spec_step (Sn i (regI a)) false
        have e : stepB (Sn i (regI a)) false = Sn (i + 1) (regI a) := by
          unfold stepB
          show sx (Sn i (regI a) ^^^ 0#40) = _
          rw [BitVec.xor_zero]; rfl
        rw [e] at hs
        simp only [zz0, zz1, zz2, zz3, zz4, zz5, zz6, zz7, zz8, zz9, zz10, zz11, zz12, zz13, zz14, zz15, zz16, zz17, zz18, zz19, gateAt, noAssign, resKeys, killAll, siteDsts, isSite, refs, killL, killAV, st0, number, ev, exSl, bnd, bndOK, cellsAV, plain, ofCV, argsOf, argOf, srcOf, partsV, fillC, repeatL, resOf, binV, shV, intV, isShift, strV, unV, ares, ares1, isNilSl, reduceCtorEq, Nat.reduceBEq, Nat.reduceAdd, Nat.reduceSub, Nat.reduceMul, Nat.reduceLT, Nat.reduceLeDiff, Nat.reduceDiv, Nat.reduceEqDiff, Int.reduceToNat, CV.one, Value.oneCell', Int.reduceLT, Int.reduceLE, Int.reduceNeg, Int.reduceEq, GV, H0, F0, putL, Int.reduceBEq, Int.reduceBNe, ↓reduceIte, natV_cells, drop_nats, take_nats, head_nats, length_nats, length_natV, all_nats, exIx_natV, cells_natV, Bool.true_or, Bool.or_true, Bool.false_or, Bool.or_false, callOps_value, callOps_builtin, List.append_eq, beq_self_eq_true, Nat.zero_le, Bool.not_true, Bool.not_false, cvt_31_31, ex_conv_same, w1]
        refine call_by hs ?_
        simp only [zz0, zz1, zz2, zz3, zz4, zz5, zz6, zz7, zz8, zz9, zz10, zz11, zz12, zz13, zz14, zz15, zz16, zz17, zz18, zz19, gateAt, noAssign, resKeys, killAll, siteDsts, isSite, refs, killL, killAV, st0, number, ev, exSl, bnd, bndOK, cellsAV, plain, ofCV, argsOf, argOf, srcOf, partsV, fillC, repeatL, resOf, binV, shV, intV, isShift, strV, unV, ares, ares1, isNilSl, reduceCtorEq, Nat.reduceBEq, Nat.reduceAdd, Nat.reduceSub, Nat.reduceMul, Nat.reduceLT, Nat.reduceLeDiff, Nat.reduceDiv, Nat.reduceEqDiff, Int.reduceToNat, CV.one, Value.oneCell', Int.reduceLT, Int.reduceLE, Int.reduceNeg, Int.reduceEq, GV, H0, F0, putL, Int.reduceBEq, Int.reduceBNe, ↓reduceIte, natV_cells, drop_nats, take_nats, head_nats, length_nats, length_natV, all_nats, exIx_natV, cells_natV, Bool.true_or, Bool.or_true, Bool.false_or, Bool.or_false, callOps_value, callOps_builtin, List.append_eq, beq_self_eq_true, Nat.zero_le, Bool.not_true, Bool.not_false, cvt_31_31, ex_conv_same, w1, i64_nat (show i < 9223372036854775807 by omega)]
        refine ⟨i + 1, by omega, by omega, ?_⟩
        refine stLe_mk ?_ ?_ ?_ <;> simp only [forall_mem_cons', forall_mem_nil', lk_hit, lk_miss, Nat.reduceBEq, AVle_refl, AVle_bot, AVle_untag, none_or_some, Option.some.injEq, and_true, true_and, length_bytesC, length_ints, length_strs, List.length_append, List.length_cons, List.length_nil]
      · have : i = 8 * m := by omega
        subst this
        have e : joinI a b (m : Int) = (((Sn (8 * m) (regI a) ^^^ regI b).toNat : Nat) : Int) := by
          rw [joinI, if_neg h0, Int.toNat_natCast]
        simp only [zz0, zz1, zz2, zz3, zz4, zz5, zz6, zz7, zz8, zz9, zz10, zz11, zz12, zz13, zz14, zz15, zz16, zz17, zz18, zz19, gateAt, noAssign, resKeys, killAll, siteDsts, isSite, refs, killL, killAV, st0, number, ev, exSl, bnd, bndOK, cellsAV, plain, ofCV, argsOf, argOf, srcOf, partsV, fillC, repeatL, resOf, binV, shV, intV, isShift, strV, unV, ares, ares1, isNilSl, reduceCtorEq, Nat.reduceBEq, Nat.reduceAdd, Nat.reduceSub, Nat.reduceMul, Nat.reduceLT, Nat.reduceLeDiff, Nat.reduceDiv, Nat.reduceEqDiff, Int.reduceToNat, CV.one, Value.oneCell', Int.reduceLT, Int.reduceLE, Int.reduceNeg, Int.reduceEq, GV, H0, F0, putL, Int.reduceBEq, Int.reduceBNe, ↓reduceIte, natV_cells, drop_nats, take_nats, head_nats, length_nats, length_natV, all_nats, exIx_natV, cells_natV, Bool.true_or, Bool.or_true, Bool.false_or, Bool.or_false, callOps_value, callOps_builtin, List.append_eq, beq_self_eq_true, Nat.zero_le, Bool.not_true, Bool.not_false, cvt_31_31, ex_conv_same, w1, regI_go, xor_regs, i64_reg, e]
end Abs
end Go.Proofs.YtkdpmjgigknbpaaDoor
