/-
  Walks: the check of 40 bits.
-/
import Derived.Test.YtkdpmjgigknbpaaDoorG
import Derived.Test.YtkdpmjgigknbpaaDoorC2
namespace Go.Proofs.YtkdpmjgigknbpaaDoor
namespace Abs
open Go.RowKit Crc
set_option linter.unusedSimpArgs false
set_option linter.unusedVariables false
def crcV (r : Reg) : Value := .agg #[.int .u64 (r.toNat : Int)]
theorem nibs_eq : nibs = nibL := rfl
theorem reg_lt (r : Reg) : r.toNat < 1099511627776 := r.isLt
theorem and_all (a : Nat) (h : a < 2 ^ 64) : bits .and .u64 (a : Int) 1099511627775 = ((a % 1099511627776 : Nat) : Int) := by
  rw [show (1099511627775 : Int) = ((2 ^ 40 - 1 : Nat) : Int) from rfl, (bits_u64_nat a (2 ^ 40 - 1) h (by decide)).2.1, mask_and]
theorem and15 (a : Nat) (h : a < 256) : bits .and .u8 (a : Int) 15 = ((a % 16 : Nat) : Int) := by
  rw [show (15 : Int) = ((2 ^ 4 - 1 : Nat) : Int) from rfl, (bits_u8_nat a (2 ^ 4 - 1) h (by decide)).2.1, mask_and]
theorem nib_at (r : Reg) (n : Nat) (hn : n < 256) : bits .xor .u8 (IntKind.u8.wrap ((r.toNat : Int).fdiv (2 ^ (min 36 IntKind.u64.bits)))) (n : Int) = (((r.toNat / 2 ^ 36) ^^^ n : Nat) : Int) ∧ (r.toNat / 2 ^ 36) ^^^ n < 256 ∧ ((r.toNat / 2 ^ 36) ^^^ n) % 16 = (r.toNat / 2 ^ 36) ^^^ (n % 16) := by
  have hr := reg_lt r
  have h1 : r.toNat / 2 ^ 36 < 16 := by omega
  refine ⟨?_, ?_, ?_⟩
  · rw [shr_nat r.toNat 36 (by decide), wrap_nat_u8, Nat.mod_eq_of_lt (by omega), (bits_u8_nat _ n (by omega) hn).1]
  · exact Nat.xor_lt_two_pow (n := 8) (by omega) hn
  · rw [show (16 : Nat) = 2 ^ 4 from rfl, xor_mod, Nat.mod_eq_of_lt (show r.toNat / 2 ^ 36 < 2 ^ 4 by omega)]
theorem nib_sh (r : Reg) : bits .and .u64 (IntKind.u64.wrap ((r.toNat : Int) * 2 ^ (min 4 IntKind.u64.bits))) 1099511627775 = (((r <<< 4).toNat : Nat) : Int) := by
  have hr := reg_lt r
  rw [shl_nat r.toNat 4 (by decide), wrap_nat_u64, Nat.mod_eq_of_lt (by omega), and_all _ (by omega), BitVec.toNat_shiftLeft, Nat.shiftLeft_eq]
theorem nib_end (r : Reg) {n : Nat} (hn : n < 16) : bits .xor .u64 (((r <<< 4).toNat : Nat) : Int) ((nibs.getD ((r.toNat / 2 ^ 36) ^^^ n) 0 : Nat) : Int) = (((nib r n).toNat : Nat) : Int) := by
  have hr := reg_lt r
  have h1 : r.toNat / 2 ^ 36 < 16 := by omega
  have hv : (r.toNat / 2 ^ 36) ^^^ n < 16 := Nat.xor_lt_two_pow (n := 4) (by omega) hn
  have h2 := reg_lt (r <<< 4)
  have h3 := reg_lt (tabV ((r.toNat / 2 ^ 36) ^^^ n))
  rw [nibs_eq, ← tabV_nibL _ hv, (bits_u64_nat _ _ (by omega) (by omega)).1, nib_go r hn, BitVec.toNat_xor]
theorem spec_BeginCrc : SP 23 [] (.v (crcV ones)) := by
  refine spec_fn (H := H0) (F := F0) Tryd.func23 rfl Tryd.ntmps23 Tryd.results23 (by kernel_rfl) rfl (by simp) ?_
  simp only [zz0, zz1, zz2, zz3, zz4, zz5, zz6, zz7, zz8, zz9, zz10, zz11, zz12, zz13, zz14, zz15, zz16, zz17, zz18, zz19, gateAt, noAssign, resKeys, killAll, siteDsts, isSite, refs, killL, killAV, st0, number, ev, exSl, bnd, bndOK, cellsAV, plain, ofCV, argsOf, argOf, srcOf, partsV, fillC, repeatL, resOf, binV, shV, intV, isShift, strV, unV, ares, ares1, isNilSl, reduceCtorEq, Nat.reduceBEq, Nat.reduceAdd, Nat.reduceSub, Nat.reduceMul, Nat.reduceLT, Nat.reduceLeDiff, Nat.reduceDiv, Nat.reduceEqDiff, Int.reduceToNat, CV.one, Value.oneCell', Int.reduceLT, Int.reduceLE, Int.reduceNeg, Int.reduceEq, GV, H0, F0, putL, Int.reduceBEq, Int.reduceBNe, ↓reduceIte, natV_cells, drop_nats, take_nats, head_nats, length_nats, length_natV, all_nats, exIx_natV, cells_natV, Bool.true_or, Bool.or_true, Bool.false_or, Bool.or_false, callOps_value, callOps_builtin, List.append_eq, beq_self_eq_true, Nat.zero_le, Bool.not_true, Bool.not_false, cvt_31_31, ex_conv_same, crcV]
  rfl
theorem spec_nibble (r : Reg) (n : Nat) (hn : n < 256) : SP 44 [.v (crcV r), .v (.int .u8 (n : Int))] (.v (crcV (nib r (n % 16)))) := by
  refine spec_fn (H := H0) (F := fun _ k => if k = 10 then ([4], [4]) else ([2], [])) Tryd.func44 rfl Tryd.ntmps44 Tryd.results44 (by kernel_rfl) rfl (by simp) ?_
  obtain ⟨e1, e2, e3⟩ := nib_at r n hn
  have hv : ((((r.toNat / 2 ^ 36) ^^^ (n % 16) : Nat) : Int) < 16) = True := eq_true (by
    have hr := reg_lt r
    have : (r.toNat / 2 ^ 36) ^^^ (n % 16) < 2 ^ 4 := Nat.xor_lt_two_pow (by omega) (by omega)
    omega)
  have hv2 : ((r.toNat / 2 ^ 36) ^^^ (n % 16) < nibs.length) = True := eq_true (by
    have e : nibs.length = 16 := rfl
    have hr := reg_lt r
    have : (r.toNat / 2 ^ 36) ^^^ (n % 16) < 2 ^ 4 := Nat.xor_lt_two_pow (by omega) (by omega)
    omega)
  simp only [zz0, zz1, zz2, zz3, zz4, zz5, zz6, zz7, zz8, zz9, zz10, zz11, zz12, zz13, zz14, zz15, zz16, zz17, zz18, zz19, gateAt, noAssign, resKeys, killAll, siteDsts, isSite, refs, killL, killAV, st0, number, ev, exSl, bnd, bndOK, cellsAV, plain, ofCV, argsOf, argOf, srcOf, partsV, fillC, repeatL, resOf, binV, shV, intV, isShift, strV, unV, ares, ares1, isNilSl, reduceCtorEq, Nat.reduceBEq, Nat.reduceAdd, Nat.reduceSub, Nat.reduceMul, Nat.reduceLT, Nat.reduceLeDiff, Nat.reduceDiv, Nat.reduceEqDiff, Int.reduceToNat, CV.one, Value.oneCell', Int.reduceLT, Int.reduceLE, Int.reduceNeg, Int.reduceEq, GV, H0, F0, putL, Int.reduceBEq, Int.reduceBNe, ↓reduceIte, natV_cells, drop_nats, take_nats, head_nats, length_nats, length_natV, all_nats, exIx_natV, cells_natV, Bool.true_or, Bool.or_true, Bool.false_or, Bool.or_false, callOps_value, callOps_builtin, List.append_eq, beq_self_eq_true, Nat.zero_le, Bool.not_true, Bool.not_false, cvt_31_31, ex_conv_same, crcV, e1, and15 _ e2, e3, nib_sh, nib_end r (Nat.mod_lt n (by decide : 0 < 16)), hv, hv2]
  show lexA _ _ = true
  kernel_rfl
theorem take_succ' {α : Type} {l : List α} {i : Nat} (d : α) (h : i < l.length) : l.take (i + 1) = l.take i ++ [l.getD i d] := by
  rw [List.take_add_one, List.getElem?_eq_getElem h, List.getD_eq_getElem?_getD, List.getElem?_eq_getElem h]; rfl
theorem i64_nat {n : Nat} (h : n < 9223372036854775807) : IntKind.i64.wrap ((n : Int) + 1) = ((n + 1 : Nat) : Int) := by rw [IntKind.wrap_i64]; omega
theorem len_data (s : ByteArray) : s.data.toList.length = s.size := Array.length_toList
theorem crcReg_take (r : Reg) (l : List UInt8) {i : Nat} (h : i < l.length) : crcReg r (l.take (i + 1)) = crcByte (crcReg r (l.take i)) (l.getD i 0).toNat := by
  rw [take_succ' 0 h, crcReg_append]; rfl
/-- All texts of a message, piece by piece. -/
theorem spec_Add (r : Reg) (s : ByteArray) (hs : s.size ≤ 1000000000) : SP 24 [.v (crcV r), .v (.string s)] (.v (crcV (crcReg r s.data.toList))) := by
  refine spec_fn (H := H0) (F := fun _ k => if k = 10 then ([2], [2]) else ([2], [])) Tryd.func24 rfl Tryd.ntmps24 Tryd.results24 (by kernel_rfl) rfl (by simp) ?_
  simp only [zz0, zz1, zz2, zz3, zz4, zz5, zz6, zz7, zz8, zz9, zz10, zz11, zz12, zz13, zz14, zz15, zz16, zz17, zz18, zz19, gateAt, noAssign, resKeys, killAll, siteDsts, isSite, refs, killL, killAV, st0, number, ev, exSl, bnd, bndOK, cellsAV, plain, ofCV, argsOf, argOf, srcOf, partsV, fillC, repeatL, resOf, binV, shV, intV, isShift, strV, unV, ares, ares1, isNilSl, reduceCtorEq, Nat.reduceBEq, Nat.reduceAdd, Nat.reduceSub, Nat.reduceMul, Nat.reduceLT, Nat.reduceLeDiff, Nat.reduceDiv, Nat.reduceEqDiff, Int.reduceToNat, CV.one, Value.oneCell', Int.reduceLT, Int.reduceLE, Int.reduceNeg, Int.reduceEq, GV, H0, F0, putL, Int.reduceBEq, Int.reduceBNe, ↓reduceIte, natV_cells, drop_nats, take_nats, head_nats, length_nats, length_natV, all_nats, exIx_natV, cells_natV, Bool.true_or, Bool.or_true, Bool.false_or, Bool.or_false, callOps_value, callOps_builtin, List.append_eq, beq_self_eq_true, Nat.zero_le, Bool.not_true, Bool.not_false, cvt_31_31, ex_conv_same, crcV]
  refine loop_by (X := Nat) (fun i => ⟨S [(8, .v (.int .i64 i)), (7, .v (.int .i64 s.size)), (4, .bp 4 0), (2, .bp 2 0), (1, .v (.string s))], B [(4, some [.v (.int .u64 0)]), (2, some [.v (.int .u64 ((crcReg r (s.data.toList.take i)).toNat : Int))])], O []⟩)
    (fun i => i ≤ s.size) (fun i => s.size - i) 0 (Nat.zero_le _) ?_ ?_
  · refine stLe_mk ?_ ?_ ?_ <;> simp only [forall_mem_cons', forall_mem_nil', lk_hit, lk_miss, Nat.reduceBEq, AVle_refl, AVle_bot, AVle_untag, none_or_some, Option.some.injEq, and_true, true_and, length_bytesC, length_ints, length_strs, List.length_append, List.length_cons, List.length_nil]
    all_goals simp [AVle_refl, crcReg]
  · intro i hi
    simp only [zz0, zz1, zz2, zz3, zz4, zz5, zz6, zz7, zz8, zz9, zz10, zz11, zz12, zz13, zz14, zz15, zz16, zz17, zz18, zz19, gateAt, noAssign, resKeys, killAll, siteDsts, isSite, refs, killL, killAV, st0, number, ev, exSl, bnd, bndOK, cellsAV, plain, ofCV, argsOf, argOf, srcOf, partsV, fillC, repeatL, resOf, binV, shV, intV, isShift, strV, unV, ares, ares1, isNilSl, reduceCtorEq, Nat.reduceBEq, Nat.reduceAdd, Nat.reduceSub, Nat.reduceMul, Nat.reduceLT, Nat.reduceLeDiff, Nat.reduceDiv, Nat.reduceEqDiff, Int.reduceToNat, CV.one, Value.oneCell', Int.reduceLT, Int.reduceLE, Int.reduceNeg, Int.reduceEq, GV, H0, F0, putL, Int.reduceBEq, Int.reduceBNe, ↓reduceIte, natV_cells, drop_nats, take_nats, head_nats, length_nats, length_natV, all_nats, exIx_natV, cells_natV, Bool.true_or, Bool.or_true, Bool.false_or, Bool.or_false, callOps_value, callOps_builtin, List.append_eq, beq_self_eq_true, Nat.zero_le, Bool.not_true, Bool.not_false, cvt_31_31, ex_conv_same, crcV]
    refine cond_dec (fun hc => ?_) (fun hc => ?_)
    · have hi' : i < s.size := by omega
      have hl : i < s.data.toList.length := by rw [len_data]; exact hi'
      have hx := (s.data.toList.getD i 0).toNat_lt
      have e1 : (((s.data.toList.getD i 0).toNat : Int)).fdiv (2 ^ (min 4 IntKind.u8.bits)) = (((s.data.toList.getD i 0).toNat / 16 : Nat) : Int) := shr_nat _ 4 (by decide)
      have hn := nib_nib (crcReg r (s.data.toList.take i)) (x := (s.data.toList.getD i 0).toNat) hx
      rw [← Nat.mod_eq_of_lt (show (s.data.toList.getD i 0).toNat / 16 < 16 by omega), ← crcReg_take r _ hl] at hn
      simp only [zz0, zz1, zz2, zz3, zz4, zz5, zz6, zz7, zz8, zz9, zz10, zz11, zz12, zz13, zz14, zz15, zz16, zz17, zz18, zz19, gateAt, noAssign, resKeys, killAll, siteDsts, isSite, refs, killL, killAV, st0, number, ev, exSl, bnd, bndOK, cellsAV, plain, ofCV, argsOf, argOf, srcOf, partsV, fillC, repeatL, resOf, binV, shV, intV, isShift, strV, unV, ares, ares1, isNilSl, reduceCtorEq, Nat.reduceBEq, Nat.reduceAdd, Nat.reduceSub, Nat.reduceMul, Nat.reduceLT, Nat.reduceLeDiff, Nat.reduceDiv, Nat.reduceEqDiff, Int.reduceToNat, CV.one, Value.oneCell', Int.reduceLT, Int.reduceLE, Int.reduceNeg, Int.reduceEq, GV, H0, F0, putL, Int.reduceBEq, Int.reduceBNe, ↓reduceIte, natV_cells, drop_nats, take_nats, head_nats, length_nats, length_natV, all_nats, exIx_natV, cells_natV, Bool.true_or, Bool.or_true, Bool.false_or, Bool.or_false, callOps_value, callOps_builtin, List.append_eq, beq_self_eq_true, Nat.zero_le, Bool.not_true, Bool.not_false, cvt_31_31, ex_conv_same, crcV, eq_true hi', e1]
      refine ⟨by kernel_rfl, ?_⟩
      refine call_by (spec_nibble _ _ (by omega)) ?_
      simp only [zz0, zz1, zz2, zz3, zz4, zz5, zz6, zz7, zz8, zz9, zz10, zz11, zz12, zz13, zz14, zz15, zz16, zz17, zz18, zz19, gateAt, noAssign, resKeys, killAll, siteDsts, isSite, refs, killL, killAV, st0, number, ev, exSl, bnd, bndOK, cellsAV, plain, ofCV, argsOf, argOf, srcOf, partsV, fillC, repeatL, resOf, binV, shV, intV, isShift, strV, unV, ares, ares1, isNilSl, reduceCtorEq, Nat.reduceBEq, Nat.reduceAdd, Nat.reduceSub, Nat.reduceMul, Nat.reduceLT, Nat.reduceLeDiff, Nat.reduceDiv, Nat.reduceEqDiff, Int.reduceToNat, CV.one, Value.oneCell', Int.reduceLT, Int.reduceLE, Int.reduceNeg, Int.reduceEq, GV, H0, F0, putL, Int.reduceBEq, Int.reduceBNe, ↓reduceIte, natV_cells, drop_nats, take_nats, head_nats, length_nats, length_natV, all_nats, exIx_natV, cells_natV, Bool.true_or, Bool.or_true, Bool.false_or, Bool.or_false, callOps_value, callOps_builtin, List.append_eq, beq_self_eq_true, Nat.zero_le, Bool.not_true, Bool.not_false, cvt_31_31, ex_conv_same, crcV, eq_true hi', e1]
      refine call_by (spec_nibble _ _ hx) ?_
      simp only [zz0, zz1, zz2, zz3, zz4, zz5, zz6, zz7, zz8, zz9, zz10, zz11, zz12, zz13, zz14, zz15, zz16, zz17, zz18, zz19, gateAt, noAssign, resKeys, killAll, siteDsts, isSite, refs, killL, killAV, st0, number, ev, exSl, bnd, bndOK, cellsAV, plain, ofCV, argsOf, argOf, srcOf, partsV, fillC, repeatL, resOf, binV, shV, intV, isShift, strV, unV, ares, ares1, isNilSl, reduceCtorEq, Nat.reduceBEq, Nat.reduceAdd, Nat.reduceSub, Nat.reduceMul, Nat.reduceLT, Nat.reduceLeDiff, Nat.reduceDiv, Nat.reduceEqDiff, Int.reduceToNat, CV.one, Value.oneCell', Int.reduceLT, Int.reduceLE, Int.reduceNeg, Int.reduceEq, GV, H0, F0, putL, Int.reduceBEq, Int.reduceBNe, ↓reduceIte, natV_cells, drop_nats, take_nats, head_nats, length_nats, length_natV, all_nats, exIx_natV, cells_natV, Bool.true_or, Bool.or_true, Bool.false_or, Bool.or_false, callOps_value, callOps_builtin, List.append_eq, beq_self_eq_true, Nat.zero_le, Bool.not_true, Bool.not_false, cvt_31_31, ex_conv_same, crcV, eq_true hi', e1, hn, i64_nat (show i < 9223372036854775807 by omega)]
      refine ⟨i + 1, by omega, by omega, ?_⟩
      refine stLe_mk ?_ ?_ ?_ <;> simp only [forall_mem_cons', forall_mem_nil', lk_hit, lk_miss, Nat.reduceBEq, AVle_refl, AVle_bot, AVle_untag, none_or_some, Option.some.injEq, and_true, true_and, length_bytesC, length_ints, length_strs, List.length_append, List.length_cons, List.length_nil]
    · simp only [zz0, zz1, zz2, zz3, zz4, zz5, zz6, zz7, zz8, zz9, zz10, zz11, zz12, zz13, zz14, zz15, zz16, zz17, zz18, zz19, gateAt, noAssign, resKeys, killAll, siteDsts, isSite, refs, killL, killAV, st0, number, ev, exSl, bnd, bndOK, cellsAV, plain, ofCV, argsOf, argOf, srcOf, partsV, fillC, repeatL, resOf, binV, shV, intV, isShift, strV, unV, ares, ares1, isNilSl, reduceCtorEq, Nat.reduceBEq, Nat.reduceAdd, Nat.reduceSub, Nat.reduceMul, Nat.reduceLT, Nat.reduceLeDiff, Nat.reduceDiv, Nat.reduceEqDiff, Int.reduceToNat, CV.one, Value.oneCell', Int.reduceLT, Int.reduceLE, Int.reduceNeg, Int.reduceEq, GV, H0, F0, putL, Int.reduceBEq, Int.reduceBNe, ↓reduceIte, natV_cells, drop_nats, take_nats, head_nats, length_nats, length_natV, all_nats, exIx_natV, cells_natV, Bool.true_or, Bool.or_true, Bool.false_or, Bool.or_false, callOps_value, callOps_builtin, List.append_eq, beq_self_eq_true, Nat.zero_le, Bool.not_true, Bool.not_false, cvt_31_31, ex_conv_same, crcV]
      have : i = s.data.toList.length := by rw [len_data]; omega
      rw [this, List.take_length]
theorem xor_all (r : Reg) : bits .xor .u64 (r.toNat : Int) 1099511627775 = (((r ^^^ ones).toNat : Nat) : Int) := by
  have hr := reg_lt r
  rw [show (1099511627775 : Int) = ((ones.toNat : Nat) : Int) from rfl, (bits_u64_nat _ _ (by omega) (by decide)).1, BitVec.toNat_xor]
theorem i64_reg (r : Reg) : IntKind.i64.wrap (r.toNat : Int) = (r.toNat : Int) := by
  have hr := reg_lt r
  exact i64_wrap (by omega) (by omega)
theorem spec_Value (r : Reg) : SP 26 [.v (crcV r)] (.v (.int .i64 (((r ^^^ ones).toNat : Nat) : Int))) := by
  refine spec_fn (H := H0) (F := F0) Tryd.func26 rfl Tryd.ntmps26 Tryd.results26 (by kernel_rfl) rfl (by simp) ?_
  simp only [zz0, zz1, zz2, zz3, zz4, zz5, zz6, zz7, zz8, zz9, zz10, zz11, zz12, zz13, zz14, zz15, zz16, zz17, zz18, zz19, gateAt, noAssign, resKeys, killAll, siteDsts, isSite, refs, killL, killAV, st0, number, ev, exSl, bnd, bndOK, cellsAV, plain, ofCV, argsOf, argOf, srcOf, partsV, fillC, repeatL, resOf, binV, shV, intV, isShift, strV, unV, ares, ares1, isNilSl, reduceCtorEq, Nat.reduceBEq, Nat.reduceAdd, Nat.reduceSub, Nat.reduceMul, Nat.reduceLT, Nat.reduceLeDiff, Nat.reduceDiv, Nat.reduceEqDiff, Int.reduceToNat, CV.one, Value.oneCell', Int.reduceLT, Int.reduceLE, Int.reduceNeg, Int.reduceEq, GV, H0, F0, putL, Int.reduceBEq, Int.reduceBNe, ↓reduceIte, natV_cells, drop_nats, take_nats, head_nats, length_nats, length_natV, all_nats, exIx_natV, cells_natV, Bool.true_or, Bool.or_true, Bool.false_or, Bool.or_false, callOps_value, callOps_builtin, List.append_eq, beq_self_eq_true, Nat.zero_le, Bool.not_true, Bool.not_false, cvt_31_31, ex_conv_same, crcV, xor_all, i64_reg]
theorem spec_Crc40 (l : List UInt8) (hl : l.length ≤ 1000000000) : SP 21 [.sl none 1 (bytesC l)] (.v (.int .i64 (crc l : Int))) := by
  refine spec_fn (H := H0) (F := F0) Tryd.func21 rfl Tryd.ntmps21 Tryd.results21 (by kernel_rfl) rfl (by simp) ?_
  simp only [zz0, zz1, zz2, zz3, zz4, zz5, zz6, zz7, zz8, zz9, zz10, zz11, zz12, zz13, zz14, zz15, zz16, zz17, zz18, zz19, gateAt, noAssign, resKeys, killAll, siteDsts, isSite, refs, killL, killAV, st0, number, ev, exSl, bnd, bndOK, cellsAV, plain, ofCV, argsOf, argOf, srcOf, partsV, fillC, repeatL, resOf, binV, shV, intV, isShift, strV, unV, ares, ares1, isNilSl, reduceCtorEq, Nat.reduceBEq, Nat.reduceAdd, Nat.reduceSub, Nat.reduceMul, Nat.reduceLT, Nat.reduceLeDiff, Nat.reduceDiv, Nat.reduceEqDiff, Int.reduceToNat, CV.one, Value.oneCell', Int.reduceLT, Int.reduceLE, Int.reduceNeg, Int.reduceEq, GV, H0, F0, putL, Int.reduceBEq, Int.reduceBNe, ↓reduceIte, natV_cells, drop_nats, take_nats, head_nats, length_nats, length_natV, all_nats, exIx_natV, cells_natV, Bool.true_or, Bool.or_true, Bool.false_or, Bool.or_false, callOps_value, callOps_builtin, List.append_eq, beq_self_eq_true, Nat.zero_le, Bool.not_true, Bool.not_false, cvt_31_31, ex_conv_same]
  refine ⟨by kernel_rfl, ?_⟩
  refine call_by spec_BeginCrc ?_
  simp only [zz0, zz1, zz2, zz3, zz4, zz5, zz6, zz7, zz8, zz9, zz10, zz11, zz12, zz13, zz14, zz15, zz16, zz17, zz18, zz19, gateAt, noAssign, resKeys, killAll, siteDsts, isSite, refs, killL, killAV, st0, number, ev, exSl, bnd, bndOK, cellsAV, plain, ofCV, argsOf, argOf, srcOf, partsV, fillC, repeatL, resOf, binV, shV, intV, isShift, strV, unV, ares, ares1, isNilSl, reduceCtorEq, Nat.reduceBEq, Nat.reduceAdd, Nat.reduceSub, Nat.reduceMul, Nat.reduceLT, Nat.reduceLeDiff, Nat.reduceDiv, Nat.reduceEqDiff, Int.reduceToNat, CV.one, Value.oneCell', Int.reduceLT, Int.reduceLE, Int.reduceNeg, Int.reduceEq, GV, H0, F0, putL, Int.reduceBEq, Int.reduceBNe, ↓reduceIte, natV_cells, drop_nats, take_nats, head_nats, length_nats, length_natV, all_nats, exIx_natV, cells_natV, Bool.true_or, Bool.or_true, Bool.false_or, Bool.or_false, callOps_value, callOps_builtin, List.append_eq, beq_self_eq_true, Nat.zero_le, Bool.not_true, Bool.not_false, cvt_31_31, ex_conv_same]
  refine call_by (spec_Add ones ⟨l.toArray⟩ hl) ?_
  simp only [zz0, zz1, zz2, zz3, zz4, zz5, zz6, zz7, zz8, zz9, zz10, zz11, zz12, zz13, zz14, zz15, zz16, zz17, zz18, zz19, gateAt, noAssign, resKeys, killAll, siteDsts, isSite, refs, killL, killAV, st0, number, ev, exSl, bnd, bndOK, cellsAV, plain, ofCV, argsOf, argOf, srcOf, partsV, fillC, repeatL, resOf, binV, shV, intV, isShift, strV, unV, ares, ares1, isNilSl, reduceCtorEq, Nat.reduceBEq, Nat.reduceAdd, Nat.reduceSub, Nat.reduceMul, Nat.reduceLT, Nat.reduceLeDiff, Nat.reduceDiv, Nat.reduceEqDiff, Int.reduceToNat, CV.one, Value.oneCell', Int.reduceLT, Int.reduceLE, Int.reduceNeg, Int.reduceEq, GV, H0, F0, putL, Int.reduceBEq, Int.reduceBNe, ↓reduceIte, natV_cells, drop_nats, take_nats, head_nats, length_nats, length_natV, all_nats, exIx_natV, cells_natV, Bool.true_or, Bool.or_true, Bool.false_or, Bool.or_false, callOps_value, callOps_builtin, List.append_eq, beq_self_eq_true, Nat.zero_le, Bool.not_true, Bool.not_false, cvt_31_31, ex_conv_same]
  refine call_by (spec_Value _) ?_
  simp only [zz0, zz1, zz2, zz3, zz4, zz5, zz6, zz7, zz8, zz9, zz10, zz11, zz12, zz13, zz14, zz15, zz16, zz17, zz18, zz19, gateAt, noAssign, resKeys, killAll, siteDsts, isSite, refs, killL, killAV, st0, number, ev, exSl, bnd, bndOK, cellsAV, plain, ofCV, argsOf, argOf, srcOf, partsV, fillC, repeatL, resOf, binV, shV, intV, isShift, strV, unV, ares, ares1, isNilSl, reduceCtorEq, Nat.reduceBEq, Nat.reduceAdd, Nat.reduceSub, Nat.reduceMul, Nat.reduceLT, Nat.reduceLeDiff, Nat.reduceDiv, Nat.reduceEqDiff, Int.reduceToNat, CV.one, Value.oneCell', Int.reduceLT, Int.reduceLE, Int.reduceNeg, Int.reduceEq, GV, H0, F0, putL, Int.reduceBEq, Int.reduceBNe, ↓reduceIte, natV_cells, drop_nats, take_nats, head_nats, length_nats, length_natV, all_nats, exIx_natV, cells_natV, Bool.true_or, Bool.or_true, Bool.false_or, Bool.or_false, callOps_value, callOps_builtin, List.append_eq, beq_self_eq_true, Nat.zero_le, Bool.not_true, Bool.not_false, cvt_31_31, ex_conv_same]
  rfl
end Abs
end Go.Proofs.YtkdpmjgigknbpaaDoor
