/-
  Walks: streams.
-/
import Derived.Test.YtkdpmjgigknbpaaDoorS3
namespace Go.Proofs.YtkdpmjgigknbpaaDoor
namespace Abs
open Go.RowKit Sha
set_option linter.unusedSimpArgs false
set_option linter.unusedVariables false
def stmV (s : Str) : List Value := natV .u32 [s.st.a, s.st.b, s.st.c, s.st.d, s.st.e, s.st.f, s.st.g, s.st.h] ++ ((s.bl.map fun b => Value.int .u8 (b.toNat : Int)) ++ [.int .u64 (s.n : Int)])
def stmC (s : Str) : List CV := nats .u32 [s.st.a, s.st.b, s.st.c, s.st.d, s.st.e, s.st.f, s.st.g, s.st.h] ++ (bytesC s.bl ++ [.v (.int .u64 (s.n : Int))])
theorem stmV_cells (s : Str) : (stmV s).map CV.v = stmC s := by simp [stmV, stmC, natV, nats, bytesC]
theorem plain_stmC (s : Str) : plain (stmC s) = some (stmV s) := by rw [← stmV_cells, plain_map]
theorem length_stmC {s : Str} (h : s.bl.length = 64) : (stmC s).length = 73 := by simp [stmC, nats, bytesC, h]
theorem length_stmV {s : Str} (h : s.bl.length = 64) : (stmV s).length = 73 := by simp [stmV, natV, h]
theorem take_stmC {s : Str} (h : s.bl.length = 64) : (stmC s).take 73 = stmC s := List.take_of_length_le (by rw [length_stmC h]; exact Nat.le_refl _)
theorem words_length (s : R8) : (nats .u32 [s.a, s.b, s.c, s.d, s.e, s.f, s.g, s.h]).length = 8 := rfl
theorem take8 (s : Str) : (stmC s).take 8 = nats .u32 [s.st.a, s.st.b, s.st.c, s.st.d, s.st.e, s.st.f, s.st.g, s.st.h] := List.take_left' (words_length s.st)
theorem drop8 (s : Str) : (stmC s).drop 8 = bytesC s.bl ++ [.v (.int .u64 (s.n : Int))] := List.drop_left' (words_length s.st)
theorem bl_of {s : Str} (h : s.bl.length = 64) : ((stmC s).drop 8).take 64 = bytesC s.bl := by
  rw [drop8, List.take_left' (by rw [length_bytesC, h])]
theorem drop72 {s : Str} (h : s.bl.length = 64) : (stmC s).drop 72 = [.v (.int .u64 (s.n : Int))] := by
  have e : (stmC s).drop 72 = ((stmC s).drop 8).drop 64 := by rw [List.drop_drop]
  rw [e, drop8, List.drop_left' (by rw [length_bytesC, h])]
theorem put72 {s : Str} (h : s.bl.length = 64) (m : Nat) : putL (stmC s) 72 [.v (.int .u64 (m : Int))] = stmC ⟨s.st, s.bl, m⟩ := by
  have e : (stmC s).take 72 = nats .u32 [s.st.a, s.st.b, s.st.c, s.st.d, s.st.e, s.st.f, s.st.g, s.st.h] ++ bytesC s.bl := by
    unfold stmC
    rw [← List.append_assoc]
    exact List.take_left' (by rw [List.length_append, words_length, length_bytesC, h])
  have e2 : (stmC s).drop (72 + 1) = [] := List.drop_eq_nil_of_le (by rw [length_stmC h]; exact Nat.le_refl _)
  unfold putL
  rw [e]
  simp only [List.length_singleton]
  rw [e2]
  simp [stmC]
theorem put0s {s : Str} (st : R8) : putL (stmC s) 0 (nats .u32 [st.a, st.b, st.c, st.d, st.e, st.f, st.g, st.h]) = stmC ⟨st, s.bl, s.n⟩ := by
  unfold putL
  rw [words_length, show 0 + 8 = 8 from rfl, drop8]
  simp [stmC]
theorem put_bl {s : Str} (h : s.bl.length = 64) {i : Nat} {l : List UInt8} (hi : i + l.length ≤ 64) : putL (stmC s) (8 + i) (bytesC l) = stmC ⟨s.st, putB s.bl i l, s.n⟩ := by
  have e1 : (stmC s).take (8 + i) = nats .u32 [s.st.a, s.st.b, s.st.c, s.st.d, s.st.e, s.st.f, s.st.g, s.st.h] ++ bytesC (s.bl.take i) := by
    unfold stmC
    rw [List.take_append, words_length, List.take_of_length_le (by rw [words_length]; omega), show 8 + i - 8 = i by omega, List.take_append_of_le_length (by rw [length_bytesC, h]; omega), take_bytesC]
  have e2 : (stmC s).drop (8 + i + (bytesC l).length) = bytesC (s.bl.drop (i + l.length)) ++ [.v (.int .u64 (s.n : Int))] := by
    rw [length_bytesC, show 8 + i + l.length = 8 + (i + l.length) by omega, ← List.drop_drop, drop8, List.drop_append_of_le_length (by rw [length_bytesC, h]; omega), drop_bytesC]
  unfold putL
  rw [e1, e2]
  simp [stmC, putB, bytesC_append]
theorem tmod_nat (a b : Nat) : Int.tmod (a : Int) (b : Int) = ((a % b : Nat) : Int) := by
  rw [Int.tmod_eq_emod_of_nonneg (by omega)]; simp
theorem extract_drop (l : List UInt8) (k n : Nat) (hn : n = l.length) : (⟨l.toArray⟩ : ByteArray).extract k n = ⟨(l.drop k).toArray⟩ := by
  subst hn
  have h : ((⟨l.toArray⟩ : ByteArray).extract k l.length).data = (l.drop k).toArray := by
    rw [ByteArray.data_extract]
    simp
    exact List.take_of_length_le (by simp)
  generalize (⟨l.toArray⟩ : ByteArray).extract k l.length = x at h
  cases x
  simp only at h
  rw [h]
theorem all_stmC (s : Str) : (stmC s).all CV.one = true := by
  rw [stmC, List.all_append, List.all_append, all_nats, all_bytesC]; rfl
theorem spec_Begin : SP 34 [] (.v (.agg (stmV s0).toArray)) := by
  refine spec_fn (H := H0) (F := F0) Tryd.func34 rfl Tryd.ntmps34 Tryd.results34 (by kernel_rfl) rfl (by simp) ?_
  simp only [zz0, zz1, zz2, zz3, zz4, zz5, zz6, zz7, zz8, zz9, zz10, zz11, zz12, zz13, zz14, zz15, zz16, zz17, zz18, zz19, gateAt, noAssign, resKeys, killAll, siteDsts, isSite, refs, killL, killAV, st0, number, ev, exSl, bnd, bndOK, cellsAV, plain, ofCV, argsOf, argOf, srcOf, partsV, fillC, repeatL, resOf, binV, shV, intV, isShift, strV, unV, ares, ares1, isNilSl, reduceCtorEq, Nat.reduceBEq, Nat.reduceAdd, Nat.reduceSub, Nat.reduceMul, Nat.reduceLT, Nat.reduceLeDiff, Nat.reduceDiv, Nat.reduceEqDiff, Int.reduceToNat, CV.one, Value.oneCell', Int.reduceLT, Int.reduceLE, Int.reduceNeg, Int.reduceEq, GV, H0, F0, Int.reduceBEq, Int.reduceBNe, ↓reduceIte, natV_cells, drop_nats, take_nats, head_nats, length_nats, length_natV, all_nats, exIx_natV, cells_natV, Bool.true_or, Bool.or_true, Bool.false_or, Bool.or_false, callOps_value, callOps_builtin, List.append_eq, beq_self_eq_true, Nat.zero_le, Bool.not_true, Bool.not_false, cvt_31_31, ex_conv_same, putL]
  rfl
def zeroS : Str := ⟨⟨0, 0, 0, 0, 0, 0, 0, 0⟩, List.replicate 64 0, 0⟩
def FS4 : Nat → Nat → List Nat × List Nat := fun _ k => if k = 6 then ([2], [2]) else ([2], [])
set_option maxRecDepth 100000 in
set_option maxHeartbeats 4000000 in
theorem spec_SAdd (s : Str) (l : List UInt8) (hb : s.bl.length = 64) (hn : s.n + l.length ≤ 1000000000000) : SP 35 [.v (.agg (stmV s).toArray), .v (.string ⟨l.toArray⟩)] (.v (.agg (stmV (feed s l)).toArray)) := by
  refine spec_fn (H := H0) (F := FS4) Tryd.func35 rfl Tryd.ntmps35 Tryd.results35 (by kernel_rfl) rfl (by simp) ?_
  simp only [zz0, zz1, zz2, zz3, zz4, zz5, zz6, zz7, zz8, zz9, zz10, zz11, zz12, zz13, zz14, zz15, zz16, zz17, zz18, zz19, gateAt, noAssign, resKeys, killAll, siteDsts, isSite, refs, killL, killAV, st0, number, ev, exSl, bnd, bndOK, cellsAV, plain, ofCV, argsOf, argOf, srcOf, partsV, fillC, repeatL, resOf, binV, shV, intV, isShift, strV, unV, ares, ares1, isNilSl, reduceCtorEq, Nat.reduceBEq, Nat.reduceAdd, Nat.reduceSub, Nat.reduceMul, Nat.reduceLT, Nat.reduceLeDiff, Nat.reduceDiv, Nat.reduceEqDiff, Int.reduceToNat, CV.one, Value.oneCell', Int.reduceLT, Int.reduceLE, Int.reduceNeg, Int.reduceEq, GV, H0, F0, Int.reduceBEq, Int.reduceBNe, ↓reduceIte, natV_cells, drop_nats, take_nats, head_nats, length_nats, length_natV, all_nats, exIx_natV, cells_natV, Bool.true_or, Bool.or_true, Bool.false_or, Bool.or_false, callOps_value, callOps_builtin, List.append_eq, beq_self_eq_true, Nat.zero_le, Bool.not_true, Bool.not_false, cvt_31_31, ex_conv_same, stmV_cells, length_stmC hb]
  refine loop_by (X := Str × List UInt8) (fun x => ⟨S [(1, .v (.string ⟨x.2.toArray⟩)), (2, .bp 2 0), (4, .bp 4 0)], B [(2, some (stmC x.1)), (4, some (stmC zeroS))], O []⟩)
    (fun x => feed x.1 x.2 = feed s l ∧ x.1.bl.length = 64 ∧ x.1.n + x.2.length ≤ 1000000000000) (fun x => x.2.length) (s, l) ⟨rfl, hb, hn⟩ ?_ ?_
  · refine stLe_mk ?_ ?_ ?_ <;> simp only [forall_mem_cons', forall_mem_nil', lk_hit, lk_miss, Nat.reduceBEq, AVle_refl, AVle_bot, AVle_untag, none_or_some, Option.some.injEq, and_true, true_and, length_bytesC, length_ints, length_strs, List.length_append, List.length_cons, List.length_nil]
    rfl
  · rintro ⟨u, m⟩ ⟨hf, hu, hm⟩
    simp only at hf hu hm
    have hne : (⟨m.toArray⟩ : ByteArray).toList = m := toList_mk m
    have hne0 : (⟨#[]⟩ : ByteArray).toList = [] := toList_mk []
    simp only [zz0, zz1, zz2, zz3, zz4, zz5, zz6, zz7, zz8, zz9, zz10, zz11, zz12, zz13, zz14, zz15, zz16, zz17, zz18, zz19, gateAt, noAssign, resKeys, killAll, siteDsts, isSite, refs, killL, killAV, st0, number, ev, exSl, bnd, bndOK, cellsAV, plain, ofCV, argsOf, argOf, srcOf, partsV, fillC, repeatL, resOf, binV, shV, intV, isShift, strV, unV, ares, ares1, isNilSl, reduceCtorEq, Nat.reduceBEq, Nat.reduceAdd, Nat.reduceSub, Nat.reduceMul, Nat.reduceLT, Nat.reduceLeDiff, Nat.reduceDiv, Nat.reduceEqDiff, Int.reduceToNat, CV.one, Value.oneCell', Int.reduceLT, Int.reduceLE, Int.reduceNeg, Int.reduceEq, GV, H0, F0, Int.reduceBEq, Int.reduceBNe, ↓reduceIte, natV_cells, drop_nats, take_nats, head_nats, length_nats, length_natV, all_nats, exIx_natV, cells_natV, Bool.true_or, Bool.or_true, Bool.false_or, Bool.or_false, callOps_value, callOps_builtin, List.append_eq, beq_self_eq_true, Nat.zero_le, Bool.not_true, Bool.not_false, cvt_31_31, ex_conv_same, hne, hne0]
    cases m with
    | nil =>
      have hz : (stmC zeroS).length = 73 := rfl
      simp only [zz0, zz1, zz2, zz3, zz4, zz5, zz6, zz7, zz8, zz9, zz10, zz11, zz12, zz13, zz14, zz15, zz16, zz17, zz18, zz19, gateAt, noAssign, resKeys, killAll, siteDsts, isSite, refs, killL, killAV, st0, number, ev, exSl, bnd, bndOK, cellsAV, plain, ofCV, argsOf, argOf, srcOf, partsV, fillC, repeatL, resOf, binV, shV, intV, isShift, strV, unV, ares, ares1, isNilSl, reduceCtorEq, Nat.reduceBEq, Nat.reduceAdd, Nat.reduceSub, Nat.reduceMul, Nat.reduceLT, Nat.reduceLeDiff, Nat.reduceDiv, Nat.reduceEqDiff, Int.reduceToNat, CV.one, Value.oneCell', Int.reduceLT, Int.reduceLE, Int.reduceNeg, Int.reduceEq, GV, H0, F0, Int.reduceBEq, Int.reduceBNe, ↓reduceIte, natV_cells, drop_nats, take_nats, head_nats, length_nats, length_natV, all_nats, exIx_natV, cells_natV, Bool.true_or, Bool.or_true, Bool.false_or, Bool.or_false, callOps_value, callOps_builtin, List.append_eq, beq_self_eq_true, Nat.zero_le, Bool.not_true, Bool.not_false, cvt_31_31, ex_conv_same, hne, hne0, take_stmC hu, plain_stmC, length_stmV hu, stmV_cells, length_stmC hu, put_whole, hz, all_stmC]
      rw [← hf]; rfl
    | cons y m =>
      have hw0 : (y :: m) ≠ [] := by simp
      have g : ((y :: m) == ([] : List UInt8)) = false := rfl
      generalize (y :: m) = w at *
      have hlt : u.n % 64 < 64 := Nat.mod_lt _ (by decide)
      have hpos : 0 < w.length := List.length_pos_iff.2 hw0
      have e1 : Int.tmod (u.n : Int) 64 = ((u.n % 64 : Nat) : Int) := tmod_nat u.n 64
      have e2 : IntKind.i64.wrap ((u.n % 64 : Nat) : Int) = ((u.n % 64 : Nat) : Int) := i64_wrap (by omega) (by omega)
      have sz : (⟨w.toArray⟩ : ByteArray).size = w.length := by show w.toArray.size = _; simp
      obtain ⟨k, hk⟩ : ∃ k, min w.length (64 - u.n % 64) = k := ⟨_, rfl⟩
      have hp : (w.take (64 - u.n % 64)).length = k := by rw [List.length_take]; omega
      have hput := put_bl hu (i := u.n % 64) (l := w.take (64 - u.n % 64)) (by omega)
      have hext := extract_drop w k w.length rfl
      have hl1 : (putB u.bl (u.n % 64) (w.take (64 - u.n % 64))).length = 64 := by rw [putB_length (by omega), hu]
      have w1 : IntKind.u64.wrap (k : Int) = (k : Int) := u64_wrap (by omega) (by omega)
      have w2 : IntKind.u64.wrap ((u.n : Int) + (k : Int)) = ((u.n + k : Nat) : Int) := by rw [u64_wrap (by omega) (by omega)]; omega
      have w3 : IntKind.i64.wrap (((u.n % 64 : Nat) : Int) + (k : Int)) = ((u.n % 64 + k : Nat) : Int) := by rw [i64_wrap (by omega) (by omega)]; omega
      have i1 : u.n % 64 ≤ 64 := by omega
      have i2 : 8 + u.n % 64 + (64 - u.n % 64) ≤ 73 := by omega
      have i3 : k ≤ w.length := by omega
      have hfp := feed_piece (w.take (64 - u.n % 64)) u hu (by omega) (by intro e; rw [e] at hp; simp at hp; omega)
      rw [hp] at hfp
      have hft : feed u w = feed (feed u (w.take (64 - u.n % 64))) (w.drop k) := by
        have e : w = w.take (64 - u.n % 64) ++ w.drop k := by
          conv => lhs; rw [← List.take_append_drop (64 - u.n % 64) w]
          rcases Nat.le_total w.length (64 - u.n % 64) with h | h
          · rw [List.drop_eq_nil_of_le h, List.drop_eq_nil_of_le (by omega)]
          · rw [show k = 64 - u.n % 64 by omega]
        conv => lhs; rw [e]
        rw [feed_append]
      obtain ⟨c, hc⟩ : ∃ c, (((u.n % 64 + k : Nat) : Int) == 64) = c := ⟨_, rfl⟩
      cases c
      · have hne64 : ¬ u.n % 64 + k = 64 := by intro e; rw [e] at hc; exact absurd hc (by decide)
        rw [if_neg hne64] at hfp
        simp only [zz0, zz1, zz2, zz3, zz4, zz5, zz6, zz7, zz8, zz9, zz10, zz11, zz12, zz13, zz14, zz15, zz16, zz17, zz18, zz19, gateAt, noAssign, resKeys, killAll, siteDsts, isSite, refs, killL, killAV, st0, number, ev, exSl, bnd, bndOK, cellsAV, plain, ofCV, argsOf, argOf, srcOf, partsV, fillC, repeatL, resOf, binV, shV, intV, isShift, strV, unV, ares, ares1, isNilSl, reduceCtorEq, Nat.reduceBEq, Nat.reduceAdd, Nat.reduceSub, Nat.reduceMul, Nat.reduceLT, Nat.reduceLeDiff, Nat.reduceDiv, Nat.reduceEqDiff, Int.reduceToNat, CV.one, Value.oneCell', Int.reduceLT, Int.reduceLE, Int.reduceNeg, Int.reduceEq, GV, H0, F0, Int.reduceBEq, Int.reduceBNe, ↓reduceIte, natV_cells, drop_nats, take_nats, head_nats, length_nats, length_natV, all_nats, exIx_natV, cells_natV, Bool.true_or, Bool.or_true, Bool.false_or, Bool.or_false, callOps_value, callOps_builtin, List.append_eq, beq_self_eq_true, Nat.zero_le, Bool.not_true, Bool.not_false, cvt_31_31, ex_conv_same, hne, hne0, g, drop72 hu, e1, e2, sz, hk, hput, hext, hlt, length_stmC hu, drop72 (s := ⟨u.st, putB u.bl (u.n % 64) (w.take (64 - u.n % 64)), u.n⟩) hl1, put72 (s := ⟨u.st, putB u.bl (u.n % 64) (w.take (64 - u.n % 64)), u.n⟩) hl1, w1, w2, w3, i1, i2, i3, hc, length_stmC (s := ⟨u.st, putB u.bl (u.n % 64) (w.take (64 - u.n % 64)), u.n⟩) hl1]
        refine ⟨(⟨u.st, putB u.bl (u.n % 64) (w.take (64 - u.n % 64)), u.n + k⟩, w.drop k), ⟨by simp only; rw [← hfp, ← hft, hf], hl1, by simp only [List.length_drop]; omega⟩, by simp only [List.length_drop]; omega, ?_⟩
        refine stLe_mk ?_ ?_ ?_ <;> simp only [forall_mem_cons', forall_mem_nil', lk_hit, lk_miss, Nat.reduceBEq, AVle_refl, AVle_bot, AVle_untag, none_or_some, Option.some.injEq, and_true, true_and, length_bytesC, length_ints, length_strs, List.length_append, List.length_cons, List.length_nil]
      · have he64 : u.n % 64 + k = 64 := by
          by_cases h : u.n % 64 + k = 64
          · exact h
          · have : (((u.n % 64 + k : Nat) : Int) == 64) = false := by rw [beq_eq_false_iff_ne]; omega
            rw [this] at hc; cases hc
        rw [if_pos he64] at hfp
        generalize hU : (⟨u.st, putB u.bl (u.n % 64) (w.take (64 - u.n % 64)), u.n⟩ : Str) = U1 at *
        have hU1 : U1.bl = putB u.bl (u.n % 64) (w.take (64 - u.n % 64)) := by rw [← hU]
        have hUl : U1.bl.length = 64 := by rw [hU1]; exact hl1
        have hUst : U1.st = u.st := by rw [← hU]
        have hUn : U1.n = u.n := by rw [← hU]
        have hV : (⟨U1.st, U1.bl, u.n + k⟩ : Str).bl.length = 64 := hUl
        simp only [zz0, zz1, zz2, zz3, zz4, zz5, zz6, zz7, zz8, zz9, zz10, zz11, zz12, zz13, zz14, zz15, zz16, zz17, zz18, zz19, gateAt, noAssign, resKeys, killAll, siteDsts, isSite, refs, killL, killAV, st0, number, ev, exSl, bnd, bndOK, cellsAV, plain, ofCV, argsOf, argOf, srcOf, partsV, fillC, repeatL, resOf, binV, shV, intV, isShift, strV, unV, ares, ares1, isNilSl, reduceCtorEq, Nat.reduceBEq, Nat.reduceAdd, Nat.reduceSub, Nat.reduceMul, Nat.reduceLT, Nat.reduceLeDiff, Nat.reduceDiv, Nat.reduceEqDiff, Int.reduceToNat, CV.one, Value.oneCell', Int.reduceLT, Int.reduceLE, Int.reduceNeg, Int.reduceEq, GV, H0, F0, Int.reduceBEq, Int.reduceBNe, ↓reduceIte, natV_cells, drop_nats, take_nats, head_nats, length_nats, length_natV, all_nats, exIx_natV, cells_natV, Bool.true_or, Bool.or_true, Bool.false_or, Bool.or_false, callOps_value, callOps_builtin, List.append_eq, beq_self_eq_true, Nat.zero_le, Bool.not_true, Bool.not_false, cvt_31_31, ex_conv_same, hne, hne0, g, drop72 hu, e1, e2, sz, hk, hput, hext, hlt, length_stmC hu, drop72 hUl, put72 hUl, w1, w2, w3, i1, i2, i3, hc, length_stmC hUl, hUn, take8, bl_of hV, length_stmC hV, plain_nats, FS4]
        refine ⟨by kernel_rfl, ?_⟩
        refine call_by (spec_compress U1.st U1.bl hUl) ?_
        simp only [zz0, zz1, zz2, zz3, zz4, zz5, zz6, zz7, zz8, zz9, zz10, zz11, zz12, zz13, zz14, zz15, zz16, zz17, zz18, zz19, gateAt, noAssign, resKeys, killAll, siteDsts, isSite, refs, killL, killAV, st0, number, ev, exSl, bnd, bndOK, cellsAV, plain, ofCV, argsOf, argOf, srcOf, partsV, fillC, repeatL, resOf, binV, shV, intV, isShift, strV, unV, ares, ares1, isNilSl, reduceCtorEq, Nat.reduceBEq, Nat.reduceAdd, Nat.reduceSub, Nat.reduceMul, Nat.reduceLT, Nat.reduceLeDiff, Nat.reduceDiv, Nat.reduceEqDiff, Int.reduceToNat, CV.one, Value.oneCell', Int.reduceLT, Int.reduceLE, Int.reduceNeg, Int.reduceEq, GV, H0, F0, Int.reduceBEq, Int.reduceBNe, ↓reduceIte, natV_cells, drop_nats, take_nats, head_nats, length_nats, length_natV, all_nats, exIx_natV, cells_natV, Bool.true_or, Bool.or_true, Bool.false_or, Bool.or_false, callOps_value, callOps_builtin, List.append_eq, beq_self_eq_true, Nat.zero_le, Bool.not_true, Bool.not_false, cvt_31_31, ex_conv_same, r8V, put0s, length_stmC hV, FS4]
        refine ⟨(⟨comp U1.st U1.bl, U1.bl, u.n + k⟩, w.drop k), ⟨by simp only; rw [hUst, hU1, ← hfp, ← hft, hf], hUl, by simp only [List.length_drop]; omega⟩, by simp only [List.length_drop]; omega, ?_⟩
        refine stLe_mk ?_ ?_ ?_ <;> simp only [forall_mem_cons', forall_mem_nil', lk_hit, lk_miss, Nat.reduceBEq, AVle_refl, AVle_bot, AVle_untag, none_or_some, Option.some.injEq, and_true, true_and, length_bytesC, length_ints, length_strs, List.length_append, List.length_cons, List.length_nil]
end Abs
end Go.Proofs.YtkdpmjgigknbpaaDoor
