/-
  The walk of HashOfSeparates.
-/
import Derived.Test.YtkdpmjgigknbpaaDoorS18
import Derived.Test.YtkdpmjgigknbpaaDoorS10
import Derived.Test.YtkdpmjgigknbpaaDoorS9
namespace Go.Proofs.YtkdpmjgigknbpaaDoor
namespace Abs
open Go.RowKit Sha
set_option linter.unusedSimpArgs false
set_option linter.unusedVariables false
def F4 : Nat → Nat → List Nat × List Nat := fun id _ => if id = 21 then ([14, 15], []) else ([], [])
theorem small_few {l : List ByteArray} (h1 : l.length ≤ 12) (h2 : ∀ s ∈ l, s.size ≤ 400) : smallP l := ⟨by omega, fun p hp => by have := h2 p hp; omega⟩
theorem small_input {l : List ByteArray} (tag : Int) (h1 : l.length ≤ 12) (h2 : ∀ s ∈ l, s.size ≤ 400) : (inputOf tag l).length ≤ 20000000 := by
  have := flat_small l (fun p hp => by have := h2 p hp; omega)
  simp only [inputOf, List.length_cons]
  omega
def same (x y : UInt8) (a b : List ByteArray) (i : Nat) : Bool := decide (x = y ∧ a.length = b.length ∧ a.take i = b.take i)
theorem same_zero (x y : UInt8) (a b : List ByteArray) : same x y a b 0 = (decide (x = y) && decide (a.length = b.length)) := by
  simp [same, Bool.decide_and]
theorem same_self (x : UInt8) (a : List ByteArray) (i : Nat) : same x x a a i = true := by simp [same]
theorem same_end (x y : UInt8) (a b : List ByteArray) : same x y a b a.length = decide (x = y ∧ a = b) := by
  unfold same
  congr 1
  rw [eq_iff_iff]
  constructor
  · rintro ⟨h1, h2, h3⟩
    rw [List.take_length, h2, List.take_length] at h3
    exact ⟨h1, h3⟩
  · rintro ⟨rfl, rfl⟩
    exact ⟨rfl, rfl, rfl⟩
theorem same_true {x y : UInt8} {a b : List ByteArray} {i : Nat} (h : same x y a b i = true) : x = y ∧ a.length = b.length ∧ a.take i = b.take i := of_decide_eq_true h
theorem same_step {x y : UInt8} {a b : List ByteArray} {i : Nat} (h : same x y a b i = true) (hi : i < a.length) : same x y a b (i + 1) = decide (a.getD i ByteArray.empty = b.getD i ByteArray.empty) := by
  obtain ⟨h1, h2, h3⟩ := same_true h
  unfold same
  rw [take_succ' ByteArray.empty hi, take_succ' ByteArray.empty (show i < b.length by omega), h3]
  simp [h1, h2]
theorem toList_data (s : ByteArray) : s.toList = s.data.toList := toList_mk s.data.toList
theorem toList_beq (x y : ByteArray) : (x.toList == y.toList) = decide (x = y) := by
  rw [toList_data, toList_data]
  by_cases h : x = y
  · subst h; simp
  · have : ¬ x.data.toList = y.data.toList := fun e => h (by cases x; cases y; simp only at e; congr; exact Array.toList_inj.1 e)
    rw [decide_eq_false h, beq_eq_false_iff_ne]; exact this
theorem byte_beq (x y : UInt8) : ((x.toNat : Int) == (y.toNat : Int)) = decide (x = y) := by
  by_cases h : x = y
  · subst h; simp
  · rw [decide_eq_false h, beq_eq_false_iff_ne]
    intro e
    exact h (UInt8.toNat_inj.1 (by omega))
def clash (g h : List UInt8) (j : Nat) : Bool := decide (g.take j = h.take j)
theorem clash_zero (g h : List UInt8) : clash g h 0 = true := by simp [clash]
theorem clash_step {g h : List UInt8} {j : Nat} (hg : j < g.length) (hh : j < h.length) (hc : clash g h j = true) : clash g h (j + 1) = decide (g.getD j 0 = h.getD j 0) := by
  have h1 : g.take j = h.take j := of_decide_eq_true hc
  unfold clash
  rw [take_succ' 0 hg, take_succ' 0 hh, h1]
  simp
theorem clash_false {g h : List UInt8} {j : Nat} (hc : clash g h j = false) : clash g h (j + 1) = false := by
  have h1 : ¬ g.take j = h.take j := of_decide_eq_false hc
  unfold clash
  rw [decide_eq_false_iff_not]
  intro e
  apply h1
  have := congrArg (List.take j) e
  rwa [List.take_take, List.take_take, Nat.min_eq_left (by omega)] at this
theorem sha32 (l : List UInt8) : (sha l).length = 32 := outB_length _
set_option maxRecDepth 100000 in
set_option maxHeartbeats 4000000 in
theorem spec_LSep (x y : UInt8) (a b : List ByteArray) (hsa : ∀ s ∈ a, s.size ≤ maxLen) (hla : a.length ≤ maxLen) (hsb : ∀ s ∈ b, s.size ≤ maxLen) (hlb : b.length ≤ maxLen) :
    SP 4 [.v (aggB [x, y]), .sl none 1 (strs a), .sl none 1 (strs b)] (.v (.bool true)) := by
  refine spec_fn (H := H0) (F := F4) Tryd.func4 rfl Tryd.ntmps4 Tryd.results4 (by kernel_rfl) rfl (by simp) ?_
  simp only [zz0, zz1, zz2, zz3, zz4, zz5, zz6, zz7, zz8, zz9, zz10, zz11, zz12, zz13, zz14, zz15, zz16, zz17, zz18, zz19, gateAt, noAssign, resKeys, killAll, siteDsts, isSite, refs, killL, killAV, st0, number, ev, exSl, bnd, bndOK, cellsAV, plain, ofCV, argsOf, argOf, srcOf, partsV, fillC, repeatL, resOf, binV, shV, intV, isShift, strV, unV, ares, ares1, isNilSl, reduceCtorEq, Nat.reduceBEq, Nat.reduceAdd, Nat.reduceSub, Nat.reduceMul, Nat.reduceLT, Nat.reduceLeDiff, Nat.reduceDiv, Nat.reduceEqDiff, Int.reduceToNat, CV.one, Value.oneCell', Int.reduceLT, Int.reduceLE, Int.reduceNeg, Int.reduceEq, GV, H0, F0, Int.reduceBEq, Int.reduceBNe, ↓reduceIte, natV_cells, drop_nats, take_nats, head_nats, length_nats, length_natV, all_nats, exIx_natV, cells_natV, Bool.true_or, Bool.or_true, Bool.false_or, Bool.or_false, callOps_value, callOps_builtin, List.append_eq, beq_self_eq_true, Nat.zero_le, Bool.not_true, Bool.not_false, cvt_31_31, ex_conv_same]
  refine call_by spec_sanity ?_
  simp only [zz0, zz1, zz2, zz3, zz4, zz5, zz6, zz7, zz8, zz9, zz10, zz11, zz12, zz13, zz14, zz15, zz16, zz17, zz18, zz19, gateAt, noAssign, resKeys, killAll, siteDsts, isSite, refs, killL, killAV, st0, number, ev, exSl, bnd, bndOK, cellsAV, plain, ofCV, argsOf, argOf, srcOf, partsV, fillC, repeatL, resOf, binV, shV, intV, isShift, strV, unV, ares, ares1, isNilSl, reduceCtorEq, Nat.reduceBEq, Nat.reduceAdd, Nat.reduceSub, Nat.reduceMul, Nat.reduceLT, Nat.reduceLeDiff, Nat.reduceDiv, Nat.reduceEqDiff, Int.reduceToNat, CV.one, Value.oneCell', Int.reduceLT, Int.reduceLE, Int.reduceNeg, Int.reduceEq, GV, H0, F0, Int.reduceBEq, Int.reduceBNe, ↓reduceIte, natV_cells, drop_nats, take_nats, head_nats, length_nats, length_natV, all_nats, exIx_natV, cells_natV, Bool.true_or, Bool.or_true, Bool.false_or, Bool.or_false, callOps_value, callOps_builtin, List.append_eq, beq_self_eq_true, Nat.zero_le, Bool.not_true, Bool.not_false, cvt_31_31, ex_conv_same]
  refine call_by (spec_Few a hsa hla) ?_
  by_cases hfa : fewB a = true
  case neg =>
    simp only [zz0, zz1, zz2, zz3, zz4, zz5, zz6, zz7, zz8, zz9, zz10, zz11, zz12, zz13, zz14, zz15, zz16, zz17, zz18, zz19, gateAt, noAssign, resKeys, killAll, siteDsts, isSite, refs, killL, killAV, st0, number, ev, exSl, bnd, bndOK, cellsAV, plain, ofCV, argsOf, argOf, srcOf, partsV, fillC, repeatL, resOf, binV, shV, intV, isShift, strV, unV, ares, ares1, isNilSl, reduceCtorEq, Nat.reduceBEq, Nat.reduceAdd, Nat.reduceSub, Nat.reduceMul, Nat.reduceLT, Nat.reduceLeDiff, Nat.reduceDiv, Nat.reduceEqDiff, Int.reduceToNat, CV.one, Value.oneCell', Int.reduceLT, Int.reduceLE, Int.reduceNeg, Int.reduceEq, GV, H0, F0, Int.reduceBEq, Int.reduceBNe, ↓reduceIte, natV_cells, drop_nats, take_nats, head_nats, length_nats, length_natV, all_nats, exIx_natV, cells_natV, Bool.true_or, Bool.or_true, Bool.false_or, Bool.or_false, callOps_value, callOps_builtin, List.append_eq, beq_self_eq_true, Nat.zero_le, Bool.not_true, Bool.not_false, cvt_31_31, ex_conv_same, Bool.eq_false_iff.2 hfa]
  by_cases hfb : fewB b = true
  case neg =>
    simp only [zz0, zz1, zz2, zz3, zz4, zz5, zz6, zz7, zz8, zz9, zz10, zz11, zz12, zz13, zz14, zz15, zz16, zz17, zz18, zz19, gateAt, noAssign, resKeys, killAll, siteDsts, isSite, refs, killL, killAV, st0, number, ev, exSl, bnd, bndOK, cellsAV, plain, ofCV, argsOf, argOf, srcOf, partsV, fillC, repeatL, resOf, binV, shV, intV, isShift, strV, unV, ares, ares1, isNilSl, reduceCtorEq, Nat.reduceBEq, Nat.reduceAdd, Nat.reduceSub, Nat.reduceMul, Nat.reduceLT, Nat.reduceLeDiff, Nat.reduceDiv, Nat.reduceEqDiff, Int.reduceToNat, CV.one, Value.oneCell', Int.reduceLT, Int.reduceLE, Int.reduceNeg, Int.reduceEq, GV, H0, F0, Int.reduceBEq, Int.reduceBNe, ↓reduceIte, natV_cells, drop_nats, take_nats, head_nats, length_nats, length_natV, all_nats, exIx_natV, cells_natV, Bool.true_or, Bool.or_true, Bool.false_or, Bool.or_false, callOps_value, callOps_builtin, List.append_eq, beq_self_eq_true, Nat.zero_le, Bool.not_true, Bool.not_false, cvt_31_31, ex_conv_same, hfa]
    refine call_by (spec_Few b hsb hlb) ?_
    simp only [zz0, zz1, zz2, zz3, zz4, zz5, zz6, zz7, zz8, zz9, zz10, zz11, zz12, zz13, zz14, zz15, zz16, zz17, zz18, zz19, gateAt, noAssign, resKeys, killAll, siteDsts, isSite, refs, killL, killAV, st0, number, ev, exSl, bnd, bndOK, cellsAV, plain, ofCV, argsOf, argOf, srcOf, partsV, fillC, repeatL, resOf, binV, shV, intV, isShift, strV, unV, ares, ares1, isNilSl, reduceCtorEq, Nat.reduceBEq, Nat.reduceAdd, Nat.reduceSub, Nat.reduceMul, Nat.reduceLT, Nat.reduceLeDiff, Nat.reduceDiv, Nat.reduceEqDiff, Int.reduceToNat, CV.one, Value.oneCell', Int.reduceLT, Int.reduceLE, Int.reduceNeg, Int.reduceEq, GV, H0, F0, Int.reduceBEq, Int.reduceBNe, ↓reduceIte, natV_cells, drop_nats, take_nats, head_nats, length_nats, length_natV, all_nats, exIx_natV, cells_natV, Bool.true_or, Bool.or_true, Bool.false_or, Bool.or_false, callOps_value, callOps_builtin, List.append_eq, beq_self_eq_true, Nat.zero_le, Bool.not_true, Bool.not_false, cvt_31_31, ex_conv_same, Bool.eq_false_iff.2 hfb]
  simp only [zz0, zz1, zz2, zz3, zz4, zz5, zz6, zz7, zz8, zz9, zz10, zz11, zz12, zz13, zz14, zz15, zz16, zz17, zz18, zz19, gateAt, noAssign, resKeys, killAll, siteDsts, isSite, refs, killL, killAV, st0, number, ev, exSl, bnd, bndOK, cellsAV, plain, ofCV, argsOf, argOf, srcOf, partsV, fillC, repeatL, resOf, binV, shV, intV, isShift, strV, unV, ares, ares1, isNilSl, reduceCtorEq, Nat.reduceBEq, Nat.reduceAdd, Nat.reduceSub, Nat.reduceMul, Nat.reduceLT, Nat.reduceLeDiff, Nat.reduceDiv, Nat.reduceEqDiff, Int.reduceToNat, CV.one, Value.oneCell', Int.reduceLT, Int.reduceLE, Int.reduceNeg, Int.reduceEq, GV, H0, F0, Int.reduceBEq, Int.reduceBNe, ↓reduceIte, natV_cells, drop_nats, take_nats, head_nats, length_nats, length_natV, all_nats, exIx_natV, cells_natV, Bool.true_or, Bool.or_true, Bool.false_or, Bool.or_false, callOps_value, callOps_builtin, List.append_eq, beq_self_eq_true, Nat.zero_le, Bool.not_true, Bool.not_false, cvt_31_31, ex_conv_same, hfa]
  refine call_by (spec_Few b hsb hlb) ?_
  obtain ⟨ha12, haa⟩ := fewB_true hfa
  obtain ⟨hb12, hbb⟩ := fewB_true hfb
  obtain ⟨c1, hc1⟩ : ∃ c, ((x.toNat : Int) == (y.toNat : Int)) = c := ⟨_, rfl⟩
  have hxy : decide (x = y) = c1 := by
    rw [← hc1]
    by_cases h : x = y
    · subst h; simp
    · rw [decide_eq_false h, Eq.comm, beq_eq_false_iff_ne]
      intro e
      exact h (UInt8.toNat_inj.1 (by omega))
  have hsm0 : same x y a b 0 = (c1 && ((a.length : Int) == (b.length : Int))) := by
    rw [same_zero, hxy]
    by_cases h : a.length = b.length
    · rw [decide_eq_true h, show ((a.length : Int) == (b.length : Int)) = true by rw [beq_iff_eq]; omega]
    · rw [decide_eq_false h, show ((a.length : Int) == (b.length : Int)) = false by rw [beq_eq_false_iff_ne]; omega]
  obtain ⟨C, hC⟩ : ∃ C, C = [CV.v (Value.int .u8 (x.toNat : Int)), CV.v (Value.int .u8 (y.toNat : Int))] := ⟨_, rfl⟩
  cases c1
  all_goals simp only [zz0, zz1, zz2, zz3, zz4, zz5, zz6, zz7, zz8, zz9, zz10, zz11, zz12, zz13, zz14, zz15, zz16, zz17, zz18, zz19, gateAt, noAssign, resKeys, killAll, siteDsts, isSite, refs, killL, killAV, st0, number, ev, exSl, bnd, bndOK, cellsAV, plain, ofCV, argsOf, argOf, srcOf, partsV, fillC, repeatL, resOf, binV, shV, intV, isShift, strV, unV, ares, ares1, isNilSl, reduceCtorEq, Nat.reduceBEq, Nat.reduceAdd, Nat.reduceSub, Nat.reduceMul, Nat.reduceLT, Nat.reduceLeDiff, Nat.reduceDiv, Nat.reduceEqDiff, Int.reduceToNat, CV.one, Value.oneCell', Int.reduceLT, Int.reduceLE, Int.reduceNeg, Int.reduceEq, GV, H0, F0, Int.reduceBEq, Int.reduceBNe, ↓reduceIte, natV_cells, drop_nats, take_nats, head_nats, length_nats, length_natV, all_nats, exIx_natV, cells_natV, Bool.true_or, Bool.or_true, Bool.false_or, Bool.or_false, callOps_value, callOps_builtin, List.append_eq, beq_self_eq_true, Nat.zero_le, Bool.not_true, Bool.not_false, cvt_31_31, ex_conv_same, hfb, hc1, bytesC_cons, bytesC_nil]
  all_goals
    refine loop_by (X := Nat) (fun i => ⟨S [(9, .v (.int .i64 i)), (8, .v (.bool (same x y a b i))), (7, .v (.bool true)), (3, .bp 3 0), (1, .sl none 1 (strs a)), (2, .sl none 1 (strs b))], B [(3, some [CV.v (Value.int .u8 (x.toNat : Int)), CV.v (Value.int .u8 (y.toNat : Int))])], O []⟩)
      (fun i => i ≤ a.length) (fun i => a.length - i) 0 (Nat.zero_le _) ?_ ?_
    · refine stLe_mk ?_ ?_ ?_ <;> simp only [forall_mem_cons', forall_mem_nil', lk_hit, lk_miss, Nat.reduceBEq, AVle_refl, AVle_bot, AVle_untag, none_or_some, Option.some.injEq, and_true, true_and, length_bytesC, length_ints, length_strs, List.length_append, List.length_cons, List.length_nil, hsm0, Bool.true_and, Bool.false_and]
      exact AVle_of_eq rfl
    intro i hi
    have hcase : i < a.length ∧ same x y a b i = true ∨ (decide ((i : Int) < (a.length : Int)) = true ∧ same x y a b i = false ∨ decide ((i : Int) < (a.length : Int)) = false) ∧ same x y a b i = decide (x = y ∧ a = b) := by
      by_cases h : i < a.length
      · cases h2 : same x y a b i
        · refine .inr ⟨.inl ⟨decide_eq_true (by omega), rfl⟩, ?_⟩
          rw [Eq.comm, decide_eq_false_iff_not]
          rintro ⟨rfl, rfl⟩
          rw [same_self] at h2
          exact Bool.noConfusion h2
        · exact .inl ⟨h, rfl⟩
      · have : i = a.length := by omega
        subst this
        exact .inr ⟨.inr (decide_eq_false (by omega)), same_end x y a b⟩
    rcases hcase with ⟨hi', hs⟩ | ⟨hex, hD⟩
    · have g : decide ((i : Int) < (a.length : Int)) = true := decide_eq_true (by omega)
      obtain ⟨k1, k2, k3⟩ := same_true hs
      have hib : i < b.length := by omega
      simp only [zz0, zz1, zz2, zz3, zz4, zz5, zz6, zz7, zz8, zz9, zz10, zz11, zz12, zz13, zz14, zz15, zz16, zz17, zz18, zz19, gateAt, noAssign, resKeys, killAll, siteDsts, isSite, refs, killL, killAV, st0, number, ev, exSl, bnd, bndOK, cellsAV, plain, ofCV, argsOf, argOf, srcOf, partsV, fillC, repeatL, resOf, binV, shV, intV, isShift, strV, unV, ares, ares1, isNilSl, reduceCtorEq, Nat.reduceBEq, Nat.reduceAdd, Nat.reduceSub, Nat.reduceMul, Nat.reduceLT, Nat.reduceLeDiff, Nat.reduceDiv, Nat.reduceEqDiff, Int.reduceToNat, CV.one, Value.oneCell', Int.reduceLT, Int.reduceLE, Int.reduceNeg, Int.reduceEq, GV, H0, F0, Int.reduceBEq, Int.reduceBNe, ↓reduceIte, natV_cells, drop_nats, take_nats, head_nats, length_nats, length_natV, all_nats, exIx_natV, cells_natV, Bool.true_or, Bool.or_true, Bool.false_or, Bool.or_false, callOps_value, callOps_builtin, List.append_eq, beq_self_eq_true, Nat.zero_le, Bool.not_true, Bool.not_false, cvt_31_31, ex_conv_same, g, hs, eq_true hi', eq_true hib]
      refine ⟨by kernel_rfl, i + 1, by omega, by omega, ?_⟩
      rw [i64_nat (show i < 9223372036854775807 by omega)]
      refine stLe_mk ?_ ?_ ?_ <;> simp only [forall_mem_cons', forall_mem_nil', lk_hit, lk_miss, Nat.reduceBEq, AVle_refl, AVle_bot, AVle_untag, none_or_some, Option.some.injEq, and_true, true_and, length_bytesC, length_ints, length_strs, List.length_append, List.length_cons, List.length_nil, same_step hs hi', toList_beq]
    · cases hDD : decide (x = y ∧ a = b)
      · have hne : ¬ (x = y ∧ a = b) := of_decide_eq_false hDD
        rw [hDD] at hD
        have hin : inputOf (x.toNat : Int) a ≠ inputOf (y.toNat : Int) b := fun e => hne ((inputOf_inj x y a b).1 e)
        have o1 := spec_Of (x.toNat : Int) a (small_few ha12 haa)
        have o2 := spec_Of (y.toNat : Int) b (small_few hb12 hbb)
        have i1 := spec_Input1 (x.toNat : Int) a (small_few ha12 haa)
        have i2 := spec_Input1 (y.toNat : Int) b (small_few hb12 hbb)
        have s1 := spec_Sum (inputOf (x.toNat : Int) a) (by have := small_input (x.toNat : Int) ha12 haa; omega)
        have s2 := spec_Sum (inputOf (y.toNat : Int) b) (by have := small_input (y.toNat : Int) hb12 hbb; omega)
        have l1 := sha32 (inputOf (x.toNat : Int) a)
        have l2 := sha32 (inputOf (y.toNat : Int) b)
        generalize sha (inputOf (x.toNat : Int) a) = G1 at o1 s1 l1
        generalize sha (inputOf (y.toNat : Int) b) = G2 at o2 s2 l2
        generalize inputOf (x.toNat : Int) a = X at hin i1 s1
        generalize inputOf (y.toNat : Int) b = Y at hin i2 s2
        have m1 : (List.take 16 G1).length = 16 := by rw [List.length_take]; omega
        have m2 : (List.take 16 G2).length = 16 := by rw [List.length_take]; omega
        have e1 : List.take 16 (List.take 16 G1) = List.take 16 G1 := List.take_of_length_le (by omega)
        have e2 : List.take 16 (List.take 16 G2) = List.take 16 G2 := List.take_of_length_le (by omega)
        have wx : IntKind.i64.wrap (x.toNat : Int) = (x.toNat : Int) := by have := x.toNat_lt; exact i64_wrap (by omega) (by omega)
        have wy : IntKind.i64.wrap (y.toNat : Int) = (y.toNat : Int) := by have := y.toNat_lt; exact i64_wrap (by omega) (by omega)
        rcases hex with ⟨g, _⟩ | g
        all_goals
          simp only [zz0, zz1, zz2, zz3, zz4, zz5, zz6, zz7, zz8, zz9, zz10, zz11, zz12, zz13, zz14, zz15, zz16, zz17, zz18, zz19, gateAt, noAssign, resKeys, killAll, siteDsts, isSite, refs, killL, killAV, st0, number, ev, exSl, bnd, bndOK, cellsAV, plain, ofCV, argsOf, argOf, srcOf, partsV, fillC, repeatL, resOf, binV, shV, intV, isShift, strV, unV, ares, ares1, isNilSl, reduceCtorEq, Nat.reduceBEq, Nat.reduceAdd, Nat.reduceSub, Nat.reduceMul, Nat.reduceLT, Nat.reduceLeDiff, Nat.reduceDiv, Nat.reduceEqDiff, Int.reduceToNat, CV.one, Value.oneCell', Int.reduceLT, Int.reduceLE, Int.reduceNeg, Int.reduceEq, GV, H0, F0, Int.reduceBEq, Int.reduceBNe, ↓reduceIte, natV_cells, drop_nats, take_nats, head_nats, length_nats, length_natV, all_nats, exIx_natV, cells_natV, Bool.true_or, Bool.or_true, Bool.false_or, Bool.or_false, callOps_value, callOps_builtin, List.append_eq, beq_self_eq_true, Nat.zero_le, Bool.not_true, Bool.not_false, cvt_31_31, ex_conv_same, g, hD, wx]
          refine call_by i1 ?_
          simp only [zz0, zz1, zz2, zz3, zz4, zz5, zz6, zz7, zz8, zz9, zz10, zz11, zz12, zz13, zz14, zz15, zz16, zz17, zz18, zz19, gateAt, noAssign, resKeys, killAll, siteDsts, isSite, refs, killL, killAV, st0, number, ev, exSl, bnd, bndOK, cellsAV, plain, ofCV, argsOf, argOf, srcOf, partsV, fillC, repeatL, resOf, binV, shV, intV, isShift, strV, unV, ares, ares1, isNilSl, reduceCtorEq, Nat.reduceBEq, Nat.reduceAdd, Nat.reduceSub, Nat.reduceMul, Nat.reduceLT, Nat.reduceLeDiff, Nat.reduceDiv, Nat.reduceEqDiff, Int.reduceToNat, CV.one, Value.oneCell', Int.reduceLT, Int.reduceLE, Int.reduceNeg, Int.reduceEq, GV, H0, F0, Int.reduceBEq, Int.reduceBNe, ↓reduceIte, natV_cells, drop_nats, take_nats, head_nats, length_nats, length_natV, all_nats, exIx_natV, cells_natV, Bool.true_or, Bool.or_true, Bool.false_or, Bool.or_false, callOps_value, callOps_builtin, List.append_eq, beq_self_eq_true, Nat.zero_le, Bool.not_true, Bool.not_false, cvt_31_31, ex_conv_same, wy]
          refine call_by i2 ?_
          simp only [zz0, zz1, zz2, zz3, zz4, zz5, zz6, zz7, zz8, zz9, zz10, zz11, zz12, zz13, zz14, zz15, zz16, zz17, zz18, zz19, gateAt, noAssign, resKeys, killAll, siteDsts, isSite, refs, killL, killAV, st0, number, ev, exSl, bnd, bndOK, cellsAV, plain, ofCV, argsOf, argOf, srcOf, partsV, fillC, repeatL, resOf, binV, shV, intV, isShift, strV, unV, ares, ares1, isNilSl, reduceCtorEq, Nat.reduceBEq, Nat.reduceAdd, Nat.reduceSub, Nat.reduceMul, Nat.reduceLT, Nat.reduceLeDiff, Nat.reduceDiv, Nat.reduceEqDiff, Int.reduceToNat, CV.one, Value.oneCell', Int.reduceLT, Int.reduceLE, Int.reduceNeg, Int.reduceEq, GV, H0, F0, Int.reduceBEq, Int.reduceBNe, ↓reduceIte, natV_cells, drop_nats, take_nats, head_nats, length_nats, length_natV, all_nats, exIx_natV, cells_natV, Bool.true_or, Bool.or_true, Bool.false_or, Bool.or_false, callOps_value, callOps_builtin, List.append_eq, beq_self_eq_true, Nat.zero_le, Bool.not_true, Bool.not_false, cvt_31_31, ex_conv_same, wx]
          refine call_by o1 ?_
          simp only [zz0, zz1, zz2, zz3, zz4, zz5, zz6, zz7, zz8, zz9, zz10, zz11, zz12, zz13, zz14, zz15, zz16, zz17, zz18, zz19, gateAt, noAssign, resKeys, killAll, siteDsts, isSite, refs, killL, killAV, st0, number, ev, exSl, bnd, bndOK, cellsAV, plain, ofCV, argsOf, argOf, srcOf, partsV, fillC, repeatL, resOf, binV, shV, intV, isShift, strV, unV, ares, ares1, isNilSl, reduceCtorEq, Nat.reduceBEq, Nat.reduceAdd, Nat.reduceSub, Nat.reduceMul, Nat.reduceLT, Nat.reduceLeDiff, Nat.reduceDiv, Nat.reduceEqDiff, Int.reduceToNat, CV.one, Value.oneCell', Int.reduceLT, Int.reduceLE, Int.reduceNeg, Int.reduceEq, GV, H0, F0, Int.reduceBEq, Int.reduceBNe, ↓reduceIte, natV_cells, drop_nats, take_nats, head_nats, length_nats, length_natV, all_nats, exIx_natV, cells_natV, Bool.true_or, Bool.or_true, Bool.false_or, Bool.or_false, callOps_value, callOps_builtin, List.append_eq, beq_self_eq_true, Nat.zero_le, Bool.not_true, Bool.not_false, cvt_31_31, ex_conv_same, wy, put_whole, m1, e1]
          refine call_by o2 ?_
          simp only [zz0, zz1, zz2, zz3, zz4, zz5, zz6, zz7, zz8, zz9, zz10, zz11, zz12, zz13, zz14, zz15, zz16, zz17, zz18, zz19, gateAt, noAssign, resKeys, killAll, siteDsts, isSite, refs, killL, killAV, st0, number, ev, exSl, bnd, bndOK, cellsAV, plain, ofCV, argsOf, argOf, srcOf, partsV, fillC, repeatL, resOf, binV, shV, intV, isShift, strV, unV, ares, ares1, isNilSl, reduceCtorEq, Nat.reduceBEq, Nat.reduceAdd, Nat.reduceSub, Nat.reduceMul, Nat.reduceLT, Nat.reduceLeDiff, Nat.reduceDiv, Nat.reduceEqDiff, Int.reduceToNat, CV.one, Value.oneCell', Int.reduceLT, Int.reduceLE, Int.reduceNeg, Int.reduceEq, GV, H0, F0, Int.reduceBEq, Int.reduceBNe, ↓reduceIte, natV_cells, drop_nats, take_nats, head_nats, length_nats, length_natV, all_nats, exIx_natV, cells_natV, Bool.true_or, Bool.or_true, Bool.false_or, Bool.or_false, callOps_value, callOps_builtin, List.append_eq, beq_self_eq_true, Nat.zero_le, Bool.not_true, Bool.not_false, cvt_31_31, ex_conv_same, put_whole, m2, e2]
          refine call_by s1 ?_
          simp only [zz0, zz1, zz2, zz3, zz4, zz5, zz6, zz7, zz8, zz9, zz10, zz11, zz12, zz13, zz14, zz15, zz16, zz17, zz18, zz19, gateAt, noAssign, resKeys, killAll, siteDsts, isSite, refs, killL, killAV, st0, number, ev, exSl, bnd, bndOK, cellsAV, plain, ofCV, argsOf, argOf, srcOf, partsV, fillC, repeatL, resOf, binV, shV, intV, isShift, strV, unV, ares, ares1, isNilSl, reduceCtorEq, Nat.reduceBEq, Nat.reduceAdd, Nat.reduceSub, Nat.reduceMul, Nat.reduceLT, Nat.reduceLeDiff, Nat.reduceDiv, Nat.reduceEqDiff, Int.reduceToNat, CV.one, Value.oneCell', Int.reduceLT, Int.reduceLE, Int.reduceNeg, Int.reduceEq, GV, H0, F0, Int.reduceBEq, Int.reduceBNe, ↓reduceIte, natV_cells, drop_nats, take_nats, head_nats, length_nats, length_natV, all_nats, exIx_natV, cells_natV, Bool.true_or, Bool.or_true, Bool.false_or, Bool.or_false, callOps_value, callOps_builtin, List.append_eq, beq_self_eq_true, Nat.zero_le, Bool.not_true, Bool.not_false, cvt_31_31, ex_conv_same, put_whole, l1]
          refine call_by s2 ?_
          simp only [zz0, zz1, zz2, zz3, zz4, zz5, zz6, zz7, zz8, zz9, zz10, zz11, zz12, zz13, zz14, zz15, zz16, zz17, zz18, zz19, gateAt, noAssign, resKeys, killAll, siteDsts, isSite, refs, killL, killAV, st0, number, ev, exSl, bnd, bndOK, cellsAV, plain, ofCV, argsOf, argOf, srcOf, partsV, fillC, repeatL, resOf, binV, shV, intV, isShift, strV, unV, ares, ares1, isNilSl, reduceCtorEq, Nat.reduceBEq, Nat.reduceAdd, Nat.reduceSub, Nat.reduceMul, Nat.reduceLT, Nat.reduceLeDiff, Nat.reduceDiv, Nat.reduceEqDiff, Int.reduceToNat, CV.one, Value.oneCell', Int.reduceLT, Int.reduceLE, Int.reduceNeg, Int.reduceEq, GV, H0, F0, Int.reduceBEq, Int.reduceBNe, ↓reduceIte, natV_cells, drop_nats, take_nats, head_nats, length_nats, length_natV, all_nats, exIx_natV, cells_natV, Bool.true_or, Bool.or_true, Bool.false_or, Bool.or_false, callOps_value, callOps_builtin, List.append_eq, beq_self_eq_true, Nat.zero_le, Bool.not_true, Bool.not_false, cvt_31_31, ex_conv_same, put_whole, l2]
          refine loop_by (X := Nat) (fun j => ⟨S [(17, .v (.int .i64 j)), (16, .v (.bool (clash G1 G2 j))), (15, .bp 15 0), (14, .bp 14 0), (13, .bp 13 0), (12, .bp 12 0), (11, .sl none 1 (bytesC Y)), (10, .sl none 1 (bytesC X)), (7, .v (.bool true))], B [(15, some (bytesC G2)), (14, some (bytesC G1)), (13, some (bytesC (List.take 16 G2))), (12, some (bytesC (List.take 16 G1)))], O []⟩)
            (fun j => j ≤ 16) (fun j => 16 - j) 0 (Nat.zero_le _) ?_ ?_
          · refine stLe_mk ?_ ?_ ?_ <;> simp only [forall_mem_cons', forall_mem_nil', lk_hit, lk_miss, Nat.reduceBEq, AVle_refl, AVle_bot, AVle_untag, none_or_some, Option.some.injEq, and_true, true_and, length_bytesC, length_ints, length_strs, List.length_append, List.length_cons, List.length_nil, clash_zero]
            exact AVle_of_eq rfl
          intro j hj
          by_cases hj' : j < 16
          · have gj : decide ((j : Int) < 16) = true := decide_eq_true (by omega)
            have q1 : ((j : Int) < 32) = True := eq_true (by omega)
            have q2 : (j < 32) = True := eq_true (by omega)
            cases hcl : clash G1 G2 j
            · have hn := clash_false hcl
              simp only [zz0, zz1, zz2, zz3, zz4, zz5, zz6, zz7, zz8, zz9, zz10, zz11, zz12, zz13, zz14, zz15, zz16, zz17, zz18, zz19, gateAt, noAssign, resKeys, killAll, siteDsts, isSite, refs, killL, killAV, st0, number, ev, exSl, bnd, bndOK, cellsAV, plain, ofCV, argsOf, argOf, srcOf, partsV, fillC, repeatL, resOf, binV, shV, intV, isShift, strV, unV, ares, ares1, isNilSl, reduceCtorEq, Nat.reduceBEq, Nat.reduceAdd, Nat.reduceSub, Nat.reduceMul, Nat.reduceLT, Nat.reduceLeDiff, Nat.reduceDiv, Nat.reduceEqDiff, Int.reduceToNat, CV.one, Value.oneCell', Int.reduceLT, Int.reduceLE, Int.reduceNeg, Int.reduceEq, GV, H0, F0, Int.reduceBEq, Int.reduceBNe, ↓reduceIte, natV_cells, drop_nats, take_nats, head_nats, length_nats, length_natV, all_nats, exIx_natV, cells_natV, Bool.true_or, Bool.or_true, Bool.false_or, Bool.or_false, callOps_value, callOps_builtin, List.append_eq, beq_self_eq_true, Nat.zero_le, Bool.not_true, Bool.not_false, cvt_31_31, ex_conv_same, gj, hcl, F4, i64_nat (show j < 9223372036854775807 by omega)]
              refine ⟨by kernel_rfl, j + 1, by omega, by omega, ?_⟩
              refine stLe_mk ?_ ?_ ?_ <;> simp only [forall_mem_cons', forall_mem_nil', lk_hit, lk_miss, Nat.reduceBEq, AVle_refl, AVle_bot, AVle_untag, none_or_some, Option.some.injEq, and_true, true_and, length_bytesC, length_ints, length_strs, List.length_append, List.length_cons, List.length_nil, hn]
            · have hn := clash_step (show j < G1.length by omega) (show j < G2.length by omega) hcl
              simp only [zz0, zz1, zz2, zz3, zz4, zz5, zz6, zz7, zz8, zz9, zz10, zz11, zz12, zz13, zz14, zz15, zz16, zz17, zz18, zz19, gateAt, noAssign, resKeys, killAll, siteDsts, isSite, refs, killL, killAV, st0, number, ev, exSl, bnd, bndOK, cellsAV, plain, ofCV, argsOf, argOf, srcOf, partsV, fillC, repeatL, resOf, binV, shV, intV, isShift, strV, unV, ares, ares1, isNilSl, reduceCtorEq, Nat.reduceBEq, Nat.reduceAdd, Nat.reduceSub, Nat.reduceMul, Nat.reduceLT, Nat.reduceLeDiff, Nat.reduceDiv, Nat.reduceEqDiff, Int.reduceToNat, CV.one, Value.oneCell', Int.reduceLT, Int.reduceLE, Int.reduceNeg, Int.reduceEq, GV, H0, F0, Int.reduceBEq, Int.reduceBNe, ↓reduceIte, natV_cells, drop_nats, take_nats, head_nats, length_nats, length_natV, all_nats, exIx_natV, cells_natV, Bool.true_or, Bool.or_true, Bool.false_or, Bool.or_false, callOps_value, callOps_builtin, List.append_eq, beq_self_eq_true, Nat.zero_le, Bool.not_true, Bool.not_false, cvt_31_31, ex_conv_same, gj, hcl, q1, q2, l1, l2, byte_beq, F4, i64_nat (show j < 9223372036854775807 by omega)]
              refine ⟨by kernel_rfl, j + 1, by omega, by omega, ?_⟩
              refine stLe_mk ?_ ?_ ?_ <;> simp only [forall_mem_cons', forall_mem_nil', lk_hit, lk_miss, Nat.reduceBEq, AVle_refl, AVle_bot, AVle_untag, none_or_some, Option.some.injEq, and_true, true_and, length_bytesC, length_ints, length_strs, List.length_append, List.length_cons, List.length_nil, hn]
          · have h16 : j = 16 := by omega
            subst h16
            have gj : decide (((16 : Nat) : Int) < 16) = false := decide_eq_false (by omega)
            have hXY : (!(X == Y)) = true := by
              rw [Bool.not_eq_true', beq_eq_false_iff_ne]; exact hin
            simp only [zz0, zz1, zz2, zz3, zz4, zz5, zz6, zz7, zz8, zz9, zz10, zz11, zz12, zz13, zz14, zz15, zz16, zz17, zz18, zz19, gateAt, noAssign, resKeys, killAll, siteDsts, isSite, refs, killL, killAV, st0, number, ev, exSl, bnd, bndOK, cellsAV, plain, ofCV, argsOf, argOf, srcOf, partsV, fillC, repeatL, resOf, binV, shV, intV, isShift, strV, unV, ares, ares1, isNilSl, reduceCtorEq, Nat.reduceBEq, Nat.reduceAdd, Nat.reduceSub, Nat.reduceMul, Nat.reduceLT, Nat.reduceLeDiff, Nat.reduceDiv, Nat.reduceEqDiff, Int.reduceToNat, CV.one, Value.oneCell', Int.reduceLT, Int.reduceLE, Int.reduceNeg, Int.reduceEq, GV, H0, F0, Int.reduceBEq, Int.reduceBNe, ↓reduceIte, natV_cells, drop_nats, take_nats, head_nats, length_nats, length_natV, all_nats, exIx_natV, cells_natV, Bool.true_or, Bool.or_true, Bool.false_or, Bool.or_false, callOps_value, callOps_builtin, List.append_eq, beq_self_eq_true, Nat.zero_le, Bool.not_true, Bool.not_false, cvt_31_31, ex_conv_same, gj, hXY, toList_mk, m1, m2, e1, e2, ↓eq26 _ _ m1 m2]
            exact (beq_self_eq_true (clash G1 G2 16)).symm
      · obtain ⟨rfl, rfl⟩ := of_decide_eq_true hDD
        rw [hDD] at hD
        have hex2 : decide ((i : Int) < (a.length : Int)) = false := by
          rcases hex with ⟨_, h⟩ | h
          · rw [hD] at h; exact Bool.noConfusion h
          · exact h
        simp only [zz0, zz1, zz2, zz3, zz4, zz5, zz6, zz7, zz8, zz9, zz10, zz11, zz12, zz13, zz14, zz15, zz16, zz17, zz18, zz19, gateAt, noAssign, resKeys, killAll, siteDsts, isSite, refs, killL, killAV, st0, number, ev, exSl, bnd, bndOK, cellsAV, plain, ofCV, argsOf, argOf, srcOf, partsV, fillC, repeatL, resOf, binV, shV, intV, isShift, strV, unV, ares, ares1, isNilSl, reduceCtorEq, Nat.reduceBEq, Nat.reduceAdd, Nat.reduceSub, Nat.reduceMul, Nat.reduceLT, Nat.reduceLeDiff, Nat.reduceDiv, Nat.reduceEqDiff, Int.reduceToNat, CV.one, Value.oneCell', Int.reduceLT, Int.reduceLE, Int.reduceNeg, Int.reduceEq, GV, H0, F0, Int.reduceBEq, Int.reduceBNe, ↓reduceIte, natV_cells, drop_nats, take_nats, head_nats, length_nats, length_natV, all_nats, exIx_natV, cells_natV, Bool.true_or, Bool.or_true, Bool.false_or, Bool.or_false, callOps_value, callOps_builtin, List.append_eq, beq_self_eq_true, Nat.zero_le, Bool.not_true, Bool.not_false, cvt_31_31, ex_conv_same, hex2, hD]
        refine call_by (spec_Input1 _ a (small_few ha12 haa)) ?_
        simp only [zz0, zz1, zz2, zz3, zz4, zz5, zz6, zz7, zz8, zz9, zz10, zz11, zz12, zz13, zz14, zz15, zz16, zz17, zz18, zz19, gateAt, noAssign, resKeys, killAll, siteDsts, isSite, refs, killL, killAV, st0, number, ev, exSl, bnd, bndOK, cellsAV, plain, ofCV, argsOf, argOf, srcOf, partsV, fillC, repeatL, resOf, binV, shV, intV, isShift, strV, unV, ares, ares1, isNilSl, reduceCtorEq, Nat.reduceBEq, Nat.reduceAdd, Nat.reduceSub, Nat.reduceMul, Nat.reduceLT, Nat.reduceLeDiff, Nat.reduceDiv, Nat.reduceEqDiff, Int.reduceToNat, CV.one, Value.oneCell', Int.reduceLT, Int.reduceLE, Int.reduceNeg, Int.reduceEq, GV, H0, F0, Int.reduceBEq, Int.reduceBNe, ↓reduceIte, natV_cells, drop_nats, take_nats, head_nats, length_nats, length_natV, all_nats, exIx_natV, cells_natV, Bool.true_or, Bool.or_true, Bool.false_or, Bool.or_false, callOps_value, callOps_builtin, List.append_eq, beq_self_eq_true, Nat.zero_le, Bool.not_true, Bool.not_false, cvt_31_31, ex_conv_same]
        refine call_by (spec_Input1 _ a (small_few ha12 haa)) ?_
        simp only [zz0, zz1, zz2, zz3, zz4, zz5, zz6, zz7, zz8, zz9, zz10, zz11, zz12, zz13, zz14, zz15, zz16, zz17, zz18, zz19, gateAt, noAssign, resKeys, killAll, siteDsts, isSite, refs, killL, killAV, st0, number, ev, exSl, bnd, bndOK, cellsAV, plain, ofCV, argsOf, argOf, srcOf, partsV, fillC, repeatL, resOf, binV, shV, intV, isShift, strV, unV, ares, ares1, isNilSl, reduceCtorEq, Nat.reduceBEq, Nat.reduceAdd, Nat.reduceSub, Nat.reduceMul, Nat.reduceLT, Nat.reduceLeDiff, Nat.reduceDiv, Nat.reduceEqDiff, Int.reduceToNat, CV.one, Value.oneCell', Int.reduceLT, Int.reduceLE, Int.reduceNeg, Int.reduceEq, GV, H0, F0, Int.reduceBEq, Int.reduceBNe, ↓reduceIte, natV_cells, drop_nats, take_nats, head_nats, length_nats, length_natV, all_nats, exIx_natV, cells_natV, Bool.true_or, Bool.or_true, Bool.false_or, Bool.or_false, callOps_value, callOps_builtin, List.append_eq, beq_self_eq_true, Nat.zero_le, Bool.not_true, Bool.not_false, cvt_31_31, ex_conv_same]
end Abs
end Go.Proofs.YtkdpmjgigknbpaaDoor
