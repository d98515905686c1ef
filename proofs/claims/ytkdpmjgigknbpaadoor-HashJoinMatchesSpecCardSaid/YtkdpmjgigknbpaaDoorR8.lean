/-
  THE ROW AND THE CARD HashJoinMatchesSpec, PROVED (by rowgen.py).
-/
import Derived.Test.YtkdpmjgigknbpaaDoorL5
import Derived.Test.YtkdpmjgigknbpaaDoorR0
set_option linter.unusedSimpArgs false
namespace Go.Proofs.YtkdpmjgigknbpaaDoor
open Go.ChangeShapes Go.WideShapes Go.ChangeAt Go.RowKit Abs
theorem met8 (os : Os) : laidMet Tryd.prog Rows.hashJoinMatchesSpecRow.laid ((laidWorld os).forCall (fun _ _ => 0) ⟨#[], #[.int .i64 0, .int .i64 0, .int .i64 0], []⟩).memory :=
  laidMet_of_run' 8 (by kernel_rfl) (by kernel_rfl)
theorem reads8 (os : Os) {H : Type} (enc : TypeId × Value → H) : ∃ ds places, DataW.whole enc Tryd.prog ((laidWorld os).forCall (fun _ _ => 0) ⟨#[], #[.int .i64 0, .int .i64 0, .int .i64 0], []⟩).memory Tryd.f8.params.toList Rows.hashJoinMatchesSpecSpec.vars false #[Value.int .i64 0, .int .i64 0, .int .i64 0].toList 8 = some (ds, [], places) :=
  ⟨[.lit (.int .i64 0), .lit (.int .i64 0), .lit (.int .i64 0)], [], by kernel_rfl⟩
set_option maxRecDepth 100000 in
theorem f8_lifted (os : Os) (started : os.Started) (H : Type) (enc : TypeId × Value → H) (F : Stop.Interp) :
    ReturnsInHanded {} Tryd.checked os 8 .any ((OpenSpec.ofChange Rows.hashJoinMatchesSpecSpec).preRow enc Tryd.prog Tryd.f8 Rows.hashJoinMatchesSpecRow.domain false Rows.hashJoinMatchesSpecRow.laid) (((OpenSpec.ofChange Rows.hashJoinMatchesSpecSpec).at F).post enc Tryd.prog Tryd.f8 false true false false) := by
  obtain ⟨ds, places, hx⟩ := reads8 os enc
  refine returnsInHanded_of_row (C := Tryd.checked) (s := OpenSpec.ofChange Rows.hashJoinMatchesSpecSpec) Tryd.own started (by kernel_rfl) Tryd.func8
    (witness_row_at (enc := enc) (C := Tryd.checked) false (laidWorld os) #[.int .i64 0, .int .i64 0, .int .i64 0] rfl (by kernel_rfl) (by kernel_rfl) (by kernel_rfl)
      (OpenSpec.preRow_of_cond 8 hx (by kernel_rfl) (fun k hk => by cases hk) (by kernel_rfl) (met8 os))) ?_
  intro W base args ds gs before hval0 hW _ _ _ hL _ _
  have hG := globOK_two hL
  have hval : ∀ (j : Nat) t v, Tryd.f8.params[j]? = some t → args[j]? = some v → Value.okWide Tryd.prog W .any base t v := hval0
  have hW' := hW
  obtain ⟨p, q, hA0, hV, rfl, hfz, hnd⟩ := hW
  have hA : DataW.TrodAll enc Tryd.prog W 0 (fun _ => true) true Tryd.f8.params.toList args.toList ds p := hA0
  rw [Tryd.params8] at hA hval
  obtain ⟨v0, v1, v2, d0, d1, d2, p0, p1, p2, rfl, rfl, rfl, h0, h1, h2⟩ := trodAll_three hA
  obtain ⟨rfl, rfl⟩ := trodVars_none hV
  obtain ⟨x0, rfl, rfl, rfl, w0⟩ := open_int (P := Tryd.prog) (by kernel_rfl : Tryd.prog.underlying 3 = some (.int .i64)) (hval 0 3 v0 rfl rfl) h0
  obtain ⟨x1, rfl, rfl, rfl, w1⟩ := open_int (P := Tryd.prog) (by kernel_rfl : Tryd.prog.underlying 3 = some (.int .i64)) (hval 1 3 v1 rfl rfl) h1
  obtain ⟨x2, rfl, rfl, rfl, w2⟩ := open_int (P := Tryd.prog) (by kernel_rfl : Tryd.prog.underlying 3 = some (.int .i64)) (hval 2 3 v2 rfl rfl) h2
  clear hA0 hval0
  simp only [List.append_nil, List.nil_append, List.append_assoc] at hW'
  refine (spec_LJoin x0 x1 x2 (wf_i64' w2).1 W [Value.int .i64 x0, .int .i64 x1, .int .i64 x2] hG ⟨rfl, rfl, rfl, trivial⟩).mono fun e W' ⟨v, he, hv, bel⟩ => ?_
  subst he
  simp only [RRel] at hv
  subst hv
  refine ⟨_, rfl, _, _, _, [], [], [], hW', ?_, ?_, rfl, bel.frame _, fun h => by cases h⟩
  · exact trodAll_mk1 (shut_bool (by kernel_rfl) true)
  · exact trodAll_re (trodAll_mk3 (shut_int (by kernel_rfl) w0) (shut_int (by kernel_rfl) w1) (shut_int (by kernel_rfl) w2)) (by simp only [List.append_nil, List.nil_append, List.append_assoc])
theorem hashJoinMatchesSpec_row : Rows.HashJoinMatchesSpecSaid :=
  OpenClaim.holds_of_cond 8 Tryd.f8 rfl rfl rfl rfl rfl rfl rfl ⟨rfl, rfl, rfl, rfl, rfl⟩ rfl rfl rfl rfl rfl (by kernel_rfl) Tryd.func8 (by kernel_rfl)
    (of_decide_eq_true (by kernel_rfl)) (by unfold Func.isWrapper; first | (rw [if_pos (by decide +kernel)]; kernel_rfl) | (rw [if_neg (by decide +kernel)]; exact ⟨rfl, rfl⟩))
    (fun os started H enc _ F => by rw [OpenClaim.pre_eq_preRow]; exact f8_lifted os started H enc F)
theorem plain8 (f : FuncId) (fn : Func) (hf : Tryd.pinned.checked.prog.funcNamed "alum/alumlaw02.HashJoinMatchesSpec" = some f) (hfn : Tryd.pinned.checked.prog.funcs[f]? = some fn) :
    false = Tryd.pinned.checked.prog.looks [] ∧ ∀ (j : Nat) t, fn.params[j]? = some t → Tryd.pinned.checked.prog.wantsStandIn t = false := by
  obtain rfl : f = 8 := Option.some.inj ((show Tryd.prog.funcNamed "alum/alumlaw02.HashJoinMatchesSpec" = some 8 by kernel_rfl).symm.trans hf) |>.symm
  obtain rfl : fn = Tryd.f8 := (Option.some.inj (Tryd.func8.symm.trans hfn)).symm
  refine ⟨by kernel_rfl, fun j t ht => ?_⟩
  rw [Tryd.params8] at ht
  have ht2 := Array.mem_of_getElem? ht
  simp only [List.mem_toArray, List.mem_cons, List.not_mem_nil, or_false] at ht2
  rcases ht2 with rfl | rfl | rfl
  · exact (show Tryd.prog.wantsStandIn 3 = false by kernel_rfl)
  · exact (show Tryd.prog.wantsStandIn 3 = false by kernel_rfl)
  · exact (show Tryd.prog.wantsStandIn 3 = false by kernel_rfl)
theorem hashJoinMatchesSpec_holds : Rows.HashJoinMatchesSpecCardSaid :=
  Claim7.holds_tied_plain_at .later [] _ _ _ _ hashJoinMatchesSpec_row (fun _ h => by cases h) (by kernel_rfl) (fun _ h => by cases h) hashJoinMatchesSpec_row_tie rfl ⟨rfl, rfl⟩ (by kernel_rfl) rfl plain8 (by kernel_rfl)
#print axioms hashJoinMatchesSpec_holds
end Go.Proofs.YtkdpmjgigknbpaaDoor
