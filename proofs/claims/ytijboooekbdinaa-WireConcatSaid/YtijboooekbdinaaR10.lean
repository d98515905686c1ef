/-
  THE ROW WireConcat, PROVED.
-/
import Derived.Test.YtijboooekbdinaaL10
import Derived.Test.YtijboooekbdinaaR1
namespace Go.Proofs.Ytijboooekbdinaa
open Go.ChangeShapes Go.WideShapes Go.ChangeAt Go.RowKit Abs
theorem Try.own : ownKnob Try.prog.godebug = none := by kernel_rfl
theorem Try.laidOut : laidOutB Try.prog = true := by kernel_rfl
set_option maxRecDepth 100000 in
theorem f10_lifted (os : Os) (started : os.Started) (H : Type) (enc : TypeId × Value → H) :
    ReturnsInHanded {} Try.checked os 10 .any (Rows.wireConcatSpec.pre6 enc Try.prog Try.f10 Rows.wireConcatRow.domain false) (Rows.wireConcatSpec.post enc Try.prog Try.f10 false true false false) := by
  refine returnsInHanded_of_change_sized (C := Try.checked) Try.own started (by kernel_rfl) Try.func10
    (ChangeSpec.witness6 (enc := enc) (C := Try.checked) false ⟨#[], #[.string .empty, .slice none 0 0], []⟩ 8 (by kernel_rfl) (by kernel_rfl) (by kernel_rfl) (by kernel_rfl)) ?_
  intro W base args ds gs before hval0 hW hcnd hsz _
  have hval : ∀ (j : Nat) t v, Try.f10.params[j]? = some t → args[j]? = some v → Value.okWide Try.prog W .any base t v := hval0
  have hW' := hW
  obtain ⟨p, q, hA0, hV, rfl, hfz, hnd⟩ := hW
  have hA : DataW.TrodAll enc Try.prog W 0 (fun _ => true) true Try.f10.params.toList args.toList ds p := hA0
  rw [Try.params10] at hA hval
  obtain ⟨v0, v1, d0, d1, p0, p1, rfl, rfl, rfl, h0, h1⟩ := trodAll_two hA
  obtain ⟨rfl, rfl⟩ := trodVars_none hV
  obtain ⟨s, rfl, rfl, rfl, ws⟩ := ChangeMaps.open_string (P := Try.prog) (by kernel_rfl : Try.prog.underlying 9 = some .string) (hval 0 9 v0 rfl rfl) h0
  obtain ⟨l, hl, wl, _, el⟩ := open_intsB (k := .i64) (t := 22) (e := 3) (by kernel_rfl) (by kernel_rfl) (by kernel_rfl) (hval 1 22 v1 rfl rfl) h1
  rw [Try.params10] at hsz
  have zs := sized_text hsz (j := 0) (t := 9) rfl rfl
  have zl := sized_elems hsz (j := 1) (t := 22) (e := 3) el rfl rfl (by kernel_rfl) (of_decide_eq_true (by kernel_rfl))
  clear hA0 hval0
  simp only [List.append_nil, List.nil_append] at hW'
  have hlt : ∀ x ∈ p1, x.block < W.heap.size := fun x hx => by simpa using hW'.lt x hx
  refine (spec_Concat s l (by omega) (fun x hx => wf_i64' (wl x hx)) (by omega) W [.string s, v1] (fun g j x h => by simp [GV] at h) ⟨rfl, hl, trivial⟩).mono fun e W' ⟨v, he, hv, bel⟩ => ?_
  subst he
  simp only [RRel] at hv
  subst hv
  refine ⟨_, rfl, _, _, _, [], p1, [], hW', ?_, ?_, rfl, bel.frame _, fun h => by cases h⟩
  · exact trodAll_mk1 (shut_bool (by kernel_rfl) true)
  · exact trodAll_mk2 (p := []) (ChangeMaps.shut_string (by kernel_rfl) ws) (Below.trod Try.laidOut (by kernel_rfl) (of_decide_eq_true (by kernel_rfl)) h1 bel hlt)
theorem wireConcat_holds : Rows.WireConcatSaid :=
  OpenClaim.holds_of_wide 10 Try.f10 rfl rfl rfl rfl rfl rfl rfl ⟨rfl, rfl, rfl, rfl, rfl⟩ rfl rfl rfl rfl rfl (by kernel_rfl) Try.func10 (by kernel_rfl)
    (of_decide_eq_true (by kernel_rfl)) (by unfold Func.isWrapper; first | (rw [if_pos (by decide +kernel)]; kernel_rfl) | (rw [if_neg (by decide +kernel)]; exact ⟨rfl, rfl⟩))
    (fun os started H enc _ => f10_lifted os started H enc)
#print axioms wireConcat_holds
end Go.Proofs.Ytijboooekbdinaa
