/-
  THE ROW WireTruncated, PROVED.
-/
import Derived.Test.YtijboooekbdinaaL9
import Derived.Test.YtijboooekbdinaaR1
namespace Go.Proofs.Ytijboooekbdinaa
open Go.ChangeShapes Go.WideShapes Go.ChangeAt Go.RowKit Abs
theorem Try.own : ownKnob Try.prog.godebug = none := by kernel_rfl
theorem Try.laidOut : laidOutB Try.prog = true := by kernel_rfl
set_option maxRecDepth 100000 in
theorem f9_lifted (os : Os) (started : os.Started) (H : Type) (enc : TypeId × Value → H) :
    ReturnsInHanded {} Try.checked os 9 .any (Rows.wireTruncatedSpec.pre6 enc Try.prog Try.f9 Rows.wireTruncatedRow.domain false) (Rows.wireTruncatedSpec.post enc Try.prog Try.f9 false true false false) := by
  refine returnsInHanded_of_change_sized (C := Try.checked) Try.own started (by kernel_rfl) Try.func9
    (ChangeSpec.witness6 (enc := enc) (C := Try.checked) false ⟨#[], #[.int .i64 0, .string .empty, .slice none 0 0, .slice none 0 0, .slice none 0 0], []⟩ 8 (by kernel_rfl) (by kernel_rfl) (by kernel_rfl) (by kernel_rfl)) ?_
  intro W base args ds gs before hval0 hW hcnd hsz _
  have hval : ∀ (j : Nat) t v, Try.f9.params[j]? = some t → args[j]? = some v → Value.okWide Try.prog W .any base t v := hval0
  have hW' := hW
  obtain ⟨p, q, hA0, hV, rfl, hfz, hnd⟩ := hW
  have hA : DataW.TrodAll enc Try.prog W 0 (fun _ => true) true Try.f9.params.toList args.toList ds p := hA0
  rw [Try.params9] at hA hval
  obtain ⟨v0, v1, v2, v3, v4, d0, d1, d2, d3, d4, p0, p1, p2, p3, p4, rfl, rfl, rfl, h0, h1, h2, h3, h4⟩ := trodAll_five hA
  obtain ⟨rfl, rfl⟩ := trodVars_none hV
  obtain ⟨n, rfl, rfl, rfl, wn⟩ := open_int (P := Try.prog) (by kernel_rfl : Try.prog.underlying 3 = some (.int .i64)) (hval 0 3 v0 rfl rfl) h0
  obtain ⟨s, rfl, rfl, rfl, ws⟩ := ChangeMaps.open_string (P := Try.prog) (by kernel_rfl : Try.prog.underlying 9 = some .string) (hval 1 9 v1 rfl rfl) h1
  obtain ⟨l, hl, wl, _, el⟩ := open_intsB (k := .i64) (t := 22) (e := 3) (by kernel_rfl) (by kernel_rfl) (by kernel_rfl) (hval 2 22 v2 rfl rfl) h2
  obtain ⟨x, hx, _, _, ex⟩ := open_strsA (t := 23) (e := 9) (by kernel_rfl) (by kernel_rfl) (by kernel_rfl) (hval 3 23 v3 rfl rfl) h3
  obtain ⟨y, hy, y16, _, ey⟩ := open_digestsA (t := 24) (e := 57) (u := 5) (by kernel_rfl) (by kernel_rfl) (by kernel_rfl) (by kernel_rfl) (by kernel_rfl) (hval 4 24 v4 rfl rfl) h4
  rw [Try.params9] at hsz
  have zs := sized_text hsz (j := 1) (t := 9) rfl rfl
  have zl := sized_elems hsz (j := 2) (t := 22) (e := 3) el rfl rfl (by kernel_rfl) (of_decide_eq_true (by kernel_rfl))
  have zx := sized_elems hsz (j := 3) (t := 23) (e := 9) (elems_strs ex) rfl rfl (by kernel_rfl) (of_decide_eq_true (by kernel_rfl))
  have zt := sized_texts hsz (j := 3) (t := 23) (e := 9) ex rfl rfl (by kernel_rfl)
  have zy := sized_elems hsz (j := 4) (t := 24) (e := 57) ey rfl rfl (by kernel_rfl) (of_decide_eq_true (by kernel_rfl))
  clear hA0 hval0
  have hn := wf_i64' wn
  simp only [List.append_nil, List.nil_append] at hW'
  have hlt : ∀ x ∈ p2 ++ (p3 ++ p4), x.block < W.heap.size := fun x hx => by simpa using hW'.lt x hx
  refine (spec_Truncated n s l x y hn.1 hn.2 (by omega) (fun x hx => wf_i64' (wl x hx)) (by omega) (fun t ht => by have := zt t ht; omega) (by omega) y16 (by omega) W [.int .i64 n, .string s, v2, v3, v4] (fun g j x h => by simp [GV] at h) ⟨rfl, rfl, hl, hx, hy, trivial⟩).mono fun e W' ⟨v, he, hv, bel⟩ => ?_
  subst he
  simp only [RRel] at hv
  subst hv
  refine ⟨_, rfl, _, _, _, [], p2 ++ (p3 ++ p4), [], hW', ?_, ?_, rfl, bel.frame _, fun h => by cases h⟩
  · exact trodAll_mk1 (shut_bool (by kernel_rfl) true)
  · exact trodAll_mk5 (p := []) (p' := []) (shut_int (by kernel_rfl) wn) (ChangeMaps.shut_string (by kernel_rfl) ws)
      (Below.trod Try.laidOut (by kernel_rfl) (of_decide_eq_true (by kernel_rfl)) h2 bel fun x hx => hlt x (by simp [hx]))
      (Below.trod Try.laidOut (by kernel_rfl) (of_decide_eq_true (by kernel_rfl)) h3 bel fun x hx => hlt x (by simp [hx]))
      (Below.trod Try.laidOut (by kernel_rfl) (of_decide_eq_true (by kernel_rfl)) h4 bel fun x hx => hlt x (by simp [hx]))
theorem wireTruncated_holds : Rows.WireTruncatedSaid :=
  OpenClaim.holds_of_wide 9 Try.f9 rfl rfl rfl rfl rfl rfl rfl ⟨rfl, rfl, rfl, rfl, rfl⟩ rfl rfl rfl rfl rfl (by kernel_rfl) Try.func9 (by kernel_rfl)
    (of_decide_eq_true (by kernel_rfl)) (by unfold Func.isWrapper; first | (rw [if_pos (by decide +kernel)]; kernel_rfl) | (rw [if_neg (by decide +kernel)]; exact ⟨rfl, rfl⟩))
    (fun os started H enc _ => f9_lifted os started H enc)
#print axioms wireTruncated_holds
end Go.Proofs.Ytijboooekbdinaa
