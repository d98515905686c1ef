/-
  THE ROW WireListRoundTrip, PROVED, where what it reads is of bulk at most 1048576.
-/
import Derived.Test.YtijboooekbdinaaL8
import Derived.Test.YtijboooekbdinaaR1
import Derived.JoinedCond
namespace Go.Proofs.Ytijboooekbdinaa
open Go.ChangeShapes Go.WideShapes Go.ChangeAt Go.RowKit Abs
theorem Try.own : ownKnob Try.prog.godebug = none := by kernel_rfl
theorem Try.laidOut : laidOutB Try.prog = true := by kernel_rfl
set_option maxRecDepth 100000 in
theorem f8_lifted (os : Os) (started : os.Started) (H : Type) (enc : TypeId × Value → H) (F : Stop.Interp) :
    ReturnsInHanded {} Try.checked os 8 .any ((Rows.OpenSpec.upto Rows.wireListRoundTripSpec).pre6 enc Try.prog Try.f8 Rows.wireListRoundTripUptoRow.domain false) (((Rows.OpenSpec.upto Rows.wireListRoundTripSpec).at F).post enc Try.prog Try.f8 false true false false) := by
  refine returnsInHanded_of_cond (C := Try.checked) (s := Rows.OpenSpec.upto Rows.wireListRoundTripSpec) (k := Rows.uptoSmall) rfl Try.own started (by kernel_rfl) Try.func8
    (OpenSpec.witness (enc := enc) (C := Try.checked) (s := Rows.OpenSpec.upto Rows.wireListRoundTripSpec) (k := Rows.uptoSmall) rfl false ⟨#[], #[.string .empty, .slice none 0 0, .slice none 0 0, .slice none 0 0, .slice none 0 0], []⟩ 8 (by kernel_rfl) (by kernel_rfl) (by kernel_rfl)
      (x := ([.lit (.string []), .nil, .nil, .nil, .nil], [], [])) (by kernel_rfl) rfl (by kernel_rfl)) ?_
  intro W base args ds gs before hval0 hW hcnd hk _
  have hval : ∀ (j : Nat) t v, Try.f8.params[j]? = some t → args[j]? = some v → Value.okWide Try.prog W .any base t v := hval0
  have hW' := hW
  obtain ⟨p, q, hA0, hV, rfl, hfz, hnd⟩ := hW
  have hA : DataW.TrodAll enc Try.prog W 0 (fun _ => true) true Try.f8.params.toList args.toList ds p := hA0
  rw [Try.params8] at hA hval
  obtain ⟨v0, v1, v2, v3, v4, d0, d1, d2, d3, d4, p0, p1, p2, p3, p4, rfl, rfl, rfl, h0, h1, h2, h3, h4⟩ := trodAll_five hA
  obtain ⟨rfl, rfl⟩ := trodVars_none hV
  obtain ⟨s, rfl, rfl, rfl, ws⟩ := ChangeMaps.open_string (P := Try.prog) (by kernel_rfl : Try.prog.underlying 9 = some .string) (hval 0 9 v0 rfl rfl) h0
  obtain ⟨l, hl, wl, _, el⟩ := open_intsB (k := .i64) (t := 22) (e := 3) (by kernel_rfl) (by kernel_rfl) (by kernel_rfl) (hval 1 22 v1 rfl rfl) h1
  obtain ⟨x, hx, _, _, ex⟩ := open_strsA (t := 23) (e := 9) (by kernel_rfl) (by kernel_rfl) (by kernel_rfl) (hval 2 23 v2 rfl rfl) h2
  obtain ⟨y, hy, y16, _, ey⟩ := open_digestsA (t := 24) (e := 57) (u := 5) (by kernel_rfl) (by kernel_rfl) (by kernel_rfl) (by kernel_rfl) (by kernel_rfl) (hval 3 24 v3 rfl rfl) h3
  obtain ⟨tl, htl, et⟩ := open_bytesB (t := 28) (e := 5) (by kernel_rfl) (by kernel_rfl) (by kernel_rfl) (hval 4 28 v4 rfl rfl) h4
  have hb : Rows.uptoBulkAll _ ≤ 1048576 := of_decide_eq_true hk
  simp only [Rows.uptoBulkAll, Rows.uptoBulk, List.append_nil] at hb
  have es : s.data.toList.length = s.size := Array.length_toList
  have b2 := bulk_elems el
  have b3 := bulk_strs ex
  have b4 := bulk_elems ey
  have b5 := bulk_elems et
  have hxx : Abs.letters x = bulkLetters x := rfl
  clear hA0 hval0
  simp only [List.append_nil, List.nil_append] at hW'
  have hlt : ∀ x ∈ p1 ++ (p2 ++ (p3 ++ p4)), x.block < W.heap.size := fun x hx => by simpa using hW'.lt x hx
  refine (spec_ListRoundTrip s l x y tl (by omega) (fun x hx => wf_i64' (wl x hx)) (by omega) (by omega) (fun t ht => by have := mem_letters ht; omega) y16 (by omega) (by omega) W [.string s, v1, v2, v3, v4] (fun g j x h => by simp [GV] at h) ⟨rfl, hl, hx, hy, htl, trivial⟩).mono fun e W' ⟨v, he, hv, bel⟩ => ?_
  subst he
  simp only [RRel] at hv
  subst hv
  refine ⟨_, rfl, _, _, _, [], p1 ++ (p2 ++ (p3 ++ p4)), [], hW', ?_, ?_, rfl, bel.frame _, fun h => by cases h⟩
  · exact trodAll_mk1 (shut_bool (by kernel_rfl) true)
  · exact trodAll_mk5 (p := []) (ChangeMaps.shut_string (by kernel_rfl) ws)
      (Below.trod Try.laidOut (by kernel_rfl) (of_decide_eq_true (by kernel_rfl)) h1 bel fun x hx => hlt x (by simp [hx]))
      (Below.trod Try.laidOut (by kernel_rfl) (of_decide_eq_true (by kernel_rfl)) h2 bel fun x hx => hlt x (by simp [hx]))
      (Below.trod Try.laidOut (by kernel_rfl) (of_decide_eq_true (by kernel_rfl)) h3 bel fun x hx => hlt x (by simp [hx]))
      (Below.trod Try.laidOut (by kernel_rfl) (of_decide_eq_true (by kernel_rfl)) h4 bel fun x hx => hlt x (by simp [hx]))
theorem wireListRoundTripUpto_holds : Rows.WireListRoundTripUptoSaid :=
  OpenClaim.holds_of_cond 8 Try.f8 rfl rfl rfl rfl rfl rfl rfl ⟨rfl, rfl, rfl, rfl, rfl⟩ rfl rfl rfl rfl rfl (by kernel_rfl) Try.func8 (by kernel_rfl)
    (of_decide_eq_true (by kernel_rfl)) (by unfold Func.isWrapper; first | (rw [if_pos (by decide +kernel)]; kernel_rfl) | (rw [if_neg (by decide +kernel)]; exact ⟨rfl, rfl⟩))
    (fun os started H enc _ F => f8_lifted os started H enc F)
#print axioms wireListRoundTripUpto_holds
end Go.Proofs.Ytijboooekbdinaa
