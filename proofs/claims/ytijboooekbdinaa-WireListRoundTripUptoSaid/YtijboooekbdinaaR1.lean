/-
  Arguments of the rows, opened for the walks: lists of texts and of digests; five arguments; how much they hold.
-/
import Derived.Test.YtijboooekbdinaaR0
import Derived.Deep.Slices
import Derived.SliceStrings
import Derived.OpenShut
import Derived.SizedLaws
import Derived.Deep.CondSized
namespace Go.Proofs.Ytijboooekbdinaa
open Go.ChangeShapes Go.WideShapes Go.ChangeAt Go.RowKit Go.Deep
set_option linter.unusedSimpArgs false
set_option linter.unusedVariables false
variable {H : Type} {enc : TypeId × Value → H}
/-- A slice's reading has as many elements. -/
def ElemsOf (d : DataW H) (n : Nat) : Prop := n = 0 ∨ ∃ es rest, d = .slice es rest ∧ es.length = n
theorem open_intsB {W : World} {base : Nat} {t e : TypeId} {k : IntKind} {v : Value} {d : DataW H} {p : List MemPlace} (ht : Try.prog.underlying t = some (.slice e)) (he : Try.prog.underlying e = some (.int k)) (hc : Try.prog.cellsOf e = 1)
    (hval : Value.okWide Try.prog W .any base t v) (h : DataW.Trod enc Try.prog W 0 (fun _ => true) true t v d p) :
    ∃ l : List Int, Abs.ArgRel W (.sl none 1 (Abs.ints k l)) v ∧ (∀ x ∈ l, (Lit.int k x).wf = true) ∧ l.length ≤ maxLen ∧ ElemsOf d l.length := by
  obtain ⟨a1, len, cap, rfl⟩ := okWide_slice ht hval
  obtain ⟨fuel, hf⟩ := h
  rcases open_ints ht he hc hf with ⟨hcs, hx⟩ | ⟨a, len', cap', zs, hcs, _, hl, hm, hz, hx, hcell, hwz⟩
  · simp [Value.cells] at hcs
    obtain ⟨rfl, rfl, rfl⟩ := hcs
    refine ⟨[], ⟨none, 0, 0, rfl, Nat.le_refl _, rfl, fun _ => ⟨rfl, rfl⟩, (fun ad h => by cases h), (fun t m h => by cases h)⟩, (fun x hx => by cases hx), Nat.zero_le _, .inl rfl⟩
  · simp [Value.cells] at hcs
    obtain ⟨rfl, rfl, rfl⟩ := hcs
    simp only [if_true] at hz
    refine ⟨zs.take len, ⟨some a, len, cap, rfl, hl, ?_, (fun h => by cases h), ?_, (fun t m h => by cases h)⟩, fun x hx => hwz x (List.mem_of_mem_take hx), by rw [List.length_take]; omega, .inr ⟨_, _, congrArg Prod.fst hx, ?_⟩⟩
    · simp [Abs.ints]; omega
    · intro ad had j x hj
      cases had
      have hjl : j < len := by
        have := (List.getElem?_eq_some_iff.1 hj).1
        simp [Abs.ints] at this; omega
      refine ⟨_, hcell j (by omega), ?_, trivial⟩
      have : x = .v (.int k (zs.getD j 0)) := by
        simp [Abs.ints, List.getElem?_take, hjl] at hj
        obtain ⟨z, hz1, rfl⟩ := hj
        simp [hz1]
      subst this
      rfl
    · simp [lits, Abs.ints]
theorem open_bytesB {W : World} {base : Nat} {t e : TypeId} {v : Value} {d : DataW H} {p : List MemPlace} (ht : Try.prog.underlying t = some (.slice e)) (he : Try.prog.underlying e = some (.int .u8)) (hc : Try.prog.cellsOf e = 1)
    (hval : Value.okWide Try.prog W .any base t v) (h : DataW.Trod enc Try.prog W 0 (fun _ => true) true t v d p) :
    ∃ l : List UInt8, Abs.ArgRel W (.sl none 1 (Abs.bytesC l)) v ∧ ElemsOf d l.length := by
  obtain ⟨l, h1, h2, _, h4⟩ := open_intsB (k := .u8) ht he hc hval h
  have e : Abs.ints .u8 l = Abs.bytesC (l.map fun n => UInt8.ofNat n.toNat) := by
    simp only [Abs.ints, Abs.bytesC, List.map_map]
    refine List.map_congr_left fun x hx => ?_
    have hw := h2 x hx
    simp only [Lit.wf, Bool.and_eq_true, decide_eq_true_eq] at hw
    have e1 : IntKind.u8.min = 0 := rfl
    have e2 : IntKind.u8.max = 255 := rfl
    rw [e1, e2] at hw
    simp
    omega
  rw [e] at h1
  exact ⟨_, h1, by simpa using h4⟩
theorem open_strsA {W : World} {base : Nat} {t e : TypeId} {v : Value} {d : DataW H} {p : List MemPlace} (ht : Try.prog.underlying t = some (.slice e)) (he : Try.prog.underlying e = some .string) (hc : Try.prog.cellsOf e = 1)
    (hval : Value.okWide Try.prog W .any base t v) (h : DataW.Trod enc Try.prog W 0 (fun _ => true) true t v d p) :
    ∃ l : List ByteArray, Abs.ArgRel W (.sl none 1 (Abs.strs l)) v ∧ (∀ x ∈ l, x.size ≤ maxLen) ∧ l.length ≤ maxLen ∧ (l = [] ∨ ∃ rest, d = .slice (Go.ChangeShapes.strs l) rest) := by
  obtain ⟨a1, len, cap, rfl⟩ := okWide_slice ht hval
  obtain ⟨fuel, hf⟩ := h
  rcases open_strings ht he hc hf with ⟨hcs, hx⟩ | ⟨a, len', cap', zs, hcs, _, hl, hm, hz, hx, hcell, hwz⟩
  · simp [Value.cells] at hcs
    obtain ⟨rfl, rfl, rfl⟩ := hcs
    refine ⟨[], ⟨none, 0, 0, rfl, Nat.le_refl _, rfl, fun _ => ⟨rfl, rfl⟩, (fun ad h => by cases h), (fun t m h => by cases h)⟩, (fun x hx => by cases hx), Nat.zero_le _, .inl rfl⟩
  · simp [Value.cells] at hcs
    obtain ⟨rfl, rfl, rfl⟩ := hcs
    simp only [if_true] at hz
    refine ⟨zs.take len, ⟨some a, len, cap, rfl, hl, ?_, (fun h => by cases h), ?_, (fun t m h => by cases h)⟩, fun x hx => hwz x (List.mem_of_mem_take hx), by rw [List.length_take]; omega, .inr ⟨_, congrArg Prod.fst hx⟩⟩
    · simp [Abs.strs]; omega
    · intro ad had j x hj
      cases had
      have hjl : j < len := by
        have := (List.getElem?_eq_some_iff.1 hj).1
        simp [Abs.strs] at this; omega
      refine ⟨_, hcell j (by omega), ?_, trivial⟩
      have : x = .v (.string (zs.getD j ByteArray.empty)) := by
        simp [Abs.strs, List.getElem?_take, hjl] at hj
        obtain ⟨z, hz1, rfl⟩ := hj
        simp [hz1]
      subst this
      rfl
/-- An array of bytes, opened. -/
theorem open_row16 {W : World} {e u : TypeId} {n fuel : Nat} {cs : List Value} {x : DataW H × List MemPlace} (he : Try.prog.underlying e = some (.array n u)) (hu : Try.prog.underlying u = some (.int .u8)) (hcu : Try.prog.cellsOf u = 1) (hce : Try.prog.cellsOf e = n)
    (h : DataW.trod enc Try.prog W 0 (fun _ => true) true fuel e cs = some x) : ∃ l : List UInt8, l.length = n ∧ cs = l.map fun b => Value.int .u8 b.toNat := by
  obtain ⟨xs, m, rfl, rfl, hlen, hxs, hel⟩ := DataW.trod_array he h
  rw [hce] at hlen
  have each : ∀ i, i < n → ∃ b : UInt8, cs[i]? = some (.int .u8 b.toNat) := fun i hi => by
    have h1 := hel i hi
    rw [hcu, Nat.mul_one, List.getElem?_eq_getElem (show i < xs.length by omega)] at h1
    obtain ⟨k, hk, _, hw⟩ := DataW.trod_int hu h1
    have e1 : IntKind.u8.min = 0 := rfl
    have e2 : IntKind.u8.max = 255 := rfl
    simp only [Lit.wf, Bool.and_eq_true, decide_eq_true_eq] at hw
    rw [e1, e2] at hw
    refine ⟨UInt8.ofNat k.toNat, ?_⟩
    have h2 := congrArg (fun l : List Value => l[0]?) hk
    simp only [List.getElem?_take, List.getElem?_drop, Nat.add_zero, List.getElem?_cons_zero] at h2
    rw [if_pos (by omega)] at h2
    rw [h2]
    simp; omega
  obtain ⟨f, hf⟩ := choose_lt (α := UInt8) each
  refine ⟨(List.range n).map f, by simp, ?_⟩
  apply List.ext_getElem?
  intro i
  by_cases hi : i < n
  · rw [hf i hi]; simp [hi]
  · rw [List.getElem?_eq_none (by omega), List.getElem?_eq_none (by simp; omega)]
theorem open_digestsA {W : World} {base : Nat} {t e u : TypeId} {v : Value} {d : DataW H} {p : List MemPlace} (ht : Try.prog.underlying t = some (.slice e)) (he : Try.prog.underlying e = some (.array 16 u)) (hu : Try.prog.underlying u = some (.int .u8)) (hcu : Try.prog.cellsOf u = 1) (hce : Try.prog.cellsOf e = 16)
    (hval : Value.okWide Try.prog W .any base t v) (h : DataW.Trod enc Try.prog W 0 (fun _ => true) true t v d p) :
    ∃ l : List (List UInt8), Abs.ArgRel W (.sl none 16 (Abs.bytesC l.flatten)) v ∧ (∀ x ∈ l, x.length = 16) ∧ l.length ≤ maxLen ∧ ElemsOf d l.length := by
  obtain ⟨a1, len, cap, rfl⟩ := okWide_slice ht hval
  obtain ⟨fuel, hf⟩ := h
  rcases open_slice ht hf with ⟨hcs, hx⟩ | ⟨a, len', cap', m, n, D, Pl, hcs, _, hl, hm, hmm, hx, hel⟩
  · simp [Value.cells] at hcs
    obtain ⟨rfl, rfl, rfl⟩ := hcs
    refine ⟨[], ⟨none, 0, 0, rfl, Nat.le_refl _, rfl, fun _ => ⟨rfl, rfl⟩, (fun ad h => by cases h), (fun t m h => by cases h)⟩, (fun x hx => by cases hx), Nat.zero_le _, .inl rfl⟩
  · simp [Value.cells] at hcs
    obtain ⟨rfl, rfl, rfl⟩ := hcs
    simp only [if_true] at hmm
    obtain ⟨L, hL⟩ := choose_lt (α := List UInt8) (n := len) (p := fun i l => l.length = 16 ∧ ∀ j b, l[j]? = some b → W.cell? (a.add (i * 16 + j)) = some (.int .u8 (b : UInt8).toNat)) (fun i hi => by
      obtain ⟨cs', h1, h2⟩ := hel i (by omega)
      rw [hce] at h1
      obtain ⟨l, hl16, rfl⟩ := open_row16 he hu hcu hce h2
      obtain ⟨_, hlen, hcell⟩ := World.cells?_some h1
      refine ⟨l, hl16, fun j b hj => ?_⟩
      have hj16 : j < 16 := by have := (List.getElem?_eq_some_iff.1 hj).1; omega
      have := hcell j hj16
      rw [add_add] at this
      rw [this, List.getElem?_map, hj]; rfl)
    have hall : ∀ x ∈ (List.range len).map L, x.length = 16 := fun x hx => by
      obtain ⟨i, hi, rfl⟩ := List.mem_map.1 hx
      exact (hL i (List.mem_range.1 hi)).1
    have hfl := Abs.flatten_len hall
    refine ⟨(List.range len).map L, ⟨some a, len, cap, rfl, hl, ?_, (fun h => by cases h), ?_, (fun t m h => by cases h)⟩, hall, by simp; omega, .inr ⟨_, _, congrArg Prod.fst hx, by simp⟩⟩
    · rw [Abs.length_bytesC, hfl]; simp
    · intro ad had j x hj
      cases had
      have hjl : j < len * 16 := by
        have := (List.getElem?_eq_some_iff.1 hj).1
        rw [Abs.length_bytesC, hfl] at this; simpa using this
      have hi : j / 16 < len := by omega
      have hat := Abs.flatten_at hall (i := j / 16) (by simpa using hi)
      have hg : ((List.range len).map L).getD (j / 16) [] = L (j / 16) := by simp [List.getD, hi]
      rw [hg] at hat
      have hb : ((List.range len).map L).flatten[j]? = (L (j / 16))[j % 16]? := by
        rw [← hat, List.getElem?_take, if_pos (by omega), List.getElem?_drop, show j / 16 * 16 + j % 16 = j by omega]
      simp only [Abs.bytesC, List.getElem?_map, Option.map_eq_some_iff] at hj
      obtain ⟨b, hb1, rfl⟩ := hj
      rw [hb] at hb1
      have := (hL (j / 16) hi).2 (j % 16) b hb1
      rw [show j / 16 * 16 + j % 16 = j by omega] at this
      exact ⟨_, this, rfl, trivial⟩
/-- Five arguments. -/
theorem trodAll_five {P : Program} {w : World} {base : Nat} {spare : Nat → Bool} {held : Bool} {t t' t'' t3 t4 : TypeId} {args : Array Value} {ds : List (DataW H)} {ps : List MemPlace} (h : DataW.TrodAll enc P w base spare held [t, t', t'', t3, t4] args.toList ds ps) :
    ∃ v v' v'' v3 v4 d d' d'' d3 d4 p p' p'' p3 p4, args = #[v, v', v'', v3, v4] ∧ ds = [d, d', d'', d3, d4] ∧ ps = p ++ (p' ++ (p'' ++ (p3 ++ p4))) ∧ DataW.Trod enc P w base spare held t v d p ∧ DataW.Trod enc P w base spare held t' v' d' p' ∧ DataW.Trod enc P w base spare held t'' v'' d'' p'' ∧ DataW.Trod enc P w base spare held t3 v3 d3 p3 ∧ DataW.Trod enc P w base spare held t4 v4 d4 p4 := by
  obtain ⟨v, vs, d, ds', p, q, hargs, rfl, rfl, hd, hrest⟩ := trodAll_cons h
  obtain ⟨v', vs', d', ds'', p', q', rfl, rfl, rfl, hd', hrest'⟩ := trodAll_cons hrest
  obtain ⟨v'', vs'', d'', ds''', p'', q'', rfl, rfl, rfl, hd'', hrest''⟩ := trodAll_cons hrest'
  obtain ⟨v3, vs3, d3, ds3, p3, q3, rfl, rfl, rfl, hd3, hrest3⟩ := trodAll_cons hrest''
  obtain ⟨v4, vs4, d4, ds4, p4, q4, rfl, rfl, rfl, hd4, hrest4⟩ := trodAll_cons hrest3
  obtain ⟨rfl, rfl, rfl⟩ := trodAll_nil hrest4
  exact ⟨v, v', v'', v3, v4, d, d', d'', d3, d4, p, p', p'', p3, p4, by cases args; simp_all, rfl, by simp, hd, hd', hd'', hd3, hd4⟩
theorem trodAll_mk5 {P : Program} {w : World} {base : Nat} {spare : Nat → Bool} {held : Bool} {t t' t'' t3 t4 : TypeId} {v v' v'' v3 v4 : Value} {d d' d'' d3 d4 : DataW H} {p p' p'' p3 p4 : List MemPlace} (h : DataW.Trod enc P w base spare held t v d p) (h' : DataW.Trod enc P w base spare held t' v' d' p')
    (h'' : DataW.Trod enc P w base spare held t'' v'' d'' p'') (h3 : DataW.Trod enc P w base spare held t3 v3 d3 p3) (h4 : DataW.Trod enc P w base spare held t4 v4 d4 p4) : DataW.TrodAll enc P w base spare held [t, t', t'', t3, t4] [v, v', v'', v3, v4] [d, d', d'', d3, d4] (p ++ (p' ++ (p'' ++ (p3 ++ p4)))) := ⟨p, p' ++ (p'' ++ (p3 ++ p4)), h, trodAll_mk4 h' h'' h3 h4, rfl⟩

/-! ### The form's own reach -/
theorem weights_strs {P : Program} {e : TypeId} : ∀ (l : List ByteArray), ∀ s ∈ l, s.size ∈ DataW.weightsAll P e (Go.ChangeShapes.strs (H := H) l)
  | [], s, h => by cases h
  | x :: l, s, h => by
    have e1 : x.data.toList.length = x.size := Array.length_toList
    show s.size ∈ DataW.weights P e (.lit (.string x.data.toList)) ++ DataW.weightsAll P e (Go.ChangeShapes.strs (H := H) l)
    rw [List.mem_append]
    rcases List.mem_cons.1 h with rfl | h
    · left; simp [DataW.weights, e1]
    · exact .inr (weights_strs l s h)
theorem sized_texts {P : Program} {ts : List TypeId} {ds : List (DataW H)} (h : (DataW.weightsEach P ts ds).all (· ≤ reachBytes) = true) {j : Nat} {t e : TypeId} {l : List ByteArray} {d : DataW H} (hd0 : l = [] ∨ ∃ rest, d = .slice (Go.ChangeShapes.strs l) rest) (ht : ts[j]? = some t) (hd : ds[j]? = some d) (hu : P.underlying t = some (.slice e)) :
    ∀ s ∈ l, s.size ≤ 140737488351232 := by
  intro s hs
  rcases hd0 with rfl | ⟨rest, rfl⟩
  · cases hs
  · have := List.all_eq_true.1 h _ (DataW.weights_mem_each ht hd s.size (by
      simp only [DataW.weights, hu, List.mem_cons, List.mem_append]
      exact .inr (.inl (weights_strs l s hs))))
    have e : reachBytes = 140737488351231 ∨ reachBytes = 140737488351232 := by decide
    have := of_decide_eq_true this
    omega
theorem sized_elems {P : Program} {ts : List TypeId} {ds : List (DataW H)} (h : (DataW.weightsEach P ts ds).all (· ≤ reachBytes) = true) {j n : Nat} {t e : TypeId} {d : DataW H} (hd0 : ElemsOf d n) (ht : ts[j]? = some t) (hd : ds[j]? = some d) (hu : P.underlying t = some (.slice e)) (hb : 0 < P.bytesOf e) :
    n ≤ 140737488351232 := by
  rcases hd0 with rfl | ⟨es, rest, rfl, rfl⟩
  · omega
  · have := sized_slice h ht hd hu
    have e : reachBytes = 140737488351231 ∨ reachBytes = 140737488351232 := by decide
    have h2 := Nat.le_mul_of_pos_right (es.length + rest.length) hb
    omega
theorem elems_strs {d : DataW H} {l : List ByteArray} (h : l = [] ∨ ∃ rest, d = .slice (Go.ChangeShapes.strs l) rest) : ElemsOf d l.length := by
  rcases h with rfl | ⟨rest, rfl⟩
  · exact .inl rfl
  · exact .inr ⟨_, _, rfl, by simp [Go.ChangeShapes.strs]⟩
theorem sized_text {P : Program} {ts : List TypeId} {ds : List (DataW H)} (h : (DataW.weightsEach P ts ds).all (· ≤ reachBytes) = true) {j : Nat} {t : TypeId} {s : ByteArray} (ht : ts[j]? = some t) (hd : ds[j]? = some (.lit (.string s.data.toList))) : s.size ≤ 140737488351232 := by
  have := sized_string h ht hd
  have e1 : s.data.toList.length = s.size := Array.length_toList
  have e : reachBytes = 140737488351231 ∨ reachBytes = 140737488351232 := by decide
  omega

/-! ### How much they hold -/
set_option linter.ambiguousOpen false
open Rows (uptoBulk uptoBulkAll)
theorem bulk_pos : ∀ d : DataW H, 1 ≤ uptoBulk d
  | .lit (.string _) => by simp [uptoBulk]
  | .lit (.int _ _) => by simp [uptoBulk]
  | .lit (.bool _) => by simp [uptoBulk]
  | .lit .nil => by simp [uptoBulk]
  | .lit (.float _ _) => by simp [uptoBulk]
  | .nil => by simp [uptoBulk]
  | .ptr _ => by simp [uptoBulk]
  | .slice _ _ => by simp [uptoBulk]
  | .agg _ => by simp [uptoBulk]
  | .iface _ _ => by simp [uptoBulk]
  | .map _ => by simp [uptoBulk]
  | .held _ => by simp [uptoBulk]
theorem bulk_len : ∀ l : List (DataW H), l.length ≤ uptoBulkAll l
  | [] => by simp [uptoBulkAll]
  | d :: l => by
    have := bulk_len l
    have := bulk_pos d
    simp only [uptoBulkAll, List.length_cons]; omega
theorem bulk_elems {d : DataW H} {n : Nat} (h : ElemsOf d n) : n ≤ uptoBulk d := by
  rcases h with rfl | ⟨es, rest, rfl, rfl⟩
  · omega
  · have := bulk_len es
    simp only [uptoBulk]; omega
/-- The texts' bulkLetters. -/
def bulkLetters (l : List ByteArray) : Nat := (l.map (·.size)).sum
theorem bulk_texts : ∀ l : List ByteArray, uptoBulkAll (Go.ChangeShapes.strs (H := H) l) = bulkLetters l + l.length
  | [] => rfl
  | s :: l => by
    have := bulk_texts l
    have e : s.data.toList.length = s.size := Array.length_toList
    simp only [Go.ChangeShapes.strs, List.map_cons, uptoBulkAll, uptoBulk, bulkLetters, List.sum_cons, List.length_cons] at this ⊢
    omega
theorem bulk_strs {d : DataW H} {l : List ByteArray} (h : l = [] ∨ ∃ rest, d = .slice (Go.ChangeShapes.strs l) rest) : bulkLetters l + l.length ≤ uptoBulk d := by
  rcases h with rfl | ⟨rest, rfl⟩
  · simp [bulkLetters]
  · have := bulk_texts (H := H) l
    simp only [uptoBulk]; omega
theorem mem_letters {l : List ByteArray} {s : ByteArray} (h : s ∈ l) : s.size ≤ bulkLetters l := by
  induction l with
  | nil => cases h
  | cons x l ih =>
    simp only [bulkLetters, List.map_cons, List.sum_cons] at ih ⊢
    rcases List.mem_cons.1 h with rfl | h
    · omega
    · have := ih h; omega
end Go.Proofs.Ytijboooekbdinaa
