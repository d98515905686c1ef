/-
  Arguments of the rows, opened for the walks; the tables that the rows list.
-/
import Derived.Test.YtkdpmjgigknbpaaDoorU
import Derived.Test.YtkdpmjgigknbpaaDoorRows
import Derived.Test.YtkdpmjgigknbpaaDoorCards
import Derived.Test.YtkdpmjgigknbpaaDoorTie
import Derived.ProofKit
import Derived.OpenShut
import Derived.Deep.DeepHandedRow
import Derived.Lib.LaidTab
import Derived.Stop.LaidErr
import Derived.Deep.Slices
import Derived.SliceStrings
import Derived.SizedLaws
import Derived.Deep.CondSized
namespace Go.Proofs.YtkdpmjgigknbpaaDoor
open Go.ChangeShapes Go.WideShapes Go.ChangeAt Go.RowKit Go.Deep
set_option linter.unusedSimpArgs false
set_option linter.unusedVariables false
set_option linter.ambiguousOpen false
variable {H : Type} {enc : TypeId × Value → H}
theorem open_intsA {W : World} {base : Nat} {t e : TypeId} {k : IntKind} {v : Value} {d : DataW H} {p : List MemPlace} (ht : Tryd.prog.underlying t = some (.slice e)) (he : Tryd.prog.underlying e = some (.int k)) (hc : Tryd.prog.cellsOf e = 1)
    (hval : Value.okWide Tryd.prog W .any base t v) (h : DataW.Trod enc Tryd.prog W 0 (fun _ => true) true t v d p) :
    ∃ l : List Int, Abs.ArgRel W (.sl none 1 (Abs.ints k l)) v ∧ (∀ x ∈ l, (Lit.int k x).wf = true) ∧ l.length ≤ maxLen := by
  obtain ⟨a1, len, cap, rfl⟩ := okWide_slice ht hval
  obtain ⟨fuel, hf⟩ := h
  rcases open_ints ht he hc hf with ⟨hcs, hx⟩ | ⟨a, len', cap', zs, hcs, _, hl, hm, hz, hx, hcell, hwz⟩
  · simp [Value.cells] at hcs
    obtain ⟨rfl, rfl, rfl⟩ := hcs
    refine ⟨[], ⟨none, 0, 0, rfl, Nat.le_refl _, rfl, fun _ => ⟨rfl, rfl⟩, (fun ad h => by cases h), (fun t m h => by cases h)⟩, (fun x hx => by cases hx), Nat.zero_le _⟩
  · simp [Value.cells] at hcs
    obtain ⟨rfl, rfl, rfl⟩ := hcs
    simp only [if_true] at hz
    refine ⟨zs.take len, ⟨some a, len, cap, rfl, hl, ?_, (fun h => by cases h), ?_, (fun t m h => by cases h)⟩, fun x hx => hwz x (List.mem_of_mem_take hx), by rw [List.length_take]; omega⟩
    · simp [Abs.ints]; omega
    · intro ad had j x hj
      cases had
      have hjl : j < len := by
        have := (List.getElem?_eq_some_iff.1 hj).1
        simp [Abs.ints] at this; omega
      refine ⟨_, hcell j (by omega), ?_, trivial⟩
      have : x = .v (.int k (zs.getD j 0)) := by
        simp [Abs.ints, List.getElem?_take, hjl] at hj
        obtain ⟨z, hz1, rfl⟩ := hj
        simp [hz1]
      subst this
      rfl
theorem open_bytesA {W : World} {base : Nat} {t e : TypeId} {v : Value} {d : DataW H} {p : List MemPlace} (ht : Tryd.prog.underlying t = some (.slice e)) (he : Tryd.prog.underlying e = some (.int .u8)) (hc : Tryd.prog.cellsOf e = 1)
    (hval : Value.okWide Tryd.prog W .any base t v) (h : DataW.Trod enc Tryd.prog W 0 (fun _ => true) true t v d p) :
    ∃ l : List UInt8, Abs.ArgRel W (.sl none 1 (Abs.bytesC l)) v ∧ l.length ≤ maxLen := by
  obtain ⟨l, h1, h2, h3⟩ := open_intsA ht he hc hval h
  have e : Abs.ints .u8 l = Abs.bytesC (l.map fun n => UInt8.ofNat n.toNat) := by
    simp only [Abs.ints, Abs.bytesC, List.map_map]
    refine List.map_congr_left fun x hx => ?_
    have hw := h2 x hx
    simp only [Lit.wf, Bool.and_eq_true, decide_eq_true_eq] at hw
    have e1 : IntKind.u8.min = 0 := rfl
    have e2 : IntKind.u8.max = 255 := rfl
    rw [e1, e2] at hw
    simp
    omega
  rw [e] at h1
  exact ⟨_, h1, by simpa using h3⟩
theorem wf_i64' {n : Int} (h : (Lit.int .i64 n).wf = true) : -9223372036854775808 ≤ n ∧ n ≤ 9223372036854775807 := by
  simp only [Lit.wf, Bool.and_eq_true, decide_eq_true_eq] at h
  exact h
/-- A slice's reading has as many elements. -/
def ElemsOf (d : DataW H) (n : Nat) : Prop := n = 0 ∨ ∃ es rest, d = .slice es rest ∧ es.length = n
theorem open_intsB {W : World} {base : Nat} {t e : TypeId} {k : IntKind} {v : Value} {d : DataW H} {p : List MemPlace} (ht : Tryd.prog.underlying t = some (.slice e)) (he : Tryd.prog.underlying e = some (.int k)) (hc : Tryd.prog.cellsOf e = 1)
    (hval : Value.okWide Tryd.prog W .any base t v) (h : DataW.Trod enc Tryd.prog W 0 (fun _ => true) true t v d p) :
    ∃ l : List Int, Abs.ArgRel W (.sl none 1 (Abs.ints k l)) v ∧ (∀ x ∈ l, (Lit.int k x).wf = true) ∧ l.length ≤ maxLen ∧ ElemsOf d l.length := by
  obtain ⟨a1, len, cap, rfl⟩ := okWide_slice ht hval
  obtain ⟨fuel, hf⟩ := h
  rcases open_ints ht he hc hf with ⟨hcs, hx⟩ | ⟨a, len', cap', zs, hcs, _, hl, hm, hz, hx, hcell, hwz⟩
  · simp [Value.cells] at hcs
    obtain ⟨rfl, rfl, rfl⟩ := hcs
    refine ⟨[], ⟨none, 0, 0, rfl, Nat.le_refl _, rfl, fun _ => ⟨rfl, rfl⟩, (fun ad h => by cases h), (fun t m h => by cases h)⟩, (fun x hx => by cases hx), Nat.zero_le _, .inl rfl⟩
  · simp [Value.cells] at hcs
    obtain ⟨rfl, rfl, rfl⟩ := hcs
    simp only [if_true] at hz
    refine ⟨zs.take len, ⟨some a, len, cap, rfl, hl, ?_, (fun h => by cases h), ?_, (fun t m h => by cases h)⟩, fun x hx => hwz x (List.mem_of_mem_take hx), by rw [List.length_take]; omega, .inr ⟨_, _, congrArg Prod.fst hx, ?_⟩⟩
    · simp [Abs.ints]; omega
    · intro ad had j x hj
      cases had
      have hjl : j < len := by
        have := (List.getElem?_eq_some_iff.1 hj).1
        simp [Abs.ints] at this; omega
      refine ⟨_, hcell j (by omega), ?_, trivial⟩
      have : x = .v (.int k (zs.getD j 0)) := by
        simp [Abs.ints, List.getElem?_take, hjl] at hj
        obtain ⟨z, hz1, rfl⟩ := hj
        simp [hz1]
      subst this
      rfl
    · simp [lits, Abs.ints]
theorem open_bytesB {W : World} {base : Nat} {t e : TypeId} {v : Value} {d : DataW H} {p : List MemPlace} (ht : Tryd.prog.underlying t = some (.slice e)) (he : Tryd.prog.underlying e = some (.int .u8)) (hc : Tryd.prog.cellsOf e = 1)
    (hval : Value.okWide Tryd.prog W .any base t v) (h : DataW.Trod enc Tryd.prog W 0 (fun _ => true) true t v d p) :
    ∃ l : List UInt8, Abs.ArgRel W (.sl none 1 (Abs.bytesC l)) v ∧ ElemsOf d l.length := by
  obtain ⟨l, h1, h2, _, h4⟩ := open_intsB (k := .u8) ht he hc hval h
  have e : Abs.ints .u8 l = Abs.bytesC (l.map fun n => UInt8.ofNat n.toNat) := by
    simp only [Abs.ints, Abs.bytesC, List.map_map]
    refine List.map_congr_left fun x hx => ?_
    have hw := h2 x hx
    simp only [Lit.wf, Bool.and_eq_true, decide_eq_true_eq] at hw
    have e1 : IntKind.u8.min = 0 := rfl
    have e2 : IntKind.u8.max = 255 := rfl
    rw [e1, e2] at hw
    simp
    omega
  rw [e] at h1
  exact ⟨_, h1, by simpa using h4⟩
theorem open_strsA {W : World} {base : Nat} {t e : TypeId} {v : Value} {d : DataW H} {p : List MemPlace} (ht : Tryd.prog.underlying t = some (.slice e)) (he : Tryd.prog.underlying e = some .string) (hc : Tryd.prog.cellsOf e = 1)
    (hval : Value.okWide Tryd.prog W .any base t v) (h : DataW.Trod enc Tryd.prog W 0 (fun _ => true) true t v d p) :
    ∃ l : List ByteArray, Abs.ArgRel W (.sl none 1 (Abs.strs l)) v ∧ (∀ x ∈ l, x.size ≤ maxLen) ∧ l.length ≤ maxLen ∧ (l = [] ∨ ∃ rest, d = .slice (Go.ChangeShapes.strs l) rest) := by
  obtain ⟨a1, len, cap, rfl⟩ := okWide_slice ht hval
  obtain ⟨fuel, hf⟩ := h
  rcases open_strings ht he hc hf with ⟨hcs, hx⟩ | ⟨a, len', cap', zs, hcs, _, hl, hm, hz, hx, hcell, hwz⟩
  · simp [Value.cells] at hcs
    obtain ⟨rfl, rfl, rfl⟩ := hcs
    refine ⟨[], ⟨none, 0, 0, rfl, Nat.le_refl _, rfl, fun _ => ⟨rfl, rfl⟩, (fun ad h => by cases h), (fun t m h => by cases h)⟩, (fun x hx => by cases hx), Nat.zero_le _, .inl rfl⟩
  · simp [Value.cells] at hcs
    obtain ⟨rfl, rfl, rfl⟩ := hcs
    simp only [if_true] at hz
    refine ⟨zs.take len, ⟨some a, len, cap, rfl, hl, ?_, (fun h => by cases h), ?_, (fun t m h => by cases h)⟩, fun x hx => hwz x (List.mem_of_mem_take hx), by rw [List.length_take]; omega, .inr ⟨_, congrArg Prod.fst hx⟩⟩
    · simp [Abs.strs]; omega
    · intro ad had j x hj
      cases had
      have hjl : j < len := by
        have := (List.getElem?_eq_some_iff.1 hj).1
        simp [Abs.strs] at this; omega
      refine ⟨_, hcell j (by omega), ?_, trivial⟩
      have : x = .v (.string (zs.getD j ByteArray.empty)) := by
        simp [Abs.strs, List.getElem?_take, hjl] at hj
        obtain ⟨z, hz1, rfl⟩ := hj
        simp [hz1]
      subst this
      rfl
/-- An array of bytes, opened. -/
theorem open_row16 {W : World} {e u : TypeId} {n fuel : Nat} {cs : List Value} {x : DataW H × List MemPlace} (he : Tryd.prog.underlying e = some (.array n u)) (hu : Tryd.prog.underlying u = some (.int .u8)) (hcu : Tryd.prog.cellsOf u = 1) (hce : Tryd.prog.cellsOf e = n)
    (h : DataW.trod enc Tryd.prog W 0 (fun _ => true) true fuel e cs = some x) : ∃ l : List UInt8, l.length = n ∧ cs = l.map fun b => Value.int .u8 b.toNat := by
  obtain ⟨xs, m, rfl, rfl, hlen, hxs, hel⟩ := DataW.trod_array he h
  rw [hce] at hlen
  have each : ∀ i, i < n → ∃ b : UInt8, cs[i]? = some (.int .u8 b.toNat) := fun i hi => by
    have h1 := hel i hi
    rw [hcu, Nat.mul_one, List.getElem?_eq_getElem (show i < xs.length by omega)] at h1
    obtain ⟨k, hk, _, hw⟩ := DataW.trod_int hu h1
    have e1 : IntKind.u8.min = 0 := rfl
    have e2 : IntKind.u8.max = 255 := rfl
    simp only [Lit.wf, Bool.and_eq_true, decide_eq_true_eq] at hw
    rw [e1, e2] at hw
    refine ⟨UInt8.ofNat k.toNat, ?_⟩
    have h2 := congrArg (fun l : List Value => l[0]?) hk
    simp only [List.getElem?_take, List.getElem?_drop, Nat.add_zero, List.getElem?_cons_zero] at h2
    rw [if_pos (by omega)] at h2
    rw [h2]
    simp; omega
  obtain ⟨f, hf⟩ := choose_lt (α := UInt8) each
  refine ⟨(List.range n).map f, by simp, ?_⟩
  apply List.ext_getElem?
  intro i
  by_cases hi : i < n
  · rw [hf i hi]; simp [hi]
  · rw [List.getElem?_eq_none (by omega), List.getElem?_eq_none (by simp; omega)]
/-! ### The form's own reach -/
theorem weights_strs {P : Program} {e : TypeId} : ∀ (l : List ByteArray), ∀ s ∈ l, s.size ∈ DataW.weightsAll P e (Go.ChangeShapes.strs (H := H) l)
  | [], s, h => by cases h
  | x :: l, s, h => by
    have e1 : x.data.toList.length = x.size := Array.length_toList
    show s.size ∈ DataW.weights P e (.lit (.string x.data.toList)) ++ DataW.weightsAll P e (Go.ChangeShapes.strs (H := H) l)
    rw [List.mem_append]
    rcases List.mem_cons.1 h with rfl | h
    · left; simp [DataW.weights, e1]
    · exact .inr (weights_strs l s h)
theorem sized_texts {P : Program} {ts : List TypeId} {ds : List (DataW H)} (h : (DataW.weightsEach P ts ds).all (· ≤ reachBytes) = true) {j : Nat} {t e : TypeId} {l : List ByteArray} {d : DataW H} (hd0 : l = [] ∨ ∃ rest, d = .slice (Go.ChangeShapes.strs l) rest) (ht : ts[j]? = some t) (hd : ds[j]? = some d) (hu : P.underlying t = some (.slice e)) :
    ∀ s ∈ l, s.size ≤ 140737488351232 := by
  intro s hs
  rcases hd0 with rfl | ⟨rest, rfl⟩
  · cases hs
  · have := List.all_eq_true.1 h _ (DataW.weights_mem_each ht hd s.size (by
      simp only [DataW.weights, hu, List.mem_cons, List.mem_append]
      exact .inr (.inl (weights_strs l s hs))))
    have e : reachBytes = 140737488351231 ∨ reachBytes = 140737488351232 := by decide
    have := of_decide_eq_true this
    omega
theorem sized_elems {P : Program} {ts : List TypeId} {ds : List (DataW H)} (h : (DataW.weightsEach P ts ds).all (· ≤ reachBytes) = true) {j n : Nat} {t e : TypeId} {d : DataW H} (hd0 : ElemsOf d n) (ht : ts[j]? = some t) (hd : ds[j]? = some d) (hu : P.underlying t = some (.slice e)) (hb : 0 < P.bytesOf e) :
    n ≤ 140737488351232 := by
  rcases hd0 with rfl | ⟨es, rest, rfl, rfl⟩
  · omega
  · have := sized_slice h ht hd hu
    have e : reachBytes = 140737488351231 ∨ reachBytes = 140737488351232 := by decide
    have h2 := Nat.le_mul_of_pos_right (es.length + rest.length) hb
    omega
theorem elems_strs {d : DataW H} {l : List ByteArray} (h : l = [] ∨ ∃ rest, d = .slice (Go.ChangeShapes.strs l) rest) : ElemsOf d l.length := by
  rcases h with rfl | ⟨rest, rfl⟩
  · exact .inl rfl
  · exact .inr ⟨_, _, rfl, by simp [Go.ChangeShapes.strs]⟩
theorem sized_text {P : Program} {ts : List TypeId} {ds : List (DataW H)} (h : (DataW.weightsEach P ts ds).all (· ≤ reachBytes) = true) {j : Nat} {t : TypeId} {s : ByteArray} (ht : ts[j]? = some t) (hd : ds[j]? = some (.lit (.string s.data.toList))) : s.size ≤ 140737488351232 := by
  have := sized_string h ht hd
  have e1 : s.data.toList.length = s.size := Array.length_toList
  have e : reachBytes = 140737488351231 ∨ reachBytes = 140737488351232 := by decide
  omega


theorem trodAll_re {P : Program} {w : World} {base : Nat} {spare : Nat → Bool} {held : Bool} {ts : List TypeId} {vs : List Value} {ds : List (DataW H)} {ps ps' : List MemPlace} (h : DataW.TrodAll enc P w base spare held ts vs ds ps) (e : ps = ps') : DataW.TrodAll enc P w base spare held ts vs ds ps' := e ▸ h
theorem wf_u8' {n : Int} (h : (Lit.int .u8 n).wf = true) : 0 ≤ n ∧ n ≤ 255 := by
  simp only [Lit.wf, Bool.and_eq_true, decide_eq_true_eq] at h
  exact h
theorem wf_u16' {n : Int} (h : (Lit.int .u16 n).wf = true) : 0 ≤ n ∧ n ≤ 65535 := by
  simp only [Lit.wf, Bool.and_eq_true, decide_eq_true_eq] at h
  exact h
theorem wf_u64' {n : Int} (h : (Lit.int .u64 n).wf = true) : 0 ≤ n ∧ n ≤ 18446744073709551615 := by
  simp only [Lit.wf, Bool.and_eq_true, decide_eq_true_eq] at h
  exact h
/-! ### The tables -/
theorem Tryd.own : ownKnob Tryd.prog.godebug = none := by kernel_rfl
theorem Tryd.laidOut : laidOutB Tryd.prog = true := by kernel_rfl
theorem gRef : Tryd.prog.globalNamed "alum/alumref02.constants" = some 0 := by kernel_rfl
theorem gNib : Tryd.prog.globalNamed "alum/hash.nibbles" = some 1 := by kernel_rfl
theorem gCon : Tryd.prog.globalNamed "alum/hash.constants" = some 2 := by kernel_rfl
theorem gRefT : (Tryd.prog.globals[0]?).map (·.type) = some 75 := by kernel_rfl
theorem gNibT : (Tryd.prog.globals[1]?).map (·.type) = some 79 := by kernel_rfl
theorem gConT : (Tryd.prog.globals[2]?).map (·.type) = some 75 := by kernel_rfl
theorem u57 : Tryd.prog.underlying 57 = some (.int .u32) := by kernel_rfl
theorem c57 : Tryd.prog.cellsOf 57 = 1 := by kernel_rfl
theorem c38 : Tryd.prog.cellsOf 38 = 1 := by kernel_rfl
theorem c75 : Tryd.prog.cellsOf 75 = 64 := by kernel_rfl
theorem c79 : Tryd.prog.cellsOf 79 = 16 := by kernel_rfl
def ofNats (l : List Nat) : List Int := l.map fun (n : Nat) => (n : Int)
theorem tab_at {W : World} {name : String} {k : IntKind} {l : List Nat} {g : Nat} (h : Lib.TabIs Tryd.prog W name k (ofNats l)) (hg : Tryd.prog.globalNamed name = some g) :
    ∀ (j : Nat) (x : Value), (Abs.natV k l)[j]? = some x → W.cell? ⟨g, j, none⟩ = some x := fun j x hx => by
  simp only [Abs.natV, List.getElem?_map, Option.map_eq_some_iff] at hx
  obtain ⟨n, hn, rfl⟩ := hx
  have hj := (List.getElem?_eq_some_iff.1 hn).1
  rw [h.cell hg j (by simpa [ofNats] using hj)]
  simp [ofNats, List.getD, List.getElem?_map, hn]
theorem globOK_two {W : World} (h : laidMetH Tryd.prog [("alum/hash.nibbles", Rows.laid_alum_hash_nibbles), ("alum/hash.constants", Rows.laid_alum_hash_constants)] W) : Abs.GlobOK Abs.GV W := by
  have h0 : laidMet Tryd.prog [("alum/hash.nibbles", Rows.laid_alum_hash_nibbles), ("alum/hash.constants", Rows.laid_alum_hash_constants)] W := h
  have h1 : Lib.TabIs Tryd.prog W "alum/hash.nibbles" .u64 (ofNats Abs.nibs) := Lib.tabIs_of_head (rest := [("alum/hash.constants", Rows.laid_alum_hash_constants)]) gNib gNibT Tryd.underlying79 Tryd.underlying38 c38 c79 h0
  have h2 : Lib.TabIs Tryd.prog W "alum/hash.constants" .u32 (ofNats Abs.rounds) := Lib.tabIs_of_head (rest := []) gCon gConT Tryd.underlying75 u57 c57 c75 h0.tail
  intro g j x hx
  match g, hx with
  | 0, hx => simp [Abs.GV] at hx
  | 1, hx => exact tab_at h1 gNib j x hx
  | 2, hx => exact tab_at h2 gCon j x hx
  | n + 3, hx => simp [Abs.GV] at hx
theorem globOK_three {W : World} (h : laidMetH Tryd.prog [("alum/alumref02.constants", Rows.laid_alum_alumref02_constants), ("alum/hash.nibbles", Rows.laid_alum_hash_nibbles), ("alum/hash.constants", Rows.laid_alum_hash_constants)] W) : Abs.GlobOK Abs.GV2 W := by
  have h0 : laidMet Tryd.prog [("alum/alumref02.constants", Rows.laid_alum_alumref02_constants), ("alum/hash.nibbles", Rows.laid_alum_hash_nibbles), ("alum/hash.constants", Rows.laid_alum_hash_constants)] W := h
  have h3 : Lib.TabIs Tryd.prog W "alum/alumref02.constants" .u32 (ofNats Abs.rounds) := Lib.tabIs_of_head (rest := [("alum/hash.nibbles", Rows.laid_alum_hash_nibbles), ("alum/hash.constants", Rows.laid_alum_hash_constants)]) gRef gRefT Tryd.underlying75 u57 c57 c75 h0
  have h1 : Lib.TabIs Tryd.prog W "alum/hash.nibbles" .u64 (ofNats Abs.nibs) := Lib.tabIs_of_head (rest := [("alum/hash.constants", Rows.laid_alum_hash_constants)]) gNib gNibT Tryd.underlying79 Tryd.underlying38 c38 c79 h0.tail
  have h2 : Lib.TabIs Tryd.prog W "alum/hash.constants" .u32 (ofNats Abs.rounds) := Lib.tabIs_of_head (rest := []) gCon gConT Tryd.underlying75 u57 c57 c75 h0.tail.tail
  intro g j x hx
  match g, hx with
  | 0, hx => exact tab_at h3 gRef j x hx
  | 1, hx => exact tab_at h1 gNib j x hx
  | 2, hx => exact tab_at h2 gCon j x hx
  | n + 3, hx => simp [Abs.GV2] at hx
/-- A world for the witness: the settled one, the tables holding what their initialisers lay. -/
noncomputable def laidHeap (os : Os) : Array Obj :=
  (((World.holding Tryd.prog os ⟨#[], #[], []⟩).heap.modify 0 fun
      | .cells _ t frozen => .cells (Abs.natV .u32 Abs.rounds).toArray t frozen
      | o => o).modify 1 fun
      | .cells _ t frozen => .cells (Abs.natV .u64 Abs.nibs).toArray t frozen
      | o => o).modify 2 fun
      | .cells _ t frozen => .cells (Abs.natV .u32 Abs.rounds).toArray t frozen
      | o => o
noncomputable def laidWorld (os : Os) : World := { World.holding Tryd.prog os ⟨#[], #[], []⟩ with heap := laidHeap os }
end Go.Proofs.YtkdpmjgigknbpaaDoor
