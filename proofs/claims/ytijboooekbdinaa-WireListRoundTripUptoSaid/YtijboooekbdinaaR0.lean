/-
  Arguments of the rows, opened for the walks.
-/
import Derived.Test.YtijboooekbdinaaU
import Derived.Test.YtijboooekbdinaaRows
import Derived.ProofKit
namespace Go.Proofs.Ytijboooekbdinaa
open Go.ChangeShapes Go.WideShapes Go.ChangeAt Go.RowKit Abs
set_option linter.unusedSimpArgs false
set_option linter.unusedVariables false
variable {H : Type} {enc : TypeId × Value → H}
theorem open_intsA {W : World} {base : Nat} {t e : TypeId} {k : IntKind} {v : Value} {d : DataW H} {p : List MemPlace} (ht : Try.prog.underlying t = some (.slice e)) (he : Try.prog.underlying e = some (.int k)) (hc : Try.prog.cellsOf e = 1)
    (hval : Value.okWide Try.prog W .any base t v) (h : DataW.Trod enc Try.prog W 0 (fun _ => true) true t v d p) :
    ∃ l : List Int, Abs.ArgRel W (.sl none 1 (ints k l)) v ∧ (∀ x ∈ l, (Lit.int k x).wf = true) ∧ l.length ≤ maxLen := by
  obtain ⟨a1, len, cap, rfl⟩ := okWide_slice ht hval
  obtain ⟨fuel, hf⟩ := h
  rcases open_ints ht he hc hf with ⟨hcs, hx⟩ | ⟨a, len', cap', zs, hcs, _, hl, hm, hz, hx, hcell, hwz⟩
  · simp [Value.cells] at hcs
    obtain ⟨rfl, rfl, rfl⟩ := hcs
    refine ⟨[], ⟨none, 0, 0, rfl, Nat.le_refl _, rfl, fun _ => ⟨rfl, rfl⟩, (fun ad h => by cases h), (fun t m h => by cases h)⟩, (fun x hx => by cases hx), Nat.zero_le _⟩
  · simp [Value.cells] at hcs
    obtain ⟨rfl, rfl, rfl⟩ := hcs
    simp only [if_true] at hz
    refine ⟨zs.take len, ⟨some a, len, cap, rfl, hl, ?_, (fun h => by cases h), ?_, (fun t m h => by cases h)⟩, fun x hx => hwz x (List.mem_of_mem_take hx), by rw [List.length_take]; omega⟩
    · simp [ints]; omega
    · intro ad had j x hj
      cases had
      have hjl : j < len := by
        have := (List.getElem?_eq_some_iff.1 hj).1
        simp [ints] at this; omega
      refine ⟨_, hcell j (by omega), ?_, trivial⟩
      have : x = .v (.int k (zs.getD j 0)) := by
        simp [ints, List.getElem?_take, hjl] at hj
        obtain ⟨z, hz1, rfl⟩ := hj
        simp [hz1]
      subst this
      rfl
theorem open_bytesA {W : World} {base : Nat} {t e : TypeId} {v : Value} {d : DataW H} {p : List MemPlace} (ht : Try.prog.underlying t = some (.slice e)) (he : Try.prog.underlying e = some (.int .u8)) (hc : Try.prog.cellsOf e = 1)
    (hval : Value.okWide Try.prog W .any base t v) (h : DataW.Trod enc Try.prog W 0 (fun _ => true) true t v d p) :
    ∃ l : List UInt8, Abs.ArgRel W (.sl none 1 (bytesC l)) v ∧ l.length ≤ maxLen := by
  obtain ⟨l, h1, h2, h3⟩ := open_intsA ht he hc hval h
  have e : ints .u8 l = bytesC (l.map fun n => UInt8.ofNat n.toNat) := by
    simp only [ints, bytesC, List.map_map]
    refine List.map_congr_left fun x hx => ?_
    have hw := h2 x hx
    simp only [Lit.wf, Bool.and_eq_true, decide_eq_true_eq] at hw
    have e1 : IntKind.u8.min = 0 := rfl
    have e2 : IntKind.u8.max = 255 := rfl
    rw [e1, e2] at hw
    simp
    omega
  rw [e] at h1
  exact ⟨_, h1, by simpa using h3⟩
theorem wf_i64' {n : Int} (h : (Lit.int .i64 n).wf = true) : -9223372036854775808 ≤ n ∧ n ≤ 9223372036854775807 := by
  simp only [Lit.wf, Bool.and_eq_true, decide_eq_true_eq] at h
  exact h
end Go.Proofs.Ytijboooekbdinaa
