/-
  Arguments of the rows: two bytes.
-/
import Derived.Test.YtkdpmjgigknbpaaDoorR0
namespace Go.Proofs.YtkdpmjgigknbpaaDoor
open Go.ChangeShapes Go.WideShapes Go.ChangeAt Go.RowKit Go.Deep
set_option linter.unusedSimpArgs false
set_option linter.unusedVariables false
set_option linter.ambiguousOpen false
variable {H : Type} {enc : TypeId × Value → H}
/-- Two bytes. -/
theorem open_pair {W : World} {base : Nat} {t u : TypeId} {v : Value} {d : DataW H} {p : List MemPlace} (ht : Tryd.prog.underlying t = some (.array 2 u)) (hu : Tryd.prog.underlying u = some (.int .u8)) (hcu : Tryd.prog.cellsOf u = 1) (hct : Tryd.prog.cellsOf t = 2)
    (hval : Value.okWide Tryd.prog W .any base t v) (h : DataW.Trod enc Tryd.prog W 0 (fun _ => true) true t v d p) :
    ∃ x y : UInt8, v = .agg ([x, y].map fun b => Value.int .u8 (b.toNat : Int)).toArray := by
  obtain ⟨fuel, hf⟩ := h
  have hv : ∃ cs, v = .agg cs ∧ cs.size = Tryd.prog.cellsOf t := by
    simp only [Value.okWide, ht] at hval
    obtain ⟨cs, h1, h2, _⟩ := hval
    exact ⟨cs, h1, h2⟩
  obtain ⟨cs, rfl, _⟩ := hv
  obtain ⟨l, hl, hc⟩ := open_row16 ht hu hcu hct hf
  match l, hl with
  | [x, y], _ =>
    refine ⟨x, y, ?_⟩
    have : cs.toList = [x, y].map fun b => Value.int .u8 (b.toNat : Int) := hc
    rw [← this]
end Go.Proofs.YtkdpmjgigknbpaaDoor
