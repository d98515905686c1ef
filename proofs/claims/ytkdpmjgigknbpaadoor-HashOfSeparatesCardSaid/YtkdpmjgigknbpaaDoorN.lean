/-
  Numbers as naturals: the rules of the walks for rows of numbers.
-/
import Derived.Test.YtkdpmjgigknbpaaDoorZ
namespace Go.Proofs.YtkdpmjgigknbpaaDoor
namespace Abs
open Go.RowKit
set_option linter.unusedSimpArgs false
variable {K : Res → Prop}
theorem natV_cells (k : IntKind) (l : List Nat) : (natV k l).map CV.v = nats k l := by simp [natV, nats]
theorem length_nats (k : IntKind) (l : List Nat) : (nats k l).length = l.length := by simp [nats]
theorem length_natV (k : IntKind) (l : List Nat) : (natV k l).length = l.length := by simp [natV]
theorem nats_nil (k : IntKind) : nats k [] = [] := rfl
theorem nats_cons (k : IntKind) (b : Nat) (l : List Nat) : nats k (b :: l) = .v (.int k b) :: nats k l := rfl
theorem nats_append (k : IntKind) (l m : List Nat) : nats k (l ++ m) = nats k l ++ nats k m := by simp [nats]
theorem drop_nats (k : IntKind) (l : List Nat) (n : Nat) : (nats k l).drop n = nats k (l.drop n) := by simp [nats]
theorem take_nats (k : IntKind) (l : List Nat) (n : Nat) : (nats k l).take n = nats k (l.take n) := by simp [nats]
theorem all_nats (k : IntKind) : ∀ (l : List Nat), (nats k l).all CV.one = true
  | [] => rfl
  | _ :: l => by
    have := all_nats k l
    simp only [nats, List.map_cons, List.all_cons] at this ⊢
    rw [this]; rfl
theorem plain_nats (k : IntKind) (l : List Nat) : plain (nats k l) = some (natV k l) := by
  rw [← natV_cells, plain_map]
theorem head_nats (k : IntKind) (l : List Nat) (i : Nat) : exHead (nats k (l.drop i)).head? K = (i < l.length ∧ K (rv (.v (.int k (l.getD i 0 : Nat))))) := by
  by_cases h : i < l.length
  · rw [List.drop_eq_getElem_cons h]
    simp [nats, exHead, ofCV, h]
  · rw [List.drop_eq_nil_of_le (by omega)]
    simp [nats, exHead, h]
theorem head_nats0 (k : IntKind) (l : List Nat) : exHead (nats k l).head? K = (0 < l.length ∧ K (rv (.v (.int k (l.getD 0 0 : Nat))))) := head_nats k l 0
theorem head_bytes0 (l : List UInt8) : exHead (bytesC l).head? K = (0 < l.length ∧ K (rv (.v (.int .u8 (l.getD 0 0).toNat)))) := head_bytes l 0
theorem exIx_natV (k : IntKind) (l : List Nat) (i : Nat) : exIx ((natV k l)[i]?) K = (i < l.length ∧ K (rv (.v (.int k (l.getD i 0 : Nat))))) := by
  by_cases h : i < l.length
  · simp [natV, exIx, h]
  · simp [natV, exIx, h]
theorem put_nats (k : IntKind) (l : List Nat) (i x : Nat) (h : i < l.length) : putL (nats k l) i [.v (.int k (x : Int))] = nats k (l.set i x) := by
  rw [putL, List.set_eq_take_append_cons_drop, if_pos h]
  simp [nats]
theorem put_bytes (l : List UInt8) (i : Nat) (x : UInt8) (h : i < l.length) : putL (bytesC l) i [.v (.int .u8 (x.toNat : Int))] = bytesC (l.set i x) := by
  rw [putL, List.set_eq_take_append_cons_drop, if_pos h]
  simp [bytesC]
theorem cells_natV (k : IntKind) (l : List Nat) : (Value.agg (natV k l).toArray).cells.toList = natV k l := cells_agg _
theorem callOps_value {f : Operand} {args : Array Operand} {ts : Array TypeId} : (Call.mk (.value f) args ts).operands.toList = f :: args.toList := by
  simp [Call.operands]
theorem callOps_builtin {f : Builtin} {args : Array Operand} {ts : Array TypeId} : (Call.mk (.builtin f) args ts).operands.toList = args.toList := by
  simp [Call.operands]
theorem cvt_31_31 : cvt Tryd.prog 31 31 = some .same := by kernel_rfl
end Abs
end Go.Proofs.YtkdpmjgigknbpaaDoor
