/-
  Contents written as lists of bytes, numbers, texts; numbers of Go as naturals; states that say less.
-/
import Derived.Test.YtkdpmjgigknbpaaDoorA16
import Derived.Laws.BitsLemmas
import Derived.Laws.Bits64
namespace Go.Proofs.YtkdpmjgigknbpaaDoor
namespace Abs
open Go.RowKit
set_option linter.unusedSimpArgs false

variable {K : Res → Prop}

theorem AVle_refl (x : AV) : AVle x x = True := eq_true (.inl rfl)
theorem AVle_bot (x : AV) : AVle x .bot = True := eq_true (.inr (.inl rfl))
theorem AVle_of_eq {x y : AV} (h : x = y) : AVle x y := .inl h.symm
theorem AVle_untag {t : Option Nat} {sz : Nat} {xs : List CV} : AVle (.sl t sz xs) (.sl none sz xs) = True := eq_true (.inr (.inr ⟨t, sz, xs, rfl, rfl⟩))
theorem forall_mem_cons' {α : Type} {p : α → Prop} {a : α} {l : List α} : (∀ x ∈ a :: l, p x) = (p a ∧ ∀ x ∈ l, p x) := propext List.forall_mem_cons
theorem forall_mem_nil' {α : Type} {p : α → Prop} : (∀ x ∈ ([] : List α), p x) = True := eq_true (fun _ h => by cases h)

/-! ### bytes -/
theorem length_bytesC (l : List UInt8) : (bytesC l).length = l.length := by simp [bytesC]
theorem bytesC_nil : bytesC [] = [] := rfl
theorem bytesC_cons (b : UInt8) (l : List UInt8) : bytesC (b :: l) = .v (.int .u8 b.toNat) :: bytesC l := rfl
theorem bytesC_append (l m : List UInt8) : bytesC (l ++ m) = bytesC l ++ bytesC m := by simp [bytesC]
theorem drop_bytesC (l : List UInt8) (n : Nat) : (bytesC l).drop n = bytesC (l.drop n) := by simp [bytesC]
theorem take_bytesC (l : List UInt8) (n : Nat) : (bytesC l).take n = bytesC (l.take n) := by simp [bytesC]
theorem all_bytesC (l : List UInt8) : (bytesC l).all CV.one = true := bytes_one l
theorem plain_map (l : List Value) : plain (l.map .v) = some l := by
  induction l with
  | nil => rfl
  | cons x l ih => simp only [List.map_cons, plain, ih]; rfl
theorem plain_bytesC (l : List UInt8) : plain (bytesC l) = some (l.map fun b => .int .u8 b.toNat) := by
  have : bytesC l = (l.map fun b => Value.int .u8 b.toNat).map .v := by rw [List.map_map]; rfl
  rw [this, plain_map]
theorem plain_bytes_some (l : List UInt8) : (∃ ys, plain (bytesC l) = some ys) = True := eq_true ⟨_, plain_bytesC l⟩
theorem bytesOf_bytesC (l : List UInt8) : bytesOf (bytesC l) = some l := by
  induction l with
  | nil => rfl
  | cons b l ih => simp only [bytesC, List.map_cons, bytesOf] at ih ⊢; rw [ih]; simp
theorem head_bytes (l : List UInt8) (i : Nat) : exHead (bytesC (l.drop i)).head? K = (i < l.length ∧ K (rv (.v (.int .u8 (l.getD i 0).toNat)))) := by
  by_cases h : i < l.length
  · rw [List.drop_eq_getElem_cons h]
    simp [bytesC, exHead, ofCV, h]
  · rw [List.drop_eq_nil_of_le (by omega)]
    simp [bytesC, exHead, h]

/-! ### numbers -/
theorem length_ints (k : IntKind) (l : List Int) : (ints k l).length = l.length := by simp [ints]
theorem ints_nil (k : IntKind) : ints k [] = [] := rfl
theorem ints_cons (k : IntKind) (b : Int) (l : List Int) : ints k (b :: l) = .v (.int k b) :: ints k l := rfl
theorem ints_append (k : IntKind) (l m : List Int) : ints k (l ++ m) = ints k l ++ ints k m := by simp [ints]
theorem drop_ints (k : IntKind) (l : List Int) (n : Nat) : (ints k l).drop n = ints k (l.drop n) := by simp [ints]
theorem take_ints (k : IntKind) (l : List Int) (n : Nat) : (ints k l).take n = ints k (l.take n) := by simp [ints]
theorem all_ints (k : IntKind) : ∀ (l : List Int), (ints k l).all CV.one = true
  | [] => rfl
  | _ :: l => by
    have := all_ints k l
    simp only [ints, List.map_cons, List.all_cons] at this ⊢
    rw [this]; rfl
theorem plain_ints (k : IntKind) (l : List Int) : plain (ints k l) = some (l.map (.int k)) := by
  have : ints k l = (l.map (Value.int k)).map .v := by rw [List.map_map]; rfl
  rw [this, plain_map]
theorem plain_ints_some (k : IntKind) (l : List Int) : (∃ ys, plain (ints k l) = some ys) = True := eq_true ⟨_, plain_ints k l⟩
theorem head_ints (k : IntKind) (l : List Int) (i : Nat) : exHead (ints k (l.drop i)).head? K = (i < l.length ∧ K (rv (.v (.int k (l.getD i 0))))) := by
  by_cases h : i < l.length
  · rw [List.drop_eq_getElem_cons h]
    simp [ints, exHead, ofCV, h]
  · rw [List.drop_eq_nil_of_le (by omega)]
    simp [ints, exHead, h]

/-! ### texts -/
def strs (l : List ByteArray) : List CV := l.map fun s => .v (.string s)
theorem length_strs (l : List ByteArray) : (strs l).length = l.length := by simp [strs]
theorem strs_nil : strs [] = [] := rfl
theorem strs_cons (b : ByteArray) (l : List ByteArray) : strs (b :: l) = .v (.string b) :: strs l := rfl
theorem strs_append (l m : List ByteArray) : strs (l ++ m) = strs l ++ strs m := by simp [strs]
theorem drop_strs (l : List ByteArray) (n : Nat) : (strs l).drop n = strs (l.drop n) := by simp [strs]
theorem take_strs (l : List ByteArray) (n : Nat) : (strs l).take n = strs (l.take n) := by simp [strs]
theorem all_strs : ∀ (l : List ByteArray), (strs l).all CV.one = true
  | [] => rfl
  | _ :: l => by
    have := all_strs l
    simp only [strs, List.map_cons, List.all_cons] at this ⊢
    rw [this]; rfl
theorem plain_strs (l : List ByteArray) : plain (strs l) = some (l.map .string) := by
  have : strs l = (l.map Value.string).map .v := by rw [List.map_map]; rfl
  rw [this, plain_map]
theorem plain_strs_some (l : List ByteArray) : (∃ ys, plain (strs l) = some ys) = True := eq_true ⟨_, plain_strs l⟩
theorem head_strs (l : List ByteArray) (i : Nat) : exHead (strs (l.drop i)).head? K = (i < l.length ∧ K (rv (.v (.string (l.getD i ByteArray.empty))))) := by
  by_cases h : i < l.length
  · rw [List.drop_eq_getElem_cons h]
    simp [strs, exHead, ofCV, h]
  · rw [List.drop_eq_nil_of_le (by omega)]
    simp [strs, exHead, h]
theorem toList_mk (l : List UInt8) : (⟨l.toArray⟩ : ByteArray).toList = l := by
  rw [ByteArray.toList_eq]
theorem mk_data (s : ByteArray) : (⟨s.data.toList.toArray⟩ : ByteArray) = s := by cases s; rfl

theorem cells_int (k : IntKind) (x : Int) : (Value.int k x).cells.toList = [.int k x] := rfl
theorem cells_bool (x : Bool) : (Value.bool x).cells.toList = [.bool x] := rfl
theorem cells_string (x : ByteArray) : (Value.string x).cells.toList = [.string x] := rfl
theorem cells_agg (x : List Value) : (Value.agg x.toArray).cells.toList = x := rfl
theorem none_or_some {α : Type} {x : α} {p : Prop} : (some x = none ∨ p) = p := by simp
/-- A row of bytes as one array. -/
def aggB (d : List UInt8) : Value := .agg (d.map fun b => Value.int .u8 b.toNat).toArray
theorem cells_aggB (d : List UInt8) : (aggB d).cells.toList.map CV.v = bytesC d := by
  show List.map CV.v (d.map fun b => Value.int .u8 b.toNat) = _
  rw [List.map_map]; rfl
theorem exPlain_bytes (d : List UInt8) (n : Nat) : exPlain n (plain (bytesC d)) K = (d.length = n ∧ K (rv (.v (aggB d)))) := by
  rw [plain_bytesC]
  simp [exPlain, aggB]
theorem bytesC_ne {l : List UInt8} (h : l ≠ []) : ¬ bytesC l = [] := by cases l <;> simp_all [bytesC]
theorem flatten_len {l : List (List UInt8)} {n : Nat} (hl : ∀ d ∈ l, d.length = n) : l.flatten.length = l.length * n := by
  induction l with
  | nil => simp
  | cons d l ih =>
    rw [List.flatten_cons, List.length_append, hl d List.mem_cons_self, ih (fun x hx => hl x (List.mem_cons_of_mem _ hx)), List.length_cons, Nat.succ_mul]; omega
theorem flatten_at {l : List (List UInt8)} {n : Nat} (hl : ∀ d ∈ l, d.length = n) {i : Nat} (h : i < l.length) : (l.flatten.drop (i * n)).take n = l.getD i [] := by
  induction l generalizing i with
  | nil => simp at h
  | cons d l ih =>
    have hd := hl d List.mem_cons_self
    cases i with
    | zero => rw [List.flatten_cons]; simp [← hd]
    | succ i =>
      have := ih (fun x hx => hl x (List.mem_cons_of_mem _ hx)) (i := i) (by simpa using h)
      rw [List.flatten_cons, show (i + 1) * n = d.length + i * n by rw [hd, Nat.succ_mul]; omega, List.drop_append, List.drop_eq_nil_of_le (by omega)]
      simpa using this

/-! ### What an operation names -/
def orefs (l : List (Option Nat)) : List Nat := l.filterMap id
theorem orefs_nil : orefs [] = [] := rfl
theorem orefs_none (l : List (Option Nat)) : orefs (none :: l) = orefs l := rfl
theorem orefs_some (k : Nat) (l : List (Option Nat)) : orefs (some k :: l) = k :: orefs l := rfl
theorem orefs_map {G : Nat → List Value} {σ : St} (l : List Operand) : l.filterMap (fun x => refs (ev G σ x)) = orefs (l.map fun x => refs (ev G σ x)) := by
  unfold orefs; rw [List.filterMap_map]; rfl
section
variable {G : Nat → List Value} {σ : St} {d : Option Nat} {t : TypeId} {p : String} {a : Array Edge} {g : Option (Nat × Bool)}
theorem opRefs_eq {o : Oper} : opRefs G σ o = orefs (o.op.operands.toList.map fun x => refs (ev G σ x)) := orefs_map _
theorem opRefs_move {x : Operand} : opRefs G σ ⟨d, .move x, t, p, a, g⟩ = orefs [refs (ev G σ x)] := opRefs_eq
theorem opRefs_assign {x : Operand} : opRefs G σ ⟨d, .assign x, t, p, a, g⟩ = orefs [refs (ev G σ x)] := opRefs_eq
theorem opRefs_load {x : Operand} {u : TypeId} : opRefs G σ ⟨d, .load u x, t, p, a, g⟩ = orefs [refs (ev G σ x)] := opRefs_eq
theorem opRefs_un {x : Operand} {u : TypeId} {n : UnOp} : opRefs G σ ⟨d, .unOp n u x, t, p, a, g⟩ = orefs [refs (ev G σ x)] := opRefs_eq
theorem opRefs_convert {x : Operand} {u : TypeId} {v : TypeId} : opRefs G σ ⟨d, .convert u v x, t, p, a, g⟩ = orefs [refs (ev G σ x)] := opRefs_eq
theorem opRefs_array {x : Operand} {u : TypeId} : opRefs G σ ⟨d, .sliceToArrayPointer u x, t, p, a, g⟩ = orefs [refs (ev G σ x)] := opRefs_eq
theorem opRefs_fieldAddr {x : Operand} {u : TypeId} {n : Nat} : opRefs G σ ⟨d, .fieldAddr u x n, t, p, a, g⟩ = orefs [refs (ev G σ x)] := opRefs_eq
theorem opRefs_extract {x : Operand} {n : Nat} : opRefs G σ ⟨d, .extract x n, t, p, a, g⟩ = orefs [refs (ev G σ x)] := opRefs_eq
theorem opRefs_box {x : Operand} {u : TypeId} : opRefs G σ ⟨d, .box u x, t, p, a, g⟩ = orefs [refs (ev G σ x)] := opRefs_eq
theorem opRefs_pick {x y z : Operand} : opRefs G σ ⟨d, .pick x y z, t, p, a, g⟩ = orefs [refs (ev G σ x), refs (ev G σ y), refs (ev G σ z)] := opRefs_eq
theorem opRefs_store {x y : Operand} {u : TypeId} : opRefs G σ ⟨d, .store u x y, t, p, a, g⟩ = orefs [refs (ev G σ x), refs (ev G σ y)] := opRefs_eq
theorem opRefs_bin {x y : Operand} {u : TypeId} {v : TypeId} {n : BinOp} : opRefs G σ ⟨d, .binOp n u x y v, t, p, a, g⟩ = orefs [refs (ev G σ x), refs (ev G σ y)] := opRefs_eq
theorem opRefs_indexAddr {x y : Operand} {u : TypeId} : opRefs G σ ⟨d, .indexAddr u x y, t, p, a, g⟩ = orefs [refs (ev G σ x), refs (ev G σ y)] := opRefs_eq
theorem opRefs_index {x y : Operand} {u : TypeId} : opRefs G σ ⟨d, .index u x y, t, p, a, g⟩ = orefs [refs (ev G σ x), refs (ev G σ y)] := opRefs_eq
theorem opRefs_makeSlice {x y : Operand} {u : TypeId} : opRefs G σ ⟨d, .makeSlice u x y, t, p, a, g⟩ = orefs [refs (ev G σ x), refs (ev G σ y)] := opRefs_eq
theorem opRefs_alloc {u : TypeId} : opRefs G σ ⟨d, .alloc u, t, p, a, g⟩ = orefs [] := opRefs_eq
theorem opRefs_build {u : TypeId} {ps : Array (Nat × Operand)} : opRefs G σ ⟨d, .build u ps, t, p, a, g⟩ = orefs (ps.toList.map fun x => refs (ev G σ x.2)) := by
  rw [opRefs_eq]; show orefs (((ps.toList.map (·.2)).toArray).toList.map fun x => refs (ev G σ x)) = _; rw [List.toList_toArray, List.map_map]; rfl
theorem opRefs_buildSlice {u : TypeId} {n : Nat} {ps : Array (Nat × Operand)} : opRefs G σ ⟨d, .buildSlice u n ps, t, p, a, g⟩ = orefs (ps.toList.map fun x => refs (ev G σ x.2)) := by
  rw [opRefs_eq]; show orefs (((ps.toList.map (·.2)).toArray).toList.map fun x => refs (ev G σ x)) = _; rw [List.toList_toArray, List.map_map]; rfl
theorem opRefs_slice {u : TypeId} {x : Operand} {l h m : Option Operand} : opRefs G σ ⟨d, .slice u x l h m, t, p, a, g⟩ = orefs ((x :: (l.toList ++ h.toList ++ m.toList)).map fun x => refs (ev G σ x)) := by
  rw [opRefs_eq]; show orefs ((#[x] ++ l.toArray ++ h.toArray ++ m.toArray).toList.map fun x => refs (ev G σ x)) = _; simp
theorem opRefs_call {c : Call} : opRefs G σ ⟨d, .call c, t, p, a, g⟩ = orefs (c.operands.toList.map fun x => refs (ev G σ x)) := opRefs_eq
end

end Abs
end Go.Proofs.YtkdpmjgigknbpaaDoor
