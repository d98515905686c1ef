/-
  Each operation does upon worlds what 'core' says of abstract states: the operations that only read.
-/
import Derived.Test.YtkdpmjgigknbpaaDoorA3
import Derived.ChangeKeysEq
import Derived.Laws.StructEq
import Derived.Laws.BytesString
import Derived.Laws.IdiomStrings
import Derived.Laws.BytesArg
import Derived.Laws.CopyRow
namespace Go.Proofs.YtkdpmjgigknbpaaDoor
namespace Abs
open Go.RowKit

/-- What an operation is good for: it yields a value, or calls a function that returns one. -/
def EffR (P : Program) (R : Value → World → Prop) : Result Next → Prop
  | .ok (.value v) w' => R v w'
  | .ok .skip w' => R undef w'
  | .ok (.enter f args) w' => Calls P f args w' fun e w'' => ∃ v, e = .returned v ∧ R v w''
  | _ => False
def Eff (P : Program) (o : Oper) (a : Act) (w : World) (R : Value → World → Prop) : Prop := EffR P R ((execOp a.eval o).run P w)

variable {P : Program} {G : Nat → List Value} {H : Nat → Bool} {w0 w w' : World} {N : Nat} {β : Nat → Nat} {γ : Nat → Option Nat} {σ : St} {a : Act}

theorem eff_value {o : Oper} {R : Value → World → Prop} {v : Value} (hr : (execOp a.eval o).run P w = .ok (.value v) w') (h : R v w') : Eff P o a w R := by
  unfold Eff; rw [hr]; exact h

theorem InvAt.inv (h : InvAt w0 N β γ σ a w) : Inv w0 N σ a w := ⟨β, γ, h⟩

theorem InvAt.pure (h : InvAt w0 N β γ σ a w) {dst : Option Nat} (hd : ∀ d, dst = some d → d < N) {x : AV} {v : Value} (hx : Rel w (Safe w0.heap.size β γ σ) β γ σ.o x v) :
    Inv w0 N (σ.step dst (rv x)) (a.put dst v) w := by
  cases dst with
  | none => exact ⟨β, γ, h⟩
  | some d => exact ⟨β, γ, h.put (hd d rfl) hx⟩

/-- A yielded value, nothing else. -/
theorem eff_pure {o : Oper} (h : InvAt w0 N β γ σ a w) (hd : ∀ d, o.dst = some d → d < N) {x : AV} {v : Value} (hr : (execOp a.eval o).run P w = .ok (.value v) w)
    (hx : Rel w (Safe w0.heap.size β γ σ) β γ σ.o x v) : Eff P o a w fun v w' => Inv w0 N (σ.step o.dst (rv x)) (a.put o.dst v) w' :=
  eff_value hr (h.pure hd hx)

theorem ev_rel (hG : GlobOK G w0) (h : InvAt w0 N β γ σ a w) (x : Operand) : Rel w (Safe w0.heap.size β γ σ) β γ σ.o (ev G σ x) (a.eval x) := by
  cases x with
  | tmp t => exact h.slots t
  | const v => rfl
  | func f => rfl
  | global g =>
    refine ⟨⟨g, 0, none⟩, rfl, fun j x hx => ?_⟩
    simp only [List.getElem?_map, Option.map_eq_some_iff] at hx
    obtain ⟨y, hy, rfl⟩ := hx
    have hc := hG g j y hy
    have hlt := cell_lt hc
    refine ⟨y, ?_, rfl, .inl hlt⟩
    rw [add_plain, Nat.zero_add, h.below.cell (p := ⟨g, j, none⟩) hlt]
    exact hc

/-! ### Values -/

theorem run_shift {op : BinOp} {k yk : IntKind} {x y : Int} {z : Value} (h : shV op k x y = some z) : (Op.shift op k x yk y).run P w = .ok z w := by
  unfold shV at h
  unfold Op.shift
  by_cases hy : y < 0
  · simp [hy] at h
  · rw [if_neg hy] at h ⊢
    cases op <;> simp at h <;> subst h <;> rfl

theorem run_int {op : BinOp} {k : IntKind} {x y : Int} {z : Value} (t : TypeId) (hs : isShift op = false) (h : intV op k x y = some z) : (binOp op t (.int k x) (.int k y)).run P w = .ok z w := by
  cases op <;> simp [isShift] at hs <;> simp [intV] at h
  case quo => obtain ⟨h0, rfl⟩ := h; simp [binOp, Op.intDiv, h0]
  case rem => obtain ⟨h0, rfl⟩ := h; simp [binOp, Op.intDiv, h0]
  case and => subst h; simp [binOp]; rfl
  case or => subst h; simp [binOp]; rfl
  case xor => subst h; simp [binOp]; rfl
  all_goals (subst h; simp [binOp, Op.intArith, Op.intCmp])

theorem run_str {op : BinOp} {x y : ByteArray} {z : Value} (t : TypeId) (h : strV op x y = some z) : (binOp op t (.string x) (.string y)).run P w = .ok z w := by
  cases op <;> simp [strV] at h
  case add =>
    obtain ⟨h0, rfl⟩ := h
    have : ¬ (((x.size + y.size : Nat) : Int) > IntKind.i64.max) := by rw [IntKind.max_i64]; omega
    simp only [binOp, Op.stringOp]
    rw [if_neg this]
    rfl
  all_goals (subst h; simp [binOp, Op.stringOp])

theorem intsOf_some {k : IntKind} : ∀ {vs : List Value} {l : List Int}, intsOf k vs = some l → vs = l.map (Value.int k)
  | [], l, h => by simp [intsOf] at h; subst h; rfl
  | .int k' n :: r, l, h => by
    simp only [intsOf] at h
    split at h
    · rename_i hk
      subst hk
      cases hr : intsOf k' r with
      | none => rw [hr] at h; simp at h
      | some m => rw [hr] at h; simp at h; subst h; rw [intsOf_some hr]; rfl
    · cases h
  | .bool _ :: _, _, h | .float _ _ :: _, _, h | .complex _ _ _ :: _, _, h | .string _ :: _, _, h | .pointer _ :: _, _, h | .slice _ _ _ :: _, _, h | .map _ :: _, _, h | .chan _ :: _, _, h
  | .func _ _ _ :: _, _, h | .nilFunc :: _, _, h | .iface _ _ :: _, _, h | .nilIface :: _, _, h | .agg _ :: _, _, h | .tuple _ :: _, _, h => by simp [intsOf] at h

theorem run_eqItems_ints (d : Nat) {e : TypeId} {k : IntKind} (he : P.underlying e = some (.int k)) (l m : List Int) :
    ∀ (n i : Nat), i + n ≤ l.length → i + n ≤ m.length →
      (Op.eqItems (d + 1) e 1 (l.map (Value.int k)).toArray (m.map (Value.int k)).toArray (List.range' i n)).run P w = .ok (((l.drop i).take n) == ((m.drop i).take n)) w
  | 0, i, _, _ => by simp [Op.eqItems]
  | n + 1, i, hl, hm => by
    have ih := run_eqItems_ints d he l m n (i + 1) (by omega) (by omega)
    have hp : ∀ (l : List Int), i < l.length → (part e (l.map (Value.int k)).toArray (i * 1)).run P w = .ok (.int k (l[i]?.getD 0)) w := fun l hil => by
      simp [part, isAgg, run_underlying he, hil]
    rw [List.range'_succ]
    simp only [Op.eqItems, Sem.run_bind, hp l (by omega), hp m (by omega), Result.andThen_ok, run_equalIn_int w d e k k _ _ he]
    have e1 : (l.drop i).take (n + 1) = (l[i]?.getD 0) :: ((l.drop (i + 1)).take n) := by
      rw [List.drop_eq_getElem_cons (show i < l.length by omega), List.take_succ_cons]; simp [show i < l.length by omega]
    have e2 : (m.drop i).take (n + 1) = (m[i]?.getD 0) :: ((m.drop (i + 1)).take n) := by
      rw [List.drop_eq_getElem_cons (show i < m.length by omega), List.take_succ_cons]; simp [show i < m.length by omega]
    rw [e1, e2]
    cases hb : (l[i]?.getD 0 == m[i]?.getD 0)
    · simp [List.cons_beq_cons, hb]
    · simp only [List.cons_beq_cons, hb, Bool.true_and, Bool.not_true, Bool.false_eq_true, if_false]
      exact ih

theorem arInt_some {t : TypeId} {n : Nat} {k : IntKind} (h : arInt P t = some (n, k)) : ∃ e i, P.underlying t = some (.array n e) ∧ P.underlying e = some (.int k) ∧ P.info? e = some i ∧ i.size = 1 ∧ P.eqGuardType P.depth t = false := by
  unfold arInt at h
  split at h
  · rename_i n' e hu
    split at h
    · rename_i k' hk hs
      split at h
      · cases h
      · rename_i hg
        simp only [Option.some.injEq, Prod.mk.injEq] at h
        obtain ⟨rfl, rfl⟩ := h
        cases hi : P.info? e with
        | none => rw [hi] at hs; cases hs
        | some i => rw [hi] at hs; exact ⟨e, i, hu, hk, hi, by simpa using hs, by simpa using hg⟩
    · cases h
  · cases h

theorem run_aggEq {t : TypeId} {xs ys : Array Value} {b : Bool} (h : aggEq P t xs ys = some b) (x y : Operand) (op : BinOp) :
    (eqGuard op t x y (.agg xs) (.agg ys)).run P w = .ok () w ∧ (Op.equalIn 10000 t (.agg xs) (.agg ys)).run P w = .ok b w := by
  unfold aggEq at h
  split at h
  · rename_i n k ha
    obtain ⟨e, i, h1, h2, h3, h4, h5⟩ := arInt_some ha
    split at h
    · rename_i l m hl hm
      split at h
      · rename_i hlen
        simp only [Option.some.injEq] at h
        refine ⟨run_eqGuard_agg w op t x y xs ys h5, ?_⟩
        have hx : xs = (l.map (Value.int k)).toArray := by rw [← intsOf_some hl]
        have hy : ys = (m.map (Value.int k)).toArray := by rw [← intsOf_some hm]
        have hc : P.cellsOf e = 1 := by simp [Program.cellsOf, h3, h4]
        rw [run_equalIn_array w 9999 xs ys h1 h3, hc, hx, hy, List.range_eq_range', run_eqItems_ints 9998 h2 l m n 0 (by omega) (by omega), ← h]
        simp [List.take_of_length_le, hlen.1, hlen.2]
      · cases h
    · cases h
  · cases h

theorem eqGuard_int (op : BinOp) (t : TypeId) (x y : Operand) (k k' : IntKind) (m n : Int) : (eqGuard op t x y (.int k m) (.int k' n)).run P w = .ok () w := by
  cases op <;> simp [eqGuard]
theorem eqGuard_string (op : BinOp) (t : TypeId) (x y : Operand) (m n : ByteArray) : (eqGuard op t x y (.string m) (.string n)).run P w = .ok () w := by
  cases op <;> simp [eqGuard]
theorem eqGuard_bool (op : BinOp) (t : TypeId) (x y : Operand) (m n : Bool) : (eqGuard op t x y (.bool m) (.bool n)).run P w = .ok () w := by
  cases op <;> simp [eqGuard]
theorem eqGuard_slice (op : BinOp) (t : TypeId) (x y : Operand) (a b : Option Addr) (n m c d : Nat) : (eqGuard op t x y (.slice a n c) (.slice b m d)).run P w = .ok () w := by
  cases op <;> simp [eqGuard]

theorem run_bin {op : BinOp} {t : TypeId} {u v z : Value} (h : binV P op t u v = some z) (x y : Operand) :
    (eqGuard op t x y u v).run P w = .ok () w ∧ (binOp op t u v).run P w = .ok z w := by
  unfold binV at h
  split at h
  · rename_i k m k' n
    refine ⟨eqGuard_int .., ?_⟩
    split at h
    · rename_i hs
      cases op <;> simp [isShift] at hs <;> exact run_shift (yk := k') h
    · rename_i hs
      split at h
      · rename_i hk
        subst hk
        exact run_int t (by simpa using hs) h
      · cases h
  · exact ⟨eqGuard_string .., run_str t h⟩
  · rename_i m n
    split at h
    · rename_i hb
      refine ⟨eqGuard_bool .., ?_⟩
      have hu : P.underlying t = some .bool := by unfold isBoolT at hb; split at hb <;> simp_all
      split at h <;> simp at h <;> subst h <;> simp [binOp, Op.equal, Op.maxDepth, run_equalIn_bool _ _ _ _ _ hu, bne]
    · cases h
  · rename_i xs ys
    split at h
    · simp only [Option.map_eq_some_iff] at h
      obtain ⟨b, hb, rfl⟩ := h
      obtain ⟨h1, h2⟩ := run_aggEq (w := w) hb x y .eql
      exact ⟨h1, by rw [run_eql_struct, h2]; rfl⟩
    · simp only [Option.map_eq_some_iff] at h
      obtain ⟨b, hb, rfl⟩ := h
      obtain ⟨h1, h2⟩ := run_aggEq (w := w) hb x y .neq
      exact ⟨h1, by rw [run_neq_struct, h2]; rfl⟩
    · cases h
  · cases h

theorem run_un {op : UnOp} {u z : Value} (h : unV op u = some z) : (Op.unary op u).run P w = .ok z w := by
  unfold unV at h
  split at h
  · cases op <;> simp at h <;> subst h
    · simp [Op.unary, Op.intArith]
    · simp only [Op.unary]; rfl
  · cases op <;> simp at h
    subst h; simp [Op.unary]
  · cases h

end Abs
end Go.Proofs.YtkdpmjgigknbpaaDoor
