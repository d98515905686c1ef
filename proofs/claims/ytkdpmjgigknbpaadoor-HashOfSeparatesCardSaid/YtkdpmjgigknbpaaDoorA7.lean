/-
  Each operation does upon worlds what 'core' says of abstract states: the operations that make or write memory.
-/
import Derived.Test.YtkdpmjgigknbpaaDoorA6
namespace Go.Proofs.YtkdpmjgigknbpaaDoor
namespace Abs
open Go.RowKit

variable {P : Program} {G : Nat → List Value} {H : Nat → Bool} {w0 w w' : World} {N : Nat} {β : Nat → Nat} {γ : Nat → Option Nat} {σ : St} {a : Act} {S : Nat → Nat → Prop} {o : Nat → Option Nat}

theorem stays_kill (d : Nat) : Stays w (Safe w0.heap.size β γ σ) (Safe w0.heap.size β γ (σ.kill d)) := fun _ _ _ hs => hs.kill d

/-- The right to append under a name is given up. -/
def St.drop (σ : St) (t : Nat) : St := { σ with o := upd σ.o t none }
theorem InvAt.drop (h : InvAt w0 N β γ σ a w) (t : Nat) : InvAt w0 N β γ (σ.drop t) a w :=
  h.weaken (fun _ _ hr => hr) (fun _ _ hb => hb) (fun t' m ht => by
    simp only [St.drop, upd] at ht
    split at ht
    · cases ht
    · exact ht)
theorem stays_drop (t : Nat) : Stays w (Safe w0.heap.size β γ σ) (Safe w0.heap.size β γ (σ.drop t)) := fun g p _ hs => hs.imp id fun ⟨h1, h2⟩ => ⟨h1, fun t' m ht => h2 t' m (by
    simp only [St.drop, upd] at ht
    split at ht
    · cases ht
    · exact ht)⟩

/-- A row of cells that reads so. -/
def RowRel (w : World) (S : Nat → Nat → Prop) (cs : List CV) (vs : List Value) : Prop := cs.length = vs.length ∧ ∀ (j : Nat) y, cs[j]? = some y → ∃ v, vs[j]? = some v ∧ CRel w S y v

theorem RowRel.nil : RowRel w S [] [] := ⟨rfl, fun j y h => by simp at h⟩
theorem RowRel.append {c1 c2 : List CV} {v1 v2 : List Value} (h1 : RowRel w S c1 v1) (h2 : RowRel w S c2 v2) : RowRel w S (c1 ++ c2) (v1 ++ v2) := by
  refine ⟨by simp [h1.1, h2.1], fun j y hy => ?_⟩
  rw [List.getElem?_append] at hy ⊢
  rw [h1.1] at hy
  split at hy
  · rw [if_pos (by assumption)]; exact h1.2 j y hy
  · rw [if_neg (by assumption)]; exact h2.2 _ y hy
theorem RowRel.take {c : List CV} {v : List Value} (h : RowRel w S c v) (k : Nat) : RowRel w S (c.take k) (v.take k) := by
  refine ⟨by simp [h.1], fun j y hy => ?_⟩
  rw [List.getElem?_take] at hy ⊢
  split at hy
  · rw [if_pos (by assumption)]; exact h.2 j y hy
  · cases hy
theorem RowRel.drop {c : List CV} {v : List Value} (h : RowRel w S c v) (k : Nat) : RowRel w S (c.drop k) (v.drop k) := by
  refine ⟨by simp [h.1], fun j y hy => ?_⟩
  rw [List.getElem?_drop] at hy ⊢
  exact h.2 _ y hy
theorem RowRel.plain (vs : List Value) : RowRel w S (vs.map .v) vs := by
  refine ⟨by simp, fun j y hy => ?_⟩
  simp only [List.getElem?_map, Option.map_eq_some_iff] at hy
  obtain ⟨v, hv, rfl⟩ := hy
  exact ⟨v, hv, rfl⟩
theorem RowRel.mono {S' : Nat → Nat → Prop} {c : List CV} {v : List Value} (hk : Keeps S w w') (hS : Stays w S S') (h : RowRel w S c v) : RowRel w' S' c v :=
  ⟨h.1, fun j y hy => let ⟨u, h1, h2⟩ := h.2 j y hy; ⟨u, h1, h2.mono hk hS⟩⟩
theorem RowRel.put {c new : List CV} {v nv : List Value} (h : RowRel w S c v) (hn : RowRel w S new nv) (off : Nat) : RowRel w S (putL c off new) (putV v off nv) := by
  unfold putL putV
  rw [hn.1]
  exact ((h.take _).append hn).append (h.drop _)
theorem RowRel.one {c : List CV} {v : List Value} (h : RowRel w S c v) (h1 : c.all CV.one = true) : ∀ u ∈ v, u.oneCell' = true := by
  intro u hu
  obtain ⟨j, hj⟩ := List.getElem?_of_mem hu
  have hjl : j < c.length := by rw [h.1]; exact (List.getElem?_eq_some_iff.1 hj).1
  obtain ⟨u', k1, k2⟩ := h.2 j c[j] (List.getElem?_eq_getElem hjl)
  rw [hj] at k1
  simp only [Option.some.injEq] at k1
  subst k1
  have := (List.all_eq_true.1 h1) c[j] (List.getElem_mem hjl)
  cases hc : c[j] with
  | v x => rw [hc] at this k2; simp only [CRel] at k2; rw [k2]; exact this
  | sl sz xs => rw [hc] at k2; obtain ⟨a, n, c, rfl, _⟩ := k2; rfl

theorem bytes_row (l : List UInt8) : RowRel w S (bytesC l) (l.map fun b => Value.int .u8 b.toNat) := by
  have e : bytesC l = (l.map fun b => Value.int .u8 b.toNat).map .v := by rw [List.map_map]; rfl
  rw [e]
  exact RowRel.plain _
theorem bytes_one : ∀ l : List UInt8, (bytesC l).all CV.one = true
  | [] => rfl
  | _ :: l => by
    have := bytes_one l
    simp only [bytesC, List.map_cons, List.all_cons] at this ⊢
    rw [this]
    rfl

theorem cellsAV_rel {x : AV} {u : Value} {cs : List CV} (hx : Rel w S β γ o x u) (hc : cellsAV x = some cs) : RowRel w S cs u.cells.toList := by
  unfold cellsAV at hc
  split at hc
  · simp only [Option.some.injEq] at hc
    subst hc
    simp only [Rel] at hx
    subst hx
    exact RowRel.plain _
  · rename_i tag sz xs
    simp only [Option.map_eq_some_iff] at hc
    obtain ⟨ys, h1, rfl⟩ := hc
    obtain ⟨ad, n, c, rfl, h2, h3, h4, h5, _⟩ := hx
    refine ⟨rfl, fun j y hy => ?_⟩
    match j, hy with
    | 0, hy =>
      simp only [List.getElem?_cons_zero, Option.some.injEq] at hy
      subst hy
      have e := plain_some h1
      refine ⟨.slice ad n c, rfl, ad, n, c, rfl, h2, by rw [← h3, e, List.length_map], h4, fun ad' ha j x hx => ?_⟩
      obtain ⟨u, k1, k2, k3⟩ := h5 ad' ha j (.v x) (by rw [e]; simp [hx])
      simp only [CRel] at k2
      subst k2
      exact ⟨k1, k3⟩
    | j + 1, hy => simp at hy
  · cases hc

/-! ### A variable is made -/

theorem InvAt.step_box (h : InvAt w0 N β γ σ a w) {d : Nat} (hd : d < N) (hb : Below w.heap.size w w') {g : Nat} (hg : w.heap.size ≤ g) {cs : List CV} {cur : Array Value} {e : TypeId}
    (hh : w'.heap[g]? = some (.cells cur e (0, 0))) (hr : RowRel w (Safe w0.heap.size β γ σ) cs cur.toList) :
    Inv w0 N (σ.step (some d) ⟨.bp d 0, some (d, cs), [], true⟩) (a.put (some d) (.pointer (some ⟨g, 0, none⟩))) w' := by
  have h1 := h.kill d
  obtain ⟨h2, _, _⟩ := h1.newBox (free_kill d σ) hb hg (cs := cs) ⟨cur, e, hh, by rw [hr.1]; simp, fun j x hx => by
    obtain ⟨u, k1, k2⟩ := hr.2 j x hx
    exact ⟨u, by simpa using k1, k2.mono (Keeps.refl _ w) (stays_kill d)⟩⟩
  exact ⟨_, _, h2.put hd (x := .bp d 0) (by simp only [Rel, upd_same])⟩

theorem heap_alloc_new' (w : World) (o : Obj) : (w.alloc o).heap[w.heap.size]? = some o := heap_alloc_new w o

theorem zCells_some {t : TypeId} {z : List Value} (h : zCells P t = some z) : ∃ i u, P.info? t = some i ∧ i.zero = some u ∧ z = u.cells.toList := by
  unfold zCells at h
  cases hi : P.info? t with
  | none => rw [hi] at h; cases h
  | some i =>
    rw [hi] at h
    simp only [Option.bind_some, Option.map_eq_some_iff] at h
    obtain ⟨u, h1, rfl⟩ := h
    exact ⟨i, u, rfl, h1, rfl⟩

theorem run_newRow (e : TypeId) (cs : Array Value) : (newRow e cs).run P w = .ok ⟨w.heap.size, 0, none⟩ (w.alloc (.cells cs e)) := by simp [newRow, newObj, Sem.run]

theorem step_alloc (h : InvAt w0 N β γ σ a w) {t d : Nat} (hd : d < N) {z : List Value} (hz : zCells P t = some z) :
    ∃ v w', (Instr.alloc t true (.tuple #[])).run P w = .ok v w' ∧ Inv w0 N (σ.step (some d) ⟨.bp d 0, some (d, z.map .v), [], true⟩) (a.put (some d) v) w' := by
  obtain ⟨i, u, h1, h2, rfl⟩ := zCells_some hz
  refine ⟨_, _, ?_, h.step_box hd (Below.of_alloc w (.cells u.cells t)) (Nat.le_refl _) (heap_alloc_new' w _) (RowRel.plain _)⟩
  simp [Instr.alloc, zeroValue, typeInfo, h1, h2, newVar, run_newRow]

theorem step_boxv (h : InvAt w0 N β γ σ a w) {t d : Nat} (hd : d < N) {x : AV} {u : Value} {cs : List CV} (hx : Rel w (Safe w0.heap.size β γ σ) β γ σ.o x u) (hc : cellsAV x = some cs) :
    ∃ v w', (Instr.box t u).run P w = .ok v w' ∧ Inv w0 N (σ.step (some d) ⟨.bp d 0, some (d, cs), [], true⟩) (a.put (some d) v) w' := by
  refine ⟨_, _, ?_, h.step_box hd (Below.of_alloc w (.cells u.cells t)) (Nat.le_refl _) (heap_alloc_new' w _) (cellsAV_rel hx hc)⟩
  simp [Instr.box, newVar, run_newRow]

/-! ### A variable is written -/

theorem setRow_below {g : Nat} {cs : Array Value} {B : Nat} (h : B ≤ g) : Below B w (w.setRow g cs) :=
  ⟨rfl, rfl, rfl, by simp [World.setRow], fun k hk => setRow_other w g k cs (by omega)⟩

theorem step_putBox (h : InvAt w0 N β γ σ a w) {k : Nat} {cs new : List CV} {nv : List Value} {off : Nat} (hb : σ.b k = some cs) (hn : RowRel w (Safe w0.heap.size β γ σ) new nv) (h1 : new.all CV.one = true) (hfit : off + new.length ≤ cs.length) :
    ∃ w', (storeCells ⟨β k, off, none⟩ nv).run P w = .ok () w' ∧ InvAt w0 N β γ { σ with b := upd σ.b k (some (putL cs off new)) } a w' ∧ (∀ g, g ≠ β k → w'.heap[g]? = w.heap[g]?) := by
  obtain ⟨hge, cur, e, c1, c2, c3⟩ := h.box k cs hb
  have hnl : nv.length = new.length := hn.1.symm
  have hfit' : off + nv.length ≤ cur.size := by omega
  have hst := run_storeCells_at P (β k) off e nv 0 cur w c1 (by omega) (hn.one h1)
  refine ⟨_, hst, ?_, fun g hg => setRow_other w (β k) g _ hg⟩
  refine h.storeBox hb (setRow_below hge) (fun g hg => setRow_other w (β k) g _ hg) ⟨_, e, setRow_heap w (β k) cur _ e _ c1, ?_, fun j x hx => ?_⟩
  · have : (putL cs off new).length = cs.length := by simp only [putL, List.length_append, List.length_take, List.length_drop]; omega
    simp only [this, Nat.add_zero, List.size_toArray, List.length_append, List.length_take, List.length_drop, Array.length_toList]
    omega
  · simp only [Nat.add_zero, List.getElem?_toArray]
    simp only [putL] at hx
    rw [List.append_assoc] at hx ⊢
    rw [List.getElem?_append] at hx ⊢
    have e1 : (cs.take off).length = off := by rw [List.length_take]; omega
    have e2 : (cur.toList.take off).length = off := by rw [List.length_take, Array.length_toList]; omega
    rw [e1] at hx
    rw [e2]
    split at hx
    · rename_i hj
      rw [if_pos hj]
      rw [List.getElem?_take, if_pos hj] at hx ⊢
      obtain ⟨u, k1, k2⟩ := c3 j x hx
      exact ⟨u, by simpa using k1, k2⟩
    · rename_i hj
      rw [if_neg hj]
      rw [List.getElem?_append] at hx ⊢
      rw [hnl]
      split at hx
      · rename_i hj2
        rw [if_pos hj2]
        exact hn.2 _ x hx
      · rename_i hj2
        rw [if_neg hj2]
        rw [List.getElem?_drop] at hx ⊢
        obtain ⟨u, k1, k2⟩ := c3 _ x hx
        exact ⟨u, by simpa using k1, k2⟩

theorem step_store (h : InvAt w0 N β γ σ a w) {t : TypeId} {x y : AV} {u v : Value} {r : Res} (hx : Rel w (Safe w0.heap.size β γ σ) β γ σ.o x u) (hy : Rel w (Safe w0.heap.size β γ σ) β γ σ.o y v)
    (hc : storeR P t σ x y r) : ∃ w', (Instr.storeAt t v u).run P w = .ok () w' ∧ Inv w0 N (σ.step none r) (a.put none undef) w' := by
  unfold storeR at hc
  split at hc
  · rename_i k off
    obtain ⟨cs, new, n, h1, h2, h3, h4, h5, h6, rfl⟩ := hc
    simp only [Rel] at hy
    subst hy
    have hr := cellsAV_rel hx h2
    obtain ⟨w', k1, k2, _⟩ := step_putBox (P := P) h (off := off) h1 hr h5 (by omega)
    refine ⟨w', ?_, ⟨β, γ, k2⟩⟩
    simp only [szOf, Option.map_eq_some_iff] at h3
    obtain ⟨i, i1, i2⟩ := h3
    have hsz : u.cells.size = n := by have := hr.1; simp only [Array.length_toList] at this; omega
    simp [Instr.storeAt, Instr.sureAddr, storeVar, sizeOf, typeInfo, i1, i2, hsz, k1]
  · exact hc.elim

theorem step_copy (h : InvAt w0 N β γ σ a w) {dst : Option Nat} (hd : ∀ d, dst = some d → d < N) {t u : TypeId} {x y : AV} {p q : Value} {r : Res} (hx : Rel w (Safe w0.heap.size β γ σ) β γ σ.o x p) (hy : Rel w (Safe w0.heap.size β γ σ) β γ σ.o y q)
    (hc : copyR σ (slEl P t) x y r) (ty : TypeId) : ∃ v w', (Builtin.copy_ #[t, u] ty #[p, q]).run P w = .ok v w' ∧ Inv w0 N (σ.step dst r) (a.put dst v) w' := by
  unfold copyR at hc
  split at hc
  · rename_i k off len s
    obtain ⟨cs, b, h1, h2, h3, rfl⟩ := hc
    obtain ⟨e, i, i1, i2, i3, _⟩ := slEl_some h1
    obtain ⟨c, rfl, h4⟩ := hx
    simp only [Rel] at hy
    subst hy
    have hlen : (s.data.toList.take len).length = min s.size len := by rw [List.length_take]; simp [Nat.min_comm]
    have hn := bytes_row (w := w) (S := Safe w0.heap.size β γ σ) (s.data.toList.take len)
    have h1' := bytes_one (s.data.toList.take len)
    obtain ⟨w', k1, k2, _⟩ := step_putBox (P := P) h (off := off) h2 hn h1' (by simp only [bytesC, List.length_map, hlen]; omega)
    refine ⟨.int .i64 (min s.size len : Nat), w', ?_, ?_⟩
    · have hf : (Builtin.firstCells i.size (Nat.min s.size len) (.string s)).run P w = .ok ((s.data.toList.take len).map fun b => Value.int .u8 b.toNat).toArray w := by
        simp only [Builtin.firstCells, Sem.run_pure]
        congr 1
        apply Array.ext'
        simp only [Array.toList_map]
        congr 1
        have : (s.extract 0 (Nat.min s.size len)).data.toList = s.data.toList.take (Nat.min s.size len) := by simp [ByteArray.data_extract]
        rw [this]
        rw [show Nat.min s.size len = min len s.size from Nat.min_comm _ _]
        apply List.ext_getElem?
        intro j
        rw [List.getElem?_take, List.getElem?_take]
        by_cases hj : j < len
        · by_cases hj2 : j < s.size
          · simp [hj, hj2, Nat.lt_min]
          · simp [hj, hj2, Nat.lt_min]
        · simp [hj, Nat.lt_min]
      generalize (s.data.toList.take len).map (fun b => Value.int .u8 b.toNat) = nv at hf k1
      have hf' : (Builtin.firstCells i.size (s.size.min len) (.string s)).run P w = .ok nv.toArray w := hf
      simp [Builtin.copy_, run_underlying i1, Builtin.lenOf, sizeOf, typeInfo, i2, hf', k1, goInt]
    · have := k2
      cases dst with
      | none => exact ⟨β, γ, k2⟩
      | some d => exact ⟨β, γ, k2.put (hd d rfl) (x := .v (.int .i64 (min s.size len : Nat))) rfl⟩
  · exact hc.elim

end Abs
end Go.Proofs.YtkdpmjgigknbpaaDoor
