/-
  A region that draws its order, upon abstract states: one walk in the text's order serves every order, if operations that no edge orders leave each other alone.
-/
import Derived.Test.YtkdpmjgigknbpaaDoorA12
import Derived.Orders
import Derived.Still
namespace Go.Proofs.YtkdpmjgigknbpaaDoor
namespace Abs
open Go.RowKit
set_option linter.unusedSimpArgs false

variable {P : Program} {G : Nat → List Value} {H : Nat → Bool} {w0 w w' : World} {N : Nat} {β : Nat → Nat} {γ : Nat → Option Nat} {σ σ' : St} {a : Act}

def noAssign : Op → Op
  | .assign x => .move x
  | op => op
def isSite : Op → Bool
  | .alloc _ | .box _ _ | .buildSlice _ _ _ | .makeSlice _ _ _ | .call _ => true
  | _ => false

def dcore (P : Program) (G : Nat → List Value) (H : Nat → Bool) (σ : St) (o : Oper) (r : Res) : Prop := core P G H σ o.dst o.type (noAssign o.op) r

def opRefs (G : Nat → List Value) (σ : St) (o : Oper) : List Nat := o.op.operands.toList.filterMap fun x => refs (ev G σ x)
def resKeys (r : Res) : List Nat := r.bu.toList.map (·.1) ++ r.ou.map (·.1)
def footOK (G : Nat → List Value) (F : List Nat × List Nat) (σ : St) (o : Oper) (r : Res) : Prop :=
  (opRefs G σ o).all (F.1.contains ·) = true ∧ (resKeys r).all (F.2.contains ·) = true
def memIndep (F F' : List Nat × List Nat) : Bool :=
  F.2.all (fun k => !F'.1.contains k && !F'.2.contains k) && F.1.all fun k => !F'.2.contains k

/-- What an operation reads of the state. -/
structure Same (G : Nat → List Value) (op : Op) (σ σ' : St) : Prop where
  e : ∀ x, x ∈ op.operands → ev G σ' x = ev G σ x
  b : ∀ x, x ∈ op.operands → ∀ k, refs (ev G σ x) = some k → σ'.b k = σ.b k ∧ σ'.o k = σ.o k

theorem argOf_same {x : AV} (h : ∀ k, refs x = some k → σ'.b k = σ.b k ∧ σ'.o k = σ.o k) : argOf σ' x = argOf σ x := by
  unfold argOf
  cases x <;> simp only
  case bp k off => rw [(h k rfl).1]
  case bs k off len => rw [(h k rfl).1]
theorem argsOf_same : ∀ {l : List AV}, (∀ x ∈ l, ∀ k, refs x = some k → σ'.b k = σ.b k ∧ σ'.o k = σ.o k) → argsOf σ' l = argsOf σ l
  | [], _ => rfl
  | x :: l, h => by
    simp only [argsOf]
    rw [argOf_same (h x List.mem_cons_self), argsOf_same fun y hy => h y (List.mem_cons_of_mem _ hy)]

theorem map_ev {l : List Operand} (h : ∀ x ∈ l, ev G σ' x = ev G σ x) : l.map (ev G σ') = l.map (ev G σ) := List.map_congr_left h
theorem map_ev2 {l : List (Nat × Operand)} (h : ∀ x ∈ l, ev G σ' x.2 = ev G σ x.2) : l.map (fun p => (p.1, ev G σ' p.2)) = l.map fun p => (p.1, ev G σ p.2) := List.map_congr_left fun x hx => by rw [h x hx]
theorem omap_ev {l : Option Operand} (h : ∀ x, l = some x → ev G σ' x = ev G σ x) : l.map (ev G σ') = l.map (ev G σ) := by
  cases l with
  | none => rfl
  | some x => simp only [Option.map_some]; rw [h x rfl]

theorem convR_same {c : Option Cvt} {x : AV} {r : Res} (h : ∀ k, refs x = some k → σ'.b k = σ.b k ∧ σ'.o k = σ.o k) (hc : convR σ c x r) : convR σ' c x r := by
  unfold convR at hc ⊢
  split at hc
  · exact hc
  · exact hc
  · rename_i tag sz xs
    rcases hc with hc | ⟨t, m, h1, rfl, h3, h4⟩
    · exact .inl hc
    · exact .inr ⟨t, m, h1, rfl, (h t rfl).2.trans h3, h4⟩
  · exact hc.elim
theorem core_same {dst : Option Nat} {ty : TypeId} {op : Op} {r : Res} (hs : Same G op σ σ') (hop : ∀ x, op ≠ .assign x) (hc : core P G H σ dst ty op r) : core P G H σ' dst ty op r := by
  have he := hs.e
  have hb := hs.b
  cases op with
  | move x => simp only [core] at hc ⊢; rw [he x (by simp [Op.operands])]; exact hc
  | assign x => exact absurd rfl (hop x)
  | pick c x y =>
    simp only [core] at hc ⊢
    rw [he c (by simp [Op.operands]), he x (by simp [Op.operands]), he y (by simp [Op.operands])]; exact hc
  | alloc t => exact hc
  | box t x => simp only [core] at hc ⊢; rw [he x (by simp [Op.operands])]; exact hc
  | build t ps =>
    simp only [core] at hc ⊢
    rw [map_ev2 fun x hx => he x.2 (by simp only [Op.operands, List.mem_toArray, List.mem_map]; exact ⟨x, hx, rfl⟩)]; exact hc
  | buildSlice t n ps =>
    simp only [core] at hc ⊢
    rw [map_ev2 fun x hx => he x.2 (by simp only [Op.operands, List.mem_toArray, List.mem_map]; exact ⟨x, hx, rfl⟩)]; exact hc
  | load t x =>
    simp only [core] at hc ⊢
    have h1 := hb x (by simp [Op.operands])
    rw [he x (by simp [Op.operands])]
    unfold loadR at hc ⊢
    split at hc
    · exact hc
    · rename_i k off hx
      rw [hx] at h1
      rw [(h1 k rfl).1]; exact hc
    · exact hc.elim
  | store t x y =>
    simp only [core] at hc ⊢
    have h1 := hb x (by simp [Op.operands])
    rw [he x (by simp [Op.operands]), he y (by simp [Op.operands])]
    obtain ⟨h0, hc⟩ := hc
    refine ⟨h0, ?_⟩
    unfold storeR at hc ⊢
    split at hc
    · rename_i k off hx
      rw [hx] at h1
      rw [(h1 k rfl).1]; exact hc
    · exact hc.elim
  | binOp op t x y yt => simp only [core] at hc ⊢; rw [he x (by simp [Op.operands]), he y (by simp [Op.operands])]; exact hc
  | unOp op t x => simp only [core] at hc ⊢; rw [he x (by simp [Op.operands])]; exact hc
  | convert s t x => simp only [core] at hc ⊢; rw [he x (by simp [Op.operands])]; exact convR_same (hb x (by simp [Op.operands])) hc
  | sliceToArrayPointer t x => simp only [core] at hc ⊢; rw [he x (by simp [Op.operands])]; exact hc
  | makeFunc f xs cs =>
    simp only [core] at hc ⊢
    rw [map_ev fun x hx => he x (by simp only [Op.operands, Array.mem_append]; exact .inl (Array.mem_toList_iff.1 hx)), map_ev fun x hx => he x (by simp only [Op.operands, Array.mem_append]; exact .inr (Array.mem_toList_iff.1 hx))]; exact hc
  | makeSlice t x y => simp only [core] at hc ⊢; rw [he x (by simp [Op.operands]), he y (by simp [Op.operands])]; exact hc
  | slice t x lo hi mx =>
    simp only [core] at hc ⊢
    rw [he x (by simp [Op.operands]), omap_ev fun y hy => he y (by subst hy; simp [Op.operands]), omap_ev fun y hy => he y (by subst hy; simp [Op.operands]), omap_ev fun y hy => he y (by subst hy; simp [Op.operands])]; exact hc
  | fieldAddr t x f => simp only [core] at hc ⊢; rw [he x (by simp [Op.operands])]; exact hc
  | indexAddr t x i => simp only [core] at hc ⊢; rw [he x (by simp [Op.operands]), he i (by simp [Op.operands])]; exact hc
  | index t x i => simp only [core] at hc ⊢; rw [he x (by simp [Op.operands]), he i (by simp [Op.operands])]; exact hc
  | extract x i => simp only [core] at hc ⊢; rw [he x (by simp [Op.operands])]; exact hc
  | call c =>
    obtain ⟨callee, args, argTypes⟩ := c
    have hargs : ∀ x ∈ args.toList, x ∈ (Op.call ⟨callee, args, argTypes⟩).operands := fun x hx => by
      simp only [Op.operands, Call.operands, Array.mem_append]; exact .inr (Array.mem_toList_iff.1 hx)
    cases callee with
    | value f =>
      have hf : f ∈ (Op.call ⟨.value f, args, argTypes⟩).operands := by simp [Op.operands, Call.operands]
      simp only [core] at hc ⊢
      rw [map_ev fun x hx => he x (hargs x hx), he f hf]
      have hA : ∀ x ∈ args.toList.map (ev G σ), ∀ k, refs x = some k → σ'.b k = σ.b k ∧ σ'.o k = σ.o k := fun x hx => by
        obtain ⟨y, hy, rfl⟩ := List.mem_map.1 hx
        exact hb y (hargs y hy)
      unfold callR at hc ⊢
      split at hc
      · rw [argsOf_same hA]; exact hc
      · rename_i fid k hfv
        rw [argsOf_same fun x hx => by
          rcases List.mem_append.1 hx with hx | hx
          · exact hA x hx
          · simp only [List.mem_singleton] at hx
            subst hx
            exact fun k' hk' => hb f hf k' (by rw [hfv]; exact hk')]
        exact hc
      · exact hc.elim
    | invoke x m => exact hc.elim
    | builtin b =>
      cases b with
      | len =>
        simp only [core] at hc ⊢
        split at hc
        · rename_i x t h1 h2
          rw [he x (hargs x (by rw [h1]; simp))]; exact hc
        · exact hc.elim
      | append =>
        simp only [core] at hc ⊢
        split at hc
        · rename_i x y t u h1 h2
          have hx := hb x (hargs x (by rw [h1]; simp))
          rw [he x (hargs x (by rw [h1]; simp)), he y (hargs y (by rw [h1]; simp))]
          obtain ⟨h0, hc⟩ := hc
          refine ⟨h0, ?_⟩
          unfold appendR at hc ⊢
          split at hc
          · rename_i t' sz xs hxv
            rw [hxv] at hx
            rw [(hx t' rfl).2]; exact hc
          · exact hc
          · exact hc
          · exact hc
          · exact hc.elim
        · exact hc.elim
      | copy =>
        simp only [core] at hc ⊢
        split at hc
        · rename_i x y t u h1 h2
          have hx := hb x (hargs x (by rw [h1]; simp))
          rw [he x (hargs x (by rw [h1]; simp)), he y (hargs y (by rw [h1]; simp))]
          unfold copyR at hc ⊢
          split at hc
          · rename_i k off len s hxv hyv
            rw [hxv] at hx
            rw [(hx k rfl).1]; exact hc
          · exact hc.elim
        · exact hc.elim
      | min => simp only [core] at hc ⊢; rw [map_ev fun x hx => he x (hargs x hx)]; exact hc
      | max => simp only [core] at hc ⊢; rw [map_ev fun x hx => he x (hargs x hx)]; exact hc
      | _ => exact hc.elim
  | _ => exact hc.elim

theorem ofCV_refs (x : CV) : refs (ofCV x) = none := by cases x <;> rfl

/-- Names that an operation's effect bears come from its operands, or are its own. -/
theorem core_refs {dst : Option Nat} {ty : TypeId} {op : Op} {r : Res} {d : Nat} (hx : ∀ i, refs (σ.s i) ≠ some d) (hdst : dst ≠ some d) (hop : ∀ x, op ≠ .assign x) (hc : core P G H σ dst ty op r) :
    refs r.val ≠ some d ∧ ∀ k ∈ resKeys r, k ≠ d := by
  have he : ∀ x, refs (ev G σ x) ≠ some d := fun x => by cases x <;> simp [ev, refs, hx]
  have triv : ∀ x, refs x ≠ some d → refs (rv x).val ≠ some d ∧ ∀ k ∈ resKeys (rv x), k ≠ d := fun x h => ⟨h, fun k hk => by simp [resKeys] at hk⟩
  have own : ∀ d', dst = some d' → d' ≠ d := fun d' h e => hdst (by rw [h, e])
  cases op with
  | move x => simp only [core] at hc; subst hc; exact triv _ (he x)
  | assign x => exact absurd rfl (hop x)
  | pick c x y =>
    simp only [core] at hc
    unfold pickR at hc
    split at hc
    · rename_i b _
      subst hc
      cases b
      · exact triv _ (he y)
      · exact triv _ (he x)
    · exact hc.elim
  | alloc t =>
    simp only [core] at hc
    obtain ⟨d', z, h1, _, rfl⟩ := hc
    have := own d' h1
    exact ⟨by simpa [refs] using this, fun k hk => by simp [resKeys] at hk; omega⟩
  | box t x =>
    simp only [core] at hc
    obtain ⟨d', z, h1, _, rfl⟩ := hc
    have := own d' h1
    exact ⟨by simpa [refs] using this, fun k hk => by simp [resKeys] at hk; omega⟩
  | build t ps =>
    obtain ⟨z, ps', cs, ys, _, _, _, _, _, rfl⟩ := hc
    exact triv _ (by simp [refs])
  | buildSlice t n ps =>
    simp only [core] at hc
    unfold buildSliceR at hc
    split at hc
    · obtain ⟨sz, b, _, _, rfl⟩ := hc
      exact triv _ (by simp [refs])
    · obtain ⟨d', sz, b, z, ps', cs, h1, _, _, _, _, _, _, rfl⟩ := hc
      have := own d' h1
      exact ⟨by simpa [refs] using this, fun k hk => by simp [resKeys] at hk; omega⟩
  | load t x =>
    have key : ∀ kd cs, loadC kd cs r → refs r.val ≠ some d ∧ ∀ k ∈ resKeys r, k ≠ d := fun kd cs h => by
      unfold loadC at h
      split at h
      · obtain ⟨ys, _, _, rfl⟩ := h; exact triv _ (by simp [refs])
      · obtain ⟨y, _, rfl⟩ := h; exact triv _ (by rw [ofCV_refs]; simp)
      · exact h.elim
    simp only [core] at hc
    unfold loadR at hc
    split at hc
    · exact key _ _ hc
    · obtain ⟨cs, _, hc⟩ := hc; exact key _ _ hc
    · exact hc.elim
  | store t x y =>
    simp only [core] at hc
    obtain ⟨_, hc⟩ := hc
    unfold storeR at hc
    split at hc
    · rename_i k off hxv
      obtain ⟨cs, new, n, _, _, _, _, _, _, rfl⟩ := hc
      have := he x
      rw [hxv] at this
      refine ⟨by simp [refs], fun k' hk' => ?_⟩
      simp only [refs, ne_eq, Option.some.injEq] at this
      simp [resKeys] at hk'
      omega
    · exact hc.elim
  | binOp op t x y yt =>
    simp only [core] at hc
    unfold binR at hc
    split at hc
    · obtain ⟨z, _, rfl⟩ := hc; exact triv _ (by simp [refs])
    · obtain ⟨_, _, _, hc⟩ := hc
      rcases hc with ⟨_, rfl⟩ | ⟨_, rfl⟩ <;> exact triv _ (by simp [refs])
    · exact hc.elim
  | unOp op t x =>
    simp only [core] at hc
    unfold unR at hc
    split at hc
    · obtain ⟨z, _, rfl⟩ := hc; exact triv _ (by simp [refs])
    · exact hc.elim
  | convert s t x =>
    simp only [core] at hc
    unfold convR at hc
    split at hc
    · obtain ⟨z, _, rfl⟩ := hc; exact triv _ (by simp [refs])
    · obtain ⟨_, rfl⟩ := hc; exact triv _ (by simp [refs])
    · rename_i hxv
      rcases hc with ⟨_, _, l, _, rfl⟩ | ⟨t', m, _, rfl, _, _, _, rfl⟩
      · exact triv _ (by simp [refs])
      · have h1 := he x
        rw [hxv] at h1
        refine ⟨by simp [refs], fun k' hk' => ?_⟩
        simp only [refs, ne_eq, Option.some.injEq] at h1
        simp [resKeys] at hk'
        omega
    · exact hc.elim
  | sliceToArrayPointer t x =>
    simp only [core] at hc
    have h1 := he x
    unfold arrayR at hc
    split at hc
    · obtain ⟨n, _, _, _, _, rfl⟩ := hc; exact triv _ (by simp [refs])
    · rename_i k off len hxv
      rw [hxv] at h1
      obtain ⟨n, _, _, rfl⟩ := hc; exact triv _ h1
    · exact hc.elim
  | makeFunc f xs cs =>
    simp only [core] at hc
    unfold makeFuncR at hc
    split at hc
    · subst hc; exact triv _ (by simp [refs])
    · rename_i f k _ hcs
      subst hc
      have : AV.bp k 0 ∈ cs.toList.map (ev G σ) := by rw [hcs]; simp
      obtain ⟨y, _, hy⟩ := List.mem_map.1 this
      have h1 := he y
      rw [hy] at h1
      exact triv _ h1
    · exact hc.elim
  | makeSlice t x y =>
    simp only [core] at hc
    unfold makeSliceR at hc
    split at hc
    · obtain ⟨d', z, h1, _, _, _, _, _, rfl⟩ := hc
      have := own d' h1
      exact ⟨by simpa [refs] using this, fun k hk => by simp [resKeys] at hk; omega⟩
    · exact hc.elim
  | slice t x lo hi mx =>
    simp only [core] at hc
    have h1 := he x
    unfold sliceR at hc
    split at hc
    · obtain ⟨_, _, l, h, _, _, _, _, rfl⟩ := hc; exact triv _ (by simp [refs])
    · obtain ⟨b, n, l, h, _, _, _, _, _, _, _, hc⟩ := hc
      rcases hc with ⟨_, rfl⟩ | ⟨m, _, _, _, _, rfl⟩ <;> exact triv _ (by simp [refs])
    · rename_i k off hxv
      rw [hxv] at h1
      obtain ⟨_, n, l, h, _, _, _, _, _, _, rfl⟩ := hc; exact triv _ h1
    · obtain ⟨_, n, l, h, _, _, _, _, _, _, rfl⟩ := hc; exact triv _ (by simp [refs])
    · exact hc.elim
  | fieldAddr t x f =>
    simp only [core] at hc
    have h1 := he x
    unfold fieldAddrR at hc
    split at hc
    · rename_i k off hxv
      rw [hxv] at h1
      obtain ⟨d', _, rfl⟩ := hc; exact triv _ h1
    · obtain ⟨d', _, rfl⟩ := hc; exact triv _ (by simp [refs])
    · exact hc.elim
  | indexAddr t x i =>
    simp only [core] at hc
    have h1 := he x
    unfold indexAddrR at hc
    split at hc
    · split at hc
      · obtain ⟨b, _, _, _, rfl⟩ := hc; exact triv _ (by simp [refs])
      · rename_i k off len hxv
        rw [hxv] at h1
        obtain ⟨b, _, _, _, rfl⟩ := hc; exact triv _ h1
      · rename_i k off hxv
        rw [hxv] at h1
        obtain ⟨b, _, _, _, _, rfl⟩ := hc; exact triv _ h1
      · obtain ⟨b, _, _, _, _, rfl⟩ := hc; exact triv _ (by simp [refs])
      · exact hc.elim
    · exact hc.elim
  | index t x i =>
    simp only [core] at hc
    unfold indexR at hc
    split at hc
    · split at hc
      · obtain ⟨_, _, b, _, rfl⟩ := hc; exact triv _ (by simp [refs])
      · obtain ⟨n, k, _, _, _, u, _, rfl⟩ := hc; exact triv _ (by simp [refs])
      · exact hc.elim
    · exact hc.elim
  | extract x i =>
    simp only [core] at hc
    have h1 := he x
    unfold extractR at hc
    split at hc
    · rename_i y b c hxv
      rw [hxv] at h1
      split at hc
      · subst hc; exact triv _ h1
      · subst hc; exact triv _ (by simp [refs])
      · subst hc; exact triv _ (by simp [refs])
      · exact hc.elim
    · exact hc.elim
  | call c =>
    obtain ⟨callee, args, argTypes⟩ := c
    have hres : ∀ d' R, dst = some d' → refs (resOf d' R).val ≠ some d ∧ ∀ k ∈ resKeys (resOf d' R), k ≠ d := fun d' R h1 => by
      have := own d' h1
      unfold resOf
      split
      · exact ⟨by simpa [refs] using this, fun k hk => by simp [resKeys] at hk; omega⟩
      · exact ⟨by simpa [refs] using this, fun k hk => by simp [resKeys] at hk; omega⟩
      · exact triv _ (by simp [refs])
      · exact triv _ (by simp [refs])
      · exact triv _ (by simp [refs])
    cases callee with
    | value f =>
      simp only [core] at hc
      unfold callR at hc
      split at hc
      · obtain ⟨_, _, _, d', as, R, h1, _, _, rfl⟩ := hc; exact hres d' R h1
      · obtain ⟨_, d', as, R, h1, _, _, rfl⟩ := hc; exact hres d' R h1
      · exact hc.elim
    | invoke x m => exact hc.elim
    | builtin b =>
      cases b with
      | len =>
        simp only [core] at hc
        split at hc
        · unfold lenR at hc
          split at hc
          · obtain ⟨_, rfl⟩ := hc; exact triv _ (by simp [refs])
          · obtain ⟨_, _, rfl⟩ := hc; exact triv _ (by simp [refs])
          · obtain ⟨_, _, rfl⟩ := hc; exact triv _ (by simp [refs])
          · obtain ⟨_, rfl⟩ := hc; exact triv _ (by simp [refs])
          · obtain ⟨_, rfl⟩ := hc; exact triv _ (by simp [refs])
          · obtain ⟨_, rfl⟩ := hc; exact triv _ (by simp [refs])
          · exact hc.elim
        · exact hc.elim
      | append =>
        simp only [core] at hc
        split at hc
        · rename_i x y t u _ _
          have h1 := he x
          obtain ⟨_, hc⟩ := hc
          unfold appendR at hc
          split at hc
          · rename_i t' sz xs hxv
            rw [hxv] at h1
            simp only [refs, ne_eq, Option.some.injEq] at h1
            obtain ⟨d', b, ys, hd', _, _, _, _, _, _, _, rfl⟩ := hc
            have := own d' hd'
            refine ⟨by simpa [refs] using this, fun k hk => ?_⟩
            simp [resKeys] at hk
            omega
          · obtain ⟨d', sz, b, ys, hd', _, _, _, _, _, _, rfl⟩ := hc
            have := own d' hd'
            exact ⟨by simpa [refs] using this, fun k hk => by simp [resKeys] at hk; omega⟩
          · obtain ⟨d', b, ys, hd', _, _, _, _, _, _, hif⟩ := hc
            have := own d' hd'
            split at hif
            · obtain ⟨_, _, rfl⟩ := hif
              exact ⟨by simpa [refs] using this, fun k hk => by simp [resKeys] at hk; omega⟩
            · subst hif
              exact ⟨by simpa [refs] using this, fun k hk => by simp [resKeys] at hk; omega⟩
          · obtain ⟨b, ys, _, _, _, _, _, _, rfl⟩ := hc; exact triv _ (by simp [refs])
          · exact hc.elim
        · exact hc.elim
      | copy =>
        simp only [core] at hc
        split at hc
        · rename_i x y t u _ _
          have h1 := he x
          unfold copyR at hc
          split at hc
          · rename_i k off len s hxv _
            rw [hxv] at h1
            simp only [refs, ne_eq, Option.some.injEq] at h1
            obtain ⟨cs, b, _, _, _, rfl⟩ := hc
            refine ⟨by simp [refs], fun k' hk => ?_⟩
            simp [resKeys] at hk
            omega
          · exact hc.elim
        · exact hc.elim
      | min =>
        simp only [core] at hc
        unfold mm2 at hc
        split at hc
        · obtain ⟨_, rfl⟩ := hc; exact triv _ (by simp [refs])
        · exact hc.elim
      | max =>
        simp only [core] at hc
        unfold mm2 at hc
        split at hc
        · obtain ⟨_, rfl⟩ := hc; exact triv _ (by simp [refs])
        · exact hc.elim
      | _ => exact hc.elim
  | _ => exact hc.elim

theorem core_site {dst : Option Nat} {ty : TypeId} {op : Op} {r : Res} (hop : ∀ x, op ≠ .assign x) (hc : core P G H σ dst ty op r) (hs : r.site = true) : isSite op = true := by
  cases op with
  | assign x => exact absurd rfl (hop x)
  | alloc t => rfl
  | box t x => rfl
  | buildSlice t n ps => rfl
  | makeSlice t x y => rfl
  | call c => rfl
  | move x => simp only [core] at hc; subst hc; cases hs
  | pick c x y =>
    simp only [core] at hc; unfold pickR at hc; split at hc
    · subst hc; cases hs
    · exact hc.elim
  | build t ps => obtain ⟨z, ps', cs, ys, _, _, _, _, _, rfl⟩ := hc; cases hs
  | load t x =>
    have key : ∀ kd cs, loadC kd cs r → False := fun kd cs h => by
      unfold loadC at h
      split at h
      · obtain ⟨ys, _, _, rfl⟩ := h; cases hs
      · obtain ⟨y, _, rfl⟩ := h; cases hs
      · exact h.elim
    simp only [core] at hc; unfold loadR at hc; split at hc
    · exact (key _ _ hc).elim
    · obtain ⟨cs, _, hc⟩ := hc; exact (key _ _ hc).elim
    · exact hc.elim
  | store t x y =>
    simp only [core] at hc; obtain ⟨_, hc⟩ := hc; unfold storeR at hc; split at hc
    · obtain ⟨cs, new, n, _, _, _, _, _, _, rfl⟩ := hc; cases hs
    · exact hc.elim
  | binOp op t x y yt =>
    simp only [core] at hc; unfold binR at hc; split at hc
    · obtain ⟨z, _, rfl⟩ := hc; cases hs
    · obtain ⟨_, _, _, hc⟩ := hc
      rcases hc with ⟨_, rfl⟩ | ⟨_, rfl⟩ <;> cases hs
    · exact hc.elim
  | unOp op t x =>
    simp only [core] at hc; unfold unR at hc; split at hc
    · obtain ⟨z, _, rfl⟩ := hc; cases hs
    · exact hc.elim
  | convert s t x =>
    simp only [core] at hc; unfold convR at hc; split at hc
    · obtain ⟨z, _, rfl⟩ := hc; cases hs
    · obtain ⟨_, rfl⟩ := hc; cases hs
    · rcases hc with ⟨_, _, l, _, rfl⟩ | ⟨t', m, _, _, _, _, _, rfl⟩ <;> cases hs
    · exact hc.elim
  | sliceToArrayPointer t x =>
    simp only [core] at hc; unfold arrayR at hc; split at hc
    · obtain ⟨n, _, _, _, _, rfl⟩ := hc; cases hs
    · obtain ⟨n, _, _, rfl⟩ := hc; cases hs
    · exact hc.elim
  | makeFunc f xs cs =>
    simp only [core] at hc; unfold makeFuncR at hc; split at hc
    · subst hc; cases hs
    · subst hc; cases hs
    · exact hc.elim
  | slice t x lo hi mx =>
    simp only [core] at hc; unfold sliceR at hc; split at hc
    · obtain ⟨_, _, l, h, _, _, _, _, rfl⟩ := hc; cases hs
    · obtain ⟨b, n, l, h, _, _, _, _, _, _, _, hc⟩ := hc
      rcases hc with ⟨_, rfl⟩ | ⟨m, _, _, _, _, rfl⟩ <;> cases hs
    · obtain ⟨_, n, l, h, _, _, _, _, _, _, rfl⟩ := hc; cases hs
    · obtain ⟨_, n, l, h, _, _, _, _, _, _, rfl⟩ := hc; cases hs
    · exact hc.elim
  | fieldAddr t x f =>
    simp only [core] at hc; unfold fieldAddrR at hc; split at hc
    · obtain ⟨d', _, rfl⟩ := hc; cases hs
    · obtain ⟨d', _, rfl⟩ := hc; cases hs
    · exact hc.elim
  | indexAddr t x i =>
    simp only [core] at hc; unfold indexAddrR at hc; split at hc
    · split at hc
      · obtain ⟨b, _, _, _, rfl⟩ := hc; cases hs
      · obtain ⟨b, _, _, _, rfl⟩ := hc; cases hs
      · obtain ⟨b, _, _, _, _, rfl⟩ := hc; cases hs
      · obtain ⟨b, _, _, _, _, rfl⟩ := hc; cases hs
      · exact hc.elim
    · exact hc.elim
  | index t x i =>
    simp only [core] at hc; unfold indexR at hc; split at hc
    · split at hc
      · obtain ⟨_, _, b, _, rfl⟩ := hc; cases hs
      · obtain ⟨n, k, _, _, _, u, _, rfl⟩ := hc; cases hs
      · exact hc.elim
    · exact hc.elim
  | extract x i =>
    simp only [core] at hc; unfold extractR at hc; split at hc
    · split at hc
      · subst hc; cases hs
      · subst hc; cases hs
      · subst hc; cases hs
      · exact hc.elim
    · exact hc.elim
  | _ => exact hc.elim

end Abs
end Go.Proofs.YtkdpmjgigknbpaaDoor
