/-
  A region that draws its order, upon abstract states: one walk in the text's order serves every order (the proof).
-/
import Derived.Test.YtkdpmjgigknbpaaDoorA13
namespace Go.Proofs.YtkdpmjgigknbpaaDoor
namespace Abs
open Go.RowKit
set_option linter.unusedSimpArgs false

variable {P : Program} {G : Nat → List Value} {H : Nat → Bool} {F : Nat → List Nat × List Nat} {ops : Array Oper} {w0 w w' : World} {N : Nat} {σ σ' : St} {a : Act}

theorem noAssign_ne (op : Op) : ∀ x, noAssign op ≠ .assign x := by cases op <;> simp [noAssign]
theorem noAssign_operands (op : Op) : (noAssign op).operands = op.operands := by cases op <;> rfl
theorem exec_noAssign (ρ : Operand → Value) (o : Oper) : execOp ρ { o with op := noAssign o.op } = execOp ρ o := by
  obtain ⟨dst, op, type, pos, after, guard⟩ := o
  cases op <;> rfl

/-- Whether a guarded operation is wanted. -/
def wantA (ops : Array Oper) (o : Oper) (σ : St) : Option Bool :=
  match o.guard with
  | none => some true
  | some (j, want) => match (ops[j]?).bind (·.dst) with
    | some d => match σ.s d with
      | .v (.bool b) => some (decide (b = want))
      | .v _ => some false
      | _ => none
    | none => none

theorem gate_iff {o : Oper} {A B : St → Prop} : gate ops.toList o A B σ ↔ (wantA ops o σ = some true ∧ A σ) ∨ (wantA ops o σ = some false ∧ B (σ.blank o.dst)) := by
  unfold gate agate wantA
  cases hg : o.guard with
  | none => simp
  | some p =>
    obtain ⟨j, want⟩ := p
    simp only [Array.getElem?_toList]
    cases hj : (ops[j]?).bind (·.dst) with
    | none => simp
    | some d =>
      simp only
      cases hs : σ.s d with
      | v x =>
        cases x with
        | bool b => by_cases hbw : b = want <;> simp [hbw]
        | _ => simp
      | _ => simp

/-- What operation o may do in this state. -/
def Does (P : Program) (G : Nat → List Value) (H : Nat → Bool) (ops : Array Oper) (F : List Nat × List Nat) (o : Oper) (r : Res) (σ : St) : Prop :=
  (wantA ops o σ = some true ∧ dcore P G H σ o r ∧ footOK G F σ o r) ∨ (wantA ops o σ = some false ∧ r = rv (.v undef))

def dOp (P : Program) (G : Nat → List Value) (H : Nat → Bool) (F : Nat → List Nat × List Nat) (ops : Array Oper) (i : Nat) (K : St → Prop) (σ : St) : Prop :=
  match ops[i]? with
  | none => K σ
  | some o => ∃ r, Does P G H ops (F i) o r σ ∧ K (σ.app o.dst r)

theorem dOp_mono {i : Nat} {K K' : St → Prop} (h : ∀ σ, K σ → K' σ) (hh : dOp P G H F ops i K σ) : dOp P G H F ops i K' σ := by
  unfold dOp at *
  split
  · exact h _ (by simpa [*] using hh)
  · rename_i o ho
    simp only [ho] at hh
    obtain ⟨r, h1, h2⟩ := hh
    exact ⟨r, h1, h _ h2⟩

def dAny (P : Program) (G : Nat → List Value) (H : Nat → Bool) (F : Nat → List Nat × List Nat) (ops : Array Oper) (Q : St → Prop) : Nat → Array Bool → St → Prop
  | 0, listed, σ => Region.ready .any ops listed = [] ∧ Q σ
  | fuel + 1, listed, σ => (Region.ready .any ops listed = [] → Q σ) ∧ ∀ i ∈ Region.ready .any ops listed, dOp P G H F ops i (dAny P G H F ops Q fuel (listed.setIfInBounds i true)) σ

/-! ### Two operations that leave each other alone -/

theorem app_s {dst : Option Nat} {r : Res} {d : Nat} (h : dst ≠ some d) : (σ.app dst r).s d = σ.s d := by
  unfold St.app
  cases dst with
  | none => rfl
  | some d' => exact upd_ne _ _ (fun e => h (by rw [e]))
theorem foldl_o {l : List (Nat × Option Nat)} {o : Nat → Option Nat} {k : Nat} (h : ∀ p ∈ l, p.1 ≠ k) : l.foldl (fun o x => upd o x.1 x.2) o k = o k := by
  induction l generalizing o with
  | nil => rfl
  | cons p l ih =>
    rw [List.foldl_cons, ih (fun q hq => h q (List.mem_cons_of_mem _ hq)), upd_ne _ _ (Ne.symm (h p List.mem_cons_self))]
theorem app_b {dst : Option Nat} {r : Res} {k : Nat} (h : k ∉ resKeys r) : (σ.app dst r).b k = σ.b k := by
  unfold St.app
  cases hb : r.bu with
  | none => rfl
  | some p =>
    refine upd_ne _ _ fun e => h ?_
    simp [resKeys, hb, e]
theorem app_o {dst : Option Nat} {r : Res} {k : Nat} (h : k ∉ resKeys r) : (σ.app dst r).o k = σ.o k := by
  unfold St.app
  exact foldl_o fun p hp e => h (by simp only [resKeys, List.mem_append, List.mem_map]; exact .inr ⟨p, hp, e⟩)

theorem foldl_upd_comm {l : List (Nat × Option Nat)} {o : Nat → Option Nat} {k : Nat} {x : Option Nat} (h : ∀ p ∈ l, p.1 ≠ k) :
    l.foldl (fun o x => upd o x.1 x.2) (upd o k x) = upd (l.foldl (fun o x => upd o x.1 x.2) o) k x := by
  induction l generalizing o with
  | nil => rfl
  | cons p l ih =>
    rw [List.foldl_cons, List.foldl_cons, upd_comm o x p.2 (Ne.symm (h p List.mem_cons_self)), ih (fun q hq => h q (List.mem_cons_of_mem _ hq))]
theorem foldl_foldl_comm {l m : List (Nat × Option Nat)} {o : Nat → Option Nat} (h : ∀ p ∈ l, ∀ q ∈ m, p.1 ≠ q.1) :
    l.foldl (fun o x => upd o x.1 x.2) (m.foldl (fun o x => upd o x.1 x.2) o) = m.foldl (fun o x => upd o x.1 x.2) (l.foldl (fun o x => upd o x.1 x.2) o) := by
  induction m generalizing o with
  | nil => rfl
  | cons q m ih =>
    rw [List.foldl_cons, List.foldl_cons, ih (fun p hp q' hq' => h p hp q' (List.mem_cons_of_mem _ hq')), foldl_upd_comm fun p hp => h p hp q List.mem_cons_self]

theorem app_comm {d1 d2 : Option Nat} {r1 r2 : Res} (hd : ∀ d, d1 = some d → d2 ≠ some d) (hk : ∀ k ∈ resKeys r1, k ∉ resKeys r2) : (σ.app d1 r1).app d2 r2 = (σ.app d2 r2).app d1 r1 := by
  unfold St.app
  congr 1
  · cases d1 with
    | none => cases d2 <;> rfl
    | some x => cases d2 with
      | none => rfl
      | some y => exact upd_comm _ _ _ fun e => hd x rfl (by rw [e])
  · cases h1 : r1.bu with
    | none => cases r2.bu <;> rfl
    | some x => cases h2 : r2.bu with
      | none => rfl
      | some y => exact upd_comm _ _ _ fun e => hk x.1 (by simp [resKeys, h1]) (by simp [resKeys, h2, e])
  · exact (foldl_foldl_comm fun p hp q hq e => hk p.1 (by simp only [resKeys, List.mem_append, List.mem_map]; exact .inr ⟨p, hp, rfl⟩) (by
      simp only [resKeys, List.mem_append, List.mem_map]
      exact .inr ⟨q, hq, e.symm⟩)).symm

theorem memIndep_spec {A B : List Nat × List Nat} (h : memIndep A B = true) : (∀ k ∈ A.2, k ∉ B.1 ∧ k ∉ B.2) ∧ ∀ k ∈ A.1, k ∉ B.2 := by
  simp only [memIndep, Bool.and_eq_true, List.all_eq_true, Bool.not_eq_true', List.contains_eq_mem, decide_eq_false_iff_not] at h
  exact ⟨fun k hk => h.1 k hk, fun k hk => h.2 k hk⟩
theorem foot_reads {A : List Nat × List Nat} {o : Oper} {r : Res} (h : footOK G A σ o r) : ∀ x, x ∈ o.op.operands → ∀ k, refs (ev G σ x) = some k → k ∈ A.1 := fun x hx k hk => by
  have := h.1
  simp only [List.all_eq_true, List.contains_eq_mem, decide_eq_true_eq] at this
  exact this k (by simp only [opRefs, List.mem_filterMap]; exact ⟨x, Array.mem_toList_iff.2 hx, hk⟩)
theorem foot_writes {A : List Nat × List Nat} {o : Oper} {r : Res} (h : footOK G A σ o r) : ∀ k ∈ resKeys r, k ∈ A.2 := fun k hk => by
  have := h.2
  simp only [List.all_eq_true, List.contains_eq_mem, decide_eq_true_eq] at this
  exact this k hk

theorem looks_operand {o : Oper} {t : Nat} (h : Operand.tmp t ∈ o.op.operands) : t ∈ o.looksAt ops := by
  unfold Oper.looksAt
  refine List.mem_append_left _ ?_
  simp only [List.mem_filterMap]
  exact ⟨.tmp t, Array.mem_toList_iff.2 h, rfl⟩

theorem ev_app {o : Oper} {dst : Option Nat} {r : Res} (h : ∀ d, dst = some d → d ∉ o.looksAt ops) {x : Operand} (hx : x ∈ o.op.operands) : ev G (σ.app dst r) x = ev G σ x := by
  cases x with
  | tmp t => exact app_s fun e => h t e (looks_operand hx)
  | _ => rfl

theorem wantA_app {o : Oper} {dst : Option Nat} {r : Res} (h : ∀ d, dst = some d → d ∉ o.looksAt ops) : wantA ops o (σ.app dst r) = wantA ops o σ := by
  unfold wantA
  cases hg : o.guard with
  | none => rfl
  | some p =>
    obtain ⟨j, want⟩ := p
    simp only
    cases hj : (ops[j]?).bind (·.dst) with
    | none => rfl
    | some d =>
      simp only
      rw [app_s fun e => h d e (by
        unfold Oper.looksAt
        rw [hg]
        refine List.mem_append_right _ ?_
        simp only
        rw [hj]; simp)]

/-- An operation's doing does not change behind another that leaves it alone; nor before it. -/
theorem Does.app {o : Oper} {r r1 : Res} {A B : List Nat × List Nat} {dst : Option Nat} (h : ∀ d, dst = some d → d ∉ o.looksAt ops) (hw : ∀ k ∈ resKeys r1, k ∈ B.2) (hi : ∀ k ∈ A.1, k ∉ B.2) (hd : Does P G H ops A o r σ) : Does P G H ops A o r (σ.app dst r1) := by
  rcases hd with ⟨h1, h2, h3⟩ | ⟨h1, h2⟩
  · refine .inl ⟨by rw [wantA_app h]; exact h1, ?_, ?_⟩
    · refine core_same ⟨fun x hx => ?_, fun x hx k hk => ?_⟩ (noAssign_ne _) h2
      · exact ev_app (ops := ops) h (by rw [noAssign_operands] at hx; exact hx)
      · rw [noAssign_operands] at hx
        have hk' : k ∉ resKeys r1 := fun hm => hi k (foot_reads h3 x hx k hk) (hw k hm)
        exact ⟨app_b hk', app_o hk'⟩
    · refine ⟨?_, h3.2⟩
      have : opRefs G (σ.app dst r1) o = opRefs G σ o := by
        unfold opRefs
        have : ∀ l : List Operand, (∀ x ∈ l, x ∈ o.op.operands) → l.filterMap (fun x => refs (ev G (σ.app dst r1) x)) = l.filterMap fun x => refs (ev G σ x) := fun l hl => by
          induction l with
          | nil => rfl
          | cons x l ih => simp only [List.filterMap_cons]; rw [ev_app (ops := ops) h (hl x List.mem_cons_self), ih fun y hy => hl y (List.mem_cons_of_mem _ hy)]
        exact this _ fun x hx => Array.mem_toList_iff.1 hx
      rw [this]; exact h3.1
  · exact .inr ⟨by rw [wantA_app h]; exact h1, h2⟩

theorem Does.unapp {o : Oper} {r r1 : Res} {A B : List Nat × List Nat} {dst : Option Nat} (h : ∀ d, dst = some d → d ∉ o.looksAt ops) (hw : ∀ k ∈ resKeys r1, k ∈ B.2) (hi : ∀ k ∈ A.1, k ∉ B.2) (hd : Does P G H ops A o r (σ.app dst r1)) : Does P G H ops A o r σ := by
  rcases hd with ⟨h1, h2, h3⟩ | ⟨h1, h2⟩
  · have hev : ∀ x, x ∈ o.op.operands → ev G σ x = ev G (σ.app dst r1) x := fun x hx => (ev_app (ops := ops) h hx).symm
    refine .inl ⟨by rw [wantA_app h] at h1; exact h1, ?_, ?_⟩
    · refine core_same ⟨fun x hx => ?_, fun x hx k hk => ?_⟩ (noAssign_ne _) h2
      · exact hev x (by rw [noAssign_operands] at hx; exact hx)
      · rw [noAssign_operands] at hx
        have hk' : k ∉ resKeys r1 := fun hm => hi k (foot_reads h3 x hx k hk) (hw k hm)
        exact ⟨(app_b hk').symm, (app_o hk').symm⟩
    · refine ⟨?_, h3.2⟩
      have : opRefs G σ o = opRefs G (σ.app dst r1) o := by
        unfold opRefs
        have : ∀ l : List Operand, (∀ x ∈ l, x ∈ o.op.operands) → l.filterMap (fun x => refs (ev G σ x)) = l.filterMap fun x => refs (ev G (σ.app dst r1) x) := fun l hl => by
          induction l with
          | nil => rfl
          | cons x l ih => simp only [List.filterMap_cons]; rw [hev x (hl x List.mem_cons_self), ih fun y hy => hl y (List.mem_cons_of_mem _ hy)]
        exact this _ fun x hx => Array.mem_toList_iff.1 hx
      rw [this]; exact h3.1
  · exact .inr ⟨by rw [wantA_app h] at h1; exact h1, h2⟩

theorem does_writes {o : Oper} {r : Res} {A : List Nat × List Nat} (h : Does P G H ops A o r σ) : ∀ k ∈ resKeys r, k ∈ A.2 := by
  rcases h with ⟨_, _, h3⟩ | ⟨_, rfl⟩
  · exact foot_writes h3
  · intro k hk; simp [resKeys] at hk

theorem dOp_put {i j : Nat} {oi oj : Oper} {r : Res} (hj : ops[j]? = some oj) (hap : oi.apart ops oj = true) (hm : memIndep (F i) (F j) = true) {K : St → Prop} (hy : Does P G H ops (F i) oi r σ)
    (h : dOp P G H F ops j K (σ.app oi.dst r)) : dOp P G H F ops j (fun σ' => Does P G H ops (F i) oi r σ' ∧ K (σ'.app oi.dst r)) σ := by
  obtain ⟨h1, h2, h3⟩ := Oper.apart_spec hap
  obtain ⟨m1, m2⟩ := memIndep_spec hm
  unfold dOp at *
  simp only [hj] at *
  obtain ⟨r', hr', hk⟩ := h
  have wi := does_writes hy
  have wj := does_writes hr'
  have hr : Does P G H ops (F j) oj r' σ := hr'.unapp (B := F i) h1 wi fun k hk hk' => (m1 k hk').1 hk
  refine ⟨r', hr, hy.app (B := F j) h3 wj m2, ?_⟩
  rw [app_comm (fun d hd => fun e => h2 d e hd) fun k hk hk' => (m1 k (wi k hk')).2 (wj k hk)]
  exact hk

theorem dAny_first {Q : St → Prop} {i : Nat} {oi : Oper} {r : Res} (hi : ops[i]? = some oi) :
    ∀ (fuel : Nat) (listed : Array Bool) (σ : St),
      (∀ j oj, ops[j]? = some oj → j ≠ i → listed.getD j true = false → (∀ e ∈ oj.after, Region.binds .any e = true → e.on ≠ i) → oi.apart ops oj = true ∧ memIndep (F i) (F j) = true) →
      i ∈ Region.ready .any ops listed → Does P G H ops (F i) oi r σ →
      dAny P G H F ops Q fuel (listed.setIfInBounds i true) (σ.app oi.dst r) → dAny P G H F ops Q (fuel + 1) listed σ := by
  intro fuel
  induction fuel with
  | zero =>
    intro listed σ _ hr hy H'
    refine ⟨fun h => (by rw [h] at hr; cases hr), fun j hj => ?_⟩
    by_cases hji : j = i
    · subst hji; unfold dOp; simp only [hi]; exact ⟨r, hy, H'⟩
    · have := ready_mono hj hji
      rw [H'.1] at this
      cases this
  | succ fuel ih =>
    intro listed σ hfree hr hy H'
    refine ⟨fun h => (by rw [h] at hr; cases hr), fun j hj => ?_⟩
    by_cases hji : j = i
    · subst hji; unfold dOp; simp only [hi]; exact ⟨r, hy, H'⟩
    · have h1 := H'.2 j (ready_mono hj hji)
      obtain ⟨hjun, oj, hoj, hall⟩ := mem_ready.1 hj
      have hnot : ∀ e ∈ oj.after, Region.binds .any e = true → e.on ≠ i := fun e he hb heq => by
        have h1 := hall e he hb
        have h0 := (mem_ready.1 hr).1
        rw [heq] at h1
        rcases Nat.lt_or_ge i listed.size with h' | h'
        · simp [h'] at h0 h1; rw [h0] at h1; cases h1
        · simp [Array.getElem?_eq_none h'] at h1
      obtain ⟨ha, hm⟩ := hfree j oj hoj hji hjun hnot
      have h2 := dOp_put hoj ha hm hy h1
      have hfree' : ∀ k ok, ops[k]? = some ok → k ≠ i → (listed.setIfInBounds j true).getD k true = false →
          (∀ e ∈ ok.after, Region.binds .any e = true → e.on ≠ i) → oi.apart ops ok = true ∧ memIndep (F i) (F k) = true := fun k ok hk hki hun hno => by
        refine hfree k ok hk hki ?_ hno
        by_cases hjk : j = k
        · subst hjk; exact hjun
        · rw [getD_set_ne true hjk] at hun; exact hun
      refine dOp_mono (fun σ' h3 => ih (listed.setIfInBounds j true) σ' hfree' (ready_mono hr (Ne.symm hji)) h3.1 ?_) h2
      rw [Array.setIfInBounds_comm _ _ hji]
      exact h3.2

/-! ### The text's order -/

def freeA (ops : Array Oper) (F : Nat → List Nat × List Nat) (listed : Array Bool) (i : Nat) : Bool :=
  match ops[i]? with
  | none => false
  | some oi => (List.range ops.size).all fun j => j == i || listed.getD j true || match ops[j]? with
      | some oj => oj.after.any (fun e => Region.binds .any e && e.on == i) || (oi.apart ops oj && memIndep (F i) (F j))
      | none => true
def lexFromA (ops : Array Oper) (F : Nat → List Nat × List Nat) : Nat → Nat → Array Bool → Bool
  | 0, _, listed => (Region.ready .any ops listed).isEmpty
  | fuel + 1, k, listed => (Region.ready .any ops listed).contains k && freeA ops F listed k && lexFromA ops F fuel (k + 1) (listed.setIfInBounds k true)
def dsts (ops : List Oper) : List Nat := ops.filterMap (·.dst)
def nodupB : List Nat → Bool
  | [] => true
  | x :: l => !l.contains x && nodupB l
def lexA (ops : List Oper) (F : Nat → List Nat × List Nat) : Bool := lexFromA ops.toArray F ops.length 0 (Array.replicate ops.length false) && nodupB (dsts ops)

theorem freeA_spec {i : Nat} {oi : Oper} {listed : Array Bool} (hi : ops[i]? = some oi) (h : freeA ops F listed i = true) (j : Nat) (oj : Oper)
    (hj : ops[j]? = some oj) (hne : j ≠ i) (hun : listed.getD j true = false) (hno : ∀ e ∈ oj.after, Region.binds .any e = true → e.on ≠ i) :
    oi.apart ops oj = true ∧ memIndep (F i) (F j) = true := by
  simp only [freeA, hi, List.all_eq_true, List.mem_range] at h
  have h1 := h j (Array.getElem?_eq_some_iff.1 hj).1
  simp only [hj, Bool.or_eq_true, beq_iff_eq, hne, false_or, hun, Bool.false_eq_true] at h1
  rcases h1 with h1 | h1
  · obtain ⟨e, he, hb⟩ := Array.any_eq_true'.1 h1
    simp only [Bool.and_eq_true, beq_iff_eq] at hb
    exact absurd hb.2 (hno e he hb.1)
  · simpa using h1

def kfoot (K : St → Prop) (G : Nat → List Value) (F : List Nat × List Nat) (σ : St) (o : Oper) : Res → Prop := fun r => footOK G F σ o r ∧ K (σ.app o.dst r)
def dstep (P : Program) (G : Nat → List Value) (H : Nat → Bool) (F : List Nat × List Nat) (o : Oper) (K : St → Prop) (σ : St) : Prop := ex (core P G H σ o.dst o.type (noAssign o.op)) (kfoot K G F σ o)
def dLex (P : Program) (G : Nat → List Value) (H : Nat → Bool) (F : Nat → List Nat × List Nat) (ops : List Oper) (Q : St → Prop) : List Oper → Nat → St → Prop
  | [], _, σ => Q σ
  | o :: rest, k, σ => gate ops o (dstep P G H (F k) o (dLex P G H F ops Q rest (k + 1))) (dLex P G H F ops Q rest (k + 1)) σ

theorem blank_app (σ : St) (dst : Option Nat) : σ.blank dst = σ.app dst (rv (.v undef)) := by cases dst <;> rfl

theorem dAny_lex {Q : St → Prop} : ∀ (l : List Oper) (k : Nat) (listed : Array Bool) (σ : St), (∀ j, l[j]? = ops[k + j]?) →
    lexFromA ops F l.length k listed = true → dLex P G H F ops.toList Q l k σ → dAny P G H F ops Q l.length listed σ
  | [], _, _, _, _, hB, h => ⟨by simpa [lexFromA] using hB, h⟩
  | o :: l, k, listed, σ, hl, hB, h => by
    have h0 : ops[k]? = some o := by simpa using (hl 0).symm
    simp only [List.length_cons, lexFromA, Bool.and_eq_true] at hB
    obtain ⟨⟨hr, hf⟩, hB'⟩ := hB
    have ih := fun σ => dAny_lex (Q := Q) l (k + 1) (listed.setIfInBounds k true) σ (fun j => by have := hl (j + 1); simpa [Nat.add_assoc, Nat.add_comm 1 j] using this) hB'
    have hex : ∃ r, Does P G H ops (F k) o r σ ∧ dLex P G H F ops.toList Q l (k + 1) (σ.app o.dst r) := by
      rcases gate_iff.1 h with ⟨hw, r, h1, h2, h3⟩ | ⟨hw, h1⟩
      · exact ⟨r, .inl ⟨hw, h1, h2⟩, h3⟩
      · exact ⟨rv (.v undef), .inr ⟨hw, rfl⟩, by rw [← blank_app]; exact h1⟩
    obtain ⟨r, hd, hk⟩ := hex
    exact dAny_first h0 l.length listed σ (freeA_spec h0 hf) (by simpa using hr) hd (ih _ hk)

/-! ### Upon worlds -/

theorem kill_free {d : Nat} (h : Free d σ) : σ.kill d = σ := by
  obtain ⟨s, b, o⟩ := σ
  unfold St.kill
  congr 1
  · funext i; exact kill_id (h.s i)
  · funext i
    simp only [upd]
    split
    · rename_i he; subst he; exact h.b.symm
    · rfl
  · funext i
    simp only [upd]
    split
    · rename_i he; subst he; exact h.o.symm
    · rfl

theorem does_free {o : Oper} {r : Res} {A : List Nat × List Nat} {d : Nat} (h : Does P G H ops A o r σ) (hf : Free d σ) (hd : o.dst ≠ some d) : Free d (σ.app o.dst r) := by
  have key : refs r.val ≠ some d ∧ ∀ k ∈ resKeys r, k ≠ d := by
    rcases h with ⟨_, h2, _⟩ | ⟨_, rfl⟩
    · exact core_refs hf.s hd (noAssign_ne _) h2
    · exact ⟨by simp [refs], fun k hk => by simp [resKeys] at hk⟩
  have hk : d ∉ resKeys r := fun hm => key.2 d hm rfl
  refine ⟨fun i => ?_, by rw [app_b hk]; exact hf.b, by rw [app_o hk]; exact hf.o⟩
  by_cases hi : o.dst = some i
  · unfold St.app
    rw [hi]
    simp only [upd_same]
    exact key.1
  · rw [app_s hi]; exact hf.s i

theorem dAny_sound (hG : GlobOK G w0) (hN : ∀ (j : Nat) o d, ops[j]? = some o → o.dst = some d → d < N) (hdup : ∀ (i j : Nat) oi oj d, ops[i]? = some oi → ops[j]? = some oj → oi.dst = some d → oj.dst = some d → i = j) {Q : Exit → St → Prop} :
    ∀ (fuel : Nat) (listed : Array Bool) (σ : St) (a : Act) (w : World), (∀ (j : Nat) o d, ops[j]? = some o → isSite o.op = true → o.dst = some d → listed.getD j true = false → Free d σ) → Inv w0 N σ a w →
      dAny P G H F ops (Q .normal) fuel listed σ → wpAny P .any ops (lift w0 N Q) fuel listed a w
  | 0, _, σ, a, w, _, h, hq => ⟨hq.1, σ, h, hq.2⟩
  | fuel + 1, listed, σ, a, w, hfree, h, hq => by
    refine ⟨fun h0 => ⟨σ, h, hq.1 h0⟩, fun i hi => ?_⟩
    have hop := hq.2 i hi
    obtain ⟨hun, oi, hoi, _⟩ := mem_ready.1 hi
    unfold dOp at hop
    simp only [hoi] at hop
    obtain ⟨r, hd, hk⟩ := hop
    have hdN : ∀ d, oi.dst = some d → d < N := fun d hd => hN i oi d hoi hd
    have hfree' : ∀ (j : Nat) o d, ops[j]? = some o → isSite o.op = true → o.dst = some d → (listed.setIfInBounds i true).getD j true = false → Free d (σ.app oi.dst r) := fun j o d hj hs ho hun' => by
      have hne : j ≠ i := fun e => by
        subst e
        rcases Nat.lt_or_ge j listed.size with h' | h'
        · simp [h'] at hun'
        · rw [Array.setIfInBounds_eq_of_size_le h'] at hun'
          simp [Array.getElem?_eq_none h'] at hun'
      rw [getD_set_ne true (Ne.symm hne)] at hun'
      refine does_free hd (hfree j o d hj hs ho hun') fun e => hne (hdup j i o oi d hj hoi ho e)
    have ih := fun a' w' hi' => dAny_sound hG hN hdup (Q := Q) fuel (listed.setIfInBounds i true) (σ.app oi.dst r) a' w' hfree' hi' hk
    unfold wpOp
    simp only [hoi]
    rcases hd with ⟨hw, hc, _⟩ | ⟨hw, rfl⟩
    · have hw' : Region.wanted oi (yielded ops a.tmps) = true := by
        rcases gate_sound h hN (gate_iff.2 (.inl ⟨hw, trivial⟩) : gate ops.toList oi (fun _ => True) (fun _ => False) σ) with ⟨h1, _⟩ | ⟨_, h2⟩
        · exact h1
        · exact h2.elim
      rw [if_pos hw']
      obtain ⟨β, γ, h'⟩ := h
      have hcs := core_sound hG h' { oi with op := noAssign oi.op } hdN hc
      have hE : Eff P oi a w fun v w' => Inv w0 N (σ.step oi.dst r) (a.put oi.dst v) w' := by
        unfold Eff at hcs ⊢
        rw [exec_noAssign] at hcs
        exact hcs
      have hst : σ.step oi.dst r = σ.app oi.dst r := by
        unfold St.step
        cases hs : r.site with
        | false => rfl
        | true =>
          cases hdst : oi.dst with
          | none => rfl
          | some d =>
            have hsite : isSite oi.op = true := by
              have := core_site (noAssign_ne _) hc hs
              cases hop : oi.op <;> rw [hop] at this <;> simp [noAssign, isSite] at this ⊢
            simp only
            rw [kill_free (hfree i oi d hoi hsite hdst hun)]
      rw [hst] at hE
      exact .inl (eff_wp hE fun v w' hi' => ih _ _ hi')
    · have hw' : Region.wanted oi (yielded ops a.tmps) = false := by
        rcases gate_sound h hN (gate_iff.2 (.inr ⟨hw, trivial⟩) : gate ops.toList oi (fun _ => False) (fun _ => True) σ) with ⟨_, h1⟩ | ⟨h1, _⟩
        · exact h1.elim
        · exact h1
      rw [if_neg (by rw [hw']; simp)]
      refine ih _ _ ?_
      rw [← blank_app]
      exact h.blank hdN

def siteDsts (ops : List Oper) : List Nat := ops.filterMap fun o => if isSite o.op then o.dst else none
def killAll (l : List Nat) (σ : St) : St := l.foldr St.kill σ

theorem inv_killAll : ∀ (l : List Nat), Inv w0 N σ a w → Inv w0 N (killAll l σ) a w
  | [], h => h
  | d :: l, h => by
    obtain ⟨β, γ, h1⟩ := inv_killAll l h
    exact ⟨β, γ, h1.kill d⟩

theorem free_kill_of {d e : Nat} (h : Free d σ) : Free d (σ.kill e) := by
  refine ⟨fun i hi => ?_, ?_, ?_⟩
  · have : ∀ x : AV, refs (killAV e x) = some d → refs x = some d := fun x => by
      induction x with
      | sl tag sz xs => simp only [killAV, refs]; split <;> simp_all
      | bp k off => simp only [killAV]; split <;> simp [refs]
      | bs k off len => simp only [killAV]; split <;> simp [refs]
      | fn f k => simp only [killAV]; split <;> simp [refs]
      | tup x b c ih => simpa [killAV, refs] using ih
      | _ => simp [killAV, refs]
    exact h.s i (this _ hi)
  · simp only [St.kill, upd]; split
    · rfl
    · exact h.b
  · simp only [St.kill, upd]; split
    · rfl
    · exact h.o
theorem free_killAll {d : Nat} : ∀ {l : List Nat}, d ∈ l → Free d (killAll l σ)
  | [], h => by cases h
  | e :: l, h => by
    rcases List.mem_cons.1 h with rfl | h
    · exact free_kill _ _
    · exact free_kill_of (free_killAll h)

theorem nodup_spec : ∀ {l : List Oper}, nodupB (dsts l) = true → ∀ (i j : Nat) oi oj d, l[i]? = some oi → l[j]? = some oj → oi.dst = some d → oj.dst = some d → i = j
  | [], _, i, _, _, _, _, h, _, _, _ => by simp at h
  | o :: l, hn, i, j, oi, oj, d, hi, hj, h1, h2 => by
    have mem : ∀ (k : Nat) ok, l[k]? = some ok → ok.dst = some d → d ∈ dsts l := fun k ok hk hd => by
      simp only [dsts, List.mem_filterMap]
      exact ⟨ok, List.mem_of_getElem? hk, hd⟩
    have hn' : nodupB (dsts l) = true := by
      cases ho : o.dst with
      | none => simpa [dsts, ho] using hn
      | some x =>
        have : dsts (o :: l) = x :: dsts l := by simp [dsts, ho]
        rw [this] at hn
        simp only [nodupB, Bool.and_eq_true] at hn
        exact hn.2
    have hno : o.dst = some d → d ∉ dsts l := fun ho => by
      have : dsts (o :: l) = d :: dsts l := by simp [dsts, ho]
      rw [this] at hn
      simp only [nodupB, Bool.and_eq_true, Bool.not_eq_true', List.contains_eq_mem, decide_eq_false_iff_not] at hn
      exact hn.1
    cases i with
    | zero =>
      simp only [List.getElem?_cons_zero, Option.some.injEq] at hi
      subst hi
      cases j with
      | zero => rfl
      | succ j => exact absurd (mem j oj (by simpa using hj) h2) (hno h1)
    | succ i =>
      cases j with
      | zero =>
        simp only [List.getElem?_cons_zero, Option.some.injEq] at hj
        subst hj
        exact absurd (mem i oi (by simpa using hi) h1) (hno h2)
      | succ j => rw [nodup_spec hn' i j oi oj d (by simpa using hi) (by simpa using hj) h1 h2]

/-- **A REGION THAT DRAWS**: the Bool over the text, and one walk in the text's order. F: by region and operation, which names it may read and write. -/
def adraw (P : Program) (G : Nat → List Value) (H : Nat → Bool) (F : Nat → Nat → List Nat × List Nat) (id : Nat) (ops : List Oper) (Q : St → Prop) (σ : St) : Prop :=
  lexA ops (F id) = true ∧ dLex P G H (F id) ops Q ops 0 (killAll (siteDsts ops) σ)

theorem adraw_sound {F : Nat → Nat → List Nat × List Nat} (hm : P.follows .mixedOrders = true) : DrawOK P G (adraw P G H F) := by
  intro w0 N id ops Q σ a w hG hN h hq
  obtain ⟨hl, hq⟩ := hq
  simp only [lexA, Bool.and_eq_true, Array.toArray_toList, Array.length_toList] at hl
  refine wp_region_any hm ?_
  have hN' : ∀ (j : Nat) o d, ops[j]? = some o → o.dst = some d → d < N := fun j o d ho hd => hN o (Array.mem_toList_iff.2 (Array.mem_of_getElem? ho)) d hd
  have hi : Inv w0 N (killAll (siteDsts ops.toList) σ) a { w with drawn := w.drawn + 1 } := by
    obtain ⟨β, γ, h1⟩ := inv_killAll (siteDsts ops.toList) h
    exact ⟨β, γ, h1.ext (Below.refl _ w).drew⟩
  refine dAny_sound (H := H) (F := F id) hG hN' (fun i j oi oj d h1 h2 => nodup_spec hl.2 i j oi oj d (by simpa using h1) (by simpa using h2)) ops.size _ _ a _ (fun j o d hj hs hd _ => free_killAll ?_) hi ?_
  · simp only [siteDsts, List.mem_filterMap]
    exact ⟨o, Array.mem_toList_iff.2 (Array.mem_of_getElem? hj), by rw [if_pos hs]; exact hd⟩
  · have := dAny_lex (P := P) (G := G) (H := H) (Q := Q .normal) (F := F id) (ops := ops) ops.toList 0 (Array.replicate ops.size false) (killAll (siteDsts ops.toList) σ) (by simp) (by simpa using hl.1) hq
    simpa using this

end Abs
end Go.Proofs.YtkdpmjgigknbpaaDoor
