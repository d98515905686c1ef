/-
  What a step does to an abstract state: a slot is written; a name is taken away; a block is new; a variable or the end of a slice is written.
-/
import Derived.Test.YtkdpmjgigknbpaaDoorA1
namespace Go.Proofs.YtkdpmjgigknbpaaDoor
namespace Abs
open Go.RowKit

variable {w0 w w' : World} {N : Nat} {β : Nat → Nat} {γ : Nat → Option Nat} {σ : St} {a : Act}

def St.set (σ : St) (d : Nat) (x : AV) : St := { σ with s := upd σ.s d x }

theorem put_getD (a : Act) (d i : Nat) (v : Value) (hd : d < a.tmps.size) : (a.put (some d) v).tmps.getD i undef = if i = d then v else a.tmps.getD i undef := by
  simp only [Act.put, Array.getD_eq_getD_getElem?, Array.getElem?_setIfInBounds]
  by_cases h : i = d
  · subst h; simp [hd]
  · simp [h, Ne.symm h]

/-- A slot is written. -/
theorem InvAt.put (h : InvAt w0 N β γ σ a w) {d : Nat} (hd : d < N) {x : AV} {v : Value} (hx : Rel w (Safe w0.heap.size β γ σ) β γ σ.o x v) :
    InvAt w0 N β γ (σ.set d x) (a.put (some d) v) w :=
  { below := h.below, defers := h.defers, size := by simp [Act.put, h.size]
    slots := fun i => by
      rw [put_getD a d i v (by rw [h.size]; exact hd)]
      by_cases hi : i = d
      · subst hi
        simp only [St.set, upd_same, if_true]
        exact hx
      · simp only [St.set, upd_ne _ _ hi, if_neg hi]
        exact h.slots i
    box := h.box, own := h.own, injb := h.injb, injo := h.injo, bo := h.bo }

theorem InvAt.skip (h : InvAt w0 N β γ σ a w) (v : Value) : InvAt w0 N β γ σ (a.put none v) w := h

/-- A name is taken away: who read under it reads on, and can no longer write. -/
def killAV (d : Nat) : AV → AV
  | .sl tag sz xs => .sl (if tag = some d then none else tag) sz xs
  | .bp k off => if k = d then .bot else .bp k off
  | .bs k off len => if k = d then .bot else .bs k off len
  | .fn f k => if k = d then .bot else .fn f k
  | .tup a b c => .tup (killAV d a) b c
  | .bot => .bot
  | .v x => .v x
  | .ep xs => .ep xs
  | .cl sz xs => .cl sz xs
  | .emp sz => .emp sz

theorem refs_kill (d : Nat) : ∀ x : AV, refs (killAV d x) ≠ some d
  | .bot => by simp [killAV, refs]
  | .v _ => by simp [killAV, refs]
  | .ep _ => by simp [killAV, refs]
  | .cl _ _ => by simp [killAV, refs]
  | .emp _ => by simp [killAV, refs]
  | .sl tag _ _ => by simp only [killAV, refs]; split <;> simp_all
  | .bp k _ => by simp only [killAV]; split <;> simp_all [refs]
  | .bs k _ _ => by simp only [killAV]; split <;> simp_all [refs]
  | .fn _ k => by simp only [killAV]; split <;> simp_all [refs]
  | .tup a _ _ => by simpa [killAV, refs] using refs_kill d a

theorem kill_id {d : Nat} : ∀ {x : AV}, refs x ≠ some d → killAV d x = x
  | .bot, _ => rfl
  | .v _, _ => rfl
  | .ep _, _ => rfl
  | .cl _ _, _ => rfl
  | .emp _, _ => rfl
  | .sl tag _ _, h => by simp only [refs] at h; simp [killAV, h]
  | .bp k _, h => by simp only [refs] at h; simp only [killAV]; rw [if_neg (by simpa using h)]
  | .bs k _ _, h => by simp only [refs] at h; simp only [killAV]; rw [if_neg (by simpa using h)]
  | .fn _ k, h => by simp only [refs] at h; simp only [killAV]; rw [if_neg (by simpa using h)]
  | .tup a _ _, h => by simp only [refs] at h; simp only [killAV, kill_id h]

def St.kill (d : Nat) (σ : St) : St := { s := fun i => killAV d (σ.s i), b := upd σ.b d none, o := upd σ.o d none }

theorem Rel.kill {S : Nat → Nat → Prop} {o : Nat → Option Nat} (d : Nat) : ∀ {x : AV} {u : Value}, Rel w S β γ o x u → Rel w S β γ o (killAV d x) u
  | .bot, _, h => h
  | .v _, _, h => h
  | .ep _, _, h => h
  | .cl _ _, _, h => h
  | .emp _, _, h => h
  | .sl tag sz xs, u, h => by
    obtain ⟨a, n, c, h1, h2, h3, h4, h5, h6⟩ := h
    refine ⟨a, n, c, h1, h2, h3, h4, h5, fun t m ht hm => ?_⟩
    by_cases hd : tag = some d
    · simp [hd] at ht
    · rw [if_neg hd] at ht
      exact h6 t m ht hm
  | .bp k off, u, h => by
    simp only [killAV]; split
    · trivial
    · exact h
  | .bs k off len, u, h => by
    simp only [killAV]; split
    · trivial
    · exact h
  | .fn f k, u, h => by
    simp only [killAV]; split
    · trivial
    · exact h
  | .tup a b c, u, h => by
    obtain ⟨x, h1, h2⟩ := h
    exact ⟨x, h1, Rel.kill d h2⟩

theorem Safe.kill {base g p : Nat} (d : Nat) (h : Safe base β γ σ g p) : Safe base β γ (σ.kill d) g p := by
  rcases h with h | ⟨h1, h2⟩
  · exact .inl h
  · refine .inr ⟨fun k hk => h1 k (fun e => hk ?_), fun t m ht hg => h2 t m ?_ hg⟩
    · simp only [St.kill, upd]; split <;> simp_all
    · simp only [St.kill, upd] at ht; split at ht <;> simp_all

theorem kill_b {d k : Nat} {σ : St} (h : (σ.kill d).b k ≠ none) : k ≠ d ∧ σ.b k ≠ none := by
  simp only [St.kill, upd] at h
  split at h
  · exact absurd rfl h
  · exact ⟨by assumption, h⟩
theorem kill_o {d t : Nat} {σ : St} (h : (σ.kill d).o t ≠ none) : t ≠ d ∧ σ.o t ≠ none := by
  simp only [St.kill, upd] at h
  split at h
  · exact absurd rfl h
  · exact ⟨by assumption, h⟩
theorem kill_b_eq {d k : Nat} {σ : St} (h : k ≠ d) : (σ.kill d).b k = σ.b k := by simp [St.kill, upd, h]
theorem kill_o_eq {d k : Nat} {σ : St} (h : k ≠ d) : (σ.kill d).o k = σ.o k := by simp [St.kill, upd, h]

theorem InvAt.kill (h : InvAt w0 N β γ σ a w) (d : Nat) : InvAt w0 N β γ (σ.kill d) a w := by
  have hS : Stays w (Safe w0.heap.size β γ σ) (Safe w0.heap.size β γ (σ.kill d)) := fun g p _ hs => hs.kill d
  have hk := Keeps.refl (Safe w0.heap.size β γ σ) w
  refine { below := h.below, defers := h.defers, size := h.size, slots := fun i => ?_, box := fun k cs hc => ?_, own := fun t m g ht hg => ?_, injb := fun k k' h1 h2 => h.injb k k' (kill_b h1).2 (kill_b h2).2, injo := fun t t' g h1 h2 => h.injo t t' g (kill_o h1).2 (kill_o h2).2, bo := fun k t h1 h2 => h.bo k t (kill_b h1).2 (kill_o h2).2 }
  · refine Rel.mono hk hS (o := σ.o) (γ := γ) (β := β) (fun t ht => ⟨rfl, fun m hm => ⟨rfl, ?_, fun g cur e _ hc => ⟨cur, e, hc, rfl⟩⟩⟩) ((h.slots i).kill d)
    have := kill_o (d := d) (σ := σ) (t := t) (by rw [hm]; simp)
    rw [kill_o_eq this.1] at hm
    exact ⟨m, hm⟩
  · have := kill_b (d := d) (σ := σ) (k := k) (by rw [hc]; simp)
    rw [kill_b_eq this.1] at hc
    obtain ⟨h1, h2⟩ := h.box k cs hc
    exact ⟨h1, h2.mono hk hS rfl⟩
  · have := kill_o (d := d) (σ := σ) (t := t) (by rw [ht]; simp)
    rw [kill_o_eq this.1] at ht
    exact h.own t m g ht hg

/-- Nothing names d. -/
structure Free (d : Nat) (σ : St) : Prop where
  s : ∀ i, refs (σ.s i) ≠ some d
  b : σ.b d = none
  o : σ.o d = none
theorem free_kill (d : Nat) (σ : St) : Free d (σ.kill d) := ⟨fun i => refs_kill d (σ.s i), by simp [St.kill, upd], by simp [St.kill, upd]⟩

/-- The blocks that a state speaks of are there. -/
theorem InvAt.box_lt (h : InvAt w0 N β γ σ a w) {k : Nat} (hk : σ.b k ≠ none) : β k < w.heap.size := by
  cases hc : σ.b k with
  | none => exact absurd hc hk
  | some cs =>
    obtain ⟨_, cur, e, h2, _⟩ := h.box k cs hc
    exact (Array.getElem?_eq_some_iff.1 h2).1
theorem InvAt.own_lt (h : InvAt w0 N β γ σ a w) {t g : Nat} (hk : σ.o t ≠ none) (hg : γ t = some g) : g < w.heap.size := by
  cases hc : σ.o t with
  | none => exact absurd hc hk
  | some m =>
    obtain ⟨_, cur, e, h2, _⟩ := h.own t m g hc hg
    exact (Array.getElem?_eq_some_iff.1 h2).1
theorem InvAt.base_le (h : InvAt w0 N β γ σ a w) : w0.heap.size ≤ w.heap.size := h.below.size

/-- The world grows: old blocks stand. -/
theorem InvAt.ext (h : InvAt w0 N β γ σ a w) (hb : Below w.heap.size w w') : InvAt w0 N β γ σ a w' := by
  have hk : Keeps (Safe w0.heap.size β γ σ) w w' := keeps_of_old hb.block
  have hS := Stays.refl w (Safe w0.heap.size β γ σ)
  refine { below := h.below.trans (hb.mono h.base_le), defers := h.defers, size := h.size, slots := fun i => ?_, box := fun k cs hc => ?_, own := fun t m g ht hg => ?_, injb := h.injb, injo := h.injo, bo := h.bo }
  · refine Rel.mono hk hS (fun t _ => ⟨rfl, fun m hm => ⟨rfl, ⟨m, hm⟩, fun g cur e hg hc => ⟨cur, e, ?_, rfl⟩⟩⟩) (h.slots i)
    rw [hb.block g (h.own_lt (by rw [hm]; simp) hg)]; exact hc
  · obtain ⟨h1, h2⟩ := h.box k cs hc
    exact ⟨h1, h2.mono hk hS (hb.block _ (h.box_lt (by rw [hc]; simp)))⟩
  · obtain ⟨h1, cur, e, h2, h3⟩ := h.own t m g ht hg
    exact ⟨h1, cur, e, by rw [hb.block g (h.own_lt (by rw [ht]; simp) hg)]; exact h2, h3⟩

/-- Readers of a state's slots, in a world that has grown by a block that is now a variable's or a slice's own. -/
theorem Below.of_alloc (w : World) (o : Obj) : Below w.heap.size w (w.alloc o) := (Below.refl _ _).alloc (Nat.le_refl _) o

/-- A new block is a variable's. -/
theorem InvAt.newBox (h : InvAt w0 N β γ σ a w) {d : Nat} (hf : Free d σ) (hb : Below w.heap.size w w') {g : Nat} (hg : w.heap.size ≤ g) {cs : List CV}
    (hbox : ∃ cur e, w'.heap[g]? = some (.cells cur e (0, 0)) ∧ cs.length ≤ cur.size ∧ ∀ (j : Nat) x, cs[j]? = some x → ∃ u, cur[j]? = some u ∧ CRel w (Safe w0.heap.size β γ σ) x u) :
    InvAt w0 N (upd β d g) γ { σ with b := upd σ.b d (some cs) } a w' ∧ Keeps (Safe w0.heap.size β γ σ) w w' ∧ Stays w (Safe w0.heap.size β γ σ) (Safe w0.heap.size (upd β d g) γ { σ with b := upd σ.b d (some cs) }) := by
  have hk : Keeps (Safe w0.heap.size β γ σ) w w' := keeps_of_old hb.block
  have hS : Stays w (Safe w0.heap.size β γ σ) (Safe w0.heap.size (upd β d g) γ { σ with b := upd σ.b d (some cs) }) := by
    intro g' p hlt hs
    rcases hs with hs | ⟨h1, h2⟩
    · exact .inl hs
    · refine .inr ⟨fun k hk => ?_, h2⟩
      by_cases hkd : k = d
      · subst hkd; rw [upd_same]; omega
      · rw [upd_ne _ _ hkd]; exact h1 k (by simpa [upd, hkd] using hk)
  have hbne : ∀ k, k ≠ d → (upd σ.b d (some cs)) k = σ.b k := fun k hk => upd_ne _ _ hk
  refine ⟨?_, hk, hS⟩
  refine { below := h.below.trans (hb.mono h.base_le), defers := h.defers, size := h.size, slots := fun i => ?_, box := fun k cs' hc => ?_, own := fun t m g' ht hg' => ?_, injb := fun k k' h1 h2 he => ?_, injo := h.injo, bo := fun k t h1 h2 he => ?_ }
  · refine Rel.mono hk hS (fun t ht => ⟨upd_ne _ _ (fun e => hf.s i (by rw [ht, e])), fun m hm => ⟨rfl, ⟨m, hm⟩, fun g' cur e hg' hc => ⟨cur, e, ?_, rfl⟩⟩⟩) (h.slots i)
    rw [hb.block g' (h.own_lt (by rw [hm]; simp) hg')]; exact hc
  · by_cases hkd : k = d
    · subst hkd
      simp only [upd_same, Option.some.injEq] at hc
      subst hc
      rw [upd_same]
      obtain ⟨cur, e, k1, k2, k3⟩ := hbox
      refine ⟨Nat.le_trans h.base_le hg, cur, e, k1, k2, fun j x hx => ?_⟩
      obtain ⟨u, k4, k5⟩ := k3 j x hx
      exact ⟨u, k4, k5.mono hk hS⟩
    · simp only [hbne k hkd] at hc
      rw [upd_ne _ _ hkd]
      obtain ⟨h1, h2⟩ := h.box k cs' hc
      exact ⟨h1, h2.mono hk hS (hb.block _ (h.box_lt (by rw [hc]; simp)))⟩
  · obtain ⟨h1, cur, e, h2, h3⟩ := h.own t m g' ht hg'
    exact ⟨h1, cur, e, by rw [hb.block g' (h.own_lt (by rw [ht]; simp) hg')]; exact h2, h3⟩
  · by_cases hkd : k = d <;> by_cases hkd' : k' = d
    · rw [hkd, hkd']
    · subst hkd
      rw [upd_same, upd_ne _ _ hkd'] at he
      have := h.box_lt (k := k') (by simpa [hbne k' hkd'] using h2)
      omega
    · subst hkd'
      rw [upd_same, upd_ne _ _ hkd] at he
      have := h.box_lt (k := k) (by simpa [hbne k hkd] using h1)
      omega
    · rw [upd_ne _ _ hkd, upd_ne _ _ hkd'] at he
      exact h.injb k k' (by simpa [hbne k hkd] using h1) (by simpa [hbne k' hkd'] using h2) he
  · by_cases hkd : k = d
    · subst hkd
      rw [upd_same] at he
      have := h.own_lt (t := t) h2 he
      omega
    · rw [upd_ne _ _ hkd] at he
      exact h.bo k t (by simpa [hbne k hkd] using h1) h2 he

/-- A slice value of the call's own, that may be appended to: nil; or at the head of a new block. -/
theorem InvAt.newRow (h : InvAt w0 N β γ σ a w) {d : Nat} (hf : Free d σ) (hb : Below w.heap.size w w') {go : Option Nat} {m : Nat}
    (hrow : ∀ g, go = some g → w.heap.size ≤ g ∧ ∃ cur e, w'.heap[g]? = some (.cells cur e (0, 0)) ∧ m ≤ cur.size) :
    InvAt w0 N β (upd γ d go) { σ with o := upd σ.o d (some m) } a w' ∧ Keeps (Safe w0.heap.size β γ σ) w w' ∧ Stays w (Safe w0.heap.size β γ σ) (Safe w0.heap.size β (upd γ d go) { σ with o := upd σ.o d (some m) }) := by
  have hk : Keeps (Safe w0.heap.size β γ σ) w w' := keeps_of_old hb.block
  have hS : Stays w (Safe w0.heap.size β γ σ) (Safe w0.heap.size β (upd γ d go) { σ with o := upd σ.o d (some m) }) := by
    intro g' p hlt hs
    rcases hs with hs | ⟨h1, h2⟩
    · exact .inl hs
    · refine .inr ⟨h1, fun t m' ht hg' => ?_⟩
      by_cases htd : t = d
      · subst htd
        rw [upd_same] at hg'
        have := (hrow g' hg').1
        omega
      · rw [upd_ne _ _ htd] at hg'
        exact h2 t m' (by simpa [upd, htd] using ht) hg'
  have hone : ∀ k, k ≠ d → (upd σ.o d (some m)) k = σ.o k := fun k hk => upd_ne _ _ hk
  refine ⟨?_, hk, hS⟩
  refine { below := h.below.trans (hb.mono h.base_le), defers := h.defers, size := h.size, slots := fun i => ?_, box := fun k cs' hc => ?_, own := fun t m' g' ht hg' => ?_, injb := h.injb, injo := fun t t' g' h1 h2 e1 e2 => ?_, bo := fun k t h1 h2 he => ?_ }
  · refine Rel.mono hk hS (fun t ht => ⟨rfl, fun m' hm => ?_⟩) (h.slots i)
    have htd : t ≠ d := fun e => hf.s i (by rw [ht, e])
    simp only [hone t htd] at hm
    refine ⟨upd_ne _ _ htd, ⟨m', hm⟩, fun g' cur e hg' hc => ⟨cur, e, ?_, rfl⟩⟩
    rw [hb.block g' (h.own_lt (by rw [hm]; simp) hg')]; exact hc
  · obtain ⟨h1, h2⟩ := h.box k cs' hc
    exact ⟨h1, h2.mono hk hS (hb.block _ (h.box_lt (by rw [hc]; simp)))⟩
  · by_cases htd : t = d
    · subst htd
      simp only [upd_same, Option.some.injEq] at ht
      subst ht
      rw [upd_same] at hg'
      obtain ⟨k1, cur, e, k2, k3⟩ := hrow g' hg'
      exact ⟨Nat.le_trans h.base_le k1, cur, e, k2, k3⟩
    · simp only [hone t htd] at ht
      rw [upd_ne _ _ htd] at hg'
      obtain ⟨h1, cur, e, h2, h3⟩ := h.own t m' g' ht hg'
      exact ⟨h1, cur, e, by rw [hb.block g' (h.own_lt (by rw [ht]; simp) hg')]; exact h2, h3⟩
  · by_cases htd : t = d <;> by_cases htd' : t' = d
    · rw [htd, htd']
    · subst htd
      rw [upd_same] at e1
      rw [upd_ne _ _ htd'] at e2
      have := h.own_lt (t := t') (by simpa [hone t' htd'] using h2) e2
      have := (hrow g' e1).1
      omega
    · subst htd'
      rw [upd_same] at e2
      rw [upd_ne _ _ htd] at e1
      have := h.own_lt (t := t) (by simpa [hone t htd] using h1) e1
      have := (hrow g' e2).1
      omega
    · rw [upd_ne _ _ htd] at e1
      rw [upd_ne _ _ htd'] at e2
      exact h.injo t t' g' (by simpa [hone t htd] using h1) (by simpa [hone t' htd'] using h2) e1 e2
  · by_cases htd : t = d
    · subst htd
      rw [upd_same] at he
      have := h.box_lt (k := k) h1
      have := (hrow _ he).1
      omega
    · rw [upd_ne _ _ htd] at he
      exact h.bo k t h1 (by simpa [hone t htd] using h2) he

/-- Less is known. -/
theorem InvAt.weaken {σ' : St} (h : InvAt w0 N β γ σ a w) (hs : ∀ i u, Rel w (Safe w0.heap.size β γ σ) β γ σ.o (σ.s i) u → Rel w (Safe w0.heap.size β γ σ) β γ σ.o (σ'.s i) u)
    (hb : ∀ k cs, σ'.b k = some cs → σ.b k = some cs) (ho : ∀ t m, σ'.o t = some m → σ.o t = some m) : InvAt w0 N β γ σ' a w := by
  have hb' : ∀ k, σ'.b k ≠ none → σ.b k ≠ none := fun k hk => by
    cases hc : σ'.b k with
    | none => exact absurd hc hk
    | some cs => rw [hb k cs hc]; simp
  have ho' : ∀ k, σ'.o k ≠ none → σ.o k ≠ none := fun k hk => by
    cases hc : σ'.o k with
    | none => exact absurd hc hk
    | some cs => rw [ho k cs hc]; simp
  have hS : Stays w (Safe w0.heap.size β γ σ) (Safe w0.heap.size β γ σ') := fun g p _ hs => hs.imp id fun ⟨h1, h2⟩ => ⟨fun k hk => h1 k (hb' k hk), fun t m ht => h2 t m (ho t m ht)⟩
  have hk := Keeps.refl (Safe w0.heap.size β γ σ) w
  refine { below := h.below, defers := h.defers, size := h.size, slots := fun i => ?_, box := fun k cs hc => ?_, own := fun t m g ht hg => h.own t m g (ho t m ht) hg, injb := fun k k' h1 h2 => h.injb k k' (hb' k h1) (hb' k' h2), injo := fun t t' g h1 h2 => h.injo t t' g (ho' t h1) (ho' t' h2), bo := fun k t h1 h2 => h.bo k t (hb' k h1) (ho' t h2) }
  · exact Rel.mono hk hS (fun t _ => ⟨rfl, fun m hm => ⟨rfl, ⟨m, ho t m hm⟩, fun g cur e _ hc => ⟨cur, e, hc, rfl⟩⟩⟩) (hs i _ (h.slots i))
  · obtain ⟨h1, h2⟩ := h.box k cs (hb k cs hc)
    exact ⟨h1, h2.mono hk hS rfl⟩

/-- A variable's block is written. -/
theorem InvAt.storeBox (h : InvAt w0 N β γ σ a w) {k : Nat} {cs cs' : List CV} (hc : σ.b k = some cs)
    (hb : Below w0.heap.size w w') (hoth : ∀ g, g ≠ β k → w'.heap[g]? = w.heap[g]?)
    (hbox : ∃ cur e, w'.heap[β k]? = some (.cells cur e (0, 0)) ∧ cs'.length ≤ cur.size ∧ ∀ (j : Nat) x, cs'[j]? = some x → ∃ u, cur[j]? = some u ∧ CRel w (Safe w0.heap.size β γ σ) x u) :
    InvAt w0 N β γ { σ with b := upd σ.b k (some cs') } a w' := by
  obtain ⟨hge, _⟩ := h.box k cs hc
  have hkn : σ.b k ≠ none := by rw [hc]; simp
  have hk : Keeps (Safe w0.heap.size β γ σ) w w' := fun ad u hu hs => by
    have hne : ad.block ≠ β k := by
      rcases hs with hs | ⟨h1, _⟩
      · omega
      · exact Ne.symm (h1 k hkn)
    rw [World.cell?_of_block (w := w) (hoth _ hne)]; exact hu
  have hbn : ∀ k', (upd σ.b k (some cs')) k' ≠ none ↔ σ.b k' ≠ none := fun k' => by
    simp only [upd]; split
    · rename_i he; subst he; simp [hkn]
    · rfl
  have hS : Stays w (Safe w0.heap.size β γ σ) (Safe w0.heap.size β γ { σ with b := upd σ.b k (some cs') }) := fun g p _ hs => hs.imp id fun ⟨h1, h2⟩ => ⟨fun k' hk' => h1 k' ((hbn k').1 hk'), h2⟩
  refine { below := h.below.trans hb, defers := h.defers, size := h.size, slots := fun i => ?_, box := fun k' cs'' hc' => ?_, own := fun t m g ht hg => ?_, injb := fun k1 k2 h1 h2 => h.injb k1 k2 ((hbn k1).1 h1) ((hbn k2).1 h2), injo := h.injo, bo := fun k' t h1 h2 => h.bo k' t ((hbn k').1 h1) h2 }
  · refine Rel.mono hk hS (fun t _ => ⟨rfl, fun m hm => ⟨rfl, ⟨m, hm⟩, fun g cur e hg hcu => ⟨cur, e, ?_, rfl⟩⟩⟩) (h.slots i)
    rw [hoth g (fun e => h.bo k t hkn (by rw [hm]; simp) (by rw [hg, e]))]; exact hcu
  · by_cases hkk : k' = k
    · subst hkk
      simp only [upd_same, Option.some.injEq] at hc'
      subst hc'
      obtain ⟨cur, e, k1, k2, k3⟩ := hbox
      refine ⟨hge, cur, e, k1, k2, fun j x hx => ?_⟩
      obtain ⟨u, k4, k5⟩ := k3 j x hx
      exact ⟨u, k4, k5.mono hk hS⟩
    · simp only [upd_ne _ _ hkk] at hc'
      obtain ⟨h1, h2⟩ := h.box k' cs'' hc'
      exact ⟨h1, h2.mono hk hS (hoth _ (fun e => hkk (h.injb k' k (by rw [hc']; simp) hkn e)))⟩
  · obtain ⟨h1, cur, e, h2, h3⟩ := h.own t m g ht hg
    refine ⟨h1, cur, e, ?_, h3⟩
    rw [hoth g (fun e' => h.bo k t hkn (by rw [ht]; simp) (by rw [hg, e']))]; exact h2

/-- Behind the end of a slice of the call's own something is written: the old name's right goes over to a new one. -/
theorem InvAt.appendRoom (h : InvAt w0 N β γ σ a w) {t d m m' g : Nat} (ht : σ.o t = some m) (hg : γ t = some g)
    (hb : Below w0.heap.size w w') (hoth : ∀ g', g' ≠ g → w'.heap[g']? = w.heap[g']?) (hm : m ≤ m')
    (hrow : ∃ cur cur' e, w.heap[g]? = some (.cells cur e (0, 0)) ∧ w'.heap[g]? = some (.cells cur' e (0, 0)) ∧ cur'.size = cur.size ∧ m' ≤ cur'.size ∧ ∀ p, p < m → cur'[p]? = cur[p]?) :
    InvAt w0 N β (upd γ d (some g)) { s := fun i => killAV d (σ.s i), b := upd σ.b d none, o := upd (upd σ.o t none) d (some m') } a w' ∧ Keeps (Safe w0.heap.size β γ σ) w w' ∧
      Stays w (Safe w0.heap.size β γ σ) (Safe w0.heap.size β (upd γ d (some g)) { s := fun i => killAV d (σ.s i), b := upd σ.b d none, o := upd (upd σ.o t none) d (some m') }) := by
  obtain ⟨cur, cur', e, c1, c2, c3, c4, c5⟩ := hrow
  have hge := (h.own t m g ht hg).1
  have htn : σ.o t ≠ none := by rw [ht]; simp
  have hk : Keeps (Safe w0.heap.size β γ σ) w w' := fun ad u hu hs => by
    by_cases hne : ad.block = g
    · rcases hs with hs | ⟨_, h2⟩
      · omega
      · have hp := h2 t m ht (by rw [hne]; exact hg)
        unfold World.cell? at hu ⊢
        rw [hne] at hu ⊢
        rw [c1] at hu
        rw [c2]
        simp only at hu ⊢
        split at hu
        · cases hu
        · rename_i hsp
          rw [if_neg hsp, c5 _ hp]; exact hu
    · rw [World.cell?_of_block (w := w) (hoth _ hne)]; exact hu
  have hbn : ∀ k, (upd σ.b d none) k ≠ none → k ≠ d ∧ σ.b k ≠ none := fun k hk => kill_b (σ := σ) (d := d) (by simpa [St.kill] using hk)
  have hon : ∀ t' , t' ≠ d → ∀ m1, (upd (upd σ.o t none) d (some m')) t' = some m1 → t' ≠ t ∧ σ.o t' = some m1 := fun t' hd m1 h1 => by
    rw [upd_ne _ _ hd] at h1
    by_cases htt : t' = t
    · subst htt; rw [upd_same] at h1; cases h1
    · rw [upd_ne _ _ htt] at h1; exact ⟨htt, h1⟩
  have hS : Stays w (Safe w0.heap.size β γ σ) (Safe w0.heap.size β (upd γ d (some g)) { s := fun i => killAV d (σ.s i), b := upd σ.b d none, o := upd (upd σ.o t none) d (some m') }) := by
    intro g' p _ hs
    rcases hs with hs | ⟨h1, h2⟩
    · exact .inl hs
    · refine .inr ⟨fun k hk => h1 k (hbn k hk).2, fun t' m1 ht' hg' => ?_⟩
      by_cases hd : t' = d
      · subst hd
        simp only [upd_same, Option.some.injEq] at ht' hg'
        subst ht' hg'
        have := h2 t m ht hg
        omega
      · rw [upd_ne _ _ hd] at hg'
        exact h2 t' m1 (hon t' hd m1 ht').2 hg'
  have key : ∀ t', t' ≠ d → (upd (upd σ.o t none) d (some m')) t' ≠ none → t' ≠ t ∧ σ.o t' ≠ none := fun t' hd hn => by
    cases hc : (upd (upd σ.o t none) d (some m')) t' with
    | none => exact absurd hc hn
    | some m1 => obtain ⟨x, y⟩ := hon t' hd m1 hc; exact ⟨x, by rw [y]; simp⟩
  refine ⟨?_, hk, hS⟩
  refine { below := h.below.trans hb, defers := h.defers, size := h.size, slots := fun i => ?_, box := fun k cs hc => ?_, own := fun t' m1 g' ht' hg' => ?_, injb := fun k k' h1 h2 => h.injb k k' (hbn k h1).2 (hbn k' h2).2, injo := fun t1 t2 g' h1 h2 e1 e2 => ?_, bo := fun k t1 h1 h2 he => ?_ }
  · refine Rel.mono hk hS (fun t' ht' => ?_) ((h.slots i).kill d)
    have hd : t' ≠ d := fun e => refs_kill d (σ.s i) (by rw [ht', e])
    refine ⟨rfl, fun m1 hm1 => ?_⟩
    obtain ⟨htt, hm2⟩ := hon t' hd m1 hm1
    refine ⟨upd_ne _ _ hd, ⟨m1, hm2⟩, fun g' cur1 e1 hg' hc1 => ⟨cur1, e1, ?_, rfl⟩⟩
    rw [hoth g' (fun e' => htt (h.injo t' t g (by rw [hm2]; simp) htn (by rw [hg', e']) hg))]; exact hc1
  · replace hc : upd σ.b d none k = some cs := hc
    obtain ⟨hkd, hkn⟩ := hbn k (by rw [hc]; simp)
    rw [upd_ne _ _ hkd] at hc
    obtain ⟨h1, h2⟩ := h.box k cs hc
    exact ⟨h1, h2.mono hk hS (hoth _ (fun e' => h.bo k t hkn htn (by rw [hg, e'])))⟩
  · by_cases hd : t' = d
    · subst hd
      simp only [upd_same, Option.some.injEq] at ht' hg'
      subst ht' hg'
      exact ⟨hge, cur', e, c2, c4⟩
    · rw [upd_ne _ _ hd] at hg'
      obtain ⟨htt, ho⟩ := hon t' hd m1 ht'
      obtain ⟨h1, cur1, e1, h2, h3⟩ := h.own t' m1 g' ho hg'
      refine ⟨h1, cur1, e1, ?_, h3⟩
      rw [hoth g' (fun e' => htt (h.injo t' t g (by rw [ho]; simp) htn (by rw [hg', e']) hg))]; exact h2
  · by_cases hd1 : t1 = d <;> by_cases hd2 : t2 = d
    · rw [hd1, hd2]
    · subst hd1
      rw [upd_same] at e1
      rw [upd_ne _ _ hd2] at e2
      obtain ⟨x, y⟩ := key t2 hd2 h2
      simp only [Option.some.injEq] at e1
      subst e1
      exact absurd (h.injo t2 t g y htn e2 hg) x
    · subst hd2
      rw [upd_same] at e2
      rw [upd_ne _ _ hd1] at e1
      obtain ⟨x, y⟩ := key t1 hd1 h1
      simp only [Option.some.injEq] at e2
      subst e2
      exact absurd (h.injo t1 t g y htn e1 hg) x
    · rw [upd_ne _ _ hd1] at e1
      rw [upd_ne _ _ hd2] at e2
      exact h.injo t1 t2 g' (key t1 hd1 h1).2 (key t2 hd2 h2).2 e1 e2
  · obtain ⟨hkd, hkn⟩ := hbn k h1
    by_cases hd : t1 = d
    · subst hd
      simp only [upd_same, Option.some.injEq] at he
      exact h.bo k t hkn htn (by rw [hg, he])
    · rw [upd_ne _ _ hd] at he
      exact h.bo k t1 hkn (key t1 hd h2).2 he

end Abs
end Go.Proofs.YtkdpmjgigknbpaaDoor
