/-
  Each operation does upon worlds what 'core' says of abstract states: all of them.
-/
import Derived.Test.YtkdpmjgigknbpaaDoorA9
namespace Go.Proofs.YtkdpmjgigknbpaaDoor
namespace Abs
open Go.RowKit
set_option linter.unusedSimpArgs false

variable {P : Program} {G : Nat → List Value} {H : Nat → Bool} {w0 w w' : World} {N : Nat} {β : Nat → Nat} {γ : Nat → Option Nat} {σ : St} {a : Act} {S : Nat → Nat → Prop} {o : Nat → Option Nat}

theorem step_assign (h : InvAt w0 N β γ σ a w) {dst : Option Nat} (hd : ∀ d, dst = some d → d < N) {ty : Option Nat} {x : AV} {u : Value} {r : Res} (hx : Rel w (Safe w0.heap.size β γ σ) β γ σ.o x u)
    (hc : assignR σ ty dst x r) : Inv w0 N (σ.step dst r) (a.put dst u) w := by
  unfold assignR at hc
  split at hc
  · obtain ⟨d, sz, rfl, _, rfl⟩ := hc
    simp only [Rel] at hx
    subst hx
    exact h.step_row_nil (hd d rfl) sz none
  · rename_i t sz xs
    obtain ⟨d, rfl, hr⟩ := hc
    have hd' := hd d rfl
    obtain ⟨ad, n, c, hu, hnc, hlen, hnone, hread, hown⟩ := hx
    rcases hr with ⟨htd, rfl⟩ | ⟨rfl, rfl⟩
    · cases ho : σ.o t with
      | none =>
        have h2 := (h.drop t).kill d
        have hS : Stays w (Safe w0.heap.size β γ σ) (Safe w0.heap.size β γ ((σ.drop t).kill d)) := fun g p hg hs => stays_kill d g p hg (stays_drop t g p hg hs)
        have h3 := h2.put hd' (x := .sl (some d) sz xs) (v := u) ⟨ad, n, c, hu, hnc, hlen, hnone, fun ad' ha => (hread ad' ha).mono (Keeps.refl _ w) hS, fun t' m ht hm => by
          simp only [Option.some.injEq] at ht
          subst ht
          rw [(free_kill d (σ.drop t)).o] at hm
          cases hm⟩
        have e : σ.step (some d) ⟨.sl (some d) sz xs, none, [(t, none), (d, none)], true⟩ = ((σ.drop t).kill d).set d (.sl (some d) sz xs) := by
          unfold St.step St.app St.kill St.set St.drop
          simp only [List.foldl_cons, List.foldl_nil]
          congr 1
          funext j
          simp only [upd]
          split
          · rfl
          · split <;> simp_all
        rw [e]
        exact ⟨_, _, h3⟩
      | some m =>
        cases hγ : γ t with
        | none =>
          have h2 := (h.drop t).kill d
          obtain ⟨h3, hk, hS⟩ := h2.newRow (free_kill d _) (Below.refl _ w) (go := none) (m := m) (fun g hg => by cases hg)
          have hS2 : Stays w (Safe w0.heap.size β γ σ) (Safe w0.heap.size β γ ((σ.drop t).kill d)) := fun g p hg hs => stays_kill d g p hg (stays_drop t g p hg hs)
          have h4 := h3.put hd' (x := .sl (some d) sz xs) (v := u) ⟨ad, n, c, hu, hnc, hlen, hnone, fun ad' ha => ((hread ad' ha).mono (Keeps.refl _ w) hS2).mono hk hS, fun t' m' ht hm => by
            simp only [Option.some.injEq] at ht
            subst ht
            rcases hown t m rfl ho with ⟨hc, _⟩ | ⟨g, _, _, _, hg, _⟩
            · exact .inl ⟨hc, upd_same _ _ _⟩
            · rw [hγ] at hg; cases hg⟩
          have e : σ.step (some d) ⟨.sl (some d) sz xs, none, [(t, none), (d, some m)], true⟩ = St.set { ((σ.drop t).kill d) with o := upd ((σ.drop t).kill d).o d (some m) } d (.sl (some d) sz xs) := by
            rw [← drop_step]
            rfl
          rw [e]
          exact ⟨_, _, h4⟩
        | some g =>
          obtain ⟨hge, cur, e0, hh, hm⟩ := h.own t m g ho hγ
          obtain ⟨h3, hk, hS⟩ := h.appendRoom (d := d) (m' := m) ho hγ (Below.refl _ w) (fun _ _ => rfl) (Nat.le_refl _) ⟨cur, cur, e0, hh, hh, rfl, hm, fun _ _ => rfl⟩
          have h4 := h3.put hd' (x := .sl (some d) sz xs) (v := u) ⟨ad, n, c, hu, hnc, hlen, hnone, fun ad' ha => (hread ad' ha).mono hk hS, fun t' m' ht hm' => by
            simp only [Option.some.injEq] at ht
            subst ht
            rcases hown t m rfl ho with ⟨_, hg⟩ | ⟨g', cur', e', ha, hg, hh', hcs⟩
            · rw [hγ] at hg; cases hg
            · rw [hγ] at hg
              simp only [Option.some.injEq] at hg
              subst hg
              exact .inr ⟨_, cur', e', ha, upd_same _ _ _, hh', hcs⟩⟩
          have e : σ.step (some d) ⟨.sl (some d) sz xs, none, [(t, none), (d, some m)], true⟩ = St.set { s := fun i => killAV d (σ.s i), b := upd σ.b d none, o := upd (upd σ.o t none) d (some m) } d (.sl (some d) sz xs) := by
            unfold St.step St.app St.kill St.set
            simp only [List.foldl_cons, List.foldl_nil]
            congr 1
            funext j
            simp only [upd]
            split
            · rfl
            · split
              · rfl
              · rfl
          rw [e]
          exact ⟨_, _, h4⟩
    · exact h.pure hd ⟨ad, n, c, hu, hnc, hlen, hnone, hread, fun t' m ht => by cases ht⟩
  · subst hc; exact h.pure hd trivial
  · subst hc; exact h.pure hd hx

/-! ### Composite values -/

theorem fold_put (off : Nat) : ∀ (l : List Value) (k : Nat) (cells : Array Value), off + k + l.length ≤ cells.size →
    ((l.zipIdx k).foldl (fun cs (c, j) => cs.setIfInBounds (off + j) c) cells).toList = putV cells.toList (off + k) l
  | [], k, cells, _ => by simp [putV]
  | c :: l, k, cells, h => by
    simp only [List.length_cons] at h
    rw [List.zipIdx_cons, List.foldl_cons, fold_put off l (k + 1) _ (by simp; omega)]
    have e := list_seg_step cells.toList (off + k) c l (by simp; omega)
    simp only [putV, List.length_cons, Array.toList_setIfInBounds]
    rw [← Nat.add_assoc]
    exact e

theorem parts_rel (hev : ∀ x, Rel w S β γ o (ev G σ x) (a.eval x)) : ∀ {l : List (Nat × Operand)} {ps : List (Nat × List CV)}, partsV (l.map fun p => (p.1, ev G σ p.2)) = some ps →
    ps.length = l.length ∧ ∀ (i : Nat) p q, ps[i]? = some p → l[i]? = some q → p.1 = q.1 ∧ RowRel w S p.2 (a.eval q.2).cells.toList
  | [], ps, h => by simp [partsV] at h; subst h; exact ⟨rfl, fun i p q hp => by simp at hp⟩
  | x :: l, ps, h => by
    simp only [List.map_cons, partsV] at h
    split at h
    · rename_i c s h1 h2
      simp only [Option.some.injEq] at h
      subst h
      obtain ⟨k1, k2⟩ := parts_rel hev h2
      refine ⟨by simp [k1], fun i p q hp hq => ?_⟩
      cases i with
      | zero =>
        simp only [List.getElem?_cons_zero, Option.some.injEq] at hp hq
        subst hp hq
        exact ⟨rfl, cellsAV_rel (hev _) h1⟩
      | succ i =>
        simp only [List.getElem?_cons_succ] at hp hq
        exact k2 i p q hp hq
    · cases h

theorem fill_rel {place place' : Nat → Option (Nat × Nat)} : ∀ {ps : List (Nat × List CV)} {l : List (Nat × Value)} {cs cs' : List CV} {cells : Array Value}, ps.length = l.length →
    (∀ (i : Nat) p q, ps[i]? = some p → l[i]? = some q → p.1 = q.1 ∧ RowRel w S p.2 q.2.cells.toList ∧ (place p.1 ≠ none → place' p.1 = place p.1)) → RowRel w S cs cells.toList → fillC place cs ps = some cs' →
    ∃ cells', Instr.fill place' cells l = some cells' ∧ RowRel w S cs' cells'.toList
  | [], [], cs, cs', cells, _, _, hr, hf => by simp [fillC] at hf; subst hf; exact ⟨cells, rfl, hr⟩
  | p :: ps, q :: l, cs, cs', cells, hl, hp, hr, hf => by
    obtain ⟨e1, e2, e3⟩ := hp 0 p q rfl rfl
    simp only [fillC] at hf
    split at hf
    · rename_i off n hpl
      split at hf
      · rename_i hfit
        have hpl' := e3 (by rw [hpl]; simp)
        have hcl : q.2.cells.size = n := by have := e2.1; simp only [Array.length_toList] at this; omega
        have hcs : cells.size = cs.length := by have := hr.1; simp only [Array.length_toList] at this; omega
        have hput := fold_put off q.2.cells.toList 0 cells (by simp only [Array.length_toList]; omega)
        obtain ⟨cells', f1, f2⟩ := fill_rel (place := place) (place' := place') (by simpa using hl) (fun i p' q' h1 h2 => hp (i + 1) p' q' h1 h2) (cells := (q.2.cells.toList.zipIdx 0).foldl (fun cs (c, j) => cs.setIfInBounds (off + j) c) cells)
          (by rw [hput]; exact hr.put e2 off) hf
        refine ⟨cells', ?_, f2⟩
        simp only [Instr.fill]
        rw [← e1, hpl', hpl]
        simp only
        rw [if_neg (by simp only [hcl]; simp; omega)]
        rw [← f1]
        congr 1
        rw [← Array.foldl_toList, Array.toList_zipIdx]
      · cases hf
    · cases hf
  | [], _ :: _, _, _, _, hl, _, _, _ => by simp at hl
  | _ :: _, [], _, _, _, hl, _, _, _ => by simp at hl

theorem run_mapM_sizes : ∀ (l : List Field), (l.all fun f => (P.info? f.type).isSome) = true →
    (l.mapM (fun f => do pure (f.offset, ← sizeOf f.type) : Field → Sem (Nat × Nat))).run P w = .ok (l.map fun f => (f.offset, P.cellsOf f.type)) w
  | [], _ => by simp
  | f :: l, h => by
    simp only [List.all_cons, Bool.and_eq_true] at h
    obtain ⟨i, hi⟩ := Option.isSome_iff_exists.1 h.1
    have ih := run_mapM_sizes l h.2
    simp [List.mapM_cons, sizeOf, typeInfo, hi, Program.cellsOf] at ih ⊢
    rw [ih]
    simp

theorem step_build {t : TypeId} {parts : Array (Nat × Operand)} {r : Res} (hev : ∀ x, Rel w S β γ o (ev G σ x) (a.eval x)) (hc : buildR P t (parts.toList.map fun p => (p.1, ev G σ p.2)) r) :
    Pure P w S β γ o (Instr.build t (parts.map fun (i, x) => (i, a.eval x))) r := by
  obtain ⟨z, ps, cs, ys, h1, h2, h3, h4, h5, rfl⟩ := hc
  obtain ⟨i, u, i1, i2, rfl⟩ := zCells_some h1
  obtain ⟨p1, p2⟩ := parts_rel (a := a) hev h2
  have hl : ps.length = (parts.toList.map fun p => (p.1, a.eval p.2)).length := by simp [p1]
  have hfill : ∀ place', (∀ i, placeOf P t i ≠ none → place' i = placeOf P t i) → ∃ cells', Instr.fill place' u.cells (parts.toList.map fun p => (p.1, a.eval p.2)) = some cells' ∧ RowRel w S cs cells'.toList := fun place' hpl => by
    refine fill_rel (place := placeOf P t) hl (fun i p q hp hq => ?_) (RowRel.plain _) h3
    simp only [List.getElem?_map, Option.map_eq_some_iff] at hq
    obtain ⟨q', hq', rfl⟩ := hq
    obtain ⟨k1, k2⟩ := p2 i p q' hp hq'
    exact ⟨k1, k2, hpl _⟩
  have fin : ∀ cells' : Array Value, RowRel w S cs cells'.toList → cells' = ys.toArray := fun cells' hr => by
    have e := plain_some h4
    apply Array.ext'
    apply List.ext_getElem?
    intro j
    rw [e] at hr
    by_cases hj : j < ys.length
    · obtain ⟨v, v1, v2⟩ := hr.2 j (.v ys[j]) (by simp [hj])
      simp only [CRel] at v2
      rw [v1, v2]; simp [hj]
    · have := hr.1
      simp only [List.length_map] at this
      rw [List.getElem?_eq_none (by omega), List.getElem?_eq_none (by simpa using (by omega : ys.length ≤ j))]
  refine Pure.mk _ _ (.agg ys.toArray) ?_ rfl
  have hz : (zeroValue t).run P w = .ok u w := by simp [zeroValue, typeInfo, i1, i2]
  unfold bdOK at h5
  split at h5
  · rename_i fs hu
    have hm := run_mapM_sizes (P := P) (w := w) fs.toList h5
    obtain ⟨cells', f1, f2⟩ := hfill (fun x => Option.map (fun f => (f.offset, P.cellsOf f.type)) fs[x]?) (fun i hi => by
      unfold placeOf at hi ⊢
      rw [hu] at hi ⊢
      simp only at hi ⊢
      cases hx : fs[i]? with
      | none => rw [hx] at hi; simp at hi
      | some x =>
        rw [hx] at hi
        simp only [Option.bind_some, Option.map_some] at hi ⊢
        cases hj : P.info? x.type with
        | none => rw [hj] at hi; simp at hi
        | some j => simp [Program.cellsOf, hj])
    have e := fin cells' f2
    subst e
    have hm2 : (fs.mapM (fun f => do pure (f.offset, ← sizeOf f.type) : Field → Sem (Nat × Nat))).run P w = .ok (fs.toList.map fun f => (f.offset, P.cellsOf f.type)).toArray w := by
      rw [Array.mapM_eq_mapM_toList, Sem.run_map, hm]; rfl
    simp only [Instr.build, Sem.run_bind, hz, Result.andThen_ok, run_underlying hu, hm2]
    simp [f1]
  · rename_i n e hu
    obtain ⟨j, hj⟩ := Option.isSome_iff_exists.1 h5
    obtain ⟨cells', f1, f2⟩ := hfill (fun i => some (i * j.size, j.size)) (fun i hi => by simp [placeOf, hu, hj])
    have e := fin cells' f2
    subst e
    simp [Instr.build, hz, run_underlying hu, sizeOf, typeInfo, hj, f1]
  · cases h5

theorem getElem?_repeatL (z : List Value) : ∀ (n p : Nat), p < n * z.length → (repeatL z n)[p]? = z[p % z.length]?
  | 0, p, h => by simp at h
  | n + 1, p, h => by
    have hz : 0 < z.length := by
      rcases Nat.eq_zero_or_pos z.length with h0 | h0
      · rw [h0] at h; simp at h
      · exact h0
    simp only [repeatL]
    by_cases hp : p < z.length
    · rw [List.getElem?_append_left hp, Nat.mod_eq_of_lt hp]
    · rw [List.getElem?_append_right (by omega), getElem?_repeatL z n (p - z.length) (by rw [Nat.succ_mul] at h; omega)]
      congr 1
      rw [Nat.mod_eq_sub_mod (by omega : z.length ≤ p)]
theorem length_repeatL (z : List Value) : ∀ n, (repeatL z n).length = n * z.length
  | 0 => by simp [repeatL]
  | n + 1 => by simp only [repeatL, List.length_append, length_repeatL z n, Nat.succ_mul]; omega

theorem zero_rows {z : Value} {n : Nat} (hz : 0 < z.cells.size) : ((Array.range (n * z.cells.size)).map (z.cells[· % z.cells.size]!)).toList = repeatL z.cells.toList n := by
  apply List.ext_getElem?
  intro p
  by_cases hp : p < n * z.cells.size
  · rw [getElem?_repeatL z.cells.toList n p (by simpa using hp)]
    have : p % z.cells.size < z.cells.size := Nat.mod_lt _ hz
    simp [hp, this]
  · rw [List.getElem?_eq_none (by simpa using hp), List.getElem?_eq_none (by rw [length_repeatL]; simpa using hp)]

theorem fillC_length {place : Nat → Option (Nat × Nat)} : ∀ {ps : List (Nat × List CV)} {cs cs' : List CV}, fillC place cs ps = some cs' → cs'.length = cs.length
  | [], cs, cs', h => by simp [fillC] at h; rw [h]
  | (i, v) :: ps, cs, cs', h => by
    simp only [fillC] at h
    split at h
    · split at h
      · rename_i hf
        rw [fillC_length h]
        simp only [putL, List.length_append, List.length_take, List.length_drop]
        omega
      · cases h
    · cases h

theorem slZero_some {t : TypeId} {z : List Value} (h : slZero P t = some z) : ∃ e i u, P.underlying t = some (.slice e) ∧ P.info? e = some i ∧ i.zero = some u ∧ z = u.cells.toList := by
  unfold slZero at h
  split at h
  · rename_i e hu
    cases hi : P.info? e with
    | none => rw [hi] at h; cases h
    | some i =>
      rw [hi] at h
      simp only [Option.bind_some, Option.map_eq_some_iff] at h
      obtain ⟨u, h1, rfl⟩ := h
      exact ⟨e, i, u, hu, hi, h1, rfl⟩
  · cases h

theorem step_buildSlice (h : InvAt w0 N β γ σ a w) {dst : Option Nat} (hd : ∀ d, dst = some d → d < N) {t : TypeId} {n : Nat} {parts : Array (Nat × Operand)} {r : Res} (hev : ∀ x, Rel w (Safe w0.heap.size β γ σ) β γ σ.o (ev G σ x) (a.eval x))
    (hc : buildSliceR P t dst n (parts.toList.map fun p => (p.1, ev G σ p.2)) r) :
    ∃ z w', (Instr.buildSlice t n (parts.map fun (i, x) => (i, a.eval x))).run P w = .ok z w' ∧ Inv w0 N (σ.step dst r) (a.put dst z) w' := by
  unfold buildSliceR at hc
  split at hc
  · obtain ⟨sz, b, hp, hel, rfl⟩ := hc
    obtain ⟨e, i, k1, k2, k3, k4⟩ := slEl_some hel
    have hp0 : parts = #[] := by
      apply Array.ext'
      simpa using hp
    subst hp0
    refine ⟨.slice (some ⟨w.heap.size, 0, none⟩) 0 0, w.alloc (.cells #[] e), ?_, (h.ext (Below.of_alloc w _)).pure hd ⟨_, rfl⟩⟩
    simp [Instr.buildSlice, run_underlying k1, sizeOf, typeInfo, k2, Instr.fill, run_newRow]
    rw [Array.range_zero']
    simp
  · rename_i n
    obtain ⟨d, sz, b, z, ps, cs, rfl, hel, hsz, hbig, hz, hps, hf, rfl⟩ := hc
    obtain ⟨e, i, u, k1, k2, k3, k4, k5, k6⟩ := slEl_zero hel
    obtain ⟨e', i', u', m1, m2, m3, rfl⟩ := slZero_some hz
    rw [k1] at m1
    simp only [Option.some.injEq, TypeDesc.slice.injEq] at m1
    subst m1
    rw [k2] at m2
    simp only [Option.some.injEq] at m2
    subst m2
    rw [k5] at m3
    simp only [Option.some.injEq] at m3
    subst m3
    obtain ⟨p1, p2⟩ := parts_rel (a := a) hev hps
    have hl : ps.length = (parts.toList.map fun p => (p.1, a.eval p.2)).length := by simp [p1]
    have hzr := zero_rows (z := u) (n := n + 1) (by omega)
    obtain ⟨cells', f1, f2⟩ := fill_rel (place := fun i => some (i * sz, sz)) (place' := fun i => some (i * sz, sz)) (w := w) (S := Safe w0.heap.size β γ σ) hl (fun i p q hp hq => by
      simp only [List.getElem?_map, Option.map_eq_some_iff] at hq
      obtain ⟨q', hq', rfl⟩ := hq
      obtain ⟨j1, j2⟩ := p2 i p q' hp hq'
      exact ⟨j1, j2, fun _ => rfl⟩) (cells := (Array.range ((n + 1) * u.cells.size)).map (u.cells[· % u.cells.size]!)) (by rw [hzr]; exact RowRel.plain _) hf
    have hcl : cs.length = (n + 1) * sz := by rw [fillC_length hf, List.length_map, length_repeatL, Array.length_toList, k6]
    have hcs : cells'.size = cs.length := by have := f2.1; simp only [Array.length_toList] at this; omega
    refine ⟨_, _, ?_, h.step_row (hd d rfl) (Below.of_alloc w (.cells cells' e)) (Nat.le_refl _) (heap_alloc_new' w _) (fun j x hx => let ⟨v, v1, v2⟩ := f2.2 j x hx; ⟨v, by simpa using v1, v2⟩) (Nat.le_refl (n + 1)) hcl (by omega)⟩
    have hne : ¬ (n + 1) * i.size = 0 := by rw [k3]; exact Nat.ne_of_gt (Nat.mul_pos (Nat.succ_pos n) hsz)
    have hbig' : ¬ 16777216 < (n + 1) * i.size := by rw [k3]; omega
    have k6' : u.cells.size = i.size := by rw [k6, k3]
    have hne1 : ¬ i.size = 0 := by omega
    rw [k6'] at f1
    subst k3
    simp [Instr.buildSlice, run_underlying k1, sizeOf, typeInfo, k2, hbig', zeroValue, k5, f1, run_newRow, k6']
    intro h0
    exact absurd h0 hne

theorem step_makeSlice (h : InvAt w0 N β γ σ a w) {dst : Option Nat} (hd : ∀ d, dst = some d → d < N) {t : TypeId} {x y : AV} {p q : Value} {r : Res} (hx : Rel w (Safe w0.heap.size β γ σ) β γ σ.o x p) (hy : Rel w (Safe w0.heap.size β γ σ) β γ σ.o y q)
    (hc : makeSliceR dst (slZero P t) (slEl P t) x y r) : ∃ z w', (Instr.makeSlice t p q).run P w = .ok z w' ∧ Inv w0 N (σ.step dst r) (a.put dst z) w' := by
  unfold makeSliceR at hc
  split at hc
  · rename_i n m
    obtain ⟨d, x, rfl, hz, hel, rfl, h0, h1, rfl⟩ := hc
    simp only [Rel] at hx hy
    subst hx hy
    obtain ⟨e, i, u, k1, k2, k3, k4, k5, k6⟩ := slEl_zero hel
    obtain ⟨e', i', u', m1, m2, m3, m4⟩ := slZero_some hz
    rw [k1] at m1
    simp only [Option.some.injEq, TypeDesc.slice.injEq] at m1
    subst m1
    rw [k2] at m2
    simp only [Option.some.injEq] at m2
    subst m2
    rw [k5] at m3
    simp only [Option.some.injEq] at m3
    subst m3
    have hu0 : u.cells[0]? = some x := by
      have : u.cells.toList[0]? = some x := by rw [← m4]; rfl
      simpa using this
    have hcells : ((Array.range n.toNat).map (u.cells[· % u.cells.size]!)) = (List.replicate n.toNat x).toArray := by
      apply Array.ext
      · simp
      · intro j h1 h2
        have hs : 0 < u.cells.size := by omega
        rw [getElem?_pos u.cells 0 hs] at hu0
        simp only [Option.some.injEq] at hu0
        simp [k6, Nat.mod_one, hu0]
    have hlen : (List.replicate n.toNat (CV.v x)).length = n.toNat * 1 := by simp
    have hst := h.step_row (hd d rfl) (Below.of_alloc w (.cells (List.replicate n.toNat x).toArray e)) (Nat.le_refl _) (heap_alloc_new' w _) (xs := List.replicate n.toNat (.v x)) (n := n.toNat) (c := n.toNat) (sz := 1)
      (fun j y hy => by
        have hj : j < n.toNat := by simpa using (List.getElem?_eq_some_iff.1 hy).1
        simp [hj] at hy
        subst hy
        exact ⟨x, by simp [hj], rfl⟩) (Nat.le_refl _) hlen (by simp)
    simp only [List.length_replicate] at hst
    refine ⟨_, _, ?_, hst⟩
    have hw : IntKind.i64.wrap n = n := by
      rw [IntKind.wrap_i64]
      omega
    have hb : ¬ (n > 281474976710656) := by omega
    have hask : ∀ k : Nat, (askRoom k).run P w = .ok () w := fun k => by unfold askRoom; split <;> simp [mark, Sem.run]
    have hn0 : ¬ n < 0 := by omega
    by_cases hnz : n.toNat = 0
    · have : n = 0 := by omega
      subst this
      simp [Instr.makeSlice, run_underlying k1, asInt, asIntOf, sizeOf, typeInfo, k2, hw, run_newRow]
      rw [Array.range_zero']
      simp
    · simp [Instr.makeSlice, run_underlying k1, asInt, asIntOf, sizeOf, typeInfo, k2, k4, k3, hw, run_newRow, hn0, hnz, zeroValue, k5, hcells]
      intro hbig
      exact absurd hbig hb
  · exact hc.elim

theorem step_toBytes (h : InvAt w0 N β γ σ a w) {dst : Option Nat} (hd : ∀ d, dst = some d → d < N) {src t : TypeId} {s : ByteArray} (hc : cvt P src t = some .toBytes) :
    ∃ z w', (convert src t (.string s)).run P w = .ok z w' ∧ Inv w0 N (σ.step dst (rv (.sl none 1 (bytesC s.data.toList)))) (a.put dst z) w' := by
  obtain ⟨e, k1, k2, k3⟩ := cvt_toBytes hc
  have hb : Below w.heap.size w (w.drew.alloc (.cells (bytesRow s (grownCap w s.size 0 e)) e ((bytesRow s (grownCap w s.size 0 e)).size, (bytesRow s (grownCap w s.size 0 e)).size + 1))) := ((Below.refl _ w).drew).alloc (Nat.le_refl _) _
  refine ⟨_, _, run_bytes_of_string w src t e s k1 k2 k3, (h.ext hb).pure hd ⟨_, _, _, rfl, grownCap_ge w s.size 0 e, ?_, (fun ha => by cases ha), fun ad ha j x hx => ?_, fun t m ht => by cases ht⟩⟩
  · simp [bytesC]
  · simp only [Option.some.injEq] at ha
    subst ha
    have hj : j < s.data.size := by
      have := (List.getElem?_eq_some_iff.1 hx).1
      simpa [bytesC] using this
    have hx' : x = .v (.int .u8 (s.data[j].toNat : Int)) := by
      simp only [bytesC, List.getElem?_map, Option.map_eq_some_iff] at hx
      obtain ⟨b, hb, rfl⟩ := hx
      rw [Array.getElem?_toList, getElem?_pos s.data j hj] at hb
      simp only [Option.some.injEq] at hb
      rw [hb]
    subst hx'
    refine ⟨.int .u8 (s.data[j].toNat : Int), ?_, rfl, .inr ⟨fun k hkb he => ?_, fun t m ht hγ => ?_⟩⟩
    · rw [add_plain]
      have hh := heap_alloc_new w.drew (.cells (bytesRow s (grownCap w s.size 0 e)) e ((bytesRow s (grownCap w s.size 0 e)).size, (bytesRow s (grownCap w s.size 0 e)).size + 1))
      have hh' : (w.drew.alloc (.cells (bytesRow s (grownCap w s.size 0 e)) e ((bytesRow s (grownCap w s.size 0 e)).size, (bytesRow s (grownCap w s.size 0 e)).size + 1))).heap[w.heap.size]? = _ := hh
      simp only [World.cell?, hh', Nat.zero_add]
      simpa using bytesRow_at s _ j hj
    · have h5 := h.box_lt hkb
      rw [he] at h5
      exact absurd h5 (Nat.lt_irrefl _)
    · have h5 := h.own_lt (t := t) (by rw [ht]; simp) hγ
      exact absurd h5 (Nat.lt_irrefl _)

/-- A slice of the call's own, converted to its own type: it reads as before, and is appended to no more. -/
theorem step_same (h : InvAt w0 N β γ σ a w) {dst : Option Nat} (hd : ∀ d, dst = some d → d < N) {src t : TypeId} (hc : cvt P src t = some .same) {tg m : Nat} {xs : List CV} {u : Value} (ho : σ.o tg = some m) (hne : xs ≠ [])
    (hx : Rel w (Safe w0.heap.size β γ σ) β γ σ.o (.sl (some tg) 1 xs) u) :
    ∃ z w', (convert src t u).run P w = .ok z w' ∧ Inv w0 N (σ.step dst ⟨.sl none 1 xs, none, [(tg, none)], false⟩) (a.put dst z) w' := by
  obtain ⟨rfl, e, k1, k2⟩ := cvt_same hc
  obtain ⟨ad, n, c, rfl, hnc, hlen, hnone, hread, hown⟩ := hx
  have hn0 : n ≠ 0 := by rintro rfl; exact hne (List.eq_nil_of_length_eq_zero (by rw [hlen, Nat.zero_mul]))
  rcases hown tg m rfl ho with ⟨hc0, _⟩ | ⟨g, cur, e', rfl, hg, hh, _⟩
  · omega
  have hge := (h.own tg m g ho hg).1
  have hlt : g < w.heap.size := h.own_lt (by rw [ho]; simp) hg
  obtain ⟨w', hw'⟩ : ∃ w', w.freeze ⟨g, cur.size, none⟩ 1 = w' := ⟨_, rfl⟩
  have hheap : ∀ k, w'.heap[k]? = if k = g then some (.cells cur e' (cur.size, cur.size + 1)) else w.heap[k]? := fun k => by
    subst hw'
    unfold World.freeze
    rw [if_neg (by decide)]
    simp only [Array.getElem?_modify]
    by_cases hk : g = k
    · subst hk
      rw [if_pos rfl, if_pos rfl, hh]
      simp
    · rw [if_neg hk, if_neg (Ne.symm hk)]
  have hos : w'.os = w.os ∧ w'.tape = w.tape ∧ w'.output = w.output ∧ w'.heap.size = w.heap.size := by
    subst hw'
    unfold World.freeze
    rw [if_neg (by decide)]
    simp
  have hcell : ∀ ad u, w.cell? ad = some u → w'.cell? ad = some u := fun ad u hu => by
    by_cases hk : ad.block = g
    · unfold World.cell? at hu ⊢
      rw [hheap, if_pos hk]
      rw [hk, hh] at hu
      exact hu
    · rw [World.cell?_of_block (w := w) (by rw [hheap, if_neg hk])]; exact hu
  have hrun : (convert src src (.slice (some ⟨g, 0, none⟩) n c)).run P w = .ok (.slice (some ⟨g, 0, none⟩) n c) w' := by
    have hsh : w.shape? g = some (e', cur.size) := by unfold World.shape?; rw [hh]
    simp [convert, run_underlying k1, run_underlying k2, markStringish, hsh]
    exact hw'
  have hkeep : Keeps (Safe w0.heap.size β γ σ) w w' := fun ad u hu _ => hcell ad u hu
  have hdrop := h.drop tg
  have hS : Stays w (Safe w0.heap.size β γ σ) (Safe w0.heap.size β γ (σ.drop tg)) := stays_drop tg
  have hI : InvAt w0 N β γ (σ.drop tg) a w' :=
    { below := h.below.trans ⟨hos.1, hos.2.1, hos.2.2.1, by rw [hos.2.2.2]; exact Nat.le_refl _, fun k hk => by rw [hheap, if_neg (by omega)]⟩
      defers := h.defers
      size := h.size
      slots := fun i => by
        refine Rel.mono hkeep hS (fun t _ => ⟨rfl, fun m' hm' => ?_⟩) (h.slots i)
        have htt : t ≠ tg := by rintro rfl; simp [St.drop, upd] at hm'
        have hm2 : σ.o t = some m' := by simpa [St.drop, upd, htt] using hm'
        refine ⟨rfl, ⟨m', hm2⟩, fun g' cur' e'' hg' hc' => ⟨cur', e'', ?_, rfl⟩⟩
        have : g' ≠ g := by rintro rfl; exact htt (h.injo t tg g' (by rw [hm2]; simp) (by rw [ho]; simp) hg' hg)
        rw [hheap, if_neg this]; exact hc'
      box := fun k cs hk => by
        obtain ⟨b1, b2⟩ := h.box k cs hk
        have : β k ≠ g := fun e => h.bo k tg (by have : σ.b k = some cs := hk
                                                 rw [this]; simp) (by rw [ho]; simp) (by rw [hg, e])
        exact ⟨b1, b2.mono hkeep hS (by rw [hheap, if_neg this])⟩
      own := fun t m' g' ht hg' => by
        have htt : t ≠ tg := by rintro rfl; simp [St.drop, upd] at ht
        have hm2 : σ.o t = some m' := by simpa [St.drop, upd, htt] using ht
        obtain ⟨o1, cur', e'', o2, o3⟩ := h.own t m' g' hm2 hg'
        have : g' ≠ g := by rintro rfl; exact htt (h.injo t tg g' (by rw [hm2]; simp) (by rw [ho]; simp) hg' hg)
        exact ⟨o1, cur', e'', by rw [hheap, if_neg this]; exact o2, o3⟩
      injb := h.injb
      injo := hdrop.injo
      bo := hdrop.bo }
  refine ⟨_, w', hrun, ?_⟩
  have hx' : Rel w' (Safe w0.heap.size β γ (σ.drop tg)) β γ (σ.drop tg).o (.sl none 1 xs) (.slice (some ⟨g, 0, none⟩) n c) :=
    ⟨_, n, c, rfl, hnc, hlen, hnone, fun ad ha => (hread ad ha).mono hkeep hS, fun t m ht => by cases ht⟩
  have := hI.pure hd hx'
  have e1 : σ.step dst ⟨.sl none 1 xs, none, [(tg, none)], false⟩ = (σ.drop tg).step dst (rv (.sl none 1 xs)) := by
    cases dst <;> rfl
  rw [e1]
  exact this

end Abs
end Go.Proofs.YtkdpmjgigknbpaaDoor
