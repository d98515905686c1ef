/-
  Each operation does upon worlds what 'core' says of abstract states: slices of the call's own; calls.
-/
import Derived.Test.YtkdpmjgigknbpaaDoorA7
namespace Go.Proofs.YtkdpmjgigknbpaaDoor
namespace Abs
open Go.RowKit

variable {P : Program} {G : Nat → List Value} {H : Nat → Bool} {w0 w w' : World} {N : Nat} {β : Nat → Nat} {γ : Nat → Option Nat} {σ : St} {a : Act} {S : Nat → Nat → Prop} {o : Nat → Option Nat}

theorem drop_step (σ : St) (t d : Nat) (x : AV) (m : Option Nat) (bu : Option (Nat × List CV)) :
    (σ.drop t).step (some d) ⟨x, bu, [(d, m)], true⟩ = σ.step (some d) ⟨x, bu, [(t, none), (d, m)], true⟩ := by
  unfold St.step St.app St.drop St.kill
  simp only [List.foldl_cons, List.foldl_nil]
  congr 1
  funext j
  simp only [upd]
  split
  · rfl
  · split
    · simp
    · rfl

/-- A new row is a slice of the call's own. -/
theorem InvAt.step_row (h : InvAt w0 N β γ σ a w) {d : Nat} (hd : d < N) (hb : Below w.heap.size w w') {g : Nat} (hg : w.heap.size ≤ g) {xs : List CV} {cur : Array Value} {e : TypeId} {n c sz : Nat}
    (hh : w'.heap[g]? = some (.cells cur e (0, 0))) (hr : ∀ (j : Nat) x, xs[j]? = some x → ∃ u, cur[j]? = some u ∧ CRel w (Safe w0.heap.size β γ σ) x u) (hnc : n ≤ c) (hlen : xs.length = n * sz) (hcs : c * sz ≤ cur.size) :
    Inv w0 N (σ.step (some d) ⟨.sl (some d) sz xs, none, [(d, some xs.length)], true⟩) (a.put (some d) (.slice (some ⟨g, 0, none⟩) n c)) w' := by
  have h1 := h.kill d
  have hle : xs.length ≤ cur.size := by rw [hlen]; exact Nat.le_trans (Nat.mul_le_mul_right _ hnc) hcs
  obtain ⟨h2, hk, hS⟩ := h1.newRow (free_kill d σ) hb (go := some g) (m := xs.length) (fun g' hg' => by
    simp only [Option.some.injEq] at hg'
    subst hg'
    exact ⟨hg, cur, e, hh, hle⟩)
  refine ⟨_, _, h2.put hd (x := .sl (some d) sz xs) ⟨some ⟨g, 0, none⟩, n, c, rfl, hnc, hlen, (fun he => by cases he), fun ad ha j x hx => ?_, fun t m ht hm => ?_⟩⟩
  · simp only [Option.some.injEq] at ha
    subst ha
    obtain ⟨u, k1, k2⟩ := hr j x hx
    refine ⟨u, ?_, (k2.mono (Keeps.refl _ w) (stays_kill d)).mono hk hS, .inr ⟨fun k hkb => ?_, fun t m ht hγ => ?_⟩⟩
    · rw [add_plain]
      simp [World.cell?, hh, k1]
    · have := h1.box_lt (k := k) hkb
      show β k ≠ g
      omega
    · show 0 + j < m
      by_cases htd : t = d
      · subst htd
        simp only [upd_same, Option.some.injEq] at ht
        subst ht
        have := (List.getElem?_eq_some_iff.1 hx).1
        omega
      · simp only [upd_ne _ _ htd] at ht hγ
        have := h1.own_lt (t := t) (g := g) (by rw [ht]; simp) hγ
        omega
  · simp only [Option.some.injEq] at ht
    subst ht
    exact .inr ⟨g, cur, e, rfl, upd_same _ _ _, hh, hcs⟩

/-- A slice without capacity is a slice of the call's own. -/
theorem InvAt.step_row_nil (h : InvAt w0 N β γ σ a w) {d : Nat} (hd : d < N) (sz : Nat) (ad : Option Addr) :
    Inv w0 N (σ.step (some d) ⟨.sl (some d) sz [], none, [(d, some 0)], true⟩) (a.put (some d) (.slice ad 0 0)) w := by
  obtain ⟨h2, hk, hS⟩ := (h.kill d).newRow (free_kill d σ) (Below.refl _ w) (go := none) (m := 0) (fun g' hg' => by cases hg')
  refine ⟨_, _, h2.put hd (x := .sl (some d) sz []) ⟨ad, 0, 0, rfl, Nat.le_refl _, by simp, fun _ => ⟨rfl, rfl⟩, (fun ad ha j x hx => by simp at hx), fun t m ht hm => ?_⟩⟩
  simp only [Option.some.injEq] at ht
  subst ht
  exact .inl ⟨rfl, upd_same _ _ _⟩

theorem exists_row {xs : List CV} {ad : Addr} (h : Reads w S xs ad) : ∃ vs, RowRel w S xs vs ∧ ∀ (j : Nat) u, vs[j]? = some u → w.cell? (ad.add j) = some u := by
  refine ⟨(List.range xs.length).map fun j => (w.cell? (ad.add j)).getD undef, ⟨by simp, fun j x hx => ?_⟩, fun j u hu => ?_⟩
  · have hj : j < xs.length := (List.getElem?_eq_some_iff.1 hx).1
    obtain ⟨u, h1, h2, _⟩ := h j x hx
    exact ⟨u, by simp [hj, h1], h2⟩
  · simp only [List.getElem?_map, Option.map_eq_some_iff] at hu
    obtain ⟨k, hk, rfl⟩ := hu
    have hj : j < xs.length := by
      have := (List.getElem?_eq_some_iff.1 hk).1
      simpa using this
    rw [List.getElem?_range hj] at hk
    simp only [Option.some.injEq] at hk
    subst hk
    obtain ⟨u, h1, _⟩ := h j _ (List.getElem?_eq_getElem hj)
    rw [h1]; rfl

/-- What is appended. -/
theorem src_of {tx : TypeId} {sz : Nat} {y : AV} {v : Value} {ys : List CV} (hk : isSlT P tx = true ∨ isStrT P tx = true) (hy : Rel w S β γ o y v) (hs : srcOf sz y = some ys) (h1 : ys.all CV.one = true) :
    ∃ m news, Src P sz tx v m news w ∧ RowRel w S ys news ∧ ys.length = m * sz := by
  have kind : (∃ e', P.underlying tx = some (.slice e')) ∨ P.underlying tx = some .string := hk.imp isSl_some isStr_some
  have slc : ∀ (ad : Option Addr) (n c : Nat), v = .slice ad n c → ys.length = n * sz → (ad = none → n = 0) → (∀ a', ad = some a' → Reads w S ys a') → ∃ m news, Src P sz tx v m news w ∧ RowRel w S ys news ∧ ys.length = m * sz := by
    rintro ad n c rfl hl hn hr
    cases ad with
    | none =>
      have hn0 := hn rfl
      subst hn0
      have : ys = [] := List.eq_nil_of_length_eq_zero (by rw [hl, Nat.zero_mul])
      subst this
      exact ⟨0, [], ⟨kind, fun _ => rfl, run_firstCells_none w sz 0 0 c, run_firstCells_none w.drew sz 0 0 c, by simp, fun _ h => by cases h⟩, RowRel.nil, by simp⟩
    | some a' =>
      obtain ⟨news, hrow, hcell⟩ := exists_row (hr a' rfl)
      have hnl : news.length = n * sz := by rw [← hrow.1, hl]
      exact ⟨n, news, ⟨kind, fun _ => rfl, run_firstCells_some w sz n a' n c news hnl hcell, run_firstCells_some w.drew sz n a' n c news hnl (by simpa using hcell), hnl, hrow.one h1⟩, hrow, hl⟩
  unfold srcOf at hs
  split at hs
  · rename_i tag sz' xs
    split at hs
    · rename_i hsz
      subst hsz
      simp only [Option.some.injEq] at hs
      subst hs
      obtain ⟨ad, n, c, hv, h2, h3, h4, h5, _⟩ := hy
      exact slc ad n c hv h3 (fun ha => (h4 ha).1) h5
    · cases hs
  · rename_i sz' xs
    split at hs
    · rename_i hsz
      subst hsz
      simp only [Option.some.injEq] at hs
      subst hs
      obtain ⟨ad, n, hv, h3, h4, h5⟩ := hy
      exact slc ad n n hv h3 h4 h5
    · cases hs
  · rename_i sz'
    split at hs
    · simp only [Option.some.injEq] at hs
      subst hs
      obtain ⟨ad, hv⟩ := hy
      exact slc ad 0 0 hv (by simp) (fun _ => rfl) (fun a' _ => reads_nil)
    · cases hs
  · rename_i s
    split at hs
    · rename_i hsz
      subst hsz
      simp only [Option.some.injEq] at hs
      subst hs
      simp only [Rel] at hy
      subst hy
      refine ⟨s.size, byteCells s, ⟨kind, fun _ => rfl, firstCells_string s w, firstCells_string s w.drew, by rw [byteCells_length, Nat.mul_one], fun u hu => ?_⟩, bytes_row _, by simp [bytesC]⟩
      obtain ⟨_, _, rfl⟩ := List.mem_map.1 hu
      rfl
    · cases hs
  · simp only [Option.some.injEq] at hs
    subst hs
    simp only [Rel] at hy
    subst hy
    exact slc none 0 0 rfl (by simp) (fun _ => rfl) (fun a' h => by cases h)
  · cases hs

/-- An append for which there is no room. -/
theorem grow_common {t tx ty : TypeId} {sz b : Nat} (hel : slEl P t = some (sz, b)) (hsz : 0 < sz) {xs ys : List CV} {olds news : List Value} {base : Option Addr} {n c m : Nat} {v : Value}
    (hx : RowRel w S xs olds) (hol : olds.length = n * sz) (hold : (Builtin.firstCells sz n (.slice base n c)).run P w.drew = .ok olds.toArray w.drew)
    (hs : Src P sz tx v m news w) (hy : RowRel w S ys news) (hg : c < n + m) (hb1 : (xs.length + ys.length) * b ≤ 140737488355328) (hb2 : xs.length + ys.length ≤ 140737488355328) :
    ∃ cap cur e w', (Builtin.append_ #[t, tx] ty #[.slice base n c, v]).run P w = .ok (.slice (some ⟨w.heap.size, 0, none⟩) (n + m) cap) w' ∧ Below w.heap.size w w' ∧ w'.heap[w.heap.size]? = some (.cells cur e (0, 0)) ∧
      n + m ≤ cap ∧ cap * sz ≤ cur.size ∧ (xs ++ ys).length = (n + m) * sz ∧ ∀ (j : Nat) x, (xs ++ ys)[j]? = some x → ∃ u, cur[j]? = some u ∧ CRel w S x u := by
  obtain ⟨e, i, z, k1, k2, k3, k4, k5, k6⟩ := slEl_zero hel
  subst k3 k4
  have hnl := hs.newsLen
  have hsum : xs.length + ys.length = (n + m) * i.size := by rw [hx.1, hy.1, hol, hnl, Nat.add_mul]
  have hnm : n + m ≤ (n + m) * i.size := Nat.le_mul_of_pos_right _ hsz
  have hb3 : (n + m) * i.bytes ≤ 140737488355328 := Nat.le_trans (Nat.mul_le_mul_right _ (by omega)) hb1
  have hrun := run_append_grow_src (P := P) w t tx ty e i z k1 k2 k5 base n c olds hold v m news hs hg (by omega) (growslice_fits hg hb3)
  have hcap := grownCap_ge w (n + m) c e
  refine ⟨_, _, e, _, hrun, ((Below.refl _ w).drew).alloc (Nat.le_refl _) _, heap_alloc_new w.drew _, hcap, ?_, ?_, fun j x hx' => ?_⟩
  · simp only [Array.size_append, List.size_toArray, List.length_append, size_zeroCells, k6, hol, hnl, ← Nat.add_mul]
    apply Nat.le_of_eq
    congr 1
    omega
  · rw [List.length_append, hsum]
  · obtain ⟨u, q1, q2⟩ := (hx.append hy).2 j x hx'
    refine ⟨u, ?_, q2⟩
    have hjl : j < (olds ++ news).length := (List.getElem?_eq_some_iff.1 q1).1
    rw [Array.getElem?_append_left (by simpa using hjl)]
    simpa using q1

end Abs
end Go.Proofs.YtkdpmjgigknbpaaDoor
