/-
  Each operation does upon worlds what 'core' says of abstract states: append; a slice handed over; composite values; calls.
-/
import Derived.Test.YtkdpmjgigknbpaaDoorA8
namespace Go.Proofs.YtkdpmjgigknbpaaDoor
namespace Abs
open Go.RowKit

variable {P : Program} {G : Nat → List Value} {H : Nat → Bool} {w0 w w' : World} {N : Nat} {β : Nat → Nat} {γ : Nat → Option Nat} {σ : St} {a : Act} {S : Nat → Nat → Prop} {o : Nat → Option Nat}

theorem run_append_zero {t tx ty : TypeId} {sz b : Nat} (hel : slEl P t = some (sz, b)) {ad : Option Addr} {n c : Nat} {v : Value} {news : List Value} (hs : Src P sz tx v 0 news w) (hnc : n ≤ c) :
    (Builtin.append_ #[t, tx] ty #[.slice ad n c, v]).run P w = .ok (.slice ad n c) w := by
  obtain ⟨e, i, k1, k2, rfl, k4⟩ := slEl_some hel
  have hn : news = [] := List.eq_nil_of_length_eq_zero (by have := hs.newsLen; simpa using this)
  subst hn
  rcases hs.kind with ⟨e', hk⟩ | hk <;> cases ad <;> simp [Builtin.append_, run_underlying k1, run_underlying hk, sizeOf, typeInfo, k2, hs.len, hnc, hs.cells, storeCells]

theorem run_append_own_room {t tx ty : TypeId} {sz b : Nat} (hel : slEl P t = some (sz, b)) {g n c m : Nat} {v : Value} {news : List Value} (hs : Src P sz tx v m news w) (hroom : n + m ≤ c) {cur : Array Value} {e' : TypeId}
    (hg : w.heap[g]? = some (.cells cur e' (0, 0))) (hcs : c * sz ≤ cur.size) :
    (Builtin.append_ #[t, tx] ty #[.slice (some ⟨g, 0, none⟩) n c, v]).run P w = .ok (.slice (some ⟨g, 0, none⟩) (n + m) c) (w.setRow g (cur.toList.take (n * sz) ++ news ++ cur.toList.drop (n * sz + news.length)).toArray) := by
  obtain ⟨e, i, k1, k2, rfl, k4⟩ := slEl_some hel
  have hfit : n * i.size + news.length ≤ cur.size := by rw [hs.newsLen, ← Nat.add_mul]; exact Nat.le_trans (Nat.mul_le_mul_right _ hroom) hcs
  have hst := run_storeCells_at P g (n * i.size) e' news 0 cur w hg (by simpa using hfit) hs.one
  simp only [Nat.add_zero] at hst
  rcases hs.kind with ⟨e', hk⟩ | hk <;> simp [Builtin.append_, run_underlying k1, run_underlying hk, sizeOf, typeInfo, k2, hs.len, hroom, hs.cells, Addr.add_lit, hst]

theorem own_room (h : InvAt w0 N β γ σ a w) {t d g n c m sz : Nat} (hd : d < N) {xs ys : List CV} {news : List Value} (ho : σ.o t = some xs.length) (hg : γ t = some g) {cur : Array Value} {e : TypeId}
    (hh : w.heap[g]? = some (.cells cur e (0, 0))) (hcs : c * sz ≤ cur.size) (hread : Reads w (Safe w0.heap.size β γ σ) xs ⟨g, 0, none⟩) (hlen : xs.length = n * sz) (hy : RowRel w (Safe w0.heap.size β γ σ) ys news) (hyl : ys.length = m * sz) (hroom : n + m ≤ c) :
    Inv w0 N (σ.step (some d) ⟨.sl (some d) sz (xs ++ ys), none, [(t, none), (d, some (xs ++ ys).length)], true⟩) (a.put (some d) (.slice (some ⟨g, 0, none⟩) (n + m) c))
      (w.setRow g (cur.toList.take (n * sz) ++ news ++ cur.toList.drop (n * sz + news.length)).toArray) := by
  have hge := (h.own t _ g ho hg).1
  have hnl : news.length = m * sz := by rw [← hy.1, hyl]
  have hfit : n * sz + news.length ≤ cur.size := by rw [hnl, ← Nat.add_mul]; exact Nat.le_trans (Nat.mul_le_mul_right _ hroom) hcs
  have e1 : (cur.toList.take (n * sz)).length = n * sz := by rw [List.length_take, Array.length_toList]; omega
  have hsum : (xs ++ ys).length = (n + m) * sz := by rw [List.length_append, hlen, hyl, Nat.add_mul]
  generalize hcur : (cur.toList.take (n * sz) ++ news ++ cur.toList.drop (n * sz + news.length)).toArray = cur'
  have hsize : cur'.size = cur.size := by
    rw [← hcur]
    simp only [List.size_toArray, List.length_append, e1, List.length_drop, Array.length_toList]
    omega
  have hold : ∀ p, p < xs.length → cur'[p]? = cur[p]? := fun p hp => by
    rw [← hcur]
    simp only [List.getElem?_toArray, List.append_assoc]
    rw [List.getElem?_append_left (by rw [e1]; omega), List.getElem?_take, if_pos (by omega)]
    simp
  have hnew : ∀ p u, news[p]? = some u → cur'[n * sz + p]? = some u := fun p u hp => by
    have hpl : p < news.length := (List.getElem?_eq_some_iff.1 hp).1
    rw [← hcur]
    simp only [List.getElem?_toArray, List.append_assoc]
    rw [List.getElem?_append_right (by rw [e1]; omega), e1, Nat.add_sub_cancel_left, List.getElem?_append_left hpl]
    exact hp
  have hrow := setRow_heap w g cur cur' e (0, 0) hh
  obtain ⟨h2, hk, hS⟩ := h.appendRoom (d := d) (m' := (xs ++ ys).length) ho hg (setRow_below (cs := cur') hge) (fun g' hg' => setRow_other w g g' cur' hg') (by simp)
    ⟨cur, cur', e, hh, hrow, hsize, by rw [hsize, hsum]; exact Nat.le_trans (Nat.mul_le_mul_right _ hroom) hcs, hold⟩
  have h3 := h2.put hd (x := .sl (some d) sz (xs ++ ys)) (v := .slice (some ⟨g, 0, none⟩) (n + m) c) ⟨some ⟨g, 0, none⟩, n + m, c, rfl, hroom, hsum, (fun he => by cases he), fun ad ha j x hx => ?_, fun t' m' ht hm => ?_⟩
  · have hst : σ.step (some d) ⟨.sl (some d) sz (xs ++ ys), none, [(t, none), (d, some (xs ++ ys).length)], true⟩ =
        St.set { s := fun i => killAV d (σ.s i), b := upd σ.b d none, o := upd (upd σ.o t none) d (some (xs ++ ys).length) } d (.sl (some d) sz (xs ++ ys)) := by
      unfold St.step St.app St.kill St.set
      simp only [List.foldl_cons, List.foldl_nil]
      congr 1
      funext j
      simp only [upd]
      split
      · rfl
      · split
        · rfl
        · rfl
    rw [hst]
    exact ⟨_, _, h3⟩
  · simp only [Option.some.injEq] at ha
    subst ha
    have hjl : j < (xs ++ ys).length := (List.getElem?_eq_some_iff.1 hx).1
    have hsafe : Safe w0.heap.size β (upd γ d (some g)) { s := fun i => killAV d (σ.s i), b := upd σ.b d none, o := upd (upd σ.o t none) d (some (xs ++ ys).length) } g j := by
      refine .inr ⟨fun k hkb => ?_, fun t' m' ht' hγ => ?_⟩
      · have := kill_b (σ := σ) (d := d) (k := k) hkb
        exact fun he => h.bo k t this.2 (by rw [ho]; simp) (by rw [hg, he])
      · by_cases htd : t' = d
        · subst htd
          simp only [upd_same, Option.some.injEq] at ht'
          subst ht'
          exact hjl
        · simp only [upd_ne _ _ htd] at ht' hγ
          by_cases htt : t' = t
          · subst htt; rw [upd_same] at ht'; cases ht'
          · rw [upd_ne _ _ htt] at ht'
            exact absurd (h.injo t' t g (by rw [ht']; simp) (by rw [ho]; simp) hγ hg) htt
    rw [List.getElem?_append] at hx
    split at hx
    · rename_i hj
      obtain ⟨u, q1, q2, q3⟩ := hread j x hx
      exact ⟨u, hk _ _ q1 (by rw [add_block, add_off]; exact q3), q2.mono hk hS, by rw [Nat.zero_add]; exact hsafe⟩
    · rename_i hj
      obtain ⟨u, q1, q2⟩ := hy.2 _ x hx
      refine ⟨u, ?_, q2.mono hk hS, by rw [Nat.zero_add]; exact hsafe⟩
      have := hnew _ u q1
      rw [show n * sz + (j - xs.length) = j by omega] at this
      rw [add_plain]
      simp [World.cell?, hrow, this]
  · simp only [Option.some.injEq] at ht
    subst ht
    exact .inr ⟨g, cur', e, rfl, upd_same _ _ _, hrow, by rw [hsize]; exact hcs⟩

theorem step_append (h : InvAt w0 N β γ σ a w) {dst : Option Nat} (hd : ∀ d, dst = some d → d < N) {t tx ty : TypeId} {x y : AV} {u v : Value} {r : Res} (hx : Rel w (Safe w0.heap.size β γ σ) β γ σ.o x u) (hy : Rel w (Safe w0.heap.size β γ σ) β γ σ.o y v)
    (hk : isSlT P tx = true ∨ isStrT P tx = true) (hc : appendR H σ dst (slEl P t) y x r) :
    ∃ z w', (Builtin.append_ #[t, tx] ty #[u, v]).run P w = .ok z w' ∧ Inv w0 N (σ.step dst r) (a.put dst z) w' := by
  unfold appendR at hc
  split at hc
  · rename_i t' sz xs
    obtain ⟨d, b, ys, rfl, hel, hsz, hsrc, h1, ho, hb1, hb2, rfl⟩ := hc
    obtain ⟨ad, n, c, rfl, hnc, hlen, hnone, hread, hown⟩ := hx
    obtain ⟨m, news, hs, hrow, hyl⟩ := src_of hk hy hsrc h1
    have hd' := hd d rfl
    -- there is none
    have grow : ∀ olds, RowRel w (Safe w0.heap.size β γ σ) xs olds → (Builtin.firstCells sz n (.slice ad n c)).run P w.drew = .ok olds.toArray w.drew → c < n + m →
        ∃ z w', (Builtin.append_ #[t, tx] ty #[.slice ad n c, v]).run P w = .ok z w' ∧ Inv w0 N (σ.step (some d) ⟨.sl (some d) sz (xs ++ ys), none, [(t', none), (d, some (xs ++ ys).length)], true⟩) (a.put (some d) z) w' := by
      intro olds hr hf hg
      obtain ⟨cap, cur, e, w', q1, q2, q3, q4, q5, q6, q7⟩ := grow_common (ty := ty) hel hsz hr (by rw [← hr.1, hlen]) hf hs hrow hg hb1 hb2
      refine ⟨_, w', q1, ?_⟩
      rw [← drop_step]
      exact (h.drop t').step_row hd' q2 (Nat.le_refl _) q3 (fun j x hx => let ⟨u, p1, p2⟩ := q7 j x hx; ⟨u, p1, p2.mono (Keeps.refl _ w) (stays_drop t')⟩) q4 q6 q5
    rcases hown t' _ rfl ho with ⟨hc0, hγ⟩ | ⟨g, cur, e, hae, hγ, hh, hcs⟩
    · have hn0 : n = 0 := by omega
      subst hc0 hn0
      have hx0 : xs = [] := List.eq_nil_of_length_eq_zero (by rw [hlen, Nat.zero_mul])
      subst hx0
      by_cases hm : m = 0
      · subst hm
        have hy0 : ys = [] := List.eq_nil_of_length_eq_zero (by rw [hyl, Nat.zero_mul])
        subst hy0
        refine ⟨_, w, run_append_zero hel hs (Nat.le_refl _), ?_⟩
        rw [← drop_step]
        exact (h.drop t').step_row_nil hd' sz ad
      · refine grow [] RowRel.nil ?_ (by omega)
        cases ad with
        | none => exact run_firstCells_none w.drew sz 0 0 0
        | some a' => exact run_firstCells_some w.drew sz 0 a' 0 0 [] (by simp) (fun j u hu => by simp at hu)
    · subst hae
      by_cases hroom : n + m ≤ c
      · exact ⟨_, _, run_append_own_room hel hs hroom hh hcs, own_room h hd' ho hγ hh hcs (hread _ rfl) hlen hrow hyl hroom⟩
      · obtain ⟨olds, hr, hcell⟩ := exists_row (hread _ rfl)
        exact grow olds hr (run_firstCells_some w.drew sz n ⟨g, 0, none⟩ n c olds (by rw [← hr.1, hlen]) (by simpa using hcell)) (by omega)
  · obtain ⟨d, sz, b, ys, rfl, hel, hsz, hsrc, h1, hb1, hb2, rfl⟩ := hc
    simp only [Rel] at hx
    subst hx
    obtain ⟨m, news, hs, hrow, hyl⟩ := src_of hk hy hsrc h1
    have hd' := hd d rfl
    by_cases hm : m = 0
    · subst hm
      have hy0 : ys = [] := List.eq_nil_of_length_eq_zero (by rw [hyl, Nat.zero_mul])
      subst hy0
      exact ⟨_, w, run_append_zero hel hs (Nat.le_refl _), h.step_row_nil hd' sz none⟩
    · obtain ⟨cap, cur, e, w', q1, q2, q3, q4, q5, q6, q7⟩ := grow_common (ty := ty) (n := 0) (c := 0) (base := none) hel hsz (RowRel.nil (w := w) (S := Safe w0.heap.size β γ σ)) (by simp) (run_firstCells_none w.drew sz 0 0 0) hs hrow (by omega) (by simpa using hb1) (by simpa using hb2)
      simp only [Nat.zero_add, List.nil_append] at q1 q4 q6 q7
      exact ⟨_, w', q1, h.step_row hd' q2 (Nat.le_refl _) q3 q7 q4 q6 q5⟩
  · rename_i sz
    obtain ⟨d, b, ys, rfl, hel, hsz, hsrc, h1, hb1, hb2, hif⟩ := hc
    obtain ⟨ad, rfl⟩ := hx
    obtain ⟨m, news, hs, hrow, hyl⟩ := src_of hk hy hsrc h1
    have hd' := hd d rfl
    have hf : (Builtin.firstCells sz 0 (.slice ad 0 0)).run P w.drew = .ok (#[] : Array Value) w.drew := by
      cases ad with
      | none => exact run_firstCells_none w.drew sz 0 0 0
      | some a' => exact run_firstCells_some w.drew sz 0 a' 0 0 [] (by simp) (fun j u hu => by simp at hu)
    have grow : m ≠ 0 → _ := fun hm => grow_common (ty := ty) (n := 0) (c := 0) (base := ad) (olds := []) hel hsz (RowRel.nil (w := w) (S := Safe w0.heap.size β γ σ)) (by simp) hf hs hrow (by omega) (by simpa using hb1) (by simpa using hb2)
    split at hif
    · obtain ⟨hne, rfl, rfl⟩ := hif
      have hm : m ≠ 0 := fun hm => hne (List.eq_nil_of_length_eq_zero (by rw [hyl, hm, Nat.zero_mul]))
      obtain ⟨cap, cur, e, w', q1, q2, q3, q4, q5, q6, q7⟩ := grow hm
      simp only [Nat.zero_add, List.nil_append] at q1 q4 q6 q7
      refine ⟨_, w', q1, ?_⟩
      have h2 := h.kill d
      obtain ⟨h3, _, _⟩ := h2.newBox (free_kill d σ) q2 (Nat.le_refl _) (cs := ys) ⟨cur, e, q3, by omega, fun j x hx => by
        obtain ⟨u, p1, p2⟩ := q7 j x hx
        exact ⟨u, p1, p2.mono (Keeps.refl _ w) (stays_kill d)⟩⟩
      have hml : ys.length = m := by omega
      exact ⟨_, _, h3.put hd' (x := .bs d 0 ys.length) ⟨cap, by rw [upd_same, hml], by omega⟩⟩
    · subst hif
      by_cases hm : m = 0
      · subst hm
        have hy0 : ys = [] := List.eq_nil_of_length_eq_zero (by rw [hyl, Nat.zero_mul])
        subst hy0
        exact ⟨_, w, run_append_zero hel hs (Nat.le_refl _), h.step_row_nil hd' sz ad⟩
      · obtain ⟨cap, cur, e, w', q1, q2, q3, q4, q5, q6, q7⟩ := grow hm
        simp only [Nat.zero_add, List.nil_append] at q1 q4 q6 q7
        exact ⟨_, w', q1, h.step_row hd' q2 (Nat.le_refl _) q3 q7 q4 q6 q5⟩
  · rename_i sz xs
    obtain ⟨b, ys, hel, hsz, hsrc, h1, hb1, hb2, rfl⟩ := hc
    obtain ⟨ad, n, rfl, hlen, hnone, hread⟩ := hx
    obtain ⟨m, news, hs, hrow, hyl⟩ := src_of hk hy hsrc h1
    by_cases hm : m = 0
    · subst hm
      have hy0 : ys = [] := List.eq_nil_of_length_eq_zero (by rw [hyl, Nat.zero_mul])
      subst hy0
      refine ⟨_, w, run_append_zero hel hs (Nat.le_refl _), h.pure hd ⟨ad, n, n, rfl, Nat.le_refl _, by simpa using hlen, fun ha => ⟨hnone ha, hnone ha⟩, fun a' ha => by simpa using hread a' ha, fun t m ht => by cases ht⟩⟩
    · have hfc : ∃ olds, RowRel w (Safe w0.heap.size β γ σ) xs olds ∧ (Builtin.firstCells sz n (.slice ad n n)).run P w.drew = .ok olds.toArray w.drew := by
        cases ad with
        | none =>
          have := hnone rfl
          subst this
          have hx0 : xs = [] := List.eq_nil_of_length_eq_zero (by rw [hlen, Nat.zero_mul])
          subst hx0
          exact ⟨[], RowRel.nil, run_firstCells_none w.drew sz 0 0 0⟩
        | some a' =>
          obtain ⟨olds, hr, hcell⟩ := exists_row (hread _ rfl)
          exact ⟨olds, hr, run_firstCells_some w.drew sz n a' n n olds (by rw [← hr.1, hlen]) (by simpa using hcell)⟩
      obtain ⟨olds, hr, hf⟩ := hfc
      obtain ⟨cap, cur, e, w', q1, q2, q3, q4, q5, q6, q7⟩ := grow_common (ty := ty) hel hsz hr (by rw [← hr.1, hlen]) hf hs hrow (by omega) hb1 hb2
      have h2 := h.ext q2
      refine ⟨_, w', q1, h2.pure hd ⟨_, _, cap, rfl, q4, q6, (fun ha => by cases ha), fun a' ha j x hx => ?_, fun t m ht => by cases ht⟩⟩
      simp only [Option.some.injEq] at ha
      subst ha
      obtain ⟨u, p1, p2⟩ := q7 j x hx
      refine ⟨u, by rw [add_plain]; simp [World.cell?, q3, p1], p2.mono (keeps_of_old q2.block) (Stays.refl w _), .inr ⟨fun k hkb he => ?_, fun t m ht hγ => ?_⟩⟩
      · have h5 := h.box_lt hkb
        rw [he] at h5
        exact absurd h5 (Nat.lt_irrefl _)
      · have h5 := h.own_lt (t := t) (by rw [ht]; simp) hγ
        exact absurd h5 (Nat.lt_irrefl _)
  · exact hc.elim

end Abs
end Go.Proofs.YtkdpmjgigknbpaaDoor
