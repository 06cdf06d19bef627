/- Rows of rows of the call's own: read, set, grown, and their inner rows changed in place. -/
import Derived.Test.YtfjhjfddgdokgaaSxHold
namespace Go.Proofs.Ytfjhjfddgdokgaa
set_option linter.all false
open Go Go.RowKit
/-- v is a slice of slices of the call's own, in blocks among bs: the rows read as L. -/
def Rs (C : AHeap) (t' t : TypeId) (sz : Nat) (v : Value) (L : List (List Value)) (bs : List Nat) : Prop :=
  ∃ (vs : List Value) (ob : List Nat) (bss : List (List Nat)), Rw C t' 1 v L.length vs ob ∧ bss.length = L.length ∧ (∀ x, x ∈ ob → x ∈ bs) ∧
    (∀ (i : Nat) (ib : List Nat), bss[i]? = some ib → (∀ x, x ∈ ib → x ∈ bs ∧ ¬ x ∈ ob) ∧ ∀ (j : Nat) (jb : List Nat), bss[j]? = some jb → i ≠ j → ∀ x, x ∈ ib → ¬ x ∈ jb) ∧
    ∀ (i : Nat) (xs : List Value), L[i]? = some xs → ∃ x ib n, vs[i]? = some x ∧ bss[i]? = some ib ∧ Rw C t sz x n xs ib
section
variable {P : Program} {w0 : World} {K : Value → AHeap → Prop} {C C' H : AHeap} {t' t : TypeId} {sz m c n cap b : Nat} {v x : Value} {L : List (List Value)} {bs bs' ib : List Nat} {A : Option Addr} {xs : List Value} {z : List Value} {bytes xc : Nat}
theorem Rs.trans (h : Rs C t' t sz v L bs) (hl : AHeap.le C C') : Rs C' t' t sz v L bs := by
  obtain ⟨vs, ob, bss, h1, h2, h3, h4, h5⟩ := h
  refine ⟨vs, ob, bss, h1.trans hl, h2, h3, h4, fun i xs hi => ?_⟩
  obtain ⟨x, ib, n, e1, e2, e3⟩ := h5 i xs hi
  exact ⟨x, ib, n, e1, e2, e3.trans hl⟩
theorem Rs.chg (h : Rs C t' t sz v L bs) (hc : Chg C C' bs') (hd : ∀ b, b ∈ bs → ¬ b ∈ bs') : Rs C' t' t sz v L bs := by
  obtain ⟨vs, ob, bss, h1, h2, h3, h4, h5⟩ := h
  refine ⟨vs, ob, bss, h1.chg hc (fun b hb => hd b (h3 b hb)), h2, h3, h4, fun i xs hi => ?_⟩
  obtain ⟨x, ib, n, e1, e2, e3⟩ := h5 i xs hi
  exact ⟨x, ib, n, e1, e2, e3.chg hc (fun b hb => hd b ((h4 i ib e2).1 b hb).1)⟩
theorem Rs.sup (h : Rs C t' t sz v L bs) (hs : ∀ b, b ∈ bs → b ∈ bs') : Rs C t' t sz v L bs' := by
  obtain ⟨vs, ob, bss, h1, h2, h3, h4, h5⟩ := h
  exact ⟨vs, ob, bss, h1, h2, fun x hx => hs x (h3 x hx), fun i ib hi => ⟨fun x hx => ⟨hs x ((h4 i ib hi).1 x hx).1, ((h4 i ib hi).1 x hx).2⟩, (h4 i ib hi).2⟩, h5⟩
/-- Only the blocks that are in use count. -/
theorem Rs.tight (h : Rs C t' t sz v L bs) : ∃ bs', (∀ b, b ∈ bs' → b ∈ bs) ∧ (∀ b, b ∈ bs' → C b ≠ none) ∧ Rs C t' t sz v L bs' := by
  classical
  obtain ⟨vs, ob, bss, h1, h2, h3, h4, h5⟩ := h
  refine ⟨bs.filter (fun b => decide (C b ≠ none)), fun b hb => (List.mem_filter.1 hb).1, fun b hb => by simpa using (List.mem_filter.1 hb).2, vs, ob, bss, h1, h2, fun x hx => List.mem_filter.2 ⟨h3 x hx, ?_⟩, fun i ib hi => ⟨fun x hx => ⟨List.mem_filter.2 ⟨((h4 i ib hi).1 x hx).1, ?_⟩, ((h4 i ib hi).1 x hx).2⟩, (h4 i ib hi).2⟩, h5⟩
  · rcases h1 with ⟨_, _, _, rfl⟩ | ⟨b, cap, _, rfl, _, _, _, hk⟩
    · cases hx
    · simp at hx; subst hx; simpa using hk.ne
  · have hlt : i < L.length := by rw [← h2]; exact (List.getElem?_eq_some_iff.1 hi).1
    obtain ⟨x', ib', n, _, e2, e3⟩ := h5 i _ (List.getElem?_eq_getElem hlt)
    rw [hi] at e2
    obtain rfl := Option.some.inj e2
    rcases e3 with ⟨_, _, _, rfl⟩ | ⟨b, cap, _, rfl, _, _, _, hk⟩
    · cases hx
    · simp at hx; subst hx; simpa using hk.ne
theorem Rs.nil_ (C : AHeap) (t' t : TypeId) (sz : Nat) : Rs C t' t sz (.slice none 0 0) [] [] :=
  ⟨[], [], [], Rw.nil_ _ _ _, rfl, fun x hx => (by cases hx), fun i ib hi => (by simp at hi), fun i xs hi => (by simp at hi)⟩
theorem Rs.empty (h : Rw C t' 1 v 0 xs bs) (t : TypeId) (sz : Nat) : Rs C t' t sz v [] bs := by
  have : xs = [] := List.eq_nil_of_length_eq_zero (by simpa using h.len)
  subst this
  exact ⟨[], bs, [], h, rfl, fun x hx => hx, fun i ib hi => (by simp at hi), fun i xs hi => (by simp at hi)⟩
theorem Rw.slice (h : Rw C t sz v n xs bs) : ∃ A c, v = .slice A n c := by obtain ⟨A, c, e, _⟩ := h.fl; exact ⟨A, c, e⟩
theorem Rs.slice (h : Rs C t' t sz v L bs) : ∃ A c, v = .slice A L.length c := by obtain ⟨vs, ob, bss, h1, _⟩ := h; exact h1.slice
theorem Rs.len (h : Rs C t' t sz (.slice A m c) L bs) : m = L.length := by obtain ⟨A', c', e⟩ := h.slice; simp only [Value.slice.injEq] at e; exact e.2.1
/-- A row, read. -/
theorem Rs.row (h : Rs C t' t sz (.slice A m c) L bs) {i : Nat} (hi : i < L.length) : A.isSome = true ∧ ∃ A' n c', C.cell (adr A i) = some (.slice A' n c') ∧ Fl C A' L[i] ∧ L[i].length = n * sz := by
  obtain ⟨vs, ob, bss, h1, h2, h3, h4, h5⟩ := h
  obtain ⟨x, ib, n, e1, e2, e3⟩ := h5 i _ (List.getElem?_eq_getElem hi)
  obtain ⟨A', c', rfl, f⟩ := e3.fl
  have hf := h1.fl'.1
  refine ⟨hf.is (i := i) ((List.getElem?_eq_some_iff.1 e1).1), A', n, c', hf i _ e1, f, e3.len⟩
/-- A row, changed in place. -/
theorem Rs.inner (h : Rs C t' t sz (.slice A m c) L bs) {i : Nat} (hi : i < L.length) : A.isSome = true ∧ ∃ x ib n, C.cell (adr A i) = some x ∧ Rw C t sz x n L[i] ib ∧ (∀ y, y ∈ ib → y ∈ bs) ∧ (∀ C', Chg C C' ib → C'.cell (adr A i) = some x) ∧
    ∀ C' xs', Chg C C' ib → Rw C' t sz x n xs' ib → Rs C' t' t sz (.slice A m c) (L.set i xs') bs := by
  obtain ⟨vs, ob, bss, h1, h2, h3, h4, h5⟩ := h
  obtain ⟨x, ib, n, e1, e2, e3⟩ := h5 i _ (List.getElem?_eq_getElem hi)
  have hf := h1.fl'.1
  refine ⟨hf.is (i := i) ((List.getElem?_eq_some_iff.1 e1).1), x, ib, n, hf i _ e1, e3, fun y hy => ((h4 i ib e2).1 y hy).1, fun C' hc => (h1.chg hc fun y hy hm => ((h4 i ib e2).1 y hm).2 hy).fl'.1 i _ e1, fun C' xs' hc hw => ⟨vs, ob, bss, ?_, by rw [List.length_set]; exact h2, h3, h4, fun j ys hj => ?_⟩⟩
  · rw [List.length_set]
    exact h1.chg hc fun y hy hm => ((h4 i ib e2).1 y hm).2 hy
  · rw [List.getElem?_set] at hj
    by_cases e : i = j
    · subst e
      rw [if_pos rfl, if_pos hi] at hj
      obtain rfl := Option.some.inj hj
      exact ⟨x, ib, n, e1, e2, hw⟩
    · rw [if_neg e] at hj
      have hne := e
      obtain ⟨x', ib', n', a1, a2, a3⟩ := h5 j ys hj
      exact ⟨x', ib', n', a1, a2, a3.chg hc ((h4 j ib' a2).2 i ib e2 (fun e => hne e.symm))⟩
/-- A row put in the place of another. -/
theorem Rs.st (h : Rs C t' t sz (.slice (some ⟨b, 0, none⟩) m cap) L bs) {i : Nat} (hi : i < L.length) (hx : Rw C t sz x n xs ib) (hd : ∀ y, y ∈ ib → ¬ y ∈ bs)
    (hK : ∀ C', Chg C C' bs → Rs C' t' t sz (.slice (some ⟨b, 0, none⟩) m cap) (L.set i xs) (bs ++ ib) → K undef C') : stK 1 (.pointer (some ⟨b, i, none⟩)) x K C := by
  obtain ⟨vs, ob, bss, h1, h2, h3, h4, h5⟩ := h
  obtain ⟨b', cap', e, rfl, hn, hc, hl, hk⟩ := h1.open_ (by omega)
  simp only [Value.slice.injEq, Option.some.injEq, Addr.mk.injEq] at e
  obtain ⟨⟨rfl, -⟩, rfl, rfl⟩ := e
  have hxc : x.cells = #[x] ∧ x.oneCell' = true := by
    obtain ⟨A, c, rfl⟩ := hx.slice
    exact ⟨vcS _ _ _, ocS _ _ _⟩
  have hvl : vs.length = L.length := by rw [hl, Nat.mul_one]
  refine st_kn hk rfl (by rw [hxc.1]; rfl) (by simp only; omega) (by rw [hxc.1]; simpa using hxc.2) (fun C' hc' ho' k' => hK C' (hc'.mono (by simpa using h3 b (by simp))) ?_)
  rw [hxc.1] at k'
  have hbb : ¬ b ∈ ib := fun hm => hd b hm (h3 b (by simp))
  refine ⟨vs.set i x, [b], bss.set i ib, ?_, by rw [List.length_set, List.length_set]; exact h2, fun y hy => List.mem_append_left _ (h3 y hy), fun j jb hj => ?_, fun j ys hj => ?_⟩
  · rw [List.length_set]; exact .inr ⟨b, cap, rfl, rfl, hn, hc, by rw [List.length_set]; exact hl, k'⟩
  · have old : ∀ j jb, bss[j]? = some jb → ∀ y, y ∈ jb → y ∈ bs := fun j jb hj y hy => ((h4 j jb hj).1 y hy).1
    rw [List.getElem?_set] at hj
    by_cases e : i = j
    · subst e
      rw [if_pos rfl, if_pos (by omega)] at hj
      obtain rfl := Option.some.inj hj
      refine ⟨fun y hy => ⟨List.mem_append_right _ hy, fun e => hbb (by simp at e; exact e ▸ hy)⟩, fun j' jb' hj' hne y hy hm => ?_⟩
      rw [List.getElem?_set, if_neg hne] at hj'
      exact hd y hy (old j' jb' hj' y hm)
    · rw [if_neg e] at hj
      refine ⟨fun y hy => ⟨List.mem_append_left _ ((h4 j jb hj).1 y hy).1, ((h4 j jb hj).1 y hy).2⟩, fun j' jb' hj' hne' y hy hm => ?_⟩
      rw [List.getElem?_set] at hj'
      by_cases e' : i = j'
      · subst e'
        rw [if_pos rfl, if_pos (by omega)] at hj'
        obtain rfl := Option.some.inj hj'
        exact hd y hm (old j jb hj y hy)
      · rw [if_neg e'] at hj'
        exact (h4 j jb hj).2 j' jb' hj' hne' y hy hm
  · rw [List.getElem?_set] at hj
    rw [List.getElem?_set, List.getElem?_set]
    split
    · rename_i e; subst e
      rw [if_pos rfl, if_pos hi] at hj
      obtain rfl := Option.some.inj hj
      rw [if_pos (by omega), if_pos (by omega)]
      exact ⟨x, ib, n, rfl, rfl, hx.chg hc' fun y hy e => hbb (by simp at e; exact e ▸ hy)⟩
    · rename_i hne
      rw [if_neg hne] at hj
      obtain ⟨x', ib', n', a1, a2, a3⟩ := h5 j ys hj
      exact ⟨x', ib', n', a1, a2, a3.chg hc' (((h4 j ib' a2).1 · · |>.2))⟩
/-- One more row. -/
theorem Rs.app (h : Rs C t' t sz v L bs) (hx : Rw C t sz x n xs ib) (hd : ∀ y, y ∈ ib → ¬ y ∈ bs) (hz : z.length = 1) {xa : Option Addr} (hr : Fl C xa [x]) (hm : L.length + 1 ≤ maxLen) (hB : (L.length + 1) * bytes ≤ 140737488355328)
    (hK : ∀ v' C' bs', Chg C C' bs → (∀ y, y ∈ bs' → y ∈ bs ∨ y ∈ ib ∨ C y = none) → Rs C' t' t sz v' (L ++ [xs]) bs' → K v' C') : appK P w0 z t' bytes v (.slice xa 1 xc) K C := by
  obtain ⟨vs, ob, bss, h1, h2, h3, h4, h5⟩ := h
  have hvl : vs.length = L.length := by have := h1.len; rw [this, Nat.mul_one]
  have h1' : Rw C t' z.length v L.length vs ob := by rw [hz]; exact h1
  have hxo : x.oneCell' = true := by
    obtain ⟨A, c, rfl⟩ := hx.slice
    exact ocS _ _ _
  refine app_rw h1' (news := [x]) hr (by rw [hz]; rfl) (by simpa using hxo) hm hB (fun v' C' ob' hc' hn' w' => ?_)
  rw [hz] at w'
  have hdi : ∀ y, y ∈ ib → ¬ y ∈ ob' := fun y hy hm => by
    rcases hn' y hm with ho | ho
    · exact hd y hy (h3 y ho)
    · rcases hx with ⟨_, _, _, rfl⟩ | ⟨b, cap, _, rfl, _, _, _, hk⟩
      · cases hy
      · simp at hy; subst hy; exact hk.ne ho
  have hold : ∀ j jb, bss[j]? = some jb → ∀ y, y ∈ jb → ¬ y ∈ ob' := fun j jb hj y hy hm => by
    rcases hn' y hm with ho | ho
    · exact ((h4 j jb hj).1 y hy).2 ho
    · have hjl : j < L.length := by rw [← h2]; exact (List.getElem?_eq_some_iff.1 hj).1
      obtain ⟨x', ib', n', a1, a2, a3⟩ := h5 j _ (List.getElem?_eq_getElem hjl)
      rw [hj] at a2
      obtain rfl := Option.some.inj a2
      rcases a3 with ⟨_, _, _, rfl⟩ | ⟨b, cap, _, rfl, _, _, _, hk⟩
      · cases hy
      · simp at hy; subst hy; exact hk.ne ho
  refine hK v' C' (ob' ++ (bs ++ ib).filter (fun y => !decide (y ∈ ob) || decide (y ∈ ob'))) (hc'.mono h3) (fun y hy => ?_) ⟨vs ++ [x], ob', bss ++ [ib], ?_, by simp [h2], fun y hy => List.mem_append_left _ hy, fun j jb hj => ?_, fun j ys hj => ?_⟩
  · rcases List.mem_append.1 hy with hy | hy
    · rcases hn' y hy with ho | ho
      · exact .inl (h3 y ho)
      · exact .inr (.inr ho)
    · rcases List.mem_append.1 (List.mem_filter.1 hy).1 with hy | hy
      · exact .inl hy
      · exact .inr (.inl hy)
  · rw [List.length_append]; exact w'
  · have inn : ∀ y, y ∈ bs ∨ y ∈ ib → ¬ y ∈ ob → y ∈ ob' ++ (bs ++ ib).filter (fun y => !decide (y ∈ ob) || decide (y ∈ ob')) := fun y hy hno =>
      List.mem_append_right _ (List.mem_filter.2 ⟨List.mem_append.2 hy, by simp [hno]⟩)
    rcases Nat.lt_or_ge j bss.length with hjl | hjl
    · rw [List.getElem?_append_left hjl] at hj
      refine ⟨fun y hy => ⟨inn y (.inl ((h4 j jb hj).1 y hy).1) ((h4 j jb hj).1 y hy).2, hold j jb hj y hy⟩, fun j' jb' hj' hne y hy hm => ?_⟩
      rcases Nat.lt_or_ge j' bss.length with hjl' | hjl'
      · rw [List.getElem?_append_left hjl'] at hj'
        exact (h4 j jb hj).2 j' jb' hj' hne y hy hm
      · rw [List.getElem?_append_right hjl'] at hj'
        have : j' - bss.length = 0 := by
          rcases Nat.eq_zero_or_pos (j' - bss.length) with h0 | h0
          · exact h0
          · rw [List.getElem?_eq_none (by simp; omega)] at hj'; cases hj'
        rw [this] at hj'
        obtain rfl := Option.some.inj hj'
        exact hd y hm ((h4 j jb hj).1 y hy).1
    · rw [List.getElem?_append_right hjl] at hj
      have hj0 : j - bss.length = 0 := by
        rcases Nat.eq_zero_or_pos (j - bss.length) with h0 | h0
        · exact h0
        · rw [List.getElem?_eq_none (by simp; omega)] at hj; cases hj
      rw [hj0] at hj
      obtain rfl := Option.some.inj hj
      refine ⟨fun y hy => ⟨inn y (.inr hy) (fun ho => hd y hy (h3 y ho)), hdi y hy⟩, fun j' jb' hj' hne y hy hm => ?_⟩
      rcases Nat.lt_or_ge j' bss.length with hjl' | hjl'
      · rw [List.getElem?_append_left hjl'] at hj'
        exact hd y hy ((h4 j' jb' hj').1 y hm).1
      · rw [List.getElem?_append_right hjl'] at hj'
        have : j' - bss.length = 0 := by
          rcases Nat.eq_zero_or_pos (j' - bss.length) with h0 | h0
          · exact h0
          · rw [List.getElem?_eq_none (by simp; omega)] at hj'; cases hj'
        exact hne (by omega)
  · rcases Nat.lt_or_ge j L.length with hjl | hjl
    · rw [List.getElem?_append_left hjl] at hj
      obtain ⟨x', ib', n', a1, a2, a3⟩ := h5 j ys hj
      exact ⟨x', ib', n', by rw [List.getElem?_append_left (by omega)]; exact a1, by rw [List.getElem?_append_left (by omega)]; exact a2, a3.chg hc' fun y hy => ((h4 j ib' a2).1 y hy).2⟩
    · rw [List.getElem?_append_right hjl] at hj
      have hj0 : j - L.length = 0 := by
        rcases Nat.eq_zero_or_pos (j - L.length) with h0 | h0
        · exact h0
        · rw [List.getElem?_eq_none (by simp; omega)] at hj; cases hj
      rw [hj0] at hj
      obtain rfl := Option.some.inj hj
      refine ⟨x, ib, n, by rw [List.getElem?_append_right (by omega), show j - vs.length = 0 by omega]; rfl, by rw [List.getElem?_append_right (by omega), show j - bss.length = 0 by omega]; rfl, hx.chg hc' fun y hy ho => hd y hy (h3 y ho)⟩
end
end Go.Proofs.Ytfjhjfddgdokgaa
