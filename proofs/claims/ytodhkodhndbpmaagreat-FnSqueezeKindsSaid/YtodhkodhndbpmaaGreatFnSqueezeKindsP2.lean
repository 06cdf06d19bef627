/- The statement FnSqueezeKinds holds for all arguments; part 2 of the texts that show it. No further condition. -/
import Derived.Test.YtodhkodhndbpmaaGreatFnSqueezeKindsP1
namespace Go.Proofs.YtodhkodhndbpmaaGreat
set_option linter.all false
open Go Go.RowKit
def nats (ws : List Nat) : List Value := ws.map fun (i : Nat) => Value.int .i64 (i : Int)
theorem nats_len (ws : List Nat) : (nats ws).length = ws.length := by simp [nats]
theorem nats_snoc (ws : List Nat) (x : Nat) : nats (ws ++ [x]) = nats ws ++ [.int .i64 (x : Int)] := by simp [nats]
theorem bools_set (s : List Bool) (i : Nat) (x : Bool) : (bools s).set i (.bool x) = bools (s.set i x) := by simp [bools, List.map_set]
/-- C knows at block b at least what k says. -/
def Kn (C : AHeap) (b : Nat) (k : Blk) : Prop := ∃ k' : Blk, C b = some k' ∧ k'.own = k.own ∧ k'.ty = k.ty ∧ k'.cap = k.cap ∧ ∀ (j : Nat) (v : Value), k.cells[j]? = some v → k'.cells[j]? = some v
/-- C' knows what C knew, but for the blocks bs. -/
def Chg (C C' : AHeap) (bs : List Nat) : Prop := ∀ (b : Nat) (k : Blk), ¬ b ∈ bs → C b = some k → Kn C' b k
/-- v is a slice of n elements of the call's own, in the blocks bs (one, or none). -/
def Rw (C : AHeap) (t : TypeId) (sz : Nat) (v : Value) (n : Nat) (xs : List Value) (bs : List Nat) : Prop :=
  (v = .slice none 0 0 ∧ n = 0 ∧ xs = [] ∧ bs = []) ∨
  ∃ b cap, v = .slice (some ⟨b, 0, none⟩) n cap ∧ bs = [b] ∧ n ≤ cap ∧ cap ≤ maxLen ∧ xs.length = n * sz ∧ Kn C b ⟨xs, true, t, cap * sz⟩
/-- None of these blocks is known. -/
def New (H : AHeap) (bs : List Nat) : Prop := ∀ b, b ∈ bs → H b = none
section
variable {C C' C'' H : AHeap} {b b' : Nat} {k k' : Blk} {bs bs' : List Nat}
theorem Kn.of (h : C b = some k) : Kn C b k := ⟨k, h, rfl, rfl, rfl, fun _ _ h => h⟩
theorem Kn.trans (h : Kn C b k) (hl : AHeap.le C C') : Kn C' b k := by
  obtain ⟨k1, h1, o1, t1, c1, r1⟩ := h
  obtain ⟨k2, h2, o2, t2, c2, r2⟩ := hl b k1 h1
  exact ⟨k2, h2, o2.trans o1, t2.trans t1, c2.trans c1, fun j v hv => r2 j v (r1 j v hv)⟩
theorem Kn.ne (h : Kn C b k) : C b ≠ none := by obtain ⟨k', h', _⟩ := h; rw [h']; simp
theorem Kn.ne_new (h : Kn C b k) (hb : C b' = none) : ¬ b = b' := by rintro rfl; exact h.ne hb
theorem Kn.chg (h : Kn C b k) (hc : Chg C C' bs) (hb : ¬ b ∈ bs) : Kn C' b k := by
  obtain ⟨k1, h1, o1, t1, c1, r1⟩ := h
  obtain ⟨k2, h2, o2, t2, c2, r2⟩ := hc b k1 hb h1
  exact ⟨k2, h2, o2.trans o1, t2.trans t1, c2.trans c1, fun j v hv => r2 j v (r1 j v hv)⟩
theorem Kn.same (C : AHeap) (b : Nat) (k : Blk) : Kn (C.set b k) b k := .of (set_same _ _ _)
theorem Kn.set (h : Kn C b k) (hb : ¬ b = b') (k' : Blk) : Kn (C.set b' k') b k := by
  obtain ⟨k1, h1, r⟩ := h
  exact ⟨k1, by rw [set_ne hb]; exact h1, r⟩
theorem Kn.fresh (h : Kn C b k) (hb : C b' = none) (k' : Blk) : Kn (C.set b' k') b k := h.set (h.ne_new hb) k'
theorem Kn.cell (h : Kn C b k) {j : Nat} {v : Value} (hv : k.cells[j]? = some v) : C.cell (some ⟨b, j, none⟩) = some v := by
  obtain ⟨k1, h1, _, _, _, r⟩ := h
  rw [cell_blk h1]; exact r j v hv
theorem Kn.fl (h : Kn C b k) {vs : List Value} (hv : ∀ (j : Nat) (v : Value), vs[j]? = some v → k.cells[j]? = some v) : Fl C (some ⟨b, 0, none⟩) vs := fun j v hj => by
  rw [adr_lit, Nat.zero_add]; exact h.cell (hv j v hj)
theorem Kn.weaken (h : Kn C b k) {xs : List Value} (hx : ∀ (j : Nat) (v : Value), xs[j]? = some v → k.cells[j]? = some v) : Kn C b ⟨xs, k.own, k.ty, k.cap⟩ := by
  obtain ⟨k1, h1, o1, t1, c1, r1⟩ := h
  exact ⟨k1, h1, o1, t1, c1, fun j v hv => r1 j v (hx j v hv)⟩
theorem Chg.of_le (h : AHeap.le C C') : Chg C C' bs := fun b k _ hk => h b k hk
theorem Chg.le (h : Chg C C' []) : AHeap.le C C' := fun b k hk => h b k (by simp) hk
theorem Chg.refl (C : AHeap) (bs : List Nat) : Chg C C bs := .of_le (.refl C)
theorem Chg.mono (h : Chg C C' bs) (hs : ∀ b, b ∈ bs → b ∈ bs') : Chg C C' bs' := fun b k hb hk => h b k (fun hm => hb (hs b hm)) hk
theorem Chg.trans (h : Chg C C' bs) (h' : Chg C' C'' bs) : Chg C C'' bs := fun b k hb hk => (h b k hb hk).chg h' hb
theorem Chg.then_le (h : Chg C C' bs) (h' : AHeap.le C' C'') : Chg C C'' bs := fun b k hb hk => (h b k hb hk).trans h'
theorem Chg.after (h : AHeap.le C C') (h' : Chg C' C'' bs) : Chg C C'' bs := fun b k hb hk => Kn.chg (h b k hk) h' hb
/-- What stood before the blocks were made still stands. -/
theorem Chg.keep (hl : AHeap.le H C) (hc : Chg C C' bs) (hn : New H bs) : AHeap.le H C' := fun b k hk => Kn.chg (hl b k hk) hc fun hb => by rw [hn b hb] at hk; cases hk
theorem Chg.set (h : Chg C C' bs) (hb : b ∈ bs) (k : Blk) : Chg C (C'.set b k) bs := fun b' k' hb' hk' => (h b' k' hb' hk').set (fun e => hb' (e ▸ hb)) k
theorem Chg.fresh (h : Chg C C' bs) (hb : C' b = none) (k : Blk) : Chg C (C'.set b k) bs := fun b' k' hb' hk' => (h b' k' hb' hk').fresh hb k
theorem New.le (h : New C bs) (hl : AHeap.le H C) : New H bs := fun b hb => hl.none (h b hb)
theorem New.nil (H : AHeap) : New H [] := fun b hb => by cases hb
theorem New.one (h : H b = none) : New H [b] := fun x hx => by simp at hx; subst hx; exact h
theorem New.app (h : New H bs) (h' : New H bs') : New H (bs ++ bs') := fun b hb => (List.mem_append.1 hb).elim (h b) (h' b)
variable {t : TypeId} {sz n : Nat} {v : Value} {xs : List Value}
theorem Rw.trans (h : Rw C t sz v n xs bs) (hl : AHeap.le C C') : Rw C' t sz v n xs bs := by
  rcases h with h | ⟨b, cap, h1, h2, h3, h4, h5, h6⟩
  · exact .inl h
  · exact .inr ⟨b, cap, h1, h2, h3, h4, h5, h6.trans hl⟩
theorem Rw.chg (h : Rw C t sz v n xs bs) (hc : Chg C C' bs') (hd : ∀ b, b ∈ bs → ¬ b ∈ bs') : Rw C' t sz v n xs bs := by
  rcases h with h | ⟨b, cap, h1, rfl, h3, h4, h5, h6⟩
  · exact .inl h
  · exact .inr ⟨b, cap, h1, rfl, h3, h4, h5, h6.chg hc (hd b (by simp))⟩
theorem Rw.fl (h : Rw C t sz v n xs bs) : ∃ A c, v = .slice A n c ∧ Fl C A xs := by
  rcases h with ⟨rfl, rfl, rfl, rfl⟩ | ⟨b, cap, rfl, h2, h3, h4, h5, h6⟩
  · exact ⟨_, _, rfl, Fl.nil _ _⟩
  · exact ⟨_, _, rfl, h6.fl fun _ _ h => h⟩
theorem Rw.fl' {A : Option Addr} {n' c : Nat} (h : Rw C t sz (.slice A n' c) n xs bs) : Fl C A xs ∧ n' = n := by
  obtain ⟨A', c', e, hf⟩ := h.fl
  simp only [Value.slice.injEq] at e
  obtain ⟨rfl, rfl, rfl⟩ := e
  exact ⟨hf, rfl⟩
theorem Rw.len (h : Rw C t sz v n xs bs) : xs.length = n * sz := by
  rcases h with ⟨rfl, rfl, rfl, rfl⟩ | ⟨b, cap, rfl, h2, h3, h4, h5, h6⟩
  · simp
  · exact h5
theorem Rw.bound (h : Rw C t sz v n xs bs) : n ≤ maxLen := by
  rcases h with ⟨rfl, rfl, rfl, rfl⟩ | ⟨b, cap, rfl, h2, h3, h4, h5, h6⟩
  · exact Nat.zero_le _
  · omega
theorem Rw.open_ (h : Rw C t sz v n xs bs) (hn : 0 < n) : ∃ b cap, v = .slice (some ⟨b, 0, none⟩) n cap ∧ bs = [b] ∧ n ≤ cap ∧ cap ≤ maxLen ∧ xs.length = n * sz ∧ Kn C b ⟨xs, true, t, cap * sz⟩ := by
  rcases h with ⟨rfl, rfl, rfl, rfl⟩ | h
  · cases hn
  · exact h
theorem Rw.mk {b cap : Nat} (h : Kn C b ⟨xs, true, t, cap * sz⟩) (hl : xs.length = n * sz) (hn : n ≤ cap) (hc : cap ≤ maxLen) : Rw C t sz (.slice (some ⟨b, 0, none⟩) n cap) n xs [b] := .inr ⟨b, cap, rfl, rfl, hn, hc, hl, h⟩
theorem Rw.nil_ (C : AHeap) (t : TypeId) (sz : Nat) : Rw C t sz (.slice none 0 0) 0 [] [] := .inl ⟨rfl, rfl, rfl, rfl⟩
theorem Own.rw_ {A : AHeap} (h : Own A t sz v n xs C) : AHeap.le A C ∧ ∃ bs, New A bs ∧ Rw C t sz v n xs bs := by
  refine ⟨h.le, ?_⟩
  rcases h with ⟨rfl, rfl, rfl, rfl⟩ | ⟨b, cap, rfl, hb, hn, hc, hl, rfl⟩
  · exact ⟨[], New.nil _, .inl ⟨rfl, rfl, rfl, rfl⟩⟩
  · exact ⟨[b], New.one hb, .inr ⟨b, cap, rfl, rfl, hn, hc, hl, Kn.same _ _ _⟩⟩
/-- A contract that changes a row in place. -/
theorem Rw.put {A B : AHeap} {n' : Nat} {xs' : List Value} (ho : Own A t sz v n xs B) (hA : ∀ b, b ∈ bs ∨ A b = C b) (hr : Rw C t sz v n xs bs) (hn : n' = n) (h : Own A t sz v n' xs' C') : Chg C C' bs ∧ Rw C' t sz v n' xs' bs := by
  subst hn
  refine ⟨fun b k hb hk => ?_, ?_⟩
  · have : A b = some k := ((hA b).resolve_left hb).trans hk
    exact h.le b k this
  · rcases hr with ⟨rfl, rfl, rfl, rfl⟩ | ⟨b, cap, rfl, rfl, hn, hc, hl, hk⟩
    · rcases h with ⟨_, _, rfl, rfl⟩ | ⟨b', cap', e, _⟩
      · exact .inl ⟨rfl, rfl, rfl, rfl⟩
      · cases e
    · rcases h with ⟨e, _⟩ | ⟨b', cap', e, hb, hn', hc', hl', rfl⟩
      · cases e
      · simp only [Value.slice.injEq, Option.some.injEq, Addr.mk.injEq] at e
        obtain ⟨⟨rfl, _⟩, _, rfl⟩ := e
        exact .inr ⟨b, cap, rfl, rfl, hn', hc', hl', Kn.same _ _ _⟩
end
theorem New.off {C C' : AHeap} {t : TypeId} {sz : Nat} {v : Value} {n : Nat} {xs : List Value} {bs bs' : List Nat} (h : New C bs) (hr : Rw C t sz v n xs bs') : ∀ b, b ∈ bs' → ¬ b ∈ bs := fun b hb hm => by
  rcases hr with ⟨_, _, _, rfl⟩ | ⟨b', cap, _, rfl, _, _, _, hk⟩
  · cases hb
  · simp at hb; subst hb; exact hk.ne (h _ hm)
theorem New.off' {C C' : AHeap} {t : TypeId} {sz : Nat} {v : Value} {n : Nat} {xs : List Value} {bs bs' : List Nat} (h : New C bs) (hr : Rw C t sz v n xs bs') : ∀ b, b ∈ bs → ¬ b ∈ bs' := fun b hb hm => h.off (C' := C) hr b hm hb
theorem rw_of {H : AHeap} {t : TypeId} {sz : Nat} {n : Nat} {xs : List Value} {K : Value → AHeap → Prop} (h : ∀ v C bs, AHeap.le H C → New H bs → Rw C t sz v n xs bs → K v C) : ∀ v H', Own H t sz v n xs H' → K v H' := fun v H' o => by
  obtain ⟨l, bs, hn, hr⟩ := o.rw_
  exact h v H' bs l hn hr
section
variable {P : Program} {w0 : World} {K : Value → AHeap → Prop} {C H : AHeap} {b o n m xc cap bytes : Nat} {k : Blk} {v x : Value} {xs news : List Value} {bs : List Nat} {t : TypeId} {z : List Value}
theorem getElem?_setR : ∀ (vs cs : List Value) (o j : Nat), o + vs.length ≤ cs.length → (setR cs o vs)[j]? = if o ≤ j ∧ j < o + vs.length then vs[j - o]? else cs[j]?
  | [], cs, o, j, _ => by simp only [setR, List.length_nil, Nat.add_zero]; rw [if_neg (by omega)]
  | v :: r, cs, o, j, h => by
    simp only [List.length_cons] at h
    simp only [setR]
    rw [getElem?_setR r _ _ _ (by simp; omega)]
    simp only [List.length_cons, List.getElem?_set]
    by_cases hj : j = o
    · subst hj
      rw [if_neg (by omega), if_pos rfl, if_pos (by omega), if_pos (by omega), Nat.sub_self]; rfl
    · by_cases hlt : o + 1 ≤ j ∧ j < o + 1 + r.length
      · rw [if_pos hlt, if_pos (by omega), show j - o = (j - (o + 1)) + 1 by omega, List.getElem?_cons_succ]
      · rw [if_neg hlt, if_neg (fun e => hj e.symm), if_neg (by omega)]
theorem set_mid {H : AHeap} {b b' : Nat} {k k' k2 : Blk} (h : ¬ b' = b) : ((H.set b k).set b' k2).set b k' = (H.set b k').set b' k2 := by
  rw [set_comm (H := H) (b := b) (b' := b') (fun e => h e.symm), set_set, set_comm h]
theorem Chg.no {C : AHeap} {bs : List Nat} : Chg C (C.no fun b => b ∈ bs) bs := fun b k hb hk => Kn.of (by rw [no_out hb]; exact hk)
theorem Chg.le_no {C C' : AHeap} {bs : List Nat} (h : Chg C C' bs) : AHeap.le (C.no fun b => b ∈ bs) C' := fun b k hk => by
  by_cases hb : b ∈ bs
  · rw [no_in hb] at hk; cases hk
  · rw [no_out hb] at hk; exact h b k hb hk
/-- A store into a block of the call's own. -/
theorem st_kn (h : Kn C b k) (ho : k.own = true) (hs : v.cells.size = n) (hl : o + n ≤ k.cells.length) (h1 : ∀ u ∈ v.cells.toList, u.oneCell' = true)
    (hK : ∀ C', Chg C C' [b] → (∀ x, ¬ x = b → C' x = C x) → Kn C' b ⟨setR k.cells o v.cells.toList, true, k.ty, k.cap⟩ → K undef C') : stK n (.pointer (some ⟨b, o, none⟩)) v K C := by
  obtain ⟨k1, e1, o1, t1, c1, r1⟩ := h
  have hlen : k.cells.length ≤ k1.cells.length := by
    rcases Nat.lt_or_ge k1.cells.length k.cells.length with hlt | hge
    · have := r1 k1.cells.length _ (List.getElem?_eq_getElem hlt)
      rw [List.getElem?_eq_none (Nat.le_refl _)] at this; cases this
    · exact hge
  refine ⟨rfl, k1, e1, o1.trans ho, hs, Nat.le_trans hl hlen, h1, hK _ (fun x k' hx hk => ?_) (fun x hx => by rw [set_ne hx]) ⟨_, set_same _ _ _, o1.trans ho, t1, c1, fun j u hu => ?_⟩⟩
  · have : ¬ x = b := by simpa using hx
    exact Kn.of (by rw [set_ne this]; exact hk)
  · have hsz : v.cells.toList.length = n := by simpa using hs
    simp only at hu ⊢
    rw [getElem?_setR _ _ _ _ (by omega)] at hu ⊢
    split
    · rename_i hj; rw [if_pos hj] at hu; exact hu
    · rename_i hj; rw [if_neg hj] at hu; exact r1 j u hu
/-- A store into a block that is known in full. -/
theorem st_known {v : Value} {K : Value → AHeap → Prop} {H : AHeap} (h : (H b).isSome = true) : stK n (.pointer (some ⟨b, o, none⟩)) v K H = ∃ k, H b = some k ∧ k.own = true ∧ v.cells.size = n ∧ o + n ≤ k.cells.length ∧ (∀ u ∈ v.cells.toList, u.oneCell' = true) ∧
    K undef (H.set b ⟨setR k.cells o v.cells.toList, k.own, k.ty, k.cap⟩) := st_eq
/-- An append to a row of the call's own. -/
theorem app_rw (hr : Rw C t z.length v n xs bs) {xa : Option Addr} (hn : Fl C xa news) (hl : news.length = m * z.length) (h1 : ∀ u ∈ news, u.oneCell' = true) (hm : n + m ≤ maxLen) (hB : (n + m) * bytes ≤ 140737488355328)
    (hK : ∀ v' C' bs', Chg C C' bs → (∀ b, b ∈ bs' → b ∈ bs ∨ C b = none) → Rw C' t z.length v' (n + m) (xs ++ news) bs' → K v' C') : appK P w0 z t bytes v (.slice xa m xc) K C := by
  rcases hr with ⟨rfl, rfl, rfl, rfl⟩ | ⟨b, cap, rfl, rfl, hnc, hc, hlen, hk⟩
  · refine .inr ⟨[], C, news, .inl (.inl ⟨rfl, rfl, rfl, rfl⟩), hl, hn, h1, hm, hB, fun v' C' ho => ?_⟩
    obtain ⟨l, bs', hb, hr⟩ := ho.rw_
    exact hK v' C' bs' (.of_le l) (fun b hb' => .inr (hb b hb')) hr
  · obtain ⟨k1, e1, o1, t1, c1, r1⟩ := hk
    have hlen' : n * z.length ≤ k1.cells.length := by
      rcases Nat.eq_zero_or_pos (n * z.length) with h0 | h0
      · omega
      · have := r1 (n * z.length - 1) _ (List.getElem?_eq_getElem (by simp only; omega))
        have := (List.getElem?_eq_some_iff.1 this).1
        omega
    refine .inr ⟨xs, C.del b, news, .inl (.inr ⟨b, cap, k1, rfl, e1, o1, t1, c1, hnc, hc, hlen', ?_, rfl⟩), hl, hn, h1, hm, hB, fun v' C' ho => ?_⟩
    · apply List.ext_getElem?
      intro j
      rw [List.getElem?_take]
      split
      · rename_i hj
        rw [List.getElem?_eq_getElem (by omega)]
        exact (r1 j _ (List.getElem?_eq_getElem (by simp only; omega))).symm
      · rw [List.getElem?_eq_none (by omega)]
    · obtain ⟨l, bs', hb, hr⟩ := ho.rw_
      refine hK v' C' bs' (fun x k' hx hk' => ?_) (fun x hx => ?_) hr
      · have : ¬ x = b := by simpa using hx
        exact l x k' (by simp only [AHeap.del, if_neg this]; exact hk')
      · have h0 := hb x hx
        by_cases hxb : x = b
        · exact .inl (by simp [hxb])
        · simp only [AHeap.del, if_neg hxb] at h0; exact .inr h0
/-- The first m elements of a row of the call's own. -/
theorem Rw.cut_ {b cap m : Nat} {sz : Nat} (h : Kn C b ⟨xs, true, t, cap * sz⟩) (hl : xs.length = n * sz) (hm : m ≤ n) : Kn C b ⟨xs.take (m * sz), true, t, cap * sz⟩ ∧ (xs.take (m * sz)).length = m * sz :=
  ⟨h.weaken (fun j v hv => by
    rw [List.getElem?_take] at hv
    split at hv
    · exact hv
    · cases hv), by rw [List.length_take, hl]; exact Nat.min_eq_left (Nat.mul_le_mul_right _ hm)⟩
theorem for_rule {fr : Fr} {c : XC} {Q : Exit → Fr → AHeap → Prop} (n : Nat) (I : Nat → Fr → AHeap → Prop) (h0 : I 0 fr H)
    (step : ∀ k fr H, k < n → I k fr H → ∀ N : Fr → AHeap → Prop, (∀ fr' H' H'', AHeap.le H'' H' → I (k + 1) fr' H'' → N fr' H') → sx P w0 c (thenK N Q) fr H)
    (done : ∀ fr H, I n fr H → ∀ N : Fr → AHeap → Prop, sx P w0 c (thenK N Q) fr H) : sx P w0 (.loop c) Q fr H := by
  refine ⟨fun m fr H => ∃ k : Nat, m = n - k ∧ k ≤ n ∧ I k fr H, n, ⟨0, rfl, Nat.zero_le _, h0⟩, ?_⟩
  rintro m fr H ⟨k, rfl, hk, hI⟩
  by_cases hlt : k < n
  · exact step k fr H hlt hI _ fun fr' H' H'' hl hI' => ⟨_, H'', by omega, hl, k + 1, rfl, by omega, hI'⟩
  · obtain rfl : k = n := by omega
    exact done fr H hI _
theorem while_rule {fr : Fr} {c : XC} {Q : Exit → Fr → AHeap → Prop} (I : Nat → Fr → AHeap → Prop) (m : Nat) (h0 : I m fr H)
    (step : ∀ m fr H, I m fr H → ∀ N : Fr → AHeap → Prop, (∀ m' fr' H' H'', m' < m → AHeap.le H'' H' → I m' fr' H'' → N fr' H') → sx P w0 c (thenK N Q) fr H) : sx P w0 (.loop c) Q fr H :=
  ⟨I, m, h0, fun m fr H hI => step m fr H hI _ fun m' fr' H' H'' hlt hl hI' => ⟨m', H'', hlt, hl, hI'⟩⟩
end
theorem zGq : (type_of% @rdn_F) ∧ (type_of% @rdnF_zero) ∧ (type_of% @rdnF_succ) ∧ (type_of% @st_known) ∧ (type_of% @cell_old) ∧ (type_of% @set_mid) := ⟨@rdn_F, @rdnF_zero, @rdnF_succ, @st_known, @cell_old, @set_mid⟩
end Go.Proofs.YtodhkodhndbpmaaGreat
namespace Go.Proofs.YtodhkodhndbpmaaGreat
set_option linter.all false
open Go Go.RowKit
theorem nat_add {a b : Nat} (h : a + b ≤ 4611686018427387904) : IntKind.i64.wrap ((a : Int) + (b : Int)) = ((a + b : Nat) : Int) := by rw [wrap_i64 (by omega) (by omega)]; omega
theorem nat_up {a : Nat} (h : a ≤ 4611686018427387904) : IntKind.i64.wrap ((a : Int) + 1) = ((a + 1 : Nat) : Int) := by rw [wrap_i64 (by omega) (by omega)]; omega
theorem nat_dn {a : Nat} (h : a ≤ 4611686018427387904) : IntKind.i64.wrap (((a + 1 : Nat) : Int) - 1) = (a : Int) := by rw [wrap_i64 (by omega) (by omega)]; omega
/-- v is a row of the call's own, over H. -/
def Row (H C : AHeap) (t : TypeId) (sz : Nat) (v : Value) (n : Nat) (xs : List Value) : Prop := ∃ bs, AHeap.le H C ∧ New H bs ∧ Rw C t sz v n xs bs
section
variable {P : Program} {w0 : World} {K : Value → AHeap → Prop} {H H' B C C' C2 : AHeap} {t : TypeId} {sz n m b : Nat} {v : Value} {xs news : List Value}
theorem Row.hle (h : Row H C t sz v n xs) : AHeap.le H C := by obtain ⟨_, l, _⟩ := h; exact l
theorem Row.le (h : Row H C t sz v n xs) (l : AHeap.le C C') : Row H C' t sz v n xs := by
  obtain ⟨bs, l0, nb, w⟩ := h
  exact ⟨bs, l0.trans l, nb, w.trans l⟩
theorem Row.base (h : Row H C t sz v n xs) (l : AHeap.le H' H) : Row H' C t sz v n xs := by
  obtain ⟨bs, l0, nb, w⟩ := h
  exact ⟨bs, l.trans l0, nb.le l, w⟩
theorem Row.fl (h : Row H C t sz v n xs) : ∃ A c, v = .slice A n c ∧ Fl C A xs := by
  obtain ⟨bs, l0, nb, w⟩ := h
  exact w.fl
theorem Row.fl' {A : Option Addr} {n' c : Nat} (h : Row H C t sz (.slice A n' c) n xs) : Fl C A xs ∧ n' = n := by
  obtain ⟨bs, l0, nb, w⟩ := h
  exact w.fl'
theorem Row.len (h : Row H C t sz v n xs) : xs.length = n * sz := by
  obtain ⟨bs, l0, nb, w⟩ := h
  exact w.len
theorem Row.nil_ (H : AHeap) (t : TypeId) (sz : Nat) : Row H H t sz (.slice none 0 0) 0 [] := ⟨[], .refl _, New.nil _, Rw.nil_ _ _ _⟩
theorem Row.lit0 (hb : H b = none) : Row H (H.set b ⟨[], true, t, 0⟩) t sz (.slice (some ⟨b, 0, none⟩) 0 0) 0 [] :=
  ⟨[b], (AHeap.le.refl H).fresh hb _, New.one hb, Rw.mk (cap := 0) (by rw [Nat.zero_mul]; exact Kn.same _ _ _) (by simp) (Nat.le_refl _) (by decide)⟩
/-- A row made by a literal. -/
theorem Row.lit (hb : H b = none) {c : Nat} (hc : c = n * sz) (hl : xs.length = n * sz) (hm : n ≤ maxLen) : Row H (H.set b ⟨xs, true, t, c⟩) t sz (.slice (some ⟨b, 0, none⟩) n n) n xs := by
  subst hc
  exact ⟨[b], (AHeap.le.refl H).fresh hb _, New.one hb, Rw.mk (Kn.same _ _ _) hl (Nat.le_refl _) hm⟩
/-- Append what can be read. -/
theorem Row.app {z : List Value} {bytes : Nat} {xa : Option Addr} {xc : Nat} (h : Row H C t z.length v n xs) (hf : Fl C xa news) (hl : news.length = m * z.length) (h1 : ∀ u ∈ news, u.oneCell' = true) (hm : n + m ≤ maxLen) (hB : (n + m) * bytes ≤ 140737488355328)
    (hK : ∀ v' C', Row H C' t z.length v' (n + m) (xs ++ news) → K v' C') : appK P w0 z t bytes v (.slice xa m xc) K C := by
  obtain ⟨bs, l, nb, w⟩ := h
  refine app_rw w hf hl h1 hm hB fun v' C' bs' hc hn hr => hK v' C' ⟨bs', hc.keep l nb, fun x hx => ?_, hr⟩
  rcases hn x hx with h | h
  · exact nb x h
  · exact l.none h
/-- Append one literal element. -/
theorem Row.app1 {z : List Value} {bytes : Nat} {xc : Nat} (h : Row H C t z.length v n xs) (hb : C b = none) {o : Bool} {t' : TypeId} {c : Nat} (hl : news.length = m * z.length) (h1 : ∀ u ∈ news, u.oneCell' = true) (hm : n + m ≤ maxLen) (hB : (n + m) * bytes ≤ 140737488355328)
    (hK : ∀ v' C', Row H C' t z.length v' (n + m) (xs ++ news) → K v' C') : appK P w0 z t bytes v (.slice (some ⟨b, 0, none⟩) m xc) K (C.set b ⟨news, o, t', c⟩) :=
  (h.le ((AHeap.le.refl C).fresh hb _)).app (Fl.blk _ _ _ _ fun _ _ h => h) hl h1 hm hB hK
/-- The row, over all else that is known behind it. -/
theorem Row.cut (h : Row H C t sz v n xs) (l : AHeap.le C C2) : ∃ B, AHeap.le H B ∧ AHeap.le B C2 ∧ Row B C2 t sz v n xs ∧ ∀ (t2 : TypeId) (sz2 : Nat) (v2 : Value) (n2 : Nat) (xs2 : List Value), Row C C2 t2 sz2 v2 n2 xs2 → Row H B t2 sz2 v2 n2 xs2 := by
  obtain ⟨bs, l0, nb, w⟩ := h
  have hB := le_no (B := fun b => b ∈ bs) (l0.trans l) nb
  refine ⟨C2.no fun b => b ∈ bs, hB, no_le _ _, ⟨bs, no_le _ _, fun x hx => no_in hx, w.trans l⟩, fun t2 sz2 v2 n2 xs2 h2 => ?_⟩
  obtain ⟨bs2, l2, nb2, w2⟩ := h2
  refine ⟨bs2, hB, nb2.le l0, w2.chg Chg.no fun x hx hm => ?_⟩
  rcases w with ⟨_, _, _, rfl⟩ | ⟨b', cap, _, rfl, _, _, _, hk⟩
  · cases hm
  · simp only [List.mem_cons, List.not_mem_nil, or_false] at hm
    subst hm
    exact hk.ne (nb2 _ hx)
end
end Go.Proofs.YtodhkodhndbpmaaGreat
namespace Go.Proofs.YtodhkodhndbpmaaGreat
set_option linter.all false
open Go Go.RowKit
inductive Ex where
  | mk (op n : Int) (args : List Ex)
def Ex.op : Ex → Int | .mk o _ _ => o
def Ex.n : Ex → Int | .mk _ n _ => n
def Ex.args : Ex → List Ex | .mk _ _ a => a
mutual
/-- The cells of an expression, and what its slice leads to. -/
def ExV (H : AHeap) : Ex → List Value → Prop
  | .mk op n args, cs => ∃ A c, cs = [.int .i64 op, .int .i64 n, .slice A args.length c] ∧ args.length ≤ maxLen ∧ ExR H args A 0
def ExR (H : AHeap) : List Ex → Option Addr → Nat → Prop
  | [], _, _ => True
  | e :: es, A, i => (∃ v0 v1 v2, H.cell (adr A (i * 3)) = some v0 ∧ H.cell (adr A (i * 3 + 1)) = some v1 ∧ H.cell (adr A (i * 3 + 2)) = some v2 ∧ ExV H e [v0, v1, v2]) ∧ ExR H es A (i + 1)
end
/-- How many expressions lie below. -/
def Ex.cnt : Ex → Nat
  | .mk _ _ args => cntL args
where cntL : List Ex → Nat
  | [] => 0
  | e :: es => 1 + e.cnt + cntL es
mutual
theorem ExV.le {H H' : AHeap} (hl : AHeap.le H H') : ∀ {e : Ex} {cs : List Value}, ExV H e cs → ExV H' e cs
  | .mk op n args, cs, h => by
    simp only [ExV] at h ⊢
    obtain ⟨A, c, h1, h2, h3⟩ := h
    exact ⟨A, c, h1, h2, ExR.le hl h3⟩
theorem ExR.le {H H' : AHeap} (hl : AHeap.le H H') : ∀ {es : List Ex} {A : Option Addr} {i : Nat}, ExR H es A i → ExR H' es A i
  | [], _, _, _ => by simp only [ExR]
  | e :: es, A, i, h => by
    simp only [ExR] at h ⊢
    obtain ⟨⟨v0, v1, v2, h0, h1, h2, h3⟩, h4⟩ := h
    exact ⟨⟨v0, v1, v2, hl.cell h0, hl.cell h1, hl.cell h2, ExV.le hl h3⟩, ExR.le hl h4⟩
end
theorem ExR.at_ {H : AHeap} : ∀ {es : List Ex} {A : Option Addr} {i k : Nat}, ExR H es A i → (hk : k < es.length) → ∃ v0 v1 v2, H.cell (adr A ((i + k) * 3)) = some v0 ∧ H.cell (adr A ((i + k) * 3 + 1)) = some v1 ∧ H.cell (adr A ((i + k) * 3 + 2)) = some v2 ∧ ExV H es[k] [v0, v1, v2]
  | e :: es, A, i, 0, h, _ => by simp only [ExR] at h; exact h.1
  | e :: es, A, i, k + 1, h, hk => by
    simp only [ExR] at h
    have := ExR.at_ (k := k) h.2 (by simpa using hk)
    rw [show i + 1 + k = i + (k + 1) by omega] at this
    exact this
/-- The k-th argument's cells. -/
theorem ExR.arg {H : AHeap} {es : List Ex} {A : Option Addr} {k : Nat} (h : ExR H es A 0) (hk : k < es.length) :
    A.isSome = true ∧ ∃ a c, (H.cell (adr A (k * 3)) = some (.int .i64 es[k].op) ∧ H.cell (adr A (k * 3 + 1)) = some (.int .i64 es[k].n) ∧ H.cell (adr A (k * 3 + 2)) = some (.slice a es[k].args.length c)) ∧
      ExV H es[k] [.int .i64 es[k].op, .int .i64 es[k].n, .slice a es[k].args.length c] := by
  obtain ⟨v0, v1, v2, h0, h1, h2, h3⟩ := h.at_ hk
  rw [Nat.zero_add] at h0 h1 h2
  have hA : A.isSome = true := by
    cases A with
    | none => cases h0
    | some a => rfl
  generalize es[k] = e at h3 ⊢
  cases e with
  | mk op n args =>
    have h3' := h3
    simp only [ExV] at h3
    obtain ⟨a, c, h4, _, _⟩ := h3
    simp only [List.cons.injEq, and_true] at h4
    obtain ⟨rfl, rfl, rfl⟩ := h4
    exact ⟨hA, a, c, ⟨h0, h1, h2⟩, h3'⟩
theorem ExV.open_ {H : AHeap} {e : Ex} {cs : List Value} (h : ExV H e cs) : ∃ a c, cs = [.int .i64 e.op, .int .i64 e.n, .slice a e.args.length c] ∧ e.args.length ≤ maxLen ∧ ExR H e.args a 0 := by
  cases e with
  | mk op n args => simpa only [ExV, Ex.op, Ex.n, Ex.args] using h
/-- The two arguments of an operation. -/
theorem ExR.two {H : AHeap} {x y : Ex} {A : Option Addr} (h : ExR H [x, y] A 0) : ∃ a c b d, (A.isSome = true ∧ H.cell A = some (.int .i64 x.op) ∧ H.cell (adr A 1) = some (.int .i64 x.n) ∧ H.cell (adr A 2) = some (.slice a x.args.length c) ∧
    H.cell (adr A 3) = some (.int .i64 y.op) ∧ H.cell (adr A 4) = some (.int .i64 y.n) ∧ H.cell (adr A 5) = some (.slice b y.args.length d)) ∧
    ExV H x [.int .i64 x.op, .int .i64 x.n, .slice a x.args.length c] ∧ ExV H y [.int .i64 y.op, .int .i64 y.n, .slice b y.args.length d] := by
  obtain ⟨hA, a, c, ⟨h0, h1, h2⟩, h3⟩ := h.arg (k := 0) (by simp)
  obtain ⟨_, b, d, ⟨g0, g1, g2⟩, g3⟩ := h.arg (k := 1) (by simp)
  simp only [Nat.zero_mul, Nat.zero_add, adr_zero, List.getElem_cons_zero, List.getElem_cons_succ, Nat.one_mul] at h0 h1 h2 h3 g0 g1 g2 g3
  exact ⟨a, c, b, d, ⟨hA, h0, h1, h2, g0, g1, g2⟩, h3, g3⟩
theorem two_le {H H' : AHeap} (hl : AHeap.le H H') {A : Option Addr} {x0 x1 x2 x3 x4 x5 : Value} (h : A.isSome = true ∧ H.cell A = some x0 ∧ H.cell (adr A 1) = some x1 ∧ H.cell (adr A 2) = some x2 ∧ H.cell (adr A 3) = some x3 ∧ H.cell (adr A 4) = some x4 ∧ H.cell (adr A 5) = some x5) :
    A.isSome = true ∧ H'.cell A = some x0 ∧ H'.cell (adr A 1) = some x1 ∧ H'.cell (adr A 2) = some x2 ∧ H'.cell (adr A 3) = some x3 ∧ H'.cell (adr A 4) = some x4 ∧ H'.cell (adr A 5) = some x5 :=
  ⟨h.1, hl.cell h.2.1, hl.cell h.2.2.1, hl.cell h.2.2.2.1, hl.cell h.2.2.2.2.1, hl.cell h.2.2.2.2.2.1, hl.cell h.2.2.2.2.2.2⟩
def exprOk : Nat → Ex → Bool
  | 0, _ => false
  | d + 1, .mk op n args =>
    if op = 0 then decide (0 ≤ n) && decide (n ≤ 99999) && args.isEmpty
    else if op = 13 then decide (0 ≤ n) && decide (n ≤ 3) && args.isEmpty
    else decide (1 ≤ op) && decide (op ≤ 12) && n == 0 && (match args with | [x, y] => exprOk d x && exprOk d y | _ => false)
/-- The depth, and the code, of an expression of two arguments at most. -/
def Ex.depth : Ex → Nat
  | .mk _ _ args => depthL args + 1
where depthL : List Ex → Nat
  | [] => 0
  | e :: es => max e.depth (depthL es)
end Go.Proofs.YtodhkodhndbpmaaGreat
namespace Go.Proofs.YtodhkodhndbpmaaGreat
set_option linter.all false
open Go Go.RowKit
set_option maxRecDepth 100000
/-- What C' knows of the blocks that C does not know. -/
def AHeap.off (C' C : AHeap) : AHeap := fun x => if (C x).isSome then none else C' x
theorem off_le (C' C : AHeap) : AHeap.le (C'.off C) C' := fun x k hx => by
  simp only [AHeap.off] at hx
  split at hx
  · cases hx
  · exact ⟨k, hx, rfl, rfl, rfl, fun _ _ h => h⟩
theorem off_at {C' C : AHeap} {x : Nat} (h : C x = none) : C'.off C x = C' x := by simp [AHeap.off, h]
theorem off_some {C' C : AHeap} {x : Nat} {k : Blk} (h : C'.off C x = some k) : C x = none ∧ C' x = some k := by
  simp only [AHeap.off] at h
  split at h
  · cases h
  · rename_i hn; exact ⟨by simpa using hn, h⟩
theorem del_at {C : AHeap} {b x : Nat} (h : ¬ x = b) : C.del b x = C x := by simp [AHeap.del, h]
theorem del_same (C : AHeap) (b : Nat) : C.del b b = none := by simp [AHeap.del]
/-- The bytes that are read. -/
structure Src where
  A : Option Addr
  n : Nat
  c : Nat
  zs : List Int
structure RdK (S : Src) (C : AHeap) (b : Nat) (p : Int) : Prop where
  kn : Kn C b (rk S.A S.n S.c p)
  fl : Fl (C.del b) S.A (u8s S.zs)
  rng : ∀ z ∈ S.zs, 0 ≤ z ∧ z < 256
  len : S.zs.length = S.n
  max : S.n ≤ 2000
/-- A step that keeps all but the reader's block. -/
structure Dr (C C' : AHeap) (b : Nat) : Prop where
  le : AHeap.le (C.del b) (C'.del b)
  b0 : C b ≠ none
  b1 : C' b ≠ none
section
variable {S : Src} {C C' C1 C2 D : AHeap} {b x : Nat} {p p' : Int} {k : Blk}
theorem del_mono (h : AHeap.le C C') : AHeap.le (C.del b) (C'.del b) := fun x k hx => by
  by_cases e : x = b
  · subst e; rw [del_same] at hx; cases hx
  · rw [del_at e] at hx ⊢; exact h x k hx
theorem RdK.le (h : RdK S C b p) (l : AHeap.le C C') : RdK S C' b p := ⟨h.kn.trans l, h.fl.le (del_mono l), h.rng, h.len, h.max⟩
theorem RdK.fresh (h : RdK S C b p) (hx : C x = none) (k : Blk) : RdK S (C.set x k) b p := h.le ((AHeap.le.refl C).fresh hx k)
theorem RdK.ne (h : RdK S C b p) : C b ≠ none := h.kn.ne
theorem Dr.of_le (l : AHeap.le C C') (h : C b ≠ none) : Dr C C' b := ⟨del_mono l, h, fun e => h (l.none e)⟩
theorem RdK.dr (h : RdK S C b p) (l : AHeap.le C C') : Dr C C' b := .of_le l h.ne
theorem Dr.refl (h : C b ≠ none) : Dr C C b := .of_le (.refl _) h
theorem Dr.trans (h : Dr C C1 b) (h' : Dr C1 C2 b) : Dr C C2 b := ⟨h.le.trans h'.le, h.b0, h'.b1⟩
theorem Dr.then_le (h : Dr C C1 b) (l : AHeap.le C1 C2) : Dr C C2 b := h.trans (.of_le l h.b1)
theorem Dr.nov (h : Dr C C1 b) (hx : C1 x = none) : C x = none := by
  by_cases e : x = b
  · subst e; exact absurd hx h.b1
  · have := h.le.none (b := x) (by rw [del_at e]; exact hx)
    rwa [del_at e] at this
theorem Dr.kn (h : Dr C C1 b) (hk : Kn C x k) (e : ¬ x = b) : Kn C1 x k := by
  obtain ⟨k1, h1, r⟩ := hk
  have h2 : C.del b x = some k1 := by rw [del_at e]; exact h1
  have h3 := (show Kn (C.del b) x k from ⟨k1, h2, r⟩).trans h.le
  obtain ⟨k2, h4, r2⟩ := h3
  exact ⟨k2, by rwa [del_at e] at h4, r2⟩
theorem Dr.sov (h : Dr C C1 b) (hk : C x = some k) (e : ¬ x = b) : Kn C1 x k := h.kn (Kn.of hk) e
theorem Dr.off_r (h : Dr C C1 b) (h' : Dr C1 C2 b) : AHeap.le (C2.off C1) (C2.off C) := fun x k hx => by
  obtain ⟨h1, h2⟩ := off_some hx
  exact ⟨k, by rw [off_at (h.nov h1)]; exact h2, rfl, rfl, rfl, fun _ _ h => h⟩
theorem Dr.fl (h : Dr C C' b) {A : Option Addr} {vs : List Value} (hf : Fl (C.del b) A vs) : Fl (C'.del b) A vs := hf.le h.le
theorem del_le' (C : AHeap) (b : Nat) : AHeap.le (C.del b) C := AHeap.del_le C b
theorem RdK.cut (h : RdK S C b p) : AHeap.le ((C.del b).set b (rk S.A S.n S.c p)) C := fun x k hx => by
  by_cases e : x = b
  · subst e; rw [set_same] at hx; obtain rfl := Option.some.inj hx; exact h.kn
  · rw [set_ne e] at hx; exact del_le' C b x k hx
theorem RdK.rdr (h : RdK S C b p) : Rdr (C.del b) S.A S.n S.zs b := ⟨h.fl, h.rng, h.len, h.max, del_same _ _⟩
theorem del_set (hD : D b = none) (k : Blk) : (D.set b k).del b = D := by
  funext x
  by_cases e : x = b
  · subst e; rw [del_same, hD]
  · rw [del_at e, set_ne e]
/-- Behind a draw in the old style. -/
theorem RdK.back (h : RdK S C b p) (l : AHeap.le (C.del b) D) (hD : D b = none) (q : Int) : RdK S (D.set b (rk S.A S.n S.c q)) b q ∧ Dr C (D.set b (rk S.A S.n S.c q)) b :=
  ⟨⟨Kn.same _ _ _, by rw [del_set hD]; exact h.fl.le l, h.rng, h.len, h.max⟩, by rw [del_set hD]; exact l, h.ne, by rw [set_same]; simp⟩
end
section
variable {S : Src} {C C' C1 C2 H : AHeap} {b x : Nat} {p : Int} {bs : List Nat}
theorem RdK.chg (h : RdK S C b p) (hc : Chg C C' bs) (hx : ¬ b ∈ bs) (hf : Fl (H.del b) S.A (u8s S.zs)) (hH : AHeap.le (H.del b) (C'.del b)) : RdK S C' b p := ⟨h.kn.chg hc hx, hf.le hH, h.rng, h.len, h.max⟩
theorem Dr.chg (h : Dr H C b) (hc : Chg C C' bs) (hn : New H bs) : Dr H C' b := by
  have hb : ¬ b ∈ bs := fun hm => h.b0 (hn b hm)
  refine ⟨fun x k hx => ?_, h.b0, ?_⟩
  · have e : ¬ x = b := by rintro rfl; rw [del_same] at hx; cases hx
    obtain ⟨k1, h1, r1⟩ := h.le x k hx
    have hxH : H x = some k := by rw [del_at e] at hx; exact hx
    have h2 := (show Kn C x k from ⟨k1, by rwa [del_at e] at h1, r1⟩).chg hc fun hm => by rw [hn x hm] at hxH; cases hxH
    obtain ⟨k2, h3, r2⟩ := h2
    exact ⟨k2, by rw [del_at e]; exact h3, r2⟩
  · intro e
    cases hk : C b with
    | none => exact h.b1 hk
    | some k => have := (Kn.of hk).chg hc hb; exact this.ne e
theorem off_any (h : ∀ x k, C1 x = none → C2 x = some k → H x = none ∧ Kn C' x k) : AHeap.le (C2.off C1) (C'.off H) := fun x k hx => by
  obtain ⟨h1, h2⟩ := off_some hx
  obtain ⟨h3, k2, h4, r⟩ := h x k h1 h2
  exact ⟨k2, by rw [off_at h3]; exact h4, r⟩
/-- What was made beside blocks that then change. -/
theorem Dr.off_chg (h : Dr H C1 b) (hc : Chg C2 C' bs) (hn : ∀ x, x ∈ bs → C1 x ≠ none) : AHeap.le (C2.off C1) (C'.off H) :=
  off_any fun x k h1 h2 => ⟨h.nov h1, (Kn.of h2).chg hc fun hm => hn x hm h1⟩
theorem Dr.toChg (h : Dr C C' b) (hs : b ∈ bs) : Chg C C' bs := fun x k hx hk => h.sov hk fun e => hx (e ▸ hs)
theorem kn_off {k : Blk} (hx : H x = none) (hk : Kn C x k) : Kn (C.off H) x k := by
  obtain ⟨k1, h1, r⟩ := hk
  exact ⟨k1, by rw [off_at hx]; exact h1, r⟩
theorem no_del (C : AHeap) (bs : List Nat) (hb : b ∈ bs) : AHeap.le (C.no fun y => y ∈ bs) (C.del b) := fun x k hx => by
  by_cases hm : x ∈ bs
  · rw [no_in hm] at hx; cases hx
  · rw [no_out hm] at hx
    have e : ¬ x = b := by rintro rfl; exact hm hb
    exact ⟨k, by rw [del_at e]; exact hx, rfl, rfl, rfl, fun _ _ h => h⟩
theorem st_kn3 {D : Value → AHeap → Prop} {t : TypeId} {c : Nat} {v0 v1 v2 u0 u1 u2 : Value} (hk : Kn C x ⟨[v0, v1, v2], true, t, c⟩) (h1 : ∀ u ∈ [u0, u1, u2], u.oneCell' = true)
    (hD : ∀ C', Chg C C' [x] → Kn C' x ⟨[u0, u1, u2], true, t, c⟩ → (C'.cell (some ⟨x, 0, none⟩) = some u0 ∧ C'.cell (some ⟨x, 1, none⟩) = some u1 ∧ C'.cell (some ⟨x, 2, none⟩) = some u2) → D undef C') : stK 3 (.pointer (some ⟨x, 0, none⟩)) (.agg #[u0, u1, u2]) D C :=
  st_kn hk rfl rfl (by simp) h1 fun C' hc _ k => hD C' hc k ⟨k.cell (j := 0) rfl, k.cell (j := 1) rfl, k.cell (j := 2) rfl⟩
theorem st_kn8 {D : Value → AHeap → Prop} {t : TypeId} {c : Nat} {v0 v1 v2 v3 v4 v5 v6 v7 u0 u1 u2 u3 u4 u5 u6 u7 : Value} (hk : Kn C x ⟨[v0, v1, v2, v3, v4, v5, v6, v7], true, t, c⟩) (h1 : ∀ u ∈ [u0, u1, u2, u3, u4, u5, u6, u7], u.oneCell' = true)
    (hD : ∀ C', Chg C C' [x] → Kn C' x ⟨[u0, u1, u2, u3, u4, u5, u6, u7], true, t, c⟩ → (C'.cell (some ⟨x, 0, none⟩) = some u0 ∧ C'.cell (some ⟨x, 1, none⟩) = some u1 ∧ C'.cell (some ⟨x, 2, none⟩) = some u2 ∧ C'.cell (some ⟨x, 3, none⟩) = some u3 ∧ C'.cell (some ⟨x, 4, none⟩) = some u4 ∧ C'.cell (some ⟨x, 5, none⟩) = some u5 ∧ C'.cell (some ⟨x, 6, none⟩) = some u6 ∧ C'.cell (some ⟨x, 7, none⟩) = some u7) → D undef C') :
    stK 8 (.pointer (some ⟨x, 0, none⟩)) (.agg #[u0, u1, u2, u3, u4, u5, u6, u7]) D C :=
  st_kn hk rfl rfl (by simp) h1 fun C' hc _ k => hD C' hc k ⟨k.cell (j := 0) rfl, k.cell (j := 1) rfl, k.cell (j := 2) rfl, k.cell (j := 3) rfl, k.cell (j := 4) rfl, k.cell (j := 5) rfl, k.cell (j := 6) rfl, k.cell (j := 7) rfl⟩
end
section
variable (w0 : World) (K : Value → AHeap → Prop) {S : Src} {C : AHeap} {b : Nat} {p : Int}
theorem pickK_ok (hr : RdK S C b p) (k : Int) (h0 : 0 ≤ p) (h1 : p ≤ 1099511627776) (hk : 1 ≤ k) (h : ∀ v C', RdK S C' b (p + 1) → Dr C C' b → 0 ≤ v → v < k → K (.int .i64 v) C') :
    ACalls Tryz.prog w0 40 [.pointer (some ⟨b, 0, none⟩), .int .i64 k] C K :=
  ACalls.mono (pick_ok w0 _ K S.A S.n S.c S.zs b p k hr.rdr h0 h1 hk fun v g0 g1 => (hr.back (.refl _) (del_same _ _) (p + 1)).elim fun r d => h v _ r d g0 g1) hr.cut
theorem opK_ok (hr : RdK S C b p) (h0 : 0 ≤ p) (h1 : p ≤ 1099511627776) (h : ∀ v C', RdK S C' b (p + 1) → Dr C C' b → 1 ≤ v → v ≤ 12 → K (.int .i64 v) C') :
    ACalls Tryz.prog w0 68 [.pointer (some ⟨b, 0, none⟩)] C K :=
  ACalls.mono (op_ok w0 _ K S.A S.n S.c S.zs b p hr.rdr h0 h1 fun v g0 g1 => (hr.back (.refl _) (del_same _ _) (p + 1)).elim fun r d => h v _ r d g0 g1) hr.cut
theorem quadK_ok (hr : RdK S C b p) (m : Int) (hm : 1 ≤ m) (h0 : 0 ≤ p) (h1 : p ≤ 1099511627700) (h : ∀ (q : Qd) p' C', RdK S C' b p' → Dr C C' b → quadValid q m = true → q.op ≠ 10 → p ≤ p' → p' ≤ p + 8 → K q.val C') :
    ACalls Tryz.prog w0 60 [.pointer (some ⟨b, 0, none⟩), .int .i64 m] C K :=
  ACalls.mono (quad_ok w0 _ K S.A S.n S.c S.zs b p m hm hr.rdr h0 h1 fun q p' g0 g1 g2 g3 => (hr.back (.refl _) (del_same _ _) p').elim fun r d => h q p' _ r d g0 g1 g2 g3) hr.cut
end
end Go.Proofs.YtodhkodhndbpmaaGreat
namespace Go.Proofs.YtodhkodhndbpmaaGreat
set_option linter.all false
open Go Go.RowKit
set_option maxRecDepth 100000
variable (w0 : World) (H : AHeap) (K : Value → AHeap → Prop)
theorem exV_leaf (H : AHeap) (op n : Int) (A : Option Addr) (c : Nat) : ExV H (.mk op n []) [.int .i64 op, .int .i64 n, .slice A 0 c] := by
  simp only [ExV]
  exact ⟨A, c, rfl, Nat.zero_le _, by simp only [ExR]⟩
theorem exV_both {D : AHeap} {x : Nat} {t : TypeId} {cc : Nat} {o : Int} {a b : Ex} {Aa Ab : Option Addr} {ca cb : Nat} (hk : Kn D x ⟨[.int .i64 a.op, .int .i64 a.n, .slice Aa a.args.length ca, .int .i64 b.op, .int .i64 b.n, .slice Ab b.args.length cb], true, t, cc⟩)
    (ha : ExV D a [.int .i64 a.op, .int .i64 a.n, .slice Aa a.args.length ca]) (hb : ExV D b [.int .i64 b.op, .int .i64 b.n, .slice Ab b.args.length cb]) : ExV D (.mk o 0 [a, b]) [.int .i64 o, .int .i64 0, .slice (some ⟨x, 0, none⟩) 2 2] := by
  simp only [ExV]
  refine ⟨_, _, rfl, by simp [maxLen], ?_⟩
  simp only [ExR, adr_lit, Nat.zero_mul, Nat.zero_add, Nat.one_mul, and_true]
  exact ⟨⟨_, _, _, hk.cell rfl, hk.cell rfl, hk.cell rfl, ha⟩, _, _, _, hk.cell rfl, hk.cell rfl, hk.cell rfl, hb⟩
theorem l4Leaf_ok (o n : Int) (h : ∀ A c C', AHeap.le H C' → K (.agg #[.int .i64 o, .int .i64 n, .slice A 0 c]) C') : ACalls Tryz.prog w0 97 [.int .i64 o, .int .i64 n] H K := by
  refine acalls_of_sx mix Tryz.func97 of97 (by simp [ir97]) ?_; rw [ir97]; (try delta qT qI qC qO qM qG)
  repeat' (first | simp -implicitDefEqProofs only [zG1,zG2,zG3,zG4,zG5,zG6,zG7,eq_self,resV,rval,X.val,binv,fillL,setR,↓reduceIte,Nat.reduceEqDiff,Nat.reduceAdd,Nat.reduceMul,Nat.reduceLeDiff,Nat.reduceLT,Nat.reduceSub,reduceCtorEq,zGr, *] | ((with_reducible refine rows_intro (fun _ hb => ?_)); try simp only [set_none, ne_eq] at hb) | ((with_reducible refine new_intro (fun _ hb => ?_)); try simp only [set_none, ne_eq] at hb) | (with_reducible refine draw_same ?_) | ((with_reducible refine gd_split ?_ (fun _ => ?_) (fun _ => ?_)); exact rfl) | ((with_reducible refine td_split ?_ (fun _ => ?_) (fun _ => ?_)); exact rfl) | (with_reducible refine c_split (fun _ => ?_) (fun _ => ?_)))
  rename_i x4 h4 x7
  refine ⟨_, AHeap.le.refl _, h _ _ _ ?_⟩
  exact le_fresh0 (le_fresh0 (le_fresh0 (.refl _) h4 _) hb.2 _) h4 _
theorem l4Both_ok (o : Int) (a b : Ex) (Aa Ab : Option Addr) (ca cb : Nat) (h : ∀ x C' t c, AHeap.le H C' → H x = none → Kn C' x ⟨[.int .i64 a.op, .int .i64 a.n, .slice Aa a.args.length ca, .int .i64 b.op, .int .i64 b.n, .slice Ab b.args.length cb], true, t, c⟩ → K (.agg #[.int .i64 o, .int .i64 0, .slice (some ⟨x, 0, none⟩) 2 2]) C') :
    ACalls Tryz.prog w0 96 [.int .i64 o, .agg #[.int .i64 a.op, .int .i64 a.n, .slice Aa a.args.length ca], .agg #[.int .i64 b.op, .int .i64 b.n, .slice Ab b.args.length cb]] H K := by
  refine acalls_of_sx mix Tryz.func96 of96 (by simp [ir96]) ?_; rw [ir96]; (try delta qT qI qC qO qM qG)
  repeat' (first | simp -implicitDefEqProofs only [zG1,zG2,zG3,zG4,zG5,zG6,zG7,eq_self,resV,rval,X.val,binv,fillL,setR,↓reduceIte,Nat.reduceEqDiff,Nat.reduceAdd,Nat.reduceMul,Nat.reduceLeDiff,Nat.reduceLT,Nat.reduceSub,reduceCtorEq,zGr, *] | ((with_reducible refine rows_intro (fun _ hb => ?_)); try simp only [set_none, ne_eq] at hb) | ((with_reducible refine new_intro (fun _ hb => ?_)); try simp only [set_none, ne_eq] at hb) | (with_reducible refine draw_same ?_) | ((with_reducible refine gd_split ?_ (fun _ => ?_) (fun _ => ?_)); exact rfl) | ((with_reducible refine td_split ?_ (fun _ => ?_) (fun _ => ?_)); exact rfl) | (with_reducible refine c_split (fun _ => ?_) (fun _ => ?_)))
  rename_i x1 h1 x2 h2 x3 h3 x4
  refine ⟨_, AHeap.le.refl _, h x4 _ 73 6 ?_ hb.2.2.2 ?_⟩
  · exact le_fresh0 (le_fresh0 (le_fresh0 (le_fresh0 (le_fresh0 (.refl _) h1 _) h2.2 _) h3.2.2 _) hb.2.2.2 _) h3.2.2 _
  · exact (Kn.same _ _ _).set hb.1 _
theorem ok_up {d : Nat} : ∀ {e : Ex}, exprOk d e = true → exprOk (d + 1) e = true := by
  induction d with
  | zero => intro e h; cases e; cases h
  | succ d ih =>
    intro ⟨op, n, args⟩ h
    unfold exprOk at h ⊢
    split
    · rename_i h0; rwa [if_pos h0] at h
    · rename_i h0
      rw [if_neg h0] at h
      split
      · rename_i h1; rwa [if_pos h1] at h
      · rename_i h1
        rw [if_neg h1] at h
        simp only [Bool.and_eq_true] at h ⊢
        refine ⟨h.1, ?_⟩
        replace h := h.2
        match args, h with
        | [x, y], h =>
          have h := Bool.and_eq_true_iff.1 h
          exact Bool.and_eq_true_iff.2 ⟨ih h.1, ih h.2⟩
        | [], h | [_], h | _ :: _ :: _ :: _, h => cases h
theorem ok_up5 {d : Nat} {e : Ex} (hd : d ≤ 5) (h : exprOk d e = true) : exprOk 5 e = true := by
  have : ∀ m, exprOk (d + m) e = true := by
    intro m
    induction m with
    | zero => exact h
    | succ m ih => exact ok_up ih
  have := this (5 - d)
  rwa [show d + (5 - d) = 5 by omega] at this
theorem ok_leaf0 {n : Int} (h0 : 0 ≤ n) (h1 : n ≤ 99999) : exprOk 1 (.mk 0 n []) = true := by simp [exprOk, h0, h1]
theorem ok_leaf13 {n : Int} (h0 : 0 ≤ n) (h1 : n ≤ 3) : exprOk 1 (.mk 13 n []) = true := by simp [exprOk, h0, h1]
theorem ok_both {d : Nat} {o : Int} {a b : Ex} (h0 : 1 ≤ o) (h1 : o ≤ 12) (ha : exprOk d a = true) (hb : exprOk d b = true) : exprOk (d + 1) (.mk o 0 [a, b]) = true := by
  have e0 : ¬ o = 0 := by omega
  have e1 : ¬ o = 13 := by omega
  simp [exprOk, h0, h1, ha, hb, e0, e1]
variable {S : Src} {b : Nat} {p : Int}
theorem l91Leaf_ok (hr : RdK S H b p) (h0 : 0 ≤ p) (h1 : p ≤ 1099511627000)
    (h : ∀ o n A c C' p', RdK S C' b p' → Dr H C' b → exprOk 1 (.mk o n []) = true → p ≤ p' → p' ≤ p + 2 → K (.agg #[.int .i64 o, .int .i64 n, .slice A 0 c]) C') :
    ACalls Tryz.prog w0 98 [.pointer (some ⟨b, 0, none⟩)] H K := by
  have fin : ∀ (x : Nat) (C : AHeap) (t : TypeId) (cc : Nat) (q : Int) (o n : Int) (A : Option Addr) (c : Nat) (D : Value → AHeap → Prop), H x = none → Kn C x ⟨[.int .i64 0, .int .i64 0, .slice none 0 0], true, t, cc⟩ → RdK S C b q → Dr H C b → exprOk 1 (.mk o n []) = true → p ≤ q → q ≤ p + 2 →
      (∀ C', (C'.cell (some ⟨x, 0, none⟩) = some (.int .i64 o) ∧ C'.cell (some ⟨x, 1, none⟩) = some (.int .i64 n) ∧ C'.cell (some ⟨x, 2, none⟩) = some (.slice A 0 c)) → K (.agg #[.int .i64 o, .int .i64 n, .slice A 0 c]) C' → D undef C') →
      stK 3 (.pointer (some ⟨x, 0, none⟩)) (.agg #[.int .i64 o, .int .i64 n, .slice A 0 c]) D C := by
    intro x C t cc q o n A c D hx hk hrc hd ho hq0 hq1 hD
    have hbx : ¬ b ∈ [x] := by
      simp only [List.mem_cons, List.not_mem_nil, or_false]
      rintro rfl; exact hr.ne hx
    refine st_kn3 hk (by simp [ocI, ocS]) (fun C' hc k cs => hD C' cs ?_)
    have hd' := hd.chg hc (New.one hx)
    exact h o n A c C' q (hrc.chg hc hbx hr.fl hd'.le) hd' ho hq0 hq1
  refine acalls_of_sx mix Tryz.func98 of98 (by simp [ir98]) ?_; rw [ir98]; (try delta qT qI qC qO qM qG)
  repeat' (first | simp -implicitDefEqProofs only [zG1,zG2,zG3,zG4,zG5,zG6,zG7,eq_self,resV,rval,X.val,binv,fillL,setR,↓reduceIte,Nat.reduceEqDiff,Nat.reduceAdd,Nat.reduceMul,Nat.reduceLeDiff,Nat.reduceLT,Nat.reduceSub,reduceCtorEq,zGq] | ((with_reducible refine rows_intro (fun _ hb => ?_)); try simp only [set_none, ne_eq] at hb) | ((with_reducible refine new_intro (fun _ hb => ?_)); try simp only [set_none, ne_eq] at hb) | (with_reducible refine draw_same ?_) | ((with_reducible refine gd_split ?_ (fun _ => ?_) (fun _ => ?_)); exact rfl) | ((with_reducible refine td_split ?_ (fun _ => ?_) (fun _ => ?_)); exact rfl) | (with_reducible refine c_split (fun _ => ?_) (fun _ => ?_)))
  rename_i x
  have hx := hb
  have hr1 := hr.fresh hx ⟨[.int .i64 0, .int .i64 0, .slice none 0 0], true, 73, 3⟩
  have l1 := (AHeap.le.refl H).fresh hx ⟨[.int .i64 0, .int .i64 0, .slice none 0 0], true, 73, 3⟩
  have k1 := Kn.same H x ⟨[.int .i64 0, .int .i64 0, .slice none 0 0], true, 73, 3⟩
  have hxb : ¬ x = b := by rintro rfl; exact hr.ne hx
  refine pickK_ok _ _ hr1 4 (by omega) (by omega) (by decide) (fun v C1 r1 d1 hv0 hv1 => ?_)
  have d1' := (hr.dr l1).trans d1
  have k2 := d1.kn k1 hxb
  repeat' (first | simp -implicitDefEqProofs only [zG1,zG2,zG3,zG4,zG5,zG6,zG7,eq_self,resV,rval,X.val,binv,fillL,setR,↓reduceIte,Nat.reduceEqDiff,Nat.reduceAdd,Nat.reduceMul,Nat.reduceLeDiff,Nat.reduceLT,Nat.reduceSub,reduceCtorEq,zGq] | ((with_reducible refine rows_intro (fun _ hb => ?_)); try simp only [set_none, ne_eq] at hb) | ((with_reducible refine new_intro (fun _ hb => ?_)); try simp only [set_none, ne_eq] at hb) | (with_reducible refine draw_same ?_) | ((with_reducible refine gd_split ?_ (fun _ => ?_) (fun _ => ?_)); exact rfl) | ((with_reducible refine td_split ?_ (fun _ => ?_) (fun _ => ?_)); exact rfl) | (with_reducible refine c_split (fun _ => ?_) (fun _ => ?_)))
  · refine pickK_ok _ _ r1 4 (by omega) (by omega) (by decide) (fun v C2 r2 d2 hv0 hv1 => ?_)
    repeat' (first | simp -implicitDefEqProofs only [zG1,zG2,zG3,zG4,zG5,zG6,zG7,eq_self,resV,rval,X.val,binv,fillL,setR,↓reduceIte,Nat.reduceEqDiff,Nat.reduceAdd,Nat.reduceMul,Nat.reduceLeDiff,Nat.reduceLT,Nat.reduceSub,reduceCtorEq,zGq] | ((with_reducible refine rows_intro (fun _ hb => ?_)); try simp only [set_none, ne_eq] at hb) | ((with_reducible refine new_intro (fun _ hb => ?_)); try simp only [set_none, ne_eq] at hb) | (with_reducible refine draw_same ?_) | ((with_reducible refine gd_split ?_ (fun _ => ?_) (fun _ => ?_)); exact rfl) | ((with_reducible refine td_split ?_ (fun _ => ?_) (fun _ => ?_)); exact rfl) | (with_reducible refine c_split (fun _ => ?_) (fun _ => ?_)) | (with_reducible refine l4Leaf_ok _ _ _ _ _ (fun A c C3 l3 => ?_)))
    refine fin x C3 _ _ _ _ _ _ _ _ hx ((d2.kn k2 hxb).trans l3) (r2.le l3) ((d1'.trans d2).then_le l3) (ok_leaf0 hv0 (by omega)) (by omega) (by omega) (fun C4 hc4 hK => ?_)
    repeat' (first | simp -implicitDefEqProofs only [zG1,zG2,zG3,zG4,zG5,zG6,zG7,eq_self,resV,rval,X.val,binv,fillL,setR,↓reduceIte,Nat.reduceEqDiff,Nat.reduceAdd,Nat.reduceMul,Nat.reduceLeDiff,Nat.reduceLT,Nat.reduceSub,reduceCtorEq,zGq, hc4] | ((with_reducible refine rows_intro (fun _ hb => ?_)); try simp only [set_none, ne_eq] at hb) | ((with_reducible refine new_intro (fun _ hb => ?_)); try simp only [set_none, ne_eq] at hb) | (with_reducible refine draw_same ?_) | ((with_reducible refine gd_split ?_ (fun _ => ?_) (fun _ => ?_)); exact rfl) | ((with_reducible refine td_split ?_ (fun _ => ?_) (fun _ => ?_)); exact rfl) | (with_reducible refine c_split (fun _ => ?_) (fun _ => ?_)))
    exact ret_same hK
  · rename_i y
    have hy := hb
    refine pickK_ok _ _ (r1.fresh hy _) 8 (by omega) (by omega) (by decide) (fun v C2 r2 d2 hv0 hv1 => ?_)
    have hyb : ¬ y = b := by rintro rfl; exact r1.ne hy
    have ky := d2.kn (Kn.same C1 y _) hyb
    have ly := (AHeap.le.refl C1).fresh hy ⟨[.int .i64 5, .int .i64 31, .int .i64 32, .int .i64 100, .int .i64 2047, .int .i64 2048, .int .i64 65536, .int .i64 99999], true, 3, 8⟩
    have d2' := (Dr.of_le ly r1.ne).trans d2
    obtain ⟨j, rfl⟩ : ∃ j : Nat, v = j := ⟨v.toNat, by omega⟩
    have hj : j < 8 := by omega
    have g1 := rng (k := j) (n := 8) hj
    match j, hj with
    | 0, _ | 1, _ | 2, _ | 3, _ | 4, _ | 5, _ | 6, _ | 7, _ =>
      have cy0 := ky.cell (j := 0) rfl
      have cy1 := ky.cell (j := 1) rfl
      have cy2 := ky.cell (j := 2) rfl
      have cy3 := ky.cell (j := 3) rfl
      have cy4 := ky.cell (j := 4) rfl
      have cy5 := ky.cell (j := 5) rfl
      have cy6 := ky.cell (j := 6) rfl
      have cy7 := ky.cell (j := 7) rfl
      repeat' (first | simp -implicitDefEqProofs only [zG1,zG2,zG3,zG4,zG5,zG6,zG7,eq_self,resV,rval,X.val,binv,fillL,setR,↓reduceIte,Nat.reduceEqDiff,Nat.reduceAdd,Nat.reduceMul,Nat.reduceLeDiff,Nat.reduceLT,Nat.reduceSub,reduceCtorEq,zGq, g1, cy0, cy1, cy2, cy3, cy4, cy5, cy6, cy7, Nat.mul_one, adr_lit, Nat.zero_add] | ((with_reducible refine rows_intro (fun _ hb => ?_)); try simp only [set_none, ne_eq] at hb) | ((with_reducible refine new_intro (fun _ hb => ?_)); try simp only [set_none, ne_eq] at hb) | (with_reducible refine draw_same ?_) | ((with_reducible refine gd_split ?_ (fun _ => ?_) (fun _ => ?_)); exact rfl) | ((with_reducible refine td_split ?_ (fun _ => ?_) (fun _ => ?_)); exact rfl) | (with_reducible refine c_split (fun _ => ?_) (fun _ => ?_)) | (with_reducible refine l4Leaf_ok _ _ _ _ _ (fun A c C3 l3 => ?_)))
      refine fin x C3 _ _ _ _ _ _ _ _ hx ((d2'.kn k2 hxb).trans l3) (r2.le l3) ((d1'.trans d2').then_le l3) (ok_leaf0 (by decide) (by decide)) (by omega) (by omega) (fun C4 hc4 hK => ?_)
      repeat' (first | simp -implicitDefEqProofs only [zG1,zG2,zG3,zG4,zG5,zG6,zG7,eq_self,resV,rval,X.val,binv,fillL,setR,↓reduceIte,Nat.reduceEqDiff,Nat.reduceAdd,Nat.reduceMul,Nat.reduceLeDiff,Nat.reduceLT,Nat.reduceSub,reduceCtorEq,zGq, hc4] | ((with_reducible refine rows_intro (fun _ hb => ?_)); try simp only [set_none, ne_eq] at hb) | ((with_reducible refine new_intro (fun _ hb => ?_)); try simp only [set_none, ne_eq] at hb) | (with_reducible refine draw_same ?_) | ((with_reducible refine gd_split ?_ (fun _ => ?_) (fun _ => ?_)); exact rfl) | ((with_reducible refine td_split ?_ (fun _ => ?_) (fun _ => ?_)); exact rfl) | (with_reducible refine c_split (fun _ => ?_) (fun _ => ?_)))
      exact ret_same hK
  · refine pickK_ok _ _ r1 4 (by omega) (by omega) (by decide) (fun v C2 r2 d2 hv0 hv1 => ?_)
    repeat' (first | simp -implicitDefEqProofs only [zG1,zG2,zG3,zG4,zG5,zG6,zG7,eq_self,resV,rval,X.val,binv,fillL,setR,↓reduceIte,Nat.reduceEqDiff,Nat.reduceAdd,Nat.reduceMul,Nat.reduceLeDiff,Nat.reduceLT,Nat.reduceSub,reduceCtorEq,zGq] | ((with_reducible refine rows_intro (fun _ hb => ?_)); try simp only [set_none, ne_eq] at hb) | ((with_reducible refine new_intro (fun _ hb => ?_)); try simp only [set_none, ne_eq] at hb) | (with_reducible refine draw_same ?_) | ((with_reducible refine gd_split ?_ (fun _ => ?_) (fun _ => ?_)); exact rfl) | ((with_reducible refine td_split ?_ (fun _ => ?_) (fun _ => ?_)); exact rfl) | (with_reducible refine c_split (fun _ => ?_) (fun _ => ?_)) | (with_reducible refine l4Leaf_ok _ _ _ _ _ (fun A c C3 l3 => ?_)))
    refine fin x C3 _ _ _ _ _ _ _ _ hx ((d2.kn k2 hxb).trans l3) (r2.le l3) ((d1'.trans d2).then_le l3) (ok_leaf13 hv0 (by omega)) (by omega) (by omega) (fun C4 hc4 hK => ?_)
    repeat' (first | simp -implicitDefEqProofs only [zG1,zG2,zG3,zG4,zG5,zG6,zG7,eq_self,resV,rval,X.val,binv,fillL,setR,↓reduceIte,Nat.reduceEqDiff,Nat.reduceAdd,Nat.reduceMul,Nat.reduceLeDiff,Nat.reduceLT,Nat.reduceSub,reduceCtorEq,zGq, hc4] | ((with_reducible refine rows_intro (fun _ hb => ?_)); try simp only [set_none, ne_eq] at hb) | ((with_reducible refine new_intro (fun _ hb => ?_)); try simp only [set_none, ne_eq] at hb) | (with_reducible refine draw_same ?_) | ((with_reducible refine gd_split ?_ (fun _ => ?_) (fun _ => ?_)); exact rfl) | ((with_reducible refine td_split ?_ (fun _ => ?_) (fun _ => ?_)); exact rfl) | (with_reducible refine c_split (fun _ => ?_) (fun _ => ?_)))
    exact ret_same hK
end Go.Proofs.YtodhkodhndbpmaaGreat
namespace Go.Proofs.YtodhkodhndbpmaaGreat
set_option linter.all false
open Go Go.RowKit
set_option maxRecDepth 100000
variable (w0 : World)
def drT : Nat → Nat
  | 0 => 3
  | d + 1 => 2 * drT d + 3
theorem drT_ge : ∀ d, 3 ≤ drT d
  | 0 => Nat.le_refl _
  | d + 1 => by simp only [drT]; omega
theorem l91Expr_ok {S : Src} {b : Nat} (d : Nat) : ∀ (H : AHeap) (K : Value → AHeap → Prop) (p : Int), d ≤ 5 → RdK S H b p → 0 ≤ p → p + drT d ≤ 1099511620000 →
    (∀ e A c C' p', RdK S C' b p' → Dr H C' b → exprOk (max d 1) e = true → ExV (C'.off H) e [.int .i64 e.op, .int .i64 e.n, .slice A e.args.length c] → p ≤ p' → p' ≤ p + drT d → K (.agg #[.int .i64 e.op, .int .i64 e.n, .slice A e.args.length c]) C') →
    ACalls Tryz.prog w0 84 [.pointer (some ⟨b, 0, none⟩), .int .i64 d] H K := by
  induction d with
  | zero =>
    intro H K p hd hr h0 h1 h
    have g2 : decide (((0 : Nat) : Int) < 2) = true := by decide
    have hT : drT 0 = 3 := rfl
    refine acalls_of_sx mix Tryz.func84 of84 (by simp [ir84]) ?_; rw [ir84]; (try delta qT qI qC qO qM qG)
    repeat' (first | simp -implicitDefEqProofs only [zG1,zG2,zG3,zG4,zG5,zG6,zG7,eq_self,resV,rval,X.val,binv,fillL,setR,↓reduceIte,Nat.reduceEqDiff,Nat.reduceAdd,Nat.reduceMul,Nat.reduceLeDiff,Nat.reduceLT,Nat.reduceSub,reduceCtorEq,zGq, g2] | ((with_reducible refine rows_intro (fun _ hb => ?_)); try simp only [set_none, ne_eq] at hb) | ((with_reducible refine new_intro (fun _ hb => ?_)); try simp only [set_none, ne_eq] at hb) | (with_reducible refine draw_same ?_) | ((with_reducible refine gd_split ?_ (fun _ => ?_) (fun _ => ?_)); exact rfl) | ((with_reducible refine td_split ?_ (fun _ => ?_) (fun _ => ?_)); exact rfl) | (with_reducible refine c_split (fun _ => ?_) (fun _ => ?_)))
    have hx := hb
    rename_i x
    have hxb : ¬ x = b := by rintro rfl; exact hr.ne hx
    have l1 := (AHeap.le.refl H).fresh hx ⟨[.int .i64 0, .int .i64 0, .slice none 0 0], true, 73, 3⟩
    refine l91Leaf_ok _ _ _ (hr.fresh hx _) h0 (by omega) (fun o n A c C1 p' r1 d1 ho hp0 hp1 => ?_)
    repeat' (first | simp -implicitDefEqProofs only [zG1,zG2,zG3,zG4,zG5,zG6,zG7,eq_self,resV,rval,X.val,binv,fillL,setR,↓reduceIte,Nat.reduceEqDiff,Nat.reduceAdd,Nat.reduceMul,Nat.reduceLeDiff,Nat.reduceLT,Nat.reduceSub,reduceCtorEq,zGq, g2] | ((with_reducible refine rows_intro (fun _ hb => ?_)); try simp only [set_none, ne_eq] at hb) | ((with_reducible refine new_intro (fun _ hb => ?_)); try simp only [set_none, ne_eq] at hb) | (with_reducible refine draw_same ?_) | ((with_reducible refine gd_split ?_ (fun _ => ?_) (fun _ => ?_)); exact rfl) | ((with_reducible refine td_split ?_ (fun _ => ?_) (fun _ => ?_)); exact rfl) | (with_reducible refine c_split (fun _ => ?_) (fun _ => ?_)))
    refine st_kn3 (d1.kn (Kn.same _ _ _) hxb) (by simp [ocI, ocS]) (fun C2 hc k cs => ?_)
    have d2 := ((hr.dr l1).trans d1).chg hc (New.one hx)
    repeat' (first | simp -implicitDefEqProofs only [zG1,zG2,zG3,zG4,zG5,zG6,zG7,eq_self,resV,rval,X.val,binv,fillL,setR,↓reduceIte,Nat.reduceEqDiff,Nat.reduceAdd,Nat.reduceMul,Nat.reduceLeDiff,Nat.reduceLT,Nat.reduceSub,reduceCtorEq,zGq, cs] | ((with_reducible refine rows_intro (fun _ hb => ?_)); try simp only [set_none, ne_eq] at hb) | ((with_reducible refine new_intro (fun _ hb => ?_)); try simp only [set_none, ne_eq] at hb) | (with_reducible refine draw_same ?_) | ((with_reducible refine gd_split ?_ (fun _ => ?_) (fun _ => ?_)); exact rfl) | ((with_reducible refine td_split ?_ (fun _ => ?_) (fun _ => ?_)); exact rfl) | (with_reducible refine c_split (fun _ => ?_) (fun _ => ?_)))
    exact ret_same (h (.mk o n []) A c C2 p' (r1.chg hc (by simpa using fun e => hxb e.symm) hr.fl d2.le) d2 ho (exV_leaf _ _ _ _ _) hp0 (by omega))
  | succ d ih =>
    intro H K p hd hr h0 h1 h
    have hT : drT (d + 1) = 2 * drT d + 3 := rfl
    have hT0 := drT_ge d
    have leaf : ∀ (C0 : AHeap) (q : Int) (x : Nat) (D : Value → AHeap → Prop), H x = none → Kn C0 x ⟨[.int .i64 0, .int .i64 0, .slice none 0 0], true, 73, 3⟩ → RdK S C0 b q → Dr H C0 b → p ≤ q → q ≤ p + 1 →
        (∀ o n A c C, (∀ E : Value → AHeap → Prop, (∀ C', (C'.cell (some ⟨x, 0, none⟩) = some (.int .i64 o) ∧ C'.cell (some ⟨x, 1, none⟩) = some (.int .i64 n) ∧ C'.cell (some ⟨x, 2, none⟩) = some (.slice A 0 c)) → K (.agg #[.int .i64 o, .int .i64 n, .slice A 0 c]) C' → E undef C') → stK 3 (.pointer (some ⟨x, 0, none⟩)) (.agg #[.int .i64 o, .int .i64 n, .slice A 0 c]) E C) → D (.agg #[.int .i64 o, .int .i64 n, .slice A 0 c]) C) →
        ACalls Tryz.prog w0 98 [.pointer (some ⟨b, 0, none⟩)] C0 D := by
      intro C0 q x D hx hk hrc hdc hq0 hq1 hD
      have hxb : ¬ x = b := by rintro rfl; exact hr.ne hx
      refine l91Leaf_ok _ _ _ hrc (by omega) (by omega) (fun o n A c C1 p' r1 d1 ho hp0 hp1 => hD o n A c C1 fun E hE => ?_)
      refine st_kn3 (d1.kn hk hxb) (by simp [ocI, ocS]) (fun C2 hc k cs => hE C2 cs ?_)
      have d2 := (hdc.trans d1).chg hc (New.one hx)
      have ho' : exprOk (max (d + 1) 1) (.mk o n []) = true := by
        have : ∀ m, exprOk (1 + m) (.mk o n []) = true := by
          intro m
          induction m with
          | zero => exact ho
          | succ m ih => exact ok_up ih
        have := this d
        rwa [show max (d + 1) 1 = 1 + d by omega]
      exact h (.mk o n []) A c C2 p' (r1.chg hc (by simpa using fun e => hxb e.symm) hr.fl d2.le) d2 ho' (exV_leaf _ _ _ _ _) (by omega) (by omega)
    have w1 : IntKind.i64.wrap (((d + 1 : Nat) : Int) - 1) = (d : Int) := by rw [wrap_i64 (by omega) (by omega)]; omega
    by_cases hd1 : d = 0
    · subst hd1
      have g2 : decide (((0 + 1 : Nat) : Int) < 2) = true := by decide
      refine acalls_of_sx mix Tryz.func84 of84 (by simp [ir84]) ?_; rw [ir84]; (try delta qT qI qC qO qM qG)
      repeat' (first | simp -implicitDefEqProofs only [zG1,zG2,zG3,zG4,zG5,zG6,zG7,eq_self,resV,rval,X.val,binv,fillL,setR,↓reduceIte,Nat.reduceEqDiff,Nat.reduceAdd,Nat.reduceMul,Nat.reduceLeDiff,Nat.reduceLT,Nat.reduceSub,reduceCtorEq,zGq, g2] | ((with_reducible refine rows_intro (fun _ hb => ?_)); try simp only [set_none, ne_eq] at hb) | ((with_reducible refine new_intro (fun _ hb => ?_)); try simp only [set_none, ne_eq] at hb) | (with_reducible refine draw_same ?_) | ((with_reducible refine gd_split ?_ (fun _ => ?_) (fun _ => ?_)); exact rfl) | ((with_reducible refine td_split ?_ (fun _ => ?_) (fun _ => ?_)); exact rfl) | (with_reducible refine c_split (fun _ => ?_) (fun _ => ?_)))
      have hx := hb
      rename_i x
      refine leaf _ p x _ hx (Kn.same _ _ _) (hr.fresh hx _) (hr.dr ((AHeap.le.refl H).fresh hx _)) (by omega) (by omega) (fun o n A c C st => ?_)
      repeat' (first | simp -implicitDefEqProofs only [zG1,zG2,zG3,zG4,zG5,zG6,zG7,eq_self,resV,rval,X.val,binv,fillL,setR,↓reduceIte,Nat.reduceEqDiff,Nat.reduceAdd,Nat.reduceMul,Nat.reduceLeDiff,Nat.reduceLT,Nat.reduceSub,reduceCtorEq,zGq, g2] | ((with_reducible refine rows_intro (fun _ hb => ?_)); try simp only [set_none, ne_eq] at hb) | ((with_reducible refine new_intro (fun _ hb => ?_)); try simp only [set_none, ne_eq] at hb) | (with_reducible refine draw_same ?_) | ((with_reducible refine gd_split ?_ (fun _ => ?_) (fun _ => ?_)); exact rfl) | ((with_reducible refine td_split ?_ (fun _ => ?_) (fun _ => ?_)); exact rfl) | (with_reducible refine c_split (fun _ => ?_) (fun _ => ?_)))
      refine st _ (fun C2 cs hK => ?_)
      repeat' (first | simp -implicitDefEqProofs only [zG1,zG2,zG3,zG4,zG5,zG6,zG7,eq_self,resV,rval,X.val,binv,fillL,setR,↓reduceIte,Nat.reduceEqDiff,Nat.reduceAdd,Nat.reduceMul,Nat.reduceLeDiff,Nat.reduceLT,Nat.reduceSub,reduceCtorEq,zGq, cs] | ((with_reducible refine rows_intro (fun _ hb => ?_)); try simp only [set_none, ne_eq] at hb) | ((with_reducible refine new_intro (fun _ hb => ?_)); try simp only [set_none, ne_eq] at hb) | (with_reducible refine draw_same ?_) | ((with_reducible refine gd_split ?_ (fun _ => ?_) (fun _ => ?_)); exact rfl) | ((with_reducible refine td_split ?_ (fun _ => ?_) (fun _ => ?_)); exact rfl) | (with_reducible refine c_split (fun _ => ?_) (fun _ => ?_)))
      exact ret_same hK
    · have g2 : decide (((d + 1 : Nat) : Int) < 2) = false := by simp; omega
      refine acalls_of_sx mix Tryz.func84 of84 (by simp [ir84]) ?_; rw [ir84]; (try delta qT qI qC qO qM qG)
      repeat' (first | simp -implicitDefEqProofs only [zG1,zG2,zG3,zG4,zG5,zG6,zG7,eq_self,resV,rval,X.val,binv,fillL,setR,↓reduceIte,Nat.reduceEqDiff,Nat.reduceAdd,Nat.reduceMul,Nat.reduceLeDiff,Nat.reduceLT,Nat.reduceSub,reduceCtorEq,zGq, g2] | ((with_reducible refine rows_intro (fun _ hb => ?_)); try simp only [set_none, ne_eq] at hb) | ((with_reducible refine new_intro (fun _ hb => ?_)); try simp only [set_none, ne_eq] at hb) | (with_reducible refine draw_same ?_) | ((with_reducible refine gd_split ?_ (fun _ => ?_) (fun _ => ?_)); exact rfl) | ((with_reducible refine td_split ?_ (fun _ => ?_) (fun _ => ?_)); exact rfl) | (with_reducible refine c_split (fun _ => ?_) (fun _ => ?_)))
      have hx := hb
      rename_i x
      have hxb : ¬ x = b := by rintro rfl; exact hr.ne hx
      have l1 := (AHeap.le.refl H).fresh hx ⟨[.int .i64 0, .int .i64 0, .slice none 0 0], true, 73, 3⟩
      refine pickK_ok _ _ (hr.fresh hx _) 3 (by omega) (by omega) (by decide) (fun v C1 r1 d1 hv0 hv1 => ?_)
      have d1' := (hr.dr l1).trans d1
      have k1 := d1.kn (Kn.same H x ⟨[.int .i64 0, .int .i64 0, .slice none 0 0], true, 73, 3⟩) hxb
      repeat' (first | simp -implicitDefEqProofs only [zG1,zG2,zG3,zG4,zG5,zG6,zG7,eq_self,resV,rval,X.val,binv,fillL,setR,↓reduceIte,Nat.reduceEqDiff,Nat.reduceAdd,Nat.reduceMul,Nat.reduceLeDiff,Nat.reduceLT,Nat.reduceSub,reduceCtorEq,zGq, g2] | ((with_reducible refine rows_intro (fun _ hb => ?_)); try simp only [set_none, ne_eq] at hb) | ((with_reducible refine new_intro (fun _ hb => ?_)); try simp only [set_none, ne_eq] at hb) | (with_reducible refine draw_same ?_) | ((with_reducible refine gd_split ?_ (fun _ => ?_) (fun _ => ?_)); exact rfl) | ((with_reducible refine td_split ?_ (fun _ => ?_) (fun _ => ?_)); exact rfl) | (with_reducible refine c_split (fun _ => ?_) (fun _ => ?_)))
      · refine leaf C1 (p + 1) x _ hx k1 r1 d1' (by omega) (by omega) (fun o n A c C st => ?_)
        repeat' (first | simp -implicitDefEqProofs only [zG1,zG2,zG3,zG4,zG5,zG6,zG7,eq_self,resV,rval,X.val,binv,fillL,setR,↓reduceIte,Nat.reduceEqDiff,Nat.reduceAdd,Nat.reduceMul,Nat.reduceLeDiff,Nat.reduceLT,Nat.reduceSub,reduceCtorEq,zGq, g2] | ((with_reducible refine rows_intro (fun _ hb => ?_)); try simp only [set_none, ne_eq] at hb) | ((with_reducible refine new_intro (fun _ hb => ?_)); try simp only [set_none, ne_eq] at hb) | (with_reducible refine draw_same ?_) | ((with_reducible refine gd_split ?_ (fun _ => ?_) (fun _ => ?_)); exact rfl) | ((with_reducible refine td_split ?_ (fun _ => ?_) (fun _ => ?_)); exact rfl) | (with_reducible refine c_split (fun _ => ?_) (fun _ => ?_)))
        refine st _ (fun C2 cs hK => ?_)
        repeat' (first | simp -implicitDefEqProofs only [zG1,zG2,zG3,zG4,zG5,zG6,zG7,eq_self,resV,rval,X.val,binv,fillL,setR,↓reduceIte,Nat.reduceEqDiff,Nat.reduceAdd,Nat.reduceMul,Nat.reduceLeDiff,Nat.reduceLT,Nat.reduceSub,reduceCtorEq,zGq, cs] | ((with_reducible refine rows_intro (fun _ hb => ?_)); try simp only [set_none, ne_eq] at hb) | ((with_reducible refine new_intro (fun _ hb => ?_)); try simp only [set_none, ne_eq] at hb) | (with_reducible refine draw_same ?_) | ((with_reducible refine gd_split ?_ (fun _ => ?_) (fun _ => ?_)); exact rfl) | ((with_reducible refine td_split ?_ (fun _ => ?_) (fun _ => ?_)); exact rfl) | (with_reducible refine c_split (fun _ => ?_) (fun _ => ?_)))
        exact ret_same hK
      · refine opK_ok _ _ r1 (by omega) (by omega) (fun o C2 r2 d2 ho0 ho1 => ?_)
        have d2' := d1'.trans d2
        have k2 := d2.kn k1 hxb
        repeat' (first | simp -implicitDefEqProofs only [zG1,zG2,zG3,zG4,zG5,zG6,zG7,eq_self,resV,rval,X.val,binv,fillL,setR,↓reduceIte,Nat.reduceEqDiff,Nat.reduceAdd,Nat.reduceMul,Nat.reduceLeDiff,Nat.reduceLT,Nat.reduceSub,reduceCtorEq,zGq, w1] | ((with_reducible refine rows_intro (fun _ hb => ?_)); try simp only [set_none, ne_eq] at hb) | ((with_reducible refine new_intro (fun _ hb => ?_)); try simp only [set_none, ne_eq] at hb) | (with_reducible refine draw_same ?_) | ((with_reducible refine gd_split ?_ (fun _ => ?_) (fun _ => ?_)); exact rfl) | ((with_reducible refine td_split ?_ (fun _ => ?_) (fun _ => ?_)); exact rfl) | (with_reducible refine c_split (fun _ => ?_) (fun _ => ?_)))
        refine ih _ _ _ (by omega) r2 (by omega) (by omega) (fun e1 A1 c1 C3 p3 r3 d3 he1 hv1 hp0 hp1 => ?_)
        have k3 := d3.kn k2 hxb
        repeat' (first | simp -implicitDefEqProofs only [zG1,zG2,zG3,zG4,zG5,zG6,zG7,eq_self,resV,rval,X.val,binv,fillL,setR,↓reduceIte,Nat.reduceEqDiff,Nat.reduceAdd,Nat.reduceMul,Nat.reduceLeDiff,Nat.reduceLT,Nat.reduceSub,reduceCtorEq,zGq] | ((with_reducible refine rows_intro (fun _ hb => ?_)); try simp only [set_none, ne_eq] at hb) | ((with_reducible refine new_intro (fun _ hb => ?_)); try simp only [set_none, ne_eq] at hb) | ((with_reducible refine gd_split ?_ (fun _ => ?_) (fun _ => ?_)); exact rfl) | ((with_reducible refine td_split ?_ (fun _ => ?_) (fun _ => ?_)); exact rfl) | (with_reducible refine c_split (fun _ => ?_) (fun _ => ?_)))
        rename_i y
        have hy := hb
        have l4 := (AHeap.le.refl C3).fresh hy ⟨[.int .i64 e1.op, .int .i64 e1.n, .slice A1 e1.args.length c1], true, 73, 3⟩
        have hyx : ¬ y = x := fun e => k3.ne (e ▸ hy)
        have hyb : ¬ y = b := fun e => r3.ne (e ▸ hy)
        have k4 := k3.trans l4
        have ky := Kn.same C3 y ⟨[.int .i64 e1.op, .int .i64 e1.n, .slice A1 e1.args.length c1], true, 73, 3⟩
        have r4 := r3.le l4
        have d4' := (d2'.trans d3).then_le l4
        generalize C3.set y ⟨[.int .i64 e1.op, .int .i64 e1.n, .slice A1 e1.args.length c1], true, 73, 3⟩ = C4 at *
        refine draw_at (C4.no fun z => z ∈ [b, x]) (no_le _ _) ?_
        have ky' : Kn (C4.no fun z => z ∈ [b, x]) y _ := ky.chg Chg.no (by simp; exact ⟨hyb, hyx⟩)
        have q0 := ky'.cell (j := 0) rfl
        have q1 := ky'.cell (j := 1) rfl
        have q2 := ky'.cell (j := 2) rfl
        repeat' (first | simp -implicitDefEqProofs only [zG1,zG2,zG3,zG4,zG5,zG6,zG7,eq_self,resV,rval,X.val,binv,fillL,setR,↓reduceIte,Nat.reduceEqDiff,Nat.reduceAdd,Nat.reduceMul,Nat.reduceLeDiff,Nat.reduceLT,Nat.reduceSub,reduceCtorEq,zGq, w1, q0, q1, q2, adr_lit, Nat.zero_add] | ((with_reducible refine rows_intro (fun _ hb => ?_)); try simp only [set_none, ne_eq] at hb) | ((with_reducible refine new_intro (fun _ hb => ?_)); try simp only [set_none, ne_eq] at hb) | ((with_reducible refine gd_split ?_ (fun _ => ?_) (fun _ => ?_)); exact rfl) | ((with_reducible refine td_split ?_ (fun _ => ?_) (fun _ => ?_)); exact rfl) | (with_reducible refine c_split (fun _ => ?_) (fun _ => ?_)))
        refine ih _ _ _ (by omega) r4 (by omega) (by omega) (fun e2 A2 c2 C5 p5 r5 d5 he2 hv2 hp2 hp3 => ?_)
        have lp5 : AHeap.le (C4.no fun z => z ∈ [b, x]) C5 := ((no_del C4 [b, x] (by simp)).trans d5.le).trans (del_le' _ _)
        repeat' (first | simp -implicitDefEqProofs only [zG1,zG2,zG3,zG4,zG5,zG6,zG7,eq_self,resV,rval,X.val,binv,fillL,setR,↓reduceIte,Nat.reduceEqDiff,Nat.reduceAdd,Nat.reduceMul,Nat.reduceLeDiff,Nat.reduceLT,Nat.reduceSub,reduceCtorEq,zGq, lp5] | ((with_reducible refine rows_intro (fun _ hb => ?_)); try simp only [set_none, ne_eq] at hb) | ((with_reducible refine new_intro (fun _ hb => ?_)); try simp only [set_none, ne_eq] at hb) | ((with_reducible refine gd_split ?_ (fun _ => ?_) (fun _ => ?_)); exact rfl) | ((with_reducible refine td_split ?_ (fun _ => ?_) (fun _ => ?_)); exact rfl) | (with_reducible refine c_split (fun _ => ?_) (fun _ => ?_)))
        refine l4Both_ok _ _ _ o e1 e2 A1 A2 c1 c2 (fun z C6 t6 c6 l6 hz kz => ?_)
        have lp6 := lp5.trans l6
        repeat' (first | simp -implicitDefEqProofs only [zG1,zG2,zG3,zG4,zG5,zG6,zG7,eq_self,resV,rval,X.val,binv,fillL,setR,↓reduceIte,Nat.reduceEqDiff,Nat.reduceAdd,Nat.reduceMul,Nat.reduceLeDiff,Nat.reduceLT,Nat.reduceSub,reduceCtorEq,zGq, lp6] | ((with_reducible refine rows_intro (fun _ hb => ?_)); try simp only [set_none, ne_eq] at hb) | ((with_reducible refine new_intro (fun _ hb => ?_)); try simp only [set_none, ne_eq] at hb) | ((with_reducible refine gd_split ?_ (fun _ => ?_) (fun _ => ?_)); exact rfl) | ((with_reducible refine td_split ?_ (fun _ => ?_) (fun _ => ?_)); exact rfl) | (with_reducible refine c_split (fun _ => ?_) (fun _ => ?_)))
        have k6 := (d5.kn k4 hxb).trans l6
        refine st_kn3 k6 (by simp [ocI, ocS]) (fun C7 hc k7 cs => ?_)
        have lp7 := hc.keep lp6 (New.one (no_in (by simp)))
        repeat' (first | simp -implicitDefEqProofs only [zG1,zG2,zG3,zG4,zG5,zG6,zG7,eq_self,resV,rval,X.val,binv,fillL,setR,↓reduceIte,Nat.reduceEqDiff,Nat.reduceAdd,Nat.reduceMul,Nat.reduceLeDiff,Nat.reduceLT,Nat.reduceSub,reduceCtorEq,zGq, lp7, cs] | ((with_reducible refine rows_intro (fun _ hb => ?_)); try simp only [set_none, ne_eq] at hb) | ((with_reducible refine new_intro (fun _ hb => ?_)); try simp only [set_none, ne_eq] at hb) | ((with_reducible refine gd_split ?_ (fun _ => ?_) (fun _ => ?_)); exact rfl) | ((with_reducible refine td_split ?_ (fun _ => ?_) (fun _ => ?_)); exact rfl) | (with_reducible refine c_split (fun _ => ?_) (fun _ => ?_)))
        have d7 := ((d4'.trans d5).then_le l6).chg hc (New.one hx)
        have hzx : ¬ z = x := fun e => (d5.kn k4 hxb).ne (e ▸ hz)
        have e1v : ExV (C7.off H) e1 [.int .i64 e1.op, .int .i64 e1.n, .slice A1 e1.args.length c1] := by
          have c37 : Chg C3 C7 [b, x] := ((Chg.of_le l4).trans ((d5.toChg (by simp)).trans ((Chg.of_le l6).trans (hc.mono (by simp)))))
          exact hv1.le (d2'.off_chg c37 (by
            intro z hz
            simp only [List.mem_cons, List.not_mem_nil, or_false] at hz
            rcases hz with rfl | rfl
            · exact r2.ne
            · exact k2.ne))
        have e2v : ExV (C7.off H) e2 [.int .i64 e2.op, .int .i64 e2.n, .slice A2 e2.args.length c2] := by
          have c57 : Chg C5 C7 [x] := Chg.after l6 hc
          exact hv2.le (d4'.off_chg c57 (by
            intro z hz
            simp only [List.mem_cons, List.not_mem_nil, or_false] at hz
            subst hz
            exact k4.ne))
        have kz7 := kn_off (H := H) ((d4'.trans d5).nov hz) (kz.chg hc (by simpa using hzx))
        have hmx : max d 1 = d := by omega
        rw [hmx] at he1 he2
        exact ret_same (h (.mk o 0 [e1, e2]) _ _ C7 p5 (r5.le l6 |>.chg hc (by simpa using fun e => hxb e.symm) hr.fl d7.le) d7 (by rw [show max (d + 1) 1 = d + 1 by omega]; exact ok_both ho0 ho1 he1 he2) (exV_both kz7 e1v e2v) (by omega) (by omega))
end Go.Proofs.YtodhkodhndbpmaaGreat
namespace Go.Proofs.YtodhkodhndbpmaaGreat
set_option linter.all false
open Go Go.RowKit
inductive St where
  | mk (kind var box : Int) (e : Ex) (body els : List St)
def St.kind : St → Int | .mk k _ _ _ _ _ => k
def St.var : St → Int | .mk _ v _ _ _ _ => v
def St.box : St → Int | .mk _ _ b _ _ _ => b
def St.e : St → Ex | .mk _ _ _ e _ _ => e
def St.body : St → List St | .mk _ _ _ _ b _ => b
def St.els : St → List St | .mk _ _ _ _ _ l => l
/-- The eight cells of a statement. -/
abbrev stc (k v b : Int) (e : Ex) (n1 n2 : Nat) (A0 : Option Addr) (c0 : Nat) (A1 : Option Addr) (c1 : Nat) (A2 : Option Addr) (c2 : Nat) : List Value :=
  [.int .i64 k, .int .i64 v, .int .i64 b, .int .i64 e.op, .int .i64 e.n, .slice A0 e.args.length c0, .slice A1 n1 c1, .slice A2 n2 c2]
mutual
/-- The cells of a statement, and what its slices lead to. -/
def StV (H : AHeap) : St → List Value → Prop
  | .mk k v b e body els, cs => ∃ A0 c0 A1 c1 A2 c2, cs = stc k v b e body.length els.length A0 c0 A1 c1 A2 c2 ∧
      e.args.length ≤ maxLen ∧ ExR H e.args A0 0 ∧ (body.length ≤ maxLen ∧ StR H body A1 0) ∧ (els.length ≤ maxLen ∧ StR H els A2 0)
def StR (H : AHeap) : List St → Option Addr → Nat → Prop
  | [], _, _ => True
  | s :: ss, A, i => (∃ cs, (∀ j, j < 8 → H.cell (adr A (i * 8 + j)) = cs[j]?) ∧ StV H s cs) ∧ StR H ss A (i + 1)
end
mutual
theorem StV.le {H H' : AHeap} (hl : AHeap.le H H') : ∀ {s : St} {cs : List Value}, StV H s cs → StV H' s cs
  | .mk k v b e body els, cs, h => by
    simp only [StV] at h ⊢
    obtain ⟨A0, c0, A1, c1, A2, c2, h1, h2, h3, ⟨h4, h5⟩, h6, h7⟩ := h
    exact ⟨A0, c0, A1, c1, A2, c2, h1, h2, h3.le hl, ⟨h4, StR.le hl h5⟩, h6, StR.le hl h7⟩
theorem StR.le {H H' : AHeap} (hl : AHeap.le H H') : ∀ {ss : List St} {A : Option Addr} {i : Nat}, StR H ss A i → StR H' ss A i
  | [], _, _, _ => by simp only [StR]
  | s :: ss, A, i, h => by
    simp only [StR] at h ⊢
    obtain ⟨⟨cs, h0, h1⟩, h2⟩ := h
    refine ⟨⟨cs, fun j hj => ?_, StV.le hl h1⟩, StR.le hl h2⟩
    have h3 := h0 j hj
    have h8 : cs.length = 8 := by
      cases s with
      | mk k v b e body els =>
        simp only [StV] at h1
        obtain ⟨A0, c0, A1, c1, A2, c2, rfl, _⟩ := h1
        rfl
    rw [List.getElem?_eq_getElem (by omega)] at h3 ⊢
    exact hl.cell h3
end
theorem StV.open_ {H : AHeap} {s : St} {cs : List Value} (h : StV H s cs) : ∃ A0 c0 A1 c1 A2 c2, cs = stc s.kind s.var s.box s.e s.body.length s.els.length A0 c0 A1 c1 A2 c2 ∧
    s.e.args.length ≤ maxLen ∧ ExR H s.e.args A0 0 ∧ (s.body.length ≤ maxLen ∧ StR H s.body A1 0) ∧ (s.els.length ≤ maxLen ∧ StR H s.els A2 0) := by
  cases s with
  | mk k v b e body els => simpa only [StV, St.kind, St.var, St.box, St.e, St.body, St.els] using h
theorem StV.len {H : AHeap} {s : St} {cs : List Value} (h : StV H s cs) : cs.length = 8 := by
  obtain ⟨_, _, _, _, _, _, rfl, _⟩ := h.open_
  rfl
theorem StV.ex {H : AHeap} {e : Ex} {A : Option Addr} (c : Nat) (hl : e.args.length ≤ maxLen) (h : ExR H e.args A 0) : ExV H e [.int .i64 e.op, .int .i64 e.n, .slice A e.args.length c] := by
  cases e with
  | mk op n args => simp only [ExV, Ex.op, Ex.n, Ex.args] at *; exact ⟨A, c, rfl, hl, h⟩
theorem StR.at_ {H : AHeap} : ∀ {ss : List St} {A : Option Addr} {i k : Nat}, StR H ss A i → (hk : k < ss.length) → ∃ cs, (∀ j, j < 8 → H.cell (adr A ((i + k) * 8 + j)) = cs[j]?) ∧ StV H ss[k] cs
  | s :: ss, A, i, 0, h, _ => by simp only [StR] at h; exact h.1
  | s :: ss, A, i, k + 1, h, hk => by
    simp only [StR] at h
    have := StR.at_ (k := k) h.2 (by simpa using hk)
    rw [show i + 1 + k = i + (k + 1) by omega] at this
    exact this
/-- The eight cells that stand at a place. -/
abbrev Pl8 (H : AHeap) (A : Option Addr) (o : Nat) (k v b : Int) (e : Ex) (n1 n2 : Nat) (A0 : Option Addr) (c0 : Nat) (A1 : Option Addr) (c1 : Nat) (A2 : Option Addr) (c2 : Nat) : Prop :=
  H.cell (adr A o) = some (.int .i64 k) ∧ H.cell (adr A (o + 1)) = some (.int .i64 v) ∧ H.cell (adr A (o + 2)) = some (.int .i64 b) ∧ H.cell (adr A (o + 3)) = some (.int .i64 e.op) ∧ H.cell (adr A (o + 4)) = some (.int .i64 e.n) ∧
  H.cell (adr A (o + 5)) = some (.slice A0 e.args.length c0) ∧ H.cell (adr A (o + 6)) = some (.slice A1 n1 c1) ∧ H.cell (adr A (o + 7)) = some (.slice A2 n2 c2)
theorem Pl8.le {H H' : AHeap} (hl : AHeap.le H H') {A : Option Addr} {o : Nat} {k v b : Int} {e : Ex} {n1 n2 : Nat} {A0 : Option Addr} {c0 : Nat} {A1 : Option Addr} {c1 : Nat} {A2 : Option Addr} {c2 : Nat}
    (h : Pl8 H A o k v b e n1 n2 A0 c0 A1 c1 A2 c2) : Pl8 H' A o k v b e n1 n2 A0 c0 A1 c1 A2 c2 := by
  obtain ⟨h0, h1, h2, h3, h4, h5, h6, h7⟩ := h
  exact ⟨hl.cell h0, hl.cell h1, hl.cell h2, hl.cell h3, hl.cell h4, hl.cell h5, hl.cell h6, hl.cell h7⟩
/-- The k-th statement. -/
theorem StR.arg {H : AHeap} {ss : List St} {A : Option Addr} {k : Nat} (h : StR H ss A 0) (hk : k < ss.length) : A.isSome = true ∧ ∃ A0 c0 A1 c1 A2 c2,
    Pl8 H A (k * 8) ss[k].kind ss[k].var ss[k].box ss[k].e ss[k].body.length ss[k].els.length A0 c0 A1 c1 A2 c2 ∧
    StV H ss[k] (stc ss[k].kind ss[k].var ss[k].box ss[k].e ss[k].body.length ss[k].els.length A0 c0 A1 c1 A2 c2) := by
  obtain ⟨cs, h0, h1⟩ := h.at_ hk
  obtain ⟨A0, c0, A1, c1, A2, c2, rfl, _⟩ := h1.open_
  rw [Nat.zero_add] at h0
  have q := h0 0 (by omega)
  refine ⟨?_, A0, c0, A1, c1, A2, c2, ⟨q, h0 1 (by omega), h0 2 (by omega), h0 3 (by omega), h0 4 (by omega), h0 5 (by omega), h0 6 (by omega), h0 7 (by omega)⟩, h1⟩
  cases A with
  | none => cases q
  | some a => rfl
/-- A statement's cells, as the call has them. -/
theorem StV.parts {H : AHeap} {s : St} {A0 : Option Addr} {c0 : Nat} {A1 : Option Addr} {c1 : Nat} {A2 : Option Addr} {c2 : Nat} (h : StV H s (stc s.kind s.var s.box s.e s.body.length s.els.length A0 c0 A1 c1 A2 c2)) :
    ExV H s.e [.int .i64 s.e.op, .int .i64 s.e.n, .slice A0 s.e.args.length c0] ∧ (s.body.length ≤ maxLen ∧ StR H s.body A1 0) ∧ (s.els.length ≤ maxLen ∧ StR H s.els A2 0) := by
  obtain ⟨B0, d0, B1, d1, B2, d2, he, h1, h2, h3, h4⟩ := h.open_
  simp only [stc, List.cons.injEq, Value.slice.injEq, true_and, and_true] at he
  obtain ⟨⟨rfl, rfl⟩, ⟨rfl, rfl⟩, rfl, rfl⟩ := he
  exact ⟨StV.ex _ h1 h2, h3, h4⟩
/-- Cells in a row that read as statements. -/
def StL (H : AHeap) : List St → List Value → Prop
  | [], xs => xs = []
  | s :: ss, xs => ∃ cs ys, xs = cs ++ ys ∧ StV H s cs ∧ StL H ss ys
theorem StL.le {H H' : AHeap} (hl : AHeap.le H H') : ∀ {ss : List St} {xs : List Value}, StL H ss xs → StL H' ss xs
  | [], _, h => h
  | s :: ss, xs, h => by
    obtain ⟨cs, ys, h1, h2, h3⟩ := h
    exact ⟨cs, ys, h1, h2.le hl, h3.le hl⟩
theorem StL.len {H : AHeap} : ∀ {ss : List St} {xs : List Value}, StL H ss xs → xs.length = ss.length * 8
  | [], _, h => by simp only [StL] at h; subst h; rfl
  | s :: ss, xs, h => by
    obtain ⟨cs, ys, rfl, h2, h3⟩ := h
    have := h2.len
    have := h3.len
    simp only [List.length_append, List.length_cons]; omega
theorem StL.app {H : AHeap} : ∀ {ss ts : List St} {xs ys : List Value}, StL H ss xs → StL H ts ys → StL H (ss ++ ts) (xs ++ ys)
  | [], ts, xs, ys, h, h' => by simp only [StL] at h; subst h; exact h'
  | s :: ss, ts, xs, ys, h, h' => by
    obtain ⟨cs, zs, rfl, h2, h3⟩ := h
    exact ⟨cs, zs ++ ys, by rw [List.append_assoc], h2, h3.app h'⟩
theorem StL.one {H : AHeap} {s : St} {cs : List Value} (h : StV H s cs) : StL H [s] cs := ⟨cs, [], by simp, h, rfl⟩
theorem StL.take {H : AHeap} : ∀ {ss : List St} {xs : List Value} (k : Nat), StL H ss xs → StL H (ss.take k) (xs.take (k * 8))
  | [], _, k, h => by simp only [StL] at h; subst h; simp [StL]
  | s :: ss, xs, 0, h => by simp [StL]
  | s :: ss, xs, k + 1, h => by
    obtain ⟨cs, ys, rfl, h2, h3⟩ := h
    refine ⟨cs, ys.take (k * 8), ?_, h2, h3.take k⟩
    have := h2.len
    rw [List.take_append, List.take_of_length_le (by omega), show (k + 1) * 8 - cs.length = k * 8 by omega]
theorem StL.r {H : AHeap} {A : Option Addr} : ∀ {ss : List St} {xs : List Value} {i : Nat}, StL H ss xs → (∀ j v, xs[j]? = some v → H.cell (adr A (i * 8 + j)) = some v) → StR H ss A i
  | [], _, _, _, _ => by simp only [StR]
  | s :: ss, xs, i, h, hf => by
    obtain ⟨cs, ys, rfl, h2, h3⟩ := h
    have h8 := h2.len
    simp only [StR]
    refine ⟨⟨cs, fun j hj => ?_, h2⟩, StL.r h3 fun j v hv => ?_⟩
    · rw [List.getElem?_eq_getElem (by omega)]
      exact hf j _ (by rw [List.getElem?_append_left (by omega), List.getElem?_eq_getElem (by omega)])
    · have := hf (8 + j) v (by rw [List.getElem?_append_right (by omega), show 8 + j - cs.length = j by omega]; exact hv)
      rw [show (i + 1) * 8 + j = i * 8 + (8 + j) by omega]
      exact this
theorem StL.str {H : AHeap} {A : Option Addr} {ss : List St} {xs : List Value} (h : StL H ss xs) (hf : Fl H A xs) : StR H ss A 0 := h.r fun j v hv => by
  rw [Nat.zero_mul, Nat.zero_add]; exact hf j v hv
/-- The cells of statements in the heap, as a row. -/
theorem StR.fl {H : AHeap} {A : Option Addr} : ∀ {ss : List St} {i : Nat}, StR H ss A i → ∃ xs, StL H ss xs ∧ ∀ j v, xs[j]? = some v → H.cell (adr A (i * 8 + j)) = some v
  | [], i, _ => ⟨[], rfl, fun j v h => by cases h⟩
  | s :: ss, i, h => by
    simp only [StR] at h
    obtain ⟨⟨cs, h0, h1⟩, h2⟩ := h
    obtain ⟨ys, g1, g2⟩ := h2.fl
    have h8 := h1.len
    refine ⟨cs ++ ys, ⟨cs, ys, rfl, h1, g1⟩, fun j v hv => ?_⟩
    rw [List.getElem?_append] at hv
    split at hv
    · rw [h0 j (by omega)]; exact hv
    · have := g2 _ _ hv
      rw [show i * 8 + j = (i + 1) * 8 + (j - cs.length) by omega]
      exact this
theorem StR.fl0 {H : AHeap} {A : Option Addr} {ss : List St} (h : StR H ss A 0) : ∃ xs, StL H ss xs ∧ Fl H A xs := by
  obtain ⟨xs, h1, h2⟩ := h.fl
  refine ⟨xs, h1, fun j v hv => ?_⟩
  have := h2 j v hv
  rwa [Nat.zero_mul, Nat.zero_add] at this
mutual
theorem stv_one {H : AHeap} : ∀ {s : St} {cs : List Value}, StV H s cs → ∀ v ∈ cs, v.oneCell' = true
  | .mk k v b e body els, cs, h => by
    simp only [StV] at h
    obtain ⟨A0, c0, A1, c1, A2, c2, rfl, _⟩ := h
    intro v hv
    simp only [stc, List.mem_cons, List.not_mem_nil, or_false] at hv
    rcases hv with rfl | rfl | rfl | rfl | rfl | rfl | rfl | rfl <;> exact id rfl
end
theorem StL.one' {H : AHeap} : ∀ {ss : List St} {xs : List Value}, StL H ss xs → ∀ v ∈ xs, v.oneCell' = true
  | [], _, h, v, hv => by simp only [StL] at h; subst h; cases hv
  | s :: ss, xs, h, v, hv => by
    obtain ⟨cs, ys, rfl, h2, h3⟩ := h
    rcases List.mem_append.1 hv with hv | hv
    · exact stv_one h2 v hv
    · exact h3.one' v hv
def plainE (e : Ex) : Bool := e.op == 0 && e.n == 0 && e.args.isEmpty
/-- A statement without blocks is as its kind needs. -/
def stSimple (s : St) : Bool :=
  s.body.isEmpty && s.els.isEmpty &&
  if s.kind = 1 then decide (0 ≤ s.var) && decide (s.var ≤ 3) && s.box == 0 && exprOk 5 s.e
  else if s.kind = 4 then s.var == 0 && decide (0 ≤ s.box) && decide (s.box ≤ 2) && exprOk 5 s.e
  else if s.kind = 5 then decide (0 ≤ s.var) && decide (s.var ≤ 3) && decide (0 ≤ s.box) && decide (s.box ≤ 2) && plainE s.e
  else if s.kind = 6 then s.var == 0 && s.box == 0 && plainE s.e
  else if s.kind = 7 then s.var == 0 && s.box == 0 && exprOk 5 s.e
  else false
def stBlock (s : St) : Bool := s.var == 0 && s.box == 0 && exprOk 5 s.e && (s.kind == 2 || s.els.isEmpty)
def stOk : Nat → St → Bool
  | 0, s => if s.kind = 2 ∨ s.kind = 3 then false else stSimple s
  | d + 1, s => if s.kind = 2 ∨ s.kind = 3 then stBlock s && s.body.all (stOk d) && s.els.all (stOk d) else stSimple s
mutual
/-- How many statements there are, those in blocks too. -/
def St.cnt : St → Nat
  | .mk _ _ _ _ body els => 1 + cntL body + cntL els
def cntL : List St → Nat
  | [] => 0
  | s :: ss => s.cnt + cntL ss
end
theorem St.cnt_eq (s : St) : s.cnt = 1 + cntL s.body + cntL s.els := by cases s; simp only [St.cnt, St.body, St.els]
theorem cntL_len : ∀ ss : List St, ss.length ≤ cntL ss
  | [] => by simp
  | s :: ss => by simp only [cntL, List.length_cons, St.cnt_eq]; have := cntL_len ss; omega
theorem cntL_app : ∀ ss ts : List St, cntL (ss ++ ts) = cntL ss + cntL ts
  | [], ts => by simp [cntL]
  | s :: ss, ts => by simp only [List.cons_append, cntL, cntL_app ss ts]; omega
theorem cntL_take {ss : List St} : ∀ {k : Nat} (h : k < ss.length), cntL (ss.take (k + 1)) = cntL (ss.take k) + ss[k].cnt := by
  induction ss with
  | nil => intro k h; cases h
  | cons e es ih =>
    intro k h
    cases k with
    | zero => simp [cntL]
    | succ k =>
      have := ih (k := k) (by simpa using h)
      simp only [List.take_succ_cons, cntL, List.getElem_cons_succ, this]
      omega
theorem cntL_le {ss : List St} (k : Nat) : cntL (ss.take k) ≤ cntL ss := by
  induction ss generalizing k with
  | nil => simp [cntL]
  | cons e es ih =>
    cases k with
    | zero => simp [cntL]
    | succ k => simp only [List.take_succ_cons, cntL]; have := ih k; omega
theorem cntL_at {ss : List St} {k : Nat} (h : k < ss.length) : ss[k].cnt ≤ cntL ss := by
  have h1 := cntL_take h
  have h2 := cntL_le (ss := ss) (k + 1)
  omega
def stsOk (ss : List St) : Bool := ss.all (stOk 3) && decide (cntL ss ≤ 16)
end Go.Proofs.YtodhkodhndbpmaaGreat
namespace Go.Proofs.YtodhkodhndbpmaaGreat
set_option linter.all false
open Go Go.RowKit
set_option maxRecDepth 100000
variable (w0 : World)
theorem z20 : (0 ≤ (0 : Int) ∧ (0 : Int) < ((2 : Nat) : Int)) = True := by decide
theorem z21 : (0 ≤ (1 : Int) ∧ (1 : Int) < ((2 : Nat) : Int)) = True := by decide
theorem z2e : (((2 : Nat) : Int) == 2) = true := by decide
theorem ok_two {d : Nat} {op n : Int} {x y : Ex} : exprOk (d + 1) (.mk op n [x, y]) = (!(op == 0) && !(op == 13) && opValid op && n == 0 && exprOk d x && exprOk d y) := by
  simp only [exprOk, opValid, List.isEmpty_cons, Bool.and_false]
  by_cases h0 : op = 0
  · simp [h0]
  · by_cases h1 : op = 13
    · simp [h1]
    · have e0 : (op == 0) = false := by simp [h0]
      have e1 : (op == 13) = false := by simp [h1]
      simp [h0, h1, e0, e1, Bool.and_assoc]
theorem ok_more {d : Nat} {op n : Int} {args : List Ex} (h : args.length ≠ 2) : exprOk (d + 1) (.mk op n args) = ((op == 0 && decide (0 ≤ n) && decide (n ≤ 99999) || op == 13 && decide (0 ≤ n) && decide (n < 4)) && args.length == 0) := by
  have e2 : args.isEmpty = (args.length == 0) := by cases args <;> simp
  match args, h with
  | [], _ | [_], _ | _ :: _ :: _ :: _, _ =>
    simp only [exprOk]
    by_cases h0 : op = 0
    · simp [h0]
    · by_cases h1 : op = 13
      · have e3 : decide (n ≤ 3) = decide (n < 4) := decide_eq_decide.2 (by omega)
        simp only [h1, e3]; simp
      · have e0 : (op == 0) = false := by simp [h0]
        have e1 : (op == 13) = false := by simp [h1]
        simp [h0, h1, e0, e1]
theorem ok_zero (e : Ex) : exprOk 0 e = false := by cases e; rfl
variable (H : AHeap) (K : Value → AHeap → Prop)
theorem l4Ok_ok (d : Nat) : ∀ (e : Ex) (a : Option Addr) (c : Nat) (H : AHeap) (K : Value → AHeap → Prop), d ≤ 1000 → ExV H e [.int .i64 e.op, .int .i64 e.n, .slice a e.args.length c] → K (.bool (exprOk d e)) H →
    ACalls Tryz.prog w0 106 [.agg #[.int .i64 e.op, .int .i64 e.n, .slice a e.args.length c], .int .i64 d] H K := by
  induction d with
  | zero =>
    intro ⟨op, n, args⟩ a c H K hd hv h
    simp only [Ex.op, Ex.n, Ex.args] at hv ⊢
    simp only [exprOk] at h
    have g2 : decide (((0 : Nat) : Int) < 1) = true := by decide
    refine acalls_of_sx mix Tryz.func106 of106 (by simp [ir106]) ?_; rw [ir106]; (try delta qT qI qC qO qM qG)
    repeat' (first | simp -implicitDefEqProofs only [zG1,zG2,zG3,zG4,zG5,zG6,zG7,eq_self,resV,rval,X.val,binv,fillL,setR,↓reduceIte,Nat.reduceEqDiff,Nat.reduceAdd,Nat.reduceMul,Nat.reduceLeDiff,Nat.reduceLT,Nat.reduceSub,reduceCtorEq,zGr, g2] | ((with_reducible refine rows_intro (fun _ hb => ?_)); try simp only [set_none, ne_eq] at hb) | ((with_reducible refine new_intro (fun _ hb => ?_)); try simp only [set_none, ne_eq] at hb) | (with_reducible refine draw_same ?_) | ((with_reducible refine gd_split ?_ (fun _ => ?_) (fun _ => ?_)); exact rfl) | ((with_reducible refine td_split ?_ (fun _ => ?_) (fun _ => ?_)); exact rfl) | (with_reducible refine c_split (fun _ => ?_) (fun _ => ?_)) | (with_reducible refine opValidS_ok _ _ _ _ ?_))
    all_goals exact ⟨H, (by simp -implicitDefEqProofs only [le_set_true, le_refl_true, eq_self, *]), h⟩
  | succ d ih =>
    intro ⟨op, n, args⟩ a c H K hd hv h
    obtain ⟨_, _, he, hm, hR⟩ := hv.open_
    simp only [List.cons.injEq, and_true, Value.slice.injEq, true_and] at he
    obtain ⟨rfl, rfl⟩ := he
    simp only [Ex.op, Ex.n, Ex.args] at hR hm hv ⊢
    have g2 : decide (((d + 1 : Nat) : Int) < 1) = false := by simp <;> omega
    by_cases h2 : args.length = 2
    · obtain ⟨x, y, rfl⟩ : ∃ x y, args = [x, y] := by
        match args, h2 with
        | [x, y], _ => exact ⟨x, y, rfl⟩
      rw [ok_two] at h
      obtain ⟨a', c', b', d', hc, hx, hy⟩ := hR.two
      have g1 : IntKind.i64.wrap (((d + 1 : Nat) : Int) - 1) = (d : Int) := by rw [wrap_i64 (by omega) (by omega)]; omega
      have g3 : (((2 : Nat) : Int) == 0) = false := by decide
      refine acalls_of_sx mix Tryz.func106 of106 (by simp [ir106]) ?_; rw [ir106]; (try delta qT qI qC qO qM qG)
      repeat' (first | simp -implicitDefEqProofs only [zG1,zG2,zG3,zG4,zG5,zG6,zG7,eq_self,resV,rval,X.val,binv,fillL,setR,↓reduceIte,Nat.reduceEqDiff,Nat.reduceAdd,Nat.reduceMul,Nat.reduceLeDiff,Nat.reduceLT,Nat.reduceSub,reduceCtorEq,zGr, z20, z21, z2e, g1, g2, g3, Int.toNat_zero, Int.toNat_one, Nat.zero_mul, Nat.one_mul, cell_old, *] | ((with_reducible refine rows_intro (fun _ hb => ?_)); try simp only [set_none, ne_eq] at hb) | ((with_reducible refine new_intro (fun _ hb => ?_)); try simp only [set_none, ne_eq] at hb) | (with_reducible refine draw_same ?_) | ((with_reducible refine gd_split ?_ (fun _ => ?_) (fun _ => ?_)); exact rfl) | ((with_reducible refine td_split ?_ (fun _ => ?_) (fun _ => ?_)); exact rfl) | (with_reducible refine c_split (fun _ => ?_) (fun _ => ?_)) | (with_reducible refine opValidS_ok _ _ _ _ ?_) | (with_reducible refine l6In_ok _ _ _ _ _ _ ?_) | (with_reducible refine ih x a' c' _ _ (by omega) (hx.le ((AHeap.le.refl H).fresh ‹_› _)) ?_) | (with_reducible refine ih y b' d' _ _ (by omega) (hy.le ((AHeap.le.refl H).fresh ‹_› _)) ?_))
      all_goals refine ⟨H, (by simp -implicitDefEqProofs only [le_set_true, le_refl_true, eq_self, *]), kb h ?_⟩
      all_goals clear h hv hR hc hx hy ih
      all_goals (try simp only [beq_iff_eq, beq_eq_false_iff_ne, bne_iff_ne, bne_eq_false_iff_eq, decide_eq_true_eq, decide_eq_false_iff_not, ne_eq, Bool.not_eq_true, Bool.not_eq_false, Bool.not_eq_eq_eq_not, Bool.not_true, Bool.not_false, Int.not_lt, Int.not_le, ge_iff_le, gt_iff_lt] at *)
      all_goals grind
    · have g3 : (((args.length : Nat) : Int) == 2) = false := by simp; omega
      rw [ok_more h2] at h
      refine acalls_of_sx mix Tryz.func106 of106 (by simp [ir106]) ?_; rw [ir106]; (try delta qT qI qC qO qM qG)
      repeat' (first | simp -implicitDefEqProofs only [zG1,zG2,zG3,zG4,zG5,zG6,zG7,eq_self,resV,rval,X.val,binv,fillL,setR,↓reduceIte,Nat.reduceEqDiff,Nat.reduceAdd,Nat.reduceMul,Nat.reduceLeDiff,Nat.reduceLT,Nat.reduceSub,reduceCtorEq,zGr, g2, g3] | ((with_reducible refine rows_intro (fun _ hb => ?_)); try simp only [set_none, ne_eq] at hb) | ((with_reducible refine new_intro (fun _ hb => ?_)); try simp only [set_none, ne_eq] at hb) | (with_reducible refine draw_same ?_) | ((with_reducible refine gd_split ?_ (fun _ => ?_) (fun _ => ?_)); exact rfl) | ((with_reducible refine td_split ?_ (fun _ => ?_) (fun _ => ?_)); exact rfl) | (with_reducible refine c_split (fun _ => ?_) (fun _ => ?_)) | (with_reducible refine opValidS_ok _ _ _ _ ?_) | (with_reducible refine l6In_ok _ _ _ _ _ _ ?_))
      all_goals refine ⟨H, (by simp -implicitDefEqProofs only [le_set_true, le_refl_true, eq_self, *]), kb h ?_⟩
      all_goals clear h hv hR ih
      all_goals (try simp only [beq_iff_eq, beq_eq_false_iff_ne, bne_iff_ne, bne_eq_false_iff_eq, decide_eq_true_eq, decide_eq_false_iff_not, ne_eq, Bool.not_eq_true, Bool.not_eq_false, Bool.not_eq_eq_eq_not, Bool.not_true, Bool.not_false, Int.not_lt, Int.not_le, ge_iff_le, gt_iff_lt] at *)
      all_goals grind
theorem exprValid5S_ok' (e : Ex) (a : Option Addr) (c : Nat) (hv : ExV H e [.int .i64 e.op, .int .i64 e.n, .slice a e.args.length c]) (h : K (.bool (exprOk 5 e)) H) :
    ACalls Tryz.prog w0 106 [.agg #[.int .i64 e.op, .int .i64 e.n, .slice a e.args.length c], .int .i64 5] H K := l4Ok_ok w0 5 e a c H K (by decide) hv h
theorem exprValid5S_ok (e : Ex) (a : Option Addr) (c : Nat) (hv : ExV H e [.int .i64 e.op, .int .i64 e.n, .slice a e.args.length c]) (h : K (.bool (exprOk 5 e)) H) :
    ACalls Tryz.prog w0 95 [.agg #[.int .i64 e.op, .int .i64 e.n, .slice a e.args.length c]] H K := by
  refine acalls_of_sx mix Tryz.func95 of95 (by simp [ir95]) ?_; rw [ir95]; (try delta qT qI qC qO qM qG)
  repeat' (first | simp -implicitDefEqProofs only [zG1,zG2,zG3,zG4,zG5,zG6,zG7,eq_self,resV,rval,X.val,binv,fillL,setR,↓reduceIte,Nat.reduceEqDiff,Nat.reduceAdd,Nat.reduceMul,Nat.reduceLeDiff,Nat.reduceLT,Nat.reduceSub,reduceCtorEq,zGr, *] | ((with_reducible refine rows_intro (fun _ hb => ?_)); try simp only [set_none, ne_eq] at hb) | ((with_reducible refine new_intro (fun _ hb => ?_)); try simp only [set_none, ne_eq] at hb) | (with_reducible refine draw_same ?_) | ((with_reducible refine gd_split ?_ (fun _ => ?_) (fun _ => ?_)); exact rfl) | ((with_reducible refine td_split ?_ (fun _ => ?_) (fun _ => ?_)); exact rfl) | (with_reducible refine c_split (fun _ => ?_) (fun _ => ?_)) | (with_reducible refine exprValid5S_ok' _ _ _ e a c (hv.le ((AHeap.le.refl H).fresh ‹_› _)) ?_))
  exact ⟨H, (by simp -implicitDefEqProofs only [le_set_true, le_refl_true, eq_self, *]), h⟩
theorem ok_args {d : Nat} {op n : Int} {args : List Ex} (h : exprOk (d + 1) (.mk op n args) = true) : (args = [] ∧ (op = 0 ∨ op = 13)) ∨ ∃ x y, args = [x, y] ∧ exprOk d x = true ∧ exprOk d y = true ∧ 1 ≤ op ∧ op ≤ 12 := by
  simp only [exprOk] at h
  split at h
  · simp at h; exact .inl ⟨h.2, .inl ‹_›⟩
  · split at h
    · simp at h; exact .inl ⟨h.2, .inr ‹_›⟩
    · simp only [Bool.and_eq_true, decide_eq_true_eq] at h
      obtain ⟨⟨⟨h1, h2⟩, _⟩, h3⟩ := h
      split at h3
      · simp only [Bool.and_eq_true] at h3
        exact .inr ⟨_, _, rfl, h3.1, h3.2, h1, h2⟩
      · cases h3
end Go.Proofs.YtodhkodhndbpmaaGreat
namespace Go.Proofs.YtodhkodhndbpmaaGreat
set_option linter.all false
open Go Go.RowKit
set_option maxRecDepth 100000
variable (w0 : World)
def comp : Nat → Ex → Int → List Qd
  | 0, _, _ => []
  | d + 1, .mk op n args, i =>
    if op = 0 then [⟨1, i, 0, 0, n⟩] else if op = 13 then [⟨2, i, n, 0, 0⟩]
    else match args with
      | [x, y] => comp d x i ++ comp d y (i + 1) ++ [⟨3, i, i, i + 1, op⟩]
      | _ => []
theorem comp_len : ∀ (d : Nat) (e : Ex) (i : Int), (comp d e i).length < 2 ^ d
  | 0, _, _ => by simp [comp]
  | d + 1, .mk op n args, i => by
    have hp : 0 < 2 ^ d := Nat.pow_pos (by omega)
    simp only [comp]
    split
    · simp <;> omega
    · split
      · simp <;> omega
      · split
        · rename_i x y
          have := comp_len d x i
          have := comp_len d y (i + 1)
          simp only [List.length_append, List.length_cons, List.length_nil]
          omega
        · simp <;> omega
theorem qcells_one (x0 x1 x2 x3 x4 : Int) : qcells [⟨x0, x1, x2, x3, x4⟩] = [.int .i64 x0, .int .i64 x1, .int .i64 x2, .int .i64 x3, .int .i64 x4] := rfl
theorem qcells_app (p q : List Qd) : qcells (p ++ q) = qcells p ++ qcells q := by simp [qcells]
theorem qcells_oc (qs : List Qd) : ∀ v ∈ qcells qs, v.oneCell' = true := by
  intro v hv
  simp only [qcells, List.mem_flatMap, Qd.cells, List.mem_cons, List.not_mem_nil, or_false] at hv
  obtain ⟨q, _, h | h | h | h | h⟩ := hv <;> subst h <;> rfl
theorem l22Expr_ok (d : Nat) : ∀ (e : Ex) (a : Option Addr) (c : Nat) (i : Int) (H : AHeap) (K : Value → AHeap → Prop), d ≤ 30 → exprOk d e = true → ExV H e [.int .i64 e.op, .int .i64 e.n, .slice a e.args.length c] →
    0 ≤ i → i + d ≤ 1000000 → (∀ v' H', Own H 36 5 v' (comp d e i).length (qcells (comp d e i)) H' → K v' H') →
    ACalls Tryz.prog w0 77 [.agg #[.int .i64 e.op, .int .i64 e.n, .slice a e.args.length c], .int .i64 i] H K := by
  induction d with
  | zero => intro e a c i H K hd ho; rw [ok_zero] at ho; cases ho
  | succ d ih =>
    intro ⟨op, n, args⟩ a c i H K hd ho hv hi0 hi1 h
    obtain ⟨_, _, he, _, hR⟩ := hv.open_
    simp only [List.cons.injEq, and_true, Value.slice.injEq, true_and] at he
    obtain ⟨rfl, rfl⟩ := he
    simp only [Ex.op, Ex.n, Ex.args] at hR hv ⊢
    have hp : 2 ^ d ≤ 2 ^ 30 := Nat.pow_le_pow_right (by omega) (by omega)
    rcases ok_args ho with ⟨rfl, hop⟩ | ⟨x, y, rfl, hox, hoy, hop⟩
    · have ecomp : comp (d + 1) (.mk op n []) i = if op = 0 then [⟨1, i, 0, 0, n⟩] else [⟨2, i, n, 0, 0⟩] := by
        rcases hop with rfl | rfl <;> simp [comp]
      rw [ecomp] at h
      rcases hop with rfl | rfl
      · have g1 : ((0 : Int) == 0) = true := by decide
        simp only [if_true, qcells_one, List.length_cons, List.length_nil] at h
        refine acalls_of_sx mix Tryz.func77 of77 (by simp [ir77]) ?_; rw [ir77]; (try delta qT qI qC qO qM qG)
        repeat' (first | simp -implicitDefEqProofs only [zG1,zG2,zG3,zG4,zG5,zG6,zG7,eq_self,resV,rval,X.val,binv,fillL,setR,↓reduceIte,Nat.reduceEqDiff,Nat.reduceAdd,Nat.reduceMul,Nat.reduceLeDiff,Nat.reduceLT,Nat.reduceSub,reduceCtorEq,zGr, g1] | ((with_reducible refine rows_intro (fun _ hb => ?_)); try simp only [set_none, ne_eq] at hb) | ((with_reducible refine new_intro (fun _ hb => ?_)); try simp only [set_none, ne_eq] at hb) | (with_reducible refine draw_same ?_) | ((with_reducible refine gd_split ?_ (fun _ => ?_) (fun _ => ?_)); exact rfl) | ((with_reducible refine td_split ?_ (fun _ => ?_) (fun _ => ?_)); exact rfl) | (with_reducible refine c_split (fun _ => ?_) (fun _ => ?_)))
        exact ret_own h ((AHeap.le.refl H).fresh ‹H _ = none› _) hb.2 rfl rfl rfl (by decide) (by decide) rfl
      · have g1 : ((13 : Int) == 0) = false := by decide
        have g2 : ((13 : Int) == 13) = true := by decide
        simp only [show ¬ (13 : Int) = 0 by decide, if_false, qcells_one, List.length_cons, List.length_nil] at h
        refine acalls_of_sx mix Tryz.func77 of77 (by simp [ir77]) ?_; rw [ir77]; (try delta qT qI qC qO qM qG)
        repeat' (first | simp -implicitDefEqProofs only [zG1,zG2,zG3,zG4,zG5,zG6,zG7,eq_self,resV,rval,X.val,binv,fillL,setR,↓reduceIte,Nat.reduceEqDiff,Nat.reduceAdd,Nat.reduceMul,Nat.reduceLeDiff,Nat.reduceLT,Nat.reduceSub,reduceCtorEq,zGr, g1, g2] | ((with_reducible refine rows_intro (fun _ hb => ?_)); try simp only [set_none, ne_eq] at hb) | ((with_reducible refine new_intro (fun _ hb => ?_)); try simp only [set_none, ne_eq] at hb) | (with_reducible refine draw_same ?_) | ((with_reducible refine gd_split ?_ (fun _ => ?_) (fun _ => ?_)); exact rfl) | ((with_reducible refine td_split ?_ (fun _ => ?_) (fun _ => ?_)); exact rfl) | (with_reducible refine c_split (fun _ => ?_) (fun _ => ?_)))
        exact ret_own h ((AHeap.le.refl H).fresh ‹H _ = none› _) hb.2 rfl rfl rfl (by decide) (by decide) rfl
    · have e0 : ¬ op = 0 := by omega
      have e13 : ¬ op = 13 := by omega
      have g0 : (op == 0) = false := by simp [e0]
      have g13 : (op == 13) = false := by simp [e13]
      have g1 : IntKind.i64.wrap (i + 1) = i + 1 := wrap_i64 (by omega) (by omega)
      have ecomp : comp (d + 1) (.mk op n [x, y]) i = comp d x i ++ comp d y (i + 1) ++ [⟨3, i, i, i + 1, op⟩] := by simp [comp, e0, e13]
      rw [ecomp, qcells_app, qcells_app, qcells_one] at h
      have lx := comp_len d x i
      have ly := comp_len d y (i + 1)
      refine acalls_of_sx mix Tryz.func77 of77 (by simp [ir77]) ?_; rw [ir77]; (try delta qT qI qC qO qM qG)
      repeat' (first | simp -implicitDefEqProofs only [zG1,zG2,zG3,zG4,zG5,zG6,zG7,eq_self,resV,rval,X.val,binv,fillL,setR,↓reduceIte,Nat.reduceEqDiff,Nat.reduceAdd,Nat.reduceMul,Nat.reduceLeDiff,Nat.reduceLT,Nat.reduceSub,reduceCtorEq,zGr, g0, g13] | ((with_reducible refine rows_intro (fun _ hb => ?_)); try simp only [set_none, ne_eq] at hb) | ((with_reducible refine new_intro (fun _ hb => ?_)); try simp only [set_none, ne_eq] at hb) | (with_reducible refine draw_same ?_) | ((with_reducible refine gd_split ?_ (fun _ => ?_) (fun _ => ?_)); exact rfl) | ((with_reducible refine td_split ?_ (fun _ => ?_) (fun _ => ?_)); exact rfl) | (with_reducible refine c_split (fun _ => ?_) (fun _ => ?_)))
      have hb1 := hb
      have hl0 : AHeap.le H (H.set _ ⟨[.int .i64 op, .int .i64 n, .slice a 2 c], true, 73, 3⟩) := (AHeap.le.refl H).fresh hb1 _
      obtain ⟨a', c', b', d', hc, hx, hy⟩ := hR.two
      have hc1 := two_le hl0 hc
      repeat' (first | simp -implicitDefEqProofs only [zG1,zG2,zG3,zG4,zG5,zG6,zG7,eq_self,resV,rval,X.val,binv,fillL,setR,↓reduceIte,Nat.reduceEqDiff,Nat.reduceAdd,Nat.reduceMul,Nat.reduceLeDiff,Nat.reduceLT,Nat.reduceSub,reduceCtorEq,zGr, z20, z21, g1, hc1, Int.toNat_zero, Int.toNat_one, Nat.zero_mul, Nat.one_mul] | ((with_reducible refine rows_intro (fun _ hb => ?_)); try simp only [set_none, ne_eq] at hb) | ((with_reducible refine new_intro (fun _ hb => ?_)); try simp only [set_none, ne_eq] at hb) | (with_reducible refine draw_same ?_) | ((with_reducible refine gd_split ?_ (fun _ => ?_) (fun _ => ?_)); exact rfl) | ((with_reducible refine td_split ?_ (fun _ => ?_) (fun _ => ?_)); exact rfl) | (with_reducible refine c_split (fun _ => ?_) (fun _ => ?_)) | (with_reducible refine ih x a' c' i _ _ (by omega) hox (hx.le hl0) hi0 (by omega) (fun v1 H1 o1 => ?_)))
      have l1 := o1.le
      have hc2 := two_le (hl0.trans l1) hc
      have hf2 := fl_three l1
      repeat' (first | simp -implicitDefEqProofs only [zG1,zG2,zG3,zG4,zG5,zG6,zG7,eq_self,resV,rval,X.val,binv,fillL,setR,↓reduceIte,Nat.reduceEqDiff,Nat.reduceAdd,Nat.reduceMul,Nat.reduceLeDiff,Nat.reduceLT,Nat.reduceSub,reduceCtorEq,zGr, z20, z21, g1, hc2, hf2, l1, Int.toNat_zero, Int.toNat_one, Nat.zero_mul, Nat.one_mul] | ((with_reducible refine rows_intro (fun _ hb => ?_)); try simp only [set_none, ne_eq] at hb) | ((with_reducible refine new_intro (fun _ hb => ?_)); try simp only [set_none, ne_eq] at hb) | (with_reducible refine draw_same ?_) | ((with_reducible refine gd_split ?_ (fun _ => ?_) (fun _ => ?_)); exact rfl) | ((with_reducible refine td_split ?_ (fun _ => ?_) (fun _ => ?_)); exact rfl) | (with_reducible refine c_split (fun _ => ?_) (fun _ => ?_)) | (with_reducible refine ih y b' d' (i + 1) _ _ (by omega) hoy (hy.le (hl0.trans l1)) (by omega) (by omega) (fun v2 H2 o2 => ?_)))
      have l2 := o2.le
      have l12 := l1.trans l2
      obtain ⟨A2, c2, rfl, f2⟩ := o2.fl
      repeat' (first | simp -implicitDefEqProofs only [zG1,zG2,zG3,zG4,zG5,zG6,zG7,eq_self,resV,rval,X.val,binv,fillL,setR,↓reduceIte,Nat.reduceEqDiff,Nat.reduceAdd,Nat.reduceMul,Nat.reduceLeDiff,Nat.reduceLT,Nat.reduceSub,reduceCtorEq,zGr, l12] | ((with_reducible refine rows_intro (fun _ hb => ?_)); try simp only [set_none, ne_eq] at hb) | ((with_reducible refine new_intro (fun _ hb => ?_)); try simp only [set_none, ne_eq] at hb) | (with_reducible refine draw_same ?_) | ((with_reducible refine gd_split ?_ (fun _ => ?_) (fun _ => ?_)); exact rfl) | ((with_reducible refine td_split ?_ (fun _ => ?_) (fun _ => ?_)); exact rfl) | (with_reducible refine c_split (fun _ => ?_) (fun _ => ?_)) | (with_reducible refine app_read o1 l2 f2 ?_ (qcells_oc _) ?_ ?_ (fun v3 B3 H3 lB o3 => ?_)))
      · exact qcells_len _
      · simp only [maxLen]; omega
      · omega
      have l3 := lB.trans o3.le
      have hf3 := fl_three l3
      repeat' (first | simp -implicitDefEqProofs only [zG1,zG2,zG3,zG4,zG5,zG6,zG7,eq_self,resV,rval,X.val,binv,fillL,setR,↓reduceIte,Nat.reduceEqDiff,Nat.reduceAdd,Nat.reduceMul,Nat.reduceLeDiff,Nat.reduceLT,Nat.reduceSub,reduceCtorEq,zGr, g1, hf3, l3] | ((with_reducible refine rows_intro (fun _ hb => ?_)); try simp only [set_none, ne_eq] at hb) | ((with_reducible refine new_intro (fun _ hb => ?_)); try simp only [set_none, ne_eq] at hb) | (with_reducible refine draw_same ?_) | ((with_reducible refine gd_split ?_ (fun _ => ?_) (fun _ => ?_)); exact rfl) | ((with_reducible refine td_split ?_ (fun _ => ?_) (fun _ => ?_)); exact rfl) | (with_reducible refine c_split (fun _ => ?_) (fun _ => ?_)) | (with_reducible refine app_lit o3 ‹_› rfl ?_ ?_ ?_ (fun _ _ ho' => ?_)))
      · simp only [maxLen]; omega
      · omega
      · obtain ⟨H4, l4, o4⟩ := ho'.weaken (hl0.trans (lB.trans ((AHeap.le.refl _).fresh (o3.none' ‹_›) _)))
        refine ⟨H4, l4, h _ _ ?_⟩
        simpa only [List.append_assoc, List.length_append, List.length_cons, List.length_nil, Nat.add_assoc] using o4
variable (H : AHeap) (K : Value → AHeap → Prop)
end Go.Proofs.YtodhkodhndbpmaaGreat
namespace Go.Proofs.YtodhkodhndbpmaaGreat
set_option linter.all false
open Go Go.RowKit
set_option maxRecDepth 100000
variable (w0 : World) (H : AHeap) (K : Value → AHeap → Prop)
def opAt (qs : List Qd) (i : Nat) : Int := ((qs[i]?).map (·.op)).getD 0
def nAt (qs : List Qd) (i : Nat) : Int := ((qs[i]?).map (·.n)).getD 0
theorem opAt_eq {qs : List Qd} {i : Nat} (h : i < qs.length) : opAt qs i = qs[i].op := by simp [opAt, h]
theorem nAt_eq {qs : List Qd} {i : Nat} (h : i < qs.length) : nAt qs i = qs[i].n := by simp [nAt, h]
def codeValid (qs : List Qd) : Bool := decide (1 ≤ qs.length) && decide (qs.length ≤ 600) && (qs.all fun q => quadValid q qs.length) && (opAt qs (qs.length - 1) == 10 || opAt qs (qs.length - 1) == 4)
theorem code_bad {qs : List Qd} {k : Nat} (h : k < qs.length) (hb : quadValid qs[k] qs.length = false) : codeValid qs = false := by
  have : (qs.all fun q => quadValid q qs.length) = false := by
    rw [List.all_eq_false]
    exact ⟨qs[k], List.getElem_mem h, by rw [hb]; simp⟩
  simp [codeValid, this]
theorem code_good {qs : List Qd} (h1 : 1 ≤ qs.length) (h2 : qs.length ≤ 600) (h : ∀ i (hi : i < qs.length), quadValid qs[i] qs.length = true) : codeValid qs = (opAt qs (qs.length - 1) == 10 || opAt qs (qs.length - 1) == 4) := by
  have : (qs.all fun q => quadValid q qs.length) = true := by
    rw [List.all_eq_true]
    intro q hq
    obtain ⟨i, hi, rfl⟩ := List.getElem_of_mem hq
    exact h i hi
  simp [codeValid, this, h1, h2]
theorem code_at {qs : List Qd} (h : codeValid qs = true) : 1 ≤ qs.length ∧ qs.length ≤ 600 ∧ ∀ i (hi : i < qs.length), quadValid qs[i] qs.length = true := by
  simp only [codeValid, Bool.and_eq_true, decide_eq_true_eq, List.all_eq_true] at h
  exact ⟨h.1.1.1, h.1.1.2, fun i hi => h.1.2 _ (List.getElem_mem hi)⟩
theorem sub1 {n : Nat} (h : 1 ≤ n) (hn : n ≤ 4611686018427387904) : IntKind.i64.wrap ((n : Int) - 1) = ((n - 1 : Nat) : Int) := by rw [wrap_i64 (by omega) (by omega)]; omega
theorem code_len {qs : List Qd} (h : ¬ (1 ≤ qs.length ∧ qs.length ≤ 600)) : codeValid qs = false := by
  cases hc : codeValid qs with
  | false => rfl
  | true => exact absurd ⟨(code_at hc).1, (code_at hc).2.1⟩ h
theorem codeValid_ok (A : Option Addr) (c : Nat) (qs : List Qd) (hx : Fl H A (qcells qs)) (h : K (.bool (codeValid qs)) H) : ACalls Tryz.prog w0 20 [.slice A qs.length c] H K := by
  refine acalls_of_sx mix Tryz.func20 of20 (by simp [ir20]) ?_; rw [ir20]; (try delta qT qI qC qO qM qG)
  repeat' (first | simp -implicitDefEqProofs only [zG1,zG2,zG3,zG4,zG5,zG6,zG7,eq_self,resV,rval,X.val,binv,fillL,setR,↓reduceIte,Nat.reduceEqDiff,Nat.reduceAdd,Nat.reduceMul,Nat.reduceLeDiff,Nat.reduceLT,Nat.reduceSub,reduceCtorEq,zGr] | ((with_reducible refine rows_intro (fun _ hb => ?_)); try simp only [set_none, ne_eq] at hb) | ((with_reducible refine new_intro (fun _ hb => ?_)); try simp only [set_none, ne_eq] at hb) | (with_reducible refine draw_same ?_) | ((with_reducible refine gd_split ?_ (fun _ => ?_) (fun _ => ?_)); exact rfl) | ((with_reducible refine td_split ?_ (fun _ => ?_) (fun _ => ?_)); exact rfl) | (with_reducible refine c_split (fun _ => ?_) (fun _ => ?_)))
  · refine ret_same (kb h ?_)
    (try simp only [beq_iff_eq, beq_eq_false_iff_ne, bne_iff_ne, bne_eq_false_iff_eq, decide_eq_true_eq, decide_eq_false_iff_not, ne_eq, Bool.not_eq_true, Bool.not_eq_false, Bool.not_eq_eq_eq_not, Bool.not_true, Bool.not_false, Int.not_lt, Int.not_le, ge_iff_le, gt_iff_lt] at *)
    rw [code_len (by omega)]
  · refine ret_same (kb h ?_)
    (try simp only [beq_iff_eq, beq_eq_false_iff_ne, bne_iff_ne, bne_eq_false_iff_eq, decide_eq_true_eq, decide_eq_false_iff_not, ne_eq, Bool.not_eq_true, Bool.not_eq_false, Bool.not_eq_eq_eq_not, Bool.not_true, Bool.not_false, Int.not_lt, Int.not_le, ge_iff_le, gt_iff_lt] at *)
    rw [code_len (by omega)]
  · have hn1 : 1 ≤ qs.length := by (try simp only [beq_iff_eq, beq_eq_false_iff_ne, bne_iff_ne, bne_eq_false_iff_eq, decide_eq_true_eq, decide_eq_false_iff_not, ne_eq, Bool.not_eq_true, Bool.not_eq_false, Bool.not_eq_eq_eq_not, Bool.not_true, Bool.not_false, Int.not_lt, Int.not_le, ge_iff_le, gt_iff_lt] at *); omega
    have hn2 : qs.length ≤ 600 := by (try simp only [beq_iff_eq, beq_eq_false_iff_ne, bne_iff_ne, bne_eq_false_iff_eq, decide_eq_true_eq, decide_eq_false_iff_not, ne_eq, Bool.not_eq_true, Bool.not_eq_false, Bool.not_eq_eq_eq_not, Bool.not_true, Bool.not_false, Int.not_lt, Int.not_le, ge_iff_le, gt_iff_lt] at *); omega
    refine loop_rule (fun m fr H' => ∃ k : Nat, m = qs.length - k ∧ k ≤ qs.length ∧ H' = H ∧ (∀ i (hi : i < qs.length), i < k → quadValid qs[i] qs.length = true) ∧ fr 0 = .slice A qs.length c ∧ fr 14 = .slice A qs.length c ∧ fr 15 = .int .i64 qs.length ∧ fr 16 = .int .i64 k) qs.length
      ⟨0, rfl, Nat.zero_le _, rfl, fun i _ hi => absurd hi (Nat.not_lt_zero _), rfl, rfl, rfl, rfl⟩ ?_
    rintro m fr _ ⟨k, rfl, hk, rfl, he, f0, f1, f2, f3⟩
    by_cases hlt : k < qs.length
    · have g0 := lt_dec hlt
      have g1 := rng hlt
      have g3 := up1 hlt (by omega)
      have p0 := hx.quad hlt
      repeat' (first | simp -implicitDefEqProofs only [zG1,zG2,zG3,zG4,zG5,zG6,zG7,eq_self,resV,rval,X.val,binv,fillL,setR,↓reduceIte,Nat.reduceEqDiff,Nat.reduceAdd,Nat.reduceMul,Nat.reduceLeDiff,Nat.reduceLT,Nat.reduceSub,reduceCtorEq,zGr, f0, f1, f2, f3, g0, g1, g3, p0, Nat.add_zero] | ((with_reducible refine rows_intro (fun _ hb => ?_)); try simp only [set_none, ne_eq] at hb) | ((with_reducible refine new_intro (fun _ hb => ?_)); try simp only [set_none, ne_eq] at hb) | (with_reducible refine draw_same ?_) | ((with_reducible refine gd_split ?_ (fun _ => ?_) (fun _ => ?_)); exact rfl) | ((with_reducible refine td_split ?_ (fun _ => ?_) (fun _ => ?_)); exact rfl) | (with_reducible refine c_split (fun _ => ?_) (fun _ => ?_)) | (with_reducible refine quadValid_ok _ _ _ qs[k] _ ?_))
      · refine ⟨_, (AHeap.le.refl _).fresh ‹_› _, kb h ?_⟩
        (try simp only [beq_iff_eq, beq_eq_false_iff_ne, bne_iff_ne, bne_eq_false_iff_eq, decide_eq_true_eq, decide_eq_false_iff_not, ne_eq, Bool.not_eq_true, Bool.not_eq_false, Bool.not_eq_eq_eq_not, Bool.not_true, Bool.not_false, Int.not_lt, Int.not_le, ge_iff_le, gt_iff_lt] at *)
        rw [code_bad hlt ‹_›]
      · refine ⟨_, _, ?_, (AHeap.le.refl _).fresh ‹_› _, k + 1, rfl, by omega, rfl, fun i hi hik => ?_, by simp [put_at, f0], by simp [put_at, f1], by simp [put_at, f2], by simp [put_at]⟩
        · omega
        · rcases Nat.lt_succ_iff_lt_or_eq.1 hik with hik | rfl
          · exact he i hi hik
          · (try simp only [beq_iff_eq, beq_eq_false_iff_ne, bne_iff_ne, bne_eq_false_iff_eq, decide_eq_true_eq, decide_eq_false_iff_not, ne_eq, Bool.not_eq_true, Bool.not_eq_false, Bool.not_eq_eq_eq_not, Bool.not_true, Bool.not_false, Int.not_lt, Int.not_le, ge_iff_le, gt_iff_lt] at *)
            assumption
    · have g0 := ge_dec hlt
      have hl : qs.length - 1 < qs.length := by omega
      have p0 := hx.quad hl
      have g1 := rng hl
      have g2 := sub1 hn1 (by omega)
      repeat' (first | simp -implicitDefEqProofs only [zG1,zG2,zG3,zG4,zG5,zG6,zG7,eq_self,resV,rval,X.val,binv,fillL,setR,↓reduceIte,Nat.reduceEqDiff,Nat.reduceAdd,Nat.reduceMul,Nat.reduceLeDiff,Nat.reduceLT,Nat.reduceSub,reduceCtorEq,zGr, f0, f1, f2, f3, g0, p0, g1, g2, Nat.add_zero] | ((with_reducible refine rows_intro (fun _ hb => ?_)); try simp only [set_none, ne_eq] at hb) | ((with_reducible refine new_intro (fun _ hb => ?_)); try simp only [set_none, ne_eq] at hb) | (with_reducible refine draw_same ?_) | ((with_reducible refine gd_split ?_ (fun _ => ?_) (fun _ => ?_)); exact rfl) | ((with_reducible refine td_split ?_ (fun _ => ?_) (fun _ => ?_)); exact rfl) | (with_reducible refine c_split (fun _ => ?_) (fun _ => ?_)))
      all_goals (refine ret_same (kb h ?_))
      all_goals (rw [code_good hn1 hn2 (fun i hi => he i hi (by omega)), opAt_eq hl])
      all_goals simp_all
theorem codeValidS_ok (A : Option Addr) (c : Nat) (qs : List Qd) (hx : Fl H A (qcells qs)) (h : K (.bool (codeValid qs)) H) : ACalls Tryz.prog w0 30 [.slice A qs.length c] H K := by
  refine acalls_of_sx mix Tryz.func30 of30 (by simp [ir30]) ?_; rw [ir30]; (try delta qT qI qC qO qM qG)
  repeat' (first | simp -implicitDefEqProofs only [zG1,zG2,zG3,zG4,zG5,zG6,zG7,eq_self,resV,rval,X.val,binv,fillL,setR,↓reduceIte,Nat.reduceEqDiff,Nat.reduceAdd,Nat.reduceMul,Nat.reduceLeDiff,Nat.reduceLT,Nat.reduceSub,reduceCtorEq,zGr] | ((with_reducible refine rows_intro (fun _ hb => ?_)); try simp only [set_none, ne_eq] at hb) | ((with_reducible refine new_intro (fun _ hb => ?_)); try simp only [set_none, ne_eq] at hb) | (with_reducible refine draw_same ?_) | ((with_reducible refine gd_split ?_ (fun _ => ?_) (fun _ => ?_)); exact rfl) | ((with_reducible refine td_split ?_ (fun _ => ?_) (fun _ => ?_)); exact rfl) | (with_reducible refine c_split (fun _ => ?_) (fun _ => ?_)) | (with_reducible refine l6In_ok _ _ _ _ _ _ ?_))
  · refine ret_same (kb h ?_)
    simp only [Bool.not_eq_true', Bool.and_eq_false_iff, decide_eq_false_iff_not] at *
    rw [code_len (by omega)]
  · have hn1 : 1 ≤ qs.length := by (try simp only [beq_iff_eq, beq_eq_false_iff_ne, bne_iff_ne, bne_eq_false_iff_eq, decide_eq_true_eq, decide_eq_false_iff_not, ne_eq, Bool.not_eq_true, Bool.not_eq_false, Bool.not_eq_eq_eq_not, Bool.not_true, Bool.not_false, Int.not_lt, Int.not_le, ge_iff_le, gt_iff_lt] at *); simp at *; omega
    have hn2 : qs.length ≤ 600 := by (try simp only [beq_iff_eq, beq_eq_false_iff_ne, bne_iff_ne, bne_eq_false_iff_eq, decide_eq_true_eq, decide_eq_false_iff_not, ne_eq, Bool.not_eq_true, Bool.not_eq_false, Bool.not_eq_eq_eq_not, Bool.not_true, Bool.not_false, Int.not_lt, Int.not_le, ge_iff_le, gt_iff_lt] at *); simp at *; omega
    refine loop_rule (fun m fr H' => ∃ k : Nat, m = qs.length - k ∧ k ≤ qs.length ∧ H' = H ∧ (∀ i (hi : i < qs.length), i < k → quadValid qs[i] qs.length = true) ∧ fr 0 = .slice A qs.length c ∧ fr 3 = .int .i64 qs.length ∧ fr 4 = .int .i64 k) qs.length
      ⟨0, rfl, Nat.zero_le _, rfl, fun i _ hi => absurd hi (Nat.not_lt_zero _), rfl, rfl, rfl⟩ ?_
    rintro m fr _ ⟨k, rfl, hk, rfl, he, f0, f1, f2⟩
    by_cases hlt : k < qs.length
    · have g0 := lt_dec hlt
      have g1 := rng hlt
      have g3 := up1 hlt (by omega)
      have p0 := hx.quad hlt
      repeat' (first | simp -implicitDefEqProofs only [zG1,zG2,zG3,zG4,zG5,zG6,zG7,eq_self,resV,rval,X.val,binv,fillL,setR,↓reduceIte,Nat.reduceEqDiff,Nat.reduceAdd,Nat.reduceMul,Nat.reduceLeDiff,Nat.reduceLT,Nat.reduceSub,reduceCtorEq,zGr, f0, f1, f2, g0, g1, g3, p0, Nat.add_zero] | ((with_reducible refine rows_intro (fun _ hb => ?_)); try simp only [set_none, ne_eq] at hb) | ((with_reducible refine new_intro (fun _ hb => ?_)); try simp only [set_none, ne_eq] at hb) | (with_reducible refine draw_same ?_) | ((with_reducible refine gd_split ?_ (fun _ => ?_) (fun _ => ?_)); exact rfl) | ((with_reducible refine td_split ?_ (fun _ => ?_) (fun _ => ?_)); exact rfl) | (with_reducible refine c_split (fun _ => ?_) (fun _ => ?_)) | (with_reducible refine quadValidS_ok _ _ _ qs[k] _ ?_))
      · refine ret_same (kb h ?_)
        (try simp only [beq_iff_eq, beq_eq_false_iff_ne, bne_iff_ne, bne_eq_false_iff_eq, decide_eq_true_eq, decide_eq_false_iff_not, ne_eq, Bool.not_eq_true, Bool.not_eq_false, Bool.not_eq_eq_eq_not, Bool.not_true, Bool.not_false, Int.not_lt, Int.not_le, ge_iff_le, gt_iff_lt] at *)
        rw [code_bad hlt ‹_›]
      · refine ⟨_, _, ?_, AHeap.le.refl _, k + 1, rfl, by omega, rfl, fun i hi hik => ?_, by simp [put_at, f0], by simp [put_at, f1], by simp [put_at]⟩
        · omega
        · rcases Nat.lt_succ_iff_lt_or_eq.1 hik with hik | rfl
          · exact he i hi hik
          · (try simp only [beq_iff_eq, beq_eq_false_iff_ne, bne_iff_ne, bne_eq_false_iff_eq, decide_eq_true_eq, decide_eq_false_iff_not, ne_eq, Bool.not_eq_true, Bool.not_eq_false, Bool.not_eq_eq_eq_not, Bool.not_true, Bool.not_false, Int.not_lt, Int.not_le, ge_iff_le, gt_iff_lt] at *)
            assumption
    · have g0 := ge_dec hlt
      have hl : qs.length - 1 < qs.length := by omega
      have p0 := hx.quad hl
      have g1 := rng hl
      have g2 := sub1 hn1 (by omega)
      repeat' (first | simp -implicitDefEqProofs only [zG1,zG2,zG3,zG4,zG5,zG6,zG7,eq_self,resV,rval,X.val,binv,fillL,setR,↓reduceIte,Nat.reduceEqDiff,Nat.reduceAdd,Nat.reduceMul,Nat.reduceLeDiff,Nat.reduceLT,Nat.reduceSub,reduceCtorEq,zGr, f0, f1, f2, g0, p0, g1, g2, Nat.add_zero] | ((with_reducible refine rows_intro (fun _ hb => ?_)); try simp only [set_none, ne_eq] at hb) | ((with_reducible refine new_intro (fun _ hb => ?_)); try simp only [set_none, ne_eq] at hb) | (with_reducible refine draw_same ?_) | ((with_reducible refine gd_split ?_ (fun _ => ?_) (fun _ => ?_)); exact rfl) | ((with_reducible refine td_split ?_ (fun _ => ?_) (fun _ => ?_)); exact rfl) | (with_reducible refine c_split (fun _ => ?_) (fun _ => ?_)))
      all_goals (refine ret_same (kb h ?_))
      all_goals (rw [code_good hn1 hn2 (fun i hi => he i hi (by omega)), opAt_eq hl])
      all_goals simp_all
end Go.Proofs.YtodhkodhndbpmaaGreat
namespace Go.Proofs.YtodhkodhndbpmaaGreat
set_option linter.all false
open Go Go.RowKit
def compE (e : Ex) : List Qd := comp 5 e 4
def haltQ : Qd := ⟨10, 0, 0, 0, 0⟩
mutual
/-- How many quads a statement has. -/
def szS : St → Nat
  | .mk k _ _ e body els =>
    if k = 2 then (compE e).length + 1 + szL body + (if els.isEmpty then 0 else 1 + szL els)
    else if k = 3 then (compE e).length + 2 + szL body
    else if k = 5 ∨ k = 6 then 1
    else (compE e).length + 1
def szL : List St → Nat
  | [] => 0
  | s :: ss => szS s + szL ss
end
mutual
/-- The quads of a statement that begins at an index. -/
def compS : St → Nat → List Qd
  | .mk k v b e body els, i =>
    if k = 2 then
      (if els.isEmpty then compE e ++ ⟨5, 0, 4, 0, ((i + (compE e).length + 1 + szL body : Nat) : Int)⟩ :: compL body (i + (compE e).length + 1)
      else compE e ++ ⟨5, 0, 4, 0, ((i + (compE e).length + 1 + szL body + 1 : Nat) : Int)⟩ :: (compL body (i + (compE e).length + 1) ++
        ⟨4, 0, 0, 0, ((i + (compE e).length + 1 + szL body + 1 + szL els : Nat) : Int)⟩ :: compL els (i + (compE e).length + 1 + szL body + 1)))
    else if k = 3 then compE e ++ ⟨5, 0, 4, 0, ((i + (compE e).length + 1 + szL body + 1 : Nat) : Int)⟩ :: (compL body (i + (compE e).length + 1) ++ [⟨4, 0, 0, 0, (i : Int)⟩])
    else if k = 5 then [⟨7, v, 0, 0, b⟩]
    else if k = 6 then [⟨8, 0, 0, 0, 0⟩]
    else if k = 1 then compE e ++ [⟨2, v, 4, 0, 0⟩]
    else if k = 4 then compE e ++ [⟨6, 0, 4, 0, b⟩]
    else compE e ++ [⟨9, 0, 4, 0, 0⟩]
def compL : List St → Nat → List Qd
  | [], _ => []
  | s :: ss, i => compS s i ++ compL ss (i + szS s)
end
def compTask (ss : List St) : List Qd := compL ss 0 ++ [haltQ]
def compileTask (ss : List St) : List Qd := if stsOk ss then compTask ss else []
mutual
theorem compS_len : ∀ (s : St) (i : Nat), (compS s i).length = szS s
  | .mk k v b e body els, i => by
    have hb := fun j => compL_len body j
    have hl := fun j => compL_len els j
    by_cases h2 : k = 2
    · subst h2
      simp only [compS, szS, if_true]
      split
      · simp only [List.length_append, List.length_cons, hb]; omega
      · simp only [List.length_append, List.length_cons, hb, hl]; omega
    · by_cases h3 : k = 3
      · subst h3
        simp only [compS, szS, if_neg h2, if_true, List.length_append, List.length_cons, List.length_nil, hb]; omega
      · by_cases h5 : k = 5
        · subst h5; simp [compS, szS]
        · by_cases h6 : k = 6
          · subst h6; simp [compS, szS]
          · have h56 : ¬ (k = 5 ∨ k = 6) := by omega
            simp only [compS, szS, if_neg h2, if_neg h3, if_neg h5, if_neg h6, if_neg h56]
            split
            · simp
            · split <;> simp
theorem compL_len : ∀ (ss : List St) (i : Nat), (compL ss i).length = szL ss
  | [], _ => by simp only [compL, szL, List.length_nil]
  | s :: ss, i => by simp only [compL, szL, List.length_append, compS_len s, compL_len ss]
end
theorem compE_le (e : Ex) : (compE e).length ≤ 31 := by have := comp_len 5 e 4; simp only [compE]; omega
mutual
theorem szS_le : ∀ s : St, szS s ≤ 33 * s.cnt
  | .mk k v b e body els => by
    have h0 := compE_le e
    have h1 := szL_le body
    have h2 := szL_le els
    simp only [szS, St.cnt]
    repeat' split
    all_goals omega
theorem szL_le : ∀ ss : List St, szL ss ≤ 33 * cntL ss
  | [] => by simp [szL]
  | s :: ss => by
    have h1 := szS_le s
    have h2 := szL_le ss
    simp only [szL, cntL]; omega
end
theorem szL_app : ∀ ss ts : List St, szL (ss ++ ts) = szL ss + szL ts
  | [], ts => by simp [szL]
  | s :: ss, ts => by simp only [List.cons_append, szL, szL_app ss ts]; omega
theorem compL_app : ∀ (ss ts : List St) (i : Nat), compL (ss ++ ts) i = compL ss i ++ compL ts (i + szL ss)
  | [], ts, i => by simp [compL, szL]
  | s :: ss, ts, i => by simp only [List.cons_append, compL, szL, compL_app ss ts, List.append_assoc, Nat.add_assoc]
theorem szL_take {ss : List St} {k : Nat} (h : k < ss.length) : szL (ss.take (k + 1)) = szL (ss.take k) + szS ss[k] := by
  rw [List.take_add_one, List.getElem?_eq_getElem h, szL_app]; simp [szL]
theorem compL_take {ss : List St} {k : Nat} (h : k < ss.length) (i : Nat) : compL (ss.take (k + 1)) i = compL (ss.take k) i ++ compS ss[k] (i + szL (ss.take k)) := by
  rw [List.take_add_one, List.getElem?_eq_getElem h, compL_app]; simp [compL]
theorem plain_ok {e : Ex} (h : plainE e = true) : exprOk 5 e = true := by
  cases e with
  | mk op n args =>
    simp only [plainE, Ex.op, Ex.n, Ex.args, Bool.and_eq_true, beq_iff_eq] at h
    obtain ⟨⟨rfl, rfl⟩, h⟩ := h
    simp [exprOk, h]
/-- The expression of every valid statement can be compiled. -/
theorem stOk_e {d : Nat} {s : St} (h : stOk d s = true) : exprOk 5 s.e = true := by
  have simple : stSimple s = true → exprOk 5 s.e = true := by
    intro h
    simp only [stSimple, Bool.and_eq_true] at h
    replace h := h.2
    repeat' split at h
    all_goals first
      | (cases h; done)
      | (simp only [Bool.and_eq_true] at h; first | exact h.2 | exact plain_ok h.2)
  cases d with
  | zero =>
    simp only [stOk] at h
    split at h
    · cases h
    · exact simple h
  | succ d =>
    simp only [stOk] at h
    split at h
    · simp only [stBlock, Bool.and_eq_true] at h
      exact h.1.1.1.2
    · exact simple h
theorem stOk_simple {d : Nat} {s : St} (h : stOk d s = true) (h2 : s.kind ≠ 2) (h3 : s.kind ≠ 3) : stSimple s = true := by
  cases d with
  | zero =>
    simp only [stOk] at h
    rwa [if_neg (by omega)] at h
  | succ d =>
    simp only [stOk] at h
    rwa [if_neg (by omega)] at h
theorem stOk_block {d : Nat} {s : St} (h : stOk d s = true) (hk : s.kind = 2 ∨ s.kind = 3) : ∃ d', d = d' + 1 ∧ stBlock s = true ∧ s.body.all (stOk d') = true ∧ s.els.all (stOk d') = true := by
  cases d with
  | zero =>
    simp only [stOk] at h
    rw [if_pos hk] at h; cases h
  | succ d =>
    simp only [stOk] at h
    rw [if_pos hk] at h
    simp only [Bool.and_eq_true] at h
    exact ⟨d, rfl, h.1.1, h.1.2, h.2⟩
theorem simple_kind {s : St} (h : stSimple s = true) : s.kind = 1 ∨ s.kind = 4 ∨ s.kind = 5 ∨ s.kind = 6 ∨ s.kind = 7 := by
  simp only [stSimple, Bool.and_eq_true] at h
  replace h := h.2
  repeat' split at h
  all_goals first
    | (cases h; done)
    | omega
theorem comp_valid {m : Int} : ∀ (d : Nat) (e : Ex) (i : Int), exprOk d e = true → 0 ≤ i → i + d ≤ 12 → ∀ q ∈ comp d e i, quadValid q m = true ∧ (q.op = 1 ∨ q.op = 2 ∨ q.op = 3)
  | 0, e, i, h, _, _ => by rw [ok_zero] at h; cases h
  | d + 1, .mk op n args, i, h, h0, h1 => by
    intro q hq
    simp only [comp] at hq
    simp only [exprOk] at h
    split at hq
    · rename_i ho
      rw [if_pos ho] at h
      simp only [List.mem_cons, List.not_mem_nil, or_false] at hq
      subst hq
      simp at h
      refine ⟨?_, .inl rfl⟩
      simp [quadValid, isReg, wordValid]; omega
    · rename_i ho
      rw [if_neg ho] at h
      split at hq
      · rename_i ho
        rw [if_pos ho] at h
        simp only [List.mem_cons, List.not_mem_nil, or_false] at hq
        subst hq
        simp at h
        refine ⟨?_, .inr (.inl rfl)⟩
        simp [quadValid, isReg]; omega
      · rename_i ho2
        rw [if_neg ho2] at h
        split at hq
        · rename_i x y
          simp only [Bool.and_eq_true] at h
          rcases List.mem_append.1 hq with hq | hq
          · rcases List.mem_append.1 hq with hq | hq
            · exact comp_valid d x i h.2.1 h0 (by omega) q hq
            · exact comp_valid d y (i + 1) h.2.2 (by omega) (by omega) q hq
          · simp only [List.mem_cons, List.not_mem_nil, or_false] at hq
            subst hq
            refine ⟨?_, .inr (.inr rfl)⟩
            have h1' := h.1.1
            simp at h1'
            have hd : d ≠ 0 := by
              rintro rfl
              have := h.2.1
              rw [ok_zero] at this; cases this
            simp [quadValid, isReg, opValid]; omega
        · cases hq
theorem simple_q {s : St} (h : stSimple s = true) (i : Nat) : ∃ q, compS s i = (if s.kind = 5 ∨ s.kind = 6 then [] else compE s.e) ++ [q] ∧ (∀ m, quadValid q m = true) ∧ q.op ≠ 10 ∧ q.op ≠ 4 ∧ q.op ≠ 5 ∧
    q = (if s.kind = 5 then ⟨7, s.var, 0, 0, s.box⟩ else if s.kind = 6 then ⟨8, 0, 0, 0, 0⟩ else if s.kind = 1 then ⟨2, s.var, 4, 0, 0⟩ else if s.kind = 4 then ⟨6, 0, 4, 0, s.box⟩ else ⟨9, 0, 4, 0, 0⟩) := by
  cases s with
  | mk k v b e body els =>
    have hk := simple_kind h
    have h : (body.isEmpty && els.isEmpty &&
      if k = 1 then decide (0 ≤ v) && decide (v ≤ 3) && b == 0 && exprOk 5 e
      else if k = 4 then v == 0 && decide (0 ≤ b) && decide (b ≤ 2) && exprOk 5 e
      else if k = 5 then decide (0 ≤ v) && decide (v ≤ 3) && decide (0 ≤ b) && decide (b ≤ 2) && plainE e
      else if k = 6 then v == 0 && b == 0 && plainE e
      else if k = 7 then v == 0 && b == 0 && exprOk 5 e
      else false) = true := h
    simp only [St.kind, St.var, St.box, St.e] at hk ⊢
    simp only [Bool.and_eq_true] at h
    replace h := h.2
    simp only [compS]
    rcases hk with rfl | rfl | rfl | rfl | rfl
    all_goals
      simp at h
      refine ⟨_, rfl, fun m => ?_, ?_, ?_, ?_, rfl⟩
      · simp [quadValid, isReg]; try omega
      · simp
      · simp
      · simp
mutual
/-- What a statement's quads are; m: the length of the whole code. -/
theorem compS_valid : ∀ (s : St) (d i m : Nat), stOk d s = true → i + szS s < m → ∀ q ∈ compS s i, quadValid q m = true ∧ q.op ≠ 10
  | .mk k v b e body els, d, i, m, h, hm => by
    have he : ∀ q ∈ compE e, quadValid q m = true ∧ q.op ≠ 10 := fun q hq => by
      have := comp_valid (m := m) 5 e 4 (stOk_e h) (by omega) (by omega) q hq
      exact ⟨this.1, by omega⟩
    by_cases hk : k = 2 ∨ k = 3
    · obtain ⟨d', rfl, hb, h1, h2⟩ := stOk_block h hk
      simp only [St.body, St.els] at h1 h2
      intro q hq
      simp only [compS] at hq
      simp only [szS] at hm
      split at hq
      · rename_i hk2
        rw [if_pos hk2] at hm
        split at hq
        · rename_i hel
          rw [if_pos hel] at hm
          simp only [List.mem_append, List.mem_cons] at hq
          rcases hq with hq | rfl | hq
          · exact he q hq
          · exact ⟨by simp [quadValid, isReg]; omega, by simp⟩
          · exact compL_valid body d' _ m h1 (by omega) q hq
        · rename_i hel
          rw [if_neg hel] at hm
          simp only [List.mem_append, List.mem_cons] at hq
          rcases hq with hq | rfl | hq | rfl | hq
          · exact he q hq
          · exact ⟨by simp [quadValid, isReg]; omega, by simp⟩
          · exact compL_valid body d' _ m h1 (by omega) q hq
          · exact ⟨by simp [quadValid]; omega, by simp⟩
          · exact compL_valid els d' _ m h2 (by omega) q hq
      · rename_i hk2
        have hk3 : k = 3 := by omega
        rw [if_neg hk2, if_pos hk3] at hm
        rw [if_pos hk3] at hq
        simp only [List.mem_append, List.mem_cons, List.not_mem_nil, or_false] at hq
        rcases hq with hq | rfl | hq | rfl
        · exact he q hq
        · exact ⟨by simp [quadValid, isReg]; omega, by simp⟩
        · exact compL_valid body d' _ m h1 (by omega) q hq
        · exact ⟨by simp [quadValid]; omega, by simp⟩
    · obtain ⟨q0, e0, h0, h1, _⟩ := simple_q (stOk_simple h (fun e => hk (.inl e)) (fun e => hk (.inr e))) i
      intro q hq
      rw [e0] at hq
      rcases List.mem_append.1 hq with hq | hq
      · split at hq
        · cases hq
        · exact he q hq
      · simp only [List.mem_cons, List.not_mem_nil, or_false] at hq
        subst hq
        exact ⟨h0 _, h1⟩
theorem compL_valid : ∀ (ss : List St) (d i m : Nat), ss.all (stOk d) = true → i + szL ss < m → ∀ q ∈ compL ss i, quadValid q m = true ∧ q.op ≠ 10
  | [], _, _, _, _, _ => by intro q hq; simp only [compL] at hq; cases hq
  | s :: ss, d, i, m, h, hm => by
    intro q hq
    simp only [List.all_cons, Bool.and_eq_true] at h
    simp only [szL] at hm
    simp only [compL, List.mem_append] at hq
    rcases hq with hq | hq
    · exact compS_valid s d i m h.1 (by omega) q hq
    · exact compL_valid ss d _ m h.2 (by omega) q hq
end
theorem compTask_len (ss : List St) : (compTask ss).length = szL ss + 1 := by simp [compTask, compL_len]
theorem compTask_valid {ss : List St} (h : stsOk ss = true) : codeValid (compTask ss) = true := by
  simp only [stsOk, Bool.and_eq_true, decide_eq_true_eq] at h
  have hl := compTask_len ss
  have h1 := szL_le ss
  have hq : ∀ i (hi : i < (compTask ss).length), quadValid (compTask ss)[i] (compTask ss).length = true := by
    intro i hi
    have hm := List.getElem_mem hi
    generalize (compTask ss)[i] = q at hm
    rw [compTask, List.mem_append] at hm
    rcases hm with hm | hm
    · exact (compL_valid ss 3 0 _ h.1 (by omega) _ hm).1
    · simp only [List.mem_cons, List.not_mem_nil, or_false] at hm
      rw [hm]; simp [quadValid, haltQ]
  rw [code_good (by omega) (by omega) hq]
  have : opAt (compTask ss) ((compTask ss).length - 1) = 10 := by
    simp [opAt, compTask, haltQ]
  simp [this]
end Go.Proofs.YtodhkodhndbpmaaGreat
namespace Go.Proofs.YtodhkodhndbpmaaGreat
set_option linter.all false
open Go Go.RowKit
set_option maxRecDepth 100000
variable (w0 : World)
/-- The value of a statement. -/
abbrev stv (k v b : Int) (e : Ex) (n1 n2 : Nat) (A0 : Option Addr) (c0 : Nat) (A1 : Option Addr) (c1 : Nat) (A2 : Option Addr) (c2 : Nat) : Value :=
  .agg #[.int .i64 k, .int .i64 v, .int .i64 b, .int .i64 e.op, .int .i64 e.n, .slice A0 e.args.length c0, .slice A1 n1 c1, .slice A2 n2 c2]
section
variable (H : AHeap) (K : Value → AHeap → Prop) (s : St) (A0 : Option Addr) (c0 : Nat) (A1 : Option Addr) (c1 : Nat) (A2 : Option Addr) (c2 : Nat)
theorem l11Plain_ok (e : Ex) (h : K (.bool (plainE e)) H) : ACalls Tryz.prog w0 105 [.agg #[.int .i64 e.op, .int .i64 e.n, .slice A0 e.args.length c0]] H K := by
  have e1 : plainE e = ((e.op == 0) && (e.n == 0) && (((e.args.length : Nat) : Int) == 0)) := by
    have : e.args.isEmpty = (((e.args.length : Nat) : Int) == 0) := by
      cases e.args with
      | nil => rfl
      | cons x xs => simp <;> omega
    simp only [plainE, this]
  rw [e1] at h
  refine acalls_of_sx mix Tryz.func105 of105 (by simp [ir105]) ?_; rw [ir105]; (try delta qT qI qC qO qM qG)
  repeat' (first | simp -implicitDefEqProofs only [zG1,zG2,zG3,zG4,zG5,zG6,zG7,eq_self,resV,rval,X.val,binv,fillL,setR,↓reduceIte,Nat.reduceEqDiff,Nat.reduceAdd,Nat.reduceMul,Nat.reduceLeDiff,Nat.reduceLT,Nat.reduceSub,reduceCtorEq,zGr] | ((with_reducible refine rows_intro (fun _ hb => ?_)); try simp only [set_none, ne_eq] at hb) | ((with_reducible refine new_intro (fun _ hb => ?_)); try simp only [set_none, ne_eq] at hb) | (with_reducible refine draw_same ?_) | ((with_reducible refine gd_split ?_ (fun _ => ?_) (fun _ => ?_)); exact rfl) | ((with_reducible refine td_split ?_ (fun _ => ?_) (fun _ => ?_)); exact rfl) | (with_reducible refine c_split (fun _ => ?_) (fun _ => ?_)))
  all_goals exact ⟨H, (by simp -implicitDefEqProofs only [le_set_true, le_refl_true, eq_self, *]), by simp_all⟩
theorem l11Var_ok (n1 n2 : Nat) (k v b : Int) (e : Ex) (u : Bool) (h : K (.bool (if u then decide (0 ≤ v) && decide (v ≤ 3) else v == 0)) H) : ACalls Tryz.prog w0 93 [stv k v b e n1 n2 A0 c0 A1 c1 A2 c2, .bool u] H K := by
  cases u
  all_goals
    refine acalls_of_sx mix Tryz.func93 of93 (by simp [ir93]) ?_; rw [ir93]; (try delta qT qI qC qO qM qG)
    repeat' (first | simp -implicitDefEqProofs only [zG1,zG2,zG3,zG4,zG5,zG6,zG7,eq_self,resV,rval,X.val,binv,fillL,setR,↓reduceIte,Nat.reduceEqDiff,Nat.reduceAdd,Nat.reduceMul,Nat.reduceLeDiff,Nat.reduceLT,Nat.reduceSub,reduceCtorEq,zGr] | ((with_reducible refine rows_intro (fun _ hb => ?_)); try simp only [set_none, ne_eq] at hb) | ((with_reducible refine new_intro (fun _ hb => ?_)); try simp only [set_none, ne_eq] at hb) | (with_reducible refine draw_same ?_) | ((with_reducible refine gd_split ?_ (fun _ => ?_) (fun _ => ?_)); exact rfl) | ((with_reducible refine td_split ?_ (fun _ => ?_) (fun _ => ?_)); exact rfl) | (with_reducible refine c_split (fun _ => ?_) (fun _ => ?_)) | (with_reducible refine l6In_ok _ _ _ _ _ _ ?_))
    all_goals exact ⟨H, (by simp -implicitDefEqProofs only [le_set_true, le_refl_true, eq_self, *]), by simpa using h⟩
theorem l11Box_ok (n1 n2 : Nat) (k v b : Int) (e : Ex) (u : Bool) (h : K (.bool (if u then decide (0 ≤ b) && decide (b ≤ 2) else b == 0)) H) : ACalls Tryz.prog w0 94 [stv k v b e n1 n2 A0 c0 A1 c1 A2 c2, .bool u] H K := by
  cases u
  all_goals
    refine acalls_of_sx mix Tryz.func94 of94 (by simp [ir94]) ?_; rw [ir94]; (try delta qT qI qC qO qM qG)
    repeat' (first | simp -implicitDefEqProofs only [zG1,zG2,zG3,zG4,zG5,zG6,zG7,eq_self,resV,rval,X.val,binv,fillL,setR,↓reduceIte,Nat.reduceEqDiff,Nat.reduceAdd,Nat.reduceMul,Nat.reduceLeDiff,Nat.reduceLT,Nat.reduceSub,reduceCtorEq,zGr] | ((with_reducible refine rows_intro (fun _ hb => ?_)); try simp only [set_none, ne_eq] at hb) | ((with_reducible refine new_intro (fun _ hb => ?_)); try simp only [set_none, ne_eq] at hb) | (with_reducible refine draw_same ?_) | ((with_reducible refine gd_split ?_ (fun _ => ?_) (fun _ => ?_)); exact rfl) | ((with_reducible refine td_split ?_ (fun _ => ?_) (fun _ => ?_)); exact rfl) | (with_reducible refine c_split (fun _ => ?_) (fun _ => ?_)) | (with_reducible refine l6In_ok _ _ _ _ _ _ ?_))
    all_goals exact ⟨H, (by simp -implicitDefEqProofs only [le_set_true, le_refl_true, eq_self, *]), by simpa using h⟩
end
theorem emp (α : Type) (l : List α) : decide (((l.length : Nat) : Int) > 0) = !l.isEmpty := by
  cases l with
  | nil => rfl
  | cons x xs => simp <;> omega
theorem l11Simple_ok (s : St) (A0 : Option Addr) (c0 : Nat) (A1 : Option Addr) (c1 : Nat) (A2 : Option Addr) (c2 : Nat) (H : AHeap) (K : Value → AHeap → Prop) (hv : ExV H s.e [.int .i64 s.e.op, .int .i64 s.e.n, .slice A0 s.e.args.length c0]) (h : K (.bool (stSimple s)) H) :
    ACalls Tryz.prog w0 92 [stv s.kind s.var s.box s.e s.body.length s.els.length A0 c0 A1 c1 A2 c2] H K := by
  have e1 := emp St s.body
  have e2 := emp St s.els
  refine acalls_of_sx mix Tryz.func92 of92 (by simp [ir92]) ?_; rw [ir92]; (try delta qT qI qC qO qM qG)
  repeat' (first | simp -implicitDefEqProofs only [zG1,zG2,zG3,zG4,zG5,zG6,zG7,eq_self,resV,rval,X.val,binv,fillL,setR,↓reduceIte,Nat.reduceEqDiff,Nat.reduceAdd,Nat.reduceMul,Nat.reduceLeDiff,Nat.reduceLT,Nat.reduceSub,reduceCtorEq,zGr, e1, e2] | ((with_reducible refine rows_intro (fun _ hb => ?_)); try simp only [set_none, ne_eq] at hb) | ((with_reducible refine new_intro (fun _ hb => ?_)); try simp only [set_none, ne_eq] at hb) | (with_reducible refine draw_same ?_) | ((with_reducible refine gd_split ?_ (fun _ => ?_) (fun _ => ?_)); exact rfl) | ((with_reducible refine td_split ?_ (fun _ => ?_) (fun _ => ?_)); exact rfl) | (with_reducible refine c_split (fun _ => ?_) (fun _ => ?_)) | (with_reducible refine l11Var_ok _ _ _ _ _ _ _ _ _ _ _ _ _ _ _ _ ?_) | (with_reducible refine l11Box_ok _ _ _ _ _ _ _ _ _ _ _ _ _ _ _ _ ?_) | (with_reducible refine l11Plain_ok _ _ _ _ _ _ ?_) | (with_reducible refine exprValid5S_ok _ _ _ s.e A0 c0 (hv.le ((AHeap.le.refl H).fresh ‹_› _)) ?_))
  all_goals refine ⟨H, (by simp -implicitDefEqProofs only [le_set_true, le_refl_true, eq_self, *]), kb h ?_⟩
  all_goals clear h hv e1 e2
  all_goals (try simp only [beq_iff_eq, beq_eq_false_iff_ne, bne_iff_ne, bne_eq_false_iff_eq, decide_eq_true_eq, decide_eq_false_iff_not, ne_eq, Bool.not_eq_true, Bool.not_eq_false, Bool.not_eq_eq_eq_not, Bool.not_true, Bool.not_false, Int.not_lt, Int.not_le, ge_iff_le, gt_iff_lt] at *)
  all_goals (simp only [stSimple]; grind)
abbrev OkP (d : Nat) : Prop := ∀ (s : St) (A0 : Option Addr) (c0 : Nat) (A1 : Option Addr) (c1 : Nat) (A2 : Option Addr) (c2 : Nat) (H : AHeap) (K : Value → AHeap → Prop), s.cnt ≤ 1099511627776 →
  StV H s (stc s.kind s.var s.box s.e s.body.length s.els.length A0 c0 A1 c1 A2 c2) → K (.bool (stOk d s)) H → ACalls Tryz.prog w0 76 [stv s.kind s.var s.box s.e s.body.length s.els.length A0 c0 A1 c1 A2 c2, .int .i64 d] H K
abbrev BlP (d : Nat) : Prop := ∀ (ss : List St) (A : Option Addr) (c : Nat) (H : AHeap) (K : Value → AHeap → Prop), cntL ss ≤ 1099511627776 →
  StR H ss A 0 → K (.bool (ss.all (stOk d))) H → ACalls Tryz.prog w0 69 [.slice A ss.length c, .int .i64 d] H K
theorem blP_of (d : Nat) (ih : OkP w0 d) : BlP w0 d := by
  intro ss A c H K hc hR h
  have hl := cntL_len ss
  refine acalls_of_sx mix Tryz.func69 of69 (by simp [ir69]) ?_; rw [ir69]; (try delta qT qI qC qO qM qG)
  repeat' (first | simp -implicitDefEqProofs only [zG1,zG2,zG3,zG4,zG5,zG6,zG7,eq_self,resV,rval,X.val,binv,fillL,setR,↓reduceIte,Nat.reduceEqDiff,Nat.reduceAdd,Nat.reduceMul,Nat.reduceLeDiff,Nat.reduceLT,Nat.reduceSub,reduceCtorEq,zGr] | ((with_reducible refine rows_intro (fun _ hb => ?_)); try simp only [set_none, ne_eq] at hb) | ((with_reducible refine new_intro (fun _ hb => ?_)); try simp only [set_none, ne_eq] at hb) | (with_reducible refine draw_same ?_) | ((with_reducible refine gd_split ?_ (fun _ => ?_) (fun _ => ?_)); exact rfl) | ((with_reducible refine td_split ?_ (fun _ => ?_) (fun _ => ?_)); exact rfl) | (with_reducible refine c_split (fun _ => ?_) (fun _ => ?_)))
  refine for_rule ss.length (fun k fr C => C = H ∧ (∀ i (hi : i < ss.length), i < k → stOk d ss[i] = true) ∧ fr 0 = .slice A ss.length c ∧ fr 1 = .int .i64 d ∧ fr 5 = .int .i64 k)
    ⟨rfl, fun i hi hk => by omega, rfl, rfl, rfl⟩ ?_ ?_
  · rintro k fr _ hk ⟨rfl, he, f0, f1, f5⟩ N hN
    have g0 := lt_dec hk
    have g1 := rng hk
    have g2 := up1 hk (by omega)
    obtain ⟨gA, a0, d0, a1, d1, a2, d2, gp, hx⟩ := hR.arg hk
    have hct := cntL_at hk
    repeat' (first | simp -implicitDefEqProofs only [zG1,zG2,zG3,zG4,zG5,zG6,zG7,eq_self,resV,rval,X.val,binv,fillL,setR,↓reduceIte,Nat.reduceEqDiff,Nat.reduceAdd,Nat.reduceMul,Nat.reduceLeDiff,Nat.reduceLT,Nat.reduceSub,reduceCtorEq,zGr, f0, f1, f5, g0, g1, g2, gA, gp, Nat.add_zero] | ((with_reducible refine rows_intro (fun _ hb => ?_)); try simp only [set_none, ne_eq] at hb) | ((with_reducible refine new_intro (fun _ hb => ?_)); try simp only [set_none, ne_eq] at hb) | (with_reducible refine draw_same ?_) | ((with_reducible refine gd_split ?_ (fun _ => ?_) (fun _ => ?_)); exact rfl) | ((with_reducible refine td_split ?_ (fun _ => ?_) (fun _ => ?_)); exact rfl) | (with_reducible refine c_split (fun _ => ?_) (fun _ => ?_)) | (with_reducible refine ih ss[k] a0 d0 a1 d1 a2 d2 _ _ (by omega) hx ?_))
    · refine ret_same (kb h ?_)
      (try simp only [beq_iff_eq, beq_eq_false_iff_ne, bne_iff_ne, bne_eq_false_iff_eq, decide_eq_true_eq, decide_eq_false_iff_not, ne_eq, Bool.not_eq_true, Bool.not_eq_false, Bool.not_eq_eq_eq_not, Bool.not_true, Bool.not_false, Int.not_lt, Int.not_le, ge_iff_le, gt_iff_lt] at *)
      rw [eq_comm, List.all_eq_false]
      exact ⟨_, List.getElem_mem hk, by simp [*]⟩
    · (try simp only [beq_iff_eq, beq_eq_false_iff_ne, bne_iff_ne, bne_eq_false_iff_eq, decide_eq_true_eq, decide_eq_false_iff_not, ne_eq, Bool.not_eq_true, Bool.not_eq_false, Bool.not_eq_eq_eq_not, Bool.not_true, Bool.not_false, Int.not_lt, Int.not_le, ge_iff_le, gt_iff_lt] at *)
      refine hN _ _ _ (.refl _) ⟨rfl, fun i hi hik => ?_, (by first | rfl | (simp only [put_at, ↓reduceIte, Nat.reduceEqDiff]; first | done | rfl | assumption) | simp [put_at, *]), (by first | rfl | (simp only [put_at, ↓reduceIte, Nat.reduceEqDiff]; first | done | rfl | assumption) | simp [put_at, *]), (by first | rfl | (simp only [put_at, ↓reduceIte, Nat.reduceEqDiff]; first | done | rfl | assumption) | simp [put_at, *])⟩
      rcases Nat.lt_succ_iff_lt_or_eq.1 hik with hik | rfl
      · exact he i hi hik
      · assumption
  · rintro fr _ ⟨rfl, he, f0, f1, f5⟩ N
    have g0 : decide ((ss.length : Int) < (ss.length : Int)) = false := by simp
    repeat' (first | simp -implicitDefEqProofs only [zG1,zG2,zG3,zG4,zG5,zG6,zG7,eq_self,resV,rval,X.val,binv,fillL,setR,↓reduceIte,Nat.reduceEqDiff,Nat.reduceAdd,Nat.reduceMul,Nat.reduceLeDiff,Nat.reduceLT,Nat.reduceSub,reduceCtorEq,zGr, f0, f1, f5, g0] | ((with_reducible refine rows_intro (fun _ hb => ?_)); try simp only [set_none, ne_eq] at hb) | ((with_reducible refine new_intro (fun _ hb => ?_)); try simp only [set_none, ne_eq] at hb) | (with_reducible refine draw_same ?_) | ((with_reducible refine gd_split ?_ (fun _ => ?_) (fun _ => ?_)); exact rfl) | ((with_reducible refine td_split ?_ (fun _ => ?_) (fun _ => ?_)); exact rfl) | (with_reducible refine c_split (fun _ => ?_) (fun _ => ?_)))
    refine ret_same (kb h ?_)
    rw [eq_comm, List.all_eq_true]
    intro x hx
    obtain ⟨i, hi, rfl⟩ := List.getElem_of_mem hx
    exact he i hi hi
theorem okP_zero : OkP w0 0 := by
  intro s A0 c0 A1 c1 A2 c2 H K hc hv h
  obtain ⟨hE, ⟨hb1, hb2⟩, hl1, hl2⟩ := hv.parts
  have g1 : decide (((0 : Nat) : Int) < 1) = true := by decide
  refine acalls_of_sx mix Tryz.func76 of76 (by simp [ir76]) ?_; rw [ir76]; (try delta qT qI qC qO qM qG)
  repeat' (first | simp -implicitDefEqProofs only [zG1,zG2,zG3,zG4,zG5,zG6,zG7,eq_self,resV,rval,X.val,binv,fillL,setR,↓reduceIte,Nat.reduceEqDiff,Nat.reduceAdd,Nat.reduceMul,Nat.reduceLeDiff,Nat.reduceLT,Nat.reduceSub,reduceCtorEq,zGr, g1] | ((with_reducible refine rows_intro (fun _ hb => ?_)); try simp only [set_none, ne_eq] at hb) | ((with_reducible refine new_intro (fun _ hb => ?_)); try simp only [set_none, ne_eq] at hb) | (with_reducible refine draw_same ?_) | ((with_reducible refine gd_split ?_ (fun _ => ?_) (fun _ => ?_)); exact rfl) | ((with_reducible refine td_split ?_ (fun _ => ?_) (fun _ => ?_)); exact rfl) | (with_reducible refine c_split (fun _ => ?_) (fun _ => ?_)) | (with_reducible refine l11Simple_ok _ s A0 c0 A1 c1 A2 c2 _ _ (hE.le ((AHeap.le.refl H).fresh ‹_› _)) ?_))
  all_goals refine ⟨H, (by simp -implicitDefEqProofs only [le_set_true, le_refl_true, eq_self, *]), kb h ?_⟩
  all_goals (try simp only [beq_iff_eq, beq_eq_false_iff_ne, bne_iff_ne, bne_eq_false_iff_eq, decide_eq_true_eq, decide_eq_false_iff_not, ne_eq, Bool.not_eq_true, Bool.not_eq_false, Bool.not_eq_eq_eq_not, Bool.not_true, Bool.not_false, Int.not_lt, Int.not_le, ge_iff_le, gt_iff_lt] at *)
  all_goals (simp only [stOk]; grind)
theorem okP_succ (d : Nat) (hd : d ≤ 1000) (ih : BlP w0 d) : OkP w0 (d + 1) := by
  intro s A0 c0 A1 c1 A2 c2 H K hc hv h
  obtain ⟨hE, ⟨hb1, hb2⟩, hl1, hl2⟩ := hv.parts
  have hcs := s.cnt_eq
  have g1 : decide (((d + 1 : Nat) : Int) < 1) = false := by simp <;> omega
  have g2 : IntKind.i64.wrap (((d + 1 : Nat) : Int) - 1) = (d : Int) := by rw [wrap_i64 (by omega) (by omega)]; omega
  have e2 := emp St s.els
  refine acalls_of_sx mix Tryz.func76 of76 (by simp [ir76]) ?_; rw [ir76]; (try delta qT qI qC qO qM qG)
  repeat' (first | simp -implicitDefEqProofs only [zG1,zG2,zG3,zG4,zG5,zG6,zG7,eq_self,resV,rval,X.val,binv,fillL,setR,↓reduceIte,Nat.reduceEqDiff,Nat.reduceAdd,Nat.reduceMul,Nat.reduceLeDiff,Nat.reduceLT,Nat.reduceSub,reduceCtorEq,zGr, g1, g2, e2] | ((with_reducible refine rows_intro (fun _ hb => ?_)); try simp only [set_none, ne_eq] at hb) | ((with_reducible refine new_intro (fun _ hb => ?_)); try simp only [set_none, ne_eq] at hb) | (with_reducible refine draw_same ?_) | ((with_reducible refine gd_split ?_ (fun _ => ?_) (fun _ => ?_)); exact rfl) | ((with_reducible refine td_split ?_ (fun _ => ?_) (fun _ => ?_)); exact rfl) | (with_reducible refine c_split (fun _ => ?_) (fun _ => ?_)) | (with_reducible refine l11Simple_ok _ s A0 c0 A1 c1 A2 c2 _ _ (hE.le ((AHeap.le.refl H).fresh ‹_› _)) ?_) | (with_reducible refine l11Var_ok _ _ _ _ _ _ _ _ _ _ _ _ _ _ _ _ ?_) | (with_reducible refine l11Box_ok _ _ _ _ _ _ _ _ _ _ _ _ _ _ _ _ ?_) | (with_reducible refine exprValid5S_ok _ _ _ s.e A0 c0 (hE.le ((AHeap.le.refl H).fresh ‹_› _)) ?_) |
    (with_reducible refine ih s.body A1 c1 _ _ (by omega) (hb2.le ((AHeap.le.refl H).fresh ‹_› _)) ?_) | (with_reducible refine ih s.els A2 c2 _ _ (by omega) (hl2.le ((AHeap.le.refl H).fresh ‹_› _)) ?_))
  all_goals refine ⟨H, (by simp -implicitDefEqProofs only [le_set_true, le_refl_true, eq_self, *]), kb h ?_⟩
  all_goals clear h hv hE hb2 hl2 ih
  all_goals (try simp only [beq_iff_eq, beq_eq_false_iff_ne, bne_iff_ne, bne_eq_false_iff_eq, decide_eq_true_eq, decide_eq_false_iff_not, ne_eq, Bool.not_eq_true, Bool.not_eq_false, Bool.not_eq_eq_eq_not, Bool.not_true, Bool.not_false, Int.not_lt, Int.not_le, ge_iff_le, gt_iff_lt] at *)
  all_goals (simp only [stOk, stBlock]; grind)
theorem okP : ∀ d, d ≤ 1000 → OkP w0 d
  | 0, _ => okP_zero w0
  | d + 1, h => okP_succ w0 d (by omega) (blP_of w0 d (okP d (by omega)))
theorem l11Blocks_ok (d : Nat) (hd : d ≤ 1000) : BlP w0 d := blP_of w0 d (okP w0 d hd)
theorem l11Blocks3_ok (ss : List St) (A : Option Addr) (c : Nat) (H : AHeap) (K : Value → AHeap → Prop) (hc : cntL ss ≤ 1099511627776) (hR : StR H ss A 0) (h : K (.bool (ss.all (stOk 3))) H) :
    ACalls Tryz.prog w0 69 [.slice A ss.length c, .int .i64 3] H K := l11Blocks_ok w0 3 (by decide) ss A c H K hc hR h
abbrev CtP (ss : List St) : Prop := ∀ (A : Option Addr) (c : Nat) (H : AHeap) (K : Value → AHeap → Prop), cntL ss ≤ 1099511627776 →
  StR H ss A 0 → K (.int .i64 (cntL ss)) H → ACalls Tryz.prog w0 64 [.slice A ss.length c] H K
theorem ctP_of (ss : List St) (ih : ∀ s ∈ ss, CtP w0 s.body ∧ CtP w0 s.els) : CtP w0 ss := by
  intro A c H K hc hR h
  have hl := cntL_len ss
  refine acalls_of_sx mix Tryz.func64 of64 (by simp [ir64]) ?_; rw [ir64]; (try delta qT qI qC qO qM qG)
  repeat' (first | simp -implicitDefEqProofs only [zG1,zG2,zG3,zG4,zG5,zG6,zG7,eq_self,resV,rval,X.val,binv,fillL,setR,↓reduceIte,Nat.reduceEqDiff,Nat.reduceAdd,Nat.reduceMul,Nat.reduceLeDiff,Nat.reduceLT,Nat.reduceSub,reduceCtorEq,zGr] | ((with_reducible refine rows_intro (fun _ hb => ?_)); try simp only [set_none, ne_eq] at hb) | ((with_reducible refine new_intro (fun _ hb => ?_)); try simp only [set_none, ne_eq] at hb) | (with_reducible refine draw_same ?_) | ((with_reducible refine gd_split ?_ (fun _ => ?_) (fun _ => ?_)); exact rfl) | ((with_reducible refine td_split ?_ (fun _ => ?_) (fun _ => ?_)); exact rfl) | (with_reducible refine c_split (fun _ => ?_) (fun _ => ?_)))
  refine for_rule ss.length (fun k fr C => C = H ∧ fr 0 = .slice A ss.length c ∧ fr 3 = .int .i64 (cntL (ss.take k)) ∧ fr 4 = .int .i64 k)
    ⟨rfl, rfl, by simp [cntL, put_at], rfl⟩ ?_ ?_
  · rintro k fr _ hk ⟨rfl, f0, f3, f4⟩ N hN
    have g0 := lt_dec hk
    have g1 := rng hk
    have g2 := up1 hk (by omega)
    obtain ⟨gA, a0, d0, a1, d1, a2, d2, gp, hx⟩ := hR.arg hk
    obtain ⟨_, ⟨_, hb⟩, _, hl⟩ := hx.parts
    have hct := cntL_at hk
    have hcs := ss[k].cnt_eq
    have hst := cntL_take hk
    have hle := cntL_le (ss := ss) (k + 1)
    obtain ⟨ih1, ih2⟩ := ih ss[k] (List.getElem_mem hk)
    have w1 : IntKind.i64.wrap ((cntL (ss.take k) : Int) + 1) = (cntL (ss.take k) : Int) + 1 := wrap_i64 (by omega) (by omega)
    have w2 : IntKind.i64.wrap ((cntL (ss.take k) : Int) + 1 + (cntL ss[k].body : Int)) = (cntL (ss.take k) : Int) + 1 + (cntL ss[k].body : Int) := wrap_i64 (by omega) (by omega)
    have w3 : IntKind.i64.wrap ((cntL (ss.take k) : Int) + 1 + (cntL ss[k].body : Int) + (cntL ss[k].els : Int)) = (cntL (ss.take (k + 1)) : Int) := by rw [wrap_i64 (by omega) (by omega)]; omega
    repeat' (first | simp -implicitDefEqProofs only [zG1,zG2,zG3,zG4,zG5,zG6,zG7,eq_self,resV,rval,X.val,binv,fillL,setR,↓reduceIte,Nat.reduceEqDiff,Nat.reduceAdd,Nat.reduceMul,Nat.reduceLeDiff,Nat.reduceLT,Nat.reduceSub,reduceCtorEq,zGr, f0, f3, f4, g0, g1, g2, w1, w2, w3, gA, gp, Nat.add_zero] | ((with_reducible refine rows_intro (fun _ hb => ?_)); try simp only [set_none, ne_eq] at hb) | ((with_reducible refine new_intro (fun _ hb => ?_)); try simp only [set_none, ne_eq] at hb) | (with_reducible refine draw_same ?_) | ((with_reducible refine gd_split ?_ (fun _ => ?_) (fun _ => ?_)); exact rfl) | ((with_reducible refine td_split ?_ (fun _ => ?_) (fun _ => ?_)); exact rfl) | (with_reducible refine c_split (fun _ => ?_) (fun _ => ?_)) | (with_reducible refine ih1 a1 d1 _ _ (by omega) hb ?_) | (with_reducible refine ih2 a2 d2 _ _ (by omega) hl ?_))
    all_goals exact hN _ _ _ (.refl _) ⟨rfl, (by first | rfl | (simp only [put_at, ↓reduceIte, Nat.reduceEqDiff]; first | done | rfl | assumption) | simp [put_at, *]), (by first | rfl | (simp only [put_at, ↓reduceIte, Nat.reduceEqDiff]; first | done | rfl | assumption) | simp [put_at, *]), (by first | rfl | (simp only [put_at, ↓reduceIte, Nat.reduceEqDiff]; first | done | rfl | assumption) | simp [put_at, *])⟩
  · rintro fr _ ⟨rfl, f0, f3, f4⟩ N
    have g0 : decide ((ss.length : Int) < (ss.length : Int)) = false := by simp
    rw [List.take_length] at f3
    repeat' (first | simp -implicitDefEqProofs only [zG1,zG2,zG3,zG4,zG5,zG6,zG7,eq_self,resV,rval,X.val,binv,fillL,setR,↓reduceIte,Nat.reduceEqDiff,Nat.reduceAdd,Nat.reduceMul,Nat.reduceLeDiff,Nat.reduceLT,Nat.reduceSub,reduceCtorEq,zGr, f0, f3, f4, g0] | ((with_reducible refine rows_intro (fun _ hb => ?_)); try simp only [set_none, ne_eq] at hb) | ((with_reducible refine new_intro (fun _ hb => ?_)); try simp only [set_none, ne_eq] at hb) | (with_reducible refine draw_same ?_) | ((with_reducible refine gd_split ?_ (fun _ => ?_) (fun _ => ?_)); exact rfl) | ((with_reducible refine td_split ?_ (fun _ => ?_) (fun _ => ?_)); exact rfl) | (with_reducible refine c_split (fun _ => ?_) (fun _ => ?_)))
    exact ret_same h
mutual
theorem ctS_ok : ∀ s : St, CtP w0 s.body ∧ CtP w0 s.els
  | .mk k v b e body els => ⟨ctP_of w0 body (ctL_ok body), ctP_of w0 els (ctL_ok els)⟩
theorem ctL_ok : ∀ ss : List St, ∀ s ∈ ss, CtP w0 s.body ∧ CtP w0 s.els
  | [], s, h => by cases h
  | x :: xs, s, h => by
    rcases List.mem_cons.1 h with h | h
    · rw [h]; exact ctS_ok x
    · exact ctL_ok xs s h
end
theorem l11Count_ok (ss : List St) : CtP w0 ss := ctP_of w0 ss (ctL_ok w0 ss)
theorem stmtsValidS_ok (ss : List St) (A : Option Addr) (c : Nat) (H : AHeap) (K : Value → AHeap → Prop) (hc : cntL ss ≤ 1099511627776) (hR : StR H ss A 0) (h : K (.bool (stsOk ss)) H) :
    ACalls Tryz.prog w0 61 [.slice A ss.length c] H K := by
  refine acalls_of_sx mix Tryz.func61 of61 (by simp [ir61]) ?_; rw [ir61]; (try delta qT qI qC qO qM qG)
  repeat' (first | simp -implicitDefEqProofs only [zG1,zG2,zG3,zG4,zG5,zG6,zG7,eq_self,resV,rval,X.val,binv,fillL,setR,↓reduceIte,Nat.reduceEqDiff,Nat.reduceAdd,Nat.reduceMul,Nat.reduceLeDiff,Nat.reduceLT,Nat.reduceSub,reduceCtorEq,zGr] | ((with_reducible refine rows_intro (fun _ hb => ?_)); try simp only [set_none, ne_eq] at hb) | ((with_reducible refine new_intro (fun _ hb => ?_)); try simp only [set_none, ne_eq] at hb) | (with_reducible refine draw_same ?_) | ((with_reducible refine gd_split ?_ (fun _ => ?_) (fun _ => ?_)); exact rfl) | ((with_reducible refine td_split ?_ (fun _ => ?_) (fun _ => ?_)); exact rfl) | (with_reducible refine c_split (fun _ => ?_) (fun _ => ?_)) | (with_reducible refine l11Blocks3_ok _ ss A c _ _ hc hR ?_) | (with_reducible refine l11Count_ok _ ss A c _ _ hc hR ?_))
  all_goals refine ret_same (kb h ?_)
  all_goals (try simp only [beq_iff_eq, beq_eq_false_iff_ne, bne_iff_ne, bne_eq_false_iff_eq, decide_eq_true_eq, decide_eq_false_iff_not, ne_eq, Bool.not_eq_true, Bool.not_eq_false, Bool.not_eq_eq_eq_not, Bool.not_true, Bool.not_false, Int.not_lt, Int.not_le, ge_iff_le, gt_iff_lt] at *)
  all_goals (simp only [stsOk]; grind)
end Go.Proofs.YtodhkodhndbpmaaGreat
namespace Go.Proofs.YtodhkodhndbpmaaGreat
set_option linter.all false
open Go Go.RowKit
set_option maxRecDepth 100000
variable (w0 : World)
def pB : Nat → Nat
  | 0 => 64
  | d + 1 => 4 * pB d + 64
def cB : Nat → Nat
  | 0 => 1
  | d + 1 => 4 * cB d + 3
theorem pB_ge : ∀ d, 64 ≤ pB d
  | 0 => Nat.le_refl _
  | d + 1 => by simp only [pB]; omega
theorem cB_ge : ∀ d, 1 ≤ cB d
  | 0 => Nat.le_refl _
  | d + 1 => by simp only [cB]; omega
theorem cB_le {d : Nat} (h : d ≤ 3) : cB d ≤ 200 := by
  have e0 : cB 0 = 1 := rfl
  have e1 : cB 1 = 7 := rfl
  have e2 : cB 2 = 31 := rfl
  have e3 : cB 3 = 127 := rfl
  match d, h with
  | 0, _ | 1, _ | 2, _ | 3, _ => omega
/-- The cells of a statement before anything is set. -/
abbrev z8 : List Value := [.int .i64 0, .int .i64 0, .int .i64 0, .int .i64 0, .int .i64 0, .slice none 0 0, .slice none 0 0, .slice none 0 0]
abbrev Pt8 (C : AHeap) (x : Nat) (v0 v1 v2 v3 v4 v5 v6 v7 : Value) : Prop :=
  C.cell (some ⟨x, 0, none⟩) = some v0 ∧ C.cell (some ⟨x, 1, none⟩) = some v1 ∧ C.cell (some ⟨x, 2, none⟩) = some v2 ∧ C.cell (some ⟨x, 3, none⟩) = some v3 ∧ C.cell (some ⟨x, 4, none⟩) = some v4 ∧ C.cell (some ⟨x, 5, none⟩) = some v5 ∧ C.cell (some ⟨x, 6, none⟩) = some v6 ∧ C.cell (some ⟨x, 7, none⟩) = some v7
theorem finS {S : Src} {H C : AHeap} {b x : Nat} {p q : Int} {t : TypeId} {cc : Nat} {K D : Value → AHeap → Prop} {zs : List Value} (k v bx : Int) (e : Ex) (n1 n2 : Nat) (A0 : Option Addr) (c0 : Nat) (A1 : Option Addr) (c1 : Nat) (A2 : Option Addr) (c2 : Nat)
    (hz : zs.length = 8) (hx : H x = none) (hk : Kn C x ⟨zs, true, t, cc⟩) (hr0 : RdK S H b p) (hrc : RdK S C b q) (hd : Dr H C b) (hK : ∀ C', Chg C C' [x] → RdK S C' b q → Dr H C' b → K (stv k v bx e n1 n2 A0 c0 A1 c1 A2 c2) C')
    (hD : ∀ C', Chg C C' [x] → Pt8 C' x (.int .i64 k) (.int .i64 v) (.int .i64 bx) (.int .i64 e.op) (.int .i64 e.n) (.slice A0 e.args.length c0) (.slice A1 n1 c1) (.slice A2 n2 c2) → K (stv k v bx e n1 n2 A0 c0 A1 c1 A2 c2) C' → D undef C') :
    stK 8 (.pointer (some ⟨x, 0, none⟩)) (stv k v bx e n1 n2 A0 c0 A1 c1 A2 c2) D C := by
  match zs, hz with
  | [z0, z1, z2, z3, z4, z5, z6, z7], _ =>
    refine st_kn8 hk (by simp [ocI, ocS]) (fun C' hc k cs => ?_)
    have hbx : ¬ b ∈ [x] := by
      simp only [List.mem_cons, List.not_mem_nil, or_false]
      rintro rfl; exact hr0.ne hx
    have d' := hd.chg hc (New.one hx)
    exact hD C' hc cs (hK C' hc (hrc.chg hc hbx hr0.fl d'.le) d')
theorem nat3 {v : Int} (h0 : 0 ≤ v) : ∃ j : Nat, v = j := ⟨v.toNat, by omega⟩
theorem one_add {j : Nat} (h : j ≤ 1000) : IntKind.i64.wrap (1 + (j : Int)) = ((1 + j : Nat) : Int) := by rw [wrap_i64 (by omega) (by omega)]; omega
theorem stv_simple (H : AHeap) (k v bx : Int) {e : Ex} {A0 : Option Addr} {c0 : Nat} (hE : ExV H e [.int .i64 e.op, .int .i64 e.n, .slice A0 e.args.length c0]) : StV H (.mk k v bx e [] []) (stc k v bx e 0 0 A0 c0 none 0 none 0) := by
  obtain ⟨B0, d0, he, h1, h2⟩ := hE.open_
  simp only [List.cons.injEq, Value.slice.injEq, true_and, and_true] at he
  obtain ⟨rfl, rfl⟩ := he
  simp only [StV]
  exact ⟨_, _, _, _, _, _, rfl, h1, h2, ⟨Nat.zero_le _, by simp only [StR]⟩, Nat.zero_le _, by simp only [StR]⟩
def plain0 : Ex := .mk 0 0 []
section
variable {S : Src} {b : Nat} {H : AHeap} {p : Int} (K : Value → AHeap → Prop)
/-- What a draw of one statement owes. -/
abbrev Out1 (S : Src) (b : Nat) (H : AHeap) (p : Int) (d : Nat) (cm pm : Nat) (K : Value → AHeap → Prop) : Prop :=
  ∀ (s : St) (A0 : Option Addr) (c0 : Nat) (A1 : Option Addr) (c1 : Nat) (A2 : Option Addr) (c2 : Nat) (C' : AHeap) (p' : Int), RdK S C' b p' → Dr H C' b → StV (C'.off H) s (stc s.kind s.var s.box s.e s.body.length s.els.length A0 c0 A1 c1 A2 c2) →
    stOk d s = true → s.cnt ≤ cm → p ≤ p' → p' ≤ p + pm → K (stv s.kind s.var s.box s.e s.body.length s.els.length A0 c0 A1 c1 A2 c2) C'
theorem ok_simple {d : Nat} {s : St} (h2 : s.kind ≠ 2) (h3 : s.kind ≠ 3) (h : stSimple s = true) : stOk d s = true := by
  cases d <;> (simp only [stOk]; rw [if_neg (by omega)]; exact h)
theorem l92Set_ok (hr : RdK S H b p) (h0 : 0 ≤ p) (h1 : p ≤ 1099511610000) (d : Nat) (h : Out1 S b H p d 1 47 K) : ACalls Tryz.prog w0 80 [.pointer (some ⟨b, 0, none⟩)] H K := by
  refine acalls_of_sx mix Tryz.func80 of80 (by simp [ir80]) ?_; rw [ir80]; (try delta qT qI qC qO qM qG)
  repeat' (first | simp -implicitDefEqProofs only [zG1,zG2,zG3,zG4,zG5,zG6,zG7,eq_self,resV,rval,X.val,binv,fillL,setR,↓reduceIte,Nat.reduceEqDiff,Nat.reduceAdd,Nat.reduceMul,Nat.reduceLeDiff,Nat.reduceLT,Nat.reduceSub,reduceCtorEq,zGq] | ((with_reducible refine rows_intro (fun _ hb => ?_)); try simp only [set_none, ne_eq] at hb) | ((with_reducible refine new_intro (fun _ hb => ?_)); try simp only [set_none, ne_eq] at hb) | (with_reducible refine draw_same ?_) | ((with_reducible refine gd_split ?_ (fun _ => ?_) (fun _ => ?_)); exact rfl) | ((with_reducible refine td_split ?_ (fun _ => ?_) (fun _ => ?_)); exact rfl) | (with_reducible refine c_split (fun _ => ?_) (fun _ => ?_)))
  rename_i x
  have hx := hb
  have hxb : ¬ x = b := by rintro rfl; exact hr.ne hx
  have l1 := (AHeap.le.refl H).fresh hx ⟨z8, true, 75, 8⟩
  refine pickK_ok _ _ (hr.fresh hx _) 3 (by omega) (by omega) (by decide) (fun v C1 r1 d1 hv0 hv1 => ?_)
  have d1' := (hr.dr l1).trans d1
  have k1 := d1.kn (Kn.same H x ⟨z8, true, 75, 8⟩) hxb
  repeat' (first | simp -implicitDefEqProofs only [zG1,zG2,zG3,zG4,zG5,zG6,zG7,eq_self,resV,rval,X.val,binv,fillL,setR,↓reduceIte,Nat.reduceEqDiff,Nat.reduceAdd,Nat.reduceMul,Nat.reduceLeDiff,Nat.reduceLT,Nat.reduceSub,reduceCtorEq,zGq] | ((with_reducible refine rows_intro (fun _ hb => ?_)); try simp only [set_none, ne_eq] at hb) | ((with_reducible refine new_intro (fun _ hb => ?_)); try simp only [set_none, ne_eq] at hb) | (with_reducible refine draw_same ?_) | ((with_reducible refine gd_split ?_ (fun _ => ?_) (fun _ => ?_)); exact rfl) | ((with_reducible refine td_split ?_ (fun _ => ?_) (fun _ => ?_)); exact rfl) | (with_reducible refine c_split (fun _ => ?_) (fun _ => ?_)))
  refine pickK_ok _ _ r1 3 (by omega) (by omega) (by decide) (fun u C2 r2 d2 hu0 hu1 => ?_)
  have d2' := d1'.trans d2
  have k2 := d2.kn k1 hxb
  obtain ⟨j, rfl⟩ := nat3 hu0
  have w1 := one_add (j := j) (by omega)
  have hT : drT (1 + j) ≤ 45 := by
    have : j < 3 := by omega
    match j, this with
    | 0, _ | 1, _ | 2, _ => decide
  repeat' (first | simp -implicitDefEqProofs only [zG1,zG2,zG3,zG4,zG5,zG6,zG7,eq_self,resV,rval,X.val,binv,fillL,setR,↓reduceIte,Nat.reduceEqDiff,Nat.reduceAdd,Nat.reduceMul,Nat.reduceLeDiff,Nat.reduceLT,Nat.reduceSub,reduceCtorEq,zGq, w1] | ((with_reducible refine rows_intro (fun _ hb => ?_)); try simp only [set_none, ne_eq] at hb) | ((with_reducible refine new_intro (fun _ hb => ?_)); try simp only [set_none, ne_eq] at hb) | (with_reducible refine draw_same ?_) | ((with_reducible refine gd_split ?_ (fun _ => ?_) (fun _ => ?_)); exact rfl) | ((with_reducible refine td_split ?_ (fun _ => ?_) (fun _ => ?_)); exact rfl) | (with_reducible refine c_split (fun _ => ?_) (fun _ => ?_)))
  refine l91Expr_ok _ (1 + j) _ _ _ (by omega) r2 (by omega) (by omega) (fun e A c C3 p3 r3 d3 he hE hp0 hp1 => ?_)
  repeat' (first | simp -implicitDefEqProofs only [zG1,zG2,zG3,zG4,zG5,zG6,zG7,eq_self,resV,rval,X.val,binv,fillL,setR,↓reduceIte,Nat.reduceEqDiff,Nat.reduceAdd,Nat.reduceMul,Nat.reduceLeDiff,Nat.reduceLT,Nat.reduceSub,reduceCtorEq,zGq] | ((with_reducible refine rows_intro (fun _ hb => ?_)); try simp only [set_none, ne_eq] at hb) | ((with_reducible refine new_intro (fun _ hb => ?_)); try simp only [set_none, ne_eq] at hb) | (with_reducible refine draw_same ?_) | ((with_reducible refine gd_split ?_ (fun _ => ?_) (fun _ => ?_)); exact rfl) | ((with_reducible refine td_split ?_ (fun _ => ?_) (fun _ => ?_)); exact rfl) | (with_reducible refine c_split (fun _ => ?_) (fun _ => ?_)))
  have he5 : exprOk 5 e = true := ok_up5 (show max (1 + j) 1 ≤ 5 by omega) he
  refine finS (K := K) 1 v 0 e 0 0 A c none 0 none 0 rfl hx (d3.kn k2 hxb) hr r3 (d2'.trans d3) (fun C4 hc r4 d4 => ?_) (fun C4 hc cs hK => ?_)
  · refine h (.mk 1 v 0 e [] []) A c none 0 none 0 C4 p3 r4 d4 (stv_simple _ _ _ _ (hE.le (d2'.off_chg hc (by simpa using k2.ne)))) (ok_simple (by simp [St.kind]) (by simp [St.kind]) ?_) (by simp [St.cnt, cntL]) (by omega) (by omega)
    have : v ≤ 3 := by omega
    simp only [stSimple, St.kind, St.var, St.box, St.e, St.body, St.els, List.isEmpty_nil, Bool.true_and, if_true]
    rw [he5]
    simp [hv0, this]
  · repeat' (first | simp -implicitDefEqProofs only [zG1,zG2,zG3,zG4,zG5,zG6,zG7,eq_self,resV,rval,X.val,binv,fillL,setR,↓reduceIte,Nat.reduceEqDiff,Nat.reduceAdd,Nat.reduceMul,Nat.reduceLeDiff,Nat.reduceLT,Nat.reduceSub,reduceCtorEq,zGq, cs] | ((with_reducible refine rows_intro (fun _ hb => ?_)); try simp only [set_none, ne_eq] at hb) | ((with_reducible refine new_intro (fun _ hb => ?_)); try simp only [set_none, ne_eq] at hb) | (with_reducible refine draw_same ?_) | ((with_reducible refine gd_split ?_ (fun _ => ?_) (fun _ => ?_)); exact rfl) | ((with_reducible refine td_split ?_ (fun _ => ?_) (fun _ => ?_)); exact rfl) | (with_reducible refine c_split (fun _ => ?_) (fun _ => ?_)))
    exact ret_same hK
theorem l92Talk_ok (hr : RdK S H b p) (B : Int) (hB : B ≤ 3) (h0 : 0 ≤ p) (h1 : p ≤ 1099511610000) (d : Nat) (h : Out1 S b H p d 1 49 K) : ACalls Tryz.prog w0 83 [.pointer (some ⟨b, 0, none⟩), .int .i64 B] H K := by
  by_cases hB1 : B < 1
  · have g1 : decide (B < 1) = true := by simpa using hB1
    refine acalls_of_sx mix Tryz.func83 of83 (by simp [ir83]) ?_; rw [ir83]; (try delta qT qI qC qO qM qG)
    repeat' (first | simp -implicitDefEqProofs only [zG1,zG2,zG3,zG4,zG5,zG6,zG7,eq_self,resV,rval,X.val,binv,fillL,setR,↓reduceIte,Nat.reduceEqDiff,Nat.reduceAdd,Nat.reduceMul,Nat.reduceLeDiff,Nat.reduceLT,Nat.reduceSub,reduceCtorEq,zGq, g1] | ((with_reducible refine rows_intro (fun _ hb => ?_)); try simp only [set_none, ne_eq] at hb) | ((with_reducible refine new_intro (fun _ hb => ?_)); try simp only [set_none, ne_eq] at hb) | (with_reducible refine draw_same ?_) | ((with_reducible refine gd_split ?_ (fun _ => ?_) (fun _ => ?_)); exact rfl) | ((with_reducible refine td_split ?_ (fun _ => ?_) (fun _ => ?_)); exact rfl) | (with_reducible refine c_split (fun _ => ?_) (fun _ => ?_)))
    rename_i x
    have hx := hb
    have hxb : ¬ x = b := by rintro rfl; exact hr.ne hx
    have l1 := (AHeap.le.refl H).fresh hx ⟨z8, true, 75, 8⟩
    refine l92Set_ok _ _ (hr.fresh hx _) h0 h1 d (fun s A0 c0 A1 c1 A2 c2 C1 p1 r1 d1 hs ho hc hp0 hp1 => ?_)
    repeat' (first | simp -implicitDefEqProofs only [zG1,zG2,zG3,zG4,zG5,zG6,zG7,eq_self,resV,rval,X.val,binv,fillL,setR,↓reduceIte,Nat.reduceEqDiff,Nat.reduceAdd,Nat.reduceMul,Nat.reduceLeDiff,Nat.reduceLT,Nat.reduceSub,reduceCtorEq,zGq] | ((with_reducible refine rows_intro (fun _ hb => ?_)); try simp only [set_none, ne_eq] at hb) | ((with_reducible refine new_intro (fun _ hb => ?_)); try simp only [set_none, ne_eq] at hb) | (with_reducible refine draw_same ?_) | ((with_reducible refine gd_split ?_ (fun _ => ?_) (fun _ => ?_)); exact rfl) | ((with_reducible refine td_split ?_ (fun _ => ?_) (fun _ => ?_)); exact rfl) | (with_reducible refine c_split (fun _ => ?_) (fun _ => ?_)))
    refine finS (K := K) s.kind s.var s.box s.e s.body.length s.els.length A0 c0 A1 c1 A2 c2 rfl hx (d1.kn (Kn.same H x ⟨z8, true, 75, 8⟩) hxb) hr r1 ((hr.dr l1).trans d1) (fun C4 hc4 r4 d4 => ?_) (fun C4 hc4 cs hK => ?_)
    · exact h s A0 c0 A1 c1 A2 c2 C4 p1 r4 d4 (hs.le ((hr.dr l1).off_chg hc4 (by simp [set_same]))) ho hc hp0 (by omega)
    · repeat' (first | simp -implicitDefEqProofs only [zG1,zG2,zG3,zG4,zG5,zG6,zG7,eq_self,resV,rval,X.val,binv,fillL,setR,↓reduceIte,Nat.reduceEqDiff,Nat.reduceAdd,Nat.reduceMul,Nat.reduceLeDiff,Nat.reduceLT,Nat.reduceSub,reduceCtorEq,zGq, cs] | ((with_reducible refine rows_intro (fun _ hb => ?_)); try simp only [set_none, ne_eq] at hb) | ((with_reducible refine new_intro (fun _ hb => ?_)); try simp only [set_none, ne_eq] at hb) | (with_reducible refine draw_same ?_) | ((with_reducible refine gd_split ?_ (fun _ => ?_) (fun _ => ?_)); exact rfl) | ((with_reducible refine td_split ?_ (fun _ => ?_) (fun _ => ?_)); exact rfl) | (with_reducible refine c_split (fun _ => ?_) (fun _ => ?_)))
      exact ret_same hK
  · have g1 : decide (B < 1) = false := by simp; omega
    refine acalls_of_sx mix Tryz.func83 of83 (by simp [ir83]) ?_; rw [ir83]; (try delta qT qI qC qO qM qG)
    repeat' (first | simp -implicitDefEqProofs only [zG1,zG2,zG3,zG4,zG5,zG6,zG7,eq_self,resV,rval,X.val,binv,fillL,setR,↓reduceIte,Nat.reduceEqDiff,Nat.reduceAdd,Nat.reduceMul,Nat.reduceLeDiff,Nat.reduceLT,Nat.reduceSub,reduceCtorEq,zGq, g1] | ((with_reducible refine rows_intro (fun _ hb => ?_)); try simp only [set_none, ne_eq] at hb) | ((with_reducible refine new_intro (fun _ hb => ?_)); try simp only [set_none, ne_eq] at hb) | (with_reducible refine draw_same ?_) | ((with_reducible refine gd_split ?_ (fun _ => ?_) (fun _ => ?_)); exact rfl) | ((with_reducible refine td_split ?_ (fun _ => ?_) (fun _ => ?_)); exact rfl) | (with_reducible refine c_split (fun _ => ?_) (fun _ => ?_)))
    rename_i x
    have hx := hb
    have hxb : ¬ x = b := by rintro rfl; exact hr.ne hx
    have l1 := (AHeap.le.refl H).fresh hx ⟨z8, true, 75, 8⟩
    refine pickK_ok _ _ (hr.fresh hx _) B (by omega) (by omega) (by omega) (fun v C1 r1 d1 hv0 hv1 => ?_)
    have d1' := (hr.dr l1).trans d1
    have k1 := d1.kn (Kn.same H x ⟨z8, true, 75, 8⟩) hxb
    repeat' (first | simp -implicitDefEqProofs only [zG1,zG2,zG3,zG4,zG5,zG6,zG7,eq_self,resV,rval,X.val,binv,fillL,setR,↓reduceIte,Nat.reduceEqDiff,Nat.reduceAdd,Nat.reduceMul,Nat.reduceLeDiff,Nat.reduceLT,Nat.reduceSub,reduceCtorEq,zGq] | ((with_reducible refine rows_intro (fun _ hb => ?_)); try simp only [set_none, ne_eq] at hb) | ((with_reducible refine new_intro (fun _ hb => ?_)); try simp only [set_none, ne_eq] at hb) | (with_reducible refine draw_same ?_) | ((with_reducible refine gd_split ?_ (fun _ => ?_) (fun _ => ?_)); exact rfl) | ((with_reducible refine td_split ?_ (fun _ => ?_) (fun _ => ?_)); exact rfl) | (with_reducible refine c_split (fun _ => ?_) (fun _ => ?_)))
    refine pickK_ok _ _ r1 2 (by omega) (by omega) (by decide) (fun u C2 r2 d2 hu0 hu1 => ?_)
    have d2' := d1'.trans d2
    have k2 := d2.kn k1 hxb
    repeat' (first | simp -implicitDefEqProofs only [zG1,zG2,zG3,zG4,zG5,zG6,zG7,eq_self,resV,rval,X.val,binv,fillL,setR,↓reduceIte,Nat.reduceEqDiff,Nat.reduceAdd,Nat.reduceMul,Nat.reduceLeDiff,Nat.reduceLT,Nat.reduceSub,reduceCtorEq,zGq] | ((with_reducible refine rows_intro (fun _ hb => ?_)); try simp only [set_none, ne_eq] at hb) | ((with_reducible refine new_intro (fun _ hb => ?_)); try simp only [set_none, ne_eq] at hb) | (with_reducible refine draw_same ?_) | ((with_reducible refine gd_split ?_ (fun _ => ?_) (fun _ => ?_)); exact rfl) | ((with_reducible refine td_split ?_ (fun _ => ?_) (fun _ => ?_)); exact rfl) | (with_reducible refine c_split (fun _ => ?_) (fun _ => ?_)))
    · refine pickK_ok _ _ r2 3 (by omega) (by omega) (by decide) (fun u2 C3 r3 d3 hw0 hw1 => ?_)
      have d3' := d2'.trans d3
      have k3 := d3.kn k2 hxb
      obtain ⟨j, rfl⟩ := nat3 hw0
      have w1 := one_add (j := j) (by omega)
      have hT : drT (1 + j) ≤ 45 := by
        have : j < 3 := by omega
        match j, this with
        | 0, _ | 1, _ | 2, _ => decide
      repeat' (first | simp -implicitDefEqProofs only [zG1,zG2,zG3,zG4,zG5,zG6,zG7,eq_self,resV,rval,X.val,binv,fillL,setR,↓reduceIte,Nat.reduceEqDiff,Nat.reduceAdd,Nat.reduceMul,Nat.reduceLeDiff,Nat.reduceLT,Nat.reduceSub,reduceCtorEq,zGq, w1] | ((with_reducible refine rows_intro (fun _ hb => ?_)); try simp only [set_none, ne_eq] at hb) | ((with_reducible refine new_intro (fun _ hb => ?_)); try simp only [set_none, ne_eq] at hb) | (with_reducible refine draw_same ?_) | ((with_reducible refine gd_split ?_ (fun _ => ?_) (fun _ => ?_)); exact rfl) | ((with_reducible refine td_split ?_ (fun _ => ?_) (fun _ => ?_)); exact rfl) | (with_reducible refine c_split (fun _ => ?_) (fun _ => ?_)))
      refine l91Expr_ok _ (1 + j) _ _ _ (by omega) r3 (by omega) (by omega) (fun e A c C4 p4 r4 d4 he hE hp0 hp1 => ?_)
      repeat' (first | simp -implicitDefEqProofs only [zG1,zG2,zG3,zG4,zG5,zG6,zG7,eq_self,resV,rval,X.val,binv,fillL,setR,↓reduceIte,Nat.reduceEqDiff,Nat.reduceAdd,Nat.reduceMul,Nat.reduceLeDiff,Nat.reduceLT,Nat.reduceSub,reduceCtorEq,zGq] | ((with_reducible refine rows_intro (fun _ hb => ?_)); try simp only [set_none, ne_eq] at hb) | ((with_reducible refine new_intro (fun _ hb => ?_)); try simp only [set_none, ne_eq] at hb) | (with_reducible refine draw_same ?_) | ((with_reducible refine gd_split ?_ (fun _ => ?_) (fun _ => ?_)); exact rfl) | ((with_reducible refine td_split ?_ (fun _ => ?_) (fun _ => ?_)); exact rfl) | (with_reducible refine c_split (fun _ => ?_) (fun _ => ?_)))
      have he5 : exprOk 5 e = true := ok_up5 (show max (1 + j) 1 ≤ 5 by omega) he
      refine finS (K := K) 4 0 v e 0 0 A c none 0 none 0 rfl hx (d4.kn k3 hxb) hr r4 (d3'.trans d4) (fun C5 hc r5 d5 => ?_) (fun C5 hc cs hK => ?_)
      · refine h (.mk 4 0 v e [] []) A c none 0 none 0 C5 p4 r5 d5 (stv_simple _ _ _ _ (hE.le (d3'.off_chg hc (by simpa using k3.ne)))) (ok_simple (by simp [St.kind]) (by simp [St.kind]) ?_) (by simp [St.cnt, cntL]) (by omega) (by omega)
        have : v ≤ 2 := by omega
        simp only [stSimple, St.kind, St.var, St.box, St.e, St.body, St.els, List.isEmpty_nil, Bool.true_and]
        rw [he5]
        simp [hv0, this]
      · repeat' (first | simp -implicitDefEqProofs only [zG1,zG2,zG3,zG4,zG5,zG6,zG7,eq_self,resV,rval,X.val,binv,fillL,setR,↓reduceIte,Nat.reduceEqDiff,Nat.reduceAdd,Nat.reduceMul,Nat.reduceLeDiff,Nat.reduceLT,Nat.reduceSub,reduceCtorEq,zGq, cs] | ((with_reducible refine rows_intro (fun _ hb => ?_)); try simp only [set_none, ne_eq] at hb) | ((with_reducible refine new_intro (fun _ hb => ?_)); try simp only [set_none, ne_eq] at hb) | (with_reducible refine draw_same ?_) | ((with_reducible refine gd_split ?_ (fun _ => ?_) (fun _ => ?_)); exact rfl) | ((with_reducible refine td_split ?_ (fun _ => ?_) (fun _ => ?_)); exact rfl) | (with_reducible refine c_split (fun _ => ?_) (fun _ => ?_)))
        exact ret_same hK
    · refine pickK_ok _ _ r2 3 (by omega) (by omega) (by decide) (fun u2 C3 r3 d3 hw0 hw1 => ?_)
      repeat' (first | simp -implicitDefEqProofs only [zG1,zG2,zG3,zG4,zG5,zG6,zG7,eq_self,resV,rval,X.val,binv,fillL,setR,↓reduceIte,Nat.reduceEqDiff,Nat.reduceAdd,Nat.reduceMul,Nat.reduceLeDiff,Nat.reduceLT,Nat.reduceSub,reduceCtorEq,zGq] | ((with_reducible refine rows_intro (fun _ hb => ?_)); try simp only [set_none, ne_eq] at hb) | ((with_reducible refine new_intro (fun _ hb => ?_)); try simp only [set_none, ne_eq] at hb) | (with_reducible refine draw_same ?_) | ((with_reducible refine gd_split ?_ (fun _ => ?_) (fun _ => ?_)); exact rfl) | ((with_reducible refine td_split ?_ (fun _ => ?_) (fun _ => ?_)); exact rfl) | (with_reducible refine c_split (fun _ => ?_) (fun _ => ?_)))
      refine finS (K := K) 5 u2 v plain0 0 0 none 0 none 0 none 0 rfl hx (d3.kn k2 hxb) hr r3 (d2'.trans d3) (fun C5 hc r5 d5 => ?_) (fun C5 hc cs hK => ?_)
      · refine h (.mk 5 u2 v plain0 [] []) none 0 none 0 none 0 C5 _ r5 d5 (stv_simple _ _ _ _ (exV_leaf _ _ _ _ _)) (ok_simple (by simp [St.kind]) (by simp [St.kind]) ?_) (by simp [St.cnt, cntL]) (by omega) (by omega)
        have : v ≤ 2 := by omega
        have : u2 ≤ 3 := by omega
        simp [stSimple, St.kind, St.var, St.box, St.e, St.body, St.els, plainE, plain0, Ex.op, Ex.n, Ex.args, *]
      · repeat' (first | simp -implicitDefEqProofs only [zG1,zG2,zG3,zG4,zG5,zG6,zG7,eq_self,resV,rval,X.val,binv,fillL,setR,↓reduceIte,Nat.reduceEqDiff,Nat.reduceAdd,Nat.reduceMul,Nat.reduceLeDiff,Nat.reduceLT,Nat.reduceSub,reduceCtorEq,zGq, cs] | ((with_reducible refine rows_intro (fun _ hb => ?_)); try simp only [set_none, ne_eq] at hb) | ((with_reducible refine new_intro (fun _ hb => ?_)); try simp only [set_none, ne_eq] at hb) | (with_reducible refine draw_same ?_) | ((with_reducible refine gd_split ?_ (fun _ => ?_) (fun _ => ?_)); exact rfl) | ((with_reducible refine td_split ?_ (fun _ => ?_) (fun _ => ?_)); exact rfl) | (with_reducible refine c_split (fun _ => ?_) (fun _ => ?_)))
        exact ret_same hK
end
end Go.Proofs.YtodhkodhndbpmaaGreat
namespace Go.Proofs.YtodhkodhndbpmaaGreat
set_option linter.all false
open Go Go.RowKit
set_option maxRecDepth 100000
variable (w0 : World)
theorem blk_read {H C2 C3 Cf : AHeap} {b : Nat} {bs cs : List Nat} {t : TypeId} {A : Option Addr} {n c : Nat} {xs : List Value} {ss : List St} (hd : Dr H C2 b) (hn : New C2 bs) (hr : Rw C3 t 8 (.slice A n c) n xs bs) (hs : StL ((C3.off C2).no fun x => x ∈ bs) ss xs)
    (hc : Chg C3 Cf cs) (hcs : ∀ x, x ∈ cs → C2 x ≠ none) : StR (Cf.off H) ss A 0 := by
  have h1 := hs.le ((no_le _ _).trans (hd.off_chg hc hcs))
  refine h1.str ?_
  rcases hr with ⟨e, _, rfl, _⟩ | ⟨b', cap, e, rfl, _, _, _, hk⟩
  · exact Fl.nil _ _
  · simp only [Value.slice.injEq] at e
    obtain ⟨rfl, _⟩ := e
    have hb' := hn b' (by simp)
    exact (kn_off (H := H) (hd.nov hb') (hk.chg hc fun hm => hcs _ hm hb')).fl fun _ _ h => h
/-- What a draw of statements in a block owes. -/
abbrev BlkP (d : Nat) : Prop := ∀ (S : Src) (b : Nat) (H : AHeap) (K : Value → AHeap → Prop) (p B : Int) (n cm pm : Nat) (loops : Bool), RdK S H b p → B ≤ 3 → 0 ≤ p → n ≤ 8 → n * cB d ≤ cm → n * pB d ≤ pm → p + pm ≤ 1099511600000 →
  (∀ ss xs v bs C' p', RdK S C' b p' → Dr H C' b → New H bs → Rw C' 75 8 v ss.length xs bs → StL ((C'.off H).no fun x => x ∈ bs) ss xs → ss.all (stOk d) = true → ss.length ≤ 2 * n → cntL ss ≤ cm → p ≤ p' → p' ≤ p + pm → K v C') →
  ACalls Tryz.prog w0 63 [.pointer (some ⟨b, 0, none⟩), .int .i64 B, .int .i64 d, .int .i64 n, .bool loops] H K
theorem mul3 {j m : Nat} (h : j < 3) : j * m ≤ 2 * m := Nat.mul_le_mul_right _ (by omega)
theorem l92If_ok (d : Nat) (hd3 : d ≤ 3) (ih : BlkP w0 d) {S : Src} {b : Nat} {H : AHeap} {p : Int} (K : Value → AHeap → Prop) (hr : RdK S H b p) (B : Int) (hB : B ≤ 3) (loops : Bool) (h0 : 0 ≤ p) (h1 : p + (4 * pB d + 30) ≤ 1099511600000)
    (h : Out1 S b H p (d + 1) (4 * cB d + 1) (4 * pB d + 30) K) : ACalls Tryz.prog w0 81 [.pointer (some ⟨b, 0, none⟩), .int .i64 B, .int .i64 ((d + 1 : Nat) : Int), .bool loops] H K := by
  have w0' : IntKind.i64.wrap (((d + 1 : Nat) : Int) - 1) = (d : Int) := nat_dn (by omega)
  refine acalls_of_sx mix Tryz.func81 of81 (by simp [ir81]) ?_; rw [ir81]; (try delta qT qI qC qO qM qG)
  repeat' (first | simp -implicitDefEqProofs only [zG1,zG2,zG3,zG4,zG5,zG6,zG7,eq_self,resV,rval,X.val,binv,fillL,setR,↓reduceIte,Nat.reduceEqDiff,Nat.reduceAdd,Nat.reduceMul,Nat.reduceLeDiff,Nat.reduceLT,Nat.reduceSub,reduceCtorEq,zGq] | ((with_reducible refine rows_intro (fun _ hb => ?_)); try simp only [set_none, ne_eq] at hb) | ((with_reducible refine new_intro (fun _ hb => ?_)); try simp only [set_none, ne_eq] at hb) | (with_reducible refine draw_same ?_) | ((with_reducible refine gd_split ?_ (fun _ => ?_) (fun _ => ?_)); exact rfl) | ((with_reducible refine td_split ?_ (fun _ => ?_) (fun _ => ?_)); exact rfl) | (with_reducible refine c_split (fun _ => ?_) (fun _ => ?_)))
  rename_i x
  have hx := hb
  have hxb : ¬ x = b := by rintro rfl; exact hr.ne hx
  have l1 := (AHeap.le.refl H).fresh hx ⟨z8, true, 75, 8⟩
  refine pickK_ok _ _ (hr.fresh hx _) 2 (by omega) (by omega) (by decide) (fun v C1 r1 d1 hv0 hv1 => ?_)
  have d1' := (hr.dr l1).trans d1
  have k1 := d1.kn (Kn.same H x ⟨z8, true, 75, 8⟩) hxb
  obtain ⟨j, rfl⟩ := nat3 hv0
  have w1 := one_add (j := j) (by omega)
  have hT : drT (1 + j) ≤ 21 := by
    have : j < 2 := by omega
    match j, this with
    | 0, _ | 1, _ => decide
  repeat' (first | simp -implicitDefEqProofs only [zG1,zG2,zG3,zG4,zG5,zG6,zG7,eq_self,resV,rval,X.val,binv,fillL,setR,↓reduceIte,Nat.reduceEqDiff,Nat.reduceAdd,Nat.reduceMul,Nat.reduceLeDiff,Nat.reduceLT,Nat.reduceSub,reduceCtorEq,zGq, w1] | ((with_reducible refine rows_intro (fun _ hb => ?_)); try simp only [set_none, ne_eq] at hb) | ((with_reducible refine new_intro (fun _ hb => ?_)); try simp only [set_none, ne_eq] at hb) | (with_reducible refine draw_same ?_) | ((with_reducible refine gd_split ?_ (fun _ => ?_) (fun _ => ?_)); exact rfl) | ((with_reducible refine td_split ?_ (fun _ => ?_) (fun _ => ?_)); exact rfl) | (with_reducible refine c_split (fun _ => ?_) (fun _ => ?_)))
  refine l91Expr_ok _ (1 + j) _ _ _ (by omega) r1 (by omega) (by omega) (fun e A0 c0 C2 p2 r2 d2 he hE hp0 hp1 => ?_)
  have he5 : exprOk 5 e = true := ok_up5 (show max (1 + j) 1 ≤ 5 by omega) he
  have d2' := d1'.trans d2
  have k2 := d2.kn k1 hxb
  repeat' (first | simp -implicitDefEqProofs only [zG1,zG2,zG3,zG4,zG5,zG6,zG7,eq_self,resV,rval,X.val,binv,fillL,setR,↓reduceIte,Nat.reduceEqDiff,Nat.reduceAdd,Nat.reduceMul,Nat.reduceLeDiff,Nat.reduceLT,Nat.reduceSub,reduceCtorEq,zGq] | ((with_reducible refine rows_intro (fun _ hb => ?_)); try simp only [set_none, ne_eq] at hb) | ((with_reducible refine new_intro (fun _ hb => ?_)); try simp only [set_none, ne_eq] at hb) | (with_reducible refine draw_same ?_) | ((with_reducible refine gd_split ?_ (fun _ => ?_) (fun _ => ?_)); exact rfl) | ((with_reducible refine td_split ?_ (fun _ => ?_) (fun _ => ?_)); exact rfl) | (with_reducible refine c_split (fun _ => ?_) (fun _ => ?_)))
  rename_i y
  have hy := hb
  have l3 := (AHeap.le.refl C2).fresh hy ⟨[.int .i64 e.op, .int .i64 e.n, .slice A0 e.args.length c0], true, 73, 3⟩
  have hyx : ¬ y = x := fun e => k2.ne (e ▸ hy)
  have hyb : ¬ y = b := fun e => r2.ne (e ▸ hy)
  have k3 := k2.trans l3
  have ky := Kn.same C2 y ⟨[.int .i64 e.op, .int .i64 e.n, .slice A0 e.args.length c0], true, 73, 3⟩
  have r3 := r2.le l3
  have d3' := d2'.then_le l3
  generalize C2.set y ⟨[.int .i64 e.op, .int .i64 e.n, .slice A0 e.args.length c0], true, 73, 3⟩ = C3 at *
  refine pickK_ok _ _ r3 3 (by omega) (by omega) (by decide) (fun v2 C4 r4 d4 hu0 hu1 => ?_)
  obtain ⟨i, rfl⟩ := nat3 hu0
  have hi : i < 3 := by omega
  have d4' := d3'.trans d4
  have k4 := d4.kn k3 hxb
  have ky4 := d4.kn ky hyb
  repeat' (first | simp -implicitDefEqProofs only [zG1,zG2,zG3,zG4,zG5,zG6,zG7,eq_self,resV,rval,X.val,binv,fillL,setR,↓reduceIte,Nat.reduceEqDiff,Nat.reduceAdd,Nat.reduceMul,Nat.reduceLeDiff,Nat.reduceLT,Nat.reduceSub,reduceCtorEq,zGq, w0'] | ((with_reducible refine rows_intro (fun _ hb => ?_)); try simp only [set_none, ne_eq] at hb) | ((with_reducible refine new_intro (fun _ hb => ?_)); try simp only [set_none, ne_eq] at hb) | (with_reducible refine draw_same ?_) | ((with_reducible refine gd_split ?_ (fun _ => ?_) (fun _ => ?_)); exact rfl) | ((with_reducible refine td_split ?_ (fun _ => ?_) (fun _ => ?_)); exact rfl) | (with_reducible refine c_split (fun _ => ?_) (fun _ => ?_)))
  refine ih S b C4 _ _ B i (2 * cB d) (2 * pB d) loops r4 hB (by omega) (by omega) (mul3 hi) (mul3 hi) (by omega) (fun bd xs v5 bs5 C5 p5 r5 d5 n5 w5 s5 hbd hbl hbc hp2 hp3 => ?_)
  obtain ⟨A1, c1, rfl, -⟩ := w5.fl
  have d5' := d4'.trans d5
  have k5 := d5.kn k4 hxb
  have ky5 := d5.kn ky4 hyb
  repeat' (first | simp -implicitDefEqProofs only [zG1,zG2,zG3,zG4,zG5,zG6,zG7,eq_self,resV,rval,X.val,binv,fillL,setR,↓reduceIte,Nat.reduceEqDiff,Nat.reduceAdd,Nat.reduceMul,Nat.reduceLeDiff,Nat.reduceLT,Nat.reduceSub,reduceCtorEq,zGq] | ((with_reducible refine rows_intro (fun _ hb => ?_)); try simp only [set_none, ne_eq] at hb) | ((with_reducible refine new_intro (fun _ hb => ?_)); try simp only [set_none, ne_eq] at hb) | ((with_reducible refine gd_split ?_ (fun _ => ?_) (fun _ => ?_)); exact rfl) | ((with_reducible refine td_split ?_ (fun _ => ?_) (fun _ => ?_)); exact rfl) | (with_reducible refine c_split (fun _ => ?_) (fun _ => ?_)))
  refine draw_at (C5.no fun z => z ∈ [b, x]) (no_le _ _) ?_
  have ky' : Kn (C5.no fun z => z ∈ [b, x]) y _ := ky5.chg Chg.no (by simp; exact ⟨hyb, hyx⟩)
  have q0 := ky'.cell (j := 0) rfl
  have q1 := ky'.cell (j := 1) rfl
  have q2 := ky'.cell (j := 2) rfl
  repeat' (first | simp -implicitDefEqProofs only [zG1,zG2,zG3,zG4,zG5,zG6,zG7,eq_self,resV,rval,X.val,binv,fillL,setR,↓reduceIte,Nat.reduceEqDiff,Nat.reduceAdd,Nat.reduceMul,Nat.reduceLeDiff,Nat.reduceLT,Nat.reduceSub,reduceCtorEq,zGq, w0', q0, q1, q2, adr_lit, Nat.zero_add] | ((with_reducible refine rows_intro (fun _ hb => ?_)); try simp only [set_none, ne_eq] at hb) | ((with_reducible refine new_intro (fun _ hb => ?_)); try simp only [set_none, ne_eq] at hb) | ((with_reducible refine gd_split ?_ (fun _ => ?_) (fun _ => ?_)); exact rfl) | ((with_reducible refine td_split ?_ (fun _ => ?_) (fun _ => ?_)); exact rfl) | (with_reducible refine c_split (fun _ => ?_) (fun _ => ?_)))
  refine pickK_ok _ _ r5 3 (by omega) (by omega) (by decide) (fun v3 C6 r6 d6 hw0 hw1 => ?_)
  obtain ⟨i2, rfl⟩ := nat3 hw0
  have hi2 : i2 < 3 := by omega
  have d6' := d5'.trans d6
  have k6 := d6.kn k5 hxb
  have lp6 : AHeap.le (C5.no fun z => z ∈ [b, x]) C6 := ((no_del C5 [b, x] (by simp)).trans d6.le).trans (del_le' _ _)
  repeat' (first | simp -implicitDefEqProofs only [zG1,zG2,zG3,zG4,zG5,zG6,zG7,eq_self,resV,rval,X.val,binv,fillL,setR,↓reduceIte,Nat.reduceEqDiff,Nat.reduceAdd,Nat.reduceMul,Nat.reduceLeDiff,Nat.reduceLT,Nat.reduceSub,reduceCtorEq,zGq, lp6] | ((with_reducible refine rows_intro (fun _ hb => ?_)); try simp only [set_none, ne_eq] at hb) | ((with_reducible refine new_intro (fun _ hb => ?_)); try simp only [set_none, ne_eq] at hb) | ((with_reducible refine gd_split ?_ (fun _ => ?_) (fun _ => ?_)); exact rfl) | ((with_reducible refine td_split ?_ (fun _ => ?_) (fun _ => ?_)); exact rfl) | (with_reducible refine c_split (fun _ => ?_) (fun _ => ?_)))
  refine ih S b C6 _ _ B i2 (2 * cB d) (2 * pB d) loops r6 hB (by omega) (by omega) (mul3 hi2) (mul3 hi2) (by omega) (fun el ys v7 bs7 C7 p7 r7 d7 n7 w7 s7 hel hell helc hp4 hp5 => ?_)
  obtain ⟨A2, c2, rfl, -⟩ := w7.fl
  have d7' := d6'.trans d7
  have k7 := d7.kn k6 hxb
  have lp7 : AHeap.le (C5.no fun z => z ∈ [b, x]) C7 := ((no_del C5 [b, x] (by simp)).trans (d6.trans d7).le).trans (del_le' _ _)
  repeat' (first | simp -implicitDefEqProofs only [zG1,zG2,zG3,zG4,zG5,zG6,zG7,eq_self,resV,rval,X.val,binv,fillL,setR,↓reduceIte,Nat.reduceEqDiff,Nat.reduceAdd,Nat.reduceMul,Nat.reduceLeDiff,Nat.reduceLT,Nat.reduceSub,reduceCtorEq,zGq, lp7] | ((with_reducible refine rows_intro (fun _ hb => ?_)); try simp only [set_none, ne_eq] at hb) | ((with_reducible refine new_intro (fun _ hb => ?_)); try simp only [set_none, ne_eq] at hb) | ((with_reducible refine gd_split ?_ (fun _ => ?_) (fun _ => ?_)); exact rfl) | ((with_reducible refine td_split ?_ (fun _ => ?_) (fun _ => ?_)); exact rfl) | (with_reducible refine c_split (fun _ => ?_) (fun _ => ?_)))
  refine finS (K := K) 2 0 0 e bd.length el.length A0 c0 A1 c1 A2 c2 rfl hx k7 hr r7 d7' (fun C8 hc r8 d8 => ?_) (fun C8 hc cs hK => ?_)
  · have hx2 : ∀ z, z ∈ [b, x] → C1 z ≠ none := fun z hz => by
      simp only [List.mem_cons, List.not_mem_nil, or_false] at hz
      rcases hz with rfl | rfl
      · exact r1.ne
      · exact k1.ne
    have hx4 : ∀ z, z ∈ [b, x] → C4 z ≠ none := fun z hz => by
      simp only [List.mem_cons, List.not_mem_nil, or_false] at hz
      rcases hz with rfl | rfl
      · exact r4.ne
      · exact k4.ne
    have hx6 : ∀ z, z ∈ [x] → C6 z ≠ none := fun z hz => by
      simp only [List.mem_cons, List.not_mem_nil, or_false] at hz
      subst hz
      exact k6.ne
    have c58 : Chg C5 C8 [b, x] := ((d6.trans d7).toChg (by simp)).trans (hc.mono (by simp))
    have c28 : Chg C2 C8 [b, x] := (Chg.of_le l3).trans ((d4.trans d5).toChg (by simp) |>.trans c58)
    have hE' := hE.le (d1'.off_chg c28 hx2)
    have hB' := blk_read d4' n5 w5 s5 c58 hx4
    have hL' := blk_read d6' n7 w7 s7 hc hx6
    have bb := w5.bound
    have lb := w7.bound
    refine h (.mk 2 0 0 e bd el) A0 c0 A1 c1 A2 c2 C8 p7 r8 d8 ?_ ?_ ?_ (by omega) (by omega)
    · obtain ⟨B0, d0, he', g1, g2⟩ := hE'.open_
      simp only [List.cons.injEq, Value.slice.injEq, true_and, and_true] at he'
      obtain ⟨rfl, rfl⟩ := he'
      simp only [StV]
      exact ⟨_, _, _, _, _, _, rfl, g1, g2, ⟨bb, hB'⟩, lb, hL'⟩
    · simp only [stOk, St.kind, stBlock, St.var, St.box, St.e, St.body, St.els, he5, hbd, hel]
      simp
    · simp only [St.cnt]; omega
  · have lp8 := hc.keep lp7 (New.one (no_in (by simp)))
    repeat' (first | simp -implicitDefEqProofs only [zG1,zG2,zG3,zG4,zG5,zG6,zG7,eq_self,resV,rval,X.val,binv,fillL,setR,↓reduceIte,Nat.reduceEqDiff,Nat.reduceAdd,Nat.reduceMul,Nat.reduceLeDiff,Nat.reduceLT,Nat.reduceSub,reduceCtorEq,zGq, cs, lp8] | ((with_reducible refine rows_intro (fun _ hb => ?_)); try simp only [set_none, ne_eq] at hb) | ((with_reducible refine new_intro (fun _ hb => ?_)); try simp only [set_none, ne_eq] at hb) | ((with_reducible refine gd_split ?_ (fun _ => ?_) (fun _ => ?_)); exact rfl) | ((with_reducible refine td_split ?_ (fun _ => ?_) (fun _ => ?_)); exact rfl) | (with_reducible refine c_split (fun _ => ?_) (fun _ => ?_)))
    exact ret_same hK
end Go.Proofs.YtodhkodhndbpmaaGreat
namespace Go.Proofs.YtodhkodhndbpmaaGreat
set_option linter.all false
open Go Go.RowKit
set_option maxRecDepth 100000
/-- What a draw of one statement, or two, owes. -/
abbrev OutL (S : Src) (b : Nat) (H : AHeap) (p : Int) (d : Nat) (cm pm : Nat) (K : Value → AHeap → Prop) : Prop :=
  ∀ (ss : List St) (A : Option Addr) (c : Nat) (C' : AHeap) (p' : Int), RdK S C' b p' → Dr H C' b → StR (C'.off H) ss A 0 → ss.all (stOk d) = true → ss.length ≤ 2 → cntL ss ≤ cm → p ≤ p' → p' ≤ p + pm → K (.slice A ss.length c) C'
structure LS (S : Src) (b : Nat) (H Hp : AHeap) (v : Value) (n : Nat) (xs : List Value) (bs : List Nat) (C : AHeap) (q : Int) : Prop where
  lp : AHeap.le Hp C
  r : RdK S C b q
  d : Dr H C b
  w : Rw C 75 8 v n xs bs
  nH : New H bs
  nP : New Hp bs
  pb : Hp b = none
  f0 : Fl (H.del b) S.A (u8s S.zs)
theorem New.le' {H C : AHeap} {b : Nat} {bs : List Nat} (h : New C bs) (d : Dr H C b) : New H bs := fun y hy => d.nov (h y hy)
section
variable {S : Src} {b x : Nat} {H Hp C C' : AHeap} {v : Value} {n : Nat} {xs : List Value} {bs : List Nat} {q : Int}
theorem LS.nb (s : LS S b H Hp v n xs bs C q) : ¬ b ∈ bs := fun hm => s.d.b0 (s.nH b hm)
theorem LS.le (s : LS S b H Hp v n xs bs C q) (l : AHeap.le C C') : LS S b H Hp v n xs bs C' q := ⟨s.lp.trans l, s.r.le l, s.d.then_le l, s.w.trans l, s.nH, s.nP, s.pb, s.f0⟩
theorem LS.pick (s : LS S b H Hp v n xs bs C q) {q' : Int} (r' : RdK S C' b q') (d' : Dr C C' b) : LS S b H Hp v n xs bs C' q' := by
  refine ⟨fun y k hy => ?_, r', s.d.trans d', s.w.chg (d'.toChg (bs := [b]) (by simp)) fun y hy hm => ?_, s.nH, s.nP, s.pb, s.f0⟩
  · have e : ¬ y = b := by rintro rfl; rw [s.pb] at hy; cases hy
    exact d'.kn (s.lp y k hy) e
  · simp only [List.mem_cons, List.not_mem_nil, or_false] at hm
    exact s.nb (hm ▸ hy)
theorem LS.off (s : LS S b H Hp v n xs bs C q) (hx : C x = none) : ¬ x ∈ bs := fun hm => by
  rcases s.w with ⟨_, _, _, rfl⟩ | ⟨b', cap, _, rfl, _, _, _, hk⟩
  · cases hm
  · simp only [List.mem_cons, List.not_mem_nil, or_false] at hm
    subst hm; exact hk.ne hx
theorem LS.chg (s : LS S b H Hp v n xs bs C q) {cs : List Nat} {v' : Value} {n' : Nat} {xs' : List Value} {bs' : List Nat} (hc : Chg C C' cs) (hH : New H cs) (hP : New Hp cs) (hn : ∀ y, y ∈ bs' → H y = none ∧ Hp y = none) (w : Rw C' 75 8 v' n' xs' bs') : LS S b H Hp v' n' xs' bs' C' q := by
  have d' := s.d.chg hc hH
  exact ⟨hc.keep s.lp hP, s.r.chg hc (fun hm => s.d.b0 (hH b hm)) s.f0 d'.le, d', w, fun y hy => (hn y hy).1, fun y hy => (hn y hy).2, s.pb, s.f0⟩
theorem LS.app (s : LS S b H Hp v n xs bs C q) {v' : Value} {n' : Nat} {xs' : List Value} {bs' : List Nat} (hc : Chg C C' bs) (hn : ∀ y, y ∈ bs' → y ∈ bs ∨ C y = none) (w : Rw C' 75 8 v' n' xs' bs') : LS S b H Hp v' n' xs' bs' C' q :=
  s.chg hc s.nH s.nP (fun y hy => by
    rcases hn y hy with h | h
    · exact ⟨s.nH y h, s.nP y h⟩
    · exact ⟨s.d.nov h, s.lp.none h⟩) w
theorem LS.st (s : LS S b H Hp v n xs bs C q) (hx : H x = none) (hp : Hp x = none) (hb : ¬ x ∈ bs) (hc : Chg C C' [x]) : LS S b H Hp v n xs bs C' q :=
  s.chg hc (New.one hx) (New.one hp) (fun y hy => ⟨s.nH y hy, s.nP y hy⟩) (s.w.chg hc fun y hy hm => by
    simp only [List.mem_cons, List.not_mem_nil, or_false] at hm
    exact hb (hm ▸ hy))
/-- The last step of a round: d becomes d + 1. -/
abbrev mo (z : Nat) : List Value := [.int .i64 1, .int .i64 3, .int .i64 0, .int .i64 8, .int .i64 0, .slice (some ⟨z, 0, none⟩) 2 2, .slice none 0 0, .slice none 0 0]
def moE : Ex := .mk 8 0 [.mk 13 3 [], .mk 0 1 []]
def moS : St := .mk 1 3 0 moE [] []
theorem mo_v {D : AHeap} {z : Nat} {t : TypeId} {cc : Nat} {A B : Option Addr} {c c' : Nat} (hk : Kn D z ⟨[.int .i64 13, .int .i64 3, .slice A 0 c, .int .i64 0, .int .i64 1, .slice B 0 c'], true, t, cc⟩) : StV D moS (mo z) :=
  stv_simple D 1 3 0 (exV_both (a := .mk 13 3 []) (b := .mk 0 1 []) hk (exV_leaf _ _ _ _ _) (exV_leaf _ _ _ _ _))
theorem LS.leaf {w0 : World} {D : Value → AHeap → Prop} {o m : Int} (s : LS S b H Hp v n xs bs C q) (h : ∀ A c C', AHeap.le C C' → LS S b H Hp v n xs bs C' q → D (.agg #[.int .i64 o, .int .i64 m, .slice A 0 c]) C') : ACalls Tryz.prog w0 97 [.int .i64 o, .int .i64 m] C D :=
  l4Leaf_ok _ _ _ _ _ fun A c C' l => h A c C' l (s.le l)
theorem LS.lit {D : Value → AHeap → Prop} {z : Nat} (s : LS S b H Hp v n xs bs C q) (h : ∀ y C', ¬ y = b → AHeap.le C C' → LS S b H Hp v n xs bs C' q → Kn C' y ⟨mo z, true, 75, 8⟩ → D (.slice (some ⟨y, 0, none⟩) 1 1) C') : rowsK D C 75 1 (mo z) :=
  rows_intro fun y hy => h y _ (fun e => s.r.ne (e ▸ hy)) ((AHeap.le.refl C).fresh hy _) (s.le ((AHeap.le.refl C).fresh hy _)) (Kn.same _ _ _)
theorem LS.new {D : Value → AHeap → Prop} (s : LS S b H Hp v n xs bs C q) (h : ∀ y C', C y = none → H y = none → Hp y = none → ¬ y ∈ bs → ¬ y = b → AHeap.le C C' → LS S b H Hp v n xs bs C' q → Kn C' y ⟨z8, true, 75, 8⟩ → D (.pointer (some ⟨y, 0, none⟩)) C') : newK D C ⟨z8, true, 75, 8⟩ :=
  new_intro fun y hy => h y _ hy (s.d.nov hy) (s.lp.none hy) (s.off hy) (fun e => s.r.ne (e ▸ hy)) ((AHeap.le.refl C).fresh hy _) (s.le ((AHeap.le.refl C).fresh hy _)) (Kn.same _ _ _)
/-- The body's row gets its last statement. -/
theorem LS.more {w0 : World} {D : Value → AHeap → Prop} {z y : Nat} {c : Nat} {bytes : Nat} (s : LS S b H Hp v n xs bs C q) (k : Kn C y ⟨mo z, true, 75, 8⟩) (hn : n ≤ 100) (hB : bytes = 112)
    (h : ∀ A c' C' bs', Chg C C' bs → (∀ x, x ∈ bs' → x ∈ bs ∨ C x = none) → LS S b H Hp (.slice A (n + 1) c') (n + 1) (xs ++ mo z) bs' C' q → D (.slice A (n + 1) c') C') : appK Tryz.prog w0 z8 75 bytes v (.slice (some ⟨y, 0, none⟩) 1 c) D C := by
  subst hB
  refine app_rw (news := mo z) (m := 1) s.w (k.fl fun _ _ h => h) rfl (by simp [ocI, ocS]) (by simp only [maxLen]; omega) (by omega) (fun v' C' bs' hc hn w => ?_)
  obtain ⟨A, c', rfl, -⟩ := w.fl
  exact h A c' C' bs' hc hn (s.app hc hn w)
theorem off_app {bs' : List Nat} {y : Nat} {k : Blk} (hk : Kn C y k) (ho : ¬ y ∈ bs) (hn : ∀ x, x ∈ bs' → x ∈ bs ∨ C x = none) : ¬ y ∈ bs' := fun hm => (hn y hm).elim ho hk.ne
theorem LS.put {D : Value → AHeap → Prop} {y : Nat} {u0 u1 u2 u3 u4 u5 u6 u7 : Value} (s : LS S b H Hp v n xs bs C q) (hk : Kn C y ⟨z8, true, 75, 8⟩) (hH : H y = none) (hp : Hp y = none) (hb : ¬ y ∈ bs) (h1 : ∀ u ∈ [u0, u1, u2, u3, u4, u5, u6, u7], u.oneCell' = true)
    (h : ∀ C', Chg C C' [y] → LS S b H Hp v n xs bs C' q → Pt8 C' y u0 u1 u2 u3 u4 u5 u6 u7 → D undef C') : stK 8 (.pointer (some ⟨y, 0, none⟩)) (.agg #[u0, u1, u2, u3, u4, u5, u6, u7]) D C :=
  st_kn8 hk h1 fun C' hc _ cs => h C' hc (s.st hH hp hb hc) cs
theorem off_sub (h : AHeap.le C C') : AHeap.le (C.off H) (C'.off H) := off_any fun x k h1 h2 => ⟨h1, h x k h2⟩
abbrev loE (v : Int) : Ex := .mk 5 0 [.mk 13 3 [], .mk 0 (1 + v) []]
abbrev wh (z : Nat) (n : Nat) (A : Option Addr) (c : Nat) : List Value := [.int .i64 3, .int .i64 0, .int .i64 0, .int .i64 5, .int .i64 0, .slice (some ⟨z, 0, none⟩) 2 2, .slice A n c, .slice none 0 0]
abbrev se (A : Option Addr) (c : Nat) : List Value := [.int .i64 1, .int .i64 3, .int .i64 0, .int .i64 0, .int .i64 0, .slice A 0 c, .slice none 0 0, .slice none 0 0]
/-- The drawn statements, once all is made. -/
theorem finL {p q : Int} {cm pm d : Nat} {K : Value → AHeap → Prop} {A34 : Option Addr} {c34 : Nat} {bd : List St} {z30 y : Nat} {t30 : TypeId} {c30 : Nat} {A25 A29 A37 : Option Addr} {c25 c29 c37 : Nat} {u : Int} (h : OutL S b H p (d + 1) cm pm K)
    (s : LS S b H Hp (.slice A34 (bd.length + 1) c34) (bd.length + 1) xs bs C q) (hs : StL (Hp.off H) (bd ++ [moS]) xs)
    (k30 : Kn C z30 ⟨[.int .i64 13, .int .i64 3, .slice A25 0 c25, .int .i64 0, .int .i64 (1 + u), .slice A29 0 c29], true, t30, c30⟩) (h30 : H z30 = none) (hbd : bd.all (stOk d) = true) (hcm : cntL bd + 3 ≤ cm) (hu : 0 ≤ u ∧ u ≤ 2) (hp0 : p ≤ q) (hp1 : q ≤ p + pm) (hy : C y = none)
    : K (.slice (some ⟨y, 0, none⟩) 2 2) (C.set y ⟨se A37 c37 ++ wh z30 (bd.length + 1) A34 c34, true, 75, 16⟩) := by
  have ly := (AHeap.le.refl C).fresh hy ⟨se A37 c37 ++ wh z30 (bd.length + 1) A34 c34, true, 75, 16⟩
  have sy := s.le ly
  have ky := kn_off (H := H) (s.d.nov hy) (Kn.same C y ⟨se A37 c37 ++ wh z30 (bd.length + 1) A34 c34, true, 75, 16⟩)
  have k30' := kn_off (H := H) h30 (k30.trans ly)
  have hbl := s.w.bound
  refine h [.mk 1 3 0 (.mk 0 0 []) [] [], .mk 3 0 0 (loE u) (bd ++ [moS]) []] (some ⟨y, 0, none⟩) 2 _ q sy.r sy.d ?_ ?_ (by simp) ?_ hp0 hp1
  · generalize C.set y ⟨se A37 c37 ++ wh z30 (bd.length + 1) A34 c34, true, 75, 16⟩ = C' at *
    have hsr : StR (C'.off H) (bd ++ [moS]) A34 0 := by
      refine (hs.le (off_sub sy.lp)).str ?_
      rcases sy.w with ⟨_, e, _, _⟩ | ⟨b', cap, e, hbs, _, _, _, hk⟩
      · omega
      · simp only [Value.slice.injEq] at e
        obtain ⟨rfl, _⟩ := e
        exact (kn_off (s.nH b' (by rw [hbs]; simp)) hk).fl fun _ _ h => h
    have v1 : StV (C'.off H) (.mk 1 3 0 (.mk 0 0 []) [] []) (se A37 c37) := stv_simple _ 1 3 0 (exV_leaf _ _ _ _ _)
    have v2 : StV (C'.off H) (.mk 3 0 0 (loE u) (bd ++ [moS]) []) (wh z30 (bd.length + 1) A34 c34) := by
      simp only [StV]
      have hb := exV_both (o := 5) (a := .mk 13 3 []) (b := .mk 0 (1 + u) []) k30' (exV_leaf _ _ _ _ _) (exV_leaf _ _ _ _ _)
      obtain ⟨B0, d0, he', g1, g2⟩ := hb.open_
      simp only [List.cons.injEq, Value.slice.injEq, true_and, and_true] at he'
      obtain ⟨-, -, rfl, -, rfl⟩ := he'
      exact ⟨some ⟨z30, 0, none⟩, 2, A34, c34, none, 0, by simp [wh, stc, loE, Ex.op, Ex.n, Ex.args], g1, g2, ⟨by simpa using hbl, hsr⟩, Nat.zero_le _, by simp only [StR]⟩
    have hl : StL (C'.off H) [.mk 1 3 0 (.mk 0 0 []) [] [], .mk 3 0 0 (loE u) (bd ++ [moS]) []] (se A37 c37 ++ wh z30 (bd.length + 1) A34 c34) := (StL.one v1).app (StL.one v2)
    exact hl.str (ky.fl fun _ _ h => h)
  · have e1 : exprOk 5 (.mk 0 0 []) = true := by decide
    have e2 : exprOk 5 (loE u) = true := ok_up5 (d := 2) (by decide) (ok_both (by decide) (by decide) (ok_leaf13 (by decide) (by decide)) (ok_leaf0 (by omega) (by omega)))
    have e3 : exprOk 5 moE = true := by decide
    have e4 : ∀ d', stOk d' moS = true := fun d' => ok_simple (by simp [moS, St.kind]) (by simp [moS, St.kind]) (by simp [stSimple, moS, St.kind, St.var, St.box, St.e, St.body, St.els, e3])
    have e5 : stOk (d + 1) (.mk 1 3 0 (.mk 0 0 []) [] []) = true := ok_simple (by simp [St.kind]) (by simp [St.kind]) (by simp [stSimple, St.kind, St.var, St.box, St.e, St.body, St.els, e1])
    simp only [List.all_cons, List.all_nil, Bool.and_true, e5, Bool.true_and]
    simp only [stOk, St.kind, stBlock, St.var, St.box, St.e, St.body, St.els, e2, List.all_append, hbd, List.all_cons, List.all_nil, e4]
    simp
  · simp only [cntL, St.cnt, cntL_app, moS]; omega
end
end Go.Proofs.YtodhkodhndbpmaaGreat
