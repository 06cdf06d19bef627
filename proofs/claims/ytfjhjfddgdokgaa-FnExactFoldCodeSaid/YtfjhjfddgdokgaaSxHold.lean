/- What a heap knows of a block, whatever else it knows: rows of the call's own that are read, written, appended to and cut while the heap goes on; loops that count. -/
import Derived.Test.YtfjhjfddgdokgaaSxCut
namespace Go.Proofs.Ytfjhjfddgdokgaa
set_option linter.all false
open Go Go.RowKit

def nats (ws : List Nat) : List Value := ws.map fun (i : Nat) => Value.int .i64 (i : Int)
theorem nats_len (ws : List Nat) : (nats ws).length = ws.length := by simp [nats]
theorem nats_snoc (ws : List Nat) (x : Nat) : nats (ws ++ [x]) = nats ws ++ [.int .i64 (x : Int)] := by simp [nats]
theorem bools_set (s : List Bool) (i : Nat) (x : Bool) : (bools s).set i (.bool x) = bools (s.set i x) := by simp [bools, List.map_set]
/-- C knows at block b at least what k says. -/
def Kn (C : AHeap) (b : Nat) (k : Blk) : Prop := ∃ k' : Blk, C b = some k' ∧ k'.own = k.own ∧ k'.ty = k.ty ∧ k'.cap = k.cap ∧ ∀ (j : Nat) (v : Value), k.cells[j]? = some v → k'.cells[j]? = some v
/-- C' knows what C knew, but for the blocks bs. -/
def Chg (C C' : AHeap) (bs : List Nat) : Prop := ∀ (b : Nat) (k : Blk), ¬ b ∈ bs → C b = some k → Kn C' b k
/-- v is a slice of n elements of the call's own, in the blocks bs (one, or none). -/
def Rw (C : AHeap) (t : TypeId) (sz : Nat) (v : Value) (n : Nat) (xs : List Value) (bs : List Nat) : Prop :=
  (v = .slice none 0 0 ∧ n = 0 ∧ xs = [] ∧ bs = []) ∨
  ∃ b cap, v = .slice (some ⟨b, 0, none⟩) n cap ∧ bs = [b] ∧ n ≤ cap ∧ cap ≤ maxLen ∧ xs.length = n * sz ∧ Kn C b ⟨xs, true, t, cap * sz⟩
/-- None of these blocks is known. -/
def New (H : AHeap) (bs : List Nat) : Prop := ∀ b, b ∈ bs → H b = none

section
variable {C C' C'' H : AHeap} {b b' : Nat} {k k' : Blk} {bs bs' : List Nat}
theorem Kn.of (h : C b = some k) : Kn C b k := ⟨k, h, rfl, rfl, rfl, fun _ _ h => h⟩
theorem Kn.trans (h : Kn C b k) (hl : AHeap.le C C') : Kn C' b k := by
  obtain ⟨k1, h1, o1, t1, c1, r1⟩ := h
  obtain ⟨k2, h2, o2, t2, c2, r2⟩ := hl b k1 h1
  exact ⟨k2, h2, o2.trans o1, t2.trans t1, c2.trans c1, fun j v hv => r2 j v (r1 j v hv)⟩
theorem Kn.ne (h : Kn C b k) : C b ≠ none := by obtain ⟨k', h', _⟩ := h; rw [h']; simp
theorem Kn.ne_new (h : Kn C b k) (hb : C b' = none) : ¬ b = b' := by rintro rfl; exact h.ne hb
theorem Kn.chg (h : Kn C b k) (hc : Chg C C' bs) (hb : ¬ b ∈ bs) : Kn C' b k := by
  obtain ⟨k1, h1, o1, t1, c1, r1⟩ := h
  obtain ⟨k2, h2, o2, t2, c2, r2⟩ := hc b k1 hb h1
  exact ⟨k2, h2, o2.trans o1, t2.trans t1, c2.trans c1, fun j v hv => r2 j v (r1 j v hv)⟩
theorem Kn.same (C : AHeap) (b : Nat) (k : Blk) : Kn (C.set b k) b k := .of (set_same _ _ _)
theorem Kn.set (h : Kn C b k) (hb : ¬ b = b') (k' : Blk) : Kn (C.set b' k') b k := by
  obtain ⟨k1, h1, r⟩ := h
  exact ⟨k1, by rw [set_ne hb]; exact h1, r⟩
theorem Kn.fresh (h : Kn C b k) (hb : C b' = none) (k' : Blk) : Kn (C.set b' k') b k := h.set (h.ne_new hb) k'
theorem Kn.cell (h : Kn C b k) {j : Nat} {v : Value} (hv : k.cells[j]? = some v) : C.cell (some ⟨b, j, none⟩) = some v := by
  obtain ⟨k1, h1, _, _, _, r⟩ := h
  rw [cell_blk h1]; exact r j v hv
theorem Kn.fl (h : Kn C b k) {vs : List Value} (hv : ∀ (j : Nat) (v : Value), vs[j]? = some v → k.cells[j]? = some v) : Fl C (some ⟨b, 0, none⟩) vs := fun j v hj => by
  rw [adr_lit, Nat.zero_add]; exact h.cell (hv j v hj)
theorem Kn.weaken (h : Kn C b k) {xs : List Value} (hx : ∀ (j : Nat) (v : Value), xs[j]? = some v → k.cells[j]? = some v) : Kn C b ⟨xs, k.own, k.ty, k.cap⟩ := by
  obtain ⟨k1, h1, o1, t1, c1, r1⟩ := h
  exact ⟨k1, h1, o1, t1, c1, fun j v hv => r1 j v (hx j v hv)⟩

theorem Chg.of_le (h : AHeap.le C C') : Chg C C' bs := fun b k _ hk => h b k hk
theorem Chg.le (h : Chg C C' []) : AHeap.le C C' := fun b k hk => h b k (by simp) hk
theorem Chg.refl (C : AHeap) (bs : List Nat) : Chg C C bs := .of_le (.refl C)
theorem Chg.mono (h : Chg C C' bs) (hs : ∀ b, b ∈ bs → b ∈ bs') : Chg C C' bs' := fun b k hb hk => h b k (fun hm => hb (hs b hm)) hk
theorem Chg.trans (h : Chg C C' bs) (h' : Chg C' C'' bs) : Chg C C'' bs := fun b k hb hk => (h b k hb hk).chg h' hb
theorem Chg.then_le (h : Chg C C' bs) (h' : AHeap.le C' C'') : Chg C C'' bs := fun b k hb hk => (h b k hb hk).trans h'
theorem Chg.after (h : AHeap.le C C') (h' : Chg C' C'' bs) : Chg C C'' bs := fun b k hb hk => Kn.chg (h b k hk) h' hb
/-- What stood before the blocks were made still stands. -/
theorem Chg.keep (hl : AHeap.le H C) (hc : Chg C C' bs) (hn : New H bs) : AHeap.le H C' := fun b k hk => Kn.chg (hl b k hk) hc fun hb => by rw [hn b hb] at hk; cases hk
theorem Chg.set (h : Chg C C' bs) (hb : b ∈ bs) (k : Blk) : Chg C (C'.set b k) bs := fun b' k' hb' hk' => (h b' k' hb' hk').set (fun e => hb' (e ▸ hb)) k
theorem Chg.fresh (h : Chg C C' bs) (hb : C' b = none) (k : Blk) : Chg C (C'.set b k) bs := fun b' k' hb' hk' => (h b' k' hb' hk').fresh hb k
theorem New.le (h : New C bs) (hl : AHeap.le H C) : New H bs := fun b hb => hl.none (h b hb)
theorem New.nil (H : AHeap) : New H [] := fun b hb => by cases hb
theorem New.one (h : H b = none) : New H [b] := fun x hx => by simp at hx; subst hx; exact h
theorem New.app (h : New H bs) (h' : New H bs') : New H (bs ++ bs') := fun b hb => (List.mem_append.1 hb).elim (h b) (h' b)

variable {t : TypeId} {sz n : Nat} {v : Value} {xs : List Value}
theorem Rw.trans (h : Rw C t sz v n xs bs) (hl : AHeap.le C C') : Rw C' t sz v n xs bs := by
  rcases h with h | ⟨b, cap, h1, h2, h3, h4, h5, h6⟩
  · exact .inl h
  · exact .inr ⟨b, cap, h1, h2, h3, h4, h5, h6.trans hl⟩
theorem Rw.chg (h : Rw C t sz v n xs bs) (hc : Chg C C' bs') (hd : ∀ b, b ∈ bs → ¬ b ∈ bs') : Rw C' t sz v n xs bs := by
  rcases h with h | ⟨b, cap, h1, rfl, h3, h4, h5, h6⟩
  · exact .inl h
  · exact .inr ⟨b, cap, h1, rfl, h3, h4, h5, h6.chg hc (hd b (by simp))⟩
theorem Rw.fl (h : Rw C t sz v n xs bs) : ∃ A c, v = .slice A n c ∧ Fl C A xs := by
  rcases h with ⟨rfl, rfl, rfl, rfl⟩ | ⟨b, cap, rfl, h2, h3, h4, h5, h6⟩
  · exact ⟨_, _, rfl, Fl.nil _ _⟩
  · exact ⟨_, _, rfl, h6.fl fun _ _ h => h⟩
theorem Rw.fl' {A : Option Addr} {n' c : Nat} (h : Rw C t sz (.slice A n' c) n xs bs) : Fl C A xs ∧ n' = n := by
  obtain ⟨A', c', e, hf⟩ := h.fl
  simp only [Value.slice.injEq] at e
  obtain ⟨rfl, rfl, rfl⟩ := e
  exact ⟨hf, rfl⟩
theorem Rw.len (h : Rw C t sz v n xs bs) : xs.length = n * sz := by
  rcases h with ⟨rfl, rfl, rfl, rfl⟩ | ⟨b, cap, rfl, h2, h3, h4, h5, h6⟩
  · simp
  · exact h5
theorem Rw.bound (h : Rw C t sz v n xs bs) : n ≤ maxLen := by
  rcases h with ⟨rfl, rfl, rfl, rfl⟩ | ⟨b, cap, rfl, h2, h3, h4, h5, h6⟩
  · exact Nat.zero_le _
  · omega
theorem Rw.open_ (h : Rw C t sz v n xs bs) (hn : 0 < n) : ∃ b cap, v = .slice (some ⟨b, 0, none⟩) n cap ∧ bs = [b] ∧ n ≤ cap ∧ cap ≤ maxLen ∧ xs.length = n * sz ∧ Kn C b ⟨xs, true, t, cap * sz⟩ := by
  rcases h with ⟨rfl, rfl, rfl, rfl⟩ | h
  · cases hn
  · exact h
theorem Rw.mk {b cap : Nat} (h : Kn C b ⟨xs, true, t, cap * sz⟩) (hl : xs.length = n * sz) (hn : n ≤ cap) (hc : cap ≤ maxLen) : Rw C t sz (.slice (some ⟨b, 0, none⟩) n cap) n xs [b] := .inr ⟨b, cap, rfl, rfl, hn, hc, hl, h⟩
theorem Rw.nil_ (C : AHeap) (t : TypeId) (sz : Nat) : Rw C t sz (.slice none 0 0) 0 [] [] := .inl ⟨rfl, rfl, rfl, rfl⟩
theorem Own.rw_ {A : AHeap} (h : Own A t sz v n xs C) : AHeap.le A C ∧ ∃ bs, New A bs ∧ Rw C t sz v n xs bs := by
  refine ⟨h.le, ?_⟩
  rcases h with ⟨rfl, rfl, rfl, rfl⟩ | ⟨b, cap, rfl, hb, hn, hc, hl, rfl⟩
  · exact ⟨[], New.nil _, .inl ⟨rfl, rfl, rfl, rfl⟩⟩
  · exact ⟨[b], New.one hb, .inr ⟨b, cap, rfl, rfl, hn, hc, hl, Kn.same _ _ _⟩⟩
/-- The row, cut out of what the heap knows: for contracts that ask for a row alone. -/
theorem Rw.own_ (h : Rw C t sz v n xs bs) : ∃ A B, AHeap.le B C ∧ Own A t sz v n xs B ∧ ∀ b, b ∈ bs ∨ A b = C b := by
  rcases h with ⟨rfl, rfl, rfl, rfl⟩ | ⟨b, cap, rfl, rfl, hn, hc, hl, hk⟩
  · exact ⟨C, C, .refl _, .inl ⟨rfl, rfl, rfl, rfl⟩, fun _ => .inr rfl⟩
  · refine ⟨C.del b, (C.del b).set b ⟨xs, true, t, cap * sz⟩, fun x k' hx => ?_, .inr ⟨b, cap, rfl, by simp [AHeap.del], hn, hc, hl, rfl⟩, fun x => ?_⟩
    · by_cases hxb : x = b
      · subst hxb; rw [set_same] at hx; obtain rfl := Option.some.inj hx; exact hk
      · rw [set_ne hxb] at hx; simp only [AHeap.del, if_neg hxb] at hx; exact Kn.of hx
    · by_cases hxb : x = b
      · exact .inl (by simp [hxb])
      · exact .inr (by simp [AHeap.del, hxb])
/-- A contract that changes a row in place. -/
theorem Rw.put {A B : AHeap} {n' : Nat} {xs' : List Value} (ho : Own A t sz v n xs B) (hA : ∀ b, b ∈ bs ∨ A b = C b) (hr : Rw C t sz v n xs bs) (hn : n' = n) (h : Own A t sz v n' xs' C') : Chg C C' bs ∧ Rw C' t sz v n' xs' bs := by
  subst hn
  refine ⟨fun b k hb hk => ?_, ?_⟩
  · have : A b = some k := ((hA b).resolve_left hb).trans hk
    exact h.le b k this
  · rcases hr with ⟨rfl, rfl, rfl, rfl⟩ | ⟨b, cap, rfl, rfl, hn, hc, hl, hk⟩
    · rcases h with ⟨_, _, rfl, rfl⟩ | ⟨b', cap', e, _⟩
      · exact .inl ⟨rfl, rfl, rfl, rfl⟩
      · cases e
    · rcases h with ⟨e, _⟩ | ⟨b', cap', e, hb, hn', hc', hl', rfl⟩
      · cases e
      · simp only [Value.slice.injEq, Option.some.injEq, Addr.mk.injEq] at e
        obtain ⟨⟨rfl, _⟩, _, rfl⟩ := e
        exact .inr ⟨b, cap, rfl, rfl, hn', hc', hl', Kn.same _ _ _⟩
end

theorem New.off {C C' : AHeap} {t : TypeId} {sz : Nat} {v : Value} {n : Nat} {xs : List Value} {bs bs' : List Nat} (h : New C bs) (hr : Rw C t sz v n xs bs') : ∀ b, b ∈ bs' → ¬ b ∈ bs := fun b hb hm => by
  rcases hr with ⟨_, _, _, rfl⟩ | ⟨b', cap, _, rfl, _, _, _, hk⟩
  · cases hb
  · simp at hb; subst hb; exact hk.ne (h _ hm)
theorem New.off' {C C' : AHeap} {t : TypeId} {sz : Nat} {v : Value} {n : Nat} {xs : List Value} {bs bs' : List Nat} (h : New C bs) (hr : Rw C t sz v n xs bs') : ∀ b, b ∈ bs → ¬ b ∈ bs' := fun b hb hm => h.off (C' := C) hr b hm hb
theorem rw_of {H : AHeap} {t : TypeId} {sz : Nat} {n : Nat} {xs : List Value} {K : Value → AHeap → Prop} (h : ∀ v C bs, AHeap.le H C → New H bs → Rw C t sz v n xs bs → K v C) : ∀ v H', Own H t sz v n xs H' → K v H' := fun v H' o => by
  obtain ⟨l, bs, hn, hr⟩ := o.rw_
  exact h v H' bs l hn hr
section
variable {P : Program} {w0 : World} {K : Value → AHeap → Prop} {C H : AHeap} {b o n m xc cap bytes : Nat} {k : Blk} {v x : Value} {xs news : List Value} {bs : List Nat} {t : TypeId} {z : List Value}
theorem getElem?_setR : ∀ (vs cs : List Value) (o j : Nat), o + vs.length ≤ cs.length → (setR cs o vs)[j]? = if o ≤ j ∧ j < o + vs.length then vs[j - o]? else cs[j]?
  | [], cs, o, j, _ => by simp only [setR, List.length_nil, Nat.add_zero]; rw [if_neg (by omega)]
  | v :: r, cs, o, j, h => by
    simp only [List.length_cons] at h
    simp only [setR]
    rw [getElem?_setR r _ _ _ (by simp; omega)]
    simp only [List.length_cons, List.getElem?_set]
    by_cases hj : j = o
    · subst hj
      rw [if_neg (by omega), if_pos rfl, if_pos (by omega), if_pos (by omega), Nat.sub_self]; rfl
    · by_cases hlt : o + 1 ≤ j ∧ j < o + 1 + r.length
      · rw [if_pos hlt, if_pos (by omega), show j - o = (j - (o + 1)) + 1 by omega, List.getElem?_cons_succ]
      · rw [if_neg hlt, if_neg (fun e => hj e.symm), if_neg (by omega)]
theorem set_mid {H : AHeap} {b b' : Nat} {k k' k2 : Blk} (h : ¬ b' = b) : ((H.set b k).set b' k2).set b k' = (H.set b k').set b' k2 := by
  rw [set_comm (H := H) (b := b) (b' := b') (fun e => h e.symm), set_set, set_comm h]
theorem Chg.no {C : AHeap} {bs : List Nat} : Chg C (C.no fun b => b ∈ bs) bs := fun b k hb hk => Kn.of (by rw [no_out hb]; exact hk)
theorem Chg.le_no {C C' : AHeap} {bs : List Nat} (h : Chg C C' bs) : AHeap.le (C.no fun b => b ∈ bs) C' := fun b k hk => by
  by_cases hb : b ∈ bs
  · rw [no_in hb] at hk; cases hk
  · rw [no_out hb] at hk; exact h b k hb hk
/-- A store into a block of the call's own. -/
theorem st_kn (h : Kn C b k) (ho : k.own = true) (hs : v.cells.size = n) (hl : o + n ≤ k.cells.length) (h1 : ∀ u ∈ v.cells.toList, u.oneCell' = true)
    (hK : ∀ C', Chg C C' [b] → (∀ x, ¬ x = b → C' x = C x) → Kn C' b ⟨setR k.cells o v.cells.toList, true, k.ty, k.cap⟩ → K undef C') : stK n (.pointer (some ⟨b, o, none⟩)) v K C := by
  obtain ⟨k1, e1, o1, t1, c1, r1⟩ := h
  have hlen : k.cells.length ≤ k1.cells.length := by
    rcases Nat.lt_or_ge k1.cells.length k.cells.length with hlt | hge
    · have := r1 k1.cells.length _ (List.getElem?_eq_getElem hlt)
      rw [List.getElem?_eq_none (Nat.le_refl _)] at this; cases this
    · exact hge
  refine ⟨rfl, k1, e1, o1.trans ho, hs, Nat.le_trans hl hlen, h1, hK _ (fun x k' hx hk => ?_) (fun x hx => by rw [set_ne hx]) ⟨_, set_same _ _ _, o1.trans ho, t1, c1, fun j u hu => ?_⟩⟩
  · have : ¬ x = b := by simpa using hx
    exact Kn.of (by rw [set_ne this]; exact hk)
  · have hsz : v.cells.toList.length = n := by simpa using hs
    simp only at hu ⊢
    rw [getElem?_setR _ _ _ _ (by omega)] at hu ⊢
    split
    · rename_i hj; rw [if_pos hj] at hu; exact hu
    · rename_i hj; rw [if_neg hj] at hu; exact r1 j u hu
/-- A store into a block that is known in full. -/
theorem st_known {v : Value} {K : Value → AHeap → Prop} {H : AHeap} (h : (H b).isSome = true) : stK n (.pointer (some ⟨b, o, none⟩)) v K H = ∃ k, H b = some k ∧ k.own = true ∧ v.cells.size = n ∧ o + n ≤ k.cells.length ∧ (∀ u ∈ v.cells.toList, u.oneCell' = true) ∧
    K undef (H.set b ⟨setR k.cells o v.cells.toList, k.own, k.ty, k.cap⟩) := st_eq
/-- An append to a row of the call's own. -/
theorem app_rw (hr : Rw C t z.length v n xs bs) {xa : Option Addr} (hn : Fl C xa news) (hl : news.length = m * z.length) (h1 : ∀ u ∈ news, u.oneCell' = true) (hm : n + m ≤ maxLen) (hB : (n + m) * bytes ≤ 140737488355328)
    (hK : ∀ v' C' bs', Chg C C' bs → (∀ b, b ∈ bs' → b ∈ bs ∨ C b = none) → Rw C' t z.length v' (n + m) (xs ++ news) bs' → K v' C') : appK P w0 z t bytes v (.slice xa m xc) K C := by
  rcases hr with ⟨rfl, rfl, rfl, rfl⟩ | ⟨b, cap, rfl, rfl, hnc, hc, hlen, hk⟩
  · refine .inr ⟨[], C, news, .inl (.inl ⟨rfl, rfl, rfl, rfl⟩), hl, hn, h1, hm, hB, fun v' C' ho => ?_⟩
    obtain ⟨l, bs', hb, hr⟩ := ho.rw_
    exact hK v' C' bs' (.of_le l) (fun b hb' => .inr (hb b hb')) hr
  · obtain ⟨k1, e1, o1, t1, c1, r1⟩ := hk
    have hlen' : n * z.length ≤ k1.cells.length := by
      rcases Nat.eq_zero_or_pos (n * z.length) with h0 | h0
      · omega
      · have := r1 (n * z.length - 1) _ (List.getElem?_eq_getElem (by simp only; omega))
        have := (List.getElem?_eq_some_iff.1 this).1
        omega
    refine .inr ⟨xs, C.del b, news, .inl (.inr ⟨b, cap, k1, rfl, e1, o1, t1, c1, hnc, hc, hlen', ?_, rfl⟩), hl, hn, h1, hm, hB, fun v' C' ho => ?_⟩
    · apply List.ext_getElem?
      intro j
      rw [List.getElem?_take]
      split
      · rename_i hj
        rw [List.getElem?_eq_getElem (by omega)]
        exact (r1 j _ (List.getElem?_eq_getElem (by simp only; omega))).symm
      · rw [List.getElem?_eq_none (by omega)]
    · obtain ⟨l, bs', hb, hr⟩ := ho.rw_
      refine hK v' C' bs' (fun x k' hx hk' => ?_) (fun x hx => ?_) hr
      · have : ¬ x = b := by simpa using hx
        exact l x k' (by simp only [AHeap.del, if_neg this]; exact hk')
      · have h0 := hb x hx
        by_cases hxb : x = b
        · exact .inl (by simp [hxb])
        · simp only [AHeap.del, if_neg hxb] at h0; exact .inr h0
/-- The first m elements of a row of the call's own. -/
theorem Rw.cut_ {b cap m : Nat} {sz : Nat} (h : Kn C b ⟨xs, true, t, cap * sz⟩) (hl : xs.length = n * sz) (hm : m ≤ n) : Kn C b ⟨xs.take (m * sz), true, t, cap * sz⟩ ∧ (xs.take (m * sz)).length = m * sz :=
  ⟨h.weaken (fun j v hv => by
    rw [List.getElem?_take] at hv
    split at hv
    · exact hv
    · cases hv), by rw [List.length_take, hl]; exact Nat.min_eq_left (Nat.mul_le_mul_right _ hm)⟩

/-! Loops that count from 0 to n; loops with a measure. -/
theorem for_rule {fr : Fr} {c : XC} {Q : Exit → Fr → AHeap → Prop} (n : Nat) (I : Nat → Fr → AHeap → Prop) (h0 : I 0 fr H)
    (step : ∀ k fr H, k < n → I k fr H → ∀ N : Fr → AHeap → Prop, (∀ fr' H' H'', AHeap.le H'' H' → I (k + 1) fr' H'' → N fr' H') → sx P w0 c (thenK N Q) fr H)
    (done : ∀ fr H, I n fr H → ∀ N : Fr → AHeap → Prop, sx P w0 c (thenK N Q) fr H) : sx P w0 (.loop c) Q fr H := by
  refine ⟨fun m fr H => ∃ k : Nat, m = n - k ∧ k ≤ n ∧ I k fr H, n, ⟨0, rfl, Nat.zero_le _, h0⟩, ?_⟩
  rintro m fr H ⟨k, rfl, hk, hI⟩
  by_cases hlt : k < n
  · exact step k fr H hlt hI _ fun fr' H' H'' hl hI' => ⟨_, H'', by omega, hl, k + 1, rfl, by omega, hI'⟩
  · obtain rfl : k = n := by omega
    exact done fr H hI _
theorem while_rule {fr : Fr} {c : XC} {Q : Exit → Fr → AHeap → Prop} (I : Nat → Fr → AHeap → Prop) (m : Nat) (h0 : I m fr H)
    (step : ∀ m fr H, I m fr H → ∀ N : Fr → AHeap → Prop, (∀ m' fr' H' H'', m' < m → AHeap.le H'' H' → I m' fr' H'' → N fr' H') → sx P w0 c (thenK N Q) fr H) : sx P w0 (.loop c) Q fr H :=
  ⟨I, m, h0, fun m fr H hI => step m fr H hI _ fun m' fr' H' H'' hlt hl hI' => ⟨m', H'', hlt, hl, hI'⟩⟩
end
end Go.Proofs.Ytfjhjfddgdokgaa
