/- The statement FnExactCompileTask holds for all arguments; part 2 of the texts that show it. No further condition. -/
import Derived.Test.YtfjhjfddgdokgaaFnExactCompileTaskP1
import Derived.ChangeKeysEq
namespace Go.Proofs.Ytfjhjfddgdokgaa
set_option linter.all false
open Go Go.RowKit
/-- How many elements there are in all. -/
def tot (sz : Nat) (L : List (List Value)) : Nat := (L.map fun x => x.length / sz).sum
/-- A fact: its kind and its number. -/
structure Fc where
  kind : Int
  n : Int
  deriving DecidableEq
abbrev Fc.cells (f : Fc) : List Value := [.int .i64 f.kind, .int .i64 f.n]
abbrev Fc.val (f : Fc) : Value := .agg #[.int .i64 f.kind, .int .i64 f.n]
/-- M is L, its rows marked one behind the other from k on. -/
def Marked (sz : Nat) (mk : Int → Nat → List Value) (k w : Int) (L M : List (List Value)) : Prop :=
  M.length = L.length ∧ ∀ i (hi : i < L.length) n, L[i].length = n * sz → M[i]? = some (mk (k + w * (tot sz (L.take i) : Int)) n)
def Midd (sz : Nat) (mk : Int → Nat → List Value) (k w : Int) (L M : List (List Value)) (j : Nat) : Prop :=
  M.length = L.length ∧ (∀ i (hi : i < L.length), i < j → ∀ n, L[i].length = n * sz → M[i]? = some (mk (k + w * (tot sz (L.take i) : Int)) n)) ∧ ∀ i, j ≤ i → M[i]? = L[i]?
section
variable {sz : Nat} {mk : Int → Nat → List Value} {k w : Int} {L M : List (List Value)} {j n : Nat}
theorem Midd.at_ (h : Midd sz mk k w L M j) (hj : j < L.length) : M[j]'(by rw [h.1]; exact hj) = L[j] := by
  have := h.2.2 j (Nat.le_refl _)
  rw [List.getElem?_eq_getElem hj, List.getElem?_eq_getElem (by rw [h.1]; exact hj)] at this
  exact Option.some.inj this
theorem Midd.step (h : Midd sz mk k w L M j) (hj : j < L.length) (hn : L[j].length = n * sz) (hs : 0 < sz := by decide) : Midd sz mk k w L (M.set j (mk (k + w * (tot sz (L.take j) : Int)) n)) (j + 1) := by
  refine ⟨by rw [List.length_set]; exact h.1, fun i hi hij n' hn' => ?_, fun i hij => ?_⟩
  · rw [List.getElem?_set]
    by_cases e : j = i
    · subst e
      rw [if_pos rfl, if_pos (by rw [h.1]; exact hj)]
      rw [hn] at hn'
      obtain rfl := Nat.eq_of_mul_eq_mul_right hs hn'
      rfl
    · rw [if_neg e]; exact h.2.1 i hi (by omega) n' hn'
  · rw [List.getElem?_set, if_neg (by omega)]; exact h.2.2 i (by omega)
theorem Marked.at_ (h : Marked sz mk k w L M) {i : Nat} (hi : i < L.length) (hn : L[i].length = n * sz) : M[i]'(by rw [h.1]; exact hi) = mk (k + w * (tot sz (L.take i) : Int)) n := by
  have := h.2 i hi n hn
  rw [List.getElem?_eq_getElem (by rw [h.1]; exact hi)] at this
  exact Option.some.inj this
theorem Midd.done (h : Midd sz mk k w L M L.length) : Marked sz mk k w L M := ⟨h.1, fun i hi n hn => h.2.1 i hi hi n hn⟩
end
end Go.Proofs.Ytfjhjfddgdokgaa
namespace Go.Proofs.Ytfjhjfddgdokgaa
set_option linter.all false
open Go Go.RowKit
section
variable {P : Program} {w : World}
end
section
variable {α : Type} {f : α → List Value} {w : Nat}
end
section
variable {H : AHeap} {b n : Nat} {k : Blk} {A : Option Addr}
theorem Kn.rdn {C : AHeap} {l : List Value} (h : Kn C b k) {o : Nat} (hl : ∀ j, j < l.length → k.cells[o + j]? = l[j]?) : C.rdn (some ⟨b, o, none⟩) l.length = some l := by
  refine rdn_of rfl fun j v hj => ?_
  have := (List.getElem?_eq_some_iff.1 hj).1
  rw [adr_lit]
  exact h.cell (by rw [hl j this]; exact hj)
theorem Fl.rdn {C : AHeap} {vs l : List Value} (h : Fl C A vs) {o : Nat} (hl : ∀ j, j < l.length → vs[o + j]? = l[j]?) : C.rdn (adr A o) l.length = some l := by
  refine rdn_of rfl fun j v hj => ?_
  have := (List.getElem?_eq_some_iff.1 hj).1
  rw [adr_adr]
  exact h (o + j) v (by rw [hl j this]; exact hj)
end
end Go.Proofs.Ytfjhjfddgdokgaa
namespace Go.Proofs.Ytfjhjfddgdokgaa
set_option linter.all false
open Go Go.RowKit
set_option maxRecDepth 100000
variable (w0 : World)
section
variable (B : Nat → Prop) (H : AHeap)
mutual
/-- The slices of an expression lead to own blocks of B (whatever the numbers are). -/
def ShE : Ex → List Value → Prop
  | .mk _ _ args, cs => ∃ (op n : Int) (b c : Nat), cs = [.int .i64 op, .int .i64 n, .slice (some ⟨b, 0, none⟩) args.length c] ∧ ShER args b 0
def ShER : List Ex → Nat → Nat → Prop
  | [], _, _ => True
  | e :: es, b, i => (∃ k cs, B b ∧ Kn H b k ∧ k.own = true ∧ (∀ j, j < 3 → k.cells[i * 3 + j]? = cs[j]?) ∧ ShE e cs) ∧ ShER es b (i + 1)
end
mutual
def ShV : St → List Value → Prop
  | .mk _ _ _ e body els, cs => ∃ (k v b op n : Int) (b0 c0 b1 c1 b2 c2 : Nat), cs = [.int .i64 k, .int .i64 v, .int .i64 b, .int .i64 op, .int .i64 n, .slice (some ⟨b0, 0, none⟩) e.args.length c0, .slice (some ⟨b1, 0, none⟩) body.length c1, .slice (some ⟨b2, 0, none⟩) els.length c2] ∧
      ShER B H e.args b0 0 ∧ ShR body b1 0 ∧ ShR els b2 0
def ShR : List St → Nat → Nat → Prop
  | [], _, _ => True
  | s :: ss, b, i => (∃ k cs, B b ∧ Kn H b k ∧ k.own = true ∧ (∀ j, j < 8 → k.cells[i * 8 + j]? = cs[j]?) ∧ ShV s cs) ∧ ShR ss b (i + 1)
end
end
/-- Two values that differ at most as numbers. -/
def Like (v w : Value) : Prop := w = v ∨ ∃ m n, v = .int .i64 m ∧ w = .int .i64 n
theorem Like.trans {u v w : Value} (h : Like u v) (h' : Like v w) : Like u w := by
  rcases h with rfl | ⟨m, n, rfl, rfl⟩
  · exact h'
  · rcases h' with rfl | ⟨m', n', e, rfl⟩
    · exact .inr ⟨m, n, rfl, rfl⟩
    · exact .inr ⟨m, n', rfl, rfl⟩
/-- Outside B nothing has changed, in B only numbers. -/
structure MkL (B : Nat → Prop) (H H' : AHeap) : Prop where
  out : ∀ b k, ¬ B b → H b = some k → Kn H' b k
  in_ : ∀ b k, Kn H b k → ∃ k', Kn H' b k' ∧ k'.own = k.own ∧ ∀ (j : Nat) (v : Value), k.cells[j]? = some v → ∃ w, k'.cells[j]? = some w ∧ Like v w
theorem MkL.of_le {B : Nat → Prop} {H H' : AHeap} (h : AHeap.le H H') : MkL B H H' := ⟨fun b k _ hk => (Kn.of hk).trans h, fun b k hk => ⟨k, hk.trans h, rfl, fun j v hv => ⟨v, hv, .inl rfl⟩⟩⟩
theorem MkL.refl (B : Nat → Prop) (H : AHeap) : MkL B H H := .of_le (.refl H)
theorem MkL.trans {B : Nat → Prop} {H H' H'' : AHeap} (h : MkL B H H') (h' : MkL B H' H'') : MkL B H H'' := by
  refine ⟨fun b k hb hk => ?_, fun b k hk => ?_⟩
  · obtain ⟨k1, e1, o1, t1, c1, r1⟩ := h.out b k hb hk
    obtain ⟨k2, e2, o2, t2, c2, r2⟩ := h'.out b k1 hb e1
    exact ⟨k2, e2, o2.trans o1, t2.trans t1, c2.trans c1, fun j v hv => r2 j v (r1 j v hv)⟩
  · obtain ⟨k1, e1, o1, r1⟩ := h.in_ b k hk
    obtain ⟨k2, e2, o2, r2⟩ := h'.in_ b k1 e1
    refine ⟨k2, e2, o2.trans o1, fun j v hv => ?_⟩
    obtain ⟨w, hw, l⟩ := r1 j v hv
    obtain ⟨u, hu, l'⟩ := r2 j w hw
    exact ⟨u, hu, l.trans l'⟩
/-- What is known without B stands. -/
theorem MkL.le {B : Nat → Prop} {F H H' : AHeap} (h : MkL B H H') (hl : AHeap.le F H) (hF : ∀ x, B x → F x = none) : AHeap.le F H' := fun b k hk => by
  have hb : ¬ B b := fun hb => by rw [hF b hb] at hk; cases hk
  obtain ⟨k1, e1, o1, t1, c1, r1⟩ := hl b k hk
  obtain ⟨k2, e2, o2, t2, c2, r2⟩ := h.out b k1 hb e1
  exact ⟨k2, e2, o2.trans o1, t2.trans t1, c2.trans c1, fun j v hv => r2 j v (r1 j v hv)⟩
/-- Cells that differ at most as numbers. -/
def LikeL (cs ds : List Value) : Prop := ∀ (j : Nat) (v : Value), cs[j]? = some v → ∃ w, ds[j]? = some w ∧ Like v w
theorem like_slice {v : Value} {A : Option Addr} {n c : Nat} (h : Like (.slice A n c) v) : v = .slice A n c := by
  rcases h with rfl | ⟨m, n', e, _⟩
  · rfl
  · cases e
theorem like_int {v : Value} {m : Int} (h : Like (.int .i64 m) v) : ∃ n, v = .int .i64 n := by
  rcases h with rfl | ⟨_, n, _, rfl⟩
  · exact ⟨m, rfl⟩
  · exact ⟨n, rfl⟩
mutual
theorem ShE.go {B B' : Nat → Prop} {H H' : AHeap} (hm : MkL B H H') (hB : ∀ x, B x → B' x) : ∀ {e : Ex} {cs ds : List Value}, ShE B H e cs → ds.length = 3 → LikeL cs ds → ShE B' H' e ds
  | .mk op n args, cs, ds, h, h3, hl => by
    simp only [ShE] at h ⊢
    obtain ⟨op', n', b, c, rfl, hr⟩ := h
    match ds, h3 with
    | [d0, d1, d2], _ =>
      obtain ⟨w0, e0, l0⟩ := hl 0 _ rfl
      obtain ⟨w1, e1, l1⟩ := hl 1 _ rfl
      obtain ⟨w2, e2, l2⟩ := hl 2 _ rfl
      simp only [List.getElem?_cons_zero, List.getElem?_cons_succ, Option.some.injEq] at e0 e1 e2
      subst e0 e1 e2
      obtain ⟨m0, rfl⟩ := like_int l0
      obtain ⟨m1, rfl⟩ := like_int l1
      obtain rfl := like_slice l2
      exact ⟨m0, m1, b, c, rfl, ShER.go hm hB hr⟩
theorem ShER.go {B B' : Nat → Prop} {H H' : AHeap} (hm : MkL B H H') (hB : ∀ x, B x → B' x) : ∀ {es : List Ex} {b i : Nat}, ShER B H es b i → ShER B' H' es b i
  | [], _, _, _ => by simp only [ShER]
  | e :: es, b, i, h => by
    simp only [ShER] at h ⊢
    obtain ⟨⟨k, cs, hb, kn, ho, hc, hv⟩, hr⟩ := h
    obtain ⟨k', kn', ho', hl⟩ := hm.in_ b k kn
    have h3 : cs.length = 3 := by
      cases e with
      | mk op n args => simp only [ShE] at hv; obtain ⟨_, _, _, _, rfl, _⟩ := hv; rfl
    have hg : ∀ j, j < 3 → ∃ w, k'.cells[i * 3 + j]? = some w ∧ Like (cs.getD j undef) w := fun j hj => by
      have := hc j hj
      rw [List.getElem?_eq_getElem (l := cs) (i := j) (by omega)] at this
      obtain ⟨w, hw, l⟩ := hl _ _ this
      exact ⟨w, hw, by rw [List.getD, List.getElem?_eq_getElem (by omega)]; exact l⟩
    obtain ⟨w0, e0, l0⟩ := hg 0 (by omega)
    obtain ⟨w1, e1, l1⟩ := hg 1 (by omega)
    obtain ⟨w2, e2, l2⟩ := hg 2 (by omega)
    refine ⟨⟨k', [w0, w1, w2], hB b hb, kn', ho'.trans ho, fun j hj => ?_, ShE.go hm hB hv rfl fun j v hv' => ?_⟩, ShER.go hm hB hr⟩
    · match j, hj with
      | 0, _ => exact e0
      | 1, _ => exact e1
      | 2, _ => exact e2
    · have hj : j < 3 := by rw [← h3]; exact (List.getElem?_eq_some_iff.1 hv').1
      match j, hj with
      | 0, _ => exact ⟨w0, rfl, by rw [List.getD, hv'] at l0; exact l0⟩
      | 1, _ => exact ⟨w1, rfl, by rw [List.getD, hv'] at l1; exact l1⟩
      | 2, _ => exact ⟨w2, rfl, by rw [List.getD, hv'] at l2; exact l2⟩
end
mutual
theorem ShV.go {B B' : Nat → Prop} {H H' : AHeap} (hm : MkL B H H') (hB : ∀ x, B x → B' x) : ∀ {s : St} {cs ds : List Value}, ShV B H s cs → ds.length = 8 → LikeL cs ds → ShV B' H' s ds
  | .mk k v b e body els, cs, ds, h, h3, hl => by
    simp only [ShV] at h ⊢
    obtain ⟨k', v', b', op', n', b0, c0, b1, c1, b2, c2, rfl, hr0, hr1, hr2⟩ := h
    match ds, h3 with
    | [d0, d1, d2, d3, d4, d5, d6, d7], _ =>
      obtain ⟨w0, e0, l0⟩ := hl 0 _ rfl
      obtain ⟨w1, e1, l1⟩ := hl 1 _ rfl
      obtain ⟨w2, e2, l2⟩ := hl 2 _ rfl
      obtain ⟨w3, e3, l3⟩ := hl 3 _ rfl
      obtain ⟨w4, e4, l4⟩ := hl 4 _ rfl
      obtain ⟨w5, e5, l5⟩ := hl 5 _ rfl
      obtain ⟨w6, e6, l6⟩ := hl 6 _ rfl
      obtain ⟨w7, e7, l7⟩ := hl 7 _ rfl
      simp only [List.getElem?_cons_zero, List.getElem?_cons_succ, Option.some.injEq] at e0 e1 e2 e3 e4 e5 e6 e7
      subst e0 e1 e2 e3 e4 e5 e6 e7
      obtain ⟨m0, rfl⟩ := like_int l0
      obtain ⟨m1, rfl⟩ := like_int l1
      obtain ⟨m2, rfl⟩ := like_int l2
      obtain ⟨m3, rfl⟩ := like_int l3
      obtain ⟨m4, rfl⟩ := like_int l4
      obtain rfl := like_slice l5
      obtain rfl := like_slice l6
      obtain rfl := like_slice l7
      exact ⟨m0, m1, m2, m3, m4, b0, c0, b1, c1, b2, c2, rfl, ShER.go hm hB hr0, ShR.go hm hB hr1, ShR.go hm hB hr2⟩
theorem ShR.go {B B' : Nat → Prop} {H H' : AHeap} (hm : MkL B H H') (hB : ∀ x, B x → B' x) : ∀ {ss : List St} {b i : Nat}, ShR B H ss b i → ShR B' H' ss b i
  | [], _, _, _ => by simp only [ShR]
  | s :: ss, b, i, h => by
    simp only [ShR] at h ⊢
    obtain ⟨⟨k, cs, hb, kn, ho, hc, hv⟩, hr⟩ := h
    obtain ⟨k', kn', ho', hl⟩ := hm.in_ b k kn
    have h8 : cs.length = 8 := by
      cases s with
      | mk k v b e body els => simp only [ShV] at hv; obtain ⟨_, _, _, _, _, _, _, _, _, _, _, rfl, _⟩ := hv; rfl
    have hk8 : ∀ j, j < 8 → ∃ w, k'.cells[i * 8 + j]? = some w ∧ Like (cs.getD j undef) w := fun j hj => by
      have := hc j hj
      rw [List.getElem?_eq_getElem (l := cs) (i := j) (by omega)] at this
      obtain ⟨w, hw, l⟩ := hl _ _ this
      exact ⟨w, hw, by rw [List.getD, List.getElem?_eq_getElem (by omega)]; exact l⟩
    have hsz : i * 8 + 8 ≤ k'.cells.length := by
      obtain ⟨w, hw, _⟩ := hk8 7 (by omega)
      have := (List.getElem?_eq_some_iff.1 hw).1
      omega
    have hd : ∀ j, j < 8 → k'.cells[i * 8 + j]? = ((k'.cells.drop (i * 8)).take 8)[j]? := fun j hj => by
      rw [List.getElem?_take_of_lt hj, List.getElem?_drop]
    refine ⟨⟨k', (k'.cells.drop (i * 8)).take 8, hB b hb, kn', ho'.trans ho, hd, ShV.go hm hB hv (by simp; omega) fun j v hv' => ?_⟩, ShR.go hm hB hr⟩
    have hj : j < 8 := by rw [← h8]; exact (List.getElem?_eq_some_iff.1 hv').1
    obtain ⟨w, hw, l⟩ := hk8 j hj
    rw [List.getD, hv'] at l
    exact ⟨w, by rw [← hd j hj]; exact hw, l⟩
end
theorem ShV.le {B B' : Nat → Prop} {H H' : AHeap} (hl : AHeap.le H H') (hB : ∀ x, B x → B' x) {s : St} {cs : List Value} (h : ShV B H s cs) : ShV B' H' s cs := by
  refine h.go (.of_le hl) hB ?_ fun j v hv => ⟨v, hv, .inl rfl⟩
  cases s with
  | mk k v b e body els => simp only [ShV] at h; obtain ⟨_, _, _, _, _, _, _, _, _, _, _, rfl, _⟩ := h; rfl
theorem ShER.at_ {B : Nat → Prop} {H : AHeap} : ∀ {es : List Ex} {b i : Nat}, ShER B H es b i → ∀ {k : Nat} (hk : k < es.length), ∃ kk cs, B b ∧ Kn H b kk ∧ kk.own = true ∧ (∀ j, j < 3 → kk.cells[(i + k) * 3 + j]? = cs[j]?) ∧ ShE B H es[k] cs
  | e :: es, b, i, h, 0, _ => by simp only [ShER] at h; exact h.1
  | e :: es, b, i, h, k + 1, hk => by
    simp only [ShER] at h
    have := h.2.at_ (k := k) (by simpa using hk)
    rw [show i + 1 + k = i + (k + 1) by omega] at this
    exact this
theorem ShR.at_ {B : Nat → Prop} {H : AHeap} : ∀ {ss : List St} {b i : Nat}, ShR B H ss b i → ∀ {k : Nat} (hk : k < ss.length), ∃ kk cs, B b ∧ Kn H b kk ∧ kk.own = true ∧ (∀ j, j < 8 → kk.cells[(i + k) * 8 + j]? = cs[j]?) ∧ ShV B H ss[k] cs
  | s :: ss, b, i, h, 0, _ => by simp only [ShR] at h; exact h.1
  | s :: ss, b, i, h, k + 1, hk => by
    simp only [ShR] at h
    have := h.2.at_ (k := k) (by simpa using hk)
    rw [show i + 1 + k = i + (k + 1) by omega] at this
    exact this
theorem shR_of {B : Nat → Prop} {H : AHeap} {b : Nat} : ∀ (ss : List St) (i : Nat), (∀ k (hk : k < ss.length), ∃ kk cs, B b ∧ Kn H b kk ∧ kk.own = true ∧ (∀ j, j < 8 → kk.cells[(i + k) * 8 + j]? = cs[j]?) ∧ ShV B H ss[k] cs) → ShR B H ss b i
  | [], _, _ => by simp only [ShR]
  | s :: ss, i, h => by
    simp only [ShR]
    refine ⟨h 0 (by simp), shR_of ss (i + 1) fun k hk => ?_⟩
    have := h (k + 1) (by simpa using hk)
    rw [show i + 1 + k = i + (k + 1) by omega]
    exact this
theorem shER_of {B : Nat → Prop} {H : AHeap} {b : Nat} : ∀ (es : List Ex) (i : Nat), (∀ k (hk : k < es.length), ∃ kk cs, B b ∧ Kn H b kk ∧ kk.own = true ∧ (∀ j, j < 3 → kk.cells[(i + k) * 3 + j]? = cs[j]?) ∧ ShE B H es[k] cs) → ShER B H es b i
  | [], _, _ => by simp only [ShER]
  | s :: ss, i, h => by
    simp only [ShER]
    refine ⟨h 0 (by simp), shER_of ss (i + 1) fun k hk => ?_⟩
    have := h (k + 1) (by simpa using hk)
    rw [show i + 1 + k = i + (k + 1) by omega]
    exact this
theorem Tr.sh {H : AHeap} {e : Ex} {cs : List Value} {B B' : Nat → Prop} (h : Tr H e cs B) (hB : ∀ x, B x → B' x) : ShE B' H e cs := by
  induction h generalizing B' with
  | mk op n args b k B Bs hk ho hl hm hb hB1 hd ha ih =>
    simp only [ShE]
    refine ⟨op, n, b, _, rfl, shER_of args 0 fun i hi => ⟨k, at3 k.cells i, hB b hb, .of hk, ho, fun j hj => ?_, ih i hi fun x hx => hB x (hB1 i hi x hx).1⟩⟩
    rw [Nat.zero_add]
    match j, hj with
    | 0, _ => simp [at3, List.getD, show i * 3 < k.cells.length by omega]
    | 1, _ => simp [at3, List.getD, show i * 3 + 1 < k.cells.length by omega]
    | 2, _ => simp [at3, List.getD, show i * 3 + 2 < k.cells.length by omega]
end Go.Proofs.Ytfjhjfddgdokgaa
namespace Go.Proofs.Ytfjhjfddgdokgaa
set_option linter.all false
open Go Go.RowKit
theorem nat_add {a b : Nat} (h : a + b ≤ 4611686018427387904) : IntKind.i64.wrap ((a : Int) + (b : Int)) = ((a + b : Nat) : Int) := by rw [wrap_i64 (by omega) (by omega)]; omega
theorem nat_up {a : Nat} (h : a ≤ 4611686018427387904) : IntKind.i64.wrap ((a : Int) + 1) = ((a + 1 : Nat) : Int) := by rw [wrap_i64 (by omega) (by omega)]; omega
/-- v is a row of the call's own, over H. -/
def Row (H C : AHeap) (t : TypeId) (sz : Nat) (v : Value) (n : Nat) (xs : List Value) : Prop := ∃ bs, AHeap.le H C ∧ New H bs ∧ Rw C t sz v n xs bs
section
variable {P : Program} {w0 : World} {K : Value → AHeap → Prop} {H H' B C C' C2 : AHeap} {t : TypeId} {sz n m b : Nat} {v : Value} {xs news : List Value}
theorem Row.hle (h : Row H C t sz v n xs) : AHeap.le H C := by obtain ⟨_, l, _⟩ := h; exact l
theorem Row.le (h : Row H C t sz v n xs) (l : AHeap.le C C') : Row H C' t sz v n xs := by
  obtain ⟨bs, l0, nb, w⟩ := h
  exact ⟨bs, l0.trans l, nb, w.trans l⟩
theorem Row.base (h : Row H C t sz v n xs) (l : AHeap.le H' H) : Row H' C t sz v n xs := by
  obtain ⟨bs, l0, nb, w⟩ := h
  exact ⟨bs, l.trans l0, nb.le l, w⟩
theorem Row.fl (h : Row H C t sz v n xs) : ∃ A c, v = .slice A n c ∧ Fl C A xs := by
  obtain ⟨bs, l0, nb, w⟩ := h
  exact w.fl
theorem Row.fl' {A : Option Addr} {n' c : Nat} (h : Row H C t sz (.slice A n' c) n xs) : Fl C A xs ∧ n' = n := by
  obtain ⟨bs, l0, nb, w⟩ := h
  exact w.fl'
theorem Row.len (h : Row H C t sz v n xs) : xs.length = n * sz := by
  obtain ⟨bs, l0, nb, w⟩ := h
  exact w.len
theorem Row.nil_ (H : AHeap) (t : TypeId) (sz : Nat) : Row H H t sz (.slice none 0 0) 0 [] := ⟨[], .refl _, New.nil _, Rw.nil_ _ _ _⟩
theorem Row.lit0 (hb : H b = none) : Row H (H.set b ⟨[], true, t, 0⟩) t sz (.slice (some ⟨b, 0, none⟩) 0 0) 0 [] :=
  ⟨[b], (AHeap.le.refl H).fresh hb _, New.one hb, Rw.mk (cap := 0) (by rw [Nat.zero_mul]; exact Kn.same _ _ _) (by simp) (Nat.le_refl _) (by decide)⟩
/-- A row made by a literal. -/
theorem Row.lit (hb : H b = none) {c : Nat} (hc : c = n * sz) (hl : xs.length = n * sz) (hm : n ≤ maxLen) : Row H (H.set b ⟨xs, true, t, c⟩) t sz (.slice (some ⟨b, 0, none⟩) n n) n xs := by
  subst hc
  exact ⟨[b], (AHeap.le.refl H).fresh hb _, New.one hb, Rw.mk (Kn.same _ _ _) hl (Nat.le_refl _) hm⟩
/-- Append what can be read. -/
theorem Row.app {z : List Value} {bytes : Nat} {xa : Option Addr} {xc : Nat} (h : Row H C t z.length v n xs) (hf : Fl C xa news) (hl : news.length = m * z.length) (h1 : ∀ u ∈ news, u.oneCell' = true) (hm : n + m ≤ maxLen) (hB : (n + m) * bytes ≤ 140737488355328)
    (hK : ∀ v' C', Row H C' t z.length v' (n + m) (xs ++ news) → K v' C') : appK P w0 z t bytes v (.slice xa m xc) K C := by
  obtain ⟨bs, l, nb, w⟩ := h
  refine app_rw w hf hl h1 hm hB fun v' C' bs' hc hn hr => hK v' C' ⟨bs', hc.keep l nb, fun x hx => ?_, hr⟩
  rcases hn x hx with h | h
  · exact nb x h
  · exact l.none h
/-- Append one literal element. -/
theorem Row.app1 {z : List Value} {bytes : Nat} {xc : Nat} (h : Row H C t z.length v n xs) (hb : C b = none) {o : Bool} {t' : TypeId} {c : Nat} (hl : news.length = m * z.length) (h1 : ∀ u ∈ news, u.oneCell' = true) (hm : n + m ≤ maxLen) (hB : (n + m) * bytes ≤ 140737488355328)
    (hK : ∀ v' C', Row H C' t z.length v' (n + m) (xs ++ news) → K v' C') : appK P w0 z t bytes v (.slice (some ⟨b, 0, none⟩) m xc) K (C.set b ⟨news, o, t', c⟩) :=
  (h.le ((AHeap.le.refl C).fresh hb _)).app (Fl.blk _ _ _ _ fun _ _ h => h) hl h1 hm hB hK
/-- The row, over all else that is known behind it. -/
theorem Row.cut (h : Row H C t sz v n xs) (l : AHeap.le C C2) : ∃ B, AHeap.le H B ∧ AHeap.le B C2 ∧ Row B C2 t sz v n xs ∧ ∀ (t2 : TypeId) (sz2 : Nat) (v2 : Value) (n2 : Nat) (xs2 : List Value), Row C C2 t2 sz2 v2 n2 xs2 → Row H B t2 sz2 v2 n2 xs2 := by
  obtain ⟨bs, l0, nb, w⟩ := h
  have hB := le_no (B := fun b => b ∈ bs) (l0.trans l) nb
  refine ⟨C2.no fun b => b ∈ bs, hB, no_le _ _, ⟨bs, no_le _ _, fun x hx => no_in hx, w.trans l⟩, fun t2 sz2 v2 n2 xs2 h2 => ?_⟩
  obtain ⟨bs2, l2, nb2, w2⟩ := h2
  refine ⟨bs2, hB, nb2.le l0, w2.chg Chg.no fun x hx hm => ?_⟩
  rcases w with ⟨_, _, _, rfl⟩ | ⟨b', cap, _, rfl, _, _, _, hk⟩
  · cases hm
  · simp only [List.mem_cons, List.not_mem_nil, or_false] at hm
    subst hm
    exact hk.ne (nb2 _ hx)
end
end Go.Proofs.Ytfjhjfddgdokgaa
namespace Go.Proofs.Ytfjhjfddgdokgaa
set_option linter.all false
open Go Go.RowKit
/-- What C' knows of the blocks that C does not know. -/
def AHeap.off (C' C : AHeap) : AHeap := fun x => if (C x).isSome then none else C' x
theorem off_le (C' C : AHeap) : AHeap.le (C'.off C) C' := fun x k hx => by
  simp only [AHeap.off] at hx
  split at hx
  · cases hx
  · exact ⟨k, hx, rfl, rfl, rfl, fun _ _ h => h⟩
theorem off_at {C' C : AHeap} {x : Nat} (h : C x = none) : C'.off C x = C' x := by simp [AHeap.off, h]
theorem off_some {C' C : AHeap} {x : Nat} {k : Blk} (h : C'.off C x = some k) : C x = none ∧ C' x = some k := by
  simp only [AHeap.off] at h
  split at h
  · cases h
  · rename_i hn; exact ⟨by simpa using hn, h⟩
theorem setR_mid {xs ys vs : List Value} {o : Nat} (ho : o = xs.length) (hl : vs.length ≤ ys.length) : setR (xs ++ ys) o vs = (xs ++ vs) ++ ys.drop vs.length := by
  subst ho
  apply List.ext_getElem?
  intro j
  rw [getElem?_setR _ _ _ _ (by rw [List.length_append]; omega)]
  by_cases h1 : j < xs.length
  · rw [if_neg (by omega), List.getElem?_append_left h1, List.append_assoc, List.getElem?_append_left h1]
  · by_cases h2 : j < xs.length + vs.length
    · rw [if_pos (by omega), List.getElem?_append_left (by rw [List.length_append]; omega), List.getElem?_append_right (by omega)]
    · rw [if_neg (by omega), List.getElem?_append_right (by omega), List.getElem?_append_right (by rw [List.length_append]; omega), List.getElem?_drop, List.length_append]
      congr 1; omega
section
variable {H C C' C1 C2 D : AHeap} {b x : Nat} {k : Blk} {bs bs' : List Nat}
theorem kn_off {k : Blk} (hx : H x = none) (hk : Kn C x k) : Kn (C.off H) x k := by
  obtain ⟨k1, h1, r⟩ := hk
  exact ⟨k1, by rw [off_at hx]; exact h1, r⟩
/-- Blocks that were made by a call, beside a row that grows or changes. -/
theorem off_made (lH : AHeap.le H C) (hc : Chg C1 C2 bs) (hb : ∀ y, y ∈ bs → C y ≠ none) (hn : ∀ y, y ∈ bs' → y ∈ bs ∨ C1 y = none) : AHeap.le (C1.off C) ((C2.off H).no fun y => y ∈ bs') := fun x k hx => by
  obtain ⟨h1, h2⟩ := off_some hx
  have hnb : ¬ x ∈ bs := fun hm => hb x hm h1
  have hnb' : ¬ x ∈ bs' := fun hm => (hn x hm).elim hnb fun e => by rw [e] at h2; cases h2
  obtain ⟨k2, h4, r⟩ := hc x k hnb h2
  exact ⟨k2, by rw [no_out hnb', off_at (lH.none h1)]; exact h4, r⟩
/-- What stood beside the row before. -/
theorem off_stay (l : AHeap.le C C1) (hc : Chg C1 C2 bs) (hn : ∀ y, y ∈ bs' → y ∈ bs ∨ C1 y = none) : AHeap.le ((C.off H).no fun y => y ∈ bs) ((C2.off H).no fun y => y ∈ bs') := fun x k hx => by
  by_cases hm : x ∈ bs
  · rw [no_in (B := fun y => y ∈ bs) hm] at hx; cases hx
  · rw [no_out (B := fun y => y ∈ bs) hm] at hx
    obtain ⟨h1, h2⟩ := off_some hx
    have h3 := (show Kn C1 x k from (Kn.of h2).trans l)
    have hnb' : ¬ x ∈ bs' := fun h => (hn x h).elim hm fun e => h3.ne e
    obtain ⟨k2, h4, r⟩ := h3.chg hc hm
    exact ⟨k2, by rw [no_out hnb', off_at h1]; exact h4, r⟩
end
end Go.Proofs.Ytfjhjfddgdokgaa
namespace Go.Proofs.Ytfjhjfddgdokgaa
set_option linter.all false
open Go Go.RowKit
set_option maxRecDepth 100000
variable (w0 : World)
/-- Cells that read as a statement, all its blocks the call's own. -/
abbrev TwV (D : AHeap) (s : St) (cs : List Value) : Prop := StV D s cs ∧ ShV (fun _ => True) D s cs
abbrev TwR (D : AHeap) (ss : List St) (b : Nat) : Prop := StR D ss (some ⟨b, 0, none⟩) 0 ∧ ShR (fun _ => True) D ss b 0
theorem TwV.le {D D' : AHeap} {s : St} {cs : List Value} (h : TwV D s cs) (hl : AHeap.le D D') : TwV D' s cs := ⟨StV.le hl h.1, h.2.le hl fun _ h => h⟩
theorem ShR.le {B B' : Nat → Prop} {H H' : AHeap} (hl : AHeap.le H H') (hB : ∀ x, B x → B' x) {ss : List St} {b i : Nat} (h : ShR B H ss b i) : ShR B' H' ss b i := h.go (.of_le hl) hB
theorem ShER.le {B B' : Nat → Prop} {H H' : AHeap} (hl : AHeap.le H H') (hB : ∀ x, B x → B' x) {ss : List Ex} {b i : Nat} (h : ShER B H ss b i) : ShER B' H' ss b i := h.go (.of_le hl) hB
theorem TwR.le {D D' : AHeap} {ss : List St} {b : Nat} (h : TwR D ss b) (hl : AHeap.le D D') : TwR D' ss b := ⟨StR.le hl h.1, ShR.le hl (fun _ h => h) h.2⟩
def TwL (D : AHeap) : List St → List Value → Prop
  | [], xs => xs = []
  | s :: ss, xs => ∃ cs ys, xs = cs ++ ys ∧ TwV D s cs ∧ TwL D ss ys
theorem TwL.le {D D' : AHeap} (hl : AHeap.le D D') : ∀ {ss : List St} {xs : List Value}, TwL D ss xs → TwL D' ss xs
  | [], _, h => h
  | s :: ss, xs, h => by
    obtain ⟨cs, ys, h1, h2, h3⟩ := h
    exact ⟨cs, ys, h1, h2.le hl, h3.le hl⟩
theorem TwL.st {D : AHeap} : ∀ {ss : List St} {xs : List Value}, TwL D ss xs → StL D ss xs
  | [], _, h => h
  | s :: ss, xs, h => by
    obtain ⟨cs, ys, h1, h2, h3⟩ := h
    exact ⟨cs, ys, h1, h2.1, h3.st⟩
theorem TwL.app {D : AHeap} : ∀ {ss ts : List St} {xs ys : List Value}, TwL D ss xs → TwL D ts ys → TwL D (ss ++ ts) (xs ++ ys)
  | [], ts, xs, ys, h, h' => by simp only [TwL] at h; subst h; exact h'
  | s :: ss, ts, xs, ys, h, h' => by
    obtain ⟨cs, zs, rfl, h2, h3⟩ := h
    exact ⟨cs, zs ++ ys, by rw [List.append_assoc], h2, h3.app h'⟩
theorem TwL.one {D : AHeap} {s : St} {cs : List Value} (h : TwV D s cs) : TwL D [s] cs := ⟨cs, [], by simp, h, rfl⟩
theorem TwL.at_ {D : AHeap} : ∀ {ss : List St} {xs : List Value}, TwL D ss xs → ∀ {k : Nat} (hk : k < ss.length), ∃ cs, (∀ j, j < 8 → xs[k * 8 + j]? = cs[j]?) ∧ TwV D ss[k] cs
  | s :: ss, xs, h, 0, _ => by
    obtain ⟨cs, ys, rfl, h2, h3⟩ := h
    have := h2.1.len
    refine ⟨cs, fun j hj => ?_, h2⟩
    rw [Nat.zero_mul, Nat.zero_add, List.getElem?_append_left (by omega)]
  | s :: ss, xs, h, k + 1, hk => by
    obtain ⟨cs, ys, rfl, h2, h3⟩ := h
    obtain ⟨ds, g1, g2⟩ := h3.at_ (k := k) (by simpa using hk)
    have := h2.1.len
    refine ⟨ds, fun j hj => ?_, g2⟩
    rw [List.getElem?_append_right (by omega), show (k + 1) * 8 + j - cs.length = k * 8 + j by omega]
    exact g1 j hj
/-- A block whose cells read so. -/
theorem TwL.r {D : AHeap} {ss : List St} {xs : List Value} {b : Nat} {k : Blk} (h : TwL D ss xs) (hk : Kn D b k) (ho : k.own = true) (hc : ∀ (j : Nat) (v : Value), xs[j]? = some v → k.cells[j]? = some v) : TwR D ss b := by
  refine ⟨h.st.str (hk.fl hc), shR_of ss 0 fun i hi => ?_⟩
  obtain ⟨cs, g1, g2⟩ := h.at_ hi
  refine ⟨k, cs, trivial, hk, ho, fun j hj => ?_, g2.2⟩
  have h8 := g2.1.len
  have hx : xs[i * 8 + j]? = some (cs[j]'(by omega)) := by rw [g1 j hj, List.getElem?_eq_getElem (by omega)]
  rw [Nat.zero_add, hc _ _ hx, List.getElem?_eq_getElem (by omega)]
theorem stc_oc {k v b : Int} {e : Ex} {n1 n2 : Nat} {A0 : Option Addr} {c0 : Nat} {A1 : Option Addr} {c1 : Nat} {A2 : Option Addr} {c2 : Nat} : ∀ u ∈ stc k v b e n1 n2 A0 c0 A1 c1 A2 c2, u.oneCell' = true := by
  intro u hu
  simp only [stc, List.mem_cons, List.not_mem_nil, or_false] at hu
  rcases hu with rfl | rfl | rfl | rfl | rfl | rfl | rfl | rfl <;> exact id rfl
abbrev AtB (b : Nat) : Option Addr := some ⟨b, 0, none⟩
abbrev stcB (s : St) (b0 b1 b2 : Nat) : List Value := stc s.kind s.var s.box s.e s.body.length s.els.length (AtB b0) s.e.args.length (AtB b1) s.body.length (AtB b2) s.els.length
abbrev stvB (s : St) (b0 b1 b2 : Nat) : Value := stv s.kind s.var s.box s.e s.body.length s.els.length (AtB b0) s.e.args.length (AtB b1) s.body.length (AtB b2) s.els.length
abbrev TdP (s : St) : Prop := ∀ (A0 : Option Addr) (c0 : Nat) (A1 : Option Addr) (c1 : Nat) (A2 : Option Addr) (c2 : Nat) (H : AHeap) (K : Value → AHeap → Prop), StV H s (stc s.kind s.var s.box s.e s.body.length s.els.length A0 c0 A1 c1 A2 c2) → s.sz ≤ 1048576 →
  (∀ b0 b1 b2 C, AHeap.le H C → TwV (C.off H) s (stcB s b0 b1 b2) → K (stvB s b0 b1 b2) C) → ACalls Try.prog w0 68 [stv s.kind s.var s.box s.e s.body.length s.els.length A0 c0 A1 c1 A2 c2] H K
abbrev TdS (ss : List St) : Prop := ∀ (a : Option Addr) (c : Nat) (H : AHeap) (K : Value → AHeap → Prop), StR H ss a 0 → szT ss ≤ 1048576 →
  (∀ b C, AHeap.le H C → TwR (C.off H) ss b → K (.slice (AtB b) ss.length ss.length) C) → ACalls Try.prog w0 14 [.slice a ss.length c] H K
theorem tdS_of (ss : List St) (ih : ∀ s ∈ ss, TdP w0 s) : TdS w0 ss := by
  intro a c H K hR hm h
  rw [szT_eq] at hm
  refine acalls_of_sx mix Try.func14 of14 (by simp [ir14]) ?_; rw [ir14]; (try delta qT qI qC qO qM qG)
  repeat' (first | simp -implicitDefEqProofs only [zG1,zG2,zG3,zG4,zG5,zG6,zG7,eq_self,resV,rval,X.val,binv,fillL,setR,↓reduceIte,Nat.reduceEqDiff,Nat.reduceAdd,Nat.reduceMul,Nat.reduceLeDiff,Nat.reduceLT,Nat.reduceSub,reduceCtorEq,zGq] | ((with_reducible refine rows_intro (fun _ hb => ?_)); try simp only [set_none, ne_eq] at hb) | ((with_reducible refine new_intro (fun _ hb => ?_)); try simp only [set_none, ne_eq] at hb) | (with_reducible refine draw_same ?_) | ((with_reducible refine gd_split ?_ (fun _ => ?_) (fun _ => ?_)); exact rfl) | ((with_reducible refine td_split ?_ (fun _ => ?_) (fun _ => ?_)); exact rfl) | (with_reducible refine c_split (fun _ => ?_) (fun _ => ?_)) | (with_reducible refine mk_intro (by omega) (by omega) (fun b hb => ?_)))
  refine for_rule ss.length (fun k fr C => ∃ xs ys, AHeap.le H C ∧ (xs ++ ys).length = ss.length * 8 ∧ Kn C b ⟨xs ++ ys, true, 105, ss.length * 8⟩ ∧ TwL ((C.off H).no fun y => y ∈ [b]) (ss.take k) xs ∧ fr 0 = .slice a ss.length c ∧ fr 3 = .slice (some ⟨b, 0, none⟩) ss.length ss.length ∧ fr 4 = .int .i64 k)
    ⟨[], repl [.int .i64 0, .int .i64 0, .int .i64 0, .int .i64 0, .int .i64 0, .slice none 0 0, .slice none 0 0, .slice none 0 0] ss.length, (AHeap.le.refl H).fresh hb _, by rw [List.nil_append, length_repl]; rfl, Kn.same _ _ _, rfl, (by first | rfl | (simp only [put_at, ↓reduceIte, Nat.reduceEqDiff]; first | done | rfl | assumption) | simp [put_at, *]), (by first | rfl | (simp only [put_at, ↓reduceIte, Nat.reduceEqDiff]; first | done | rfl | assumption) | simp [put_at, *]), (by first | rfl | (simp only [put_at, ↓reduceIte, Nat.reduceEqDiff]; first | done | rfl | assumption) | simp [put_at, *])⟩ ?_ ?_
  · rintro k fr C hk ⟨xs, ys, l, hl, kn, tw, f0, f3, f4⟩ N hN
    have g0 := lt_dec hk
    have g1 := rng hk
    have g2 := up1 hk (by omega)
    have hat := ssum_at hk
    have hxl := tw.st.len
    rw [List.length_take, Nat.min_eq_left (by omega)] at hxl
    rw [List.length_append] at hl
    obtain ⟨gA, a0, d0, a1, d1, a2, d2, gp, hx⟩ := (hR.le l).arg hk
    repeat' (first | simp -implicitDefEqProofs only [zG1,zG2,zG3,zG4,zG5,zG6,zG7,eq_self,resV,rval,X.val,binv,fillL,setR,↓reduceIte,Nat.reduceEqDiff,Nat.reduceAdd,Nat.reduceMul,Nat.reduceLeDiff,Nat.reduceLT,Nat.reduceSub,reduceCtorEq,zGq, f0, f3, f4, g0, g1, g2, gA, gp, Nat.add_zero] | ((with_reducible refine rows_intro (fun _ hb => ?_)); try simp only [set_none, ne_eq] at hb) | ((with_reducible refine new_intro (fun _ hb => ?_)); try simp only [set_none, ne_eq] at hb) | (with_reducible refine draw_same ?_) | ((with_reducible refine gd_split ?_ (fun _ => ?_) (fun _ => ?_)); exact rfl) | ((with_reducible refine td_split ?_ (fun _ => ?_) (fun _ => ?_)); exact rfl) | (with_reducible refine c_split (fun _ => ?_) (fun _ => ?_)) | (with_reducible refine ih ss[k] (List.getElem_mem hk) a0 d0 a1 d1 a2 d2 _ _ hx (by omega) (fun b0 b1 b2 C1 l1 tw1 => ?_)))
    refine st_kn (kn.trans l1) rfl (by rw [vcA]; rfl) (by simp only [List.length_append]; omega) (by rw [vcA]; exact stc_oc) (fun C2 hc ho k2 => ?_)
    rw [vcA] at k2
    have e2 := setR_mid (xs := xs) (ys := ys) (vs := stcB ss[k] b0 b1 b2) (o := k * 8) hxl.symm (by simp only [stcB, stc, List.length_cons, List.length_nil]; omega)
    simp only at k2
    rw [e2] at k2
    repeat' (first | simp -implicitDefEqProofs only [zG1,zG2,zG3,zG4,zG5,zG6,zG7,eq_self,resV,rval,X.val,binv,fillL,setR,↓reduceIte,Nat.reduceEqDiff,Nat.reduceAdd,Nat.reduceMul,Nat.reduceLeDiff,Nat.reduceLT,Nat.reduceSub,reduceCtorEq,zGq, f0, f3, f4, g2] | ((with_reducible refine rows_intro (fun _ hb => ?_)); try simp only [set_none, ne_eq] at hb) | ((with_reducible refine new_intro (fun _ hb => ?_)); try simp only [set_none, ne_eq] at hb) | (with_reducible refine draw_same ?_) | ((with_reducible refine gd_split ?_ (fun _ => ?_) (fun _ => ?_)); exact rfl) | ((with_reducible refine td_split ?_ (fun _ => ?_) (fun _ => ?_)); exact rfl) | (with_reducible refine c_split (fun _ => ?_) (fun _ => ?_)))
    have hbs : ∀ y, y ∈ [b] → C y ≠ none := fun y hy => by
      simp only [List.mem_cons, List.not_mem_nil, or_false] at hy
      subst hy; exact kn.ne
    refine hN _ _ _ (.refl _) ⟨_, _, hc.keep (l.trans l1) (New.one hb), ?_, k2, ?_, (by first | rfl | (simp only [put_at, ↓reduceIte, Nat.reduceEqDiff]; first | done | rfl | assumption) | simp [put_at, *]), (by first | rfl | (simp only [put_at, ↓reduceIte, Nat.reduceEqDiff]; first | done | rfl | assumption) | simp [put_at, *]), (by first | rfl | (simp only [put_at, ↓reduceIte, Nat.reduceEqDiff]; first | done | rfl | assumption) | simp [put_at, *])⟩
    · simp only [List.length_append, List.length_drop, stcB, stc, List.length_cons, List.length_nil]; omega
    · rw [List.take_add_one, List.getElem?_eq_getElem hk]
      exact (tw.le (off_stay l1 hc fun y hy => .inl hy)).app (TwL.one (tw1.le (off_made l hc hbs fun y hy => .inl hy)))
  · rintro fr C ⟨xs, ys, l, hl, kn, tw, f0, f3, f4⟩ N
    have g0 : decide ((ss.length : Int) < (ss.length : Int)) = false := by simp
    rw [List.take_length] at tw
    repeat' (first | simp -implicitDefEqProofs only [zG1,zG2,zG3,zG4,zG5,zG6,zG7,eq_self,resV,rval,X.val,binv,fillL,setR,↓reduceIte,Nat.reduceEqDiff,Nat.reduceAdd,Nat.reduceMul,Nat.reduceLeDiff,Nat.reduceLT,Nat.reduceSub,reduceCtorEq,zGq, f0, f3, f4, g0] | ((with_reducible refine rows_intro (fun _ hb => ?_)); try simp only [set_none, ne_eq] at hb) | ((with_reducible refine new_intro (fun _ hb => ?_)); try simp only [set_none, ne_eq] at hb) | (with_reducible refine draw_same ?_) | ((with_reducible refine gd_split ?_ (fun _ => ?_) (fun _ => ?_)); exact rfl) | ((with_reducible refine td_split ?_ (fun _ => ?_) (fun _ => ?_)); exact rfl) | (with_reducible refine c_split (fun _ => ?_) (fun _ => ?_)))
    refine ret_same (h b C l ((tw.le (no_le _ _)).r (kn_off hb kn) rfl fun j v hv => ?_))
    have := (List.getElem?_eq_some_iff.1 hv).1
    simp only
    rw [List.getElem?_append_left this]; exact hv
/-- The three blocks of toStmt. -/
structure SB (H C : AHeap) (x1 x2 x3 : Nat) (t1 t3 : TypeId) (c1 c3 : List Value) : Prop where
  l : AHeap.le H C
  h2 : H x2 = none
  h3 : H x3 = none
  n12 : ¬ x1 = x2
  n13 : ¬ x1 = x3
  n23 : ¬ x2 = x3
  k1 : Kn C x1 ⟨c1, true, t1, 8⟩
  k2 : Kn C x2 ⟨[.int .i64 0, .int .i64 0, .int .i64 0, .int .i64 0, .int .i64 0, .slice none 0 0, .slice none 0 0, .slice none 0 0], true, t3, 8⟩
  k3 : Kn C x3 ⟨c3, true, t3, 8⟩
section
variable {H C C1 : AHeap} {x1 x2 x3 : Nat} {t1 t3 : TypeId} {c1 c3 : List Value} {K : Value → AHeap → Prop} {v : Value} {o n : Nat}
theorem SB.call (s : SB H C x1 x2 x3 t1 t3 c1 c3) (l : AHeap.le C C1) : SB H C1 x1 x2 x3 t1 t3 c1 c3 ∧ AHeap.le ((C.off H).no fun y => y ∈ [x2, x3]) ((C1.off H).no fun y => y ∈ [x2, x3]) ∧ AHeap.le (C1.off C) ((C1.off H).no fun y => y ∈ [x2, x3]) := by
  refine ⟨⟨s.l.trans l, s.h2, s.h3, s.n12, s.n13, s.n23, s.k1.trans l, s.k2.trans l, s.k3.trans l⟩, off_stay l (Chg.refl _ _) fun y hy => .inl hy, off_made s.l (Chg.refl _ _) (fun y hy => ?_) fun y hy => .inl hy⟩
  simp only [List.mem_cons, List.not_mem_nil, or_false] at hy
  rcases hy with rfl | rfl
  · exact s.k2.ne
  · exact s.k3.ne
theorem SB.st (s : SB H C x1 x2 x3 t1 t3 c1 c3) (vs : List Value) (hv : v.cells = vs.toArray) (hn : vs.length = n) (hl : o + n ≤ c3.length) (h1 : ∀ u ∈ vs, u.oneCell' = true)
    (h : ∀ C', SB H C' x1 x2 x3 t1 t3 c1 (setR c3 o vs) → AHeap.le ((C.off H).no fun y => y ∈ [x2, x3]) ((C'.off H).no fun y => y ∈ [x2, x3]) → K undef C') : stK n (.pointer (some ⟨x3, o, none⟩)) v K C := by
  refine st_kn s.k3 rfl (by rw [hv]; simpa using hn) hl (by rw [hv]; exact h1) (fun C' hc ho k => ?_)
  rw [hv] at k
  have hm : ∀ y, y ∈ [x3] → y ∈ [x2, x3] := fun y hy => List.mem_cons_of_mem _ hy
  exact h C' ⟨hc.keep s.l (New.one s.h3), s.h2, s.h3, s.n12, s.n13, s.n23, s.k1.chg hc (by simpa using s.n13), s.k2.chg hc (by simpa using s.n23), k⟩ (off_stay (.refl C) (hc.mono hm) fun y hy => .inl hy)
theorem SB.fin (s : SB H C x1 x2 x3 t1 t3 c1 c3) (hv : v.cells = c3.toArray) (hn : c3.length = 8) (h1 : ∀ u ∈ c3, u.oneCell' = true)
    (h : ∀ C', AHeap.le H C' → Kn C' x2 ⟨c3, true, t3, 8⟩ → AHeap.le ((C.off H).no fun y => y ∈ [x2, x3]) (C'.off H) → K undef C') : stK 8 (.pointer (some ⟨x2, 0, none⟩)) v K C := by
  refine st_kn s.k2 rfl (by rw [hv]; simpa using hn) (by simp) (by rw [hv]; exact h1) (fun C' hc ho k => ?_)
  rw [hv] at k
  have hm : ∀ y, y ∈ [x2] → y ∈ [x2, x3] := fun y hy => by
    simp only [List.mem_cons, List.not_mem_nil, or_false] at hy ⊢
    exact .inl hy
  have e : ∀ z : List Value, z.length = 8 → setR z 0 c3 = c3 := fun z hz => by
    have := setR_mid (xs := []) (ys := z) (vs := c3) (o := 0) rfl (by omega)
    rw [List.nil_append, List.nil_append, List.drop_of_length_le (by omega), List.append_nil] at this
    exact this
  simp only at k
  rw [e _ rfl] at k
  exact h C' (hc.keep s.l (New.one s.h2)) k ((off_stay (.refl C) (hc.mono hm) fun y hy => .inl hy).trans (no_le _ _))
theorem kn8 {v0 v1 v2 v3 v4 v5 v6 v7 : Value} {x : Nat} {t : TypeId} {c : Nat} (k : Kn C x ⟨[v0, v1, v2, v3, v4, v5, v6, v7], true, t, c⟩) :
    C.cell (some ⟨x, 0, none⟩) = some v0 ∧ C.cell (some ⟨x, 1, none⟩) = some v1 ∧ C.cell (some ⟨x, 2, none⟩) = some v2 ∧ C.cell (some ⟨x, 3, none⟩) = some v3 ∧ C.cell (some ⟨x, 4, none⟩) = some v4 ∧ C.cell (some ⟨x, 5, none⟩) = some v5 ∧ C.cell (some ⟨x, 6, none⟩) = some v6 ∧ C.cell (some ⟨x, 7, none⟩) = some v7 :=
  ⟨k.cell (j := 0) rfl, k.cell (j := 1) rfl, k.cell (j := 2) rfl, k.cell (j := 3) rfl, k.cell (j := 4) rfl, k.cell (j := 5) rfl, k.cell (j := 6) rfl, k.cell (j := 7) rfl⟩
end
theorem Tr.off {H H' : AHeap} {e : Ex} {cs : List Value} {B : Nat → Prop} (h : Tr H' e cs B) (hB : ∀ x, B x → H x = none ∧ H' x ≠ none) : ExV (H'.off H) e cs ∧ ShE (fun _ => True) (H'.off H) e cs := by
  have := h.frame (H' := H'.off H) fun x hx => off_at (hB x hx).1
  exact ⟨this.v, this.sh fun _ _ => trivial⟩
theorem tdP_of (s : St) (ih1 : TdS w0 s.body) (ih2 : TdS w0 s.els) : TdP w0 s := by
  intro A0 c0 A1 c1 A2 c2 H K hv hm h
  obtain ⟨hE, ⟨hb1, hbR⟩, hl1, hlR⟩ := hv.parts
  rw [s.sz_eq] at hm
  refine acalls_of_sx mix Try.func68 of68 (by simp [ir68]) ?_; rw [ir68]; (try delta qT qI qC qO qM qG)
  repeat' (first | simp -implicitDefEqProofs only [zG1,zG2,zG3,zG4,zG5,zG6,zG7,eq_self,resV,rval,X.val,binv,fillL,setR,↓reduceIte,Nat.reduceEqDiff,Nat.reduceAdd,Nat.reduceMul,Nat.reduceLeDiff,Nat.reduceLT,Nat.reduceSub,reduceCtorEq,zGq])
  refine new_intro (fun x1 h1 => ?_)
  repeat' (first | simp -implicitDefEqProofs only [zG1,zG2,zG3,zG4,zG5,zG6,zG7,eq_self,resV,rval,X.val,binv,fillL,setR,↓reduceIte,Nat.reduceEqDiff,Nat.reduceAdd,Nat.reduceMul,Nat.reduceLeDiff,Nat.reduceLT,Nat.reduceSub,reduceCtorEq,zGq])
  refine new_intro (fun x2 h2 => ?_)
  repeat' (first | simp -implicitDefEqProofs only [zG1,zG2,zG3,zG4,zG5,zG6,zG7,eq_self,resV,rval,X.val,binv,fillL,setR,↓reduceIte,Nat.reduceEqDiff,Nat.reduceAdd,Nat.reduceMul,Nat.reduceLeDiff,Nat.reduceLT,Nat.reduceSub,reduceCtorEq,zGq])
  refine new_intro (fun x3 h3 => ?_)
  simp only [set_none, ne_eq] at h2 h3
  have sb : SB H (((H.set x1 ⟨stc s.kind s.var s.box s.e s.body.length s.els.length A0 c0 A1 c1 A2 c2, true, 99, 8⟩).set x2 ⟨[.int .i64 0, .int .i64 0, .int .i64 0, .int .i64 0, .int .i64 0, .slice none 0 0, .slice none 0 0, .slice none 0 0], true, 105, 8⟩).set x3 ⟨[.int .i64 0, .int .i64 0, .int .i64 0, .int .i64 0, .int .i64 0, .slice none 0 0, .slice none 0 0, .slice none 0 0], true, 105, 8⟩)
      x1 x2 x3 99 105 (stc s.kind s.var s.box s.e s.body.length s.els.length A0 c0 A1 c1 A2 c2) [.int .i64 0, .int .i64 0, .int .i64 0, .int .i64 0, .int .i64 0, .slice none 0 0, .slice none 0 0, .slice none 0 0] :=
    ⟨(((AHeap.le.refl H).fresh h1 _).fresh (set_none.2 h2) _).fresh (set_none.2 ⟨h3.1, set_none.2 h3.2⟩) _, h2.2, h3.2.2, fun e => h2.1 e.symm, fun e => h3.2.1 e.symm, fun e => h3.1 e.symm,
      ((Kn.same _ _ _).set (fun e => h2.1 e.symm) _).set (fun e => h3.2.1 e.symm) _, (Kn.same _ _ _).set (fun e => h3.1 e.symm) _, Kn.same _ _ _⟩
  generalize (((H.set x1 _).set x2 _).set x3 _) = C at sb ⊢
  have g := kn8 sb.k1
  repeat' (first | simp -implicitDefEqProofs only [zG1,zG2,zG3,zG4,zG5,zG6,zG7,eq_self,resV,rval,X.val,binv,fillL,setR,↓reduceIte,Nat.reduceEqDiff,Nat.reduceAdd,Nat.reduceMul,Nat.reduceLeDiff,Nat.reduceLT,Nat.reduceSub,reduceCtorEq,zGq, g])
  refine sb.st [_] rfl rfl (by simp) (by simp [ocI, ocS]) (fun C2 sb _ => ?_)
  simp only [setR, List.set_cons_zero, List.set_cons_succ] at sb
  have g := kn8 sb.k1
  repeat' (first | simp -implicitDefEqProofs only [zG1,zG2,zG3,zG4,zG5,zG6,zG7,eq_self,resV,rval,X.val,binv,fillL,setR,↓reduceIte,Nat.reduceEqDiff,Nat.reduceAdd,Nat.reduceMul,Nat.reduceLeDiff,Nat.reduceLT,Nat.reduceSub,reduceCtorEq,zGq, g])
  refine sb.st [_] rfl rfl (by simp) (by simp [ocI, ocS]) (fun C3 sb _ => ?_)
  simp only [setR, List.set_cons_zero, List.set_cons_succ] at sb
  have g := kn8 sb.k1
  repeat' (first | simp -implicitDefEqProofs only [zG1,zG2,zG3,zG4,zG5,zG6,zG7,eq_self,resV,rval,X.val,binv,fillL,setR,↓reduceIte,Nat.reduceEqDiff,Nat.reduceAdd,Nat.reduceMul,Nat.reduceLeDiff,Nat.reduceLT,Nat.reduceSub,reduceCtorEq,zGq, g])
  refine sb.st [_] rfl rfl (by simp) (by simp [ocI, ocS]) (fun C4 sb _ => ?_)
  simp only [setR, List.set_cons_zero, List.set_cons_succ] at sb
  have g := kn8 sb.k1
  repeat' (first | simp -implicitDefEqProofs only [zG1,zG2,zG3,zG4,zG5,zG6,zG7,eq_self,resV,rval,X.val,binv,fillL,setR,↓reduceIte,Nat.reduceEqDiff,Nat.reduceAdd,Nat.reduceMul,Nat.reduceLeDiff,Nat.reduceLT,Nat.reduceSub,reduceCtorEq,zGq, g] | (with_reducible refine toExpr_ok w0 s.e A0 c0 _ _ (hE.le sb.l) (by omega) (fun b0 C5 B0 l5 hB0 tr => ?_)))
  obtain ⟨sb, -, m5⟩ := sb.call l5.le
  obtain ⟨xv, xs⟩ := tr.off hB0
  replace xv := xv.le m5
  obtain ⟨_, _, he, hml, xr⟩ := xv.open_
  simp only [List.cons.injEq, and_true, Value.slice.injEq, true_and] at he
  obtain ⟨rfl, -⟩ := he
  have xs' : ShER (fun _ => True) ((C5.off H).no fun y => y ∈ [x2, x3]) s.e.args b0 0 := by
    generalize s.e = e at xs
    cases e with
    | mk op n args =>
      simp only [ShE] at xs
      obtain ⟨_, _, b, c, he, hr⟩ := xs
      simp only [List.cons.injEq, and_true, Value.slice.injEq, Option.some.injEq, Addr.mk.injEq] at he
      obtain ⟨-, -, rfl, -⟩ := he
      exact hr.le m5 fun _ h => h
  have g := kn8 sb.k1
  repeat' (first | simp -implicitDefEqProofs only [zG1,zG2,zG3,zG4,zG5,zG6,zG7,eq_self,resV,rval,X.val,binv,fillL,setR,↓reduceIte,Nat.reduceEqDiff,Nat.reduceAdd,Nat.reduceMul,Nat.reduceLeDiff,Nat.reduceLT,Nat.reduceSub,reduceCtorEq,zGq, g])
  refine sb.st [.int .i64 s.e.op, .int .i64 s.e.n, .slice (AtB b0) s.e.args.length s.e.args.length] rfl rfl (by simp) (by simp [ocI, ocS]) (fun C6 sb m6 => ?_)
  simp only [setR, List.set_cons_zero, List.set_cons_succ] at sb
  replace xr := xr.le m6
  replace xs' := xs'.le m6 fun _ h => h
  have g := kn8 sb.k1
  repeat' (first | simp -implicitDefEqProofs only [zG1,zG2,zG3,zG4,zG5,zG6,zG7,eq_self,resV,rval,X.val,binv,fillL,setR,↓reduceIte,Nat.reduceEqDiff,Nat.reduceAdd,Nat.reduceMul,Nat.reduceLeDiff,Nat.reduceLT,Nat.reduceSub,reduceCtorEq,zGq, g] | (with_reducible refine ih1 A1 c1 _ _ (hbR.le sb.l) (by omega) (fun b1 C7 l7 tw7 => ?_)))
  obtain ⟨sb, m7, m7'⟩ := sb.call l7
  replace xr := xr.le m7
  replace xs' := xs'.le m7 fun _ h => h
  replace tw7 := tw7.le m7'
  have g := kn8 sb.k1
  repeat' (first | simp -implicitDefEqProofs only [zG1,zG2,zG3,zG4,zG5,zG6,zG7,eq_self,resV,rval,X.val,binv,fillL,setR,↓reduceIte,Nat.reduceEqDiff,Nat.reduceAdd,Nat.reduceMul,Nat.reduceLeDiff,Nat.reduceLT,Nat.reduceSub,reduceCtorEq,zGq, g])
  refine sb.st [_] rfl rfl (by simp) (by simp [ocI, ocS]) (fun C8 sb m8 => ?_)
  simp only [setR, List.set_cons_zero, List.set_cons_succ] at sb
  replace xr := xr.le m8
  replace xs' := xs'.le m8 fun _ h => h
  replace tw7 := tw7.le m8
  have g := kn8 sb.k1
  repeat' (first | simp -implicitDefEqProofs only [zG1,zG2,zG3,zG4,zG5,zG6,zG7,eq_self,resV,rval,X.val,binv,fillL,setR,↓reduceIte,Nat.reduceEqDiff,Nat.reduceAdd,Nat.reduceMul,Nat.reduceLeDiff,Nat.reduceLT,Nat.reduceSub,reduceCtorEq,zGq, g] | (with_reducible refine ih2 A2 c2 _ _ (hlR.le sb.l) (by omega) (fun b2 C9 l9 tw9 => ?_)))
  obtain ⟨sb, m9, m9'⟩ := sb.call l9
  replace xr := xr.le m9
  replace xs' := xs'.le m9 fun _ h => h
  replace tw7 := tw7.le m9
  replace tw9 := tw9.le m9'
  have g := kn8 sb.k1
  repeat' (first | simp -implicitDefEqProofs only [zG1,zG2,zG3,zG4,zG5,zG6,zG7,eq_self,resV,rval,X.val,binv,fillL,setR,↓reduceIte,Nat.reduceEqDiff,Nat.reduceAdd,Nat.reduceMul,Nat.reduceLeDiff,Nat.reduceLT,Nat.reduceSub,reduceCtorEq,zGq, g])
  refine sb.st [_] rfl rfl (by simp) (by simp [ocI, ocS]) (fun C10 sb m10 => ?_)
  simp only [setR, List.set_cons_zero, List.set_cons_succ] at sb
  replace xr := xr.le m10
  replace xs' := xs'.le m10 fun _ h => h
  replace tw7 := tw7.le m10
  replace tw9 := tw9.le m10
  have g := kn8 sb.k3
  repeat' (first | simp -implicitDefEqProofs only [zG1,zG2,zG3,zG4,zG5,zG6,zG7,eq_self,resV,rval,X.val,binv,fillL,setR,↓reduceIte,Nat.reduceEqDiff,Nat.reduceAdd,Nat.reduceMul,Nat.reduceLeDiff,Nat.reduceLT,Nat.reduceSub,reduceCtorEq,zGq, g])
  refine sb.fin (by rw [vcA]) rfl (by simp [ocI, ocS]) (fun C11 lf kf mf => ?_)
  replace xr := xr.le mf
  replace xs' := xs'.le mf fun _ h => h
  replace tw7 := tw7.le mf
  replace tw9 := tw9.le mf
  have g := kn8 kf
  repeat' (first | simp -implicitDefEqProofs only [zG1,zG2,zG3,zG4,zG5,zG6,zG7,eq_self,resV,rval,X.val,binv,fillL,setR,↓reduceIte,Nat.reduceEqDiff,Nat.reduceAdd,Nat.reduceMul,Nat.reduceLeDiff,Nat.reduceLT,Nat.reduceSub,reduceCtorEq,zGq, g])
  refine ret_same (h b0 b1 b2 C11 lf ⟨?_, ?_⟩)
  · cases s with
    | mk k v b e body els =>
      simp only [StV, stcB, St.kind, St.var, St.box, St.e, St.body, St.els] at *
      exact ⟨_, _, _, _, _, _, rfl, hml, xr, ⟨hb1, tw7.1⟩, hl1, tw9.1⟩
  · cases s with
    | mk k v b e body els =>
      simp only [ShV, stcB, St.kind, St.var, St.box, St.e, St.body, St.els] at *
      exact ⟨_, _, _, _, _, _, _, _, _, _, _, rfl, xs', tw7.2, tw9.2⟩
theorem toStmt_ok : ∀ s : St, TdP w0 s
  | .mk k v b e body els => tdP_of w0 _ (tdS_of w0 body fun s hs => toStmt_ok s) (tdS_of w0 els fun s hs => toStmt_ok s)
termination_by s => SizeOf.sizeOf s
decreasing_by
  · exact st_mem (.inl hs)
  · exact st_mem (.inr hs)
theorem toStmtS_ok (ss : List St) : TdS w0 ss := tdS_of w0 ss fun s _ => toStmt_ok w0 s
end Go.Proofs.Ytfjhjfddgdokgaa
namespace Go.Proofs.Ytfjhjfddgdokgaa
set_option linter.all false
open Go Go.RowKit
set_option maxRecDepth 100000
variable (w0 : World)
/-- A number stored where a number stood. -/
theorem mk_st {K : Value → AHeap → Prop} {C : AHeap} {b o : Nat} {k : Blk} {m0 x : Int} {B : Nat → Prop} (hb : B b) (hk : Kn C b k) (ho : k.own = true) (hc : k.cells[o]? = some (.int .i64 m0)) (h : ∀ C', MkL B C C' → K undef C') : stK 1 (.pointer (some ⟨b, o, none⟩)) (.int .i64 x) K C := by
  obtain ⟨k1, e1, o1, t1, c1, r1⟩ := hk
  have h1 := r1 o _ hc
  have hlt := (List.getElem?_eq_some_iff.1 h1).1
  refine ⟨rfl, k1, e1, o1.trans ho, by rw [vcI]; rfl, by simp only; omega, by rw [vcI]; simp [ocI], h _ ⟨fun y k' hy hk' => ?_, fun y k' hk' => ?_⟩⟩
  · have hyb : ¬ y = b := by rintro rfl; exact hy hb
    exact Kn.of (by rw [set_ne hyb]; exact hk')
  · by_cases hyb : y = b
    · subst hyb
      obtain ⟨k2, e2, o2, t2, c2, r2⟩ := hk'
      rw [e1] at e2
      obtain rfl := Option.some.inj e2
      refine ⟨⟨k'.cells.set o (.int .i64 x), k'.own, k'.ty, k'.cap⟩, ⟨_, set_same _ _ _, o2, t2, c2, fun j v hv => ?_⟩, rfl, fun j v hv => ?_⟩
      · simp only [vcI, List.toList_toArray, setR] at hv ⊢
        rw [List.getElem?_set] at hv ⊢
        split at hv
        · rename_i hjo
          rw [if_pos hjo]
          split at hv
          · rename_i hl
            rw [if_pos hlt]; exact hv
          · cases hv
        · rename_i hjo
          rw [if_neg hjo]
          exact r2 j v hv
      · simp only
        rw [List.getElem?_set]
        split
        · rename_i hjo
          subst hjo
          have hl := (List.getElem?_eq_some_iff.1 hv).1
          rw [if_pos hl]
          have := r2 _ _ hv
          rw [h1] at this
          obtain rfl := Option.some.inj this
          exact ⟨_, rfl, .inr ⟨_, _, rfl, rfl⟩⟩
        · exact ⟨v, hv, .inl rfl⟩
    · obtain ⟨k2, e2, r2⟩ := hk'
      exact ⟨k', ⟨k2, by rw [set_ne hyb]; exact e2, r2⟩, rfl, fun j v hv => ⟨v, hv, .inl rfl⟩⟩
mutual
theorem ShE.self {D : AHeap} : ∀ {e : Ex} {cs : List Value}, ShE (fun _ => True) D e cs → ShE (fun x => D x ≠ none) D e cs
  | .mk op n args, cs, h => by
    simp only [ShE] at h ⊢
    obtain ⟨op', n', b, c, rfl, hr⟩ := h
    exact ⟨op', n', b, c, rfl, ShER.self hr⟩
theorem ShER.self {D : AHeap} : ∀ {es : List Ex} {b i : Nat}, ShER (fun _ => True) D es b i → ShER (fun x => D x ≠ none) D es b i
  | [], _, _, _ => by simp only [ShER]
  | e :: es, b, i, h => by
    simp only [ShER] at h ⊢
    obtain ⟨⟨k, cs, hb, kn, ho, hc, hv⟩, hr⟩ := h
    exact ⟨⟨k, cs, kn.ne, kn, ho, hc, ShE.self hv⟩, ShER.self hr⟩
end
mutual
theorem ShV.self {D : AHeap} : ∀ {s : St} {cs : List Value}, ShV (fun _ => True) D s cs → ShV (fun x => D x ≠ none) D s cs
  | .mk k v b e body els, cs, h => by
    simp only [ShV] at h ⊢
    obtain ⟨k', v', b', op', n', b0, c0, b1, c1, b2, c2, rfl, hr0, hr1, hr2⟩ := h
    exact ⟨k', v', b', op', n', b0, c0, b1, c1, b2, c2, rfl, ShER.self hr0, ShR.self hr1, ShR.self hr2⟩
theorem ShR.self {D : AHeap} : ∀ {ss : List St} {b i : Nat}, ShR (fun _ => True) D ss b i → ShR (fun x => D x ≠ none) D ss b i
  | [], _, _, _ => by simp only [ShR]
  | s :: ss, b, i, h => by
    simp only [ShR] at h ⊢
    obtain ⟨⟨k, cs, hb, kn, ho, hc, hv⟩, hr⟩ := h
    exact ⟨⟨k, cs, kn.ne, kn, ho, hc, ShV.self hv⟩, ShR.self hr⟩
end
theorem Kn.mkl {B : Nat → Prop} {C C' : AHeap} {b : Nat} {k : Blk} (h : Kn C b k) (mk : MkL B C C') (hb : ¬ B b) : Kn C' b k := by
  obtain ⟨k1, e1, o1, t1, c1, r1⟩ := h
  obtain ⟨k2, e2, o2, t2, c2, r2⟩ := mk.out b k1 hb e1
  exact ⟨k2, e2, o2.trans o1, t2.trans t1, c2.trans c1, fun j v hv => r2 j v (r1 j v hv)⟩
theorem Rw.mkl {B : Nat → Prop} {C C' : AHeap} {t : TypeId} {sz : Nat} {v : Value} {n : Nat} {xs : List Value} {bs : List Nat} (h : Rw C t sz v n xs bs) (mk : MkL B C C') (hb : ∀ y, y ∈ bs → ¬ B y) : Rw C' t sz v n xs bs := by
  rcases h with h | ⟨b, cap, h1, rfl, h3, h4, h5, h6⟩
  · exact .inl h
  · exact .inr ⟨b, cap, h1, rfl, h3, h4, h5, h6.mkl mk (hb b (by simp))⟩
theorem rw_known' {C : AHeap} {t : TypeId} {sz : Nat} {v : Value} {n : Nat} {xs : List Value} {bs : List Nat} (h : Rw C t sz v n xs bs) : ∀ y, y ∈ bs → C y ≠ none := fun y hy => by
  rcases h with ⟨_, _, _, rfl⟩ | ⟨b', cap, _, rfl, _, _, _, hk⟩
  · cases hy
  · simp only [List.mem_cons, List.not_mem_nil, or_false] at hy
    subst hy; exact hk.ne
theorem off_ne {C C' : AHeap} {x : Nat} (h : C'.off C x ≠ none) : C x = none ∧ C' x ≠ none := by
  cases hx : C'.off C x with
  | none => exact absurd hx h
  | some k => obtain ⟨h1, h2⟩ := off_some hx; exact ⟨h1, by rw [h2]; simp⟩
theorem ShE.open_ {B : Nat → Prop} {H : AHeap} {e : Ex} {cs : List Value} (h : ShE B H e cs) : ∃ (op n : Int) (b c : Nat), cs = [.int .i64 op, .int .i64 n, .slice (some ⟨b, 0, none⟩) e.args.length c] ∧ ShER B H e.args b 0 := by
  cases e with
  | mk op n args => simpa only [ShE, Ex.args] using h
theorem ShER.arg {B : Nat → Prop} {H : AHeap} {es : List Ex} {b k : Nat} (h : ShER B H es b 0) (hk : k < es.length) : ∃ (kk : Blk) (op n : Int) (b2 c2 : Nat), B b ∧ Kn H b kk ∧ kk.own = true ∧ kk.cells[k * 3]? = some (.int .i64 op) ∧ kk.cells[k * 3 + 1]? = some (.int .i64 n) ∧
    kk.cells[k * 3 + 2]? = some (.slice (some ⟨b2, 0, none⟩) es[k].args.length c2) ∧ ShER B H es[k].args b2 0 := by
  obtain ⟨kk, cs, hb, kn, ho, hc, hv⟩ := h.at_ hk
  obtain ⟨op, n, b2, c2, rfl, hr⟩ := hv.open_
  rw [Nat.zero_add] at hc
  exact ⟨kk, op, n, b2, c2, hb, kn, ho, hc 0 (by omega), hc 1 (by omega), hc 2 (by omega), hr⟩
abbrev MxS (es : List Ex) : Prop := ∀ (b cp : Nat) (m : Int) (B : Nat → Prop) (H : AHeap) (K : Value → AHeap → Prop), ShER B H es b 0 → 0 ≤ m → m + 2 * Ex.cnt.cntL es ≤ 1099511627776 →
  (∀ m' H', MkL B H H' → m ≤ m' → m' ≤ m + 2 * Ex.cnt.cntL es → K (.int .i64 m') H') → ACalls Try.prog w0 74 [.slice (some ⟨b, 0, none⟩) es.length cp, .int .i64 m] H K
theorem mxS_of (es : List Ex) (ih : ∀ e ∈ es, MxS w0 e.args) : MxS w0 es := by
  intro b cp m B H K hs h0 hm h
  rw [cntL_eq] at hm h
  refine acalls_of_sx mix Try.func74 of74 (by simp [ir74]) ?_; rw [ir74]; (try delta qT qI qC qO qM qG)
  repeat' (first | simp -implicitDefEqProofs only [zG1,zG2,zG3,zG4,zG5,zG6,zG7,eq_self,resV,rval,X.val,binv,fillL,setR,↓reduceIte,Nat.reduceEqDiff,Nat.reduceAdd,Nat.reduceMul,Nat.reduceLeDiff,Nat.reduceLT,Nat.reduceSub,reduceCtorEq,zGq] | ((with_reducible refine rows_intro (fun _ hb => ?_)); try simp only [set_none, ne_eq] at hb) | ((with_reducible refine new_intro (fun _ hb => ?_)); try simp only [set_none, ne_eq] at hb) | (with_reducible refine draw_same ?_) | ((with_reducible refine gd_split ?_ (fun _ => ?_) (fun _ => ?_)); exact rfl) | ((with_reducible refine td_split ?_ (fun _ => ?_) (fun _ => ?_)); exact rfl) | (with_reducible refine c_split (fun _ => ?_) (fun _ => ?_)))
  refine for_rule es.length (fun i fr C => ∃ mi : Int, MkL B H C ∧ m ≤ mi ∧ mi ≤ m + 2 * (i + csum (es.take i)) ∧ fr 0 = .slice (some ⟨b, 0, none⟩) es.length cp ∧ fr 1 = .int .i64 mi ∧ fr 5 = .int .i64 i)
    ⟨m, .refl _ _, by omega, by simp [csum], (by first | rfl | (simp only [put_at, ↓reduceIte, Nat.reduceEqDiff]; first | done | rfl | assumption) | simp [put_at, *]), (by first | rfl | (simp only [put_at, ↓reduceIte, Nat.reduceEqDiff]; first | done | rfl | assumption) | simp [put_at, *]), (by first | rfl | (simp only [put_at, ↓reduceIte, Nat.reduceEqDiff]; first | done | rfl | assumption) | simp [put_at, *])⟩ ?_ ?_
  · rintro i fr C hi ⟨mi, mk, hm1, hm2, f0, f1, f5⟩ N hN
    have hct := csum_take hi
    have hcl := csum_le (es := es) (i + 1)
    have hce : es[i].cnt = Ex.cnt.cntL es[i].args := by cases es[i]; rfl
    have g0 := lt_dec hi
    have g1 := rng hi
    have g3 := up1 hi (by omega)
    have w1 : IntKind.i64.wrap (mi + 1) = mi + 1 := wrap_i64 (by omega) (by omega)
    have w2 : IntKind.i64.wrap (mi + 1 + 1) = mi + 1 + 1 := wrap_i64 (by omega) (by omega)
    obtain ⟨k1, op1, n1, b1, c1, hb, kn1, ho1, e10, e11, e12, r1⟩ := (hs.go mk fun _ h => h).arg hi
    repeat' (first | simp -implicitDefEqProofs only [zG1,zG2,zG3,zG4,zG5,zG6,zG7,eq_self,resV,rval,X.val,binv,fillL,setR,↓reduceIte,Nat.reduceEqDiff,Nat.reduceAdd,Nat.reduceMul,Nat.reduceLeDiff,Nat.reduceLT,Nat.reduceSub,reduceCtorEq,zGq, f0, f1, f5, g0, g1, w1, w2, adr_lit, Nat.zero_add, Nat.add_zero] | ((with_reducible refine rows_intro (fun _ hb => ?_)); try simp only [set_none, ne_eq] at hb) | ((with_reducible refine new_intro (fun _ hb => ?_)); try simp only [set_none, ne_eq] at hb) | (with_reducible refine draw_same ?_) | ((with_reducible refine gd_split ?_ (fun _ => ?_) (fun _ => ?_)); exact rfl) | ((with_reducible refine td_split ?_ (fun _ => ?_) (fun _ => ?_)); exact rfl) | (with_reducible refine c_split (fun _ => ?_) (fun _ => ?_)))
    refine mk_st hb kn1 ho1 e10 (fun C2 mk2 => ?_)
    have mk2' := mk.trans mk2
    obtain ⟨k2, op2, n2, b2, c2, -, kn2, ho2, e20, e21, e22, r2⟩ := (hs.go mk2' fun _ h => h).arg hi
    repeat' (first | simp -implicitDefEqProofs only [zG1,zG2,zG3,zG4,zG5,zG6,zG7,eq_self,resV,rval,X.val,binv,fillL,setR,↓reduceIte,Nat.reduceEqDiff,Nat.reduceAdd,Nat.reduceMul,Nat.reduceLeDiff,Nat.reduceLT,Nat.reduceSub,reduceCtorEq,zGq, f0, f1, f5, g1, w1, w2, adr_lit, Nat.zero_add, Nat.add_zero] | ((with_reducible refine rows_intro (fun _ hb => ?_)); try simp only [set_none, ne_eq] at hb) | ((with_reducible refine new_intro (fun _ hb => ?_)); try simp only [set_none, ne_eq] at hb) | (with_reducible refine draw_same ?_) | ((with_reducible refine gd_split ?_ (fun _ => ?_) (fun _ => ?_)); exact rfl) | ((with_reducible refine td_split ?_ (fun _ => ?_) (fun _ => ?_)); exact rfl) | (with_reducible refine c_split (fun _ => ?_) (fun _ => ?_)))
    refine mk_st hb kn2 ho2 e21 (fun C3 mk3 => ?_)
    have mk3' := mk2'.trans mk3
    obtain ⟨k3, op3, n3, b3, c3, -, kn3, ho3, e30, e31, e32, r3⟩ := (hs.go mk3' fun _ h => h).arg hi
    have q3 := kn3.cell e32
    repeat' (first | simp -implicitDefEqProofs only [zG1,zG2,zG3,zG4,zG5,zG6,zG7,eq_self,resV,rval,X.val,binv,fillL,setR,↓reduceIte,Nat.reduceEqDiff,Nat.reduceAdd,Nat.reduceMul,Nat.reduceLeDiff,Nat.reduceLT,Nat.reduceSub,reduceCtorEq,zGq, f0, f1, f5, g1, w1, w2, q3, adr_lit, Nat.zero_add, Nat.add_zero] | ((with_reducible refine rows_intro (fun _ hb => ?_)); try simp only [set_none, ne_eq] at hb) | ((with_reducible refine new_intro (fun _ hb => ?_)); try simp only [set_none, ne_eq] at hb) | (with_reducible refine draw_same ?_) | ((with_reducible refine gd_split ?_ (fun _ => ?_) (fun _ => ?_)); exact rfl) | ((with_reducible refine td_split ?_ (fun _ => ?_) (fun _ => ?_)); exact rfl) | (with_reducible refine c_split (fun _ => ?_) (fun _ => ?_)))
    refine ih es[i] (List.getElem_mem hi) b3 c3 (mi + 1 + 1) B C3 _ r3 (by omega) (by omega) (fun m' C4 mk4 h1 h2 => ?_)
    repeat' (first | simp -implicitDefEqProofs only [zG1,zG2,zG3,zG4,zG5,zG6,zG7,eq_self,resV,rval,X.val,binv,fillL,setR,↓reduceIte,Nat.reduceEqDiff,Nat.reduceAdd,Nat.reduceMul,Nat.reduceLeDiff,Nat.reduceLT,Nat.reduceSub,reduceCtorEq,zGq, f0, f1, f5, g3] | ((with_reducible refine rows_intro (fun _ hb => ?_)); try simp only [set_none, ne_eq] at hb) | ((with_reducible refine new_intro (fun _ hb => ?_)); try simp only [set_none, ne_eq] at hb) | (with_reducible refine draw_same ?_) | ((with_reducible refine gd_split ?_ (fun _ => ?_) (fun _ => ?_)); exact rfl) | ((with_reducible refine td_split ?_ (fun _ => ?_) (fun _ => ?_)); exact rfl) | (with_reducible refine c_split (fun _ => ?_) (fun _ => ?_)))
    exact hN _ _ _ (.refl _) ⟨m', mk3'.trans mk4, by omega, by omega, (by first | rfl | (simp only [put_at, ↓reduceIte, Nat.reduceEqDiff]; first | done | rfl | assumption) | simp [put_at, *]), (by first | rfl | (simp only [put_at, ↓reduceIte, Nat.reduceEqDiff]; first | done | rfl | assumption) | simp [put_at, *]), (by first | rfl | (simp only [put_at, ↓reduceIte, Nat.reduceEqDiff]; first | done | rfl | assumption) | simp [put_at, *])⟩
  · rintro fr C ⟨mi, mk, hm1, hm2, f0, f1, f5⟩ N
    have g0 : decide ((es.length : Int) < (es.length : Int)) = false := by simp
    rw [List.take_length] at hm2
    repeat' (first | simp -implicitDefEqProofs only [zG1,zG2,zG3,zG4,zG5,zG6,zG7,eq_self,resV,rval,X.val,binv,fillL,setR,↓reduceIte,Nat.reduceEqDiff,Nat.reduceAdd,Nat.reduceMul,Nat.reduceLeDiff,Nat.reduceLT,Nat.reduceSub,reduceCtorEq,zGq, f0, f1, f5, g0] | ((with_reducible refine rows_intro (fun _ hb => ?_)); try simp only [set_none, ne_eq] at hb) | ((with_reducible refine new_intro (fun _ hb => ?_)); try simp only [set_none, ne_eq] at hb) | (with_reducible refine draw_same ?_) | ((with_reducible refine gd_split ?_ (fun _ => ?_) (fun _ => ?_)); exact rfl) | ((with_reducible refine td_split ?_ (fun _ => ?_) (fun _ => ?_)); exact rfl) | (with_reducible refine c_split (fun _ => ?_) (fun _ => ?_)))
    exact ret_same (h mi C mk hm1 (by omega))
theorem markEx_ok : ∀ e : Ex, MxS w0 e.args
  | .mk op n args => mxS_of w0 args fun e he => markEx_ok e
termination_by e => SizeOf.sizeOf e
decreasing_by exact mem_lt he
theorem ShV.open_ {B : Nat → Prop} {H : AHeap} {s : St} {cs : List Value} (h : ShV B H s cs) : ∃ (k v b op n : Int) (b0 c0 b1 c1 b2 c2 : Nat), cs = [.int .i64 k, .int .i64 v, .int .i64 b, .int .i64 op, .int .i64 n, .slice (some ⟨b0, 0, none⟩) s.e.args.length c0, .slice (some ⟨b1, 0, none⟩) s.body.length c1, .slice (some ⟨b2, 0, none⟩) s.els.length c2] ∧
      ShER B H s.e.args b0 0 ∧ ShR B H s.body b1 0 ∧ ShR B H s.els b2 0 := by
  cases s with
  | mk k v b e body els => simpa only [ShV, St.e, St.body, St.els] using h
theorem ShR.arg {B : Nat → Prop} {H : AHeap} {ss : List St} {b i : Nat} (h : ShR B H ss b 0) (hi : i < ss.length) : ∃ (kk : Blk) (k v bx op n : Int) (b0 c0 b1 c1 b2 c2 : Nat), B b ∧ Kn H b kk ∧ kk.own = true ∧ kk.cells[i * 8]? = some (.int .i64 k) ∧ kk.cells[i * 8 + 1]? = some (.int .i64 v) ∧ kk.cells[i * 8 + 2]? = some (.int .i64 bx) ∧
    kk.cells[i * 8 + 3]? = some (.int .i64 op) ∧ kk.cells[i * 8 + 4]? = some (.int .i64 n) ∧ kk.cells[i * 8 + 5]? = some (.slice (some ⟨b0, 0, none⟩) ss[i].e.args.length c0) ∧ kk.cells[i * 8 + 6]? = some (.slice (some ⟨b1, 0, none⟩) ss[i].body.length c1) ∧
    kk.cells[i * 8 + 7]? = some (.slice (some ⟨b2, 0, none⟩) ss[i].els.length c2) ∧ ShER B H ss[i].e.args b0 0 ∧ ShR B H ss[i].body b1 0 ∧ ShR B H ss[i].els b2 0 := by
  obtain ⟨kk, cs, hb, kn, ho, hc, hv⟩ := h.at_ hi
  obtain ⟨k, v, bx, op, n, b0, c0, b1, c1, b2, c2, rfl, r0, r1, r2⟩ := hv.open_
  rw [Nat.zero_add] at hc
  exact ⟨kk, k, v, bx, op, n, b0, c0, b1, c1, b2, c2, hb, kn, ho, hc 0 (by omega), hc 1 (by omega), hc 2 (by omega), hc 3 (by omega), hc 4 (by omega), hc 5 (by omega), hc 6 (by omega), hc 7 (by omega), r0, r1, r2⟩
abbrev MtS (ss : List St) : Prop := ∀ (b cp : Nat) (m : Int) (B : Nat → Prop) (H : AHeap) (K : Value → AHeap → Prop), ShR B H ss b 0 → 0 ≤ m → m + 5 * szT ss ≤ 1099511627776 →
  (∀ m' H', MkL B H H' → m ≤ m' → m' ≤ m + 5 * szT ss → K (.int .i64 m') H') → ACalls Try.prog w0 20 [.slice (some ⟨b, 0, none⟩) ss.length cp, .int .i64 m] H K
theorem mtS_of (ss : List St) (ih : ∀ s ∈ ss, MtS w0 s.body ∧ MtS w0 s.els) : MtS w0 ss := by
  intro b cp m B H K hs h0 hm h
  rw [szT_eq] at hm h
  refine acalls_of_sx mix Try.func20 of20 (by simp [ir20]) ?_; rw [ir20]; (try delta qT qI qC qO qM qG)
  repeat' (first | simp -implicitDefEqProofs only [zG1,zG2,zG3,zG4,zG5,zG6,zG7,eq_self,resV,rval,X.val,binv,fillL,setR,↓reduceIte,Nat.reduceEqDiff,Nat.reduceAdd,Nat.reduceMul,Nat.reduceLeDiff,Nat.reduceLT,Nat.reduceSub,reduceCtorEq,zGq] | ((with_reducible refine rows_intro (fun _ hb => ?_)); try simp only [set_none, ne_eq] at hb) | ((with_reducible refine new_intro (fun _ hb => ?_)); try simp only [set_none, ne_eq] at hb) | (with_reducible refine draw_same ?_) | ((with_reducible refine gd_split ?_ (fun _ => ?_) (fun _ => ?_)); exact rfl) | ((with_reducible refine td_split ?_ (fun _ => ?_) (fun _ => ?_)); exact rfl) | (with_reducible refine c_split (fun _ => ?_) (fun _ => ?_)))
  refine for_rule ss.length (fun i fr C => ∃ mi : Int, MkL B H C ∧ m ≤ mi ∧ mi ≤ m + 5 * (i + ssum (ss.take i)) ∧ fr 0 = .slice (some ⟨b, 0, none⟩) ss.length cp ∧ fr 1 = .int .i64 mi ∧ fr 5 = .int .i64 i)
    ⟨m, .refl _ _, by omega, by simp [ssum], (by first | rfl | (simp only [put_at, ↓reduceIte, Nat.reduceEqDiff]; first | done | rfl | assumption) | simp [put_at, *]), (by first | rfl | (simp only [put_at, ↓reduceIte, Nat.reduceEqDiff]; first | done | rfl | assumption) | simp [put_at, *]), (by first | rfl | (simp only [put_at, ↓reduceIte, Nat.reduceEqDiff]; first | done | rfl | assumption) | simp [put_at, *])⟩ ?_ ?_
  · rintro i fr C hi ⟨mi, mk, hm1, hm2, f0, f1, f5⟩ N hN
    have hct := ssum_take hi
    have hcl := ssum_le (ss := ss) (i + 1)
    have hce := ss[i].sz_eq
    have hxe : ss[i].e.cnt = Ex.cnt.cntL ss[i].e.args := by cases ss[i].e; rfl
    have g0 := lt_dec hi
    have g1 := rng hi
    have g3 := up1 hi (by omega)
    have w1 : IntKind.i64.wrap (mi + 1) = mi + 1 := wrap_i64 (by omega) (by omega)
    have w2 : IntKind.i64.wrap (mi + 1 + 1) = mi + 1 + 1 := wrap_i64 (by omega) (by omega)
    have w3 : IntKind.i64.wrap (mi + 1 + 1 + 1) = mi + 1 + 1 + 1 := wrap_i64 (by omega) (by omega)
    have w4 : IntKind.i64.wrap (mi + 1 + 1 + 1 + 1) = mi + 1 + 1 + 1 + 1 := wrap_i64 (by omega) (by omega)
    have w5 : IntKind.i64.wrap (mi + 1 + 1 + 1 + 1 + 1) = mi + 1 + 1 + 1 + 1 + 1 := wrap_i64 (by omega) (by omega)
    obtain ⟨ih1, ih2⟩ := ih ss[i] (List.getElem_mem hi)
    have arg : ∀ {D : AHeap}, MkL B H D → _ := fun {D} l => (hs.go (H' := D) l fun _ h => h).arg hi
    obtain ⟨k1, _, _, _, _, _, _, _, _, _, _, _, hb, kn, ho, e0, -⟩ := arg mk
    repeat' (first | simp -implicitDefEqProofs only [zG1,zG2,zG3,zG4,zG5,zG6,zG7,eq_self,resV,rval,X.val,binv,fillL,setR,↓reduceIte,Nat.reduceEqDiff,Nat.reduceAdd,Nat.reduceMul,Nat.reduceLeDiff,Nat.reduceLT,Nat.reduceSub,reduceCtorEq,zGq, f0, f1, f5, g0, g1, w1, w2, w3, w4, w5, adr_lit, Nat.zero_add, Nat.add_zero] | ((with_reducible refine rows_intro (fun _ hb => ?_)); try simp only [set_none, ne_eq] at hb) | ((with_reducible refine new_intro (fun _ hb => ?_)); try simp only [set_none, ne_eq] at hb) | (with_reducible refine draw_same ?_) | ((with_reducible refine gd_split ?_ (fun _ => ?_) (fun _ => ?_)); exact rfl) | ((with_reducible refine td_split ?_ (fun _ => ?_) (fun _ => ?_)); exact rfl) | (with_reducible refine c_split (fun _ => ?_) (fun _ => ?_)))
    refine mk_st hb kn ho e0 (fun C2 mk2 => ?_)
    replace mk2 := mk.trans mk2
    obtain ⟨k2, _, _, _, _, _, _, _, _, _, _, _, -, kn, ho, -, e0, -⟩ := arg mk2
    repeat' (first | simp -implicitDefEqProofs only [zG1,zG2,zG3,zG4,zG5,zG6,zG7,eq_self,resV,rval,X.val,binv,fillL,setR,↓reduceIte,Nat.reduceEqDiff,Nat.reduceAdd,Nat.reduceMul,Nat.reduceLeDiff,Nat.reduceLT,Nat.reduceSub,reduceCtorEq,zGq, f0, f1, f5, g1, w1, w2, w3, w4, w5, adr_lit, Nat.zero_add, Nat.add_zero] | ((with_reducible refine rows_intro (fun _ hb => ?_)); try simp only [set_none, ne_eq] at hb) | ((with_reducible refine new_intro (fun _ hb => ?_)); try simp only [set_none, ne_eq] at hb) | (with_reducible refine draw_same ?_) | ((with_reducible refine gd_split ?_ (fun _ => ?_) (fun _ => ?_)); exact rfl) | ((with_reducible refine td_split ?_ (fun _ => ?_) (fun _ => ?_)); exact rfl) | (with_reducible refine c_split (fun _ => ?_) (fun _ => ?_)))
    refine mk_st hb kn ho e0 (fun C3 mk3 => ?_)
    replace mk3 := mk2.trans mk3
    obtain ⟨k3, _, _, _, _, _, _, _, _, _, _, _, -, kn, ho, -, -, e0, -⟩ := arg mk3
    repeat' (first | simp -implicitDefEqProofs only [zG1,zG2,zG3,zG4,zG5,zG6,zG7,eq_self,resV,rval,X.val,binv,fillL,setR,↓reduceIte,Nat.reduceEqDiff,Nat.reduceAdd,Nat.reduceMul,Nat.reduceLeDiff,Nat.reduceLT,Nat.reduceSub,reduceCtorEq,zGq, f0, f1, f5, g1, w1, w2, w3, w4, w5, adr_lit, Nat.zero_add, Nat.add_zero] | ((with_reducible refine rows_intro (fun _ hb => ?_)); try simp only [set_none, ne_eq] at hb) | ((with_reducible refine new_intro (fun _ hb => ?_)); try simp only [set_none, ne_eq] at hb) | (with_reducible refine draw_same ?_) | ((with_reducible refine gd_split ?_ (fun _ => ?_) (fun _ => ?_)); exact rfl) | ((with_reducible refine td_split ?_ (fun _ => ?_) (fun _ => ?_)); exact rfl) | (with_reducible refine c_split (fun _ => ?_) (fun _ => ?_)))
    refine mk_st hb kn ho e0 (fun C4 mk4 => ?_)
    replace mk4 := mk3.trans mk4
    obtain ⟨k4, _, _, _, _, _, _, _, _, _, _, _, -, kn, ho, -, -, -, e0, -⟩ := arg mk4
    repeat' (first | simp -implicitDefEqProofs only [zG1,zG2,zG3,zG4,zG5,zG6,zG7,eq_self,resV,rval,X.val,binv,fillL,setR,↓reduceIte,Nat.reduceEqDiff,Nat.reduceAdd,Nat.reduceMul,Nat.reduceLeDiff,Nat.reduceLT,Nat.reduceSub,reduceCtorEq,zGq, f0, f1, f5, g1, w1, w2, w3, w4, w5, adr_lit, Nat.zero_add, Nat.add_zero] | ((with_reducible refine rows_intro (fun _ hb => ?_)); try simp only [set_none, ne_eq] at hb) | ((with_reducible refine new_intro (fun _ hb => ?_)); try simp only [set_none, ne_eq] at hb) | (with_reducible refine draw_same ?_) | ((with_reducible refine gd_split ?_ (fun _ => ?_) (fun _ => ?_)); exact rfl) | ((with_reducible refine td_split ?_ (fun _ => ?_) (fun _ => ?_)); exact rfl) | (with_reducible refine c_split (fun _ => ?_) (fun _ => ?_)))
    refine mk_st hb kn ho e0 (fun C5 mk5 => ?_)
    replace mk5 := mk4.trans mk5
    obtain ⟨k5, _, _, _, _, _, _, _, _, _, _, _, -, kn, ho, -, -, -, -, e0, -⟩ := arg mk5
    repeat' (first | simp -implicitDefEqProofs only [zG1,zG2,zG3,zG4,zG5,zG6,zG7,eq_self,resV,rval,X.val,binv,fillL,setR,↓reduceIte,Nat.reduceEqDiff,Nat.reduceAdd,Nat.reduceMul,Nat.reduceLeDiff,Nat.reduceLT,Nat.reduceSub,reduceCtorEq,zGq, f0, f1, f5, g1, w1, w2, w3, w4, w5, adr_lit, Nat.zero_add, Nat.add_zero] | ((with_reducible refine rows_intro (fun _ hb => ?_)); try simp only [set_none, ne_eq] at hb) | ((with_reducible refine new_intro (fun _ hb => ?_)); try simp only [set_none, ne_eq] at hb) | (with_reducible refine draw_same ?_) | ((with_reducible refine gd_split ?_ (fun _ => ?_) (fun _ => ?_)); exact rfl) | ((with_reducible refine td_split ?_ (fun _ => ?_) (fun _ => ?_)); exact rfl) | (with_reducible refine c_split (fun _ => ?_) (fun _ => ?_)))
    refine mk_st hb kn ho e0 (fun C6 mk6 => ?_)
    replace mk6 := mk5.trans mk6
    obtain ⟨k6, _, _, _, _, _, b0, c0, _, _, _, _, -, kn, ho, -, -, -, -, -, e0, -, -, r0, -, -⟩ := arg mk6
    have q := kn.cell e0
    repeat' (first | simp -implicitDefEqProofs only [zG1,zG2,zG3,zG4,zG5,zG6,zG7,eq_self,resV,rval,X.val,binv,fillL,setR,↓reduceIte,Nat.reduceEqDiff,Nat.reduceAdd,Nat.reduceMul,Nat.reduceLeDiff,Nat.reduceLT,Nat.reduceSub,reduceCtorEq,zGq, f0, f1, f5, g1, w1, w2, w3, w4, w5, q, adr_lit, Nat.zero_add, Nat.add_zero] | ((with_reducible refine rows_intro (fun _ hb => ?_)); try simp only [set_none, ne_eq] at hb) | ((with_reducible refine new_intro (fun _ hb => ?_)); try simp only [set_none, ne_eq] at hb) | (with_reducible refine draw_same ?_) | ((with_reducible refine gd_split ?_ (fun _ => ?_) (fun _ => ?_)); exact rfl) | ((with_reducible refine td_split ?_ (fun _ => ?_) (fun _ => ?_)); exact rfl) | (with_reducible refine c_split (fun _ => ?_) (fun _ => ?_)))
    refine markEx_ok w0 ss[i].e b0 c0 _ B C6 _ r0 (by omega) (by omega) (fun m7 C7 mk7 h71 h72 => ?_)
    replace mk7 := mk6.trans mk7
    obtain ⟨k7, _, _, _, _, _, _, _, b1, c1, _, _, -, kn, ho, -, -, -, -, -, -, e0, -, -, r1, -⟩ := arg mk7
    have q := kn.cell e0
    repeat' (first | simp -implicitDefEqProofs only [zG1,zG2,zG3,zG4,zG5,zG6,zG7,eq_self,resV,rval,X.val,binv,fillL,setR,↓reduceIte,Nat.reduceEqDiff,Nat.reduceAdd,Nat.reduceMul,Nat.reduceLeDiff,Nat.reduceLT,Nat.reduceSub,reduceCtorEq,zGq, f0, f1, f5, g1, q, adr_lit, Nat.zero_add, Nat.add_zero] | ((with_reducible refine rows_intro (fun _ hb => ?_)); try simp only [set_none, ne_eq] at hb) | ((with_reducible refine new_intro (fun _ hb => ?_)); try simp only [set_none, ne_eq] at hb) | (with_reducible refine draw_same ?_) | ((with_reducible refine gd_split ?_ (fun _ => ?_) (fun _ => ?_)); exact rfl) | ((with_reducible refine td_split ?_ (fun _ => ?_) (fun _ => ?_)); exact rfl) | (with_reducible refine c_split (fun _ => ?_) (fun _ => ?_)))
    refine ih1 b1 c1 m7 B C7 _ r1 (by omega) (by omega) (fun m8 C8 mk8 h81 h82 => ?_)
    replace mk8 := mk7.trans mk8
    obtain ⟨k8, _, _, _, _, _, _, _, _, _, b2, c2, -, kn, ho, -, -, -, -, -, -, -, e0, -, -, r2⟩ := arg mk8
    have q := kn.cell e0
    repeat' (first | simp -implicitDefEqProofs only [zG1,zG2,zG3,zG4,zG5,zG6,zG7,eq_self,resV,rval,X.val,binv,fillL,setR,↓reduceIte,Nat.reduceEqDiff,Nat.reduceAdd,Nat.reduceMul,Nat.reduceLeDiff,Nat.reduceLT,Nat.reduceSub,reduceCtorEq,zGq, f0, f1, f5, g1, q, adr_lit, Nat.zero_add, Nat.add_zero] | ((with_reducible refine rows_intro (fun _ hb => ?_)); try simp only [set_none, ne_eq] at hb) | ((with_reducible refine new_intro (fun _ hb => ?_)); try simp only [set_none, ne_eq] at hb) | (with_reducible refine draw_same ?_) | ((with_reducible refine gd_split ?_ (fun _ => ?_) (fun _ => ?_)); exact rfl) | ((with_reducible refine td_split ?_ (fun _ => ?_) (fun _ => ?_)); exact rfl) | (with_reducible refine c_split (fun _ => ?_) (fun _ => ?_)))
    refine ih2 b2 c2 m8 B C8 _ r2 (by omega) (by omega) (fun m9 C9 mk9 h91 h92 => ?_)
    repeat' (first | simp -implicitDefEqProofs only [zG1,zG2,zG3,zG4,zG5,zG6,zG7,eq_self,resV,rval,X.val,binv,fillL,setR,↓reduceIte,Nat.reduceEqDiff,Nat.reduceAdd,Nat.reduceMul,Nat.reduceLeDiff,Nat.reduceLT,Nat.reduceSub,reduceCtorEq,zGq, f0, f1, f5, g3] | ((with_reducible refine rows_intro (fun _ hb => ?_)); try simp only [set_none, ne_eq] at hb) | ((with_reducible refine new_intro (fun _ hb => ?_)); try simp only [set_none, ne_eq] at hb) | (with_reducible refine draw_same ?_) | ((with_reducible refine gd_split ?_ (fun _ => ?_) (fun _ => ?_)); exact rfl) | ((with_reducible refine td_split ?_ (fun _ => ?_) (fun _ => ?_)); exact rfl) | (with_reducible refine c_split (fun _ => ?_) (fun _ => ?_)))
    exact hN _ _ _ (.refl _) ⟨m9, mk8.trans mk9, by omega, by omega, (by first | rfl | (simp only [put_at, ↓reduceIte, Nat.reduceEqDiff]; first | done | rfl | assumption) | simp [put_at, *]), (by first | rfl | (simp only [put_at, ↓reduceIte, Nat.reduceEqDiff]; first | done | rfl | assumption) | simp [put_at, *]), (by first | rfl | (simp only [put_at, ↓reduceIte, Nat.reduceEqDiff]; first | done | rfl | assumption) | simp [put_at, *])⟩
  · rintro fr C ⟨mi, mk, hm1, hm2, f0, f1, f5⟩ N
    have g0 : decide ((ss.length : Int) < (ss.length : Int)) = false := by simp
    rw [List.take_length] at hm2
    repeat' (first | simp -implicitDefEqProofs only [zG1,zG2,zG3,zG4,zG5,zG6,zG7,eq_self,resV,rval,X.val,binv,fillL,setR,↓reduceIte,Nat.reduceEqDiff,Nat.reduceAdd,Nat.reduceMul,Nat.reduceLeDiff,Nat.reduceLT,Nat.reduceSub,reduceCtorEq,zGq, f0, f1, f5, g0] | ((with_reducible refine rows_intro (fun _ hb => ?_)); try simp only [set_none, ne_eq] at hb) | ((with_reducible refine new_intro (fun _ hb => ?_)); try simp only [set_none, ne_eq] at hb) | (with_reducible refine draw_same ?_) | ((with_reducible refine gd_split ?_ (fun _ => ?_) (fun _ => ?_)); exact rfl) | ((with_reducible refine td_split ?_ (fun _ => ?_) (fun _ => ?_)); exact rfl) | (with_reducible refine c_split (fun _ => ?_) (fun _ => ?_)))
    exact ret_same (h mi C mk hm1 (by omega))
mutual
theorem mtA_ok : ∀ s : St, MtS w0 s.body ∧ MtS w0 s.els
  | .mk _ _ _ _ body els => ⟨mtS_of w0 body (mtL_ok body), mtS_of w0 els (mtL_ok els)⟩
theorem mtL_ok : ∀ ss : List St, ∀ s ∈ ss, MtS w0 s.body ∧ MtS w0 s.els
  | [], s, hs => by cases hs
  | t :: ts, s, hs => by
    rcases List.mem_cons.1 hs with h | h
    · rw [h]; exact mtA_ok t
    · exact mtL_ok ts s h
end
theorem markStmtS_ok (ss : List St) : MtS w0 ss := mtS_of w0 ss (mtL_ok w0 ss)
end Go.Proofs.Ytfjhjfddgdokgaa
namespace Go.Proofs.Ytfjhjfddgdokgaa
set_option linter.all false
open Go Go.RowKit
set_option maxRecDepth 100000
variable (w0 : World)
theorem inRange_ok (H : AHeap) (K : Value → AHeap → Prop) (n l : Int) (u : Bool) (h : K (.bool (n == 0 || (u && decide (0 < n) && decide (n < l)))) H) : ACalls Try.prog w0 207 [.int .i64 n, .int .i64 l, .bool u] H K := by
  cases u
  all_goals
    refine acalls_of_sx mix Try.func207 of207 (by simp [ir207]) ?_; rw [ir207]; (try delta qT qI qC qO qM qG)
    repeat' (first | simp -implicitDefEqProofs only [zG1,zG2,zG3,zG4,zG5,zG6,zG7,eq_self,resV,rval,X.val,binv,fillL,setR,↓reduceIte,Nat.reduceEqDiff,Nat.reduceAdd,Nat.reduceMul,Nat.reduceLeDiff,Nat.reduceLT,Nat.reduceSub,reduceCtorEq,zGr] | ((with_reducible refine rows_intro (fun _ hb => ?_)); try simp only [set_none, ne_eq] at hb) | ((with_reducible refine new_intro (fun _ hb => ?_)); try simp only [set_none, ne_eq] at hb) | (with_reducible refine draw_same ?_) | ((with_reducible refine gd_split ?_ (fun _ => ?_) (fun _ => ?_)); exact rfl) | ((with_reducible refine td_split ?_ (fun _ => ?_) (fun _ => ?_)); exact rfl) | (with_reducible refine c_split (fun _ => ?_) (fun _ => ?_)))
    all_goals (refine ret_same (kb h ?_))
    all_goals (try simp only [beq_iff_eq, beq_eq_false_iff_ne, bne_iff_ne, bne_eq_false_iff_eq, decide_eq_true_eq, decide_eq_false_iff_not, ne_eq, Bool.not_eq_true, Bool.not_eq_false, Bool.not_eq_eq_eq_not, Bool.not_true, Bool.not_false, Int.not_lt, Int.not_le, ge_iff_le, gt_iff_lt] at *)
    all_goals (rw [Bool.eq_iff_iff]; simp_all <;> omega)
def stmtV (s : St) : Bool := if s.kind = 2 ∨ s.kind = 3 then stBlock s else stSimple s
theorem stmtC1 (H : AHeap) (K : Value → AHeap → Prop) (v b : Int) (e : Ex) (n1 n2 : Nat) (A : Option Addr) (o : Nat) (A0 : Option Addr) (c0 : Nat) (A1 : Option Addr) (c1 : Nat) (A2 : Option Addr) (c2 : Nat) (hA : A.isSome = true)
    (hp : Pl8 H A o 1 v b e n1 n2 A0 c0 A1 c1 A2 c2) (hE : ExV H e [.int .i64 e.op, .int .i64 e.n, .slice A0 e.args.length c0]) (h : K (.bool ((((n1 : Nat) : Int) == 0) && (((n2 : Nat) : Int) == 0) && (decide (0 ≤ v) && decide (v ≤ 3) && b == 0 && exprOk 5 e))) H) :
    ACalls Try.prog w0 198 [.pointer (adr A o), .int .i64 3] H K := by
  refine acalls_of_sx mix Try.func198 of198 (by simp [ir198]) ?_; rw [ir198]; (try delta qT qI qC qO qM qG)
  repeat' (first | simp -implicitDefEqProofs only [zG1,zG2,zG3,zG4,zG5,zG6,zG7,eq_self,resV,rval,X.val,binv,fillL,setR,↓reduceIte,Nat.reduceEqDiff,Nat.reduceAdd,Nat.reduceMul,Nat.reduceLeDiff,Nat.reduceLT,Nat.reduceSub,reduceCtorEq,zGr, hp, hA, Int.reduceBEq, cell_old, *] | ((with_reducible refine rows_intro (fun _ hb => ?_)); try simp only [set_none, ne_eq] at hb) | ((with_reducible refine new_intro (fun _ hb => ?_)); try simp only [set_none, ne_eq] at hb) | (with_reducible refine draw_same ?_) | ((with_reducible refine gd_split ?_ (fun _ => ?_) (fun _ => ?_)); exact rfl) | ((with_reducible refine td_split ?_ (fun _ => ?_) (fun _ => ?_)); exact rfl) | (with_reducible refine c_split (fun _ => ?_) (fun _ => ?_)) | (with_reducible refine inRange_ok _ _ _ _ _ _ ?_) | (with_reducible refine exprValid5_ok _ _ _ e A0 c0 (hE.le ((AHeap.le.refl H).fresh ‹H _ = none› _)) ?_))
  all_goals refine ⟨H, (AHeap.le.refl H).fresh ‹H _ = none› _, kb h ?_⟩
  all_goals clear hp hE h
  all_goals (try simp only [beq_iff_eq, beq_eq_false_iff_ne, bne_iff_ne, bne_eq_false_iff_eq, decide_eq_true_eq, decide_eq_false_iff_not, ne_eq, Bool.not_eq_true, Bool.not_eq_false, Bool.not_eq_eq_eq_not, Bool.not_true, Bool.not_false, Int.not_lt, Int.not_le, ge_iff_le, gt_iff_lt] at *)
  all_goals grind
theorem stmtC2 (H : AHeap) (K : Value → AHeap → Prop) (v b : Int) (e : Ex) (n1 n2 : Nat) (A : Option Addr) (o : Nat) (A0 : Option Addr) (c0 : Nat) (A1 : Option Addr) (c1 : Nat) (A2 : Option Addr) (c2 : Nat) (hA : A.isSome = true)
    (hp : Pl8 H A o 2 v b e n1 n2 A0 c0 A1 c1 A2 c2) (hE : ExV H e [.int .i64 e.op, .int .i64 e.n, .slice A0 e.args.length c0]) (h : K (.bool (v == 0 && b == 0 && exprOk 5 e)) H) :
    ACalls Try.prog w0 198 [.pointer (adr A o), .int .i64 3] H K := by
  refine acalls_of_sx mix Try.func198 of198 (by simp [ir198]) ?_; rw [ir198]; (try delta qT qI qC qO qM qG)
  repeat' (first | simp -implicitDefEqProofs only [zG1,zG2,zG3,zG4,zG5,zG6,zG7,eq_self,resV,rval,X.val,binv,fillL,setR,↓reduceIte,Nat.reduceEqDiff,Nat.reduceAdd,Nat.reduceMul,Nat.reduceLeDiff,Nat.reduceLT,Nat.reduceSub,reduceCtorEq,zGr, hp, hA, Int.reduceBEq, cell_old, *] | ((with_reducible refine rows_intro (fun _ hb => ?_)); try simp only [set_none, ne_eq] at hb) | ((with_reducible refine new_intro (fun _ hb => ?_)); try simp only [set_none, ne_eq] at hb) | (with_reducible refine draw_same ?_) | ((with_reducible refine gd_split ?_ (fun _ => ?_) (fun _ => ?_)); exact rfl) | ((with_reducible refine td_split ?_ (fun _ => ?_) (fun _ => ?_)); exact rfl) | (with_reducible refine c_split (fun _ => ?_) (fun _ => ?_)) | (with_reducible refine inRange_ok _ _ _ _ _ _ ?_) | (with_reducible refine exprValid5_ok _ _ _ e A0 c0 (hE.le ((AHeap.le.refl H).fresh ‹H _ = none› _)) ?_))
  all_goals refine ⟨H, (AHeap.le.refl H).fresh ‹H _ = none› _, kb h ?_⟩
  all_goals clear hp hE h
  all_goals (try simp only [beq_iff_eq, beq_eq_false_iff_ne, bne_iff_ne, bne_eq_false_iff_eq, decide_eq_true_eq, decide_eq_false_iff_not, ne_eq, Bool.not_eq_true, Bool.not_eq_false, Bool.not_eq_eq_eq_not, Bool.not_true, Bool.not_false, Int.not_lt, Int.not_le, ge_iff_le, gt_iff_lt] at *)
  all_goals grind
theorem stmtC3 (H : AHeap) (K : Value → AHeap → Prop) (v b : Int) (e : Ex) (n1 n2 : Nat) (A : Option Addr) (o : Nat) (A0 : Option Addr) (c0 : Nat) (A1 : Option Addr) (c1 : Nat) (A2 : Option Addr) (c2 : Nat) (hA : A.isSome = true)
    (hp : Pl8 H A o 3 v b e n1 n2 A0 c0 A1 c1 A2 c2) (hE : ExV H e [.int .i64 e.op, .int .i64 e.n, .slice A0 e.args.length c0]) (h : K (.bool (v == 0 && b == 0 && exprOk 5 e && (((n2 : Nat) : Int) == 0))) H) :
    ACalls Try.prog w0 198 [.pointer (adr A o), .int .i64 3] H K := by
  refine acalls_of_sx mix Try.func198 of198 (by simp [ir198]) ?_; rw [ir198]; (try delta qT qI qC qO qM qG)
  repeat' (first | simp -implicitDefEqProofs only [zG1,zG2,zG3,zG4,zG5,zG6,zG7,eq_self,resV,rval,X.val,binv,fillL,setR,↓reduceIte,Nat.reduceEqDiff,Nat.reduceAdd,Nat.reduceMul,Nat.reduceLeDiff,Nat.reduceLT,Nat.reduceSub,reduceCtorEq,zGr, hp, hA, Int.reduceBEq, cell_old, *] | ((with_reducible refine rows_intro (fun _ hb => ?_)); try simp only [set_none, ne_eq] at hb) | ((with_reducible refine new_intro (fun _ hb => ?_)); try simp only [set_none, ne_eq] at hb) | (with_reducible refine draw_same ?_) | ((with_reducible refine gd_split ?_ (fun _ => ?_) (fun _ => ?_)); exact rfl) | ((with_reducible refine td_split ?_ (fun _ => ?_) (fun _ => ?_)); exact rfl) | (with_reducible refine c_split (fun _ => ?_) (fun _ => ?_)) | (with_reducible refine inRange_ok _ _ _ _ _ _ ?_) | (with_reducible refine exprValid5_ok _ _ _ e A0 c0 (hE.le ((AHeap.le.refl H).fresh ‹H _ = none› _)) ?_))
  all_goals refine ⟨H, (AHeap.le.refl H).fresh ‹H _ = none› _, kb h ?_⟩
  all_goals clear hp hE h
  all_goals (try simp only [beq_iff_eq, beq_eq_false_iff_ne, bne_iff_ne, bne_eq_false_iff_eq, decide_eq_true_eq, decide_eq_false_iff_not, ne_eq, Bool.not_eq_true, Bool.not_eq_false, Bool.not_eq_eq_eq_not, Bool.not_true, Bool.not_false, Int.not_lt, Int.not_le, ge_iff_le, gt_iff_lt] at *)
  all_goals grind
theorem stmtC4 (H : AHeap) (K : Value → AHeap → Prop) (v b : Int) (e : Ex) (n1 n2 : Nat) (A : Option Addr) (o : Nat) (A0 : Option Addr) (c0 : Nat) (A1 : Option Addr) (c1 : Nat) (A2 : Option Addr) (c2 : Nat) (hA : A.isSome = true)
    (hp : Pl8 H A o 4 v b e n1 n2 A0 c0 A1 c1 A2 c2) (hE : ExV H e [.int .i64 e.op, .int .i64 e.n, .slice A0 e.args.length c0]) (h : K (.bool ((((n1 : Nat) : Int) == 0) && (((n2 : Nat) : Int) == 0) && (v == 0 && decide (0 ≤ b) && decide (b ≤ 2) && exprOk 5 e))) H) :
    ACalls Try.prog w0 198 [.pointer (adr A o), .int .i64 3] H K := by
  refine acalls_of_sx mix Try.func198 of198 (by simp [ir198]) ?_; rw [ir198]; (try delta qT qI qC qO qM qG)
  repeat' (first | simp -implicitDefEqProofs only [zG1,zG2,zG3,zG4,zG5,zG6,zG7,eq_self,resV,rval,X.val,binv,fillL,setR,↓reduceIte,Nat.reduceEqDiff,Nat.reduceAdd,Nat.reduceMul,Nat.reduceLeDiff,Nat.reduceLT,Nat.reduceSub,reduceCtorEq,zGr, hp, hA, Int.reduceBEq, cell_old, *] | ((with_reducible refine rows_intro (fun _ hb => ?_)); try simp only [set_none, ne_eq] at hb) | ((with_reducible refine new_intro (fun _ hb => ?_)); try simp only [set_none, ne_eq] at hb) | (with_reducible refine draw_same ?_) | ((with_reducible refine gd_split ?_ (fun _ => ?_) (fun _ => ?_)); exact rfl) | ((with_reducible refine td_split ?_ (fun _ => ?_) (fun _ => ?_)); exact rfl) | (with_reducible refine c_split (fun _ => ?_) (fun _ => ?_)) | (with_reducible refine inRange_ok _ _ _ _ _ _ ?_) | (with_reducible refine exprValid5_ok _ _ _ e A0 c0 (hE.le ((AHeap.le.refl H).fresh ‹H _ = none› _)) ?_))
  all_goals refine ⟨H, (AHeap.le.refl H).fresh ‹H _ = none› _, kb h ?_⟩
  all_goals clear hp hE h
  all_goals (try simp only [beq_iff_eq, beq_eq_false_iff_ne, bne_iff_ne, bne_eq_false_iff_eq, decide_eq_true_eq, decide_eq_false_iff_not, ne_eq, Bool.not_eq_true, Bool.not_eq_false, Bool.not_eq_eq_eq_not, Bool.not_true, Bool.not_false, Int.not_lt, Int.not_le, ge_iff_le, gt_iff_lt] at *)
  all_goals grind
theorem stmtC5 (H : AHeap) (K : Value → AHeap → Prop) (v b : Int) (e : Ex) (n1 n2 : Nat) (A : Option Addr) (o : Nat) (A0 : Option Addr) (c0 : Nat) (A1 : Option Addr) (c1 : Nat) (A2 : Option Addr) (c2 : Nat) (hA : A.isSome = true)
    (hp : Pl8 H A o 5 v b e n1 n2 A0 c0 A1 c1 A2 c2) (hE : ExV H e [.int .i64 e.op, .int .i64 e.n, .slice A0 e.args.length c0]) (h : K (.bool ((((n1 : Nat) : Int) == 0) && (((n2 : Nat) : Int) == 0) && (decide (0 ≤ v) && decide (v ≤ 3) && decide (0 ≤ b) && decide (b ≤ 2) && ((e.op == 0) && (e.n == 0) && (((e.args.length : Nat) : Int) == 0))))) H) :
    ACalls Try.prog w0 198 [.pointer (adr A o), .int .i64 3] H K := by
  refine acalls_of_sx mix Try.func198 of198 (by simp [ir198]) ?_; rw [ir198]; (try delta qT qI qC qO qM qG)
  repeat' (first | simp -implicitDefEqProofs only [zG1,zG2,zG3,zG4,zG5,zG6,zG7,eq_self,resV,rval,X.val,binv,fillL,setR,↓reduceIte,Nat.reduceEqDiff,Nat.reduceAdd,Nat.reduceMul,Nat.reduceLeDiff,Nat.reduceLT,Nat.reduceSub,reduceCtorEq,zGr, hp, hA, Int.reduceBEq, cell_old, *] | ((with_reducible refine rows_intro (fun _ hb => ?_)); try simp only [set_none, ne_eq] at hb) | ((with_reducible refine new_intro (fun _ hb => ?_)); try simp only [set_none, ne_eq] at hb) | (with_reducible refine draw_same ?_) | ((with_reducible refine gd_split ?_ (fun _ => ?_) (fun _ => ?_)); exact rfl) | ((with_reducible refine td_split ?_ (fun _ => ?_) (fun _ => ?_)); exact rfl) | (with_reducible refine c_split (fun _ => ?_) (fun _ => ?_)) | (with_reducible refine inRange_ok _ _ _ _ _ _ ?_) | (with_reducible refine exprValid5_ok _ _ _ e A0 c0 (hE.le ((AHeap.le.refl H).fresh ‹H _ = none› _)) ?_))
  all_goals refine ⟨H, (AHeap.le.refl H).fresh ‹H _ = none› _, kb h ?_⟩
  all_goals clear hp hE h
  all_goals (try simp only [beq_iff_eq, beq_eq_false_iff_ne, bne_iff_ne, bne_eq_false_iff_eq, decide_eq_true_eq, decide_eq_false_iff_not, ne_eq, Bool.not_eq_true, Bool.not_eq_false, Bool.not_eq_eq_eq_not, Bool.not_true, Bool.not_false, Int.not_lt, Int.not_le, ge_iff_le, gt_iff_lt] at *)
  all_goals grind
theorem stmtC6 (H : AHeap) (K : Value → AHeap → Prop) (v b : Int) (e : Ex) (n1 n2 : Nat) (A : Option Addr) (o : Nat) (A0 : Option Addr) (c0 : Nat) (A1 : Option Addr) (c1 : Nat) (A2 : Option Addr) (c2 : Nat) (hA : A.isSome = true)
    (hp : Pl8 H A o 6 v b e n1 n2 A0 c0 A1 c1 A2 c2) (hE : ExV H e [.int .i64 e.op, .int .i64 e.n, .slice A0 e.args.length c0]) (h : K (.bool ((((n1 : Nat) : Int) == 0) && (((n2 : Nat) : Int) == 0) && (v == 0 && b == 0 && ((e.op == 0) && (e.n == 0) && (((e.args.length : Nat) : Int) == 0))))) H) :
    ACalls Try.prog w0 198 [.pointer (adr A o), .int .i64 3] H K := by
  refine acalls_of_sx mix Try.func198 of198 (by simp [ir198]) ?_; rw [ir198]; (try delta qT qI qC qO qM qG)
  repeat' (first | simp -implicitDefEqProofs only [zG1,zG2,zG3,zG4,zG5,zG6,zG7,eq_self,resV,rval,X.val,binv,fillL,setR,↓reduceIte,Nat.reduceEqDiff,Nat.reduceAdd,Nat.reduceMul,Nat.reduceLeDiff,Nat.reduceLT,Nat.reduceSub,reduceCtorEq,zGr, hp, hA, Int.reduceBEq, cell_old, *] | ((with_reducible refine rows_intro (fun _ hb => ?_)); try simp only [set_none, ne_eq] at hb) | ((with_reducible refine new_intro (fun _ hb => ?_)); try simp only [set_none, ne_eq] at hb) | (with_reducible refine draw_same ?_) | ((with_reducible refine gd_split ?_ (fun _ => ?_) (fun _ => ?_)); exact rfl) | ((with_reducible refine td_split ?_ (fun _ => ?_) (fun _ => ?_)); exact rfl) | (with_reducible refine c_split (fun _ => ?_) (fun _ => ?_)) | (with_reducible refine inRange_ok _ _ _ _ _ _ ?_) | (with_reducible refine exprValid5_ok _ _ _ e A0 c0 (hE.le ((AHeap.le.refl H).fresh ‹H _ = none› _)) ?_))
  all_goals refine ⟨H, (AHeap.le.refl H).fresh ‹H _ = none› _, kb h ?_⟩
  all_goals clear hp hE h
  all_goals (try simp only [beq_iff_eq, beq_eq_false_iff_ne, bne_iff_ne, bne_eq_false_iff_eq, decide_eq_true_eq, decide_eq_false_iff_not, ne_eq, Bool.not_eq_true, Bool.not_eq_false, Bool.not_eq_eq_eq_not, Bool.not_true, Bool.not_false, Int.not_lt, Int.not_le, ge_iff_le, gt_iff_lt] at *)
  all_goals grind
theorem stmtC7 (H : AHeap) (K : Value → AHeap → Prop) (v b : Int) (e : Ex) (n1 n2 : Nat) (A : Option Addr) (o : Nat) (A0 : Option Addr) (c0 : Nat) (A1 : Option Addr) (c1 : Nat) (A2 : Option Addr) (c2 : Nat) (hA : A.isSome = true)
    (hp : Pl8 H A o 7 v b e n1 n2 A0 c0 A1 c1 A2 c2) (hE : ExV H e [.int .i64 e.op, .int .i64 e.n, .slice A0 e.args.length c0]) (h : K (.bool ((((n1 : Nat) : Int) == 0) && (((n2 : Nat) : Int) == 0) && (v == 0 && b == 0 && exprOk 5 e))) H) :
    ACalls Try.prog w0 198 [.pointer (adr A o), .int .i64 3] H K := by
  refine acalls_of_sx mix Try.func198 of198 (by simp [ir198]) ?_; rw [ir198]; (try delta qT qI qC qO qM qG)
  repeat' (first | simp -implicitDefEqProofs only [zG1,zG2,zG3,zG4,zG5,zG6,zG7,eq_self,resV,rval,X.val,binv,fillL,setR,↓reduceIte,Nat.reduceEqDiff,Nat.reduceAdd,Nat.reduceMul,Nat.reduceLeDiff,Nat.reduceLT,Nat.reduceSub,reduceCtorEq,zGr, hp, hA, Int.reduceBEq, cell_old, *] | ((with_reducible refine rows_intro (fun _ hb => ?_)); try simp only [set_none, ne_eq] at hb) | ((with_reducible refine new_intro (fun _ hb => ?_)); try simp only [set_none, ne_eq] at hb) | (with_reducible refine draw_same ?_) | ((with_reducible refine gd_split ?_ (fun _ => ?_) (fun _ => ?_)); exact rfl) | ((with_reducible refine td_split ?_ (fun _ => ?_) (fun _ => ?_)); exact rfl) | (with_reducible refine c_split (fun _ => ?_) (fun _ => ?_)) | (with_reducible refine inRange_ok _ _ _ _ _ _ ?_) | (with_reducible refine exprValid5_ok _ _ _ e A0 c0 (hE.le ((AHeap.le.refl H).fresh ‹H _ = none› _)) ?_))
  all_goals refine ⟨H, (AHeap.le.refl H).fresh ‹H _ = none› _, kb h ?_⟩
  all_goals clear hp hE h
  all_goals (try simp only [beq_iff_eq, beq_eq_false_iff_ne, bne_iff_ne, bne_eq_false_iff_eq, decide_eq_true_eq, decide_eq_false_iff_not, ne_eq, Bool.not_eq_true, Bool.not_eq_false, Bool.not_eq_eq_eq_not, Bool.not_true, Bool.not_false, Int.not_lt, Int.not_le, ge_iff_le, gt_iff_lt] at *)
  all_goals grind
theorem stmtC0 (H : AHeap) (K : Value → AHeap → Prop) (k : Int) (v b : Int) (e : Ex) (n1 n2 : Nat) (A : Option Addr) (o : Nat) (A0 : Option Addr) (c0 : Nat) (A1 : Option Addr) (c1 : Nat) (A2 : Option Addr) (c2 : Nat) (hA : A.isSome = true)
    (hp : Pl8 H A o k v b e n1 n2 A0 c0 A1 c1 A2 c2) (hE : ExV H e [.int .i64 e.op, .int .i64 e.n, .slice A0 e.args.length c0]) (hk : ¬ k = 1 ∧ ¬ k = 2 ∧ ¬ k = 3 ∧ ¬ k = 4 ∧ ¬ k = 5 ∧ ¬ k = 6 ∧ ¬ k = 7) (h : K (.bool false) H) :
    ACalls Try.prog w0 198 [.pointer (adr A o), .int .i64 3] H K := by
  obtain ⟨k1, k2, k3, k4, k5, k6, k7⟩ := hk
  have e1 : (k == 1) = false := by simp [k1]
  have e2 : (k == 2) = false := by simp [k2]
  have e3 : (k == 3) = false := by simp [k3]
  have e4 : (k == 4) = false := by simp [k4]
  have e5 : (k == 5) = false := by simp [k5]
  have e6 : (k == 6) = false := by simp [k6]
  have e7 : (k == 7) = false := by simp [k7]
  refine acalls_of_sx mix Try.func198 of198 (by simp [ir198]) ?_; rw [ir198]; (try delta qT qI qC qO qM qG)
  repeat' (first | simp -implicitDefEqProofs only [zG1,zG2,zG3,zG4,zG5,zG6,zG7,eq_self,resV,rval,X.val,binv,fillL,setR,↓reduceIte,Nat.reduceEqDiff,Nat.reduceAdd,Nat.reduceMul,Nat.reduceLeDiff,Nat.reduceLT,Nat.reduceSub,reduceCtorEq,zGr, hp, hA, e1, e2, e3, e4, e5, e6, e7, cell_old, *] | ((with_reducible refine rows_intro (fun _ hb => ?_)); try simp only [set_none, ne_eq] at hb) | ((with_reducible refine new_intro (fun _ hb => ?_)); try simp only [set_none, ne_eq] at hb) | (with_reducible refine draw_same ?_) | ((with_reducible refine gd_split ?_ (fun _ => ?_) (fun _ => ?_)); exact rfl) | ((with_reducible refine td_split ?_ (fun _ => ?_) (fun _ => ?_)); exact rfl) | (with_reducible refine c_split (fun _ => ?_) (fun _ => ?_)))
  exact ⟨H, (AHeap.le.refl H).fresh ‹H _ = none› _, h⟩
theorem emp_eq (α : Type) (l : List α) : l.isEmpty = (((l.length : Nat) : Int) == 0) := by
  cases l with
  | nil => rfl
  | cons x xs => simp <;> omega
theorem stmtValid_ok (H : AHeap) (K : Value → AHeap → Prop) (s : St) (A : Option Addr) (o : Nat) (A0 : Option Addr) (c0 : Nat) (A1 : Option Addr) (c1 : Nat) (A2 : Option Addr) (c2 : Nat) (hA : A.isSome = true)
    (hp : Pl8 H A o s.kind s.var s.box s.e s.body.length s.els.length A0 c0 A1 c1 A2 c2) (hE : ExV H s.e [.int .i64 s.e.op, .int .i64 s.e.n, .slice A0 s.e.args.length c0]) (h : K (.bool (stmtV s)) H) :
    ACalls Try.prog w0 198 [.pointer (adr A o), .int .i64 3] H K := by
  have hk : s.kind = 1 ∨ s.kind = 2 ∨ s.kind = 3 ∨ s.kind = 4 ∨ s.kind = 5 ∨ s.kind = 6 ∨ s.kind = 7 ∨ (¬ s.kind = 1 ∧ ¬ s.kind = 2 ∧ ¬ s.kind = 3 ∧ ¬ s.kind = 4 ∧ ¬ s.kind = 5 ∧ ¬ s.kind = 6 ∧ ¬ s.kind = 7) := by omega
  have e1 := emp_eq St s.body
  have e2 := emp_eq St s.els
  have e3 := emp_eq Ex s.e.args
  rcases hk with hk | hk | hk | hk | hk | hk | hk | hk
  · rw [hk] at hp
    refine stmtC1 w0 H K s.var s.box s.e _ _ A o A0 c0 A1 c1 A2 c2 hA hp hE (kb h ?_)
    simp only [stmtV, stBlock, stSimple, plainE, hk, e1, e2, e3]
    simp
  · rw [hk] at hp
    refine stmtC2 w0 H K s.var s.box s.e _ _ A o A0 c0 A1 c1 A2 c2 hA hp hE (kb h ?_)
    simp only [stmtV, stBlock, stSimple, plainE, hk, e1, e2, e3]
    simp
  · rw [hk] at hp
    refine stmtC3 w0 H K s.var s.box s.e _ _ A o A0 c0 A1 c1 A2 c2 hA hp hE (kb h ?_)
    simp only [stmtV, stBlock, stSimple, plainE, hk, e1, e2, e3]
    simp
  · rw [hk] at hp
    refine stmtC4 w0 H K s.var s.box s.e _ _ A o A0 c0 A1 c1 A2 c2 hA hp hE (kb h ?_)
    simp only [stmtV, stBlock, stSimple, plainE, hk, e1, e2, e3]
    simp
  · rw [hk] at hp
    refine stmtC5 w0 H K s.var s.box s.e _ _ A o A0 c0 A1 c1 A2 c2 hA hp hE (kb h ?_)
    simp only [stmtV, stBlock, stSimple, plainE, hk, e1, e2, e3]
    simp
  · rw [hk] at hp
    refine stmtC6 w0 H K s.var s.box s.e _ _ A o A0 c0 A1 c1 A2 c2 hA hp hE (kb h ?_)
    simp only [stmtV, stBlock, stSimple, plainE, hk, e1, e2, e3]
    simp
  · rw [hk] at hp
    refine stmtC7 w0 H K s.var s.box s.e _ _ A o A0 c0 A1 c1 A2 c2 hA hp hE (kb h ?_)
    simp only [stmtV, stBlock, stSimple, plainE, hk, e1, e2, e3]
    simp
  · refine stmtC0 w0 H K s.kind s.var s.box s.e _ _ A o A0 c0 A1 c1 A2 c2 hA hp hE hk (kb h ?_)
    obtain ⟨k1, k2, k3, k4, k5, k6, k7⟩ := hk
    simp [stmtV, stSimple, k1, k2, k3, k4, k5, k6, k7]
end Go.Proofs.Ytfjhjfddgdokgaa
namespace Go.Proofs.Ytfjhjfddgdokgaa
set_option linter.all false
open Go Go.RowKit
set_option maxRecDepth 100000
variable (w0 : World)
/-- The count's block. -/
abbrev ck (q : Int) : Blk := ⟨[.int .i64 q], true, 3, 1⟩
theorem cntL_ge (ss : List St) (k : Nat) (hk : k ≤ ss.length) : cntL (ss.take k) + (ss.length - k) ≤ cntL ss := by
  have h1 := cntL_app (ss.take k) (ss.drop k)
  have h2 := cntL_len (ss.drop k)
  rw [List.take_append_drop] at h1
  rw [List.length_drop] at h2
  omega
theorem stmtV_of {d : Nat} {s : St} (h : stOk d s = true) : stmtV s = true := by
  unfold stmtV
  split
  · rename_i hk
    obtain ⟨_, _, h1, _⟩ := stOk_block h hk
    exact h1
  · rename_i hk
    exact stOk_simple h (fun e => hk (.inl e)) (fun e => hk (.inr e))
theorem simple_cnt {s : St} (h : stSimple s = true) : s.cnt = 1 := by
  simp only [stSimple, Bool.and_eq_true, List.isEmpty_iff] at h
  rw [s.cnt_eq, h.1.1, h.1.2]; simp [cntL]
theorem ok_of_simple {d : Nat} {s : St} (h2 : ¬ (s.kind = 2 ∨ s.kind = 3)) : stOk d s = stSimple s := by
  cases d <;> (simp only [stOk]; rw [if_neg h2])
theorem ok_of_block {d : Nat} {s : St} (h2 : s.kind = 2 ∨ s.kind = 3) : stOk (d + 1) s = (stBlock s && s.body.all (stOk d) && s.els.all (stOk d)) := by
  simp only [stOk]; rw [if_pos h2]
theorem all_false {d : Nat} {ss : List St} {k : Nat} (hk : k < ss.length) (h : stOk d ss[k] = false) : ss.all (stOk d) = false := by
  rw [List.all_eq_false]
  exact ⟨_, List.getElem_mem hk, by simp [h]⟩
abbrev BvP (d bl : Nat) : Prop := ∀ (ss : List St) (A : Option Addr) (c y q : Nat) (D : AHeap) (K : Value → AHeap → Prop), D y = none → cntL ss ≤ 1048576 → q ≤ 16 → StR D ss A 0 →
  (∀ (r : Bool) (q' : Int), r = (ss.all (stOk d) && decide (q + cntL ss ≤ 16)) → (r = true → q' = ((q + cntL ss : Nat) : Int)) → K (.bool r) (D.set y (ck q'))) →
  ACalls Try.prog w0 176 [.slice A ss.length c, .int .i64 3, .int .i64 bl, .pointer (some ⟨y, 0, none⟩)] (D.set y (ck q)) K
theorem bvP_of (d bl : Nat) (hb3 : bl + d = 3) (ih : ∀ d', d = d' + 1 → BvP w0 d' (bl + 1)) : BvP w0 d bl := by
  intro ss A c y q D K hy hc hq hR h
  have hl := cntL_len ss
  have w1 := nat_add (a := q) (b := ss.length) (by omega)
  refine acalls_of_sx mix Try.func176 of176 (by simp [ir176]) ?_; rw [ir176]; (try delta qT qI qC qO qM qG)
  by_cases hbig : 16 < q + ss.length
  · have g0 : decide (((q + ss.length : Nat) : Int) > 16) = true := by simp; omega
    repeat' (first | simp -implicitDefEqProofs only [zG1,zG2,zG3,zG4,zG5,zG6,zG7,eq_self,resV,rval,X.val,binv,fillL,setR,↓reduceIte,Nat.reduceEqDiff,Nat.reduceAdd,Nat.reduceMul,Nat.reduceLeDiff,Nat.reduceLT,Nat.reduceSub,reduceCtorEq,zGq, w1, g0] | ((with_reducible refine rows_intro (fun _ hb => ?_)); try simp only [set_none, ne_eq] at hb) | ((with_reducible refine new_intro (fun _ hb => ?_)); try simp only [set_none, ne_eq] at hb) | (with_reducible refine draw_same ?_) | ((with_reducible refine gd_split ?_ (fun _ => ?_) (fun _ => ?_)); exact rfl) | ((with_reducible refine td_split ?_ (fun _ => ?_) (fun _ => ?_)); exact rfl) | (with_reducible refine c_split (fun _ => ?_) (fun _ => ?_)))
    refine ret_same (h false _ ?_ (fun e => by cases e))
    have : ¬ q + cntL ss ≤ 16 := by omega
    simp [this]
  · have g0 : decide (((q + ss.length : Nat) : Int) > 16) = false := by simp; omega
    repeat' (first | simp -implicitDefEqProofs only [zG1,zG2,zG3,zG4,zG5,zG6,zG7,eq_self,resV,rval,X.val,binv,fillL,setR,↓reduceIte,Nat.reduceEqDiff,Nat.reduceAdd,Nat.reduceMul,Nat.reduceLeDiff,Nat.reduceLT,Nat.reduceSub,reduceCtorEq,zGq, w1, g0] | ((with_reducible refine rows_intro (fun _ hb => ?_)); try simp only [set_none, ne_eq] at hb) | ((with_reducible refine new_intro (fun _ hb => ?_)); try simp only [set_none, ne_eq] at hb) | (with_reducible refine draw_same ?_) | ((with_reducible refine gd_split ?_ (fun _ => ?_) (fun _ => ?_)); exact rfl) | ((with_reducible refine td_split ?_ (fun _ => ?_) (fun _ => ?_)); exact rfl) | (with_reducible refine c_split (fun _ => ?_) (fun _ => ?_)))
    refine for_rule ss.length (fun k fr C => C = D.set y (ck ((q + ss.length + (cntL (ss.take k) - k) : Nat) : Int)) ∧ q + ss.length + (cntL (ss.take k) - k) ≤ 16 ∧ (∀ i (hi : i < ss.length), i < k → stOk d ss[i] = true) ∧
        fr 0 = .slice A ss.length c ∧ fr 1 = .int .i64 3 ∧ fr 2 = .int .i64 bl ∧ fr 3 = .pointer (some ⟨y, 0, none⟩) ∧ fr 23 = .int .i64 ss.length ∧ fr 24 = .int .i64 k)
      ⟨by simp [cntL], by simp [cntL]; omega, fun i hi hk => by omega, (by first | rfl | (simp only [put_at, ↓reduceIte, Nat.reduceEqDiff]; first | done | rfl | assumption) | simp [put_at, *]), (by first | rfl | (simp only [put_at, ↓reduceIte, Nat.reduceEqDiff]; first | done | rfl | assumption) | simp [put_at, *]), (by first | rfl | (simp only [put_at, ↓reduceIte, Nat.reduceEqDiff]; first | done | rfl | assumption) | simp [put_at, *]), (by first | rfl | (simp only [put_at, ↓reduceIte, Nat.reduceEqDiff]; first | done | rfl | assumption) | simp [put_at, *]), (by first | rfl | (simp only [put_at, ↓reduceIte, Nat.reduceEqDiff]; first | done | rfl | assumption) | simp [put_at, *]), (by first | rfl | (simp only [put_at, ↓reduceIte, Nat.reduceEqDiff]; first | done | rfl | assumption) | simp [put_at, *])⟩ ?_ ?_
    · rintro k fr _ hk ⟨rfl, hq2, hok, f0, f1, f2, f3, f23, f24⟩ N hN
      have g3 := lt_dec hk
      have g1 := rng hk
      have g2 := up1 hk (by omega)
      have hge := cntL_ge ss (k + 1) (by omega)
      have htk := cntL_take hk
      have hlk : k ≤ cntL (ss.take k) := by
        have := cntL_len (ss.take k)
        rw [List.length_take] at this; omega
      have hcs := ss[k].cnt_eq
      have gbl : decide ((bl : Int) > 3) = false := by simp; omega
      generalize hqk : q + ss.length + (cntL (ss.take k) - k) = qk at *
      have ly := (AHeap.le.refl D).fresh hy (ck (qk : Int))
      obtain ⟨gA, a0, d0, a1, d1, a2, d2, gp0, hx⟩ := hR.arg hk
      have gp := gp0.le ly
      have hxC := hx.le ly
      obtain ⟨hE, ⟨hb1, hbR⟩, hl1, hlR⟩ := hx.parts
      obtain ⟨hEC, -, -⟩ := hxC.parts
      cases hv : stmtV ss[k] with
      | false =>
        have hno : stOk d ss[k] = false := by
          cases hs : stOk d ss[k] with
          | false => rfl
          | true => rw [stmtV_of hs] at hv; cases hv
        repeat' (first | simp -implicitDefEqProofs only [zG1,zG2,zG3,zG4,zG5,zG6,zG7,eq_self,resV,rval,X.val,binv,fillL,setR,↓reduceIte,Nat.reduceEqDiff,Nat.reduceAdd,Nat.reduceMul,Nat.reduceLeDiff,Nat.reduceLT,Nat.reduceSub,reduceCtorEq,zGq, f0, f1, f2, f3, f23, f24, g3, g1, gA, hv] | ((with_reducible refine rows_intro (fun _ hb => ?_)); try simp only [set_none, ne_eq] at hb) | ((with_reducible refine new_intro (fun _ hb => ?_)); try simp only [set_none, ne_eq] at hb) | (with_reducible refine draw_same ?_) | ((with_reducible refine gd_split ?_ (fun _ => ?_) (fun _ => ?_)); exact rfl) | ((with_reducible refine td_split ?_ (fun _ => ?_) (fun _ => ?_)); exact rfl) | (with_reducible refine c_split (fun _ => ?_) (fun _ => ?_)) | (with_reducible refine stmtValid_ok _ _ _ ss[k] A (k * 8) a0 d0 a1 d1 a2 d2 gA gp hEC ?_))
        exact ret_same (h false _ (by rw [all_false hk hno]; rfl) (fun e => by cases e))
      | true =>
        by_cases hkd : ss[k].kind = 2 ∨ ss[k].kind = 3
        · cases d with
          | zero =>
            have hno : stOk 0 ss[k] = false := by simp only [stOk]; rw [if_pos hkd]
            have gb3 : decide ((bl : Int) ≥ 3) = true := by simp; omega
            rcases hkd with e2 | e2
            all_goals
              have hk2 : (ss[k].kind == 2) = decide (ss[k].kind = 2) := rfl
              rw [e2] at gp
              repeat' (first | simp -implicitDefEqProofs only [zG1,zG2,zG3,zG4,zG5,zG6,zG7,eq_self,resV,rval,X.val,binv,fillL,setR,↓reduceIte,Nat.reduceEqDiff,Nat.reduceAdd,Nat.reduceMul,Nat.reduceLeDiff,Nat.reduceLT,Nat.reduceSub,reduceCtorEq,zGq, f0, f1, f2, f3, f23, f24, g3, g1, gA, gp, hv, gbl, gb3, Int.reduceBEq, Int.reduceBNe, bne_self_eq_false] | ((with_reducible refine rows_intro (fun _ hb => ?_)); try simp only [set_none, ne_eq] at hb) | ((with_reducible refine new_intro (fun _ hb => ?_)); try simp only [set_none, ne_eq] at hb) | (with_reducible refine draw_same ?_) | ((with_reducible refine gd_split ?_ (fun _ => ?_) (fun _ => ?_)); exact rfl) | ((with_reducible refine td_split ?_ (fun _ => ?_) (fun _ => ?_)); exact rfl) | (with_reducible refine c_split (fun _ => ?_) (fun _ => ?_)) | (with_reducible refine stmtValid_ok _ _ _ ss[k] A (k * 8) a0 d0 a1 d1 a2 d2 gA (gp0.le ly) hEC ?_))
              exact ret_same (h false _ (by rw [all_false hk hno]; rfl) (fun e => by cases e))
          | succ d' =>
            have ihd := ih d' rfl
            have gb3 : decide ((bl : Int) ≥ 3) = false := by simp; omega
            have gb1 := nat_up (a := bl) (by omega)
            have hokb := ok_of_block (d := d') hkd
            have hsb : stBlock ss[k] = true := by simp only [stmtV, if_pos hkd] at hv; exact hv
            have hno : ∀ r1 : Bool, r1 = false → (r1 = (ss[k].body.all (stOk d') && decide (qk + cntL ss[k].body ≤ 16))) → (ss.all (stOk (d' + 1)) && decide (q + cntL ss ≤ 16)) = false := by
              intro r1 e1 e2
              subst e1
              cases hb : ss[k].body.all (stOk d') with
              | false => rw [all_false hk (by rw [hokb, hb]; simp)]; rfl
              | true =>
                have : ¬ q + cntL ss ≤ 16 := by
                  rw [hb] at e2
                  simp at e2
                  omega
                simp [this]
            have hno2 : ∀ r1 : Bool, r1 = false → (r1 = (ss[k].els.all (stOk d') && decide (qk + cntL ss[k].body + cntL ss[k].els ≤ 16))) → (ss.all (stOk (d' + 1)) && decide (q + cntL ss ≤ 16)) = false := by
              intro r1 e1 e2
              subst e1
              cases hb : ss[k].els.all (stOk d') with
              | false => rw [all_false hk (by rw [hokb, hb]; simp)]; rfl
              | true =>
                have : ¬ q + cntL ss ≤ 16 := by
                  rw [hb] at e2
                  simp at e2
                  omega
                simp [this]
            have fin : ∀ (fr' : Fr), (ss[k].body.all (stOk d')) = true → (ss[k].els.all (stOk d')) = true → qk + cntL ss[k].body + cntL ss[k].els ≤ 16 → fr' 0 = .slice A ss.length c → fr' 1 = .int .i64 3 → fr' 2 = .int .i64 bl → fr' 3 = .pointer (some ⟨y, 0, none⟩) → fr' 23 = .int .i64 ss.length → fr' 24 = .int .i64 ((k + 1 : Nat) : Int) →
                N fr' (D.set y (ck ((qk + cntL ss[k].body + cntL ss[k].els : Nat) : Int))) := by
              intro fr' hb1 hb2 hle h0 h1 h2 h3 h23 h24
              refine hN _ _ _ (.refl _) ⟨?_, by omega, fun i hi hik => ?_, h0, h1, h2, h3, h23, h24⟩
              · rw [show q + ss.length + (cntL (ss.take (k + 1)) - (k + 1)) = qk + cntL ss[k].body + cntL ss[k].els by omega]
              · rcases Nat.lt_succ_iff_lt_or_eq.1 hik with hik | rfl
                · exact hok i hi hik
                · rw [hokb, hsb, hb1, hb2]; rfl
            rcases hkd with e2 | e2
            all_goals
              rw [e2] at gp
              repeat' (first | simp -implicitDefEqProofs only [zG1,zG2,zG3,zG4,zG5,zG6,zG7,eq_self,resV,rval,X.val,binv,fillL,setR,↓reduceIte,Nat.reduceEqDiff,Nat.reduceAdd,Nat.reduceMul,Nat.reduceLeDiff,Nat.reduceLT,Nat.reduceSub,reduceCtorEq,zGq, f0, f1, f2, f3, f23, f24, g3, g1, gA, gp, hv, gbl, gb3, gb1, Int.reduceBEq, Int.reduceBNe, bne_self_eq_false] | ((with_reducible refine rows_intro (fun _ hb => ?_)); try simp only [set_none, ne_eq] at hb) | ((with_reducible refine new_intro (fun _ hb => ?_)); try simp only [set_none, ne_eq] at hb) | (with_reducible refine draw_same ?_) | ((with_reducible refine gd_split ?_ (fun _ => ?_) (fun _ => ?_)); exact rfl) | ((with_reducible refine td_split ?_ (fun _ => ?_) (fun _ => ?_)); exact rfl) | (with_reducible refine c_split (fun _ => ?_) (fun _ => ?_)) | (with_reducible refine stmtValid_ok _ _ _ ss[k] A (k * 8) a0 d0 a1 d1 a2 d2 gA (gp0.le ly) hEC ?_))
              refine ihd ss[k].body a1 d1 y qk D _ hy (by omega) hq2 hbR (fun r1 q1 hr1 hq1 => ?_)
              have gp1 := gp0.le ((AHeap.le.refl D).fresh hy (ck q1))
              rw [e2] at gp1
              cases r1 with
              | false =>
                repeat' (first | simp -implicitDefEqProofs only [zG1,zG2,zG3,zG4,zG5,zG6,zG7,eq_self,resV,rval,X.val,binv,fillL,setR,↓reduceIte,Nat.reduceEqDiff,Nat.reduceAdd,Nat.reduceMul,Nat.reduceLeDiff,Nat.reduceLT,Nat.reduceSub,reduceCtorEq,zGq, f0, f1, f2, f3, f23, f24, gp1] | ((with_reducible refine rows_intro (fun _ hb => ?_)); try simp only [set_none, ne_eq] at hb) | ((with_reducible refine new_intro (fun _ hb => ?_)); try simp only [set_none, ne_eq] at hb) | (with_reducible refine draw_same ?_) | ((with_reducible refine gd_split ?_ (fun _ => ?_) (fun _ => ?_)); exact rfl) | ((with_reducible refine td_split ?_ (fun _ => ?_) (fun _ => ?_)); exact rfl) | (with_reducible refine c_split (fun _ => ?_) (fun _ => ?_)))
                exact ret_same (h false _ (hno false rfl hr1).symm (fun e => by cases e))
              | true =>
                obtain rfl := hq1 rfl
                have hr1' := hr1.symm
                simp only [Bool.and_eq_true, decide_eq_true_eq] at hr1'
                repeat' (first | simp -implicitDefEqProofs only [zG1,zG2,zG3,zG4,zG5,zG6,zG7,eq_self,resV,rval,X.val,binv,fillL,setR,↓reduceIte,Nat.reduceEqDiff,Nat.reduceAdd,Nat.reduceMul,Nat.reduceLeDiff,Nat.reduceLT,Nat.reduceSub,reduceCtorEq,zGq, f0, f1, f2, f3, f23, f24, gA, gp1, gb1] | ((with_reducible refine rows_intro (fun _ hb => ?_)); try simp only [set_none, ne_eq] at hb) | ((with_reducible refine new_intro (fun _ hb => ?_)); try simp only [set_none, ne_eq] at hb) | (with_reducible refine draw_same ?_) | ((with_reducible refine gd_split ?_ (fun _ => ?_) (fun _ => ?_)); exact rfl) | ((with_reducible refine td_split ?_ (fun _ => ?_) (fun _ => ?_)); exact rfl) | (with_reducible refine c_split (fun _ => ?_) (fun _ => ?_)))
                refine ihd ss[k].els a2 d2 y (qk + cntL ss[k].body) D _ hy (by omega) hr1'.2 hlR (fun r2 q2 hr2 hq2 => ?_)
                cases r2 with
                | false =>
                  repeat' (first | simp -implicitDefEqProofs only [zG1,zG2,zG3,zG4,zG5,zG6,zG7,eq_self,resV,rval,X.val,binv,fillL,setR,↓reduceIte,Nat.reduceEqDiff,Nat.reduceAdd,Nat.reduceMul,Nat.reduceLeDiff,Nat.reduceLT,Nat.reduceSub,reduceCtorEq,zGq, f0, f1, f2, f3, f23, f24] | ((with_reducible refine rows_intro (fun _ hb => ?_)); try simp only [set_none, ne_eq] at hb) | ((with_reducible refine new_intro (fun _ hb => ?_)); try simp only [set_none, ne_eq] at hb) | (with_reducible refine draw_same ?_) | ((with_reducible refine gd_split ?_ (fun _ => ?_) (fun _ => ?_)); exact rfl) | ((with_reducible refine td_split ?_ (fun _ => ?_) (fun _ => ?_)); exact rfl) | (with_reducible refine c_split (fun _ => ?_) (fun _ => ?_)))
                  exact ret_same (h false _ (hno2 false rfl hr2).symm (fun e => by cases e))
                | true =>
                  obtain rfl := hq2 rfl
                  have hr2' := hr2.symm
                  simp only [Bool.and_eq_true, decide_eq_true_eq] at hr2'
                  repeat' (first | simp -implicitDefEqProofs only [zG1,zG2,zG3,zG4,zG5,zG6,zG7,eq_self,resV,rval,X.val,binv,fillL,setR,↓reduceIte,Nat.reduceEqDiff,Nat.reduceAdd,Nat.reduceMul,Nat.reduceLeDiff,Nat.reduceLT,Nat.reduceSub,reduceCtorEq,zGq, f0, f1, f2, f3, f23, f24, g2] | ((with_reducible refine rows_intro (fun _ hb => ?_)); try simp only [set_none, ne_eq] at hb) | ((with_reducible refine new_intro (fun _ hb => ?_)); try simp only [set_none, ne_eq] at hb) | (with_reducible refine draw_same ?_) | ((with_reducible refine gd_split ?_ (fun _ => ?_) (fun _ => ?_)); exact rfl) | ((with_reducible refine td_split ?_ (fun _ => ?_) (fun _ => ?_)); exact rfl) | (with_reducible refine c_split (fun _ => ?_) (fun _ => ?_)))
                  exact fin _ hr1'.1 hr2'.1 hr2'.2 (by first | rfl | (simp only [put_at, ↓reduceIte, Nat.reduceEqDiff]; first | done | rfl | assumption) | simp [put_at, *]) (by first | rfl | (simp only [put_at, ↓reduceIte, Nat.reduceEqDiff]; first | done | rfl | assumption) | simp [put_at, *]) (by first | rfl | (simp only [put_at, ↓reduceIte, Nat.reduceEqDiff]; first | done | rfl | assumption) | simp [put_at, *]) (by first | rfl | (simp only [put_at, ↓reduceIte, Nat.reduceEqDiff]; first | done | rfl | assumption) | simp [put_at, *]) (by first | rfl | (simp only [put_at, ↓reduceIte, Nat.reduceEqDiff]; first | done | rfl | assumption) | simp [put_at, *]) (by first | rfl | (simp only [put_at, ↓reduceIte, Nat.reduceEqDiff]; first | done | rfl | assumption) | simp [put_at, *])
        · have n2 : (ss[k].kind != 2) = true := by simp only [bne_iff_ne, ne_eq]; exact fun e => hkd (.inl e)
          have n3 : (ss[k].kind != 3) = true := by simp only [bne_iff_ne, ne_eq]; exact fun e => hkd (.inr e)
          have hs : stSimple ss[k] = true := by simp only [stmtV, if_neg hkd] at hv; exact hv
          have h1c := simple_cnt hs
          repeat' (first | simp -implicitDefEqProofs only [zG1,zG2,zG3,zG4,zG5,zG6,zG7,eq_self,resV,rval,X.val,binv,fillL,setR,↓reduceIte,Nat.reduceEqDiff,Nat.reduceAdd,Nat.reduceMul,Nat.reduceLeDiff,Nat.reduceLT,Nat.reduceSub,reduceCtorEq,zGq, f0, f1, f2, f3, f23, f24, g3, g1, g2, gA, gp, hv, gbl, n2, n3] | ((with_reducible refine rows_intro (fun _ hb => ?_)); try simp only [set_none, ne_eq] at hb) | ((with_reducible refine new_intro (fun _ hb => ?_)); try simp only [set_none, ne_eq] at hb) | (with_reducible refine draw_same ?_) | ((with_reducible refine gd_split ?_ (fun _ => ?_) (fun _ => ?_)); exact rfl) | ((with_reducible refine td_split ?_ (fun _ => ?_) (fun _ => ?_)); exact rfl) | (with_reducible refine c_split (fun _ => ?_) (fun _ => ?_)) | (with_reducible refine stmtValid_ok _ _ _ ss[k] A (k * 8) a0 d0 a1 d1 a2 d2 gA gp hEC ?_))
          refine hN _ _ _ (.refl _) ⟨?_, by omega, fun i hi hik => ?_, (by first | rfl | (simp only [put_at, ↓reduceIte, Nat.reduceEqDiff]; first | done | rfl | assumption) | simp [put_at, *]), (by first | rfl | (simp only [put_at, ↓reduceIte, Nat.reduceEqDiff]; first | done | rfl | assumption) | simp [put_at, *]), (by first | rfl | (simp only [put_at, ↓reduceIte, Nat.reduceEqDiff]; first | done | rfl | assumption) | simp [put_at, *]), (by first | rfl | (simp only [put_at, ↓reduceIte, Nat.reduceEqDiff]; first | done | rfl | assumption) | simp [put_at, *]), (by first | rfl | (simp only [put_at, ↓reduceIte, Nat.reduceEqDiff]; first | done | rfl | assumption) | simp [put_at, *]), (by first | rfl | (simp only [put_at, ↓reduceIte, Nat.reduceEqDiff]; first | done | rfl | assumption) | simp [put_at, *])⟩
          · rw [show q + ss.length + (cntL (ss.take (k + 1)) - (k + 1)) = qk by omega]
          · rcases Nat.lt_succ_iff_lt_or_eq.1 hik with hik | rfl
            · exact hok i hi hik
            · rw [ok_of_simple hkd]; exact hs
    · rintro fr _ ⟨rfl, hq2, hok, f0, f1, f2, f3, f23, f24⟩ N
      have g3 : decide ((ss.length : Int) < (ss.length : Int)) = false := by simp
      rw [List.take_length] at hq2 ⊢
      repeat' (first | simp -implicitDefEqProofs only [zG1,zG2,zG3,zG4,zG5,zG6,zG7,eq_self,resV,rval,X.val,binv,fillL,setR,↓reduceIte,Nat.reduceEqDiff,Nat.reduceAdd,Nat.reduceMul,Nat.reduceLeDiff,Nat.reduceLT,Nat.reduceSub,reduceCtorEq,zGq, f0, f1, f2, f3, f23, f24, g3] | ((with_reducible refine rows_intro (fun _ hb => ?_)); try simp only [set_none, ne_eq] at hb) | ((with_reducible refine new_intro (fun _ hb => ?_)); try simp only [set_none, ne_eq] at hb) | (with_reducible refine draw_same ?_) | ((with_reducible refine gd_split ?_ (fun _ => ?_) (fun _ => ?_)); exact rfl) | ((with_reducible refine td_split ?_ (fun _ => ?_) (fun _ => ?_)); exact rfl) | (with_reducible refine c_split (fun _ => ?_) (fun _ => ?_)))
      refine ret_same (h true _ ?_ (fun _ => by omega))
      have : q + cntL ss ≤ 16 := by omega
      rw [eq_comm, Bool.and_eq_true, List.all_eq_true]
      refine ⟨fun x hx => ?_, by simpa using this⟩
      obtain ⟨i, hi, rfl⟩ := List.getElem_of_mem hx
      exact hok i hi hi
theorem bvP : ∀ d bl, bl + d = 3 → BvP w0 d bl
  | 0, bl, h => bvP_of w0 0 bl h fun d' e => by omega
  | d + 1, bl, h => bvP_of w0 (d + 1) bl h fun d' e => by
    obtain rfl : d' = d := (by omega)
    exact bvP d' (bl + 1) (by omega)
theorem stmtsValid_ok (ss : List St) (A : Option Addr) (c : Nat) (H : AHeap) (K : Value → AHeap → Prop) (hc : cntL ss ≤ 1048576) (hR : StR H ss A 0) (h : K (.bool (stsOk ss)) H) :
    ACalls Try.prog w0 69 [.slice A ss.length c] H K := by
  have inner : ∀ (D : Value → AHeap → Prop), D (.bool (stsOk ss)) H → ACalls Try.prog w0 134 [.slice A ss.length c, .int .i64 3] H D := by
    intro D hD
    refine acalls_of_sx mix Try.func134 of134 (by simp [ir134]) ?_; rw [ir134]; (try delta qT qI qC qO qM qG)
    repeat' (first | simp -implicitDefEqProofs only [zG1,zG2,zG3,zG4,zG5,zG6,zG7,eq_self,resV,rval,X.val,binv,fillL,setR,↓reduceIte,Nat.reduceEqDiff,Nat.reduceAdd,Nat.reduceMul,Nat.reduceLeDiff,Nat.reduceLT,Nat.reduceSub,reduceCtorEq,zGq] | ((with_reducible refine rows_intro (fun _ hb => ?_)); try simp only [set_none, ne_eq] at hb) | ((with_reducible refine new_intro (fun _ hb => ?_)); try simp only [set_none, ne_eq] at hb) | (with_reducible refine draw_same ?_) | ((with_reducible refine gd_split ?_ (fun _ => ?_) (fun _ => ?_)); exact rfl) | ((with_reducible refine td_split ?_ (fun _ => ?_) (fun _ => ?_)); exact rfl) | (with_reducible refine c_split (fun _ => ?_) (fun _ => ?_)))
    rename_i y
    refine bvP w0 3 0 rfl ss A c y 0 H _ hb hc (by decide) hR (fun r q' hr _ => ?_)
    have e : r = stsOk ss := by rw [hr, stsOk, Nat.zero_add]
    subst e
    repeat' (first | simp -implicitDefEqProofs only [zG1,zG2,zG3,zG4,zG5,zG6,zG7,eq_self,resV,rval,X.val,binv,fillL,setR,↓reduceIte,Nat.reduceEqDiff,Nat.reduceAdd,Nat.reduceMul,Nat.reduceLeDiff,Nat.reduceLT,Nat.reduceSub,reduceCtorEq,zGq] | ((with_reducible refine rows_intro (fun _ hb => ?_)); try simp only [set_none, ne_eq] at hb) | ((with_reducible refine new_intro (fun _ hb => ?_)); try simp only [set_none, ne_eq] at hb) | (with_reducible refine draw_same ?_) | ((with_reducible refine gd_split ?_ (fun _ => ?_) (fun _ => ?_)); exact rfl) | ((with_reducible refine td_split ?_ (fun _ => ?_) (fun _ => ?_)); exact rfl) | (with_reducible refine c_split (fun _ => ?_) (fun _ => ?_)))
    exact ⟨H, (AHeap.le.refl H).fresh hb _, hD⟩
  refine acalls_of_sx mix Try.func69 of69 (by simp [ir69]) ?_; rw [ir69]; (try delta qT qI qC qO qM qG)
  repeat' (first | simp -implicitDefEqProofs only [zG1,zG2,zG3,zG4,zG5,zG6,zG7,eq_self,resV,rval,X.val,binv,fillL,setR,↓reduceIte,Nat.reduceEqDiff,Nat.reduceAdd,Nat.reduceMul,Nat.reduceLeDiff,Nat.reduceLT,Nat.reduceSub,reduceCtorEq,zGq] | ((with_reducible refine rows_intro (fun _ hb => ?_)); try simp only [set_none, ne_eq] at hb) | ((with_reducible refine new_intro (fun _ hb => ?_)); try simp only [set_none, ne_eq] at hb) | (with_reducible refine draw_same ?_) | ((with_reducible refine gd_split ?_ (fun _ => ?_) (fun _ => ?_)); exact rfl) | ((with_reducible refine td_split ?_ (fun _ => ?_) (fun _ => ?_)); exact rfl) | (with_reducible refine c_split (fun _ => ?_) (fun _ => ?_)) | (with_reducible refine inner _ ?_))
  exact ret_same h
end Go.Proofs.Ytfjhjfddgdokgaa
namespace Go.Proofs.Ytfjhjfddgdokgaa
set_option linter.all false
open Go Go.RowKit
set_option maxRecDepth 100000
variable (w0 : World)
theorem fl_eight {A B : AHeap} {t : TypeId} {b : Nat} {x0 x1 x2 x3 x4 x5 x6 x7 : Value} {o : Bool} {c : Nat} (hl : AHeap.le (A.set b ⟨[x0, x1, x2, x3, x4, x5, x6, x7], o, t, c⟩) B) :
    B.cell (some ⟨b, 0, none⟩) = some x0 ∧ B.cell (some ⟨b, 1, none⟩) = some x1 ∧ B.cell (some ⟨b, 2, none⟩) = some x2 ∧ B.cell (some ⟨b, 3, none⟩) = some x3 ∧ B.cell (some ⟨b, 4, none⟩) = some x4 ∧ B.cell (some ⟨b, 5, none⟩) = some x5 ∧ B.cell (some ⟨b, 6, none⟩) = some x6 ∧ B.cell (some ⟨b, 7, none⟩) = some x7 :=
  ⟨hl.cell (by rw [cell_same]; rfl), hl.cell (by rw [cell_same]; rfl), hl.cell (by rw [cell_same]; rfl), hl.cell (by rw [cell_same]; rfl), hl.cell (by rw [cell_same]; rfl), hl.cell (by rw [cell_same]; rfl), hl.cell (by rw [cell_same]; rfl), hl.cell (by rw [cell_same]; rfl)⟩
theorem q_oc (q : Qd) : ∀ v ∈ q.cells, v.oneCell' = true := by simp [ocI]
theorem qcells_cons (q : Qd) (l : List Qd) : qcells (q :: l) = q.cells ++ qcells l := by simp [qcells]
theorem qcells_one' (q : Qd) : qcells [q] = q.cells := by simp [qcells]
theorem emp0 {α : Type} {l : List α} (h : l.isEmpty = true) : (((l.length : Nat) : Int) == 0) = true := by
  cases l with
  | nil => rfl
  | cons x xs => cases h
theorem emp1 {α : Type} {l : List α} (h : l.isEmpty = false) : (((l.length : Nat) : Int) == 0) = false := by
  cases l with
  | nil => cases h
  | cons x xs => simp; omega
/-- l22Expr, as a row over the heap. -/
theorem l22ExprR_ok (e : Ex) (a : Option Addr) (c : Nat) (H : AHeap) (K : Value → AHeap → Prop) (he : exprOk 5 e = true) (hv : ExV H e [.int .i64 e.op, .int .i64 e.n, .slice a e.args.length c])
    (h : ∀ v C, Row H C 111 5 v (compE e).length (qcells (compE e)) → K v C) :
    ACalls Try.prog w0 179 [.agg #[.int .i64 e.op, .int .i64 e.n, .slice a e.args.length c], .int .i64 4] H K :=
  l22Expr_ok w0 5 e a c 4 H K (by decide) he hv (by decide) (by decide) (rw_of fun v C bs l n w => h v C ⟨bs, l, n, w⟩)
abbrev LiP (d : Nat) : Prop := ∀ (ss : List St) (A : Option Addr) (c i : Nat) (H : AHeap) (K : Value → AHeap → Prop), ss.all (stOk d) = true → cntL ss ≤ 1048576 → i ≤ 1099511627776 - 33 * cntL ss → StR H ss A 0 →
  (∀ v C, Row H C 111 5 v (szL ss) (qcells (compL ss i)) → K v C) → ACalls Try.prog w0 72 [.slice A ss.length c, .int .i64 i] H K
abbrev SiP (d : Nat) : Prop := ∀ (s : St) (A0 : Option Addr) (c0 : Nat) (A1 : Option Addr) (c1 : Nat) (A2 : Option Addr) (c2 i : Nat) (H : AHeap) (K : Value → AHeap → Prop), stOk d s = true → s.cnt ≤ 1048576 → i ≤ 1099511627776 - 33 * s.cnt →
  StV H s (stc s.kind s.var s.box s.e s.body.length s.els.length A0 c0 A1 c1 A2 c2) → (∀ v C, Row H C 111 5 v (szS s) (qcells (compS s i)) → K v C) →
  ACalls Try.prog w0 137 [stv s.kind s.var s.box s.e s.body.length s.els.length A0 c0 A1 c1 A2 c2, .int .i64 i] H K
theorem l22If_ok (d : Nat) (ih : LiP w0 d) (k v b : Int) (e : Ex) (body els : List St) (A0 : Option Addr) (c0 : Nat) (A1 : Option Addr) (c1 : Nat) (A2 : Option Addr) (c2 i : Nat) (H : AHeap) (K : Value → AHeap → Prop)
    (he : exprOk 5 e = true) (hbd : body.all (stOk d) = true) (hel' : els.all (stOk d) = true) (hc : cntL body + cntL els < 1048576) (hi : i ≤ 1099511627776 - 33 * (1 + cntL body + cntL els))
    (hE : ExV H e [.int .i64 e.op, .int .i64 e.n, .slice A0 e.args.length c0]) (hB : StR H body A1 0) (hL : StR H els A2 0)
    (h : ∀ v' C, Row H C 111 5 v' (szS (.mk 2 v b e body els)) (qcells (compS (.mk 2 v b e body els) i)) → K v' C) :
    ACalls Try.prog w0 180 [stv k v b e body.length els.length A0 c0 A1 c1 A2 c2, .int .i64 i] H K := by
  have n0 := compE_le e
  have n1 := szL_le body
  have n2 := szL_le els
  refine acalls_of_sx mix Try.func180 of180 (by simp [ir180]) ?_; rw [ir180]; (try delta qT qI qC qO qM qG)
  repeat' (first | simp -implicitDefEqProofs only [zG1,zG2,zG3,zG4,zG5,zG6,zG7,eq_self,resV,rval,X.val,binv,fillL,setR,↓reduceIte,Nat.reduceEqDiff,Nat.reduceAdd,Nat.reduceMul,Nat.reduceLeDiff,Nat.reduceLT,Nat.reduceSub,reduceCtorEq,zGq] | ((with_reducible refine rows_intro (fun _ hb => ?_)); try simp only [set_none, ne_eq] at hb) | ((with_reducible refine new_intro (fun _ hb => ?_)); try simp only [set_none, ne_eq] at hb) | (with_reducible refine draw_same ?_) | ((with_reducible refine gd_split ?_ (fun _ => ?_) (fun _ => ?_)); exact rfl) | ((with_reducible refine td_split ?_ (fun _ => ?_) (fun _ => ?_)); exact rfl) | (with_reducible refine c_split (fun _ => ?_) (fun _ => ?_)))
  rename_i x
  have hx := hb
  have lx := (AHeap.le.refl H).fresh hx ⟨[.int .i64 k, .int .i64 v, .int .i64 b, .int .i64 e.op, .int .i64 e.n, .slice A0 e.args.length c0, .slice A1 body.length c1, .slice A2 els.length c2], true, 105, 8⟩
  refine l22ExprR_ok _ e A0 c0 _ _ he (hE.le lx) (fun v1 C1 r1 => ?_)
  have g1 := fl_eight r1.hle
  obtain ⟨B1, e1, rfl, -⟩ := r1.fl
  have w1 := nat_add (a := i) (b := (compE e).length) (by omega)
  have w2 := nat_up (a := i + (compE e).length) (by omega)
  repeat' (first | simp -implicitDefEqProofs only [zG1,zG2,zG3,zG4,zG5,zG6,zG7,eq_self,resV,rval,X.val,binv,fillL,setR,↓reduceIte,Nat.reduceEqDiff,Nat.reduceAdd,Nat.reduceMul,Nat.reduceLeDiff,Nat.reduceLT,Nat.reduceSub,reduceCtorEq,zGq, g1, w1, w2] | ((with_reducible refine rows_intro (fun _ hb => ?_)); try simp only [set_none, ne_eq] at hb) | ((with_reducible refine new_intro (fun _ hb => ?_)); try simp only [set_none, ne_eq] at hb) | (with_reducible refine draw_same ?_) | ((with_reducible refine gd_split ?_ (fun _ => ?_) (fun _ => ?_)); exact rfl) | ((with_reducible refine td_split ?_ (fun _ => ?_) (fun _ => ?_)); exact rfl) | (with_reducible refine c_split (fun _ => ?_) (fun _ => ?_)) | (with_reducible refine ih body A1 c1 _ _ _ hbd (by omega) (by omega) (hB.le (lx.trans r1.hle)) (fun v2 C2 r2 => ?_)))
  have g2 := fl_eight (r1.hle.trans r2.hle)
  obtain ⟨B2, e2, rfl, -⟩ := r2.fl
  have w3 := nat_add (a := i + (compE e).length + 1) (b := szL body) (by omega)
  cases hel : els.isEmpty with
  | true =>
    have g3 := emp0 hel
    repeat' (first | simp -implicitDefEqProofs only [zG1,zG2,zG3,zG4,zG5,zG6,zG7,eq_self,resV,rval,X.val,binv,fillL,setR,↓reduceIte,Nat.reduceEqDiff,Nat.reduceAdd,Nat.reduceMul,Nat.reduceLeDiff,Nat.reduceLT,Nat.reduceSub,reduceCtorEq,zGq, g2, g3, w1, w2, w3] | ((with_reducible refine rows_intro (fun _ hb => ?_)); try simp only [set_none, ne_eq] at hb) | ((with_reducible refine new_intro (fun _ hb => ?_)); try simp only [set_none, ne_eq] at hb) | (with_reducible refine draw_same ?_) | ((with_reducible refine gd_split ?_ (fun _ => ?_) (fun _ => ?_)); exact rfl) | ((with_reducible refine td_split ?_ (fun _ => ?_) (fun _ => ?_)); exact rfl) | (with_reducible refine c_split (fun _ => ?_) (fun _ => ?_)))
    obtain ⟨D, lD, lD2, rD, kp⟩ := r1.cut r2.hle
    have r2' := kp _ _ _ _ _ r2
    refine rD.app1 (m := 1) ‹_› rfl (by simp [ocI]) (by simp only [maxLen]; omega) (by omega) (fun v3 C3 r3 => ?_)
    repeat' (first | simp -implicitDefEqProofs only [zG1,zG2,zG3,zG4,zG5,zG6,zG7,eq_self,resV,rval,X.val,binv,fillL,setR,↓reduceIte,Nat.reduceEqDiff,Nat.reduceAdd,Nat.reduceMul,Nat.reduceLeDiff,Nat.reduceLT,Nat.reduceSub,reduceCtorEq,zGq, g2, g3, w1, w2, w3] | ((with_reducible refine rows_intro (fun _ hb => ?_)); try simp only [set_none, ne_eq] at hb) | ((with_reducible refine new_intro (fun _ hb => ?_)); try simp only [set_none, ne_eq] at hb) | (with_reducible refine draw_same ?_) | ((with_reducible refine gd_split ?_ (fun _ => ?_) (fun _ => ?_)); exact rfl) | ((with_reducible refine td_split ?_ (fun _ => ?_) (fun _ => ?_)); exact rfl) | (with_reducible refine c_split (fun _ => ?_) (fun _ => ?_)))
    have r2'' := r2'.le r3.hle
    have f2 := r2''.fl'.1
    refine r3.app f2 (by rw [qcells_len, compL_len]; rfl) (qcells_oc _) (by simp only [maxLen]; omega) (by omega) (fun v4 C4 r4 => ?_)
    repeat' (first | simp -implicitDefEqProofs only [zG1,zG2,zG3,zG4,zG5,zG6,zG7,eq_self,resV,rval,X.val,binv,fillL,setR,↓reduceIte,Nat.reduceEqDiff,Nat.reduceAdd,Nat.reduceMul,Nat.reduceLeDiff,Nat.reduceLT,Nat.reduceSub,reduceCtorEq,zGq] | ((with_reducible refine rows_intro (fun _ hb => ?_)); try simp only [set_none, ne_eq] at hb) | ((with_reducible refine new_intro (fun _ hb => ?_)); try simp only [set_none, ne_eq] at hb) | (with_reducible refine draw_same ?_) | ((with_reducible refine gd_split ?_ (fun _ => ?_) (fun _ => ?_)); exact rfl) | ((with_reducible refine td_split ?_ (fun _ => ?_) (fun _ => ?_)); exact rfl) | (with_reducible refine c_split (fun _ => ?_) (fun _ => ?_)))
    refine ret_same (h _ _ ?_)
    have r5 := r4.base (lx.trans lD)
    simp only [szS, compS, hel, if_true, Nat.add_zero, qcells_app, qcells_cons]
    simp only [List.append_assoc] at r5 ⊢
    exact r5
  | false =>
    have g3 := emp1 hel
    have w4 := nat_up (a := i + (compE e).length + 1 + szL body) (by omega)
    repeat' (first | simp -implicitDefEqProofs only [zG1,zG2,zG3,zG4,zG5,zG6,zG7,eq_self,resV,rval,X.val,binv,fillL,setR,↓reduceIte,Nat.reduceEqDiff,Nat.reduceAdd,Nat.reduceMul,Nat.reduceLeDiff,Nat.reduceLT,Nat.reduceSub,reduceCtorEq,zGq, g2, g3, w1, w2, w3, w4] | ((with_reducible refine rows_intro (fun _ hb => ?_)); try simp only [set_none, ne_eq] at hb) | ((with_reducible refine new_intro (fun _ hb => ?_)); try simp only [set_none, ne_eq] at hb) | (with_reducible refine draw_same ?_) | ((with_reducible refine gd_split ?_ (fun _ => ?_) (fun _ => ?_)); exact rfl) | ((with_reducible refine td_split ?_ (fun _ => ?_) (fun _ => ?_)); exact rfl) | (with_reducible refine c_split (fun _ => ?_) (fun _ => ?_)) | (with_reducible refine ih els A2 c2 _ _ _ hel' (by omega) (by omega) (hL.le (lx.trans (r1.hle.trans r2.hle))) (fun v3 C3 r3 => ?_)))
    obtain ⟨B3, e3, rfl, -⟩ := r3.fl
    have w5 := nat_add (a := i + (compE e).length + 1 + szL body + 1) (b := szL els) (by omega)
    repeat' (first | simp -implicitDefEqProofs only [zG1,zG2,zG3,zG4,zG5,zG6,zG7,eq_self,resV,rval,X.val,binv,fillL,setR,↓reduceIte,Nat.reduceEqDiff,Nat.reduceAdd,Nat.reduceMul,Nat.reduceLeDiff,Nat.reduceLT,Nat.reduceSub,reduceCtorEq,zGq, g3, w1, w2, w3, w4, w5] | ((with_reducible refine rows_intro (fun _ hb => ?_)); try simp only [set_none, ne_eq] at hb) | ((with_reducible refine new_intro (fun _ hb => ?_)); try simp only [set_none, ne_eq] at hb) | (with_reducible refine draw_same ?_) | ((with_reducible refine gd_split ?_ (fun _ => ?_) (fun _ => ?_)); exact rfl) | ((with_reducible refine td_split ?_ (fun _ => ?_) (fun _ => ?_)); exact rfl) | (with_reducible refine c_split (fun _ => ?_) (fun _ => ?_)))
    obtain ⟨D, lD, lD2, rD, kp⟩ := r1.cut r2.hle
    have r2' := kp _ _ _ _ _ r2
    obtain ⟨D', lD', lD2', rD', kp'⟩ := r1.cut (r2.hle.trans r3.hle)
    have r3' := kp' _ _ _ _ _ (r3.base r2.hle)
    have r2a := kp' _ _ _ _ _ (r2.le r3.hle)
    refine rD'.app1 (m := 1) ‹_› rfl (by simp [ocI]) (by simp only [maxLen]; omega) (by omega) (fun v4 C4 r4 => ?_)
    repeat' (first | simp -implicitDefEqProofs only [zG1,zG2,zG3,zG4,zG5,zG6,zG7,eq_self,resV,rval,X.val,binv,fillL,setR,↓reduceIte,Nat.reduceEqDiff,Nat.reduceAdd,Nat.reduceMul,Nat.reduceLeDiff,Nat.reduceLT,Nat.reduceSub,reduceCtorEq,zGq, g3, w1, w2, w3, w4, w5] | ((with_reducible refine rows_intro (fun _ hb => ?_)); try simp only [set_none, ne_eq] at hb) | ((with_reducible refine new_intro (fun _ hb => ?_)); try simp only [set_none, ne_eq] at hb) | (with_reducible refine draw_same ?_) | ((with_reducible refine gd_split ?_ (fun _ => ?_) (fun _ => ?_)); exact rfl) | ((with_reducible refine td_split ?_ (fun _ => ?_) (fun _ => ?_)); exact rfl) | (with_reducible refine c_split (fun _ => ?_) (fun _ => ?_)))
    refine r4.app (r2a.le r4.hle).fl'.1 (by rw [qcells_len, compL_len]; rfl) (qcells_oc _) (by simp only [maxLen]; omega) (by omega) (fun v5 C5 r5 => ?_)
    repeat' (first | simp -implicitDefEqProofs only [zG1,zG2,zG3,zG4,zG5,zG6,zG7,eq_self,resV,rval,X.val,binv,fillL,setR,↓reduceIte,Nat.reduceEqDiff,Nat.reduceAdd,Nat.reduceMul,Nat.reduceLeDiff,Nat.reduceLT,Nat.reduceSub,reduceCtorEq,zGq, g3, w1, w2, w3, w4, w5] | ((with_reducible refine rows_intro (fun _ hb => ?_)); try simp only [set_none, ne_eq] at hb) | ((with_reducible refine new_intro (fun _ hb => ?_)); try simp only [set_none, ne_eq] at hb) | (with_reducible refine draw_same ?_) | ((with_reducible refine gd_split ?_ (fun _ => ?_) (fun _ => ?_)); exact rfl) | ((with_reducible refine td_split ?_ (fun _ => ?_) (fun _ => ?_)); exact rfl) | (with_reducible refine c_split (fun _ => ?_) (fun _ => ?_)))
    refine r5.app1 (m := 1) ‹_› rfl (by simp [ocI]) (by simp only [maxLen]; omega) (by omega) (fun v6 C6 r6 => ?_)
    repeat' (first | simp -implicitDefEqProofs only [zG1,zG2,zG3,zG4,zG5,zG6,zG7,eq_self,resV,rval,X.val,binv,fillL,setR,↓reduceIte,Nat.reduceEqDiff,Nat.reduceAdd,Nat.reduceMul,Nat.reduceLeDiff,Nat.reduceLT,Nat.reduceSub,reduceCtorEq,zGq, g3, w1, w2, w3, w4, w5] | ((with_reducible refine rows_intro (fun _ hb => ?_)); try simp only [set_none, ne_eq] at hb) | ((with_reducible refine new_intro (fun _ hb => ?_)); try simp only [set_none, ne_eq] at hb) | (with_reducible refine draw_same ?_) | ((with_reducible refine gd_split ?_ (fun _ => ?_) (fun _ => ?_)); exact rfl) | ((with_reducible refine td_split ?_ (fun _ => ?_) (fun _ => ?_)); exact rfl) | (with_reducible refine c_split (fun _ => ?_) (fun _ => ?_)))
    refine r6.app (r3'.le r6.hle).fl'.1 (by rw [qcells_len, compL_len]; rfl) (qcells_oc _) (by simp only [maxLen]; omega) (by omega) (fun v7 C7 r7 => ?_)
    repeat' (first | simp -implicitDefEqProofs only [zG1,zG2,zG3,zG4,zG5,zG6,zG7,eq_self,resV,rval,X.val,binv,fillL,setR,↓reduceIte,Nat.reduceEqDiff,Nat.reduceAdd,Nat.reduceMul,Nat.reduceLeDiff,Nat.reduceLT,Nat.reduceSub,reduceCtorEq,zGq] | ((with_reducible refine rows_intro (fun _ hb => ?_)); try simp only [set_none, ne_eq] at hb) | ((with_reducible refine new_intro (fun _ hb => ?_)); try simp only [set_none, ne_eq] at hb) | (with_reducible refine draw_same ?_) | ((with_reducible refine gd_split ?_ (fun _ => ?_) (fun _ => ?_)); exact rfl) | ((with_reducible refine td_split ?_ (fun _ => ?_) (fun _ => ?_)); exact rfl) | (with_reducible refine c_split (fun _ => ?_) (fun _ => ?_)))
    refine ret_same (h _ _ ?_)
    have r8 := r7.base (lx.trans lD')
    simp only [szS, compS, hel, if_true, Bool.false_eq_true, if_false, qcells_app, qcells_cons]
    simp only [List.append_assoc, Nat.add_assoc] at r8 ⊢
    exact r8
theorem l22While_ok (d : Nat) (ih : LiP w0 d) (k v b : Int) (e : Ex) (body els : List St) (A0 : Option Addr) (c0 : Nat) (A1 : Option Addr) (c1 : Nat) (A2 : Option Addr) (c2 i : Nat) (H : AHeap) (K : Value → AHeap → Prop)
    (he : exprOk 5 e = true) (hbd : body.all (stOk d) = true) (hc : cntL body < 1048576) (hi : i ≤ 1099511627776 - 33 * (1 + cntL body))
    (hE : ExV H e [.int .i64 e.op, .int .i64 e.n, .slice A0 e.args.length c0]) (hB : StR H body A1 0)
    (h : ∀ v' C, Row H C 111 5 v' (szS (.mk 3 v b e body els)) (qcells (compS (.mk 3 v b e body els) i)) → K v' C) :
    ACalls Try.prog w0 181 [stv k v b e body.length els.length A0 c0 A1 c1 A2 c2, .int .i64 i] H K := by
  have n0 := compE_le e
  have n1 := szL_le body
  refine acalls_of_sx mix Try.func181 of181 (by simp [ir181]) ?_; rw [ir181]; (try delta qT qI qC qO qM qG)
  repeat' (first | simp -implicitDefEqProofs only [zG1,zG2,zG3,zG4,zG5,zG6,zG7,eq_self,resV,rval,X.val,binv,fillL,setR,↓reduceIte,Nat.reduceEqDiff,Nat.reduceAdd,Nat.reduceMul,Nat.reduceLeDiff,Nat.reduceLT,Nat.reduceSub,reduceCtorEq,zGq] | ((with_reducible refine rows_intro (fun _ hb => ?_)); try simp only [set_none, ne_eq] at hb) | ((with_reducible refine new_intro (fun _ hb => ?_)); try simp only [set_none, ne_eq] at hb) | (with_reducible refine draw_same ?_) | ((with_reducible refine gd_split ?_ (fun _ => ?_) (fun _ => ?_)); exact rfl) | ((with_reducible refine td_split ?_ (fun _ => ?_) (fun _ => ?_)); exact rfl) | (with_reducible refine c_split (fun _ => ?_) (fun _ => ?_)))
  rename_i x
  have hx := hb
  have lx := (AHeap.le.refl H).fresh hx ⟨[.int .i64 k, .int .i64 v, .int .i64 b, .int .i64 e.op, .int .i64 e.n, .slice A0 e.args.length c0, .slice A1 body.length c1, .slice A2 els.length c2], true, 105, 8⟩
  refine l22ExprR_ok _ e A0 c0 _ _ he (hE.le lx) (fun v1 C1 r1 => ?_)
  have g1 := fl_eight r1.hle
  obtain ⟨B1, e1, rfl, -⟩ := r1.fl
  have w1 := nat_add (a := i) (b := (compE e).length) (by omega)
  have w2 := nat_up (a := i + (compE e).length) (by omega)
  repeat' (first | simp -implicitDefEqProofs only [zG1,zG2,zG3,zG4,zG5,zG6,zG7,eq_self,resV,rval,X.val,binv,fillL,setR,↓reduceIte,Nat.reduceEqDiff,Nat.reduceAdd,Nat.reduceMul,Nat.reduceLeDiff,Nat.reduceLT,Nat.reduceSub,reduceCtorEq,zGq, g1, w1, w2] | ((with_reducible refine rows_intro (fun _ hb => ?_)); try simp only [set_none, ne_eq] at hb) | ((with_reducible refine new_intro (fun _ hb => ?_)); try simp only [set_none, ne_eq] at hb) | (with_reducible refine draw_same ?_) | ((with_reducible refine gd_split ?_ (fun _ => ?_) (fun _ => ?_)); exact rfl) | ((with_reducible refine td_split ?_ (fun _ => ?_) (fun _ => ?_)); exact rfl) | (with_reducible refine c_split (fun _ => ?_) (fun _ => ?_)) | (with_reducible refine ih body A1 c1 _ _ _ hbd (by omega) (by omega) (hB.le (lx.trans r1.hle)) (fun v2 C2 r2 => ?_)))
  have g2 := fl_eight (r1.hle.trans r2.hle)
  obtain ⟨B2, e2, rfl, -⟩ := r2.fl
  have w3 := nat_add (a := i + (compE e).length + 1) (b := szL body) (by omega)
  have w4 := nat_up (a := i + (compE e).length + 1 + szL body) (by omega)
  repeat' (first | simp -implicitDefEqProofs only [zG1,zG2,zG3,zG4,zG5,zG6,zG7,eq_self,resV,rval,X.val,binv,fillL,setR,↓reduceIte,Nat.reduceEqDiff,Nat.reduceAdd,Nat.reduceMul,Nat.reduceLeDiff,Nat.reduceLT,Nat.reduceSub,reduceCtorEq,zGq, g2, w1, w2, w3, w4] | ((with_reducible refine rows_intro (fun _ hb => ?_)); try simp only [set_none, ne_eq] at hb) | ((with_reducible refine new_intro (fun _ hb => ?_)); try simp only [set_none, ne_eq] at hb) | (with_reducible refine draw_same ?_) | ((with_reducible refine gd_split ?_ (fun _ => ?_) (fun _ => ?_)); exact rfl) | ((with_reducible refine td_split ?_ (fun _ => ?_) (fun _ => ?_)); exact rfl) | (with_reducible refine c_split (fun _ => ?_) (fun _ => ?_)))
  obtain ⟨D, lD, lD2, rD, kp⟩ := r1.cut r2.hle
  have r2' := kp _ _ _ _ _ r2
  refine rD.app1 (m := 1) ‹_› rfl (by simp [ocI]) (by simp only [maxLen]; omega) (by omega) (fun v3 C3 r3 => ?_)
  repeat' (first | simp -implicitDefEqProofs only [zG1,zG2,zG3,zG4,zG5,zG6,zG7,eq_self,resV,rval,X.val,binv,fillL,setR,↓reduceIte,Nat.reduceEqDiff,Nat.reduceAdd,Nat.reduceMul,Nat.reduceLeDiff,Nat.reduceLT,Nat.reduceSub,reduceCtorEq,zGq, g2, w1, w2, w3, w4] | ((with_reducible refine rows_intro (fun _ hb => ?_)); try simp only [set_none, ne_eq] at hb) | ((with_reducible refine new_intro (fun _ hb => ?_)); try simp only [set_none, ne_eq] at hb) | (with_reducible refine draw_same ?_) | ((with_reducible refine gd_split ?_ (fun _ => ?_) (fun _ => ?_)); exact rfl) | ((with_reducible refine td_split ?_ (fun _ => ?_) (fun _ => ?_)); exact rfl) | (with_reducible refine c_split (fun _ => ?_) (fun _ => ?_)))
  refine r3.app (r2'.le r3.hle).fl'.1 (by rw [qcells_len, compL_len]; rfl) (qcells_oc _) (by simp only [maxLen]; omega) (by omega) (fun v4 C4 r4 => ?_)
  repeat' (first | simp -implicitDefEqProofs only [zG1,zG2,zG3,zG4,zG5,zG6,zG7,eq_self,resV,rval,X.val,binv,fillL,setR,↓reduceIte,Nat.reduceEqDiff,Nat.reduceAdd,Nat.reduceMul,Nat.reduceLeDiff,Nat.reduceLT,Nat.reduceSub,reduceCtorEq,zGq] | ((with_reducible refine rows_intro (fun _ hb => ?_)); try simp only [set_none, ne_eq] at hb) | ((with_reducible refine new_intro (fun _ hb => ?_)); try simp only [set_none, ne_eq] at hb) | (with_reducible refine draw_same ?_) | ((with_reducible refine gd_split ?_ (fun _ => ?_) (fun _ => ?_)); exact rfl) | ((with_reducible refine td_split ?_ (fun _ => ?_) (fun _ => ?_)); exact rfl) | (with_reducible refine c_split (fun _ => ?_) (fun _ => ?_)))
  refine r4.app1 (m := 1) ‹_› rfl (by simp [ocI]) (by simp only [maxLen]; omega) (by omega) (fun v5 C5 r5 => ?_)
  repeat' (first | simp -implicitDefEqProofs only [zG1,zG2,zG3,zG4,zG5,zG6,zG7,eq_self,resV,rval,X.val,binv,fillL,setR,↓reduceIte,Nat.reduceEqDiff,Nat.reduceAdd,Nat.reduceMul,Nat.reduceLeDiff,Nat.reduceLT,Nat.reduceSub,reduceCtorEq,zGq] | ((with_reducible refine rows_intro (fun _ hb => ?_)); try simp only [set_none, ne_eq] at hb) | ((with_reducible refine new_intro (fun _ hb => ?_)); try simp only [set_none, ne_eq] at hb) | (with_reducible refine draw_same ?_) | ((with_reducible refine gd_split ?_ (fun _ => ?_) (fun _ => ?_)); exact rfl) | ((with_reducible refine td_split ?_ (fun _ => ?_) (fun _ => ?_)); exact rfl) | (with_reducible refine c_split (fun _ => ?_) (fun _ => ?_)))
  refine ret_same (h _ _ ?_)
  have r6 := r5.base (lx.trans lD)
  have e6 : (compE e).length + 2 + szL body = (compE e).length + 1 + szL body + 1 := by omega
  have e7 : szS (.mk 3 v b e body els) = (compE e).length + 1 + szL body + 1 := by rw [← e6]; simp [szS]
  rw [e7]
  have e8 : compS (.mk 3 v b e body els) i = compE e ++ ⟨5, 0, 4, 0, ((i + (compE e).length + 1 + szL body + 1 : Nat) : Int)⟩ :: (compL body (i + (compE e).length + 1) ++ [⟨4, 0, 0, 0, (i : Int)⟩]) := by simp [compS]
  rw [e8]
  simp only [qcells_app, qcells_cons, List.append_assoc] at r6 ⊢
  exact r6
/-- The quad behind a statement's expression. -/
theorem siP_of (d : Nat) (ih : ∀ d', d = d' + 1 → LiP w0 d') : SiP w0 d := by
  intro s A0 c0 A1 c1 A2 c2 i H K ho hc hi hv h
  obtain ⟨hE, ⟨hb1, hb2⟩, hl1, hl2⟩ := hv.parts
  have he := stOk_e ho
  have hcs := s.cnt_eq
  have n0 := compE_le s.e
  refine acalls_of_sx mix Try.func137 of137 (by simp [ir137]) ?_; rw [ir137]; (try delta qT qI qC qO qM qG)
  repeat' (first | simp -implicitDefEqProofs only [zG1,zG2,zG3,zG4,zG5,zG6,zG7,eq_self,resV,rval,X.val,binv,fillL,setR,↓reduceIte,Nat.reduceEqDiff,Nat.reduceAdd,Nat.reduceMul,Nat.reduceLeDiff,Nat.reduceLT,Nat.reduceSub,reduceCtorEq,zGq] | ((with_reducible refine rows_intro (fun _ hb => ?_)); try simp only [set_none, ne_eq] at hb) | ((with_reducible refine new_intro (fun _ hb => ?_)); try simp only [set_none, ne_eq] at hb) | (with_reducible refine draw_same ?_) | ((with_reducible refine gd_split ?_ (fun _ => ?_) (fun _ => ?_)); exact rfl) | ((with_reducible refine td_split ?_ (fun _ => ?_) (fun _ => ?_)); exact rfl) | (with_reducible refine c_split (fun _ => ?_) (fun _ => ?_)))
  rename_i x
  have hx := hb
  have lx := (AHeap.le.refl H).fresh hx ⟨[.int .i64 s.kind, .int .i64 s.var, .int .i64 s.box, .int .i64 s.e.op, .int .i64 s.e.n, .slice A0 s.e.args.length c0, .slice A1 s.body.length c1, .slice A2 s.els.length c2], true, 105, 8⟩
  refine l22ExprR_ok _ s.e A0 c0 _ _ he (hE.le lx) (fun v1 C1 r1 => ?_)
  have g1 := fl_eight r1.hle
  have lx1 := lx.trans r1.hle
  by_cases hk : s.kind = 2 ∨ s.kind = 3
  · obtain ⟨d', rfl, hbk, hbd, hel⟩ := stOk_block ho hk
    have ihd := ih d' rfl
    cases s with
    | mk k v b e body els =>
      simp only [St.kind, St.var, St.box, St.e, St.body, St.els] at *
      rcases hk with rfl | rfl
      · repeat' (first | simp -implicitDefEqProofs only [zG1,zG2,zG3,zG4,zG5,zG6,zG7,eq_self,resV,rval,X.val,binv,fillL,setR,↓reduceIte,Nat.reduceEqDiff,Nat.reduceAdd,Nat.reduceMul,Nat.reduceLeDiff,Nat.reduceLT,Nat.reduceSub,reduceCtorEq,zGq, g1, Int.reduceBEq] | ((with_reducible refine rows_intro (fun _ hb => ?_)); try simp only [set_none, ne_eq] at hb) | ((with_reducible refine new_intro (fun _ hb => ?_)); try simp only [set_none, ne_eq] at hb) | (with_reducible refine draw_same ?_) | ((with_reducible refine gd_split ?_ (fun _ => ?_) (fun _ => ?_)); exact rfl) | ((with_reducible refine td_split ?_ (fun _ => ?_) (fun _ => ?_)); exact rfl) | (with_reducible refine c_split (fun _ => ?_) (fun _ => ?_)))
        refine l22If_ok w0 d' ihd _ _ _ e body els A0 c0 A1 c1 A2 c2 i _ _ he hbd hel (by omega) (by omega) (hE.le lx1) (hb2.le lx1) (hl2.le lx1) (fun v2 C2 r2 => ?_)
        repeat' (first | simp -implicitDefEqProofs only [zG1,zG2,zG3,zG4,zG5,zG6,zG7,eq_self,resV,rval,X.val,binv,fillL,setR,↓reduceIte,Nat.reduceEqDiff,Nat.reduceAdd,Nat.reduceMul,Nat.reduceLeDiff,Nat.reduceLT,Nat.reduceSub,reduceCtorEq,zGq] | ((with_reducible refine rows_intro (fun _ hb => ?_)); try simp only [set_none, ne_eq] at hb) | ((with_reducible refine new_intro (fun _ hb => ?_)); try simp only [set_none, ne_eq] at hb) | (with_reducible refine draw_same ?_) | ((with_reducible refine gd_split ?_ (fun _ => ?_) (fun _ => ?_)); exact rfl) | ((with_reducible refine td_split ?_ (fun _ => ?_) (fun _ => ?_)); exact rfl) | (with_reducible refine c_split (fun _ => ?_) (fun _ => ?_)))
        exact ret_same (h _ _ (r2.base lx1))
      · repeat' (first | simp -implicitDefEqProofs only [zG1,zG2,zG3,zG4,zG5,zG6,zG7,eq_self,resV,rval,X.val,binv,fillL,setR,↓reduceIte,Nat.reduceEqDiff,Nat.reduceAdd,Nat.reduceMul,Nat.reduceLeDiff,Nat.reduceLT,Nat.reduceSub,reduceCtorEq,zGq, g1, Int.reduceBEq] | ((with_reducible refine rows_intro (fun _ hb => ?_)); try simp only [set_none, ne_eq] at hb) | ((with_reducible refine new_intro (fun _ hb => ?_)); try simp only [set_none, ne_eq] at hb) | (with_reducible refine draw_same ?_) | ((with_reducible refine gd_split ?_ (fun _ => ?_) (fun _ => ?_)); exact rfl) | ((with_reducible refine td_split ?_ (fun _ => ?_) (fun _ => ?_)); exact rfl) | (with_reducible refine c_split (fun _ => ?_) (fun _ => ?_)))
        refine l22While_ok w0 d' ihd _ _ _ e body els A0 c0 A1 c1 A2 c2 i _ _ he hbd (by omega) (by omega) (hE.le lx1) (hb2.le lx1) (fun v2 C2 r2 => ?_)
        repeat' (first | simp -implicitDefEqProofs only [zG1,zG2,zG3,zG4,zG5,zG6,zG7,eq_self,resV,rval,X.val,binv,fillL,setR,↓reduceIte,Nat.reduceEqDiff,Nat.reduceAdd,Nat.reduceMul,Nat.reduceLeDiff,Nat.reduceLT,Nat.reduceSub,reduceCtorEq,zGq] | ((with_reducible refine rows_intro (fun _ hb => ?_)); try simp only [set_none, ne_eq] at hb) | ((with_reducible refine new_intro (fun _ hb => ?_)); try simp only [set_none, ne_eq] at hb) | (with_reducible refine draw_same ?_) | ((with_reducible refine gd_split ?_ (fun _ => ?_) (fun _ => ?_)); exact rfl) | ((with_reducible refine td_split ?_ (fun _ => ?_) (fun _ => ?_)); exact rfl) | (with_reducible refine c_split (fun _ => ?_) (fun _ => ?_)))
        exact ret_same (h _ _ (r2.base lx1))
  · have hs := stOk_simple ho (fun e => hk (.inl e)) (fun e => hk (.inr e))
    have hkk := simple_kind hs
    obtain ⟨q, e0, -, -, -, -, eq⟩ := simple_q hs i
    have hz : szS s = (if s.kind = 5 ∨ s.kind = 6 then 0 else (compE s.e).length) + 1 := by
      rw [← compS_len s i, e0]
      split <;> simp
    rw [hz, e0, qcells_app, qcells_one'] at h
    clear hv hE hb2 hl2 ho hs
    generalize s.kind = k, s.var = v, s.box = b at *
    rcases hkk with rfl | rfl | rfl | rfl | rfl
    · simp at eq
      subst eq
      repeat' (first | simp -implicitDefEqProofs only [zG1,zG2,zG3,zG4,zG5,zG6,zG7,eq_self,resV,rval,X.val,binv,fillL,setR,↓reduceIte,Nat.reduceEqDiff,Nat.reduceAdd,Nat.reduceMul,Nat.reduceLeDiff,Nat.reduceLT,Nat.reduceSub,reduceCtorEq,zGq, g1, Int.reduceBEq] | ((with_reducible refine rows_intro (fun _ hb => ?_)); try simp only [set_none, ne_eq] at hb) | ((with_reducible refine new_intro (fun _ hb => ?_)); try simp only [set_none, ne_eq] at hb) | (with_reducible refine draw_same ?_) | ((with_reducible refine gd_split ?_ (fun _ => ?_) (fun _ => ?_)); exact rfl) | ((with_reducible refine td_split ?_ (fun _ => ?_) (fun _ => ?_)); exact rfl) | (with_reducible refine c_split (fun _ => ?_) (fun _ => ?_)))
      refine r1.app1 (m := 1) ‹_› rfl (by simp [ocI]) (by simp only [maxLen]; omega) (by omega) (fun v3 C3 r3 => ?_)
      repeat' (first | simp -implicitDefEqProofs only [zG1,zG2,zG3,zG4,zG5,zG6,zG7,eq_self,resV,rval,X.val,binv,fillL,setR,↓reduceIte,Nat.reduceEqDiff,Nat.reduceAdd,Nat.reduceMul,Nat.reduceLeDiff,Nat.reduceLT,Nat.reduceSub,reduceCtorEq,zGq] | ((with_reducible refine rows_intro (fun _ hb => ?_)); try simp only [set_none, ne_eq] at hb) | ((with_reducible refine new_intro (fun _ hb => ?_)); try simp only [set_none, ne_eq] at hb) | (with_reducible refine draw_same ?_) | ((with_reducible refine gd_split ?_ (fun _ => ?_) (fun _ => ?_)); exact rfl) | ((with_reducible refine td_split ?_ (fun _ => ?_) (fun _ => ?_)); exact rfl) | (with_reducible refine c_split (fun _ => ?_) (fun _ => ?_)))
      exact ret_same (h _ _ (by simpa using r3.base lx))
    · simp at eq
      subst eq
      repeat' (first | simp -implicitDefEqProofs only [zG1,zG2,zG3,zG4,zG5,zG6,zG7,eq_self,resV,rval,X.val,binv,fillL,setR,↓reduceIte,Nat.reduceEqDiff,Nat.reduceAdd,Nat.reduceMul,Nat.reduceLeDiff,Nat.reduceLT,Nat.reduceSub,reduceCtorEq,zGq, g1, Int.reduceBEq] | ((with_reducible refine rows_intro (fun _ hb => ?_)); try simp only [set_none, ne_eq] at hb) | ((with_reducible refine new_intro (fun _ hb => ?_)); try simp only [set_none, ne_eq] at hb) | (with_reducible refine draw_same ?_) | ((with_reducible refine gd_split ?_ (fun _ => ?_) (fun _ => ?_)); exact rfl) | ((with_reducible refine td_split ?_ (fun _ => ?_) (fun _ => ?_)); exact rfl) | (with_reducible refine c_split (fun _ => ?_) (fun _ => ?_)))
      refine r1.app1 (m := 1) ‹_› rfl (by simp [ocI]) (by simp only [maxLen]; omega) (by omega) (fun v3 C3 r3 => ?_)
      repeat' (first | simp -implicitDefEqProofs only [zG1,zG2,zG3,zG4,zG5,zG6,zG7,eq_self,resV,rval,X.val,binv,fillL,setR,↓reduceIte,Nat.reduceEqDiff,Nat.reduceAdd,Nat.reduceMul,Nat.reduceLeDiff,Nat.reduceLT,Nat.reduceSub,reduceCtorEq,zGq] | ((with_reducible refine rows_intro (fun _ hb => ?_)); try simp only [set_none, ne_eq] at hb) | ((with_reducible refine new_intro (fun _ hb => ?_)); try simp only [set_none, ne_eq] at hb) | (with_reducible refine draw_same ?_) | ((with_reducible refine gd_split ?_ (fun _ => ?_) (fun _ => ?_)); exact rfl) | ((with_reducible refine td_split ?_ (fun _ => ?_) (fun _ => ?_)); exact rfl) | (with_reducible refine c_split (fun _ => ?_) (fun _ => ?_)))
      exact ret_same (h _ _ (by simpa using r3.base lx))
    · simp at eq
      subst eq
      repeat' (first | simp -implicitDefEqProofs only [zG1,zG2,zG3,zG4,zG5,zG6,zG7,eq_self,resV,rval,X.val,binv,fillL,setR,↓reduceIte,Nat.reduceEqDiff,Nat.reduceAdd,Nat.reduceMul,Nat.reduceLeDiff,Nat.reduceLT,Nat.reduceSub,reduceCtorEq,zGq, g1, Int.reduceBEq] | ((with_reducible refine rows_intro (fun _ hb => ?_)); try simp only [set_none, ne_eq] at hb) | ((with_reducible refine new_intro (fun _ hb => ?_)); try simp only [set_none, ne_eq] at hb) | (with_reducible refine draw_same ?_) | ((with_reducible refine gd_split ?_ (fun _ => ?_) (fun _ => ?_)); exact rfl) | ((with_reducible refine td_split ?_ (fun _ => ?_) (fun _ => ?_)); exact rfl) | (with_reducible refine c_split (fun _ => ?_) (fun _ => ?_)))
      exact ret_same (h _ _ (by simpa [qcells] using (Row.lit (sz := 5) (n := 1) hb rfl rfl (by decide)).base lx1))
    · simp at eq
      subst eq
      repeat' (first | simp -implicitDefEqProofs only [zG1,zG2,zG3,zG4,zG5,zG6,zG7,eq_self,resV,rval,X.val,binv,fillL,setR,↓reduceIte,Nat.reduceEqDiff,Nat.reduceAdd,Nat.reduceMul,Nat.reduceLeDiff,Nat.reduceLT,Nat.reduceSub,reduceCtorEq,zGq, g1, Int.reduceBEq] | ((with_reducible refine rows_intro (fun _ hb => ?_)); try simp only [set_none, ne_eq] at hb) | ((with_reducible refine new_intro (fun _ hb => ?_)); try simp only [set_none, ne_eq] at hb) | (with_reducible refine draw_same ?_) | ((with_reducible refine gd_split ?_ (fun _ => ?_) (fun _ => ?_)); exact rfl) | ((with_reducible refine td_split ?_ (fun _ => ?_) (fun _ => ?_)); exact rfl) | (with_reducible refine c_split (fun _ => ?_) (fun _ => ?_)))
      exact ret_same (h _ _ (by simpa [qcells] using (Row.lit (sz := 5) (n := 1) hb rfl rfl (by decide)).base lx1))
    · simp at eq
      subst eq
      repeat' (first | simp -implicitDefEqProofs only [zG1,zG2,zG3,zG4,zG5,zG6,zG7,eq_self,resV,rval,X.val,binv,fillL,setR,↓reduceIte,Nat.reduceEqDiff,Nat.reduceAdd,Nat.reduceMul,Nat.reduceLeDiff,Nat.reduceLT,Nat.reduceSub,reduceCtorEq,zGq, g1, Int.reduceBEq] | ((with_reducible refine rows_intro (fun _ hb => ?_)); try simp only [set_none, ne_eq] at hb) | ((with_reducible refine new_intro (fun _ hb => ?_)); try simp only [set_none, ne_eq] at hb) | (with_reducible refine draw_same ?_) | ((with_reducible refine gd_split ?_ (fun _ => ?_) (fun _ => ?_)); exact rfl) | ((with_reducible refine td_split ?_ (fun _ => ?_) (fun _ => ?_)); exact rfl) | (with_reducible refine c_split (fun _ => ?_) (fun _ => ?_)))
      refine r1.app1 (m := 1) ‹_› rfl (by simp [ocI]) (by simp only [maxLen]; omega) (by omega) (fun v3 C3 r3 => ?_)
      repeat' (first | simp -implicitDefEqProofs only [zG1,zG2,zG3,zG4,zG5,zG6,zG7,eq_self,resV,rval,X.val,binv,fillL,setR,↓reduceIte,Nat.reduceEqDiff,Nat.reduceAdd,Nat.reduceMul,Nat.reduceLeDiff,Nat.reduceLT,Nat.reduceSub,reduceCtorEq,zGq] | ((with_reducible refine rows_intro (fun _ hb => ?_)); try simp only [set_none, ne_eq] at hb) | ((with_reducible refine new_intro (fun _ hb => ?_)); try simp only [set_none, ne_eq] at hb) | (with_reducible refine draw_same ?_) | ((with_reducible refine gd_split ?_ (fun _ => ?_) (fun _ => ?_)); exact rfl) | ((with_reducible refine td_split ?_ (fun _ => ?_) (fun _ => ?_)); exact rfl) | (with_reducible refine c_split (fun _ => ?_) (fun _ => ?_)))
      exact ret_same (h _ _ (by simpa using r3.base lx))
end Go.Proofs.Ytfjhjfddgdokgaa
namespace Go.Proofs.Ytfjhjfddgdokgaa
set_option linter.all false
open Go Go.RowKit
set_option maxRecDepth 100000
variable (w0 : World)
section
variable {H B C C2 C' : AHeap} {t : TypeId} {sz n : Nat} {v : Value} {xs : List Value}
/-- The row over all else that is known behind it, what was made since too. -/
theorem Row.cutK (h : Row H C t sz v n xs) (l : AHeap.le C C2) : ∃ B, AHeap.le H B ∧ AHeap.le B C2 ∧ Row B C2 t sz v n xs ∧ ∀ (x : Nat) (k : Blk), C x = none → Kn C2 x k → Kn B x k := by
  obtain ⟨bs, l0, nb, w⟩ := h
  refine ⟨C2.no fun b => b ∈ bs, le_no (B := fun b => b ∈ bs) (l0.trans l) nb, no_le _ _, ⟨bs, no_le _ _, fun x hx => no_in hx, w.trans l⟩, fun x k hx hk => hk.chg Chg.no fun hm => ?_⟩
  rcases w with ⟨_, _, _, rfl⟩ | ⟨b', cap, _, rfl, _, _, _, hk'⟩
  · cases hm
  · simp only [List.mem_cons, List.not_mem_nil, or_false] at hm
    subst hm
    exact hk'.ne hx
end
theorem qcells_setn (x : Int) : ∀ (qs : List Qd) (i : Nat) (hi : i < qs.length), (qcells qs).set (i * 5 + 4) (.int .i64 x) = qcells (qs.set i ⟨qs[i].op, qs[i].dst, qs[i].a, qs[i].b, x⟩)
  | q :: qs, 0, _ => rfl
  | q :: qs, i + 1, hi => by
    have ih := qcells_setn x qs i (by simpa using hi)
    rw [qcells_cons, List.set_append_right _ _ (by show 5 ≤ _; omega)]
    have e : (i + 1) * 5 + 4 - q.cells.length = i * 5 + 4 := by show (i + 1) * 5 + 4 - 5 = _; omega
    rw [e, ih]
    rfl
theorem Row.put {H C : AHeap} {t : TypeId} {A : Option Addr} {n c i : Nat} {qs : List Qd} {x : Int} {D : Value → AHeap → Prop} (h : Row H C t 5 (.slice A n c) n (qcells qs)) (hi : i < qs.length) (hn : n = qs.length)
    (hD : ∀ C', Row H C' t 5 (.slice A n c) n (qcells (qs.set i ⟨qs[i].op, qs[i].dst, qs[i].a, qs[i].b, x⟩)) → D undef C') : stK 1 (.pointer (adr A (i * 5 + 4))) (.int .i64 x) D C := by
  obtain ⟨bs, l, nb, w⟩ := h
  obtain ⟨b', cap, e, rfl, h1, h2, h3, hk⟩ := w.open_ (by omega)
  simp only [Value.slice.injEq, true_and] at e
  obtain ⟨rfl, rfl⟩ := e
  rw [adr_lit, Nat.zero_add]
  refine st_kn hk rfl rfl (by show i * 5 + 4 + 1 ≤ (qcells qs).length; rw [qcells_len]; omega) (by simp [vcI, ocI]) (fun C' hc _ k => hD C' ⟨[b'], hc.keep l nb, nb, ?_⟩)
  have e2 : setR (qcells qs) (i * 5 + 4) (Value.int .i64 x).cells.toList = qcells (qs.set i ⟨qs[i].op, qs[i].dst, qs[i].a, qs[i].b, x⟩) := qcells_setn x qs i hi
  simp only at k
  rw [e2] at k
  exact Rw.mk k (by rw [qcells_len, List.length_set, hn]) h1 h2
theorem compileExprR_ok (e : Ex) (a : Option Addr) (c : Nat) (H C : AHeap) (K : Value → AHeap → Prop) (v : Value) (qs : List Qd) (he : exprOk 5 e = true) (hv : ExV H e [.int .i64 e.op, .int .i64 e.n, .slice a e.args.length c]) (hr : Row H C 111 5 v qs.length (qcells qs)) (hm : qs.length ≤ 1099511627700)
    (h : ∀ v' C', Row H C' 111 5 v' (qs ++ compE e).length (qcells (qs ++ compE e)) → K v' C') :
    ACalls Try.prog w0 199 [.agg #[.int .i64 e.op, .int .i64 e.n, .slice a e.args.length c], .int .i64 4, v] C K := by
  obtain ⟨bs, l, nb, w⟩ := hr
  obtain ⟨A, B, hB, ho, hA⟩ := w.own_
  have lA : AHeap.le H A := fun x k hx => by
    rcases hA x with hm | hm
    · rw [nb x hm] at hx; cases hx
    · rw [hm]; exact l x k hx
  refine ACalls.mono (compileExpr_ok w0 5 e a c 4 A B K v qs.length (qcells qs) (by decide) he (hv.le lA) (by decide) (by decide) ho (by omega) fun v' C' o => h v' C' ?_) hB
  obtain ⟨l', bs', n', w'⟩ := o.rw_
  refine ⟨bs', lA.trans l', n'.le lA, ?_⟩
  rw [List.length_append, qcells_app]
  exact w'
abbrev KsP (d : Nat) : Prop := ∀ (ss : List St) (A : Option Addr) (c : Nat) (H C : AHeap) (K : Value → AHeap → Prop) (v : Value) (qs : List Qd), ss.all (stOk d) = true → cntL ss ≤ 1048576 → qs.length ≤ 1099511627776 - 33 * cntL ss - 100 → StR H ss A 0 → Row H C 111 5 v qs.length (qcells qs) →
  (∀ v' C', Row H C' 111 5 v' (qs ++ compL ss qs.length).length (qcells (qs ++ compL ss qs.length)) → K v' C') → ACalls Try.prog w0 135 [.slice A ss.length c, v] C K
abbrev CsP (d : Nat) : Prop := ∀ (s : St) (A0 : Option Addr) (c0 : Nat) (A1 : Option Addr) (c1 : Nat) (A2 : Option Addr) (c2 : Nat) (H C : AHeap) (K : Value → AHeap → Prop) (v : Value) (qs : List Qd), stOk d s = true → s.cnt ≤ 1048576 → qs.length ≤ 1099511627776 - 33 * s.cnt - 100 →
  StV H s (stc s.kind s.var s.box s.e s.body.length s.els.length A0 c0 A1 c1 A2 c2) → Row H C 111 5 v qs.length (qcells qs) →
  (∀ v' C', Row H C' 111 5 v' (qs ++ compS s qs.length).length (qcells (qs ++ compS s qs.length)) → K v' C') → ACalls Try.prog w0 177 [stv s.kind s.var s.box s.e s.body.length s.els.length A0 c0 A1 c1 A2 c2, v] C K
theorem ksP_of (d : Nat) (ih : CsP w0 d) : KsP w0 d := by
  intro ss A c H C K v qs ho hc hq hR hr h
  have hl := cntL_len ss
  have hs := szL_le ss
  refine acalls_of_sx mix Try.func135 of135 (by simp [ir135]) ?_; rw [ir135]; (try delta qT qI qC qO qM qG)
  repeat' (first | simp -implicitDefEqProofs only [zG1,zG2,zG3,zG4,zG5,zG6,zG7,eq_self,resV,rval,X.val,binv,fillL,setR,↓reduceIte,Nat.reduceEqDiff,Nat.reduceAdd,Nat.reduceMul,Nat.reduceLeDiff,Nat.reduceLT,Nat.reduceSub,reduceCtorEq,zGq] | ((with_reducible refine rows_intro (fun _ hb => ?_)); try simp only [set_none, ne_eq] at hb) | ((with_reducible refine new_intro (fun _ hb => ?_)); try simp only [set_none, ne_eq] at hb) | (with_reducible refine draw_same ?_) | ((with_reducible refine gd_split ?_ (fun _ => ?_) (fun _ => ?_)); exact rfl) | ((with_reducible refine td_split ?_ (fun _ => ?_) (fun _ => ?_)); exact rfl) | (with_reducible refine c_split (fun _ => ?_) (fun _ => ?_)))
  refine for_rule ss.length (fun k fr C' => ∃ v', Row H C' 111 5 v' (qs ++ compL (ss.take k) qs.length).length (qcells (qs ++ compL (ss.take k) qs.length)) ∧ fr 1 = v' ∧ fr 7 = .slice A ss.length c ∧ fr 8 = .int .i64 ss.length ∧ fr 9 = .int .i64 k)
    ⟨v, by simpa [compL] using hr, (by first | rfl | (simp only [put_at, ↓reduceIte, Nat.reduceEqDiff]; first | done | rfl | assumption) | simp [put_at, *]), (by first | rfl | (simp only [put_at, ↓reduceIte, Nat.reduceEqDiff]; first | done | rfl | assumption) | simp [put_at, *]), (by first | rfl | (simp only [put_at, ↓reduceIte, Nat.reduceEqDiff]; first | done | rfl | assumption) | simp [put_at, *]), (by first | rfl | (simp only [put_at, ↓reduceIte, Nat.reduceEqDiff]; first | done | rfl | assumption) | simp [put_at, *])⟩ ?_ ?_
  · rintro k fr C1 hk ⟨v1, r1, f1, f7, f8, f9⟩ N hN
    have g0 := lt_dec hk
    have g1 := rng hk
    have g2 := up1 hk (by omega)
    obtain ⟨gA, a0, d0, a1, d1, a2, d2, gp, hx⟩ := (hR.le r1.hle).arg hk
    obtain ⟨-, -, -, -, -, -, -, -, hx0⟩ := hR.arg hk
    have hxv : StV H ss[k] (stc ss[k].kind ss[k].var ss[k].box ss[k].e ss[k].body.length ss[k].els.length a0 d0 a1 d1 a2 d2) := by
      obtain ⟨_, b0, e0, b1, e1, b2, e2, gp', hx'⟩ := hR.arg hk
      obtain ⟨g0, g1, g2, g3, g4, g5, g6, g7⟩ := gp
      obtain ⟨m0, m1, m2, m3, m4, m5, m6, m7⟩ := Pl8.le r1.hle gp'
      rw [m5] at g5; rw [m6] at g6; rw [m7] at g7
      simp only [Option.some.injEq, Value.slice.injEq, true_and] at g5 g6 g7
      obtain ⟨rfl, rfl⟩ := g5
      obtain ⟨rfl, rfl⟩ := g6
      obtain ⟨rfl, rfl⟩ := g7
      exact hx'
    have hct := cntL_at hk
    have hst := cntL_take hk
    have hle := cntL_le (ss := ss) (k + 1)
    have hs2 := szL_le (ss.take k)
    have hlen : (qs ++ compL (ss.take k) qs.length).length = qs.length + szL (ss.take k) := by rw [List.length_append, compL_len]
    have hok := List.all_eq_true.1 ho _ (List.getElem_mem hk)
    repeat' (first | simp -implicitDefEqProofs only [zG1,zG2,zG3,zG4,zG5,zG6,zG7,eq_self,resV,rval,X.val,binv,fillL,setR,↓reduceIte,Nat.reduceEqDiff,Nat.reduceAdd,Nat.reduceMul,Nat.reduceLeDiff,Nat.reduceLT,Nat.reduceSub,reduceCtorEq,zGq, f1, f7, f8, f9, g0, g1, g2, gA, gp, Nat.add_zero] | ((with_reducible refine rows_intro (fun _ hb => ?_)); try simp only [set_none, ne_eq] at hb) | ((with_reducible refine new_intro (fun _ hb => ?_)); try simp only [set_none, ne_eq] at hb) | (with_reducible refine draw_same ?_) | ((with_reducible refine gd_split ?_ (fun _ => ?_) (fun _ => ?_)); exact rfl) | ((with_reducible refine td_split ?_ (fun _ => ?_) (fun _ => ?_)); exact rfl) | (with_reducible refine c_split (fun _ => ?_) (fun _ => ?_)))
    have l2 := (AHeap.le.refl C1).fresh hb ⟨stc ss[k].kind ss[k].var ss[k].box ss[k].e ss[k].body.length ss[k].els.length a0 d0 a1 d1 a2 d2, true, 105, 8⟩
    refine ih ss[k] a0 d0 a1 d1 a2 d2 H _ _ v1 (qs ++ compL (ss.take k) qs.length) hok (by omega) (by omega) hxv (r1.le l2) (fun v3 C3 r3 => ?_)
    repeat' (first | simp -implicitDefEqProofs only [zG1,zG2,zG3,zG4,zG5,zG6,zG7,eq_self,resV,rval,X.val,binv,fillL,setR,↓reduceIte,Nat.reduceEqDiff,Nat.reduceAdd,Nat.reduceMul,Nat.reduceLeDiff,Nat.reduceLT,Nat.reduceSub,reduceCtorEq,zGq, f1, f7, f8, f9, g2] | ((with_reducible refine rows_intro (fun _ hb => ?_)); try simp only [set_none, ne_eq] at hb) | ((with_reducible refine new_intro (fun _ hb => ?_)); try simp only [set_none, ne_eq] at hb) | (with_reducible refine draw_same ?_) | ((with_reducible refine gd_split ?_ (fun _ => ?_) (fun _ => ?_)); exact rfl) | ((with_reducible refine td_split ?_ (fun _ => ?_) (fun _ => ?_)); exact rfl) | (with_reducible refine c_split (fun _ => ?_) (fun _ => ?_)))
    refine hN _ _ _ (.refl _) ⟨v3, ?_, (by first | rfl | (simp only [put_at, ↓reduceIte, Nat.reduceEqDiff]; first | done | rfl | assumption) | simp [put_at, *]), (by first | rfl | (simp only [put_at, ↓reduceIte, Nat.reduceEqDiff]; first | done | rfl | assumption) | simp [put_at, *]), (by first | rfl | (simp only [put_at, ↓reduceIte, Nat.reduceEqDiff]; first | done | rfl | assumption) | simp [put_at, *]), (by first | rfl | (simp only [put_at, ↓reduceIte, Nat.reduceEqDiff]; first | done | rfl | assumption) | simp [put_at, *])⟩
    rw [compL_take hk, ← List.append_assoc, ← hlen]
    exact r3
  · rintro fr C1 ⟨v1, r1, f1, f7, f8, f9⟩ N
    have g0 : decide ((ss.length : Int) < (ss.length : Int)) = false := by simp
    rw [List.take_length] at r1
    repeat' (first | simp -implicitDefEqProofs only [zG1,zG2,zG3,zG4,zG5,zG6,zG7,eq_self,resV,rval,X.val,binv,fillL,setR,↓reduceIte,Nat.reduceEqDiff,Nat.reduceAdd,Nat.reduceMul,Nat.reduceLeDiff,Nat.reduceLT,Nat.reduceSub,reduceCtorEq,zGq, f1, f7, f8, f9, g0] | ((with_reducible refine rows_intro (fun _ hb => ?_)); try simp only [set_none, ne_eq] at hb) | ((with_reducible refine new_intro (fun _ hb => ?_)); try simp only [set_none, ne_eq] at hb) | (with_reducible refine draw_same ?_) | ((with_reducible refine gd_split ?_ (fun _ => ?_) (fun _ => ?_)); exact rfl) | ((with_reducible refine td_split ?_ (fun _ => ?_) (fun _ => ?_)); exact rfl) | (with_reducible refine c_split (fun _ => ?_) (fun _ => ?_)))
    exact ret_same (h _ _ r1)
theorem set_at {α : Type} (a b : List α) (x y : α) : (a ++ x :: b).set a.length y = a ++ y :: b := by
  rw [List.set_append_right _ _ (Nat.le_refl _), Nat.sub_self, List.set_cons_zero]
end Go.Proofs.Ytfjhjfddgdokgaa
namespace Go.Proofs.Ytfjhjfddgdokgaa
set_option linter.all false
open Go Go.RowKit
set_option maxRecDepth 100000
variable (w0 : World)
theorem kn_eight {C : AHeap} {x : Nat} {t : TypeId} {c : Nat} {v0 v1 v2 v3 v4 v5 v6 v7 : Value} (k : Kn C x ⟨[v0, v1, v2, v3, v4, v5, v6, v7], true, t, c⟩) :
    C.cell (some ⟨x, 0, none⟩) = some v0 ∧ C.cell (some ⟨x, 1, none⟩) = some v1 ∧ C.cell (some ⟨x, 2, none⟩) = some v2 ∧ C.cell (some ⟨x, 3, none⟩) = some v3 ∧ C.cell (some ⟨x, 4, none⟩) = some v4 ∧ C.cell (some ⟨x, 5, none⟩) = some v5 ∧ C.cell (some ⟨x, 6, none⟩) = some v6 ∧ C.cell (some ⟨x, 7, none⟩) = some v7 :=
  ⟨k.cell (j := 0) rfl, k.cell (j := 1) rfl, k.cell (j := 2) rfl, k.cell (j := 3) rfl, k.cell (j := 4) rfl, k.cell (j := 5) rfl, k.cell (j := 6) rfl, k.cell (j := 7) rfl⟩
theorem Row.putq {H C : AHeap} {t : TypeId} {A : Option Addr} {n c i : Nat} {a b : List Qd} {q : Qd} {x : Int} {D : Value → AHeap → Prop} (h : Row H C t 5 (.slice A n c) n (qcells (a ++ q :: b))) (hi : i = a.length) (hn : n = (a ++ q :: b).length)
    (hD : ∀ C', Row H C' t 5 (.slice A n c) n (qcells (a ++ ⟨q.op, q.dst, q.a, q.b, x⟩ :: b)) → D undef C') : stK 1 (.pointer (adr A (i * 5 + 4))) (.int .i64 x) D C := by
  subst hi
  refine h.put (by simp) hn (fun C' r => hD C' ?_)
  have e : (a ++ q :: b)[a.length]'(by simp) = q := by simp
  rw [e, set_at] at r
  exact r
theorem Row.one {H C : AHeap} {t : TypeId} {v : Value} {bytes b c xc : Nat} {o : Bool} {t' : TypeId} {qs : List Qd} {w0 : World} {P : Program} {K : Value → AHeap → Prop} (q : Qd) (h : Row H C t 5 v qs.length (qcells qs)) (hb : C b = none) (hm : qs.length ≤ 1099511627776) (hB : bytes = 40)
    (hK : ∀ v' C', Row H C' t 5 v' (qs ++ [q]).length (qcells (qs ++ [q])) → K v' C') : appK P w0 [.int .i64 0, .int .i64 0, .int .i64 0, .int .i64 0, .int .i64 0] t bytes v (.slice (some ⟨b, 0, none⟩) 1 xc) K (C.set b ⟨q.cells, o, t', c⟩) := by
  subst hB
  refine Row.app1 (m := 1) (z := [.int .i64 0, .int .i64 0, .int .i64 0, .int .i64 0, .int .i64 0]) h hb rfl (q_oc q) (by simp only [maxLen]; omega) (by omega) (fun v' C' r => hK v' C' ?_)
  rw [List.length_append, qcells_app, qcells_one']
  exact r
set_option maxHeartbeats 2000000 in
theorem csP_of (d : Nat) (ih : ∀ d', d = d' + 1 → KsP w0 d') : CsP w0 d := by
  intro s A0 c0 A1 c1 A2 c2 H C K v qs ho hc hq hv hr h
  obtain ⟨hE, ⟨hb1, hb2⟩, hl1, hl2⟩ := hv.parts
  have he := stOk_e ho
  have hcs := s.cnt_eq
  have n0 := compE_le s.e
  obtain ⟨V1, e1, rfl, -⟩ := hr.fl
  refine acalls_of_sx mix Try.func177 of177 (by simp [ir177]) ?_; rw [ir177]; (try delta qT qI qC qO qM qG)
  repeat' (first | simp -implicitDefEqProofs only [zG1,zG2,zG3,zG4,zG5,zG6,zG7,eq_self,resV,rval,X.val,binv,fillL,setR,↓reduceIte,Nat.reduceEqDiff,Nat.reduceAdd,Nat.reduceMul,Nat.reduceLeDiff,Nat.reduceLT,Nat.reduceSub,reduceCtorEq,zGq] | ((with_reducible refine new_intro (fun _ hb => ?_))))
  rename_i x
  have hx := hb
  have lx := (AHeap.le.refl C).fresh hx ⟨[.int .i64 s.kind, .int .i64 s.var, .int .i64 s.box, .int .i64 s.e.op, .int .i64 s.e.n, .slice A0 s.e.args.length c0, .slice A1 s.body.length c1, .slice A2 s.els.length c2], true, 105, 8⟩
  obtain ⟨B, lB, lB2, rB, kB⟩ := hr.cutK lx
  have kx := kB x _ hx (Kn.same _ _ _)
  clear kB lx hb
  generalize C.set x _ = C1 at *
  have g1 := kn_eight (kx.trans lB2)
  have gB := kn_eight kx
  have hEB := hE.le lB
  have hbB := hb2.le lB
  have hlB := hl2.le lB
  by_cases hk : s.kind = 2 ∨ s.kind = 3
  · obtain ⟨d', rfl, hbk, hbd, hel⟩ := stOk_block ho hk
    have ihd := ih d' rfl
    have hn5 : (s.kind != 5) = true := by simp only [bne_iff_ne, ne_eq]; omega
    have hn6 : (s.kind != 6) = true := by simp only [bne_iff_ne, ne_eq]; omega
    repeat' (first | simp -implicitDefEqProofs only [zG1,zG2,zG3,zG4,zG5,zG6,zG7,eq_self,resV,rval,X.val,binv,fillL,setR,↓reduceIte,Nat.reduceEqDiff,Nat.reduceAdd,Nat.reduceMul,Nat.reduceLeDiff,Nat.reduceLT,Nat.reduceSub,reduceCtorEq,zGq, g1, hn5, hn6])
    refine compileExprR_ok _ s.e A0 c0 B C1 _ _ qs he hEB rB (by omega) (fun v2 C2 r2 => ?_)
    have g2 := kn_eight (kx.trans r2.hle)
    obtain ⟨V2, e2, rfl, -⟩ := r2.fl
    cases s with
    | mk k v b e body els =>
      simp only [St.kind, St.var, St.box, St.e, St.body, St.els] at *
      have hsz := szL_le body
      have hsl := szL_le els
      have len1 : (qs ++ compE e).length = qs.length + (compE e).length := by simp
      have e2' : (k == 1) = false ∧ (k == 4) = false ∧ (k == 5) = false ∧ (k == 6) = false ∧ (k == 7) = false := by
        rcases hk with rfl | rfl <;> decide
      generalize hL1 : qs ++ compE e = L1 at *
      repeat' (first | simp -implicitDefEqProofs only [zG1,zG2,zG3,zG4,zG5,zG6,zG7,eq_self,resV,rval,X.val,binv,fillL,setR,↓reduceIte,Nat.reduceEqDiff,Nat.reduceAdd,Nat.reduceMul,Nat.reduceLeDiff,Nat.reduceLT,Nat.reduceSub,reduceCtorEq,zGq, g2, e2'])
      refine draw_at B r2.hle ?_
      repeat' (first | simp -implicitDefEqProofs only [zG1,zG2,zG3,zG4,zG5,zG6,zG7,eq_self,resV,rval,X.val,binv,fillL,setR,↓reduceIte,Nat.reduceEqDiff,Nat.reduceAdd,Nat.reduceMul,Nat.reduceLeDiff,Nat.reduceLT,Nat.reduceSub,reduceCtorEq,zGq, gB])
      refine rows_intro (fun y hy => ?_)
      have ly := r2.hle.trans ((AHeap.le.refl C2).fresh hy ⟨(⟨5, 0, 4, 0, 0⟩ : Qd).cells, true, 111, 5⟩)
      repeat' (first | simp -implicitDefEqProofs only [zG1,zG2,zG3,zG4,zG5,zG6,zG7,eq_self,resV,rval,X.val,binv,fillL,setR,↓reduceIte,Nat.reduceEqDiff,Nat.reduceAdd,Nat.reduceMul,Nat.reduceLeDiff,Nat.reduceLT,Nat.reduceSub,reduceCtorEq,zGq])
      refine ⟨ly, ?_⟩
      refine r2.one ⟨5, 0, 4, 0, 0⟩ hy (by omega) rfl (fun v3 C3 r3 => ?_)
      have l3 := r3.hle
      have len2 : (L1 ++ [(⟨5, 0, 4, 0, 0⟩ : Qd)]).length = qs.length + (compE e).length + 1 := by simp; omega
      repeat' (first | simp -implicitDefEqProofs only [zG1,zG2,zG3,zG4,zG5,zG6,zG7,eq_self,resV,rval,X.val,binv,fillL,setR,↓reduceIte,Nat.reduceEqDiff,Nat.reduceAdd,Nat.reduceMul,Nat.reduceLeDiff,Nat.reduceLT,Nat.reduceSub,reduceCtorEq,zGq, l3])
      refine ihd body A1 c1 B C3 _ v3 _ hbd (by omega) (by omega) hbB r3 (fun v4 C4 r4 => ?_)
      rw [len2] at r4
      have l4 := r4.hle
      have g4 := kn_eight (kx.trans l4)
      obtain ⟨V4, e4, rfl, -⟩ := r4.fl
      have len3 : (L1 ++ [(⟨5, 0, 4, 0, 0⟩ : Qd)] ++ compL body (qs.length + (compE e).length + 1)).length = qs.length + (compE e).length + 1 + szL body := by rw [List.length_append, len2, compL_len]
      have ea : L1 ++ [(⟨5, 0, 4, 0, 0⟩ : Qd)] ++ compL body (qs.length + (compE e).length + 1) = L1 ++ ⟨5, 0, 4, 0, 0⟩ :: compL body (qs.length + (compE e).length + 1) := by simp
      rw [len3, ea] at r4
      rw [len3]
      rcases hk with rfl | rfl
      · cases hem : els.isEmpty with
        | true =>
          have g5 : decide (((els.length : Nat) : Int) > 0) = false := by rw [emp, hem]; rfl
          have gi := rng (k := L1.length) (n := qs.length + (compE e).length + 1 + szL body) (by omega)
          have hi := (r4.fl'.1).is (i := 0) (by rw [qcells_len]; simp only [List.length_append, List.length_cons]; omega)
          repeat' (first | simp -implicitDefEqProofs only [zG1,zG2,zG3,zG4,zG5,zG6,zG7,eq_self,resV,rval,X.val,binv,fillL,setR,↓reduceIte,Nat.reduceEqDiff,Nat.reduceAdd,Nat.reduceMul,Nat.reduceLeDiff,Nat.reduceLT,Nat.reduceSub,reduceCtorEq,zGq, l4, g4, g5, gi, hi, Int.reduceBEq])
          refine r4.putq rfl (by simp [compL_len]; omega) (fun C5 r5 => ?_)
          have g6 := kn_eight (kx.trans r5.hle)
          repeat' (first | simp -implicitDefEqProofs only [zG1,zG2,zG3,zG4,zG5,zG6,zG7,eq_self,resV,rval,X.val,binv,fillL,setR,↓reduceIte,Nat.reduceEqDiff,Nat.reduceAdd,Nat.reduceMul,Nat.reduceLeDiff,Nat.reduceLT,Nat.reduceSub,reduceCtorEq,zGq, g6, g5])
          refine ret_same (h _ _ ?_)
          have e9 : qs ++ compS (.mk 2 v b e body els) qs.length = L1 ++ ⟨5, 0, 4, 0, ((qs.length + (compE e).length + 1 + szL body : Nat) : Int)⟩ :: compL body (qs.length + (compE e).length + 1) := by
            rw [← hL1]; simp [compS, hem]
          have e10 : (qs ++ compS (.mk 2 v b e body els) qs.length).length = qs.length + (compE e).length + 1 + szL body := by rw [e9]; simp [compL_len]; omega
          rw [e10, e9]
          exact r5.base lB
        | false =>
          have g5 : decide (((els.length : Nat) : Int) > 0) = true := by rw [emp, hem]; rfl
          repeat' (first | simp -implicitDefEqProofs only [zG1,zG2,zG3,zG4,zG5,zG6,zG7,eq_self,resV,rval,X.val,binv,fillL,setR,↓reduceIte,Nat.reduceEqDiff,Nat.reduceAdd,Nat.reduceMul,Nat.reduceLeDiff,Nat.reduceLT,Nat.reduceSub,reduceCtorEq,zGq, l4, g4, g5, Int.reduceBEq])
          refine rows_intro (fun y2 hy2 => ?_)
          repeat' (first | simp -implicitDefEqProofs only [zG1,zG2,zG3,zG4,zG5,zG6,zG7,eq_self,resV,rval,X.val,binv,fillL,setR,↓reduceIte,Nat.reduceEqDiff,Nat.reduceAdd,Nat.reduceMul,Nat.reduceLeDiff,Nat.reduceLT,Nat.reduceSub,reduceCtorEq,zGq])
          have r4' : Row B C4 111 5 (.slice V4 (qs.length + (compE e).length + 1 + szL body) e4) (L1 ++ ⟨5, 0, 4, 0, 0⟩ :: compL body (qs.length + (compE e).length + 1)).length (qcells (L1 ++ ⟨5, 0, 4, 0, 0⟩ :: compL body (qs.length + (compE e).length + 1))) := by rw [← ea, len3, ea]; exact r4
          refine r4'.one ⟨4, 0, 0, 0, 0⟩ hy2 (by rw [← ea, len3]; omega) rfl (fun v5 C5 r5 => ?_)
          obtain ⟨V5, e5, rfl, -⟩ := r5.fl
          have g7 := kn_eight (kx.trans r5.hle)
          have len5 : (L1 ++ ⟨5, 0, 4, 0, 0⟩ :: compL body (qs.length + (compE e).length + 1) ++ [(⟨4, 0, 0, 0, 0⟩ : Qd)]).length = qs.length + (compE e).length + 1 + szL body + 1 := by rw [List.length_append, ← ea, len3]; rfl
          have eb : L1 ++ ⟨5, 0, 4, 0, 0⟩ :: compL body (qs.length + (compE e).length + 1) ++ [(⟨4, 0, 0, 0, 0⟩ : Qd)] = L1 ++ ⟨5, 0, 4, 0, 0⟩ :: (compL body (qs.length + (compE e).length + 1) ++ [(⟨4, 0, 0, 0, 0⟩ : Qd)]) := by simp
          rw [len5, eb] at r5
          rw [len5]
          have gi := rng (k := L1.length) (n := qs.length + (compE e).length + 1 + szL body + 1) (by omega)
          have hi := (r5.fl'.1).is (i := 0) (by rw [qcells_len]; simp only [List.length_append, List.length_cons]; omega)
          repeat' (first | simp -implicitDefEqProofs only [zG1,zG2,zG3,zG4,zG5,zG6,zG7,eq_self,resV,rval,X.val,binv,fillL,setR,↓reduceIte,Nat.reduceEqDiff,Nat.reduceAdd,Nat.reduceMul,Nat.reduceLeDiff,Nat.reduceLT,Nat.reduceSub,reduceCtorEq,zGq, g7, g5, gi, hi])
          refine r5.putq rfl (by simp [compL_len]; omega) (fun C6 r6 => ?_)
          have g8 := kn_eight (kx.trans r6.hle)
          repeat' (first | simp -implicitDefEqProofs only [zG1,zG2,zG3,zG4,zG5,zG6,zG7,eq_self,resV,rval,X.val,binv,fillL,setR,↓reduceIte,Nat.reduceEqDiff,Nat.reduceAdd,Nat.reduceMul,Nat.reduceLeDiff,Nat.reduceLT,Nat.reduceSub,reduceCtorEq,zGq, g8, g5])
          have len6 : (L1 ++ ⟨5, 0, 4, 0, ((qs.length + (compE e).length + 1 + szL body + 1 : Nat) : Int)⟩ :: (compL body (qs.length + (compE e).length + 1) ++ [(⟨4, 0, 0, 0, 0⟩ : Qd)])).length = qs.length + (compE e).length + 1 + szL body + 1 := by simp [compL_len]; omega
          refine ihd els A2 c2 B C6 _ _ (L1 ++ ⟨5, 0, 4, 0, ((qs.length + (compE e).length + 1 + szL body + 1 : Nat) : Int)⟩ :: (compL body (qs.length + (compE e).length + 1) ++ [(⟨4, 0, 0, 0, 0⟩ : Qd)])) hel (by omega) (by omega) hlB (by rw [len6]; exact r6) (fun v7 C7 r7 => ?_)
          rw [len6] at r7
          have ec : (L1 ++ ⟨5, 0, 4, 0, ((qs.length + (compE e).length + 1 + szL body + 1 : Nat) : Int)⟩ :: (compL body (qs.length + (compE e).length + 1) ++ [(⟨4, 0, 0, 0, 0⟩ : Qd)])) ++ compL els (qs.length + (compE e).length + 1 + szL body + 1) =
              (L1 ++ ⟨5, 0, 4, 0, ((qs.length + (compE e).length + 1 + szL body + 1 : Nat) : Int)⟩ :: compL body (qs.length + (compE e).length + 1)) ++ ⟨4, 0, 0, 0, 0⟩ :: compL els (qs.length + (compE e).length + 1 + szL body + 1) := by simp
          have len7 : ((L1 ++ ⟨5, 0, 4, 0, ((qs.length + (compE e).length + 1 + szL body + 1 : Nat) : Int)⟩ :: (compL body (qs.length + (compE e).length + 1) ++ [(⟨4, 0, 0, 0, 0⟩ : Qd)])) ++ compL els (qs.length + (compE e).length + 1 + szL body + 1)).length = qs.length + (compE e).length + 1 + szL body + 1 + szL els := by rw [List.length_append, len6, compL_len]
          obtain ⟨V7, e7, rfl, -⟩ := r7.fl
          rw [len7, ec] at r7
          rw [len7]
          have gj := rng (k := qs.length + (compE e).length + 1 + szL body) (n := qs.length + (compE e).length + 1 + szL body + 1 + szL els) (by omega)
          have hi7 := (r7.fl'.1).is (i := 0) (by rw [qcells_len]; simp only [List.length_append, List.length_cons]; omega)
          repeat' (first | simp -implicitDefEqProofs only [zG1,zG2,zG3,zG4,zG5,zG6,zG7,eq_self,resV,rval,X.val,binv,fillL,setR,↓reduceIte,Nat.reduceEqDiff,Nat.reduceAdd,Nat.reduceMul,Nat.reduceLeDiff,Nat.reduceLT,Nat.reduceSub,reduceCtorEq,zGq, gj, hi7])
          refine r7.putq (by simp [compL_len]; omega) (by rw [← ec, len7]) (fun C8 r8 => ?_)
          repeat' (first | simp -implicitDefEqProofs only [zG1,zG2,zG3,zG4,zG5,zG6,zG7,eq_self,resV,rval,X.val,binv,fillL,setR,↓reduceIte,Nat.reduceEqDiff,Nat.reduceAdd,Nat.reduceMul,Nat.reduceLeDiff,Nat.reduceLT,Nat.reduceSub,reduceCtorEq,zGq])
          refine ret_same (h _ _ ?_)
          have e9 : qs ++ compS (.mk 2 v b e body els) qs.length = (L1 ++ ⟨5, 0, 4, 0, ((qs.length + (compE e).length + 1 + szL body + 1 : Nat) : Int)⟩ :: compL body (qs.length + (compE e).length + 1)) ++ ⟨4, 0, 0, 0, ((qs.length + (compE e).length + 1 + szL body + 1 + szL els : Nat) : Int)⟩ :: compL els (qs.length + (compE e).length + 1 + szL body + 1) := by
            rw [← hL1]; simp [compS, hem]
          have e10 : (qs ++ compS (.mk 2 v b e body els) qs.length).length = qs.length + (compE e).length + 1 + szL body + 1 + szL els := by rw [e9]; simp [compL_len]; omega
          rw [e10, e9]
          exact r8.base lB
      · have hem : els.isEmpty = true := by
          simp only [stBlock, Bool.and_eq_true, St.kind, St.els] at hbk
          simpa using hbk.2
        have g5 : decide (((els.length : Nat) : Int) > 0) = false := by rw [emp, hem]; rfl
        repeat' (first | simp -implicitDefEqProofs only [zG1,zG2,zG3,zG4,zG5,zG6,zG7,eq_self,resV,rval,X.val,binv,fillL,setR,↓reduceIte,Nat.reduceEqDiff,Nat.reduceAdd,Nat.reduceMul,Nat.reduceLeDiff,Nat.reduceLT,Nat.reduceSub,reduceCtorEq,zGq, l4, g4, g5, Int.reduceBEq])
        refine rows_intro (fun y2 hy2 => ?_)
        repeat' (first | simp -implicitDefEqProofs only [zG1,zG2,zG3,zG4,zG5,zG6,zG7,eq_self,resV,rval,X.val,binv,fillL,setR,↓reduceIte,Nat.reduceEqDiff,Nat.reduceAdd,Nat.reduceMul,Nat.reduceLeDiff,Nat.reduceLT,Nat.reduceSub,reduceCtorEq,zGq])
        have r4' : Row B C4 111 5 (.slice V4 (qs.length + (compE e).length + 1 + szL body) e4) (L1 ++ ⟨5, 0, 4, 0, 0⟩ :: compL body (qs.length + (compE e).length + 1)).length (qcells (L1 ++ ⟨5, 0, 4, 0, 0⟩ :: compL body (qs.length + (compE e).length + 1))) := by rw [← ea, len3, ea]; exact r4
        refine r4'.one ⟨4, 0, 0, 0, (qs.length : Int)⟩ hy2 (by rw [← ea, len3]; omega) rfl (fun v5 C5 r5 => ?_)
        obtain ⟨V5, e5, rfl, -⟩ := r5.fl
        have g7 := kn_eight (kx.trans r5.hle)
        have len5 : (L1 ++ ⟨5, 0, 4, 0, 0⟩ :: compL body (qs.length + (compE e).length + 1) ++ [(⟨4, 0, 0, 0, (qs.length : Int)⟩ : Qd)]).length = qs.length + (compE e).length + 1 + szL body + 1 := by rw [List.length_append, ← ea, len3]; rfl
        have eb : L1 ++ ⟨5, 0, 4, 0, 0⟩ :: compL body (qs.length + (compE e).length + 1) ++ [(⟨4, 0, 0, 0, (qs.length : Int)⟩ : Qd)] = L1 ++ ⟨5, 0, 4, 0, 0⟩ :: (compL body (qs.length + (compE e).length + 1) ++ [(⟨4, 0, 0, 0, (qs.length : Int)⟩ : Qd)]) := by simp
        rw [len5, eb] at r5
        rw [len5]
        have gi := rng (k := L1.length) (n := qs.length + (compE e).length + 1 + szL body + 1) (by omega)
        have hi := (r5.fl'.1).is (i := 0) (by rw [qcells_len]; simp only [List.length_append, List.length_cons]; omega)
        repeat' (first | simp -implicitDefEqProofs only [zG1,zG2,zG3,zG4,zG5,zG6,zG7,eq_self,resV,rval,X.val,binv,fillL,setR,↓reduceIte,Nat.reduceEqDiff,Nat.reduceAdd,Nat.reduceMul,Nat.reduceLeDiff,Nat.reduceLT,Nat.reduceSub,reduceCtorEq,zGq, g7, g5, gi, hi])
        refine r5.putq rfl (by simp [compL_len]; omega) (fun C6 r6 => ?_)
        have g8 := kn_eight (kx.trans r6.hle)
        repeat' (first | simp -implicitDefEqProofs only [zG1,zG2,zG3,zG4,zG5,zG6,zG7,eq_self,resV,rval,X.val,binv,fillL,setR,↓reduceIte,Nat.reduceEqDiff,Nat.reduceAdd,Nat.reduceMul,Nat.reduceLeDiff,Nat.reduceLT,Nat.reduceSub,reduceCtorEq,zGq, g8, g5])
        refine ret_same (h _ _ ?_)
        have e9 : qs ++ compS (.mk 3 v b e body els) qs.length = L1 ++ ⟨5, 0, 4, 0, ((qs.length + (compE e).length + 1 + szL body + 1 : Nat) : Int)⟩ :: (compL body (qs.length + (compE e).length + 1) ++ [(⟨4, 0, 0, 0, (qs.length : Int)⟩ : Qd)]) := by
          rw [← hL1]; simp [compS]
        have e10 : (qs ++ compS (.mk 3 v b e body els) qs.length).length = qs.length + (compE e).length + 1 + szL body + 1 := by rw [e9]; simp [compL_len]; omega
        rw [e10, e9]
        exact r6.base lB
  · have hs := stOk_simple ho (fun e => hk (.inl e)) (fun e => hk (.inr e))
    have hkk := simple_kind hs
    obtain ⟨q, e0, -, -, -, -, eq⟩ := simple_q hs qs.length
    rw [e0] at h
    clear hv hE hb2 hl2 ho hs e0 hbB hlB
    generalize s.kind = k, s.var = v, s.box = b at *
    have fin : ∀ (L : List Qd) (v2 : Value) (C2 : AHeap) (y cc xc : Nat) (D : Value → AHeap → Prop), Row B C2 111 5 v2 L.length (qcells L) → C2 y = none → L.length ≤ 1099511627776 → (∀ v3 C3, Row B C3 111 5 v3 (L ++ [q]).length (qcells (L ++ [q])) → D v3 C3) →
        appK Try.prog w0 [.int .i64 0, .int .i64 0, .int .i64 0, .int .i64 0, .int .i64 0] 111 40 v2 (.slice (some ⟨y, 0, none⟩) 1 xc) D (C2.set y ⟨q.cells, true, 111, cc⟩) := fun L v2 C2 y cc xc D r hy hL hD => r.one q hy hL rfl hD
    rcases hkk with rfl | rfl | rfl | rfl | rfl
    · simp at eq
      subst eq
      repeat' (first | simp -implicitDefEqProofs only [zG1,zG2,zG3,zG4,zG5,zG6,zG7,eq_self,resV,rval,X.val,binv,fillL,setR,↓reduceIte,Nat.reduceEqDiff,Nat.reduceAdd,Nat.reduceMul,Nat.reduceLeDiff,Nat.reduceLT,Nat.reduceSub,reduceCtorEq,zGq, g1, Int.reduceBNe])
      refine compileExprR_ok _ s.e A0 c0 B C1 _ _ qs he hEB rB (by omega) (fun v2 C2 r2 => ?_)
      have g2 := kn_eight (kx.trans r2.hle)
      repeat' (first | simp -implicitDefEqProofs only [zG1,zG2,zG3,zG4,zG5,zG6,zG7,eq_self,resV,rval,X.val,binv,fillL,setR,↓reduceIte,Nat.reduceEqDiff,Nat.reduceAdd,Nat.reduceMul,Nat.reduceLeDiff,Nat.reduceLT,Nat.reduceSub,reduceCtorEq,zGq, g2, Int.reduceBEq])
      refine rows_intro (fun y hy => ?_)
      repeat' (first | simp -implicitDefEqProofs only [zG1,zG2,zG3,zG4,zG5,zG6,zG7,eq_self,resV,rval,X.val,binv,fillL,setR,↓reduceIte,Nat.reduceEqDiff,Nat.reduceAdd,Nat.reduceMul,Nat.reduceLeDiff,Nat.reduceLT,Nat.reduceSub,reduceCtorEq,zGq])
      refine r2.one ⟨2, v, 4, 0, 0⟩ hy (by rw [List.length_append]; omega) rfl (fun v3 C3 r3 => ?_)
      repeat' (first | simp -implicitDefEqProofs only [zG1,zG2,zG3,zG4,zG5,zG6,zG7,eq_self,resV,rval,X.val,binv,fillL,setR,↓reduceIte,Nat.reduceEqDiff,Nat.reduceAdd,Nat.reduceMul,Nat.reduceLeDiff,Nat.reduceLT,Nat.reduceSub,reduceCtorEq,zGq])
      exact ret_same (h _ _ (by simpa only [List.append_assoc, show ¬ ((1 : Int) = 5 ∨ (1 : Int) = 6) by decide, if_false] using r3.base lB))
    · simp at eq
      subst eq
      repeat' (first | simp -implicitDefEqProofs only [zG1,zG2,zG3,zG4,zG5,zG6,zG7,eq_self,resV,rval,X.val,binv,fillL,setR,↓reduceIte,Nat.reduceEqDiff,Nat.reduceAdd,Nat.reduceMul,Nat.reduceLeDiff,Nat.reduceLT,Nat.reduceSub,reduceCtorEq,zGq, g1, Int.reduceBNe])
      refine compileExprR_ok _ s.e A0 c0 B C1 _ _ qs he hEB rB (by omega) (fun v2 C2 r2 => ?_)
      have g2 := kn_eight (kx.trans r2.hle)
      repeat' (first | simp -implicitDefEqProofs only [zG1,zG2,zG3,zG4,zG5,zG6,zG7,eq_self,resV,rval,X.val,binv,fillL,setR,↓reduceIte,Nat.reduceEqDiff,Nat.reduceAdd,Nat.reduceMul,Nat.reduceLeDiff,Nat.reduceLT,Nat.reduceSub,reduceCtorEq,zGq, g2, Int.reduceBEq])
      refine rows_intro (fun y hy => ?_)
      repeat' (first | simp -implicitDefEqProofs only [zG1,zG2,zG3,zG4,zG5,zG6,zG7,eq_self,resV,rval,X.val,binv,fillL,setR,↓reduceIte,Nat.reduceEqDiff,Nat.reduceAdd,Nat.reduceMul,Nat.reduceLeDiff,Nat.reduceLT,Nat.reduceSub,reduceCtorEq,zGq])
      refine r2.one ⟨6, 0, 4, 0, b⟩ hy (by rw [List.length_append]; omega) rfl (fun v3 C3 r3 => ?_)
      repeat' (first | simp -implicitDefEqProofs only [zG1,zG2,zG3,zG4,zG5,zG6,zG7,eq_self,resV,rval,X.val,binv,fillL,setR,↓reduceIte,Nat.reduceEqDiff,Nat.reduceAdd,Nat.reduceMul,Nat.reduceLeDiff,Nat.reduceLT,Nat.reduceSub,reduceCtorEq,zGq])
      exact ret_same (h _ _ (by simpa only [List.append_assoc, show ¬ ((4 : Int) = 5 ∨ (4 : Int) = 6) by decide, if_false] using r3.base lB))
    · simp at eq
      subst eq
      repeat' (first | simp -implicitDefEqProofs only [zG1,zG2,zG3,zG4,zG5,zG6,zG7,eq_self,resV,rval,X.val,binv,fillL,setR,↓reduceIte,Nat.reduceEqDiff,Nat.reduceAdd,Nat.reduceMul,Nat.reduceLeDiff,Nat.reduceLT,Nat.reduceSub,reduceCtorEq,zGq, g1, Int.reduceBNe, Int.reduceBEq])
      refine rows_intro (fun y hy => ?_)
      repeat' (first | simp -implicitDefEqProofs only [zG1,zG2,zG3,zG4,zG5,zG6,zG7,eq_self,resV,rval,X.val,binv,fillL,setR,↓reduceIte,Nat.reduceEqDiff,Nat.reduceAdd,Nat.reduceMul,Nat.reduceLeDiff,Nat.reduceLT,Nat.reduceSub,reduceCtorEq,zGq])
      refine rB.one ⟨7, v, 0, 0, b⟩ hy (by omega) rfl (fun v3 C3 r3 => ?_)
      repeat' (first | simp -implicitDefEqProofs only [zG1,zG2,zG3,zG4,zG5,zG6,zG7,eq_self,resV,rval,X.val,binv,fillL,setR,↓reduceIte,Nat.reduceEqDiff,Nat.reduceAdd,Nat.reduceMul,Nat.reduceLeDiff,Nat.reduceLT,Nat.reduceSub,reduceCtorEq,zGq])
      exact ret_same (h _ _ (by rw [if_pos (show (5 : Int) = 5 ∨ (5 : Int) = 6 by decide)]; exact r3.base lB))
    · simp at eq
      subst eq
      repeat' (first | simp -implicitDefEqProofs only [zG1,zG2,zG3,zG4,zG5,zG6,zG7,eq_self,resV,rval,X.val,binv,fillL,setR,↓reduceIte,Nat.reduceEqDiff,Nat.reduceAdd,Nat.reduceMul,Nat.reduceLeDiff,Nat.reduceLT,Nat.reduceSub,reduceCtorEq,zGq, g1, Int.reduceBNe, Int.reduceBEq])
      refine rows_intro (fun y hy => ?_)
      repeat' (first | simp -implicitDefEqProofs only [zG1,zG2,zG3,zG4,zG5,zG6,zG7,eq_self,resV,rval,X.val,binv,fillL,setR,↓reduceIte,Nat.reduceEqDiff,Nat.reduceAdd,Nat.reduceMul,Nat.reduceLeDiff,Nat.reduceLT,Nat.reduceSub,reduceCtorEq,zGq])
      refine rB.one ⟨8, 0, 0, 0, 0⟩ hy (by omega) rfl (fun v3 C3 r3 => ?_)
      repeat' (first | simp -implicitDefEqProofs only [zG1,zG2,zG3,zG4,zG5,zG6,zG7,eq_self,resV,rval,X.val,binv,fillL,setR,↓reduceIte,Nat.reduceEqDiff,Nat.reduceAdd,Nat.reduceMul,Nat.reduceLeDiff,Nat.reduceLT,Nat.reduceSub,reduceCtorEq,zGq])
      exact ret_same (h _ _ (by rw [if_pos (show (6 : Int) = 5 ∨ (6 : Int) = 6 by decide)]; exact r3.base lB))
    · simp at eq
      subst eq
      repeat' (first | simp -implicitDefEqProofs only [zG1,zG2,zG3,zG4,zG5,zG6,zG7,eq_self,resV,rval,X.val,binv,fillL,setR,↓reduceIte,Nat.reduceEqDiff,Nat.reduceAdd,Nat.reduceMul,Nat.reduceLeDiff,Nat.reduceLT,Nat.reduceSub,reduceCtorEq,zGq, g1, Int.reduceBNe])
      refine compileExprR_ok _ s.e A0 c0 B C1 _ _ qs he hEB rB (by omega) (fun v2 C2 r2 => ?_)
      have g2 := kn_eight (kx.trans r2.hle)
      repeat' (first | simp -implicitDefEqProofs only [zG1,zG2,zG3,zG4,zG5,zG6,zG7,eq_self,resV,rval,X.val,binv,fillL,setR,↓reduceIte,Nat.reduceEqDiff,Nat.reduceAdd,Nat.reduceMul,Nat.reduceLeDiff,Nat.reduceLT,Nat.reduceSub,reduceCtorEq,zGq, g2, Int.reduceBEq])
      refine rows_intro (fun y hy => ?_)
      repeat' (first | simp -implicitDefEqProofs only [zG1,zG2,zG3,zG4,zG5,zG6,zG7,eq_self,resV,rval,X.val,binv,fillL,setR,↓reduceIte,Nat.reduceEqDiff,Nat.reduceAdd,Nat.reduceMul,Nat.reduceLeDiff,Nat.reduceLT,Nat.reduceSub,reduceCtorEq,zGq])
      refine r2.one ⟨9, 0, 4, 0, 0⟩ hy (by rw [List.length_append]; omega) rfl (fun v3 C3 r3 => ?_)
      repeat' (first | simp -implicitDefEqProofs only [zG1,zG2,zG3,zG4,zG5,zG6,zG7,eq_self,resV,rval,X.val,binv,fillL,setR,↓reduceIte,Nat.reduceEqDiff,Nat.reduceAdd,Nat.reduceMul,Nat.reduceLeDiff,Nat.reduceLT,Nat.reduceSub,reduceCtorEq,zGq])
      exact ret_same (h _ _ (by simpa only [List.append_assoc, show ¬ ((7 : Int) = 5 ∨ (7 : Int) = 6) by decide, if_false] using r3.base lB))
theorem ksP : ∀ d, KsP w0 d
  | 0 => ksP_of w0 0 (csP_of w0 0 fun d' h => by omega)
  | d + 1 => ksP_of w0 (d + 1) (csP_of w0 (d + 1) fun d' h => by
    obtain rfl : d' = d := (by omega)
    exact ksP d')
/-- compileTask of valid statements. -/
theorem compileTaskI_ok (ss : List St) (A : Option Addr) (c : Nat) (H : AHeap) (K : Value → AHeap → Prop) (ho : stsOk ss = true) (hR : StR H ss A 0)
    (h : ∀ v C, Row H C 111 5 v (compTask ss).length (qcells (compTask ss)) → K v C) : ACalls Try.prog w0 70 [.slice A ss.length c] H K := by
  simp only [stsOk, Bool.and_eq_true, decide_eq_true_eq] at ho
  have hs := szL_le ss
  refine acalls_of_sx mix Try.func70 of70 (by simp [ir70]) ?_; rw [ir70]; (try delta qT qI qC qO qM qG)
  repeat' (first | simp -implicitDefEqProofs only [zG1,zG2,zG3,zG4,zG5,zG6,zG7,eq_self,resV,rval,X.val,binv,fillL,setR,↓reduceIte,Nat.reduceEqDiff,Nat.reduceAdd,Nat.reduceMul,Nat.reduceLeDiff,Nat.reduceLT,Nat.reduceSub,reduceCtorEq,zGq] | ((with_reducible refine rows_intro (fun _ hb => ?_)); try simp only [set_none, ne_eq] at hb) | ((with_reducible refine new_intro (fun _ hb => ?_)); try simp only [set_none, ne_eq] at hb) | (with_reducible refine draw_same ?_) | ((with_reducible refine gd_split ?_ (fun _ => ?_) (fun _ => ?_)); exact rfl) | ((with_reducible refine td_split ?_ (fun _ => ?_) (fun _ => ?_)); exact rfl) | (with_reducible refine c_split (fun _ => ?_) (fun _ => ?_)))
  refine ksP w0 3 ss A c H H _ _ [] ho.1 (by omega) (by simp) hR (Row.nil_ _ _ _) (fun v1 C1 r1 => ?_)
  repeat' (first | simp -implicitDefEqProofs only [zG1,zG2,zG3,zG4,zG5,zG6,zG7,eq_self,resV,rval,X.val,binv,fillL,setR,↓reduceIte,Nat.reduceEqDiff,Nat.reduceAdd,Nat.reduceMul,Nat.reduceLeDiff,Nat.reduceLT,Nat.reduceSub,reduceCtorEq,zGq] | ((with_reducible refine rows_intro (fun _ hb => ?_)); try simp only [set_none, ne_eq] at hb) | ((with_reducible refine new_intro (fun _ hb => ?_)); try simp only [set_none, ne_eq] at hb) | (with_reducible refine draw_same ?_) | ((with_reducible refine gd_split ?_ (fun _ => ?_) (fun _ => ?_)); exact rfl) | ((with_reducible refine td_split ?_ (fun _ => ?_) (fun _ => ?_)); exact rfl) | (with_reducible refine c_split (fun _ => ?_) (fun _ => ?_)))
  refine r1.one ⟨10, 0, 0, 0, 0⟩ hb (by rw [List.nil_append, compL_len]; omega) rfl (fun v2 C2 r2 => ?_)
  repeat' (first | simp -implicitDefEqProofs only [zG1,zG2,zG3,zG4,zG5,zG6,zG7,eq_self,resV,rval,X.val,binv,fillL,setR,↓reduceIte,Nat.reduceEqDiff,Nat.reduceAdd,Nat.reduceMul,Nat.reduceLeDiff,Nat.reduceLT,Nat.reduceSub,reduceCtorEq,zGq] | ((with_reducible refine rows_intro (fun _ hb => ?_)); try simp only [set_none, ne_eq] at hb) | ((with_reducible refine new_intro (fun _ hb => ?_)); try simp only [set_none, ne_eq] at hb) | (with_reducible refine draw_same ?_) | ((with_reducible refine gd_split ?_ (fun _ => ?_) (fun _ => ?_)); exact rfl) | ((with_reducible refine td_split ?_ (fun _ => ?_) (fun _ => ?_)); exact rfl) | (with_reducible refine c_split (fun _ => ?_) (fun _ => ?_)))
  exact ret_same (h _ _ r2)
theorem compileTask_ok (ss : List St) (A : Option Addr) (c : Nat) (H : AHeap) (K : Value → AHeap → Prop) (hc : cntL ss ≤ 1048576) (hR : StR H ss A 0)
    (h : ∀ v C, Row H C 111 5 v (compileTask ss).length (qcells (compileTask ss)) → K (.tuple #[v, .bool (stsOk ss)]) C) :
    ACalls Try.prog w0 18 [.slice A ss.length c] H K := by
  cases ho : stsOk ss with
  | false =>
    rw [ho] at h
    have e : compileTask ss = [] := by simp [compileTask, ho]
    rw [e] at h
    refine acalls_of_sx mix Try.func18 of18 (by simp [ir18]) ?_; rw [ir18]; (try delta qT qI qC qO qM qG)
    repeat' (first | simp -implicitDefEqProofs only [zG1,zG2,zG3,zG4,zG5,zG6,zG7,eq_self,resV,rval,X.val,binv,fillL,setR,↓reduceIte,Nat.reduceEqDiff,Nat.reduceAdd,Nat.reduceMul,Nat.reduceLeDiff,Nat.reduceLT,Nat.reduceSub,reduceCtorEq,zGq, ho] | ((with_reducible refine rows_intro (fun _ hb => ?_)); try simp only [set_none, ne_eq] at hb) | ((with_reducible refine new_intro (fun _ hb => ?_)); try simp only [set_none, ne_eq] at hb) | (with_reducible refine draw_same ?_) | ((with_reducible refine gd_split ?_ (fun _ => ?_) (fun _ => ?_)); exact rfl) | ((with_reducible refine td_split ?_ (fun _ => ?_) (fun _ => ?_)); exact rfl) | (with_reducible refine c_split (fun _ => ?_) (fun _ => ?_)) | (with_reducible refine stmtsValid_ok _ ss A c _ _ hc hR ?_))
    exact ret_same (h _ _ (Row.nil_ _ _ _))
  | true =>
    rw [ho] at h
    have e : compileTask ss = compTask ss := by simp [compileTask, ho]
    rw [e] at h
    refine acalls_of_sx mix Try.func18 of18 (by simp [ir18]) ?_; rw [ir18]; (try delta qT qI qC qO qM qG)
    repeat' (first | simp -implicitDefEqProofs only [zG1,zG2,zG3,zG4,zG5,zG6,zG7,eq_self,resV,rval,X.val,binv,fillL,setR,↓reduceIte,Nat.reduceEqDiff,Nat.reduceAdd,Nat.reduceMul,Nat.reduceLeDiff,Nat.reduceLT,Nat.reduceSub,reduceCtorEq,zGq, ho] | ((with_reducible refine rows_intro (fun _ hb => ?_)); try simp only [set_none, ne_eq] at hb) | ((with_reducible refine new_intro (fun _ hb => ?_)); try simp only [set_none, ne_eq] at hb) | (with_reducible refine draw_same ?_) | ((with_reducible refine gd_split ?_ (fun _ => ?_) (fun _ => ?_)); exact rfl) | ((with_reducible refine td_split ?_ (fun _ => ?_) (fun _ => ?_)); exact rfl) | (with_reducible refine c_split (fun _ => ?_) (fun _ => ?_)) | (with_reducible refine stmtsValid_ok _ ss A c _ _ hc hR ?_) | (with_reducible refine compileTaskI_ok _ ss A c _ _ ho hR (fun v1 C1 r1 => ?_)))
    exact ret_same (h _ _ r1)
end Go.Proofs.Ytfjhjfddgdokgaa
namespace Go.Proofs.Ytfjhjfddgdokgaa
set_option linter.all false
open Go Go.RowKit
set_option maxRecDepth 100000
variable (w0 : World)
theorem liP_of (d : Nat) (ih : SiP w0 d) : LiP w0 d := by
  intro ss A c i H K ho hc hi hR h
  have hl := cntL_len ss
  have hs := szL_le ss
  refine acalls_of_sx mix Try.func72 of72 (by simp [ir72]) ?_; rw [ir72]; (try delta qT qI qC qO qM qG)
  repeat' (first | simp -implicitDefEqProofs only [zG1,zG2,zG3,zG4,zG5,zG6,zG7,eq_self,resV,rval,X.val,binv,fillL,setR,↓reduceIte,Nat.reduceEqDiff,Nat.reduceAdd,Nat.reduceMul,Nat.reduceLeDiff,Nat.reduceLT,Nat.reduceSub,reduceCtorEq,zGq] | ((with_reducible refine rows_intro (fun _ hb => ?_)); try simp only [set_none, ne_eq] at hb) | ((with_reducible refine new_intro (fun _ hb => ?_)); try simp only [set_none, ne_eq] at hb) | (with_reducible refine draw_same ?_) | ((with_reducible refine gd_split ?_ (fun _ => ?_) (fun _ => ?_)); exact rfl) | ((with_reducible refine td_split ?_ (fun _ => ?_) (fun _ => ?_)); exact rfl) | (with_reducible refine c_split (fun _ => ?_) (fun _ => ?_)))
  refine for_rule ss.length (fun k fr C => ∃ v, Row H C 111 5 v (szL (ss.take k)) (qcells (compL (ss.take k) i)) ∧ fr 0 = .slice A ss.length c ∧ fr 1 = .int .i64 i ∧ fr 5 = v ∧ fr 6 = .int .i64 k)
    ⟨_, Row.lit0 hb, (by first | rfl | (simp only [put_at, ↓reduceIte, Nat.reduceEqDiff]; first | done | rfl | assumption) | simp [put_at, *]), (by first | rfl | (simp only [put_at, ↓reduceIte, Nat.reduceEqDiff]; first | done | rfl | assumption) | simp [put_at, *]), (by first | rfl | (simp only [put_at, ↓reduceIte, Nat.reduceEqDiff]; first | done | rfl | assumption) | simp [put_at, *]), (by first | rfl | (simp only [put_at, ↓reduceIte, Nat.reduceEqDiff]; first | done | rfl | assumption) | simp [put_at, *])⟩ ?_ ?_
  · rintro k fr C hk ⟨v, r1, f0, f1, f5, f6⟩ N hN
    obtain ⟨A5, e5, rfl, -⟩ := r1.fl
    have g0 := lt_dec hk
    have g1 := rng hk
    have g2 := up1 hk (by omega)
    obtain ⟨gA, a0, d0, a1, d1, a2, d2, gp, hx⟩ := (hR.le r1.hle).arg hk
    have hct := cntL_at hk
    have hsz := szL_take hk
    have hcm := compL_take hk i
    have hst := cntL_take hk
    have hle := cntL_le (ss := ss) (k + 1)
    have hs2 := szL_le (ss.take k)
    have hs3 := szS_le ss[k]
    have w1 := nat_add (a := i) (b := szL (ss.take k)) (by omega)
    have hok := List.all_eq_true.1 ho _ (List.getElem_mem hk)
    repeat' (first | simp -implicitDefEqProofs only [zG1,zG2,zG3,zG4,zG5,zG6,zG7,eq_self,resV,rval,X.val,binv,fillL,setR,↓reduceIte,Nat.reduceEqDiff,Nat.reduceAdd,Nat.reduceMul,Nat.reduceLeDiff,Nat.reduceLT,Nat.reduceSub,reduceCtorEq,zGq, f0, f1, f5, f6, g0, g1, g2, gA, gp, w1, Nat.add_zero] | ((with_reducible refine rows_intro (fun _ hb => ?_)); try simp only [set_none, ne_eq] at hb) | ((with_reducible refine new_intro (fun _ hb => ?_)); try simp only [set_none, ne_eq] at hb) | (with_reducible refine draw_same ?_) | ((with_reducible refine gd_split ?_ (fun _ => ?_) (fun _ => ?_)); exact rfl) | ((with_reducible refine td_split ?_ (fun _ => ?_) (fun _ => ?_)); exact rfl) | (with_reducible refine c_split (fun _ => ?_) (fun _ => ?_)) | (with_reducible refine ih ss[k] a0 d0 a1 d1 a2 d2 _ _ _ hok (by omega) (by omega) hx (fun v2 C2 r2 => ?_)))
    obtain ⟨A6, e6, rfl, f2⟩ := r2.fl
    repeat' (first | simp -implicitDefEqProofs only [zG1,zG2,zG3,zG4,zG5,zG6,zG7,eq_self,resV,rval,X.val,binv,fillL,setR,↓reduceIte,Nat.reduceEqDiff,Nat.reduceAdd,Nat.reduceMul,Nat.reduceLeDiff,Nat.reduceLT,Nat.reduceSub,reduceCtorEq,zGq] | ((with_reducible refine rows_intro (fun _ hb => ?_)); try simp only [set_none, ne_eq] at hb) | ((with_reducible refine new_intro (fun _ hb => ?_)); try simp only [set_none, ne_eq] at hb) | (with_reducible refine draw_same ?_) | ((with_reducible refine gd_split ?_ (fun _ => ?_) (fun _ => ?_)); exact rfl) | ((with_reducible refine td_split ?_ (fun _ => ?_) (fun _ => ?_)); exact rfl) | (with_reducible refine c_split (fun _ => ?_) (fun _ => ?_)))
    refine (r1.le r2.hle).app f2 (by rw [qcells_len, compS_len]; rfl) (qcells_oc _) (by simp only [maxLen]; omega) (by omega) (fun v3 C3 r3 => ?_)
    repeat' (first | simp -implicitDefEqProofs only [zG1,zG2,zG3,zG4,zG5,zG6,zG7,eq_self,resV,rval,X.val,binv,fillL,setR,↓reduceIte,Nat.reduceEqDiff,Nat.reduceAdd,Nat.reduceMul,Nat.reduceLeDiff,Nat.reduceLT,Nat.reduceSub,reduceCtorEq,zGq, f0, f1, f5, f6, g2] | ((with_reducible refine rows_intro (fun _ hb => ?_)); try simp only [set_none, ne_eq] at hb) | ((with_reducible refine new_intro (fun _ hb => ?_)); try simp only [set_none, ne_eq] at hb) | (with_reducible refine draw_same ?_) | ((with_reducible refine gd_split ?_ (fun _ => ?_) (fun _ => ?_)); exact rfl) | ((with_reducible refine td_split ?_ (fun _ => ?_) (fun _ => ?_)); exact rfl) | (with_reducible refine c_split (fun _ => ?_) (fun _ => ?_)))
    refine hN _ _ _ (.refl _) ⟨_, ?_, (by first | rfl | (simp only [put_at, ↓reduceIte, Nat.reduceEqDiff]; first | done | rfl | assumption) | simp [put_at, *]), (by first | rfl | (simp only [put_at, ↓reduceIte, Nat.reduceEqDiff]; first | done | rfl | assumption) | simp [put_at, *]), (by first | rfl | (simp only [put_at, ↓reduceIte, Nat.reduceEqDiff]; first | done | rfl | assumption) | simp [put_at, *]), (by first | rfl | (simp only [put_at, ↓reduceIte, Nat.reduceEqDiff]; first | done | rfl | assumption) | simp [put_at, *])⟩
    rw [hsz, hcm, qcells_app]
    exact r3
  · rintro fr C ⟨v, r1, f0, f1, f5, f6⟩ N
    have g0 : decide ((ss.length : Int) < (ss.length : Int)) = false := by simp
    rw [List.take_length] at r1
    repeat' (first | simp -implicitDefEqProofs only [zG1,zG2,zG3,zG4,zG5,zG6,zG7,eq_self,resV,rval,X.val,binv,fillL,setR,↓reduceIte,Nat.reduceEqDiff,Nat.reduceAdd,Nat.reduceMul,Nat.reduceLeDiff,Nat.reduceLT,Nat.reduceSub,reduceCtorEq,zGq, f0, f1, f5, f6, g0] | ((with_reducible refine rows_intro (fun _ hb => ?_)); try simp only [set_none, ne_eq] at hb) | ((with_reducible refine new_intro (fun _ hb => ?_)); try simp only [set_none, ne_eq] at hb) | (with_reducible refine draw_same ?_) | ((with_reducible refine gd_split ?_ (fun _ => ?_) (fun _ => ?_)); exact rfl) | ((with_reducible refine td_split ?_ (fun _ => ?_) (fun _ => ?_)); exact rfl) | (with_reducible refine c_split (fun _ => ?_) (fun _ => ?_)))
    exact ret_same (h _ _ r1)
theorem liP : ∀ d, LiP w0 d
  | 0 => liP_of w0 0 (siP_of w0 0 fun d' h => by omega)
  | d + 1 => liP_of w0 (d + 1) (siP_of w0 (d + 1) fun d' h => by
    obtain rfl : d' = d := (by omega)
    exact liP d')
theorem l22List0_ok (ss : List St) (A : Option Addr) (c : Nat) (H : AHeap) (K : Value → AHeap → Prop) (ho : ss.all (stOk 3) = true) (hc : cntL ss ≤ 1048576) (hR : StR H ss A 0)
    (h : ∀ v C, Row H C 111 5 v (szL ss) (qcells (compL ss 0)) → K v C) : ACalls Try.prog w0 72 [.slice A ss.length c, .int .i64 0] H K := liP w0 3 ss A c 0 H K ho hc (by omega) hR h
theorem compileTaskS_ok (ss : List St) (A : Option Addr) (c : Nat) (H : AHeap) (K : Value → AHeap → Prop) (hc : cntL ss ≤ 1048576) (hR : StR H ss A 0)
    (h : ∀ v C, Row H C 111 5 v (compileTask ss).length (qcells (compileTask ss)) → K (.tuple #[v, .bool (stsOk ss)]) C) :
    ACalls Try.prog w0 17 [.slice A ss.length c] H K := by
  cases ho : stsOk ss with
  | false =>
    rw [ho] at h
    have e : compileTask ss = [] := by simp [compileTask, ho]
    rw [e] at h
    refine acalls_of_sx mix Try.func17 of17 (by simp [ir17]) ?_; rw [ir17]; (try delta qT qI qC qO qM qG)
    repeat' (first | simp -implicitDefEqProofs only [zG1,zG2,zG3,zG4,zG5,zG6,zG7,eq_self,resV,rval,X.val,binv,fillL,setR,↓reduceIte,Nat.reduceEqDiff,Nat.reduceAdd,Nat.reduceMul,Nat.reduceLeDiff,Nat.reduceLT,Nat.reduceSub,reduceCtorEq,zGq, ho] | ((with_reducible refine rows_intro (fun _ hb => ?_)); try simp only [set_none, ne_eq] at hb) | ((with_reducible refine new_intro (fun _ hb => ?_)); try simp only [set_none, ne_eq] at hb) | (with_reducible refine draw_same ?_) | ((with_reducible refine gd_split ?_ (fun _ => ?_) (fun _ => ?_)); exact rfl) | ((with_reducible refine td_split ?_ (fun _ => ?_) (fun _ => ?_)); exact rfl) | (with_reducible refine c_split (fun _ => ?_) (fun _ => ?_)) | (with_reducible refine stmtsValidS_ok _ ss A c _ _ (by omega) hR ?_))
    exact ret_same (h _ _ (Row.lit0 hb))
  | true =>
    rw [ho] at h
    have e : compileTask ss = compTask ss := by simp [compileTask, ho]
    rw [e] at h
    have hn := compTask_len ss
    have hs := szL_le ss
    have hall : ss.all (stOk 3) = true := by simp only [stsOk, Bool.and_eq_true] at ho; exact ho.1
    refine acalls_of_sx mix Try.func17 of17 (by simp [ir17]) ?_; rw [ir17]; (try delta qT qI qC qO qM qG)
    repeat' (first | simp -implicitDefEqProofs only [zG1,zG2,zG3,zG4,zG5,zG6,zG7,eq_self,resV,rval,X.val,binv,fillL,setR,↓reduceIte,Nat.reduceEqDiff,Nat.reduceAdd,Nat.reduceMul,Nat.reduceLeDiff,Nat.reduceLT,Nat.reduceSub,reduceCtorEq,zGq, ho] | ((with_reducible refine rows_intro (fun _ hb => ?_)); try simp only [set_none, ne_eq] at hb) | ((with_reducible refine new_intro (fun _ hb => ?_)); try simp only [set_none, ne_eq] at hb) | (with_reducible refine draw_same ?_) | ((with_reducible refine gd_split ?_ (fun _ => ?_) (fun _ => ?_)); exact rfl) | ((with_reducible refine td_split ?_ (fun _ => ?_) (fun _ => ?_)); exact rfl) | (with_reducible refine c_split (fun _ => ?_) (fun _ => ?_)) | (with_reducible refine stmtsValidS_ok _ ss A c _ _ (by omega) hR ?_) | (with_reducible refine l22List0_ok _ ss A c _ _ hall hc hR (fun v1 C1 r1 => ?_)))
    refine r1.app1 (m := 1) hb rfl (by simp [ocI]) (by simp only [maxLen]; omega) (by omega) (fun v2 C2 r2 => ?_)
    repeat' (first | simp -implicitDefEqProofs only [zG1,zG2,zG3,zG4,zG5,zG6,zG7,eq_self,resV,rval,X.val,binv,fillL,setR,↓reduceIte,Nat.reduceEqDiff,Nat.reduceAdd,Nat.reduceMul,Nat.reduceLeDiff,Nat.reduceLT,Nat.reduceSub,reduceCtorEq,zGq] | ((with_reducible refine rows_intro (fun _ hb => ?_)); try simp only [set_none, ne_eq] at hb) | ((with_reducible refine new_intro (fun _ hb => ?_)); try simp only [set_none, ne_eq] at hb) | (with_reducible refine draw_same ?_) | ((with_reducible refine gd_split ?_ (fun _ => ?_) (fun _ => ?_)); exact rfl) | ((with_reducible refine td_split ?_ (fun _ => ?_) (fun _ => ?_)); exact rfl) | (with_reducible refine c_split (fun _ => ?_) (fun _ => ?_)))
    refine ret_same (h _ _ ?_)
    rw [hn]
    simp only [compTask, qcells_app, qcells_one', haltQ]
    exact r2
end Go.Proofs.Ytfjhjfddgdokgaa
namespace Go.Proofs.Ytfjhjfddgdokgaa
set_option linter.all false
open Go Go.RowKit
set_option maxRecDepth 100000
variable (w0 : World) (H : AHeap) (K : Value → AHeap → Prop)
theorem marks_val (k : Int) (n j : Nat) (h : j < n) : (ints (marks k n))[j]? = some (.int .i64 (k + j)) := by simp [ints, marks_at k n j h]
theorem markQuadS_ok (H1 : AHeap) (t : TypeId) (v : Value) (n : Nat) (vs : List Value) (k : Int) (ho : Own H1 t 5 v n vs H) (hn : n ≤ 4294967296) (h0 : 0 ≤ k) (h1 : k ≤ 4294967296)
    (h : ∀ H', Own H1 t 5 v n (ints (marks k (n * 5))) H' → K (.int .i64 (k + 5 * n)) H') : ACalls Try.prog w0 21 [v, .int .i64 k] H K := by
  refine acalls_of_sx mix Try.func21 of21 (by simp [ir21]) ?_; rw [ir21]; (try delta qT qI qC qO qM qG)
  rcases ho with ⟨rfl, rfl, rfl, rfl⟩ | ⟨b, cap, rfl, hb, hc, hm, hl, rfl⟩
  · repeat' (first | simp -implicitDefEqProofs only [zG1,zG2,zG3,zG4,zG5,zG6,zG7,eq_self,resV,rval,X.val,binv,fillL,setR,↓reduceIte,Nat.reduceEqDiff,Nat.reduceAdd,Nat.reduceMul,Nat.reduceLeDiff,Nat.reduceLT,Nat.reduceSub,reduceCtorEq,zGr] | ((with_reducible refine rows_intro (fun _ hb => ?_)); try simp only [set_none, ne_eq] at hb) | ((with_reducible refine new_intro (fun _ hb => ?_)); try simp only [set_none, ne_eq] at hb) | (with_reducible refine draw_same ?_) | ((with_reducible refine gd_split ?_ (fun _ => ?_) (fun _ => ?_)); exact rfl) | ((with_reducible refine td_split ?_ (fun _ => ?_) (fun _ => ?_)); exact rfl) | (with_reducible refine c_split (fun _ => ?_) (fun _ => ?_)))
    refine loop_rule (fun n fr H' => n = 0 ∧ H' = H ∧ fr 0 = .slice none 0 0 ∧ fr 1 = .int .i64 k ∧ fr 5 = .int .i64 0) 0 ⟨rfl, rfl, rfl, rfl, rfl⟩ ?_
    rintro n fr _ ⟨rfl, rfl, f0, f1, f5⟩
    have g0 : decide ((0 : Int) < ((0 : Nat) : Int)) = false := by simp
    repeat' (first | simp -implicitDefEqProofs only [zG1,zG2,zG3,zG4,zG5,zG6,zG7,eq_self,resV,rval,X.val,binv,fillL,setR,↓reduceIte,Nat.reduceEqDiff,Nat.reduceAdd,Nat.reduceMul,Nat.reduceLeDiff,Nat.reduceLT,Nat.reduceSub,reduceCtorEq,zGr, f0, f1, f5, g0] | ((with_reducible refine rows_intro (fun _ hb => ?_)); try simp only [set_none, ne_eq] at hb) | ((with_reducible refine new_intro (fun _ hb => ?_)); try simp only [set_none, ne_eq] at hb) | (with_reducible refine draw_same ?_) | ((with_reducible refine gd_split ?_ (fun _ => ?_) (fun _ => ?_)); exact rfl) | ((with_reducible refine td_split ?_ (fun _ => ?_) (fun _ => ?_)); exact rfl) | (with_reducible refine c_split (fun _ => ?_) (fun _ => ?_)))
    refine ret_same (ki (h _ (.inl ⟨rfl, rfl, rfl, rfl⟩)) (by omega))
  · repeat' (first | simp -implicitDefEqProofs only [zG1,zG2,zG3,zG4,zG5,zG6,zG7,eq_self,resV,rval,X.val,binv,fillL,setR,↓reduceIte,Nat.reduceEqDiff,Nat.reduceAdd,Nat.reduceMul,Nat.reduceLeDiff,Nat.reduceLT,Nat.reduceSub,reduceCtorEq,zGr] | ((with_reducible refine rows_intro (fun _ hb => ?_)); try simp only [set_none, ne_eq] at hb) | ((with_reducible refine new_intro (fun _ hb => ?_)); try simp only [set_none, ne_eq] at hb) | (with_reducible refine draw_same ?_) | ((with_reducible refine gd_split ?_ (fun _ => ?_) (fun _ => ?_)); exact rfl) | ((with_reducible refine td_split ?_ (fun _ => ?_) (fun _ => ?_)); exact rfl) | (with_reducible refine c_split (fun _ => ?_) (fun _ => ?_)))
    refine loop_rule (fun m fr H' => ∃ (i : Nat) (cs : List Value), m = n - i ∧ i ≤ n ∧ cs.length = n * 5 ∧ (∀ j, j < i * 5 → cs[j]? = some (.int .i64 (k + j))) ∧ H' = H1.set b ⟨cs, true, t, cap * 5⟩ ∧ fr 0 = .slice (some ⟨b, 0, none⟩) n cap ∧ fr 1 = .int .i64 (k + 5 * i) ∧ fr 5 = .int .i64 i) n
      ⟨0, vs, rfl, Nat.zero_le _, hl, fun j hj => by omega, rfl, rfl, by simp [fr0, put_at], rfl⟩ ?_
    rintro m fr _ ⟨i, cs, rfl, hi, hcs, hcv, rfl, f0, f1, f5⟩
    by_cases hlt : i < n
    · have g0 := lt_dec hlt
      have g1 := rng hlt
      have g3 := up1 hlt (by omega)
      have w1 : IntKind.i64.wrap (k + 5 * (i : Int) + 1) = k + 5 * i + 1 := wrap_i64 (by omega) (by omega)
      have w2 : IntKind.i64.wrap (k + 5 * (i : Int) + 1 + 1) = k + 5 * i + 1 + 1 := wrap_i64 (by omega) (by omega)
      have w3 : IntKind.i64.wrap (k + 5 * (i : Int) + 1 + 1 + 1) = k + 5 * i + 1 + 1 + 1 := wrap_i64 (by omega) (by omega)
      have w4 : IntKind.i64.wrap (k + 5 * (i : Int) + 1 + 1 + 1 + 1) = k + 5 * i + 1 + 1 + 1 + 1 := wrap_i64 (by omega) (by omega)
      have w5 : IntKind.i64.wrap (k + 5 * (i : Int) + 1 + 1 + 1 + 1 + 1) = k + 5 * i + 1 + 1 + 1 + 1 + 1 := wrap_i64 (by omega) (by omega)
      have s0 : (i * 5 + 1 ≤ n * 5) = True := eq_true (by omega)
      have s1 : (i * 5 + 1 + 1 ≤ n * 5) = True := eq_true (by omega)
      have s2 : (i * 5 + 2 + 1 ≤ n * 5) = True := eq_true (by omega)
      have s3 : (i * 5 + 3 + 1 ≤ n * 5) = True := eq_true (by omega)
      have s4 : (i * 5 + 4 + 1 ≤ n * 5) = True := eq_true (by omega)
      repeat' (first | simp -implicitDefEqProofs only [zG1,zG2,zG3,zG4,zG5,zG6,zG7,eq_self,resV,rval,X.val,binv,fillL,setR,↓reduceIte,Nat.reduceEqDiff,Nat.reduceAdd,Nat.reduceMul,Nat.reduceLeDiff,Nat.reduceLT,Nat.reduceSub,reduceCtorEq,zGr, f0, f1, f5, g0, g1, g3, w1, w2, w3, w4, w5, s0, s1, s2, s3, s4, hcs, adr_lit, List.length_set, Nat.add_zero, true_and] | ((with_reducible refine rows_intro (fun _ hb => ?_)); try simp only [set_none, ne_eq] at hb) | ((with_reducible refine new_intro (fun _ hb => ?_)); try simp only [set_none, ne_eq] at hb) | (with_reducible refine draw_same ?_) | ((with_reducible refine gd_split ?_ (fun _ => ?_) (fun _ => ?_)); exact rfl) | ((with_reducible refine td_split ?_ (fun _ => ?_) (fun _ => ?_)); exact rfl) | (with_reducible refine c_split (fun _ => ?_) (fun _ => ?_)))
      refine ⟨_, _, ?_, AHeap.le.refl _, i + 1, _, rfl, by omega, ?_, fun j hj => ?_, rfl, by simp [put_at, f0], ?_, by simp [put_at]⟩
      · omega
      · simp only [List.length_set]; exact hcs
      · simp only [List.getElem?_set, List.length_set, hcs]
        repeat' split
        all_goals first | omega | (subst_vars; congr 2; omega) | exact hcv j (by omega)
      · simp only [put_at]
        simp
        omega
    · have g0 := ge_dec hlt
      obtain rfl : i = n := by omega
      repeat' (first | simp -implicitDefEqProofs only [zG1,zG2,zG3,zG4,zG5,zG6,zG7,eq_self,resV,rval,X.val,binv,fillL,setR,↓reduceIte,Nat.reduceEqDiff,Nat.reduceAdd,Nat.reduceMul,Nat.reduceLeDiff,Nat.reduceLT,Nat.reduceSub,reduceCtorEq,zGr, f0, f1, f5, g0] | ((with_reducible refine rows_intro (fun _ hb => ?_)); try simp only [set_none, ne_eq] at hb) | ((with_reducible refine new_intro (fun _ hb => ?_)); try simp only [set_none, ne_eq] at hb) | (with_reducible refine draw_same ?_) | ((with_reducible refine gd_split ?_ (fun _ => ?_) (fun _ => ?_)); exact rfl) | ((with_reducible refine td_split ?_ (fun _ => ?_) (fun _ => ?_)); exact rfl) | (with_reducible refine c_split (fun _ => ?_) (fun _ => ?_)))
      refine ret_same (h _ (.inr ⟨b, cap, rfl, hb, hc, hm, by rw [ints_len, marks_len], ?_⟩))
      have : cs = ints (marks k (i * 5)) := by
        apply List.ext_getElem?
        intro j
        by_cases hj : j < i * 5
        · rw [hcv j hj, marks_val k _ j hj]
        · rw [List.getElem?_eq_none (by omega), List.getElem?_eq_none (by rw [ints_len, marks_len]; omega)]
      rw [this]
theorem heldQuadS_ok (A : Option Addr) (n c : Nat) (k : Int) (hx : Fl H A (ints (marks k (n * 5)))) (hn : n ≤ 4294967296) (h0 : 0 ≤ k) (h1 : k ≤ 4294967296) (h : K (.int .i64 (k + 5 * n)) H) :
    ACalls Try.prog w0 22 [.slice A n c, .int .i64 k] H K := by
  refine acalls_of_sx mix Try.func22 of22 (by simp [ir22]) ?_; rw [ir22]; (try delta qT qI qC qO qM qG)
  repeat' (first | simp -implicitDefEqProofs only [zG1,zG2,zG3,zG4,zG5,zG6,zG7,eq_self,resV,rval,X.val,binv,fillL,setR,↓reduceIte,Nat.reduceEqDiff,Nat.reduceAdd,Nat.reduceMul,Nat.reduceLeDiff,Nat.reduceLT,Nat.reduceSub,reduceCtorEq,zGr] | ((with_reducible refine rows_intro (fun _ hb => ?_)); try simp only [set_none, ne_eq] at hb) | ((with_reducible refine new_intro (fun _ hb => ?_)); try simp only [set_none, ne_eq] at hb) | (with_reducible refine draw_same ?_) | ((with_reducible refine gd_split ?_ (fun _ => ?_) (fun _ => ?_)); exact rfl) | ((with_reducible refine td_split ?_ (fun _ => ?_) (fun _ => ?_)); exact rfl) | (with_reducible refine c_split (fun _ => ?_) (fun _ => ?_)))
  have hA : ∀ i, i < n → A.isSome = true := fun i hi => hx.is (i := i * 5) (by rw [ints_len, marks_len]; omega)
  have hg : ∀ i, i < n → ∀ j : Nat, j < 5 → H.cell (adr A (i * 5 + j)) = some (.int .i64 (k + 5 * i + j)) := by
    intro i hi j hj
    rw [hx _ _ (marks_val k (n * 5) (i * 5 + j) (by omega))]
    congr 2; omega
  have hcl : ∀ i, i < n → H.cell (adr A (i * 5)) = some (.int .i64 (k + 5 * i)) ∧ H.cell (adr A (i * 5 + 1)) = some (.int .i64 (k + 5 * i + 1)) ∧ H.cell (adr A (i * 5 + 2)) = some (.int .i64 (k + 5 * i + 1 + 1)) ∧ H.cell (adr A (i * 5 + 3)) = some (.int .i64 (k + 5 * i + 1 + 1 + 1)) ∧ H.cell (adr A (i * 5 + 4)) = some (.int .i64 (k + 5 * i + 1 + 1 + 1 + 1)) := by
    intro i hi
    refine ⟨by simpa using hg i hi 0 (by omega), by simpa using hg i hi 1 (by omega), ?_, ?_, ?_⟩
    · rw [hg i hi 2 (by omega)]; congr 2; omega
    · rw [hg i hi 3 (by omega)]; congr 2; omega
    · rw [hg i hi 4 (by omega)]; congr 2; omega
  refine loop_rule (fun m fr H' => ∃ i : Nat, m = n - i ∧ i ≤ n ∧ H' = H ∧ fr 0 = .slice A n c ∧ fr 1 = .int .i64 (k + 5 * i) ∧ fr 5 = .int .i64 i) n
    ⟨0, rfl, Nat.zero_le _, rfl, rfl, by simp [fr0, put_at], rfl⟩ ?_
  rintro m fr _ ⟨i, rfl, hi, rfl, f0, f1, f5⟩
  by_cases hlt : i < n
  · have g0 := lt_dec hlt
    have g1 := rng hlt
    have g3 := up1 hlt (by omega)
    have w1 : IntKind.i64.wrap (k + 5 * (i : Int) + 1) = k + 5 * i + 1 := wrap_i64 (by omega) (by omega)
    have w2 : IntKind.i64.wrap (k + 5 * (i : Int) + 1 + 1) = k + 5 * i + 1 + 1 := wrap_i64 (by omega) (by omega)
    have w3 : IntKind.i64.wrap (k + 5 * (i : Int) + 1 + 1 + 1) = k + 5 * i + 1 + 1 + 1 := wrap_i64 (by omega) (by omega)
    have w4 : IntKind.i64.wrap (k + 5 * (i : Int) + 1 + 1 + 1 + 1) = k + 5 * i + 1 + 1 + 1 + 1 := wrap_i64 (by omega) (by omega)
    have w5 : IntKind.i64.wrap (k + 5 * (i : Int) + 1 + 1 + 1 + 1 + 1) = k + 5 * i + 1 + 1 + 1 + 1 + 1 := wrap_i64 (by omega) (by omega)
    have hA' := hA i hlt
    have hc' := hcl i hlt
    repeat' (first | simp -implicitDefEqProofs only [zG1,zG2,zG3,zG4,zG5,zG6,zG7,eq_self,resV,rval,X.val,binv,fillL,setR,↓reduceIte,Nat.reduceEqDiff,Nat.reduceAdd,Nat.reduceMul,Nat.reduceLeDiff,Nat.reduceLT,Nat.reduceSub,reduceCtorEq,zGr, f0, f1, f5, g0, g1, g3, hA', hc', w1, w2, w3, w4, w5, Nat.add_zero] | ((with_reducible refine rows_intro (fun _ hb => ?_)); try simp only [set_none, ne_eq] at hb) | ((with_reducible refine new_intro (fun _ hb => ?_)); try simp only [set_none, ne_eq] at hb) | (with_reducible refine draw_same ?_) | ((with_reducible refine gd_split ?_ (fun _ => ?_) (fun _ => ?_)); exact rfl) | ((with_reducible refine td_split ?_ (fun _ => ?_) (fun _ => ?_)); exact rfl) | (with_reducible refine c_split (fun _ => ?_) (fun _ => ?_)))
    refine ⟨_, _, ?_, AHeap.le.refl _, i + 1, rfl, by omega, rfl, by simp [put_at, f0], ?_, by simp [put_at]⟩
    · omega
    · simp only [put_at]
      simp
      omega
  · have g0 := ge_dec hlt
    obtain rfl : i = n := by omega
    repeat' (first | simp -implicitDefEqProofs only [zG1,zG2,zG3,zG4,zG5,zG6,zG7,eq_self,resV,rval,X.val,binv,fillL,setR,↓reduceIte,Nat.reduceEqDiff,Nat.reduceAdd,Nat.reduceMul,Nat.reduceLeDiff,Nat.reduceLT,Nat.reduceSub,reduceCtorEq,zGr, f0, f1, f5, g0] | ((with_reducible refine rows_intro (fun _ hb => ?_)); try simp only [set_none, ne_eq] at hb) | ((with_reducible refine new_intro (fun _ hb => ?_)); try simp only [set_none, ne_eq] at hb) | (with_reducible refine draw_same ?_) | ((with_reducible refine gd_split ?_ (fun _ => ?_) (fun _ => ?_)); exact rfl) | ((with_reducible refine td_split ?_ (fun _ => ?_) (fun _ => ?_)); exact rfl) | (with_reducible refine c_split (fun _ => ?_) (fun _ => ?_)))
    exact ret_same h
end Go.Proofs.Ytfjhjfddgdokgaa
namespace Go.Proofs.Ytfjhjfddgdokgaa
set_option linter.all false
open Go Go.RowKit
set_option maxRecDepth 100000
variable (w0 : World) (C : AHeap) (K : Value → AHeap → Prop)
theorem markQuadS_rw {t : TypeId} {v : Value} {n : Nat} {xs : List Value} {bs : List Nat} (hr : Rw C t 5 v n xs bs) (hn : n ≤ 4294967296) (k : Int) (h0 : 0 ≤ k) (h1 : k ≤ 4294967296)
    (h : ∀ C', Chg C C' bs → Rw C' t 5 v n (ints (marks k (n * 5))) bs → K (.int .i64 (k + 5 * n)) C') : ACalls Try.prog w0 21 [v, .int .i64 k] C K := by
  obtain ⟨A, B, lB, oB, hA⟩ := hr.own_
  refine ACalls.mono (markQuadS_ok _ _ _ _ _ _ _ _ k oB hn h0 h1 (fun C' o => ?_)) lB
  obtain ⟨h1, h2⟩ := Rw.put oB hA hr rfl o
  exact h C' h1 h2
end Go.Proofs.Ytfjhjfddgdokgaa
namespace Go.Proofs.Ytfjhjfddgdokgaa
set_option linter.all false
open Go Go.RowKit Go.Joins Go.ChangeShapes Go.WideShapes Go.ChangeAt Go.Deep
set_option linter.unusedVariables false
set_option maxRecDepth 100000
theorem lawCompileTask_ok (w0 : World) (H : AHeap) (K : Value → AHeap → Prop) (A : Option Addr) (c : Nat) (ss : List St) (hR : StR H ss A 0) (hm : ss.length ≤ maxLen) (h : ∀ H', K (.bool true) H') :
    ACalls Try.prog w0 4 [.slice A ss.length c] H K := by
  have hcz := cntL_szT ss
  by_cases hbig : (1048576 : Int) < szT ss
  · have d1 : decide ((-1 : Int) < 0) = true := by decide
    refine acalls_of_sx mix Try.func4 of4 (by simp [ir4]) ?_; rw [ir4]; (try delta qT qI qC qO qM qG)
    repeat' (first | simp -implicitDefEqProofs only [zG1,zG2,zG3,zG4,zG5,zG6,zG7,eq_self,resV,rval,X.val,binv,fillL,setR,↓reduceIte,Nat.reduceEqDiff,Nat.reduceAdd,Nat.reduceMul,Nat.reduceLeDiff,Nat.reduceLT,Nat.reduceSub,reduceCtorEq,zGq, hbig, d1] | ((with_reducible refine rows_intro (fun _ hb => ?_)); try simp only [set_none, ne_eq] at hb) | ((with_reducible refine new_intro (fun _ hb => ?_)); try simp only [set_none, ne_eq] at hb) | (with_reducible refine draw_same ?_) | ((with_reducible refine gd_split ?_ (fun _ => ?_) (fun _ => ?_)); exact rfl) | ((with_reducible refine td_split ?_ (fun _ => ?_) (fun _ => ?_)); exact rfl) | (with_reducible refine c_split (fun _ => ?_) (fun _ => ?_)) | (with_reducible refine szStmtS_ok w0 ss A c 1048576 _ _ hR hm (by decide) (by decide) ?_))
    exact ret_same (h _)
  · have d1 : decide ((1048576 : Int) - szT ss < 0) = false := by simp; omega
    have hle := compileTask_le ss
    generalize hL : compileTask ss = L at hle
    generalize hB : stsOk ss = bo
    refine acalls_of_sx mix Try.func4 of4 (by simp [ir4]) ?_; rw [ir4]; (try delta qT qI qC qO qM qG)
    repeat' (first | simp -implicitDefEqProofs only [zG1,zG2,zG3,zG4,zG5,zG6,zG7,eq_self,resV,rval,X.val,binv,fillL,setR,↓reduceIte,Nat.reduceEqDiff,Nat.reduceAdd,Nat.reduceMul,Nat.reduceLeDiff,Nat.reduceLT,Nat.reduceSub,reduceCtorEq,zGq, hbig, d1] | ((with_reducible refine rows_intro (fun _ hb => ?_)); try simp only [set_none, ne_eq] at hb) | ((with_reducible refine new_intro (fun _ hb => ?_)); try simp only [set_none, ne_eq] at hb) | (with_reducible refine draw_same ?_) | ((with_reducible refine gd_split ?_ (fun _ => ?_) (fun _ => ?_)); exact rfl) | ((with_reducible refine td_split ?_ (fun _ => ?_) (fun _ => ?_)); exact rfl) | (with_reducible refine c_split (fun _ => ?_) (fun _ => ?_)) | (with_reducible refine szStmtS_ok w0 ss A c 1048576 _ _ hR hm (by decide) (by decide) ?_))
    refine toStmtS_ok w0 ss A c _ _ hR (by omega) (fun b1 C1 l1 t1 => ?_)
    repeat' (first | simp -implicitDefEqProofs only [zG1,zG2,zG3,zG4,zG5,zG6,zG7,eq_self,resV,rval,X.val,binv,fillL,setR,↓reduceIte,Nat.reduceEqDiff,Nat.reduceAdd,Nat.reduceMul,Nat.reduceLeDiff,Nat.reduceLT,Nat.reduceSub,reduceCtorEq,zGq] | ((with_reducible refine rows_intro (fun _ hb => ?_)); try simp only [set_none, ne_eq] at hb) | ((with_reducible refine new_intro (fun _ hb => ?_)); try simp only [set_none, ne_eq] at hb) | (with_reducible refine draw_same ?_) | ((with_reducible refine gd_split ?_ (fun _ => ?_) (fun _ => ?_)); exact rfl) | ((with_reducible refine td_split ?_ (fun _ => ?_) (fun _ => ?_)); exact rfl) | (with_reducible refine c_split (fun _ => ?_) (fun _ => ?_)))
    refine compileTaskS_ok _ ss _ _ C1 _ (by omega) (StR.le (off_le _ _) t1.1) (fun v2 C2 r2 => ?_)
    rw [hB]
    rw [hL] at r2
    obtain ⟨bs2, l2, n2, w2⟩ := r2
    have L2 := l1.trans l2
    obtain ⟨A2, e2, rfl, f2⟩ := w2.fl
    repeat' (first | simp -implicitDefEqProofs only [zG1,zG2,zG3,zG4,zG5,zG6,zG7,eq_self,resV,rval,X.val,binv,fillL,setR,↓reduceIte,Nat.reduceEqDiff,Nat.reduceAdd,Nat.reduceMul,Nat.reduceLeDiff,Nat.reduceLT,Nat.reduceSub,reduceCtorEq,zGq] | ((with_reducible refine rows_intro (fun _ hb => ?_)); try simp only [set_none, ne_eq] at hb) | ((with_reducible refine new_intro (fun _ hb => ?_)); try simp only [set_none, ne_eq] at hb) | (with_reducible refine draw_same ?_) | ((with_reducible refine gd_split ?_ (fun _ => ?_) (fun _ => ?_)); exact rfl) | ((with_reducible refine td_split ?_ (fun _ => ?_) (fun _ => ?_)); exact rfl) | (with_reducible refine c_split (fun _ => ?_) (fun _ => ?_)))
    refine toStmtS_ok w0 ss A c _ _ (StR.le L2 hR) (by omega) (fun b3 C3 l3 t3 => ?_)
    have L3 := L2.trans l3
    repeat' (first | simp -implicitDefEqProofs only [zG1,zG2,zG3,zG4,zG5,zG6,zG7,eq_self,resV,rval,X.val,binv,fillL,setR,↓reduceIte,Nat.reduceEqDiff,Nat.reduceAdd,Nat.reduceMul,Nat.reduceLeDiff,Nat.reduceLT,Nat.reduceSub,reduceCtorEq,zGq] | ((with_reducible refine rows_intro (fun _ hb => ?_)); try simp only [set_none, ne_eq] at hb) | ((with_reducible refine new_intro (fun _ hb => ?_)); try simp only [set_none, ne_eq] at hb) | (with_reducible refine draw_same ?_) | ((with_reducible refine gd_split ?_ (fun _ => ?_) (fun _ => ?_)); exact rfl) | ((with_reducible refine td_split ?_ (fun _ => ?_) (fun _ => ?_)); exact rfl) | (with_reducible refine c_split (fun _ => ?_) (fun _ => ?_)))
    refine compileTask_ok _ ss _ _ C3 _ (by omega) (StR.le (off_le _ _) t3.1) (fun v4 C4 r4 => ?_)
    rw [hB]
    rw [hL] at r4
    obtain ⟨bs4, l4, n4, w4⟩ := r4
    have L4 := L3.trans l4
    obtain ⟨A4, e4, rfl, f4⟩ := w4.fl
    repeat' (first | simp -implicitDefEqProofs only [zG1,zG2,zG3,zG4,zG5,zG6,zG7,eq_self,resV,rval,X.val,binv,fillL,setR,↓reduceIte,Nat.reduceEqDiff,Nat.reduceAdd,Nat.reduceMul,Nat.reduceLeDiff,Nat.reduceLT,Nat.reduceSub,reduceCtorEq,zGq, decide_true, bne_self_eq_false] | ((with_reducible refine rows_intro (fun _ hb => ?_)); try simp only [set_none, ne_eq] at hb) | ((with_reducible refine new_intro (fun _ hb => ?_)); try simp only [set_none, ne_eq] at hb) | (with_reducible refine draw_same ?_) | ((with_reducible refine gd_split ?_ (fun _ => ?_) (fun _ => ?_)); exact rfl) | ((with_reducible refine td_split ?_ (fun _ => ?_) (fun _ => ?_)); exact rfl) | (with_reducible refine c_split (fun _ => ?_) (fun _ => ?_)) | (with_reducible refine eqQuadS_ok _ _ _ _ _ _ _ _ _ f4 (f2.le (l3.trans l4)) (by omega) ?_))
    refine toStmtS_ok w0 ss A c _ _ (StR.le L4 hR) (by omega) (fun b5 C5 l5 t5 => ?_)
    have L5 := L4.trans l5
    have w45 := w4.trans l5
    have w25 := w2.trans (l3.trans (l4.trans l5))
    repeat' (first | simp -implicitDefEqProofs only [zG1,zG2,zG3,zG4,zG5,zG6,zG7,eq_self,resV,rval,X.val,binv,fillL,setR,↓reduceIte,Nat.reduceEqDiff,Nat.reduceAdd,Nat.reduceMul,Nat.reduceLeDiff,Nat.reduceLT,Nat.reduceSub,reduceCtorEq,zGq, decide_true] | ((with_reducible refine rows_intro (fun _ hb => ?_)); try simp only [set_none, ne_eq] at hb) | ((with_reducible refine new_intro (fun _ hb => ?_)); try simp only [set_none, ne_eq] at hb) | (with_reducible refine draw_same ?_) | ((with_reducible refine gd_split ?_ (fun _ => ?_) (fun _ => ?_)); exact rfl) | ((with_reducible refine td_split ?_ (fun _ => ?_) (fun _ => ?_)); exact rfl) | (with_reducible refine c_split (fun _ => ?_) (fun _ => ?_)) | (with_reducible refine eqStmtS_ok w0 ss _ _ _ _ _ _ (StR.le ((off_le _ _).trans (l4.trans l5)) t3.1) (StR.le (off_le _ _) t5.1) (by omega) ?_))
    refine markStmtS_ok w0 ss b3 _ 1 (fun x => C3.off C2 x ≠ none) C5 _ (ShR.le ((off_le _ _).trans (l4.trans l5)) (fun _ h => h) (ShR.self t3.2)) (by decide) (by omega) (fun m6 C6 mk6 hm61 hm62 => ?_)
    have d5 : decide (m6 < 0) = false := by simp; omega
    have L6 := mk6.le L5 fun x hx => L2.none (off_ne hx).1
    have w46 := w45.mkl mk6 fun y hy hb => (off_ne hb).2 (n4 y hy)
    have w26 := w25.mkl mk6 fun y hy hb => rw_known' w2 y hy (off_ne hb).1
    repeat' (first | simp -implicitDefEqProofs only [zG1,zG2,zG3,zG4,zG5,zG6,zG7,eq_self,resV,rval,X.val,binv,fillL,setR,↓reduceIte,Nat.reduceEqDiff,Nat.reduceAdd,Nat.reduceMul,Nat.reduceLeDiff,Nat.reduceLT,Nat.reduceSub,reduceCtorEq,zGq, d5, decide_true, bne_self_eq_false] | ((with_reducible refine rows_intro (fun _ hb => ?_)); try simp only [set_none, ne_eq] at hb) | ((with_reducible refine new_intro (fun _ hb => ?_)); try simp only [set_none, ne_eq] at hb) | (with_reducible refine draw_same ?_) | ((with_reducible refine gd_split ?_ (fun _ => ?_) (fun _ => ?_)); exact rfl) | ((with_reducible refine td_split ?_ (fun _ => ?_) (fun _ => ?_)); exact rfl) | (with_reducible refine c_split (fun _ => ?_) (fun _ => ?_)) | (with_reducible refine eqQuadS_ok _ _ _ _ _ _ _ _ _ w46.fl'.1 w26.fl'.1 (by omega) ?_))
    refine markQuadS_rw _ _ _ w46 (by omega) 1 (by decide) (by decide) (fun C7 h7 w7 => ?_)
    have d6 : decide ((1 : Int) + 5 * (L.length : Int) < 0) = false := by simp; omega
    have L7 := h7.keep L6 (n4.le L3)
    have w27 := w26.chg h7 ((n4.le l3).off (C' := C2) w2)
    repeat' (first | simp -implicitDefEqProofs only [zG1,zG2,zG3,zG4,zG5,zG6,zG7,eq_self,resV,rval,X.val,binv,fillL,setR,↓reduceIte,Nat.reduceEqDiff,Nat.reduceAdd,Nat.reduceMul,Nat.reduceLeDiff,Nat.reduceLT,Nat.reduceSub,reduceCtorEq,zGq, d6, bne_self_eq_false] | ((with_reducible refine rows_intro (fun _ hb => ?_)); try simp only [set_none, ne_eq] at hb) | ((with_reducible refine new_intro (fun _ hb => ?_)); try simp only [set_none, ne_eq] at hb) | (with_reducible refine draw_same ?_) | ((with_reducible refine gd_split ?_ (fun _ => ?_) (fun _ => ?_)); exact rfl) | ((with_reducible refine td_split ?_ (fun _ => ?_) (fun _ => ?_)); exact rfl) | (with_reducible refine c_split (fun _ => ?_) (fun _ => ?_)) | (with_reducible refine heldQuadS_ok _ _ _ _ _ _ 1 w7.fl'.1 (by omega) (by decide) (by decide) ?_))
    refine toStmtS_ok w0 ss A c _ _ (StR.le L7 hR) (by omega) (fun b8 C8 l8 t8 => ?_)
    repeat' (first | simp -implicitDefEqProofs only [zG1,zG2,zG3,zG4,zG5,zG6,zG7,eq_self,resV,rval,X.val,binv,fillL,setR,↓reduceIte,Nat.reduceEqDiff,Nat.reduceAdd,Nat.reduceMul,Nat.reduceLeDiff,Nat.reduceLT,Nat.reduceSub,reduceCtorEq,zGq] | ((with_reducible refine rows_intro (fun _ hb => ?_)); try simp only [set_none, ne_eq] at hb) | ((with_reducible refine new_intro (fun _ hb => ?_)); try simp only [set_none, ne_eq] at hb) | (with_reducible refine draw_same ?_) | ((with_reducible refine gd_split ?_ (fun _ => ?_) (fun _ => ?_)); exact rfl) | ((with_reducible refine td_split ?_ (fun _ => ?_) (fun _ => ?_)); exact rfl) | (with_reducible refine c_split (fun _ => ?_) (fun _ => ?_)))
    refine compileTask_ok _ ss _ _ C8 _ (by omega) (StR.le (off_le _ _) t8.1) (fun v9 C9 r9 => ?_)
    rw [hB]
    rw [hL] at r9
    have l9 := r9.hle
    obtain ⟨A9, e9, rfl, f9⟩ := r9.fl
    have w29 := w27.trans (l8.trans l9)
    have w79 := w7.trans (l8.trans l9)
    repeat' (first | simp -implicitDefEqProofs only [zG1,zG2,zG3,zG4,zG5,zG6,zG7,eq_self,resV,rval,X.val,binv,fillL,setR,↓reduceIte,Nat.reduceEqDiff,Nat.reduceAdd,Nat.reduceMul,Nat.reduceLeDiff,Nat.reduceLT,Nat.reduceSub,reduceCtorEq,zGq, d6, decide_true, bne_self_eq_false] | ((with_reducible refine rows_intro (fun _ hb => ?_)); try simp only [set_none, ne_eq] at hb) | ((with_reducible refine new_intro (fun _ hb => ?_)); try simp only [set_none, ne_eq] at hb) | (with_reducible refine draw_same ?_) | ((with_reducible refine gd_split ?_ (fun _ => ?_) (fun _ => ?_)); exact rfl) | ((with_reducible refine td_split ?_ (fun _ => ?_) (fun _ => ?_)); exact rfl) | (with_reducible refine c_split (fun _ => ?_) (fun _ => ?_)) | (with_reducible refine eqQuadS_ok _ _ _ _ _ _ _ _ _ f9 w29.fl'.1 (by omega) ?_) | (with_reducible refine heldQuadS_ok _ _ _ _ _ _ 1 w79.fl'.1 (by omega) (by decide) (by decide) ?_))
    exact ret_same (h _)
namespace fnExactCompileTask
theorem lifted (os : Os) (started : os.Started) (H : Type) (enc : TypeId × Value → H) :
    ReturnsInHanded {} Try.checked os 4 .any (Rows.fnExactCompileTaskSpec.pre6 enc Try.prog Try.f4 Rows.fnExactCompileTaskRow.domain false) (Rows.fnExactCompileTaskSpec.post enc Try.prog Try.f4 false true false false) := by
  refine returnsInHanded_of_change_sized (C := Try.checked) own started (by kernel_rfl) Try.func4
    (ChangeSpec.witness6 (enc := enc) (C := Try.checked) false ⟨#[], #[.slice none 0 0], []⟩ 8 (by kernel_rfl) (by kernel_rfl) (by kernel_rfl) (by kernel_rfl)) ?_
  intro W base args ds gs before hval0 hW hcnd hsz0 _
  have hval : ∀ (j : Nat) t v, Try.f4.params[j]? = some t → args[j]? = some v → Value.okWide Try.prog W .any base t v := hval0
  have hW' := hW
  obtain ⟨p, q, hA0, hV, rfl, hfz, hnd⟩ := hW
  have hA : DataW.TrodAll enc Try.prog W 0 (fun _ => true) true Try.f4.params.toList args.toList ds p := hA0
  rw [Try.params4] at hA hval
  obtain ⟨v0, vs0, d0, ds0, p0, q0, hargs, rfl, rfl, h0, r0⟩ := trodAll_cons hA
  obtain ⟨rfl, rfl, rfl⟩ := trodAll_nil r0
  obtain rfl : args = #[v0] := by cases args; simp_all
  obtain ⟨rfl, rfl⟩ := trodVars_none hV
  have k0 := h0
  have lt0 : ∀ x ∈ p0, x.block < W.heap.size := by obtain ⟨m, hm⟩ := k0; exact DataW.trod_lt m _ _ _ hm
  obtain ⟨a0, len0, cap0, rfl⟩ := okWide_slice Try.underlying22 (hval 0 22 v0 rfl rfl)
  obtain ⟨ss0, hl0, hm0, f0⟩ : ∃ ss : List St, len0 = ss.length ∧ ss.length ≤ maxLen ∧ StR (heapOf W) ss a0 0 := by
    obtain ⟨fuel, hf⟩ := h0
    obtain ⟨ss, A, c, e, h1, h2⟩ := open_stmts Try.underlying22 (by kernel_rfl) (open_stmt Try.underlying99 Try.underlying22 Try.underlying3 ⟨rfl, rfl, rfl, rfl, rfl, rfl⟩ ⟨rfl, rfl, rfl, rfl, rfl, rfl⟩ (by kernel_rfl) (by kernel_rfl) (by kernel_rfl) (by kernel_rfl) (open_expr Try.underlying97 Try.underlying95 Try.underlying3 ⟨rfl, rfl, rfl⟩ ⟨rfl, rfl, rfl⟩ (by kernel_rfl) (by kernel_rfl) (by kernel_rfl))) hf
    simp only [Value.slice.injEq] at e
    obtain ⟨rfl, rfl, rfl⟩ := e
    exact ⟨ss, rfl, h1, h2⟩
  subst hl0
  refine (calls_true (lawCompileTask_ok W (heapOf W) _ a0 cap0 ss0 f0 hm0 (fun _ => rfl)) (sat_heap W)).mono fun e W' ⟨he, bel⟩ => ?_
  subst he
  exact ⟨_, rfl, _, _, _, [], _, [], hW', trodAll_mk1 (shut_bool Try.underlying4 _), (trodAll_cons_mk (Below.trod laidOut (by kernel_rfl) (of_decide_eq_true (by kernel_rfl)) k0 bel lt0) trodAll_mk0), rfl, bel.frame _, fun h => by cases h⟩
theorem over : Rows.fnExactCompileTaskRow.holds Try.pinned (OpenSpec.ofChange Rows.fnExactCompileTaskSpec) :=
  OpenClaim.holds_of_wide 4 Try.f4 rfl rfl rfl rfl rfl rfl rfl ⟨rfl, rfl, rfl, rfl, rfl⟩ rfl rfl rfl rfl rfl (by kernel_rfl) Try.func4 (by kernel_rfl)
    (of_decide_eq_true (by kernel_rfl)) (by unfold Func.isWrapper; first | (rw [if_pos (by decide +kernel)]; kernel_rfl) | (rw [if_neg (by decide +kernel)]; exact ⟨rfl, rfl⟩))
    (fun os started H enc _ => lifted os started H enc)
end fnExactCompileTask
theorem fnExactCompileTask_holds : Rows.FnExactCompileTaskSaid := fnExactCompileTask.over
#print axioms fnExactCompileTask_holds
end Go.Proofs.Ytfjhjfddgdokgaa
