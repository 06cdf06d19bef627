/- '==' of arrays of whole numbers, and of arrays of structs of whole numbers; reading many cells at once. -/
import Derived.Test.YtfjhjfddgdokgaaSxEq
import Derived.Test.YtfjhjfddgdokgaaSxNest
import Derived.ChangeKeysEq
namespace Go.Proofs.Ytfjhjfddgdokgaa
set_option linter.all false
open Go Go.RowKit
/-- An array of n whole numbers. -/
def arrInts (P : Program) (t : TypeId) (n : Nat) : Bool := match P.underlying t with
  | some (.array m e) => m == n && (match P.underlying e with | some (.int _) => true | _ => false) && P.cellsOf e == 1 && (P.info? e).isSome && !P.eqGuardType P.depth t
  | _ => false
/-- An array of n structs of m whole numbers each. -/
def arrStructs (P : Program) (t : TypeId) (n m : Nat) : Bool := match P.underlying t with
  | some (.array l e) => l == n && flatInts P e m && P.cellsOf e == m && (P.info? e).isSome && (sizeB P e == some m) && !P.eqGuardType P.depth t
  | _ => false
section
variable {P : Program} {w : World}
theorem eqItems_ints {d : Nat} {e : TypeId} {k : IntKind} (he : P.underlying e = some (.int k)) {xs ys : List Value} : ∀ (is : List Nat), (∀ i ∈ is, ∃ k a b, xs[i]? = some (.int k a) ∧ ys[i]? = some (.int k b)) →
    (Op.eqItems (d + 1) e 1 xs.toArray ys.toArray is).run P w = .ok (is.all fun i => intAt xs i == intAt ys i) w
  | [], _ => by simp [Op.eqItems]
  | i :: is, h => by
    obtain ⟨k', a, b, ha, hb⟩ := h i (by simp)
    have ih := eqItems_ints (d := d) he is (fun g hg => h g (by simp [hg]))
    have pa : (part e xs.toArray (i * 1)).run P w = .ok (.int k' a) w := part_int he (by simpa using ha)
    have pb : (part e ys.toArray (i * 1)).run P w = .ok (.int k' b) w := part_int he (by simpa using hb)
    have hq := run_equalIn_int (P := P) w d e k' k a b he
    simp only [Op.eqItems, Sem.run_bind, pa, pb, hq, Result.andThen_ok]
    have e' : (intAt xs i == intAt ys i) = (a == b) := by simp only [intAt, ha, hb]
    simp only [List.all_cons, e']
    cases hab : (a == b)
    · simp
    · simpa using ih
theorem eqs_arrInts {t : TypeId} {n : Nat} (hf : arrInts P t n = true) {xs ys : List Value} (h : ∀ i, i < n → ∃ k a b, xs[i]? = some (.int k a) ∧ ys[i]? = some (.int k b)) :
    EqRun P t (.agg xs.toArray) (.agg ys.toArray) ((List.range n).all fun i => intAt xs i == intAt ys i) := by
  unfold arrInts at hf
  split at hf
  · rename_i m e hu
    simp only [Bool.and_eq_true, beq_iff_eq, Bool.not_eq_true'] at hf
    obtain ⟨⟨⟨⟨rfl, hk⟩, hc⟩, hi⟩, hg⟩ := hf
    split at hk
    · rename_i k he
      obtain ⟨i, hi⟩ := Option.isSome_iff_exists.1 hi
      refine ⟨⟨_, rfl⟩, ⟨_, rfl⟩, hg, fun w => ?_⟩
      have hr := run_equalIn_array (P := P) w 9999 xs.toArray ys.toArray hu hi
      show (Op.equalIn (9999 + 1) t _ _).run P w = _
      rw [hr, hc]
      exact eqItems_ints he _ fun i hi => h i (List.mem_range.1 hi)
    · cases hk
  · cases hf
theorem arr_eq {n : Nat} {xs ys : List Int} (hx : xs.length = n) (hy : ys.length = n) : ((List.range n).all fun i => intAt (ints xs) i == intAt (ints ys) i) = decide (xs = ys) := by
  rw [Bool.eq_iff_iff]
  simp only [List.all_eq_true, List.mem_range, beq_iff_eq, decide_eq_true_eq]
  constructor
  · intro h
    apply List.ext_getElem?
    intro i
    by_cases hi : i < n
    · have h1 := h i hi
      simp only [intAt, ints_at (show i < xs.length by omega), ints_at (show i < ys.length by omega)] at h1
      rw [List.getElem?_eq_getElem (by omega), List.getElem?_eq_getElem (by omega), h1]
    · rw [List.getElem?_eq_none (by omega), List.getElem?_eq_none (by omega)]
  · rintro rfl i _; rfl
theorem eqsK_arr {ng : Bool} {t : TypeId} {n : Nat} (hf : arrInts P t n = true) {xs ys : List Int} (hx : xs.length = n) (hy : ys.length = n) {D : Value → Prop} (hD : D (.bool (ng != decide (xs = ys)))) :
    eqsK P ng t (.agg (ints xs).toArray) (.agg (ints ys).toArray) D := by
  refine ⟨_, eqs_arrInts hf (fun i hi => ⟨.i64, _, _, ints_at (show i < xs.length by omega), ints_at (show i < ys.length by omega)⟩), ?_⟩
  rw [arr_eq hx hy]; exact hD
/-- The struct at a place of a row of structs. -/
theorem eqItems_structs {d m : Nat} {e : TypeId} (he : flatInts P e m = true) (hz : sizeB P e = some m) {xs ys : List Value} : ∀ (is : List Nat), (∀ i ∈ is, ∀ j, j < m → ∃ k a b, xs[i * m + j]? = some (.int k a) ∧ ys[i * m + j]? = some (.int k b)) →
    (Op.eqItems (d + 1 + 1) e m xs.toArray ys.toArray is).run P w = .ok (is.all fun i => (List.range m).all fun j => intAt xs (i * m + j) == intAt ys (i * m + j)) w
  | [], _ => by simp [Op.eqItems]
  | i :: is, h => by
    have ih := eqItems_structs (d := d) he hz is (fun g hg => h g (by simp [hg]))
    have hi := h i (by simp)
    have hagg : aggB P e = some true := by
      unfold flatInts at he
      split at he
      · rename_i fs hu; simp [aggB, hu]
      · cases he
    have pa : ∀ zs : List Value, (part e zs.toArray (i * m)).run P w = .ok (.agg ((zs.drop (i * m)).take m).toArray) w := by
      intro zs
      simp only [part, Sem.run_bind, run_isAgg hagg, Result.andThen_ok, if_true, run_size hz, Sem.run_pure]
      congr 2
      apply Array.ext_getElem?
      intro j
      simp only [Array.getElem?_extract, List.size_toArray, List.getElem?_toArray, List.getElem?_take, List.getElem?_drop]
      by_cases hj : j < m
      · rw [if_pos hj]
        split
        · rfl
        · rw [List.getElem?_eq_none (by omega)]
      · rw [if_neg hj, if_neg (by omega)]
    have hq : (Op.equalIn (d + 1 + 1) e (.agg ((xs.drop (i * m)).take m).toArray) (.agg ((ys.drop (i * m)).take m).toArray)).run P w = .ok ((List.range m).all fun j => intAt xs (i * m + j) == intAt ys (i * m + j)) w := by
      have gx : ∀ (zs : List Value) (j : Nat), j < m → ((zs.drop (i * m)).take m)[j]? = zs[i * m + j]? := fun zs j hj => by rw [List.getElem?_take, if_pos hj, List.getElem?_drop]
      unfold flatInts at he
      split at he
      · rename_i fs hu
        simp only [Bool.and_eq_true, beq_iff_eq, Bool.not_eq_true', List.all_eq_true, bne_iff_ne] at he
        obtain ⟨⟨⟨h1, h2⟩, h3⟩, h4⟩ := he
        have hfl : P.fieldsOf e = fs := by simp [Program.fieldsOf, hu]
        have hr := run_equalIn_struct (P := P) w (d + 1) e ((xs.drop (i * m)).take m).toArray ((ys.drop (i * m)).take m).toArray (by rw [hfl]; exact hu) h3
        rw [hfl] at hr
        have hoff : ∀ f ∈ fs.toList, f.offset < m := by
          intro f hf
          have : f.offset ∈ fs.toList.map (·.offset) := List.mem_map.2 ⟨f, hf, rfl⟩
          rw [h1] at this; exact List.mem_range.1 this
        have hq := eqFields_ints (P := P) (w := w) (d := d) (xs := (xs.drop (i * m)).take m) (ys := (ys.drop (i * m)).take m) fs.toList (fun f hf => by
          have := h2 f hf
          refine ⟨this.1, ?_, ?_⟩
          · have h5 := this.2
            split at h5
            · rename_i k hk; exact ⟨k, hk⟩
            · cases h5
          · obtain ⟨k, a, b, ha, hb⟩ := hi f.offset (hoff f hf)
            exact ⟨k, a, b, by rw [gx _ _ (hoff f hf)]; exact ha, by rw [gx _ _ (hoff f hf)]; exact hb⟩)
        rw [hr, hq]
        congr 1
        have e1 : (fs.toList.all fun f => intAt ((xs.drop (i * m)).take m) f.offset == intAt ((ys.drop (i * m)).take m) f.offset) = ((fs.toList.map (·.offset)).all fun j => intAt xs (i * m + j) == intAt ys (i * m + j)) := by
          rw [List.all_map, Bool.eq_iff_iff]
          simp only [List.all_eq_true, Function.comp_apply]
          constructor
          · intro h f hf; have := h f hf; simpa only [intAt, gx _ _ (hoff f hf)] using this
          · intro h f hf; have := h f hf; simpa only [intAt, gx _ _ (hoff f hf)] using this
        rw [e1, h1]
      · cases he
    simp only [Op.eqItems, Sem.run_bind, pa, hq, Result.andThen_ok, List.all_cons]
    cases hab : ((List.range m).all fun j => intAt xs (i * m + j) == intAt ys (i * m + j))
    · simp
    · simpa using ih
theorem eqs_arrStructs {t : TypeId} {n m : Nat} (hf : arrStructs P t n m = true) {xs ys : List Value} (h : ∀ i, i < n → ∀ j, j < m → ∃ k a b, xs[i * m + j]? = some (.int k a) ∧ ys[i * m + j]? = some (.int k b)) :
    EqRun P t (.agg xs.toArray) (.agg ys.toArray) ((List.range n).all fun i => (List.range m).all fun j => intAt xs (i * m + j) == intAt ys (i * m + j)) := by
  unfold arrStructs at hf
  split at hf
  · rename_i l e hu
    simp only [Bool.and_eq_true, beq_iff_eq, Bool.not_eq_true'] at hf
    obtain ⟨⟨⟨⟨⟨rfl, hk⟩, hc⟩, hi⟩, hz⟩, hg⟩ := hf
    obtain ⟨i, hi⟩ := Option.isSome_iff_exists.1 hi
    refine ⟨⟨_, rfl⟩, ⟨_, rfl⟩, hg, fun w => ?_⟩
    have hr := run_equalIn_array (P := P) w 9999 xs.toArray ys.toArray hu hi
    show (Op.equalIn (9999 + 1) t _ _).run P w = _
    rw [hr, hc]
    exact eqItems_structs (d := 9997) hk hz _ fun i hi => h i (List.mem_range.1 hi)
  · cases hf
end
/-! Rows of things that have w cells each. -/
section
variable {α : Type} {f : α → List Value} {w : Nat}
theorem flat_len : ∀ {L : List α}, (∀ a ∈ L, (f a).length = w) → (L.flatMap f).length = L.length * w
  | [], _ => by simp
  | a :: L, h => by
    have := flat_len (L := L) fun b hb => h b (by simp [hb])
    rw [List.flatMap_cons, List.length_append, this, h a (by simp), List.length_cons, Nat.add_mul]; omega
theorem flat_at : ∀ {L : List α}, (∀ a ∈ L, (f a).length = w) → ∀ {i : Nat} (hi : i < L.length) (j : Nat), j < w → (L.flatMap f)[i * w + j]? = (f L[i])[j]?
  | [], _, i, hi, _, _ => by cases hi
  | a :: L, h, i, hi, j, hj => by
    rw [List.flatMap_cons, List.getElem?_append, h a (by simp)]
    cases i with
    | zero => rw [Nat.zero_mul, Nat.zero_add, if_pos hj]; rfl
    | succ i =>
      rw [if_neg (by rw [Nat.add_mul]; omega), show (i + 1) * w + j - w = i * w + j by rw [Nat.add_mul]; omega]
      exact flat_at (fun b hb => h b (by simp [hb])) (by simpa using hi) j hj
theorem flat_setR {L : List α} (h : ∀ a ∈ L, (f a).length = w) {i : Nat} (hi : i < L.length) {v : α} (hv : (f v).length = w) : setR (L.flatMap f) (i * w) (f v) = (L.set i v).flatMap f := by
  have hL : ∀ a ∈ L.set i v, (f a).length = w := fun a ha => (List.mem_or_eq_of_mem_set ha).elim (h a) fun e => e ▸ hv
  have hb : i * w + w ≤ L.length * w := by
    have := Nat.mul_le_mul_right w (show i + 1 ≤ L.length from hi)
    rwa [Nat.add_mul, Nat.one_mul] at this
  apply List.ext_getElem?
  intro j
  rw [getElem?_setR _ _ _ _ (by rw [hv, flat_len h]; exact hb), hv]
  by_cases hw : w = 0
  · subst hw
    rw [if_neg (by omega)]
    rw [List.getElem?_eq_none (by rw [flat_len h]; omega), List.getElem?_eq_none (by rw [flat_len hL]; omega)]
  by_cases hj : j < L.length * w
  · have hdm : j / w * w + j % w = j := by rw [Nat.mul_comm]; exact Nat.div_add_mod j w
    have hm : j % w < w := Nat.mod_lt _ (by omega)
    have hd : j / w < L.length := (Nat.div_lt_iff_lt_mul (by omega)).2 hj
    have e1 := flat_at hL (i := j / w) (by rw [List.length_set]; exact hd) (j % w) hm
    rw [hdm] at e1
    rw [e1, List.getElem_set]
    by_cases hji : i = j / w
    · rw [if_pos hji, if_pos (by rw [hji]; omega)]
      congr 1; rw [hji]; omega
    · rw [if_neg hji]
      have e2 := flat_at h (i := j / w) hd (j % w) hm
      rw [hdm] at e2
      rw [if_neg ?_, e2]
      intro hc
      exact hji ((Nat.div_eq_of_lt_le (by omega) (by rw [Nat.add_mul]; omega)).symm)
  · rw [if_neg (by omega), List.getElem?_eq_none (by rw [flat_len h]; omega), List.getElem?_eq_none (by rw [flat_len hL, List.length_set]; omega)]
end
/-! Many cells at once. -/
section
variable {H : AHeap} {b n : Nat} {k : Blk} {A : Option Addr}
theorem rdn_same (hl : n ≤ k.cells.length) : (H.set b k).rdn (some ⟨b, 0, none⟩) n = some (k.cells.take n) := by
  refine rdn_of (by rw [List.length_take]; omega) fun j v hj => ?_
  rw [List.getElem?_take] at hj
  split at hj
  · rw [adr_lit, Nat.zero_add, cell_same]; exact hj
  · cases hj
theorem rdn_old (hb : H b = none) (h : (H.rdn A n).isSome = true) : (H.set b k).rdn A n = H.rdn A n := by
  obtain ⟨l, hl⟩ := Option.isSome_iff_exists.1 h
  rw [hl]
  exact ((AHeap.le.refl H).fresh hb k).rdn hl
theorem Kn.rdn {C : AHeap} {l : List Value} (h : Kn C b k) {o : Nat} (hl : ∀ j, j < l.length → k.cells[o + j]? = l[j]?) : C.rdn (some ⟨b, o, none⟩) l.length = some l := by
  refine rdn_of rfl fun j v hj => ?_
  have := (List.getElem?_eq_some_iff.1 hj).1
  rw [adr_lit]
  exact h.cell (by rw [hl j this]; exact hj)
theorem Fl.rdn {C : AHeap} {vs l : List Value} (h : Fl C A vs) {o : Nat} (hl : ∀ j, j < l.length → vs[o + j]? = l[j]?) : C.rdn (adr A o) l.length = some l := by
  refine rdn_of rfl fun j v hj => ?_
  have := (List.getElem?_eq_some_iff.1 hj).1
  rw [adr_adr]
  exact h (o + j) v (by rw [hl j this]; exact hj)
theorem Fl.rdq {C : AHeap} {qs : List Qd} (h : Fl C A (qcells qs)) {i : Nat} (hi : i < qs.length) : C.rdn (adr A (i * 5)) 5 = some qs[i].cells :=
  h.rdn (l := qs[i].cells) fun j hj => qcells_at hi j hj
end
end Go.Proofs.Ytfjhjfddgdokgaa
