/- The statement FnExactCompileProgram holds for all arguments; part 3 of the texts that show it. No further condition. -/
import Derived.Test.YtfjhjfddgdokgaaFnExactCompileProgramP2
namespace Go.Proofs.Ytfjhjfddgdokgaa
set_option linter.all false
open Go Go.RowKit
set_option maxRecDepth 100000
def at3 (cells : List Value) (i : Nat) : List Value := [cells.getD (i * 3) undef, cells.getD (i * 3 + 1) undef, cells.getD (i * 3 + 2) undef]
/-- An expression in blocks of the call's own, all of them in B. -/
inductive Tr (H : AHeap) : Ex → List Value → (Nat → Prop) → Prop
  | mk (op n : Int) (args : List Ex) (b : Nat) (k : Blk) (B : Nat → Prop) (Bs : Nat → Nat → Prop) (hk : H b = some k) (ho : k.own = true) (hl : args.length * 3 ≤ k.cells.length) (hm : args.length ≤ maxLen) (hb : B b)
      (hB : ∀ i, i < args.length → ∀ x, Bs i x → B x ∧ x ≠ b) (hd : ∀ i j, i < j → j < args.length → ∀ x, Bs i x → ¬ Bs j x)
      (ha : ∀ i (hi : i < args.length), Tr H args[i] (at3 k.cells i) (Bs i)) :
      Tr H (.mk op n args) [.int .i64 op, .int .i64 n, .slice (some ⟨b, 0, none⟩) args.length args.length] B
theorem getD_le {l l' : List Value} (h : ∀ (j : Nat) (v : Value), l[j]? = some v → l'[j]? = some v) {j : Nat} (hj : j < l.length) : l'.getD j undef = l.getD j undef := by
  have h1 := h j _ (List.getElem?_eq_getElem hj)
  simp [List.getD, h1, List.getElem?_eq_getElem hj]
theorem at3_le {l l' : List Value} (h : ∀ (j : Nat) (v : Value), l[j]? = some v → l'[j]? = some v) {i n : Nat} (hi : i < n) (hl : n * 3 ≤ l.length) : at3 l' i = at3 l i := by
  simp only [at3, getD_le h (show i * 3 < l.length by omega), getD_le h (show i * 3 + 1 < l.length by omega), getD_le h (show i * 3 + 2 < l.length by omega)]
theorem len_le {l l' : List Value} (h : ∀ (j : Nat) (v : Value), l[j]? = some v → l'[j]? = some v) : l.length ≤ l'.length := by
  rcases Nat.eq_zero_or_pos l.length with h0 | h0
  · omega
  · have := h (l.length - 1) _ (List.getElem?_eq_getElem (by omega))
    have := (List.getElem?_eq_some_iff.1 this).1
    omega
theorem Tr.le {H H' : AHeap} (hle : AHeap.le H H') {e : Ex} {cs : List Value} {B : Nat → Prop} (h : Tr H e cs B) : Tr H' e cs B := by
  induction h with
  | mk op n args b k B Bs hk ho hl hm hb hB hd ha ih =>
    obtain ⟨k', hk', ho', _, _, hr⟩ := hle b k hk
    exact .mk op n args b k' B Bs hk' (by rw [ho']; exact ho) (Nat.le_trans hl (len_le hr)) hm hb hB hd fun i hi => by
      rw [at3_le hr hi hl]; exact ih i hi
theorem Tr.frame {H H' : AHeap} {e : Ex} {cs : List Value} {B : Nat → Prop} (h : Tr H e cs B) (hf : ∀ x, B x → H' x = H x) : Tr H' e cs B := by
  induction h with
  | mk op n args b k B Bs hk ho hl hm hb hB hd ha ih =>
    exact .mk op n args b k B Bs (by rw [hf b hb]; exact hk) ho hl hm hb hB hd fun i hi => ih i hi fun x hx => hf x (hB i hi x hx).1
theorem Tr.weaken {H : AHeap} {e : Ex} {cs : List Value} {B B' : Nat → Prop} (h : Tr H e cs B) (hB : ∀ x, B x → B' x) : Tr H e cs B' := by
  cases h with
  | mk op n args b k B Bs hk ho hl hm hb hB1 hd ha =>
    exact .mk op n args b k B' Bs hk ho hl hm (hB b hb) (fun i hi x hx => ⟨hB x (hB1 i hi x hx).1, (hB1 i hi x hx).2⟩) hd ha
theorem blk_cell {H : AHeap} {b : Nat} {k : Blk} (hk : H b = some k) {j : Nat} (hj : j < k.cells.length) : H.cell (adr (some ⟨b, 0, none⟩) j) = some (k.cells.getD j undef) := by
  rw [adr_lit, Nat.zero_add]
  simp [AHeap.cell, hk, hj]
theorem exR_of {H : AHeap} {b : Nat} {k : Blk} (hk : H b = some k) : ∀ (es : List Ex) (i : Nat), (i + es.length) * 3 ≤ k.cells.length → (∀ j (hj : j < es.length), ExV H es[j] (at3 k.cells (i + j))) → ExR H es (some ⟨b, 0, none⟩) i
  | [], _, _, _ => by simp only [ExR]
  | e :: es, i, hl, h => by
    simp only [ExR]
    simp only [List.length_cons] at hl
    refine ⟨⟨_, _, _, blk_cell hk (by omega), blk_cell hk (by omega), blk_cell hk (by omega), h 0 (by simp)⟩, exR_of hk es (i + 1) (by omega) fun j hj => ?_⟩
    have := h (j + 1) (by simpa using hj)
    rw [show i + 1 + j = i + (j + 1) by omega]
    exact this
theorem Tr.v {H : AHeap} {e : Ex} {cs : List Value} {B : Nat → Prop} (h : Tr H e cs B) : ExV H e cs := by
  induction h with
  | mk op n args b k B Bs hk ho hl hm hb hB hd ha ih =>
    simp only [ExV]
    exact ⟨_, _, rfl, hm, exR_of hk args 0 (by omega) fun j hj => by rw [Nat.zero_add]; exact ih j hj⟩
theorem at3_set {cells : List Value} {i k : Nat} {v0 v1 v2 : Value} (h : i < k) : at3 (((cells.set (k * 3) v0).set (k * 3 + 1) v1).set (k * 3 + 2) v2) i = at3 cells i := by
  simp only [at3, List.getD, List.getElem?_set]
  rw [if_neg (by omega), if_neg (by omega), if_neg (by omega), if_neg (by omega), if_neg (by omega), if_neg (by omega), if_neg (by omega), if_neg (by omega), if_neg (by omega)]
theorem at3_new {cells : List Value} {k : Nat} {v0 v1 v2 : Value} (h : k * 3 + 3 ≤ cells.length) : at3 (((cells.set (k * 3) v0).set (k * 3 + 1) v1).set (k * 3 + 2) v2) k = [v0, v1, v2] := by
  have h0 : k * 3 < cells.length := by omega
  have h1 : k * 3 + 1 < cells.length := by omega
  have h2 : k * 3 + 2 < cells.length := by omega
  simp [at3, List.getElem?_set, h0, h1, h2]
end Go.Proofs.Ytfjhjfddgdokgaa
namespace Go.Proofs.Ytfjhjfddgdokgaa
set_option linter.all false
open Go Go.RowKit
set_option maxRecDepth 100000
variable (w0 : World)
abbrev ToP (e : Ex) : Prop := ∀ (a : Option Addr) (c : Nat) (H : AHeap) (K : Value → AHeap → Prop), ExV H e [.int .i64 e.op, .int .i64 e.n, .slice a e.args.length c] → e.cnt ≤ 4294967296 →
  (∀ (b : Nat) (H' : AHeap) (B : Nat → Prop), AHeap.ext H H' → (∀ x, B x → H x = none ∧ H' x ≠ none) → Tr H' e [.int .i64 e.op, .int .i64 e.n, .slice (some ⟨b, 0, none⟩) e.args.length e.args.length] B → K (.agg #[.int .i64 e.op, .int .i64 e.n, .slice (some ⟨b, 0, none⟩) e.args.length e.args.length]) H') →
  ACalls Try.prog w0 133 [.agg #[.int .i64 e.op, .int .i64 e.n, .slice a e.args.length c]] H K
abbrev ToS (es : List Ex) : Prop := ∀ (a : Option Addr) (c : Nat) (H : AHeap) (K : Value → AHeap → Prop), ExR H es a 0 → Ex.cnt.cntL es ≤ 4294967296 →
  (∀ (b : Nat) (k : Blk) (H' : AHeap) (Bs : Nat → Nat → Prop), AHeap.ext H H' → H b = none → H' b = some k → k.own = true → es.length * 3 ≤ k.cells.length → (∀ i, i < es.length → ∀ x, Bs i x → H x = none ∧ x ≠ b ∧ H' x ≠ none) → (∀ i j, i < j → j < es.length → ∀ x, Bs i x → ¬ Bs j x) →
    (∀ i (hi : i < es.length), Tr H' es[i] (at3 k.cells i) (Bs i)) → K (.slice (some ⟨b, 0, none⟩) es.length es.length) H') →
  ACalls Try.prog w0 175 [.slice a es.length c] H K
theorem toS_of (es : List Ex) (ih : ∀ e ∈ es, ToP w0 e) : ToS w0 es := by
  intro a c H K hR hm h
  rw [cntL_eq] at hm
  refine acalls_of_sx mix Try.func175 of175 (by simp [ir175]) ?_; rw [ir175]; (try delta qT qI qC qO qM qG)
  repeat' (first | simp -implicitDefEqProofs only [zG1,zG2,zG3,zG4,zG5,zG6,zG7,eq_self,resV,rval,X.val,binv,fillL,setR,↓reduceIte,Nat.reduceEqDiff,Nat.reduceAdd,Nat.reduceMul,Nat.reduceLeDiff,Nat.reduceLT,Nat.reduceSub,reduceCtorEq,zGr] | ((with_reducible refine rows_intro (fun _ hb => ?_)); try simp only [set_none, ne_eq] at hb) | ((with_reducible refine new_intro (fun _ hb => ?_)); try simp only [set_none, ne_eq] at hb) | (with_reducible refine draw_same ?_) | ((with_reducible refine gd_split ?_ (fun _ => ?_) (fun _ => ?_)); exact rfl) | ((with_reducible refine td_split ?_ (fun _ => ?_) (fun _ => ?_)); exact rfl) | (with_reducible refine c_split (fun _ => ?_) (fun _ => ?_)) | (with_reducible refine mk_intro (by omega) (by omega) (fun b hb => ?_)))
  refine loop_rule (fun m fr H' => ∃ (k : Nat) (cs : List Value) (Bs : Nat → Nat → Prop), m = es.length - k ∧ k ≤ es.length ∧ es.length * 3 ≤ cs.length ∧ AHeap.ext H H' ∧ H' b = some ⟨cs, true, 103, es.length * 3⟩ ∧
      (∀ i, i < k → ∀ x, Bs i x → H x = none ∧ x ≠ b ∧ H' x ≠ none) ∧ (∀ i j, i < j → j < k → ∀ x, Bs i x → ¬ Bs j x) ∧ (∀ i (hi : i < es.length), i < k → Tr H' es[i] (at3 cs i) (Bs i)) ∧
      fr 0 = .slice a es.length c ∧ fr 3 = .slice (some ⟨b, 0, none⟩) es.length es.length ∧ fr 4 = .int .i64 k) es.length
    ⟨0, repl [.int .i64 0, .int .i64 0, .slice none 0 0] es.length, fun _ _ => False, rfl, Nat.zero_le _, by rw [length_repl]; exact Nat.le_refl _, (AHeap.ext.refl H).fresh hb _, set_same _ _ _, fun i hi => by omega, fun i j _ hj => by omega, fun i _ hi => by omega, rfl, rfl, rfl⟩ ?_
  rintro m fr H' ⟨k, cs, Bs, rfl, hk, hcs, hle, hrow, hB, hd, hT, f0, f1, f2⟩
  by_cases hlt : k < es.length
  · have g0 := lt_dec hlt
    have g1 := rng hlt
    have g3 := up1 hlt (by omega)
    obtain ⟨hA, a', c', hcl, hx⟩ := (hR.le hle.le).arg hlt
    have hct := cnt_at hlt
    have s3 : (k * 3 + 3 ≤ es.length * 3) = True := eq_true (by omega)
    repeat' (first | simp -implicitDefEqProofs only [zG1,zG2,zG3,zG4,zG5,zG6,zG7,eq_self,resV,rval,X.val,binv,fillL,setR,↓reduceIte,Nat.reduceEqDiff,Nat.reduceAdd,Nat.reduceMul,Nat.reduceLeDiff,Nat.reduceLT,Nat.reduceSub,reduceCtorEq,zGr, f0, f1, f2, g0, g1, g3, hA, hcl, Nat.add_zero] | ((with_reducible refine rows_intro (fun _ hb => ?_)); try simp only [set_none, ne_eq] at hb) | ((with_reducible refine new_intro (fun _ hb => ?_)); try simp only [set_none, ne_eq] at hb) | (with_reducible refine draw_same ?_) | ((with_reducible refine gd_split ?_ (fun _ => ?_) (fun _ => ?_)); exact rfl) | ((with_reducible refine td_split ?_ (fun _ => ?_) (fun _ => ?_)); exact rfl) | (with_reducible refine c_split (fun _ => ?_) (fun _ => ?_)) | (with_reducible refine ih es[k] (List.getElem_mem hlt) a' c' _ _ hx (by omega) (fun b1 H1 B1 l1 hB1 hT1 => ?_)))
    have hk1 := l1 b _ hrow
    have s4 : (k * 3 + 3 ≤ cs.length) = True := eq_true (by omega)
    repeat' (first | simp -implicitDefEqProofs only [zG1,zG2,zG3,zG4,zG5,zG6,zG7,eq_self,resV,rval,X.val,binv,fillL,setR,↓reduceIte,Nat.reduceEqDiff,Nat.reduceAdd,Nat.reduceMul,Nat.reduceLeDiff,Nat.reduceLT,Nat.reduceSub,reduceCtorEq,zGr, f0, f1, f2, g0, g1, g3, hk1, s4, Nat.add_zero, true_and] | ((with_reducible refine rows_intro (fun _ hb => ?_)); try simp only [set_none, ne_eq] at hb) | ((with_reducible refine new_intro (fun _ hb => ?_)); try simp only [set_none, ne_eq] at hb) | (with_reducible refine draw_same ?_) | ((with_reducible refine gd_split ?_ (fun _ => ?_) (fun _ => ?_)); exact rfl) | ((with_reducible refine td_split ?_ (fun _ => ?_) (fun _ => ?_)); exact rfl) | (with_reducible refine c_split (fun _ => ?_) (fun _ => ?_)))
    have hbB1 : ¬ B1 b := fun hx => by rw [(hB1 b hx).1] at hrow; cases hrow
    refine ⟨_, _, ?_, AHeap.le.refl _, k + 1, _, fun i => if i = k then B1 else Bs i, rfl, by omega, ?_, (hle.trans l1).fresh hb _, set_same _ _ _, fun i hi x hx => ?_, fun i j hij hj x hx => ?_, fun i hi hik => ?_, by simp [put_at, f0], by simp [put_at, f1], by simp [put_at]⟩
    · omega
    · simp only [List.length_set]; omega
    · by_cases hik : i = k
      · simp only [hik, if_true] at hx
        refine ⟨hle.none (hB1 x hx).1, fun e => hbB1 (e ▸ hx), ?_⟩
        rw [set_ne (show ¬ x = b from fun e => hbB1 (e ▸ hx))]
        exact (hB1 x hx).2
      · simp only [hik, if_false] at hx
        obtain ⟨q1, q2, q3⟩ := hB i (by omega) x hx
        refine ⟨q1, q2, ?_⟩
        rw [set_ne q2]
        exact fun e => q3 (l1.none e)
    · by_cases hjk : j = k
      · have : i ≠ k := by omega
        simp only [this, if_false] at hx
        simp only [hjk, if_true]
        exact fun h1 => (hB i (by omega) x hx).2.2 (hB1 x h1).1
      · have : i ≠ k := by omega
        simp only [this, if_false] at hx
        simp only [hjk, if_false]
        exact hd i j hij (by omega) x hx
    · by_cases hik' : i = k
      · subst hik'
        simp only [if_true]
        rw [at3_new (by omega)]
        exact hT1.frame fun x hx => set_ne (show ¬ x = b from fun e => hbB1 (e ▸ hx))
      · simp only [hik', if_false]
        rw [at3_set (by omega)]
        exact ((hT i hi (by omega)).le l1.le).frame fun x hx => set_ne (hB i (by omega) x hx).2.1
  · have g0 := ge_dec hlt
    obtain rfl : k = es.length := by omega
    repeat' (first | simp -implicitDefEqProofs only [zG1,zG2,zG3,zG4,zG5,zG6,zG7,eq_self,resV,rval,X.val,binv,fillL,setR,↓reduceIte,Nat.reduceEqDiff,Nat.reduceAdd,Nat.reduceMul,Nat.reduceLeDiff,Nat.reduceLT,Nat.reduceSub,reduceCtorEq,zGr, f0, f1, f2, g0] | ((with_reducible refine rows_intro (fun _ hb => ?_)); try simp only [set_none, ne_eq] at hb) | ((with_reducible refine new_intro (fun _ hb => ?_)); try simp only [set_none, ne_eq] at hb) | (with_reducible refine draw_same ?_) | ((with_reducible refine gd_split ?_ (fun _ => ?_) (fun _ => ?_)); exact rfl) | ((with_reducible refine td_split ?_ (fun _ => ?_) (fun _ => ?_)); exact rfl) | (with_reducible refine c_split (fun _ => ?_) (fun _ => ?_)))
    exact ret_same (h b _ H' Bs hle hb hrow rfl hcs hB hd (fun i hi => hT i hi hi))
theorem toP_of (e : Ex) (ih : ToS w0 e.args) : ToP w0 e := by
  intro a c H K hv hm h
  obtain ⟨_, _, he, hml, hR⟩ := hv.open_
  simp only [List.cons.injEq, and_true, Value.slice.injEq, true_and] at he
  obtain ⟨rfl, rfl⟩ := he
  have ec : e.cnt = Ex.cnt.cntL e.args := by cases e; rfl
  rw [ec] at hm
  refine acalls_of_sx mix Try.func133 of133 (by simp [ir133]) ?_; rw [ir133]; (try delta qT qI qC qO qM qG)
  repeat' (first | simp -implicitDefEqProofs only [zG1,zG2,zG3,zG4,zG5,zG6,zG7,eq_self,resV,rval,X.val,binv,fillL,setR,↓reduceIte,Nat.reduceEqDiff,Nat.reduceAdd,Nat.reduceMul,Nat.reduceLeDiff,Nat.reduceLT,Nat.reduceSub,reduceCtorEq,zGr, cell_old, *] | ((with_reducible refine rows_intro (fun _ hb => ?_)); try simp only [set_none, ne_eq] at hb) | ((with_reducible refine new_intro (fun _ hb => ?_)); try simp only [set_none, ne_eq] at hb) | (with_reducible refine draw_same ?_) | ((with_reducible refine gd_split ?_ (fun _ => ?_) (fun _ => ?_)); exact rfl) | ((with_reducible refine td_split ?_ (fun _ => ?_) (fun _ => ?_)); exact rfl) | (with_reducible refine c_split (fun _ => ?_) (fun _ => ?_)))
  rename_i x2 q2 x1 q1 x0
  have hb3 := hb
  refine ih a c _ _ (hR.le (((AHeap.le.refl H).fresh ‹H _ = none› _).trans (((AHeap.le.refl _).fresh (set_none.2 ‹_ ∧ H _ = none›) _).trans ((AHeap.le.refl _).fresh (set_none.2 ⟨hb3.1, set_none.2 hb3.2⟩) _)))) hm (fun b k H1 Bs hx hbn hbk hko hlk hBs hdj hT => ?_)
  simp only [set_none, ne_eq] at hbn
  obtain ⟨n1, n2, n3, n4⟩ := hbn
  have y1 := hx _ _ (set_same _ _ _)
  have y2 := hx _ _ ((set_ne (fun e => hb3.1 e.symm)).trans (set_same _ _ _))
  have c1 := cell_blk y1
  have c2 := cell_blk y2
  repeat' (first | simp -implicitDefEqProofs only [zG1,zG2,zG3,zG4,zG5,zG6,zG7,eq_self,resV,rval,X.val,binv,fillL,setR,↓reduceIte,Nat.reduceEqDiff,Nat.reduceAdd,Nat.reduceMul,Nat.reduceLeDiff,Nat.reduceLT,Nat.reduceSub,reduceCtorEq,zGr, y1, y2, c1, c2, cell_old, *] | ((with_reducible refine rows_intro (fun _ hb => ?_)); try simp only [set_none, ne_eq] at hb) | ((with_reducible refine new_intro (fun _ hb => ?_)); try simp only [set_none, ne_eq] at hb) | (with_reducible refine draw_same ?_) | ((with_reducible refine gd_split ?_ (fun _ => ?_) (fun _ => ?_)); exact rfl) | ((with_reducible refine td_split ?_ (fun _ => ?_) (fun _ => ?_)); exact rfl) | (with_reducible refine c_split (fun _ => ?_) (fun _ => ?_)))
  have hH : AHeap.ext H H1 := fun x k' hk' => hx x k' (by
    have m0 : ¬ x = x0 := by rintro rfl; rw [hb.2.2] at hk'; cases hk'
    have m1 : ¬ x = x1 := by rintro rfl; rw [q1.2] at hk'; cases hk'
    have m2 : ¬ x = x2 := by rintro rfl; rw [q2] at hk'; cases hk'
    rw [set_ne m0, set_ne m1, set_ne m2]; exact hk')
  have hne : ∀ i, i < e.args.length → ∀ x, Bs i x → ¬ x = x0 ∧ ¬ x = x1 ∧ H x = none := fun i hi x hbx => by
    have := (hBs i hi x hbx).1
    simp only [set_none, ne_eq] at this
    exact ⟨this.1, this.2.1, this.2.2.2⟩
  refine ret_same (h b _ (fun x => x = b ∨ ∃ i, i < e.args.length ∧ Bs i x) ((hH.fresh hb.2.2 _).fresh q1.2 _) ?_ ?_)
  · rintro x (rfl | ⟨i, hi, hbx⟩)
    · refine ⟨n4, ?_⟩
      rw [set_ne n2, set_ne n1, hbk]
      simp
    · obtain ⟨m0, m1, m2⟩ := hne i hi x hbx
      refine ⟨m2, ?_⟩
      rw [set_ne m1, set_ne m0]
      exact (hBs i hi x hbx).2.2
  · cases e with
    | mk op n args =>
      simp only [Ex.op, Ex.n, Ex.args] at *
      refine Tr.mk op n args b k _ Bs (by rw [set_ne n2, set_ne n1]; exact hbk) hko hlk hml (.inl rfl) (fun i hi x hbx => ⟨.inr ⟨i, hi, hbx⟩, (hBs i hi x hbx).2.1⟩) hdj fun i hi => (hT i hi).frame fun x hbx => ?_
      obtain ⟨m0, m1, m2⟩ := hne i hi x hbx
      rw [set_ne m1, set_ne m0]
theorem toExpr_ok : ∀ e : Ex, ToP w0 e
  | .mk op n args => toP_of w0 _ (toS_of w0 args fun e he => toExpr_ok e)
termination_by e => SizeOf.sizeOf e
decreasing_by exact mem_lt he
end Go.Proofs.Ytfjhjfddgdokgaa
namespace Go.Proofs.Ytfjhjfddgdokgaa
set_option linter.all false
open Go Go.RowKit
set_option maxRecDepth 100000
variable (w0 : World)
mutual
/-- What szStmt takes away. -/
def St.sz : St → Nat
  | .mk _ _ _ e body els => e.cnt + szT body + szT els
def szT : List St → Nat
  | [] => 0
  | s :: ss => 1 + s.sz + szT ss
end
theorem St.sz_eq (s : St) : s.sz = s.e.cnt + szT s.body + szT s.els := by cases s; simp only [St.sz, St.e, St.body, St.els]
def ssum : List St → Nat
  | [] => 0
  | s :: ss => s.sz + ssum ss
theorem szT_eq : ∀ ss : List St, szT ss = ss.length + ssum ss
  | [] => rfl
  | s :: ss => by simp only [szT, ssum, List.length_cons, szT_eq ss]; omega
theorem ssum_take {ss : List St} : ∀ {k : Nat} (h : k < ss.length), ssum (ss.take (k + 1)) = ssum (ss.take k) + ss[k].sz := by
  induction ss with
  | nil => intro k h; cases h
  | cons s ss ih =>
    intro k h
    cases k with
    | zero => simp [ssum]
    | succ k =>
      have := ih (k := k) (by simpa using h)
      simp only [List.take_succ_cons, ssum, List.getElem_cons_succ, this]
      omega
theorem ssum_le {ss : List St} (k : Nat) : ssum (ss.take k) ≤ ssum ss := by
  induction ss generalizing k with
  | nil => simp [ssum]
  | cons s ss ih =>
    cases k with
    | zero => simp [ssum]
    | succ k => simp only [List.take_succ_cons, ssum]; have := ih k; omega
theorem ssum_at {ss : List St} {k : Nat} (h : k < ss.length) : ss[k].sz ≤ ssum ss := by
  have h1 := ssum_take h
  have h2 := ssum_le (ss := ss) (k + 1)
  omega
mutual
theorem cnt_sz : ∀ s : St, s.cnt ≤ 1 + s.sz
  | .mk _ _ _ e body els => by
    simp only [St.cnt, St.sz]
    have := cntL_szT body
    have := cntL_szT els
    omega
theorem cntL_szT : ∀ ss : List St, cntL ss ≤ szT ss
  | [] => by simp [cntL]
  | s :: ss => by
    simp only [cntL, szT]
    have := cnt_sz s
    have := cntL_szT ss
    omega
end
theorem st_mem {k v b : Int} {e : Ex} {body els : List St} {s : St} (h : s ∈ body ∨ s ∈ els) : SizeOf.sizeOf s < SizeOf.sizeOf (St.mk k v b e body els) := by
  rcases h with h | h
  all_goals
    have := List.sizeOf_lt_of_mem h
    simp only [St.mk.sizeOf_spec]
    omega
abbrev SzsP (s : St) : Prop := ∀ (A0 : Option Addr) (c0 : Nat) (A1 : Option Addr) (c1 : Nat) (A2 : Option Addr) (c2 : Nat) (l : Int) (H : AHeap) (K : Value → AHeap → Prop), StV H s (stc s.kind s.var s.box s.e s.body.length s.els.length A0 c0 A1 c1 A2 c2) → 0 ≤ l → l ≤ 4611686018427387904 →
  K (.int .i64 (if l < s.sz then -1 else l - s.sz)) H → ACalls Try.prog w0 65 [stv s.kind s.var s.box s.e s.body.length s.els.length A0 c0 A1 c1 A2 c2, .int .i64 l] H K
abbrev SzsS (ss : List St) : Prop := ∀ (a : Option Addr) (c : Nat) (l : Int) (H : AHeap) (K : Value → AHeap → Prop), StR H ss a 0 → ss.length ≤ maxLen → 0 ≤ l → l ≤ 4611686018427387904 → K (.int .i64 (if l < szT ss then -1 else l - szT ss)) H →
  ACalls Try.prog w0 12 [.slice a ss.length c, .int .i64 l] H K
theorem szsS_of (ss : List St) (ih : ∀ s ∈ ss, SzsP w0 s) : SzsS w0 ss := by
  intro a c l H K hR hm h0 h1 h
  have hm' : (ss.length : Int) ≤ 9223372036854775807 := by simp only [maxLen] at hm; omega
  have e1 : IntKind.i64.wrap (l - ss.length) = l - ss.length := wrap_i64 (by omega) (by omega)
  rw [szT_eq] at h
  by_cases hl : l < ss.length
  · have g1 : decide (l - ss.length < 0) = true := by simp; omega
    rw [if_pos (by omega)] at h
    refine acalls_of_sx mix Try.func12 of12 (by simp [ir12]) ?_; rw [ir12]; (try delta qT qI qC qO qM qG)
    repeat' (first | simp -implicitDefEqProofs only [zG1,zG2,zG3,zG4,zG5,zG6,zG7,eq_self,resV,rval,X.val,binv,fillL,setR,↓reduceIte,Nat.reduceEqDiff,Nat.reduceAdd,Nat.reduceMul,Nat.reduceLeDiff,Nat.reduceLT,Nat.reduceSub,reduceCtorEq,zGr, e1, g1] | ((with_reducible refine rows_intro (fun _ hb => ?_)); try simp only [set_none, ne_eq] at hb) | ((with_reducible refine new_intro (fun _ hb => ?_)); try simp only [set_none, ne_eq] at hb) | (with_reducible refine draw_same ?_) | ((with_reducible refine gd_split ?_ (fun _ => ?_) (fun _ => ?_)); exact rfl) | ((with_reducible refine td_split ?_ (fun _ => ?_) (fun _ => ?_)); exact rfl) | (with_reducible refine c_split (fun _ => ?_) (fun _ => ?_)))
    exact ret_same h
  · have g1 : decide (l - ss.length < 0) = false := by simp; omega
    refine acalls_of_sx mix Try.func12 of12 (by simp [ir12]) ?_; rw [ir12]; (try delta qT qI qC qO qM qG)
    repeat' (first | simp -implicitDefEqProofs only [zG1,zG2,zG3,zG4,zG5,zG6,zG7,eq_self,resV,rval,X.val,binv,fillL,setR,↓reduceIte,Nat.reduceEqDiff,Nat.reduceAdd,Nat.reduceMul,Nat.reduceLeDiff,Nat.reduceLT,Nat.reduceSub,reduceCtorEq,zGr, e1, g1] | ((with_reducible refine rows_intro (fun _ hb => ?_)); try simp only [set_none, ne_eq] at hb) | ((with_reducible refine new_intro (fun _ hb => ?_)); try simp only [set_none, ne_eq] at hb) | (with_reducible refine draw_same ?_) | ((with_reducible refine gd_split ?_ (fun _ => ?_) (fun _ => ?_)); exact rfl) | ((with_reducible refine td_split ?_ (fun _ => ?_) (fun _ => ?_)); exact rfl) | (with_reducible refine c_split (fun _ => ?_) (fun _ => ?_)))
    refine for_rule ss.length (fun k fr C => C = H ∧ (ssum (ss.take k) : Int) ≤ l - ss.length ∧ fr 0 = .slice a ss.length c ∧ fr 1 = .int .i64 (l - ss.length - ssum (ss.take k)) ∧ fr 5 = .int .i64 k)
      ⟨rfl, by simp [ssum]; omega, rfl, by simp [ssum, put_at], rfl⟩ ?_ ?_
    · rintro k fr _ hk ⟨rfl, hc, f0, f1, f5⟩ N hN
      have g0 := lt_dec hk
      have g2 := rng hk
      have g3 := up1 hk (by omega)
      have ht := ssum_take hk
      have hle := ssum_le (ss := ss) (k + 1)
      obtain ⟨gA, a0, d0, a1, d1, a2, d2, gp, hx⟩ := hR.arg hk
      repeat' (first | simp -implicitDefEqProofs only [zG1,zG2,zG3,zG4,zG5,zG6,zG7,eq_self,resV,rval,X.val,binv,fillL,setR,↓reduceIte,Nat.reduceEqDiff,Nat.reduceAdd,Nat.reduceMul,Nat.reduceLeDiff,Nat.reduceLT,Nat.reduceSub,reduceCtorEq,zGr, f0, f1, f5, g0, g2, g3, gA, gp, Nat.add_zero] | ((with_reducible refine rows_intro (fun _ hb => ?_)); try simp only [set_none, ne_eq] at hb) | ((with_reducible refine new_intro (fun _ hb => ?_)); try simp only [set_none, ne_eq] at hb) | (with_reducible refine draw_same ?_) | ((with_reducible refine gd_split ?_ (fun _ => ?_) (fun _ => ?_)); exact rfl) | ((with_reducible refine td_split ?_ (fun _ => ?_) (fun _ => ?_)); exact rfl) | (with_reducible refine c_split (fun _ => ?_) (fun _ => ?_)) | (with_reducible refine ih ss[k] (List.getElem_mem hk) a0 d0 a1 d1 a2 d2 _ _ _ hx (by omega) (by omega) ?_))
      · refine ret_same (ki h ?_)
        (try simp only [beq_iff_eq, beq_eq_false_iff_ne, bne_iff_ne, bne_eq_false_iff_eq, decide_eq_true_eq, decide_eq_false_iff_not, ne_eq, Bool.not_eq_true, Bool.not_eq_false, Bool.not_eq_eq_eq_not, Bool.not_true, Bool.not_false, Int.not_lt, Int.not_le, ge_iff_le, gt_iff_lt] at *)
        have : l - ss.length - ssum (ss.take k) < ss[k].sz := by
          split at * <;> omega
        rw [if_pos (by omega)]
      · (try simp only [beq_iff_eq, beq_eq_false_iff_ne, bne_iff_ne, bne_eq_false_iff_eq, decide_eq_true_eq, decide_eq_false_iff_not, ne_eq, Bool.not_eq_true, Bool.not_eq_false, Bool.not_eq_eq_eq_not, Bool.not_true, Bool.not_false, Int.not_lt, Int.not_le, ge_iff_le, gt_iff_lt] at *)
        have hnl : ¬ l - ss.length - ssum (ss.take k) < ss[k].sz := by
          intro hlt
          simp only [if_pos hlt] at *
          omega
        have ev : (if l - ss.length - ssum (ss.take k) < (ss[k].sz : Int) then (-1 : Int) else l - ss.length - ssum (ss.take k) - ss[k].sz) = l - ss.length - ssum (ss.take (k + 1)) := by
          rw [if_neg hnl]; omega
        refine hN _ _ _ (.refl _) ⟨rfl, by omega, (by first | rfl | (simp only [put_at, ↓reduceIte, Nat.reduceEqDiff]; first | done | rfl | assumption) | simp [put_at, *]), ?_, (by first | rfl | (simp only [put_at, ↓reduceIte, Nat.reduceEqDiff]; first | done | rfl | assumption) | simp [put_at, *])⟩
        simp [put_at, ev]
    · rintro fr _ ⟨rfl, hc, f0, f1, f5⟩ N
      have g0 : decide ((ss.length : Int) < (ss.length : Int)) = false := by simp
      rw [List.take_length] at hc f1
      repeat' (first | simp -implicitDefEqProofs only [zG1,zG2,zG3,zG4,zG5,zG6,zG7,eq_self,resV,rval,X.val,binv,fillL,setR,↓reduceIte,Nat.reduceEqDiff,Nat.reduceAdd,Nat.reduceMul,Nat.reduceLeDiff,Nat.reduceLT,Nat.reduceSub,reduceCtorEq,zGr, f0, f1, f5, g0] | ((with_reducible refine rows_intro (fun _ hb => ?_)); try simp only [set_none, ne_eq] at hb) | ((with_reducible refine new_intro (fun _ hb => ?_)); try simp only [set_none, ne_eq] at hb) | (with_reducible refine draw_same ?_) | ((with_reducible refine gd_split ?_ (fun _ => ?_) (fun _ => ?_)); exact rfl) | ((with_reducible refine td_split ?_ (fun _ => ?_) (fun _ => ?_)); exact rfl) | (with_reducible refine c_split (fun _ => ?_) (fun _ => ?_)))
      refine ret_same (ki h ?_)
      rw [if_neg (by omega)]; omega
theorem szsP_of (s : St) (ih1 : SzsS w0 s.body) (ih2 : SzsS w0 s.els) : SzsP w0 s := by
  intro A0 c0 A1 c1 A2 c2 l H K hv h0 h1 h
  obtain ⟨hE, ⟨hb1, hb2⟩, hl1, hl2⟩ := hv.parts
  rw [s.sz_eq] at h
  refine acalls_of_sx mix Try.func65 of65 (by simp [ir65]) ?_; rw [ir65]; (try delta qT qI qC qO qM qG)
  repeat' (first | simp -implicitDefEqProofs only [zG1,zG2,zG3,zG4,zG5,zG6,zG7,eq_self,resV,rval,X.val,binv,fillL,setR,↓reduceIte,Nat.reduceEqDiff,Nat.reduceAdd,Nat.reduceMul,Nat.reduceLeDiff,Nat.reduceLT,Nat.reduceSub,reduceCtorEq,zGr] | ((with_reducible refine rows_intro (fun _ hb => ?_)); try simp only [set_none, ne_eq] at hb) | ((with_reducible refine new_intro (fun _ hb => ?_)); try simp only [set_none, ne_eq] at hb) | (with_reducible refine draw_same ?_) | ((with_reducible refine gd_split ?_ (fun _ => ?_) (fun _ => ?_)); exact rfl) | ((with_reducible refine td_split ?_ (fun _ => ?_) (fun _ => ?_)); exact rfl) | (with_reducible refine c_split (fun _ => ?_) (fun _ => ?_)) | (with_reducible refine szExpr_ok w0 s.e A0 c0 l _ _ (hE.le ((AHeap.le.refl H).fresh ‹_› _)) h0 h1 ?_))
  · refine ⟨H, (by simp -implicitDefEqProofs only [le_set_true, le_refl_true, eq_self, *]), ki h ?_⟩
    (try simp only [beq_iff_eq, beq_eq_false_iff_ne, bne_iff_ne, bne_eq_false_iff_eq, decide_eq_true_eq, decide_eq_false_iff_not, ne_eq, Bool.not_eq_true, Bool.not_eq_false, Bool.not_eq_eq_eq_not, Bool.not_true, Bool.not_false, Int.not_lt, Int.not_le, ge_iff_le, gt_iff_lt] at *)
    split at * <;> omega
  (try simp only [beq_iff_eq, beq_eq_false_iff_ne, bne_iff_ne, bne_eq_false_iff_eq, decide_eq_true_eq, decide_eq_false_iff_not, ne_eq, Bool.not_eq_true, Bool.not_eq_false, Bool.not_eq_eq_eq_not, Bool.not_true, Bool.not_false, Int.not_lt, Int.not_le, ge_iff_le, gt_iff_lt] at *)
  have g1 : ¬ l < s.e.cnt := by intro hlt; simp only [if_pos hlt] at *; omega
  simp only [if_neg g1]
  repeat' (first | simp -implicitDefEqProofs only [zG1,zG2,zG3,zG4,zG5,zG6,zG7,eq_self,resV,rval,X.val,binv,fillL,setR,↓reduceIte,Nat.reduceEqDiff,Nat.reduceAdd,Nat.reduceMul,Nat.reduceLeDiff,Nat.reduceLT,Nat.reduceSub,reduceCtorEq,zGr] | ((with_reducible refine rows_intro (fun _ hb => ?_)); try simp only [set_none, ne_eq] at hb) | ((with_reducible refine new_intro (fun _ hb => ?_)); try simp only [set_none, ne_eq] at hb) | (with_reducible refine draw_same ?_) | ((with_reducible refine gd_split ?_ (fun _ => ?_) (fun _ => ?_)); exact rfl) | ((with_reducible refine td_split ?_ (fun _ => ?_) (fun _ => ?_)); exact rfl) | (with_reducible refine c_split (fun _ => ?_) (fun _ => ?_)) | (with_reducible refine ih1 A1 c1 _ _ _ (hb2.le ((AHeap.le.refl H).fresh ‹_› _)) hb1 (by omega) (by omega) ?_))
  · refine ⟨H, (by simp -implicitDefEqProofs only [le_set_true, le_refl_true, eq_self, *]), ki h ?_⟩
    (try simp only [beq_iff_eq, beq_eq_false_iff_ne, bne_iff_ne, bne_eq_false_iff_eq, decide_eq_true_eq, decide_eq_false_iff_not, ne_eq, Bool.not_eq_true, Bool.not_eq_false, Bool.not_eq_eq_eq_not, Bool.not_true, Bool.not_false, Int.not_lt, Int.not_le, ge_iff_le, gt_iff_lt] at *)
    split at * <;> omega
  (try simp only [beq_iff_eq, beq_eq_false_iff_ne, bne_iff_ne, bne_eq_false_iff_eq, decide_eq_true_eq, decide_eq_false_iff_not, ne_eq, Bool.not_eq_true, Bool.not_eq_false, Bool.not_eq_eq_eq_not, Bool.not_true, Bool.not_false, Int.not_lt, Int.not_le, ge_iff_le, gt_iff_lt] at *)
  have g2 : ¬ l - s.e.cnt < szT s.body := by intro hlt; simp only [if_pos hlt] at *; omega
  simp only [if_neg g2]
  repeat' (first | simp -implicitDefEqProofs only [zG1,zG2,zG3,zG4,zG5,zG6,zG7,eq_self,resV,rval,X.val,binv,fillL,setR,↓reduceIte,Nat.reduceEqDiff,Nat.reduceAdd,Nat.reduceMul,Nat.reduceLeDiff,Nat.reduceLT,Nat.reduceSub,reduceCtorEq,zGr] | ((with_reducible refine rows_intro (fun _ hb => ?_)); try simp only [set_none, ne_eq] at hb) | ((with_reducible refine new_intro (fun _ hb => ?_)); try simp only [set_none, ne_eq] at hb) | (with_reducible refine draw_same ?_) | ((with_reducible refine gd_split ?_ (fun _ => ?_) (fun _ => ?_)); exact rfl) | ((with_reducible refine td_split ?_ (fun _ => ?_) (fun _ => ?_)); exact rfl) | (with_reducible refine c_split (fun _ => ?_) (fun _ => ?_)) | (with_reducible refine ih2 A2 c2 _ _ _ (hl2.le ((AHeap.le.refl H).fresh ‹_› _)) hl1 (by omega) (by omega) ?_))
  all_goals refine ⟨H, (by simp -implicitDefEqProofs only [le_set_true, le_refl_true, eq_self, *]), ki h ?_⟩
  all_goals (try simp only [beq_iff_eq, beq_eq_false_iff_ne, bne_iff_ne, bne_eq_false_iff_eq, decide_eq_true_eq, decide_eq_false_iff_not, ne_eq, Bool.not_eq_true, Bool.not_eq_false, Bool.not_eq_eq_eq_not, Bool.not_true, Bool.not_false, Int.not_lt, Int.not_le, ge_iff_le, gt_iff_lt] at *)
  all_goals (split at * <;> omega)
theorem szStmt_ok : ∀ s : St, SzsP w0 s
  | .mk k v b e body els => szsP_of w0 _ (szsS_of w0 body fun s hs => szStmt_ok s) (szsS_of w0 els fun s hs => szStmt_ok s)
termination_by s => SizeOf.sizeOf s
decreasing_by
  · exact st_mem (.inl hs)
  · exact st_mem (.inr hs)
theorem szStmtS_ok (ss : List St) : SzsS w0 ss := szsS_of w0 ss fun s _ => szStmt_ok w0 s
abbrev EqsP (s : St) : Prop := ∀ (A0 : Option Addr) (c0 : Nat) (A1 : Option Addr) (c1 : Nat) (A2 : Option Addr) (c2 : Nat) (B0 : Option Addr) (d0 : Nat) (B1 : Option Addr) (d1 : Nat) (B2 : Option Addr) (d2 : Nat) (H : AHeap) (K : Value → AHeap → Prop),
  StV H s (stc s.kind s.var s.box s.e s.body.length s.els.length A0 c0 A1 c1 A2 c2) → StV H s (stc s.kind s.var s.box s.e s.body.length s.els.length B0 d0 B1 d1 B2 d2) → s.sz ≤ 4611686018427387904 → K (.bool true) H →
  ACalls Try.prog w0 71 [stv s.kind s.var s.box s.e s.body.length s.els.length A0 c0 A1 c1 A2 c2, stv s.kind s.var s.box s.e s.body.length s.els.length B0 d0 B1 d1 B2 d2] H K
abbrev EqsS (ss : List St) : Prop := ∀ (a : Option Addr) (c : Nat) (b : Option Addr) (d : Nat) (H : AHeap) (K : Value → AHeap → Prop), StR H ss a 0 → StR H ss b 0 → szT ss ≤ 4611686018427387904 → K (.bool true) H →
  ACalls Try.prog w0 16 [.slice a ss.length c, .slice b ss.length d] H K
theorem eqsS_of (ss : List St) (ih : ∀ s ∈ ss, EqsP w0 s) : EqsS w0 ss := by
  intro a c b d H K hR hS hm h
  rw [szT_eq] at hm
  refine acalls_of_sx mix Try.func16 of16 (by simp [ir16]) ?_; rw [ir16]; (try delta qT qI qC qO qM qG)
  repeat' (first | simp -implicitDefEqProofs only [zG1,zG2,zG3,zG4,zG5,zG6,zG7,eq_self,resV,rval,X.val,binv,fillL,setR,↓reduceIte,Nat.reduceEqDiff,Nat.reduceAdd,Nat.reduceMul,Nat.reduceLeDiff,Nat.reduceLT,Nat.reduceSub,reduceCtorEq,zGr] | ((with_reducible refine rows_intro (fun _ hb => ?_)); try simp only [set_none, ne_eq] at hb) | ((with_reducible refine new_intro (fun _ hb => ?_)); try simp only [set_none, ne_eq] at hb) | (with_reducible refine draw_same ?_) | ((with_reducible refine gd_split ?_ (fun _ => ?_) (fun _ => ?_)); exact rfl) | ((with_reducible refine td_split ?_ (fun _ => ?_) (fun _ => ?_)); exact rfl) | (with_reducible refine c_split (fun _ => ?_) (fun _ => ?_)))
  refine for_rule ss.length (fun k fr C => C = H ∧ fr 0 = .slice a ss.length c ∧ fr 1 = .slice b ss.length d ∧ fr 5 = .int .i64 k) ⟨rfl, rfl, rfl, rfl⟩ ?_ ?_
  · rintro k fr _ hk ⟨rfl, f0, f1, f5⟩ N hN
    have g0 := lt_dec hk
    have g2 := rng hk
    have g3 := up1 hk (by omega)
    have hat := ssum_at hk
    obtain ⟨gA, a0, d0, a1, d1, a2, d2, gp, hx⟩ := hR.arg hk
    obtain ⟨gB, b0, e0, b1, e1, b2, e2, gq, hy⟩ := hS.arg hk
    repeat' (first | simp -implicitDefEqProofs only [zG1,zG2,zG3,zG4,zG5,zG6,zG7,eq_self,resV,rval,X.val,binv,fillL,setR,↓reduceIte,Nat.reduceEqDiff,Nat.reduceAdd,Nat.reduceMul,Nat.reduceLeDiff,Nat.reduceLT,Nat.reduceSub,reduceCtorEq,zGr, f0, f1, f5, g0, g2, g3, gA, gB, gp, gq, Nat.add_zero] | ((with_reducible refine rows_intro (fun _ hb => ?_)); try simp only [set_none, ne_eq] at hb) | ((with_reducible refine new_intro (fun _ hb => ?_)); try simp only [set_none, ne_eq] at hb) | (with_reducible refine draw_same ?_) | ((with_reducible refine gd_split ?_ (fun _ => ?_) (fun _ => ?_)); exact rfl) | ((with_reducible refine td_split ?_ (fun _ => ?_) (fun _ => ?_)); exact rfl) | (with_reducible refine c_split (fun _ => ?_) (fun _ => ?_)) | (with_reducible refine ih ss[k] (List.getElem_mem hk) a0 d0 a1 d1 a2 d2 b0 e0 b1 e1 b2 e2 _ _ hx hy (by omega) ?_))
    exact hN _ _ _ (.refl _) ⟨rfl, (by first | rfl | (simp only [put_at, ↓reduceIte, Nat.reduceEqDiff]; first | done | rfl | assumption) | simp [put_at, *]), (by first | rfl | (simp only [put_at, ↓reduceIte, Nat.reduceEqDiff]; first | done | rfl | assumption) | simp [put_at, *]), (by first | rfl | (simp only [put_at, ↓reduceIte, Nat.reduceEqDiff]; first | done | rfl | assumption) | simp [put_at, *])⟩
  · rintro fr _ ⟨rfl, f0, f1, f5⟩ N
    have g0 : decide ((ss.length : Int) < (ss.length : Int)) = false := by simp
    repeat' (first | simp -implicitDefEqProofs only [zG1,zG2,zG3,zG4,zG5,zG6,zG7,eq_self,resV,rval,X.val,binv,fillL,setR,↓reduceIte,Nat.reduceEqDiff,Nat.reduceAdd,Nat.reduceMul,Nat.reduceLeDiff,Nat.reduceLT,Nat.reduceSub,reduceCtorEq,zGr, f0, f1, f5, g0] | ((with_reducible refine rows_intro (fun _ hb => ?_)); try simp only [set_none, ne_eq] at hb) | ((with_reducible refine new_intro (fun _ hb => ?_)); try simp only [set_none, ne_eq] at hb) | (with_reducible refine draw_same ?_) | ((with_reducible refine gd_split ?_ (fun _ => ?_) (fun _ => ?_)); exact rfl) | ((with_reducible refine td_split ?_ (fun _ => ?_) (fun _ => ?_)); exact rfl) | (with_reducible refine c_split (fun _ => ?_) (fun _ => ?_)))
    exact ret_same h
theorem eqsP_of (s : St) (ih1 : EqsS w0 s.body) (ih2 : EqsS w0 s.els) : EqsP w0 s := by
  intro A0 c0 A1 c1 A2 c2 B0 d0 B1 d1 B2 d2 H K hv hw hm h
  obtain ⟨hE, ⟨hb1, hb2⟩, hl1, hl2⟩ := hv.parts
  obtain ⟨hE', ⟨hb1', hb2'⟩, hl1', hl2'⟩ := hw.parts
  rw [s.sz_eq] at hm
  refine acalls_of_sx mix Try.func71 of71 (by simp [ir71]) ?_; rw [ir71]; (try delta qT qI qC qO qM qG)
  repeat' (first | simp -implicitDefEqProofs only [zG1,zG2,zG3,zG4,zG5,zG6,zG7,eq_self,resV,rval,X.val,binv,fillL,setR,↓reduceIte,Nat.reduceEqDiff,Nat.reduceAdd,Nat.reduceMul,Nat.reduceLeDiff,Nat.reduceLT,Nat.reduceSub,reduceCtorEq,zGr] | ((with_reducible refine rows_intro (fun _ hb => ?_)); try simp only [set_none, ne_eq] at hb) | ((with_reducible refine new_intro (fun _ hb => ?_)); try simp only [set_none, ne_eq] at hb) | (with_reducible refine draw_same ?_) | ((with_reducible refine gd_split ?_ (fun _ => ?_) (fun _ => ?_)); exact rfl) | ((with_reducible refine td_split ?_ (fun _ => ?_) (fun _ => ?_)); exact rfl) | (with_reducible refine c_split (fun _ => ?_) (fun _ => ?_)))
  repeat' (first | simp -implicitDefEqProofs only [zG1,zG2,zG3,zG4,zG5,zG6,zG7,eq_self,resV,rval,X.val,binv,fillL,setR,↓reduceIte,Nat.reduceEqDiff,Nat.reduceAdd,Nat.reduceMul,Nat.reduceLeDiff,Nat.reduceLT,Nat.reduceSub,reduceCtorEq,zGr, *] | ((with_reducible refine rows_intro (fun _ hb => ?_)); try simp only [set_none, ne_eq] at hb) | ((with_reducible refine new_intro (fun _ hb => ?_)); try simp only [set_none, ne_eq] at hb) | (with_reducible refine draw_same ?_) | ((with_reducible refine gd_split ?_ (fun _ => ?_) (fun _ => ?_)); exact rfl) | ((with_reducible refine td_split ?_ (fun _ => ?_) (fun _ => ?_)); exact rfl) | (with_reducible refine c_split (fun _ => ?_) (fun _ => ?_)) | (with_reducible refine eqExpr_ok w0 s.e A0 c0 B0 d0 _ _ (hE.le (((AHeap.le.refl H).fresh ‹H _ = none› _).trans ((AHeap.le.refl _).fresh (set_none.2 hb) _))) (hE'.le (((AHeap.le.refl H).fresh ‹H _ = none› _).trans ((AHeap.le.refl _).fresh (set_none.2 hb) _))) (by omega) ?_) | (with_reducible refine ih1 A1 c1 B1 d1 _ _ (hb2.le (((AHeap.le.refl H).fresh ‹H _ = none› _).trans ((AHeap.le.refl _).fresh (set_none.2 hb) _))) (hb2'.le (((AHeap.le.refl H).fresh ‹H _ = none› _).trans ((AHeap.le.refl _).fresh (set_none.2 hb) _))) (by omega) ?_) | (with_reducible refine ih2 A2 c2 B2 d2 _ _ (hl2.le (((AHeap.le.refl H).fresh ‹H _ = none› _).trans ((AHeap.le.refl _).fresh (set_none.2 hb) _))) (hl2'.le (((AHeap.le.refl H).fresh ‹H _ = none› _).trans ((AHeap.le.refl _).fresh (set_none.2 hb) _))) (by omega) ?_))
  exact ⟨H, ((AHeap.le.refl H).fresh ‹H _ = none› _).trans ((AHeap.le.refl _).fresh (set_none.2 hb) _), h⟩
theorem eqStmt_ok : ∀ s : St, EqsP w0 s
  | .mk k v b e body els => eqsP_of w0 _ (eqsS_of w0 body fun s hs => eqStmt_ok s) (eqsS_of w0 els fun s hs => eqStmt_ok s)
termination_by s => SizeOf.sizeOf s
decreasing_by
  · exact st_mem (.inl hs)
  · exact st_mem (.inr hs)
theorem eqStmtS_ok (ss : List St) : EqsS w0 ss := eqsS_of w0 ss fun s _ => eqStmt_ok w0 s
end Go.Proofs.Ytfjhjfddgdokgaa
namespace Go.Proofs.Ytfjhjfddgdokgaa
set_option linter.all false
open Go Go.RowKit
set_option maxRecDepth 100000
variable (w0 : World)
section
variable (B : Nat → Prop) (H : AHeap)
mutual
/-- The slices of an expression lead to own blocks of B (whatever the numbers are). -/
def ShE : Ex → List Value → Prop
  | .mk _ _ args, cs => ∃ (op n : Int) (b c : Nat), cs = [.int .i64 op, .int .i64 n, .slice (some ⟨b, 0, none⟩) args.length c] ∧ ShER args b 0
def ShER : List Ex → Nat → Nat → Prop
  | [], _, _ => True
  | e :: es, b, i => (∃ k cs, B b ∧ Kn H b k ∧ k.own = true ∧ (∀ j, j < 3 → k.cells[i * 3 + j]? = cs[j]?) ∧ ShE e cs) ∧ ShER es b (i + 1)
end
mutual
def ShV : St → List Value → Prop
  | .mk _ _ _ e body els, cs => ∃ (k v b op n : Int) (b0 c0 b1 c1 b2 c2 : Nat), cs = [.int .i64 k, .int .i64 v, .int .i64 b, .int .i64 op, .int .i64 n, .slice (some ⟨b0, 0, none⟩) e.args.length c0, .slice (some ⟨b1, 0, none⟩) body.length c1, .slice (some ⟨b2, 0, none⟩) els.length c2] ∧
      ShER B H e.args b0 0 ∧ ShR body b1 0 ∧ ShR els b2 0
def ShR : List St → Nat → Nat → Prop
  | [], _, _ => True
  | s :: ss, b, i => (∃ k cs, B b ∧ Kn H b k ∧ k.own = true ∧ (∀ j, j < 8 → k.cells[i * 8 + j]? = cs[j]?) ∧ ShV s cs) ∧ ShR ss b (i + 1)
end
end
/-- Two values that differ at most as numbers. -/
def Like (v w : Value) : Prop := w = v ∨ ∃ m n, v = .int .i64 m ∧ w = .int .i64 n
theorem Like.trans {u v w : Value} (h : Like u v) (h' : Like v w) : Like u w := by
  rcases h with rfl | ⟨m, n, rfl, rfl⟩
  · exact h'
  · rcases h' with rfl | ⟨m', n', e, rfl⟩
    · exact .inr ⟨m, n, rfl, rfl⟩
    · exact .inr ⟨m, n', rfl, rfl⟩
/-- Outside B nothing has changed, in B only numbers. -/
structure MkL (B : Nat → Prop) (H H' : AHeap) : Prop where
  out : ∀ b k, ¬ B b → H b = some k → Kn H' b k
  in_ : ∀ b k, Kn H b k → ∃ k', Kn H' b k' ∧ k'.own = k.own ∧ ∀ (j : Nat) (v : Value), k.cells[j]? = some v → ∃ w, k'.cells[j]? = some w ∧ Like v w
theorem MkL.of_le {B : Nat → Prop} {H H' : AHeap} (h : AHeap.le H H') : MkL B H H' := ⟨fun b k _ hk => (Kn.of hk).trans h, fun b k hk => ⟨k, hk.trans h, rfl, fun j v hv => ⟨v, hv, .inl rfl⟩⟩⟩
theorem MkL.refl (B : Nat → Prop) (H : AHeap) : MkL B H H := .of_le (.refl H)
theorem MkL.trans {B : Nat → Prop} {H H' H'' : AHeap} (h : MkL B H H') (h' : MkL B H' H'') : MkL B H H'' := by
  refine ⟨fun b k hb hk => ?_, fun b k hk => ?_⟩
  · obtain ⟨k1, e1, o1, t1, c1, r1⟩ := h.out b k hb hk
    obtain ⟨k2, e2, o2, t2, c2, r2⟩ := h'.out b k1 hb e1
    exact ⟨k2, e2, o2.trans o1, t2.trans t1, c2.trans c1, fun j v hv => r2 j v (r1 j v hv)⟩
  · obtain ⟨k1, e1, o1, r1⟩ := h.in_ b k hk
    obtain ⟨k2, e2, o2, r2⟩ := h'.in_ b k1 e1
    refine ⟨k2, e2, o2.trans o1, fun j v hv => ?_⟩
    obtain ⟨w, hw, l⟩ := r1 j v hv
    obtain ⟨u, hu, l'⟩ := r2 j w hw
    exact ⟨u, hu, l.trans l'⟩
/-- What is known without B stands. -/
theorem MkL.le {B : Nat → Prop} {F H H' : AHeap} (h : MkL B H H') (hl : AHeap.le F H) (hF : ∀ x, B x → F x = none) : AHeap.le F H' := fun b k hk => by
  have hb : ¬ B b := fun hb => by rw [hF b hb] at hk; cases hk
  obtain ⟨k1, e1, o1, t1, c1, r1⟩ := hl b k hk
  obtain ⟨k2, e2, o2, t2, c2, r2⟩ := h.out b k1 hb e1
  exact ⟨k2, e2, o2.trans o1, t2.trans t1, c2.trans c1, fun j v hv => r2 j v (r1 j v hv)⟩
/-- Cells that differ at most as numbers. -/
def LikeL (cs ds : List Value) : Prop := ∀ (j : Nat) (v : Value), cs[j]? = some v → ∃ w, ds[j]? = some w ∧ Like v w
theorem like_slice {v : Value} {A : Option Addr} {n c : Nat} (h : Like (.slice A n c) v) : v = .slice A n c := by
  rcases h with rfl | ⟨m, n', e, _⟩
  · rfl
  · cases e
theorem like_int {v : Value} {m : Int} (h : Like (.int .i64 m) v) : ∃ n, v = .int .i64 n := by
  rcases h with rfl | ⟨_, n, _, rfl⟩
  · exact ⟨m, rfl⟩
  · exact ⟨n, rfl⟩
mutual
theorem ShE.go {B B' : Nat → Prop} {H H' : AHeap} (hm : MkL B H H') (hB : ∀ x, B x → B' x) : ∀ {e : Ex} {cs ds : List Value}, ShE B H e cs → ds.length = 3 → LikeL cs ds → ShE B' H' e ds
  | .mk op n args, cs, ds, h, h3, hl => by
    simp only [ShE] at h ⊢
    obtain ⟨op', n', b, c, rfl, hr⟩ := h
    match ds, h3 with
    | [d0, d1, d2], _ =>
      obtain ⟨w0, e0, l0⟩ := hl 0 _ rfl
      obtain ⟨w1, e1, l1⟩ := hl 1 _ rfl
      obtain ⟨w2, e2, l2⟩ := hl 2 _ rfl
      simp only [List.getElem?_cons_zero, List.getElem?_cons_succ, Option.some.injEq] at e0 e1 e2
      subst e0 e1 e2
      obtain ⟨m0, rfl⟩ := like_int l0
      obtain ⟨m1, rfl⟩ := like_int l1
      obtain rfl := like_slice l2
      exact ⟨m0, m1, b, c, rfl, ShER.go hm hB hr⟩
theorem ShER.go {B B' : Nat → Prop} {H H' : AHeap} (hm : MkL B H H') (hB : ∀ x, B x → B' x) : ∀ {es : List Ex} {b i : Nat}, ShER B H es b i → ShER B' H' es b i
  | [], _, _, _ => by simp only [ShER]
  | e :: es, b, i, h => by
    simp only [ShER] at h ⊢
    obtain ⟨⟨k, cs, hb, kn, ho, hc, hv⟩, hr⟩ := h
    obtain ⟨k', kn', ho', hl⟩ := hm.in_ b k kn
    have h3 : cs.length = 3 := by
      cases e with
      | mk op n args => simp only [ShE] at hv; obtain ⟨_, _, _, _, rfl, _⟩ := hv; rfl
    have hg : ∀ j, j < 3 → ∃ w, k'.cells[i * 3 + j]? = some w ∧ Like (cs.getD j undef) w := fun j hj => by
      have := hc j hj
      rw [List.getElem?_eq_getElem (l := cs) (i := j) (by omega)] at this
      obtain ⟨w, hw, l⟩ := hl _ _ this
      exact ⟨w, hw, by rw [List.getD, List.getElem?_eq_getElem (by omega)]; exact l⟩
    obtain ⟨w0, e0, l0⟩ := hg 0 (by omega)
    obtain ⟨w1, e1, l1⟩ := hg 1 (by omega)
    obtain ⟨w2, e2, l2⟩ := hg 2 (by omega)
    refine ⟨⟨k', [w0, w1, w2], hB b hb, kn', ho'.trans ho, fun j hj => ?_, ShE.go hm hB hv rfl fun j v hv' => ?_⟩, ShER.go hm hB hr⟩
    · match j, hj with
      | 0, _ => exact e0
      | 1, _ => exact e1
      | 2, _ => exact e2
    · have hj : j < 3 := by rw [← h3]; exact (List.getElem?_eq_some_iff.1 hv').1
      match j, hj with
      | 0, _ => exact ⟨w0, rfl, by rw [List.getD, hv'] at l0; exact l0⟩
      | 1, _ => exact ⟨w1, rfl, by rw [List.getD, hv'] at l1; exact l1⟩
      | 2, _ => exact ⟨w2, rfl, by rw [List.getD, hv'] at l2; exact l2⟩
end
mutual
theorem ShV.go {B B' : Nat → Prop} {H H' : AHeap} (hm : MkL B H H') (hB : ∀ x, B x → B' x) : ∀ {s : St} {cs ds : List Value}, ShV B H s cs → ds.length = 8 → LikeL cs ds → ShV B' H' s ds
  | .mk k v b e body els, cs, ds, h, h3, hl => by
    simp only [ShV] at h ⊢
    obtain ⟨k', v', b', op', n', b0, c0, b1, c1, b2, c2, rfl, hr0, hr1, hr2⟩ := h
    match ds, h3 with
    | [d0, d1, d2, d3, d4, d5, d6, d7], _ =>
      obtain ⟨w0, e0, l0⟩ := hl 0 _ rfl
      obtain ⟨w1, e1, l1⟩ := hl 1 _ rfl
      obtain ⟨w2, e2, l2⟩ := hl 2 _ rfl
      obtain ⟨w3, e3, l3⟩ := hl 3 _ rfl
      obtain ⟨w4, e4, l4⟩ := hl 4 _ rfl
      obtain ⟨w5, e5, l5⟩ := hl 5 _ rfl
      obtain ⟨w6, e6, l6⟩ := hl 6 _ rfl
      obtain ⟨w7, e7, l7⟩ := hl 7 _ rfl
      simp only [List.getElem?_cons_zero, List.getElem?_cons_succ, Option.some.injEq] at e0 e1 e2 e3 e4 e5 e6 e7
      subst e0 e1 e2 e3 e4 e5 e6 e7
      obtain ⟨m0, rfl⟩ := like_int l0
      obtain ⟨m1, rfl⟩ := like_int l1
      obtain ⟨m2, rfl⟩ := like_int l2
      obtain ⟨m3, rfl⟩ := like_int l3
      obtain ⟨m4, rfl⟩ := like_int l4
      obtain rfl := like_slice l5
      obtain rfl := like_slice l6
      obtain rfl := like_slice l7
      exact ⟨m0, m1, m2, m3, m4, b0, c0, b1, c1, b2, c2, rfl, ShER.go hm hB hr0, ShR.go hm hB hr1, ShR.go hm hB hr2⟩
theorem ShR.go {B B' : Nat → Prop} {H H' : AHeap} (hm : MkL B H H') (hB : ∀ x, B x → B' x) : ∀ {ss : List St} {b i : Nat}, ShR B H ss b i → ShR B' H' ss b i
  | [], _, _, _ => by simp only [ShR]
  | s :: ss, b, i, h => by
    simp only [ShR] at h ⊢
    obtain ⟨⟨k, cs, hb, kn, ho, hc, hv⟩, hr⟩ := h
    obtain ⟨k', kn', ho', hl⟩ := hm.in_ b k kn
    have h8 : cs.length = 8 := by
      cases s with
      | mk k v b e body els => simp only [ShV] at hv; obtain ⟨_, _, _, _, _, _, _, _, _, _, _, rfl, _⟩ := hv; rfl
    have hk8 : ∀ j, j < 8 → ∃ w, k'.cells[i * 8 + j]? = some w ∧ Like (cs.getD j undef) w := fun j hj => by
      have := hc j hj
      rw [List.getElem?_eq_getElem (l := cs) (i := j) (by omega)] at this
      obtain ⟨w, hw, l⟩ := hl _ _ this
      exact ⟨w, hw, by rw [List.getD, List.getElem?_eq_getElem (by omega)]; exact l⟩
    have hsz : i * 8 + 8 ≤ k'.cells.length := by
      obtain ⟨w, hw, _⟩ := hk8 7 (by omega)
      have := (List.getElem?_eq_some_iff.1 hw).1
      omega
    have hd : ∀ j, j < 8 → k'.cells[i * 8 + j]? = ((k'.cells.drop (i * 8)).take 8)[j]? := fun j hj => by
      rw [List.getElem?_take_of_lt hj, List.getElem?_drop]
    refine ⟨⟨k', (k'.cells.drop (i * 8)).take 8, hB b hb, kn', ho'.trans ho, hd, ShV.go hm hB hv (by simp; omega) fun j v hv' => ?_⟩, ShR.go hm hB hr⟩
    have hj : j < 8 := by rw [← h8]; exact (List.getElem?_eq_some_iff.1 hv').1
    obtain ⟨w, hw, l⟩ := hk8 j hj
    rw [List.getD, hv'] at l
    exact ⟨w, by rw [← hd j hj]; exact hw, l⟩
end
theorem ShV.le {B B' : Nat → Prop} {H H' : AHeap} (hl : AHeap.le H H') (hB : ∀ x, B x → B' x) {s : St} {cs : List Value} (h : ShV B H s cs) : ShV B' H' s cs := by
  refine h.go (.of_le hl) hB ?_ fun j v hv => ⟨v, hv, .inl rfl⟩
  cases s with
  | mk k v b e body els => simp only [ShV] at h; obtain ⟨_, _, _, _, _, _, _, _, _, _, _, rfl, _⟩ := h; rfl
theorem ShER.at_ {B : Nat → Prop} {H : AHeap} : ∀ {es : List Ex} {b i : Nat}, ShER B H es b i → ∀ {k : Nat} (hk : k < es.length), ∃ kk cs, B b ∧ Kn H b kk ∧ kk.own = true ∧ (∀ j, j < 3 → kk.cells[(i + k) * 3 + j]? = cs[j]?) ∧ ShE B H es[k] cs
  | e :: es, b, i, h, 0, _ => by simp only [ShER] at h; exact h.1
  | e :: es, b, i, h, k + 1, hk => by
    simp only [ShER] at h
    have := h.2.at_ (k := k) (by simpa using hk)
    rw [show i + 1 + k = i + (k + 1) by omega] at this
    exact this
theorem ShR.at_ {B : Nat → Prop} {H : AHeap} : ∀ {ss : List St} {b i : Nat}, ShR B H ss b i → ∀ {k : Nat} (hk : k < ss.length), ∃ kk cs, B b ∧ Kn H b kk ∧ kk.own = true ∧ (∀ j, j < 8 → kk.cells[(i + k) * 8 + j]? = cs[j]?) ∧ ShV B H ss[k] cs
  | s :: ss, b, i, h, 0, _ => by simp only [ShR] at h; exact h.1
  | s :: ss, b, i, h, k + 1, hk => by
    simp only [ShR] at h
    have := h.2.at_ (k := k) (by simpa using hk)
    rw [show i + 1 + k = i + (k + 1) by omega] at this
    exact this
theorem shR_of {B : Nat → Prop} {H : AHeap} {b : Nat} : ∀ (ss : List St) (i : Nat), (∀ k (hk : k < ss.length), ∃ kk cs, B b ∧ Kn H b kk ∧ kk.own = true ∧ (∀ j, j < 8 → kk.cells[(i + k) * 8 + j]? = cs[j]?) ∧ ShV B H ss[k] cs) → ShR B H ss b i
  | [], _, _ => by simp only [ShR]
  | s :: ss, i, h => by
    simp only [ShR]
    refine ⟨h 0 (by simp), shR_of ss (i + 1) fun k hk => ?_⟩
    have := h (k + 1) (by simpa using hk)
    rw [show i + 1 + k = i + (k + 1) by omega]
    exact this
theorem shER_of {B : Nat → Prop} {H : AHeap} {b : Nat} : ∀ (es : List Ex) (i : Nat), (∀ k (hk : k < es.length), ∃ kk cs, B b ∧ Kn H b kk ∧ kk.own = true ∧ (∀ j, j < 3 → kk.cells[(i + k) * 3 + j]? = cs[j]?) ∧ ShE B H es[k] cs) → ShER B H es b i
  | [], _, _ => by simp only [ShER]
  | s :: ss, i, h => by
    simp only [ShER]
    refine ⟨h 0 (by simp), shER_of ss (i + 1) fun k hk => ?_⟩
    have := h (k + 1) (by simpa using hk)
    rw [show i + 1 + k = i + (k + 1) by omega]
    exact this
theorem Tr.sh {H : AHeap} {e : Ex} {cs : List Value} {B B' : Nat → Prop} (h : Tr H e cs B) (hB : ∀ x, B x → B' x) : ShE B' H e cs := by
  induction h generalizing B' with
  | mk op n args b k B Bs hk ho hl hm hb hB1 hd ha ih =>
    simp only [ShE]
    refine ⟨op, n, b, _, rfl, shER_of args 0 fun i hi => ⟨k, at3 k.cells i, hB b hb, .of hk, ho, fun j hj => ?_, ih i hi fun x hx => hB x (hB1 i hi x hx).1⟩⟩
    rw [Nat.zero_add]
    match j, hj with
    | 0, _ => simp [at3, List.getD, show i * 3 < k.cells.length by omega]
    | 1, _ => simp [at3, List.getD, show i * 3 + 1 < k.cells.length by omega]
    | 2, _ => simp [at3, List.getD, show i * 3 + 2 < k.cells.length by omega]
end Go.Proofs.Ytfjhjfddgdokgaa
namespace Go.Proofs.Ytfjhjfddgdokgaa
set_option linter.all false
open Go Go.RowKit
/-- What C' knows of the blocks that C does not know. -/
def AHeap.off (C' C : AHeap) : AHeap := fun x => if (C x).isSome then none else C' x
theorem off_le (C' C : AHeap) : AHeap.le (C'.off C) C' := fun x k hx => by
  simp only [AHeap.off] at hx
  split at hx
  · cases hx
  · exact ⟨k, hx, rfl, rfl, rfl, fun _ _ h => h⟩
theorem off_at {C' C : AHeap} {x : Nat} (h : C x = none) : C'.off C x = C' x := by simp [AHeap.off, h]
theorem off_some {C' C : AHeap} {x : Nat} {k : Blk} (h : C'.off C x = some k) : C x = none ∧ C' x = some k := by
  simp only [AHeap.off] at h
  split at h
  · cases h
  · rename_i hn; exact ⟨by simpa using hn, h⟩
theorem setR_mid {xs ys vs : List Value} {o : Nat} (ho : o = xs.length) (hl : vs.length ≤ ys.length) : setR (xs ++ ys) o vs = (xs ++ vs) ++ ys.drop vs.length := by
  subst ho
  apply List.ext_getElem?
  intro j
  rw [getElem?_setR _ _ _ _ (by rw [List.length_append]; omega)]
  by_cases h1 : j < xs.length
  · rw [if_neg (by omega), List.getElem?_append_left h1, List.append_assoc, List.getElem?_append_left h1]
  · by_cases h2 : j < xs.length + vs.length
    · rw [if_pos (by omega), List.getElem?_append_left (by rw [List.length_append]; omega), List.getElem?_append_right (by omega)]
    · rw [if_neg (by omega), List.getElem?_append_right (by omega), List.getElem?_append_right (by rw [List.length_append]; omega), List.getElem?_drop, List.length_append]
      congr 1; omega
section
variable {H C C' C1 C2 D : AHeap} {b x : Nat} {k : Blk} {bs bs' : List Nat}
theorem kn_off {k : Blk} (hx : H x = none) (hk : Kn C x k) : Kn (C.off H) x k := by
  obtain ⟨k1, h1, r⟩ := hk
  exact ⟨k1, by rw [off_at hx]; exact h1, r⟩
/-- Blocks that were made by a call, beside a row that grows or changes. -/
theorem off_made (lH : AHeap.le H C) (hc : Chg C1 C2 bs) (hb : ∀ y, y ∈ bs → C y ≠ none) (hn : ∀ y, y ∈ bs' → y ∈ bs ∨ C1 y = none) : AHeap.le (C1.off C) ((C2.off H).no fun y => y ∈ bs') := fun x k hx => by
  obtain ⟨h1, h2⟩ := off_some hx
  have hnb : ¬ x ∈ bs := fun hm => hb x hm h1
  have hnb' : ¬ x ∈ bs' := fun hm => (hn x hm).elim hnb fun e => by rw [e] at h2; cases h2
  obtain ⟨k2, h4, r⟩ := hc x k hnb h2
  exact ⟨k2, by rw [no_out hnb', off_at (lH.none h1)]; exact h4, r⟩
/-- What stood beside the row before. -/
theorem off_stay (l : AHeap.le C C1) (hc : Chg C1 C2 bs) (hn : ∀ y, y ∈ bs' → y ∈ bs ∨ C1 y = none) : AHeap.le ((C.off H).no fun y => y ∈ bs) ((C2.off H).no fun y => y ∈ bs') := fun x k hx => by
  by_cases hm : x ∈ bs
  · rw [no_in (B := fun y => y ∈ bs) hm] at hx; cases hx
  · rw [no_out (B := fun y => y ∈ bs) hm] at hx
    obtain ⟨h1, h2⟩ := off_some hx
    have h3 := (show Kn C1 x k from (Kn.of h2).trans l)
    have hnb' : ¬ x ∈ bs' := fun h => (hn x h).elim hm fun e => h3.ne e
    obtain ⟨k2, h4, r⟩ := h3.chg hc hm
    exact ⟨k2, by rw [no_out hnb', off_at h1]; exact h4, r⟩
end
end Go.Proofs.Ytfjhjfddgdokgaa
namespace Go.Proofs.Ytfjhjfddgdokgaa
set_option linter.all false
open Go Go.RowKit
set_option maxRecDepth 100000
variable (w0 : World)
/-- Cells that read as a statement, all its blocks the call's own. -/
abbrev TwV (D : AHeap) (s : St) (cs : List Value) : Prop := StV D s cs ∧ ShV (fun _ => True) D s cs
abbrev TwR (D : AHeap) (ss : List St) (b : Nat) : Prop := StR D ss (some ⟨b, 0, none⟩) 0 ∧ ShR (fun _ => True) D ss b 0
theorem TwV.le {D D' : AHeap} {s : St} {cs : List Value} (h : TwV D s cs) (hl : AHeap.le D D') : TwV D' s cs := ⟨StV.le hl h.1, h.2.le hl fun _ h => h⟩
theorem ShR.le {B B' : Nat → Prop} {H H' : AHeap} (hl : AHeap.le H H') (hB : ∀ x, B x → B' x) {ss : List St} {b i : Nat} (h : ShR B H ss b i) : ShR B' H' ss b i := h.go (.of_le hl) hB
theorem ShER.le {B B' : Nat → Prop} {H H' : AHeap} (hl : AHeap.le H H') (hB : ∀ x, B x → B' x) {ss : List Ex} {b i : Nat} (h : ShER B H ss b i) : ShER B' H' ss b i := h.go (.of_le hl) hB
theorem TwR.le {D D' : AHeap} {ss : List St} {b : Nat} (h : TwR D ss b) (hl : AHeap.le D D') : TwR D' ss b := ⟨StR.le hl h.1, ShR.le hl (fun _ h => h) h.2⟩
def TwL (D : AHeap) : List St → List Value → Prop
  | [], xs => xs = []
  | s :: ss, xs => ∃ cs ys, xs = cs ++ ys ∧ TwV D s cs ∧ TwL D ss ys
theorem TwL.le {D D' : AHeap} (hl : AHeap.le D D') : ∀ {ss : List St} {xs : List Value}, TwL D ss xs → TwL D' ss xs
  | [], _, h => h
  | s :: ss, xs, h => by
    obtain ⟨cs, ys, h1, h2, h3⟩ := h
    exact ⟨cs, ys, h1, h2.le hl, h3.le hl⟩
theorem TwL.st {D : AHeap} : ∀ {ss : List St} {xs : List Value}, TwL D ss xs → StL D ss xs
  | [], _, h => h
  | s :: ss, xs, h => by
    obtain ⟨cs, ys, h1, h2, h3⟩ := h
    exact ⟨cs, ys, h1, h2.1, h3.st⟩
theorem TwL.app {D : AHeap} : ∀ {ss ts : List St} {xs ys : List Value}, TwL D ss xs → TwL D ts ys → TwL D (ss ++ ts) (xs ++ ys)
  | [], ts, xs, ys, h, h' => by simp only [TwL] at h; subst h; exact h'
  | s :: ss, ts, xs, ys, h, h' => by
    obtain ⟨cs, zs, rfl, h2, h3⟩ := h
    exact ⟨cs, zs ++ ys, by rw [List.append_assoc], h2, h3.app h'⟩
theorem TwL.one {D : AHeap} {s : St} {cs : List Value} (h : TwV D s cs) : TwL D [s] cs := ⟨cs, [], by simp, h, rfl⟩
theorem TwL.at_ {D : AHeap} : ∀ {ss : List St} {xs : List Value}, TwL D ss xs → ∀ {k : Nat} (hk : k < ss.length), ∃ cs, (∀ j, j < 8 → xs[k * 8 + j]? = cs[j]?) ∧ TwV D ss[k] cs
  | s :: ss, xs, h, 0, _ => by
    obtain ⟨cs, ys, rfl, h2, h3⟩ := h
    have := h2.1.len
    refine ⟨cs, fun j hj => ?_, h2⟩
    rw [Nat.zero_mul, Nat.zero_add, List.getElem?_append_left (by omega)]
  | s :: ss, xs, h, k + 1, hk => by
    obtain ⟨cs, ys, rfl, h2, h3⟩ := h
    obtain ⟨ds, g1, g2⟩ := h3.at_ (k := k) (by simpa using hk)
    have := h2.1.len
    refine ⟨ds, fun j hj => ?_, g2⟩
    rw [List.getElem?_append_right (by omega), show (k + 1) * 8 + j - cs.length = k * 8 + j by omega]
    exact g1 j hj
/-- A block whose cells read so. -/
theorem TwL.r {D : AHeap} {ss : List St} {xs : List Value} {b : Nat} {k : Blk} (h : TwL D ss xs) (hk : Kn D b k) (ho : k.own = true) (hc : ∀ (j : Nat) (v : Value), xs[j]? = some v → k.cells[j]? = some v) : TwR D ss b := by
  refine ⟨h.st.str (hk.fl hc), shR_of ss 0 fun i hi => ?_⟩
  obtain ⟨cs, g1, g2⟩ := h.at_ hi
  refine ⟨k, cs, trivial, hk, ho, fun j hj => ?_, g2.2⟩
  have h8 := g2.1.len
  have hx : xs[i * 8 + j]? = some (cs[j]'(by omega)) := by rw [g1 j hj, List.getElem?_eq_getElem (by omega)]
  rw [Nat.zero_add, hc _ _ hx, List.getElem?_eq_getElem (by omega)]
theorem stc_oc {k v b : Int} {e : Ex} {n1 n2 : Nat} {A0 : Option Addr} {c0 : Nat} {A1 : Option Addr} {c1 : Nat} {A2 : Option Addr} {c2 : Nat} : ∀ u ∈ stc k v b e n1 n2 A0 c0 A1 c1 A2 c2, u.oneCell' = true := by
  intro u hu
  simp only [stc, List.mem_cons, List.not_mem_nil, or_false] at hu
  rcases hu with rfl | rfl | rfl | rfl | rfl | rfl | rfl | rfl <;> exact id rfl
abbrev AtB (b : Nat) : Option Addr := some ⟨b, 0, none⟩
abbrev stcB (s : St) (b0 b1 b2 : Nat) : List Value := stc s.kind s.var s.box s.e s.body.length s.els.length (AtB b0) s.e.args.length (AtB b1) s.body.length (AtB b2) s.els.length
abbrev stvB (s : St) (b0 b1 b2 : Nat) : Value := stv s.kind s.var s.box s.e s.body.length s.els.length (AtB b0) s.e.args.length (AtB b1) s.body.length (AtB b2) s.els.length
abbrev TdP (s : St) : Prop := ∀ (A0 : Option Addr) (c0 : Nat) (A1 : Option Addr) (c1 : Nat) (A2 : Option Addr) (c2 : Nat) (H : AHeap) (K : Value → AHeap → Prop), StV H s (stc s.kind s.var s.box s.e s.body.length s.els.length A0 c0 A1 c1 A2 c2) → s.sz ≤ 1048576 →
  (∀ b0 b1 b2 C, AHeap.le H C → TwV (C.off H) s (stcB s b0 b1 b2) → K (stvB s b0 b1 b2) C) → ACalls Try.prog w0 68 [stv s.kind s.var s.box s.e s.body.length s.els.length A0 c0 A1 c1 A2 c2] H K
abbrev TdS (ss : List St) : Prop := ∀ (a : Option Addr) (c : Nat) (H : AHeap) (K : Value → AHeap → Prop), StR H ss a 0 → szT ss ≤ 1048576 →
  (∀ b C, AHeap.le H C → TwR (C.off H) ss b → K (.slice (AtB b) ss.length ss.length) C) → ACalls Try.prog w0 14 [.slice a ss.length c] H K
theorem tdS_of (ss : List St) (ih : ∀ s ∈ ss, TdP w0 s) : TdS w0 ss := by
  intro a c H K hR hm h
  rw [szT_eq] at hm
  refine acalls_of_sx mix Try.func14 of14 (by simp [ir14]) ?_; rw [ir14]; (try delta qT qI qC qO qM qG)
  repeat' (first | simp -implicitDefEqProofs only [zG1,zG2,zG3,zG4,zG5,zG6,zG7,eq_self,resV,rval,X.val,binv,fillL,setR,↓reduceIte,Nat.reduceEqDiff,Nat.reduceAdd,Nat.reduceMul,Nat.reduceLeDiff,Nat.reduceLT,Nat.reduceSub,reduceCtorEq,zGq] | ((with_reducible refine rows_intro (fun _ hb => ?_)); try simp only [set_none, ne_eq] at hb) | ((with_reducible refine new_intro (fun _ hb => ?_)); try simp only [set_none, ne_eq] at hb) | (with_reducible refine draw_same ?_) | ((with_reducible refine gd_split ?_ (fun _ => ?_) (fun _ => ?_)); exact rfl) | ((with_reducible refine td_split ?_ (fun _ => ?_) (fun _ => ?_)); exact rfl) | (with_reducible refine c_split (fun _ => ?_) (fun _ => ?_)) | (with_reducible refine mk_intro (by omega) (by omega) (fun b hb => ?_)))
  refine for_rule ss.length (fun k fr C => ∃ xs ys, AHeap.le H C ∧ (xs ++ ys).length = ss.length * 8 ∧ Kn C b ⟨xs ++ ys, true, 105, ss.length * 8⟩ ∧ TwL ((C.off H).no fun y => y ∈ [b]) (ss.take k) xs ∧ fr 0 = .slice a ss.length c ∧ fr 3 = .slice (some ⟨b, 0, none⟩) ss.length ss.length ∧ fr 4 = .int .i64 k)
    ⟨[], repl [.int .i64 0, .int .i64 0, .int .i64 0, .int .i64 0, .int .i64 0, .slice none 0 0, .slice none 0 0, .slice none 0 0] ss.length, (AHeap.le.refl H).fresh hb _, by rw [List.nil_append, length_repl]; rfl, Kn.same _ _ _, rfl, (by first | rfl | (simp only [put_at, ↓reduceIte, Nat.reduceEqDiff]; first | done | rfl | assumption) | simp [put_at, *]), (by first | rfl | (simp only [put_at, ↓reduceIte, Nat.reduceEqDiff]; first | done | rfl | assumption) | simp [put_at, *]), (by first | rfl | (simp only [put_at, ↓reduceIte, Nat.reduceEqDiff]; first | done | rfl | assumption) | simp [put_at, *])⟩ ?_ ?_
  · rintro k fr C hk ⟨xs, ys, l, hl, kn, tw, f0, f3, f4⟩ N hN
    have g0 := lt_dec hk
    have g1 := rng hk
    have g2 := up1 hk (by omega)
    have hat := ssum_at hk
    have hxl := tw.st.len
    rw [List.length_take, Nat.min_eq_left (by omega)] at hxl
    rw [List.length_append] at hl
    obtain ⟨gA, a0, d0, a1, d1, a2, d2, gp, hx⟩ := (hR.le l).arg hk
    repeat' (first | simp -implicitDefEqProofs only [zG1,zG2,zG3,zG4,zG5,zG6,zG7,eq_self,resV,rval,X.val,binv,fillL,setR,↓reduceIte,Nat.reduceEqDiff,Nat.reduceAdd,Nat.reduceMul,Nat.reduceLeDiff,Nat.reduceLT,Nat.reduceSub,reduceCtorEq,zGq, f0, f3, f4, g0, g1, g2, gA, gp, Nat.add_zero] | ((with_reducible refine rows_intro (fun _ hb => ?_)); try simp only [set_none, ne_eq] at hb) | ((with_reducible refine new_intro (fun _ hb => ?_)); try simp only [set_none, ne_eq] at hb) | (with_reducible refine draw_same ?_) | ((with_reducible refine gd_split ?_ (fun _ => ?_) (fun _ => ?_)); exact rfl) | ((with_reducible refine td_split ?_ (fun _ => ?_) (fun _ => ?_)); exact rfl) | (with_reducible refine c_split (fun _ => ?_) (fun _ => ?_)) | (with_reducible refine ih ss[k] (List.getElem_mem hk) a0 d0 a1 d1 a2 d2 _ _ hx (by omega) (fun b0 b1 b2 C1 l1 tw1 => ?_)))
    refine st_kn (kn.trans l1) rfl (by rw [vcA]; rfl) (by simp only [List.length_append]; omega) (by rw [vcA]; exact stc_oc) (fun C2 hc ho k2 => ?_)
    rw [vcA] at k2
    have e2 := setR_mid (xs := xs) (ys := ys) (vs := stcB ss[k] b0 b1 b2) (o := k * 8) hxl.symm (by simp only [stcB, stc, List.length_cons, List.length_nil]; omega)
    simp only at k2
    rw [e2] at k2
    repeat' (first | simp -implicitDefEqProofs only [zG1,zG2,zG3,zG4,zG5,zG6,zG7,eq_self,resV,rval,X.val,binv,fillL,setR,↓reduceIte,Nat.reduceEqDiff,Nat.reduceAdd,Nat.reduceMul,Nat.reduceLeDiff,Nat.reduceLT,Nat.reduceSub,reduceCtorEq,zGq, f0, f3, f4, g2] | ((with_reducible refine rows_intro (fun _ hb => ?_)); try simp only [set_none, ne_eq] at hb) | ((with_reducible refine new_intro (fun _ hb => ?_)); try simp only [set_none, ne_eq] at hb) | (with_reducible refine draw_same ?_) | ((with_reducible refine gd_split ?_ (fun _ => ?_) (fun _ => ?_)); exact rfl) | ((with_reducible refine td_split ?_ (fun _ => ?_) (fun _ => ?_)); exact rfl) | (with_reducible refine c_split (fun _ => ?_) (fun _ => ?_)))
    have hbs : ∀ y, y ∈ [b] → C y ≠ none := fun y hy => by
      simp only [List.mem_cons, List.not_mem_nil, or_false] at hy
      subst hy; exact kn.ne
    refine hN _ _ _ (.refl _) ⟨_, _, hc.keep (l.trans l1) (New.one hb), ?_, k2, ?_, (by first | rfl | (simp only [put_at, ↓reduceIte, Nat.reduceEqDiff]; first | done | rfl | assumption) | simp [put_at, *]), (by first | rfl | (simp only [put_at, ↓reduceIte, Nat.reduceEqDiff]; first | done | rfl | assumption) | simp [put_at, *]), (by first | rfl | (simp only [put_at, ↓reduceIte, Nat.reduceEqDiff]; first | done | rfl | assumption) | simp [put_at, *])⟩
    · simp only [List.length_append, List.length_drop, stcB, stc, List.length_cons, List.length_nil]; omega
    · rw [List.take_add_one, List.getElem?_eq_getElem hk]
      exact (tw.le (off_stay l1 hc fun y hy => .inl hy)).app (TwL.one (tw1.le (off_made l hc hbs fun y hy => .inl hy)))
  · rintro fr C ⟨xs, ys, l, hl, kn, tw, f0, f3, f4⟩ N
    have g0 : decide ((ss.length : Int) < (ss.length : Int)) = false := by simp
    rw [List.take_length] at tw
    repeat' (first | simp -implicitDefEqProofs only [zG1,zG2,zG3,zG4,zG5,zG6,zG7,eq_self,resV,rval,X.val,binv,fillL,setR,↓reduceIte,Nat.reduceEqDiff,Nat.reduceAdd,Nat.reduceMul,Nat.reduceLeDiff,Nat.reduceLT,Nat.reduceSub,reduceCtorEq,zGq, f0, f3, f4, g0] | ((with_reducible refine rows_intro (fun _ hb => ?_)); try simp only [set_none, ne_eq] at hb) | ((with_reducible refine new_intro (fun _ hb => ?_)); try simp only [set_none, ne_eq] at hb) | (with_reducible refine draw_same ?_) | ((with_reducible refine gd_split ?_ (fun _ => ?_) (fun _ => ?_)); exact rfl) | ((with_reducible refine td_split ?_ (fun _ => ?_) (fun _ => ?_)); exact rfl) | (with_reducible refine c_split (fun _ => ?_) (fun _ => ?_)))
    refine ret_same (h b C l ((tw.le (no_le _ _)).r (kn_off hb kn) rfl fun j v hv => ?_))
    have := (List.getElem?_eq_some_iff.1 hv).1
    simp only
    rw [List.getElem?_append_left this]; exact hv
/-- The three blocks of toStmt. -/
structure SB (H C : AHeap) (x1 x2 x3 : Nat) (t1 t3 : TypeId) (c1 c3 : List Value) : Prop where
  l : AHeap.le H C
  h2 : H x2 = none
  h3 : H x3 = none
  n12 : ¬ x1 = x2
  n13 : ¬ x1 = x3
  n23 : ¬ x2 = x3
  k1 : Kn C x1 ⟨c1, true, t1, 8⟩
  k2 : Kn C x2 ⟨[.int .i64 0, .int .i64 0, .int .i64 0, .int .i64 0, .int .i64 0, .slice none 0 0, .slice none 0 0, .slice none 0 0], true, t3, 8⟩
  k3 : Kn C x3 ⟨c3, true, t3, 8⟩
section
variable {H C C1 : AHeap} {x1 x2 x3 : Nat} {t1 t3 : TypeId} {c1 c3 : List Value} {K : Value → AHeap → Prop} {v : Value} {o n : Nat}
theorem SB.call (s : SB H C x1 x2 x3 t1 t3 c1 c3) (l : AHeap.le C C1) : SB H C1 x1 x2 x3 t1 t3 c1 c3 ∧ AHeap.le ((C.off H).no fun y => y ∈ [x2, x3]) ((C1.off H).no fun y => y ∈ [x2, x3]) ∧ AHeap.le (C1.off C) ((C1.off H).no fun y => y ∈ [x2, x3]) := by
  refine ⟨⟨s.l.trans l, s.h2, s.h3, s.n12, s.n13, s.n23, s.k1.trans l, s.k2.trans l, s.k3.trans l⟩, off_stay l (Chg.refl _ _) fun y hy => .inl hy, off_made s.l (Chg.refl _ _) (fun y hy => ?_) fun y hy => .inl hy⟩
  simp only [List.mem_cons, List.not_mem_nil, or_false] at hy
  rcases hy with rfl | rfl
  · exact s.k2.ne
  · exact s.k3.ne
theorem SB.st (s : SB H C x1 x2 x3 t1 t3 c1 c3) (vs : List Value) (hv : v.cells = vs.toArray) (hn : vs.length = n) (hl : o + n ≤ c3.length) (h1 : ∀ u ∈ vs, u.oneCell' = true)
    (h : ∀ C', SB H C' x1 x2 x3 t1 t3 c1 (setR c3 o vs) → AHeap.le ((C.off H).no fun y => y ∈ [x2, x3]) ((C'.off H).no fun y => y ∈ [x2, x3]) → K undef C') : stK n (.pointer (some ⟨x3, o, none⟩)) v K C := by
  refine st_kn s.k3 rfl (by rw [hv]; simpa using hn) hl (by rw [hv]; exact h1) (fun C' hc ho k => ?_)
  rw [hv] at k
  have hm : ∀ y, y ∈ [x3] → y ∈ [x2, x3] := fun y hy => List.mem_cons_of_mem _ hy
  exact h C' ⟨hc.keep s.l (New.one s.h3), s.h2, s.h3, s.n12, s.n13, s.n23, s.k1.chg hc (by simpa using s.n13), s.k2.chg hc (by simpa using s.n23), k⟩ (off_stay (.refl C) (hc.mono hm) fun y hy => .inl hy)
theorem SB.fin (s : SB H C x1 x2 x3 t1 t3 c1 c3) (hv : v.cells = c3.toArray) (hn : c3.length = 8) (h1 : ∀ u ∈ c3, u.oneCell' = true)
    (h : ∀ C', AHeap.le H C' → Kn C' x2 ⟨c3, true, t3, 8⟩ → AHeap.le ((C.off H).no fun y => y ∈ [x2, x3]) (C'.off H) → K undef C') : stK 8 (.pointer (some ⟨x2, 0, none⟩)) v K C := by
  refine st_kn s.k2 rfl (by rw [hv]; simpa using hn) (by simp) (by rw [hv]; exact h1) (fun C' hc ho k => ?_)
  rw [hv] at k
  have hm : ∀ y, y ∈ [x2] → y ∈ [x2, x3] := fun y hy => by
    simp only [List.mem_cons, List.not_mem_nil, or_false] at hy ⊢
    exact .inl hy
  have e : ∀ z : List Value, z.length = 8 → setR z 0 c3 = c3 := fun z hz => by
    have := setR_mid (xs := []) (ys := z) (vs := c3) (o := 0) rfl (by omega)
    rw [List.nil_append, List.nil_append, List.drop_of_length_le (by omega), List.append_nil] at this
    exact this
  simp only at k
  rw [e _ rfl] at k
  exact h C' (hc.keep s.l (New.one s.h2)) k ((off_stay (.refl C) (hc.mono hm) fun y hy => .inl hy).trans (no_le _ _))
theorem kn8 {v0 v1 v2 v3 v4 v5 v6 v7 : Value} {x : Nat} {t : TypeId} {c : Nat} (k : Kn C x ⟨[v0, v1, v2, v3, v4, v5, v6, v7], true, t, c⟩) :
    C.cell (some ⟨x, 0, none⟩) = some v0 ∧ C.cell (some ⟨x, 1, none⟩) = some v1 ∧ C.cell (some ⟨x, 2, none⟩) = some v2 ∧ C.cell (some ⟨x, 3, none⟩) = some v3 ∧ C.cell (some ⟨x, 4, none⟩) = some v4 ∧ C.cell (some ⟨x, 5, none⟩) = some v5 ∧ C.cell (some ⟨x, 6, none⟩) = some v6 ∧ C.cell (some ⟨x, 7, none⟩) = some v7 :=
  ⟨k.cell (j := 0) rfl, k.cell (j := 1) rfl, k.cell (j := 2) rfl, k.cell (j := 3) rfl, k.cell (j := 4) rfl, k.cell (j := 5) rfl, k.cell (j := 6) rfl, k.cell (j := 7) rfl⟩
end
theorem Tr.off {H H' : AHeap} {e : Ex} {cs : List Value} {B : Nat → Prop} (h : Tr H' e cs B) (hB : ∀ x, B x → H x = none ∧ H' x ≠ none) : ExV (H'.off H) e cs ∧ ShE (fun _ => True) (H'.off H) e cs := by
  have := h.frame (H' := H'.off H) fun x hx => off_at (hB x hx).1
  exact ⟨this.v, this.sh fun _ _ => trivial⟩
theorem tdP_of (s : St) (ih1 : TdS w0 s.body) (ih2 : TdS w0 s.els) : TdP w0 s := by
  intro A0 c0 A1 c1 A2 c2 H K hv hm h
  obtain ⟨hE, ⟨hb1, hbR⟩, hl1, hlR⟩ := hv.parts
  rw [s.sz_eq] at hm
  refine acalls_of_sx mix Try.func68 of68 (by simp [ir68]) ?_; rw [ir68]; (try delta qT qI qC qO qM qG)
  repeat' (first | simp -implicitDefEqProofs only [zG1,zG2,zG3,zG4,zG5,zG6,zG7,eq_self,resV,rval,X.val,binv,fillL,setR,↓reduceIte,Nat.reduceEqDiff,Nat.reduceAdd,Nat.reduceMul,Nat.reduceLeDiff,Nat.reduceLT,Nat.reduceSub,reduceCtorEq,zGq])
  refine new_intro (fun x1 h1 => ?_)
  repeat' (first | simp -implicitDefEqProofs only [zG1,zG2,zG3,zG4,zG5,zG6,zG7,eq_self,resV,rval,X.val,binv,fillL,setR,↓reduceIte,Nat.reduceEqDiff,Nat.reduceAdd,Nat.reduceMul,Nat.reduceLeDiff,Nat.reduceLT,Nat.reduceSub,reduceCtorEq,zGq])
  refine new_intro (fun x2 h2 => ?_)
  repeat' (first | simp -implicitDefEqProofs only [zG1,zG2,zG3,zG4,zG5,zG6,zG7,eq_self,resV,rval,X.val,binv,fillL,setR,↓reduceIte,Nat.reduceEqDiff,Nat.reduceAdd,Nat.reduceMul,Nat.reduceLeDiff,Nat.reduceLT,Nat.reduceSub,reduceCtorEq,zGq])
  refine new_intro (fun x3 h3 => ?_)
  simp only [set_none, ne_eq] at h2 h3
  have sb : SB H (((H.set x1 ⟨stc s.kind s.var s.box s.e s.body.length s.els.length A0 c0 A1 c1 A2 c2, true, 99, 8⟩).set x2 ⟨[.int .i64 0, .int .i64 0, .int .i64 0, .int .i64 0, .int .i64 0, .slice none 0 0, .slice none 0 0, .slice none 0 0], true, 105, 8⟩).set x3 ⟨[.int .i64 0, .int .i64 0, .int .i64 0, .int .i64 0, .int .i64 0, .slice none 0 0, .slice none 0 0, .slice none 0 0], true, 105, 8⟩)
      x1 x2 x3 99 105 (stc s.kind s.var s.box s.e s.body.length s.els.length A0 c0 A1 c1 A2 c2) [.int .i64 0, .int .i64 0, .int .i64 0, .int .i64 0, .int .i64 0, .slice none 0 0, .slice none 0 0, .slice none 0 0] :=
    ⟨(((AHeap.le.refl H).fresh h1 _).fresh (set_none.2 h2) _).fresh (set_none.2 ⟨h3.1, set_none.2 h3.2⟩) _, h2.2, h3.2.2, fun e => h2.1 e.symm, fun e => h3.2.1 e.symm, fun e => h3.1 e.symm,
      ((Kn.same _ _ _).set (fun e => h2.1 e.symm) _).set (fun e => h3.2.1 e.symm) _, (Kn.same _ _ _).set (fun e => h3.1 e.symm) _, Kn.same _ _ _⟩
  generalize (((H.set x1 _).set x2 _).set x3 _) = C at sb ⊢
  have g := kn8 sb.k1
  repeat' (first | simp -implicitDefEqProofs only [zG1,zG2,zG3,zG4,zG5,zG6,zG7,eq_self,resV,rval,X.val,binv,fillL,setR,↓reduceIte,Nat.reduceEqDiff,Nat.reduceAdd,Nat.reduceMul,Nat.reduceLeDiff,Nat.reduceLT,Nat.reduceSub,reduceCtorEq,zGq, g])
  refine sb.st [_] rfl rfl (by simp) (by simp [ocI, ocS]) (fun C2 sb _ => ?_)
  simp only [setR, List.set_cons_zero, List.set_cons_succ] at sb
  have g := kn8 sb.k1
  repeat' (first | simp -implicitDefEqProofs only [zG1,zG2,zG3,zG4,zG5,zG6,zG7,eq_self,resV,rval,X.val,binv,fillL,setR,↓reduceIte,Nat.reduceEqDiff,Nat.reduceAdd,Nat.reduceMul,Nat.reduceLeDiff,Nat.reduceLT,Nat.reduceSub,reduceCtorEq,zGq, g])
  refine sb.st [_] rfl rfl (by simp) (by simp [ocI, ocS]) (fun C3 sb _ => ?_)
  simp only [setR, List.set_cons_zero, List.set_cons_succ] at sb
  have g := kn8 sb.k1
  repeat' (first | simp -implicitDefEqProofs only [zG1,zG2,zG3,zG4,zG5,zG6,zG7,eq_self,resV,rval,X.val,binv,fillL,setR,↓reduceIte,Nat.reduceEqDiff,Nat.reduceAdd,Nat.reduceMul,Nat.reduceLeDiff,Nat.reduceLT,Nat.reduceSub,reduceCtorEq,zGq, g])
  refine sb.st [_] rfl rfl (by simp) (by simp [ocI, ocS]) (fun C4 sb _ => ?_)
  simp only [setR, List.set_cons_zero, List.set_cons_succ] at sb
  have g := kn8 sb.k1
  repeat' (first | simp -implicitDefEqProofs only [zG1,zG2,zG3,zG4,zG5,zG6,zG7,eq_self,resV,rval,X.val,binv,fillL,setR,↓reduceIte,Nat.reduceEqDiff,Nat.reduceAdd,Nat.reduceMul,Nat.reduceLeDiff,Nat.reduceLT,Nat.reduceSub,reduceCtorEq,zGq, g] | (with_reducible refine toExpr_ok w0 s.e A0 c0 _ _ (hE.le sb.l) (by omega) (fun b0 C5 B0 l5 hB0 tr => ?_)))
  obtain ⟨sb, -, m5⟩ := sb.call l5.le
  obtain ⟨xv, xs⟩ := tr.off hB0
  replace xv := xv.le m5
  obtain ⟨_, _, he, hml, xr⟩ := xv.open_
  simp only [List.cons.injEq, and_true, Value.slice.injEq, true_and] at he
  obtain ⟨rfl, -⟩ := he
  have xs' : ShER (fun _ => True) ((C5.off H).no fun y => y ∈ [x2, x3]) s.e.args b0 0 := by
    generalize s.e = e at xs
    cases e with
    | mk op n args =>
      simp only [ShE] at xs
      obtain ⟨_, _, b, c, he, hr⟩ := xs
      simp only [List.cons.injEq, and_true, Value.slice.injEq, Option.some.injEq, Addr.mk.injEq] at he
      obtain ⟨-, -, rfl, -⟩ := he
      exact hr.le m5 fun _ h => h
  have g := kn8 sb.k1
  repeat' (first | simp -implicitDefEqProofs only [zG1,zG2,zG3,zG4,zG5,zG6,zG7,eq_self,resV,rval,X.val,binv,fillL,setR,↓reduceIte,Nat.reduceEqDiff,Nat.reduceAdd,Nat.reduceMul,Nat.reduceLeDiff,Nat.reduceLT,Nat.reduceSub,reduceCtorEq,zGq, g])
  refine sb.st [.int .i64 s.e.op, .int .i64 s.e.n, .slice (AtB b0) s.e.args.length s.e.args.length] rfl rfl (by simp) (by simp [ocI, ocS]) (fun C6 sb m6 => ?_)
  simp only [setR, List.set_cons_zero, List.set_cons_succ] at sb
  replace xr := xr.le m6
  replace xs' := xs'.le m6 fun _ h => h
  have g := kn8 sb.k1
  repeat' (first | simp -implicitDefEqProofs only [zG1,zG2,zG3,zG4,zG5,zG6,zG7,eq_self,resV,rval,X.val,binv,fillL,setR,↓reduceIte,Nat.reduceEqDiff,Nat.reduceAdd,Nat.reduceMul,Nat.reduceLeDiff,Nat.reduceLT,Nat.reduceSub,reduceCtorEq,zGq, g] | (with_reducible refine ih1 A1 c1 _ _ (hbR.le sb.l) (by omega) (fun b1 C7 l7 tw7 => ?_)))
  obtain ⟨sb, m7, m7'⟩ := sb.call l7
  replace xr := xr.le m7
  replace xs' := xs'.le m7 fun _ h => h
  replace tw7 := tw7.le m7'
  have g := kn8 sb.k1
  repeat' (first | simp -implicitDefEqProofs only [zG1,zG2,zG3,zG4,zG5,zG6,zG7,eq_self,resV,rval,X.val,binv,fillL,setR,↓reduceIte,Nat.reduceEqDiff,Nat.reduceAdd,Nat.reduceMul,Nat.reduceLeDiff,Nat.reduceLT,Nat.reduceSub,reduceCtorEq,zGq, g])
  refine sb.st [_] rfl rfl (by simp) (by simp [ocI, ocS]) (fun C8 sb m8 => ?_)
  simp only [setR, List.set_cons_zero, List.set_cons_succ] at sb
  replace xr := xr.le m8
  replace xs' := xs'.le m8 fun _ h => h
  replace tw7 := tw7.le m8
  have g := kn8 sb.k1
  repeat' (first | simp -implicitDefEqProofs only [zG1,zG2,zG3,zG4,zG5,zG6,zG7,eq_self,resV,rval,X.val,binv,fillL,setR,↓reduceIte,Nat.reduceEqDiff,Nat.reduceAdd,Nat.reduceMul,Nat.reduceLeDiff,Nat.reduceLT,Nat.reduceSub,reduceCtorEq,zGq, g] | (with_reducible refine ih2 A2 c2 _ _ (hlR.le sb.l) (by omega) (fun b2 C9 l9 tw9 => ?_)))
  obtain ⟨sb, m9, m9'⟩ := sb.call l9
  replace xr := xr.le m9
  replace xs' := xs'.le m9 fun _ h => h
  replace tw7 := tw7.le m9
  replace tw9 := tw9.le m9'
  have g := kn8 sb.k1
  repeat' (first | simp -implicitDefEqProofs only [zG1,zG2,zG3,zG4,zG5,zG6,zG7,eq_self,resV,rval,X.val,binv,fillL,setR,↓reduceIte,Nat.reduceEqDiff,Nat.reduceAdd,Nat.reduceMul,Nat.reduceLeDiff,Nat.reduceLT,Nat.reduceSub,reduceCtorEq,zGq, g])
  refine sb.st [_] rfl rfl (by simp) (by simp [ocI, ocS]) (fun C10 sb m10 => ?_)
  simp only [setR, List.set_cons_zero, List.set_cons_succ] at sb
  replace xr := xr.le m10
  replace xs' := xs'.le m10 fun _ h => h
  replace tw7 := tw7.le m10
  replace tw9 := tw9.le m10
  have g := kn8 sb.k3
  repeat' (first | simp -implicitDefEqProofs only [zG1,zG2,zG3,zG4,zG5,zG6,zG7,eq_self,resV,rval,X.val,binv,fillL,setR,↓reduceIte,Nat.reduceEqDiff,Nat.reduceAdd,Nat.reduceMul,Nat.reduceLeDiff,Nat.reduceLT,Nat.reduceSub,reduceCtorEq,zGq, g])
  refine sb.fin (by rw [vcA]) rfl (by simp [ocI, ocS]) (fun C11 lf kf mf => ?_)
  replace xr := xr.le mf
  replace xs' := xs'.le mf fun _ h => h
  replace tw7 := tw7.le mf
  replace tw9 := tw9.le mf
  have g := kn8 kf
  repeat' (first | simp -implicitDefEqProofs only [zG1,zG2,zG3,zG4,zG5,zG6,zG7,eq_self,resV,rval,X.val,binv,fillL,setR,↓reduceIte,Nat.reduceEqDiff,Nat.reduceAdd,Nat.reduceMul,Nat.reduceLeDiff,Nat.reduceLT,Nat.reduceSub,reduceCtorEq,zGq, g])
  refine ret_same (h b0 b1 b2 C11 lf ⟨?_, ?_⟩)
  · cases s with
    | mk k v b e body els =>
      simp only [StV, stcB, St.kind, St.var, St.box, St.e, St.body, St.els] at *
      exact ⟨_, _, _, _, _, _, rfl, hml, xr, ⟨hb1, tw7.1⟩, hl1, tw9.1⟩
  · cases s with
    | mk k v b e body els =>
      simp only [ShV, stcB, St.kind, St.var, St.box, St.e, St.body, St.els] at *
      exact ⟨_, _, _, _, _, _, _, _, _, _, _, rfl, xs', tw7.2, tw9.2⟩
theorem toStmt_ok : ∀ s : St, TdP w0 s
  | .mk k v b e body els => tdP_of w0 _ (tdS_of w0 body fun s hs => toStmt_ok s) (tdS_of w0 els fun s hs => toStmt_ok s)
termination_by s => SizeOf.sizeOf s
decreasing_by
  · exact st_mem (.inl hs)
  · exact st_mem (.inr hs)
theorem toStmtS_ok (ss : List St) : TdS w0 ss := tdS_of w0 ss fun s _ => toStmt_ok w0 s
end Go.Proofs.Ytfjhjfddgdokgaa
namespace Go.Proofs.Ytfjhjfddgdokgaa
set_option linter.all false
open Go Go.RowKit
set_option maxRecDepth 100000
variable (w0 : World)
/-- A number stored where a number stood. -/
theorem mk_st {K : Value → AHeap → Prop} {C : AHeap} {b o : Nat} {k : Blk} {m0 x : Int} {B : Nat → Prop} (hb : B b) (hk : Kn C b k) (ho : k.own = true) (hc : k.cells[o]? = some (.int .i64 m0)) (h : ∀ C', MkL B C C' → K undef C') : stK 1 (.pointer (some ⟨b, o, none⟩)) (.int .i64 x) K C := by
  obtain ⟨k1, e1, o1, t1, c1, r1⟩ := hk
  have h1 := r1 o _ hc
  have hlt := (List.getElem?_eq_some_iff.1 h1).1
  refine ⟨rfl, k1, e1, o1.trans ho, by rw [vcI]; rfl, by simp only; omega, by rw [vcI]; simp [ocI], h _ ⟨fun y k' hy hk' => ?_, fun y k' hk' => ?_⟩⟩
  · have hyb : ¬ y = b := by rintro rfl; exact hy hb
    exact Kn.of (by rw [set_ne hyb]; exact hk')
  · by_cases hyb : y = b
    · subst hyb
      obtain ⟨k2, e2, o2, t2, c2, r2⟩ := hk'
      rw [e1] at e2
      obtain rfl := Option.some.inj e2
      refine ⟨⟨k'.cells.set o (.int .i64 x), k'.own, k'.ty, k'.cap⟩, ⟨_, set_same _ _ _, o2, t2, c2, fun j v hv => ?_⟩, rfl, fun j v hv => ?_⟩
      · simp only [vcI, List.toList_toArray, setR] at hv ⊢
        rw [List.getElem?_set] at hv ⊢
        split at hv
        · rename_i hjo
          rw [if_pos hjo]
          split at hv
          · rename_i hl
            rw [if_pos hlt]; exact hv
          · cases hv
        · rename_i hjo
          rw [if_neg hjo]
          exact r2 j v hv
      · simp only
        rw [List.getElem?_set]
        split
        · rename_i hjo
          subst hjo
          have hl := (List.getElem?_eq_some_iff.1 hv).1
          rw [if_pos hl]
          have := r2 _ _ hv
          rw [h1] at this
          obtain rfl := Option.some.inj this
          exact ⟨_, rfl, .inr ⟨_, _, rfl, rfl⟩⟩
        · exact ⟨v, hv, .inl rfl⟩
    · obtain ⟨k2, e2, r2⟩ := hk'
      exact ⟨k', ⟨k2, by rw [set_ne hyb]; exact e2, r2⟩, rfl, fun j v hv => ⟨v, hv, .inl rfl⟩⟩
mutual
theorem ShE.self {D : AHeap} : ∀ {e : Ex} {cs : List Value}, ShE (fun _ => True) D e cs → ShE (fun x => D x ≠ none) D e cs
  | .mk op n args, cs, h => by
    simp only [ShE] at h ⊢
    obtain ⟨op', n', b, c, rfl, hr⟩ := h
    exact ⟨op', n', b, c, rfl, ShER.self hr⟩
theorem ShER.self {D : AHeap} : ∀ {es : List Ex} {b i : Nat}, ShER (fun _ => True) D es b i → ShER (fun x => D x ≠ none) D es b i
  | [], _, _, _ => by simp only [ShER]
  | e :: es, b, i, h => by
    simp only [ShER] at h ⊢
    obtain ⟨⟨k, cs, hb, kn, ho, hc, hv⟩, hr⟩ := h
    exact ⟨⟨k, cs, kn.ne, kn, ho, hc, ShE.self hv⟩, ShER.self hr⟩
end
mutual
theorem ShV.self {D : AHeap} : ∀ {s : St} {cs : List Value}, ShV (fun _ => True) D s cs → ShV (fun x => D x ≠ none) D s cs
  | .mk k v b e body els, cs, h => by
    simp only [ShV] at h ⊢
    obtain ⟨k', v', b', op', n', b0, c0, b1, c1, b2, c2, rfl, hr0, hr1, hr2⟩ := h
    exact ⟨k', v', b', op', n', b0, c0, b1, c1, b2, c2, rfl, ShER.self hr0, ShR.self hr1, ShR.self hr2⟩
theorem ShR.self {D : AHeap} : ∀ {ss : List St} {b i : Nat}, ShR (fun _ => True) D ss b i → ShR (fun x => D x ≠ none) D ss b i
  | [], _, _, _ => by simp only [ShR]
  | s :: ss, b, i, h => by
    simp only [ShR] at h ⊢
    obtain ⟨⟨k, cs, hb, kn, ho, hc, hv⟩, hr⟩ := h
    exact ⟨⟨k, cs, kn.ne, kn, ho, hc, ShV.self hv⟩, ShR.self hr⟩
end
theorem Kn.mkl {B : Nat → Prop} {C C' : AHeap} {b : Nat} {k : Blk} (h : Kn C b k) (mk : MkL B C C') (hb : ¬ B b) : Kn C' b k := by
  obtain ⟨k1, e1, o1, t1, c1, r1⟩ := h
  obtain ⟨k2, e2, o2, t2, c2, r2⟩ := mk.out b k1 hb e1
  exact ⟨k2, e2, o2.trans o1, t2.trans t1, c2.trans c1, fun j v hv => r2 j v (r1 j v hv)⟩
theorem Rw.mkl {B : Nat → Prop} {C C' : AHeap} {t : TypeId} {sz : Nat} {v : Value} {n : Nat} {xs : List Value} {bs : List Nat} (h : Rw C t sz v n xs bs) (mk : MkL B C C') (hb : ∀ y, y ∈ bs → ¬ B y) : Rw C' t sz v n xs bs := by
  rcases h with h | ⟨b, cap, h1, rfl, h3, h4, h5, h6⟩
  · exact .inl h
  · exact .inr ⟨b, cap, h1, rfl, h3, h4, h5, h6.mkl mk (hb b (by simp))⟩
theorem off_ne {C C' : AHeap} {x : Nat} (h : C'.off C x ≠ none) : C x = none ∧ C' x ≠ none := by
  cases hx : C'.off C x with
  | none => exact absurd hx h
  | some k => obtain ⟨h1, h2⟩ := off_some hx; exact ⟨h1, by rw [h2]; simp⟩
theorem ShE.open_ {B : Nat → Prop} {H : AHeap} {e : Ex} {cs : List Value} (h : ShE B H e cs) : ∃ (op n : Int) (b c : Nat), cs = [.int .i64 op, .int .i64 n, .slice (some ⟨b, 0, none⟩) e.args.length c] ∧ ShER B H e.args b 0 := by
  cases e with
  | mk op n args => simpa only [ShE, Ex.args] using h
theorem ShER.arg {B : Nat → Prop} {H : AHeap} {es : List Ex} {b k : Nat} (h : ShER B H es b 0) (hk : k < es.length) : ∃ (kk : Blk) (op n : Int) (b2 c2 : Nat), B b ∧ Kn H b kk ∧ kk.own = true ∧ kk.cells[k * 3]? = some (.int .i64 op) ∧ kk.cells[k * 3 + 1]? = some (.int .i64 n) ∧
    kk.cells[k * 3 + 2]? = some (.slice (some ⟨b2, 0, none⟩) es[k].args.length c2) ∧ ShER B H es[k].args b2 0 := by
  obtain ⟨kk, cs, hb, kn, ho, hc, hv⟩ := h.at_ hk
  obtain ⟨op, n, b2, c2, rfl, hr⟩ := hv.open_
  rw [Nat.zero_add] at hc
  exact ⟨kk, op, n, b2, c2, hb, kn, ho, hc 0 (by omega), hc 1 (by omega), hc 2 (by omega), hr⟩
abbrev MxS (es : List Ex) : Prop := ∀ (b cp : Nat) (m : Int) (B : Nat → Prop) (H : AHeap) (K : Value → AHeap → Prop), ShER B H es b 0 → 0 ≤ m → m + 2 * Ex.cnt.cntL es ≤ 1099511627776 →
  (∀ m' H', MkL B H H' → m ≤ m' → m' ≤ m + 2 * Ex.cnt.cntL es → K (.int .i64 m') H') → ACalls Try.prog w0 74 [.slice (some ⟨b, 0, none⟩) es.length cp, .int .i64 m] H K
theorem mxS_of (es : List Ex) (ih : ∀ e ∈ es, MxS w0 e.args) : MxS w0 es := by
  intro b cp m B H K hs h0 hm h
  rw [cntL_eq] at hm h
  refine acalls_of_sx mix Try.func74 of74 (by simp [ir74]) ?_; rw [ir74]; (try delta qT qI qC qO qM qG)
  repeat' (first | simp -implicitDefEqProofs only [zG1,zG2,zG3,zG4,zG5,zG6,zG7,eq_self,resV,rval,X.val,binv,fillL,setR,↓reduceIte,Nat.reduceEqDiff,Nat.reduceAdd,Nat.reduceMul,Nat.reduceLeDiff,Nat.reduceLT,Nat.reduceSub,reduceCtorEq,zGq] | ((with_reducible refine rows_intro (fun _ hb => ?_)); try simp only [set_none, ne_eq] at hb) | ((with_reducible refine new_intro (fun _ hb => ?_)); try simp only [set_none, ne_eq] at hb) | (with_reducible refine draw_same ?_) | ((with_reducible refine gd_split ?_ (fun _ => ?_) (fun _ => ?_)); exact rfl) | ((with_reducible refine td_split ?_ (fun _ => ?_) (fun _ => ?_)); exact rfl) | (with_reducible refine c_split (fun _ => ?_) (fun _ => ?_)))
  refine for_rule es.length (fun i fr C => ∃ mi : Int, MkL B H C ∧ m ≤ mi ∧ mi ≤ m + 2 * (i + csum (es.take i)) ∧ fr 0 = .slice (some ⟨b, 0, none⟩) es.length cp ∧ fr 1 = .int .i64 mi ∧ fr 5 = .int .i64 i)
    ⟨m, .refl _ _, by omega, by simp [csum], (by first | rfl | (simp only [put_at, ↓reduceIte, Nat.reduceEqDiff]; first | done | rfl | assumption) | simp [put_at, *]), (by first | rfl | (simp only [put_at, ↓reduceIte, Nat.reduceEqDiff]; first | done | rfl | assumption) | simp [put_at, *]), (by first | rfl | (simp only [put_at, ↓reduceIte, Nat.reduceEqDiff]; first | done | rfl | assumption) | simp [put_at, *])⟩ ?_ ?_
  · rintro i fr C hi ⟨mi, mk, hm1, hm2, f0, f1, f5⟩ N hN
    have hct := csum_take hi
    have hcl := csum_le (es := es) (i + 1)
    have hce : es[i].cnt = Ex.cnt.cntL es[i].args := by cases es[i]; rfl
    have g0 := lt_dec hi
    have g1 := rng hi
    have g3 := up1 hi (by omega)
    have w1 : IntKind.i64.wrap (mi + 1) = mi + 1 := wrap_i64 (by omega) (by omega)
    have w2 : IntKind.i64.wrap (mi + 1 + 1) = mi + 1 + 1 := wrap_i64 (by omega) (by omega)
    obtain ⟨k1, op1, n1, b1, c1, hb, kn1, ho1, e10, e11, e12, r1⟩ := (hs.go mk fun _ h => h).arg hi
    repeat' (first | simp -implicitDefEqProofs only [zG1,zG2,zG3,zG4,zG5,zG6,zG7,eq_self,resV,rval,X.val,binv,fillL,setR,↓reduceIte,Nat.reduceEqDiff,Nat.reduceAdd,Nat.reduceMul,Nat.reduceLeDiff,Nat.reduceLT,Nat.reduceSub,reduceCtorEq,zGq, f0, f1, f5, g0, g1, w1, w2, adr_lit, Nat.zero_add, Nat.add_zero] | ((with_reducible refine rows_intro (fun _ hb => ?_)); try simp only [set_none, ne_eq] at hb) | ((with_reducible refine new_intro (fun _ hb => ?_)); try simp only [set_none, ne_eq] at hb) | (with_reducible refine draw_same ?_) | ((with_reducible refine gd_split ?_ (fun _ => ?_) (fun _ => ?_)); exact rfl) | ((with_reducible refine td_split ?_ (fun _ => ?_) (fun _ => ?_)); exact rfl) | (with_reducible refine c_split (fun _ => ?_) (fun _ => ?_)))
    refine mk_st hb kn1 ho1 e10 (fun C2 mk2 => ?_)
    have mk2' := mk.trans mk2
    obtain ⟨k2, op2, n2, b2, c2, -, kn2, ho2, e20, e21, e22, r2⟩ := (hs.go mk2' fun _ h => h).arg hi
    repeat' (first | simp -implicitDefEqProofs only [zG1,zG2,zG3,zG4,zG5,zG6,zG7,eq_self,resV,rval,X.val,binv,fillL,setR,↓reduceIte,Nat.reduceEqDiff,Nat.reduceAdd,Nat.reduceMul,Nat.reduceLeDiff,Nat.reduceLT,Nat.reduceSub,reduceCtorEq,zGq, f0, f1, f5, g1, w1, w2, adr_lit, Nat.zero_add, Nat.add_zero] | ((with_reducible refine rows_intro (fun _ hb => ?_)); try simp only [set_none, ne_eq] at hb) | ((with_reducible refine new_intro (fun _ hb => ?_)); try simp only [set_none, ne_eq] at hb) | (with_reducible refine draw_same ?_) | ((with_reducible refine gd_split ?_ (fun _ => ?_) (fun _ => ?_)); exact rfl) | ((with_reducible refine td_split ?_ (fun _ => ?_) (fun _ => ?_)); exact rfl) | (with_reducible refine c_split (fun _ => ?_) (fun _ => ?_)))
    refine mk_st hb kn2 ho2 e21 (fun C3 mk3 => ?_)
    have mk3' := mk2'.trans mk3
    obtain ⟨k3, op3, n3, b3, c3, -, kn3, ho3, e30, e31, e32, r3⟩ := (hs.go mk3' fun _ h => h).arg hi
    have q3 := kn3.cell e32
    repeat' (first | simp -implicitDefEqProofs only [zG1,zG2,zG3,zG4,zG5,zG6,zG7,eq_self,resV,rval,X.val,binv,fillL,setR,↓reduceIte,Nat.reduceEqDiff,Nat.reduceAdd,Nat.reduceMul,Nat.reduceLeDiff,Nat.reduceLT,Nat.reduceSub,reduceCtorEq,zGq, f0, f1, f5, g1, w1, w2, q3, adr_lit, Nat.zero_add, Nat.add_zero] | ((with_reducible refine rows_intro (fun _ hb => ?_)); try simp only [set_none, ne_eq] at hb) | ((with_reducible refine new_intro (fun _ hb => ?_)); try simp only [set_none, ne_eq] at hb) | (with_reducible refine draw_same ?_) | ((with_reducible refine gd_split ?_ (fun _ => ?_) (fun _ => ?_)); exact rfl) | ((with_reducible refine td_split ?_ (fun _ => ?_) (fun _ => ?_)); exact rfl) | (with_reducible refine c_split (fun _ => ?_) (fun _ => ?_)))
    refine ih es[i] (List.getElem_mem hi) b3 c3 (mi + 1 + 1) B C3 _ r3 (by omega) (by omega) (fun m' C4 mk4 h1 h2 => ?_)
    repeat' (first | simp -implicitDefEqProofs only [zG1,zG2,zG3,zG4,zG5,zG6,zG7,eq_self,resV,rval,X.val,binv,fillL,setR,↓reduceIte,Nat.reduceEqDiff,Nat.reduceAdd,Nat.reduceMul,Nat.reduceLeDiff,Nat.reduceLT,Nat.reduceSub,reduceCtorEq,zGq, f0, f1, f5, g3] | ((with_reducible refine rows_intro (fun _ hb => ?_)); try simp only [set_none, ne_eq] at hb) | ((with_reducible refine new_intro (fun _ hb => ?_)); try simp only [set_none, ne_eq] at hb) | (with_reducible refine draw_same ?_) | ((with_reducible refine gd_split ?_ (fun _ => ?_) (fun _ => ?_)); exact rfl) | ((with_reducible refine td_split ?_ (fun _ => ?_) (fun _ => ?_)); exact rfl) | (with_reducible refine c_split (fun _ => ?_) (fun _ => ?_)))
    exact hN _ _ _ (.refl _) ⟨m', mk3'.trans mk4, by omega, by omega, (by first | rfl | (simp only [put_at, ↓reduceIte, Nat.reduceEqDiff]; first | done | rfl | assumption) | simp [put_at, *]), (by first | rfl | (simp only [put_at, ↓reduceIte, Nat.reduceEqDiff]; first | done | rfl | assumption) | simp [put_at, *]), (by first | rfl | (simp only [put_at, ↓reduceIte, Nat.reduceEqDiff]; first | done | rfl | assumption) | simp [put_at, *])⟩
  · rintro fr C ⟨mi, mk, hm1, hm2, f0, f1, f5⟩ N
    have g0 : decide ((es.length : Int) < (es.length : Int)) = false := by simp
    rw [List.take_length] at hm2
    repeat' (first | simp -implicitDefEqProofs only [zG1,zG2,zG3,zG4,zG5,zG6,zG7,eq_self,resV,rval,X.val,binv,fillL,setR,↓reduceIte,Nat.reduceEqDiff,Nat.reduceAdd,Nat.reduceMul,Nat.reduceLeDiff,Nat.reduceLT,Nat.reduceSub,reduceCtorEq,zGq, f0, f1, f5, g0] | ((with_reducible refine rows_intro (fun _ hb => ?_)); try simp only [set_none, ne_eq] at hb) | ((with_reducible refine new_intro (fun _ hb => ?_)); try simp only [set_none, ne_eq] at hb) | (with_reducible refine draw_same ?_) | ((with_reducible refine gd_split ?_ (fun _ => ?_) (fun _ => ?_)); exact rfl) | ((with_reducible refine td_split ?_ (fun _ => ?_) (fun _ => ?_)); exact rfl) | (with_reducible refine c_split (fun _ => ?_) (fun _ => ?_)))
    exact ret_same (h mi C mk hm1 (by omega))
theorem markEx_ok : ∀ e : Ex, MxS w0 e.args
  | .mk op n args => mxS_of w0 args fun e he => markEx_ok e
termination_by e => SizeOf.sizeOf e
decreasing_by exact mem_lt he
theorem ShV.open_ {B : Nat → Prop} {H : AHeap} {s : St} {cs : List Value} (h : ShV B H s cs) : ∃ (k v b op n : Int) (b0 c0 b1 c1 b2 c2 : Nat), cs = [.int .i64 k, .int .i64 v, .int .i64 b, .int .i64 op, .int .i64 n, .slice (some ⟨b0, 0, none⟩) s.e.args.length c0, .slice (some ⟨b1, 0, none⟩) s.body.length c1, .slice (some ⟨b2, 0, none⟩) s.els.length c2] ∧
      ShER B H s.e.args b0 0 ∧ ShR B H s.body b1 0 ∧ ShR B H s.els b2 0 := by
  cases s with
  | mk k v b e body els => simpa only [ShV, St.e, St.body, St.els] using h
theorem ShR.arg {B : Nat → Prop} {H : AHeap} {ss : List St} {b i : Nat} (h : ShR B H ss b 0) (hi : i < ss.length) : ∃ (kk : Blk) (k v bx op n : Int) (b0 c0 b1 c1 b2 c2 : Nat), B b ∧ Kn H b kk ∧ kk.own = true ∧ kk.cells[i * 8]? = some (.int .i64 k) ∧ kk.cells[i * 8 + 1]? = some (.int .i64 v) ∧ kk.cells[i * 8 + 2]? = some (.int .i64 bx) ∧
    kk.cells[i * 8 + 3]? = some (.int .i64 op) ∧ kk.cells[i * 8 + 4]? = some (.int .i64 n) ∧ kk.cells[i * 8 + 5]? = some (.slice (some ⟨b0, 0, none⟩) ss[i].e.args.length c0) ∧ kk.cells[i * 8 + 6]? = some (.slice (some ⟨b1, 0, none⟩) ss[i].body.length c1) ∧
    kk.cells[i * 8 + 7]? = some (.slice (some ⟨b2, 0, none⟩) ss[i].els.length c2) ∧ ShER B H ss[i].e.args b0 0 ∧ ShR B H ss[i].body b1 0 ∧ ShR B H ss[i].els b2 0 := by
  obtain ⟨kk, cs, hb, kn, ho, hc, hv⟩ := h.at_ hi
  obtain ⟨k, v, bx, op, n, b0, c0, b1, c1, b2, c2, rfl, r0, r1, r2⟩ := hv.open_
  rw [Nat.zero_add] at hc
  exact ⟨kk, k, v, bx, op, n, b0, c0, b1, c1, b2, c2, hb, kn, ho, hc 0 (by omega), hc 1 (by omega), hc 2 (by omega), hc 3 (by omega), hc 4 (by omega), hc 5 (by omega), hc 6 (by omega), hc 7 (by omega), r0, r1, r2⟩
abbrev MtS (ss : List St) : Prop := ∀ (b cp : Nat) (m : Int) (B : Nat → Prop) (H : AHeap) (K : Value → AHeap → Prop), ShR B H ss b 0 → 0 ≤ m → m + 5 * szT ss ≤ 1099511627776 →
  (∀ m' H', MkL B H H' → m ≤ m' → m' ≤ m + 5 * szT ss → K (.int .i64 m') H') → ACalls Try.prog w0 20 [.slice (some ⟨b, 0, none⟩) ss.length cp, .int .i64 m] H K
theorem mtS_of (ss : List St) (ih : ∀ s ∈ ss, MtS w0 s.body ∧ MtS w0 s.els) : MtS w0 ss := by
  intro b cp m B H K hs h0 hm h
  rw [szT_eq] at hm h
  refine acalls_of_sx mix Try.func20 of20 (by simp [ir20]) ?_; rw [ir20]; (try delta qT qI qC qO qM qG)
  repeat' (first | simp -implicitDefEqProofs only [zG1,zG2,zG3,zG4,zG5,zG6,zG7,eq_self,resV,rval,X.val,binv,fillL,setR,↓reduceIte,Nat.reduceEqDiff,Nat.reduceAdd,Nat.reduceMul,Nat.reduceLeDiff,Nat.reduceLT,Nat.reduceSub,reduceCtorEq,zGq] | ((with_reducible refine rows_intro (fun _ hb => ?_)); try simp only [set_none, ne_eq] at hb) | ((with_reducible refine new_intro (fun _ hb => ?_)); try simp only [set_none, ne_eq] at hb) | (with_reducible refine draw_same ?_) | ((with_reducible refine gd_split ?_ (fun _ => ?_) (fun _ => ?_)); exact rfl) | ((with_reducible refine td_split ?_ (fun _ => ?_) (fun _ => ?_)); exact rfl) | (with_reducible refine c_split (fun _ => ?_) (fun _ => ?_)))
  refine for_rule ss.length (fun i fr C => ∃ mi : Int, MkL B H C ∧ m ≤ mi ∧ mi ≤ m + 5 * (i + ssum (ss.take i)) ∧ fr 0 = .slice (some ⟨b, 0, none⟩) ss.length cp ∧ fr 1 = .int .i64 mi ∧ fr 5 = .int .i64 i)
    ⟨m, .refl _ _, by omega, by simp [ssum], (by first | rfl | (simp only [put_at, ↓reduceIte, Nat.reduceEqDiff]; first | done | rfl | assumption) | simp [put_at, *]), (by first | rfl | (simp only [put_at, ↓reduceIte, Nat.reduceEqDiff]; first | done | rfl | assumption) | simp [put_at, *]), (by first | rfl | (simp only [put_at, ↓reduceIte, Nat.reduceEqDiff]; first | done | rfl | assumption) | simp [put_at, *])⟩ ?_ ?_
  · rintro i fr C hi ⟨mi, mk, hm1, hm2, f0, f1, f5⟩ N hN
    have hct := ssum_take hi
    have hcl := ssum_le (ss := ss) (i + 1)
    have hce := ss[i].sz_eq
    have hxe : ss[i].e.cnt = Ex.cnt.cntL ss[i].e.args := by cases ss[i].e; rfl
    have g0 := lt_dec hi
    have g1 := rng hi
    have g3 := up1 hi (by omega)
    have w1 : IntKind.i64.wrap (mi + 1) = mi + 1 := wrap_i64 (by omega) (by omega)
    have w2 : IntKind.i64.wrap (mi + 1 + 1) = mi + 1 + 1 := wrap_i64 (by omega) (by omega)
    have w3 : IntKind.i64.wrap (mi + 1 + 1 + 1) = mi + 1 + 1 + 1 := wrap_i64 (by omega) (by omega)
    have w4 : IntKind.i64.wrap (mi + 1 + 1 + 1 + 1) = mi + 1 + 1 + 1 + 1 := wrap_i64 (by omega) (by omega)
    have w5 : IntKind.i64.wrap (mi + 1 + 1 + 1 + 1 + 1) = mi + 1 + 1 + 1 + 1 + 1 := wrap_i64 (by omega) (by omega)
    obtain ⟨ih1, ih2⟩ := ih ss[i] (List.getElem_mem hi)
    have arg : ∀ {D : AHeap}, MkL B H D → _ := fun {D} l => (hs.go (H' := D) l fun _ h => h).arg hi
    obtain ⟨k1, _, _, _, _, _, _, _, _, _, _, _, hb, kn, ho, e0, -⟩ := arg mk
    repeat' (first | simp -implicitDefEqProofs only [zG1,zG2,zG3,zG4,zG5,zG6,zG7,eq_self,resV,rval,X.val,binv,fillL,setR,↓reduceIte,Nat.reduceEqDiff,Nat.reduceAdd,Nat.reduceMul,Nat.reduceLeDiff,Nat.reduceLT,Nat.reduceSub,reduceCtorEq,zGq, f0, f1, f5, g0, g1, w1, w2, w3, w4, w5, adr_lit, Nat.zero_add, Nat.add_zero] | ((with_reducible refine rows_intro (fun _ hb => ?_)); try simp only [set_none, ne_eq] at hb) | ((with_reducible refine new_intro (fun _ hb => ?_)); try simp only [set_none, ne_eq] at hb) | (with_reducible refine draw_same ?_) | ((with_reducible refine gd_split ?_ (fun _ => ?_) (fun _ => ?_)); exact rfl) | ((with_reducible refine td_split ?_ (fun _ => ?_) (fun _ => ?_)); exact rfl) | (with_reducible refine c_split (fun _ => ?_) (fun _ => ?_)))
    refine mk_st hb kn ho e0 (fun C2 mk2 => ?_)
    replace mk2 := mk.trans mk2
    obtain ⟨k2, _, _, _, _, _, _, _, _, _, _, _, -, kn, ho, -, e0, -⟩ := arg mk2
    repeat' (first | simp -implicitDefEqProofs only [zG1,zG2,zG3,zG4,zG5,zG6,zG7,eq_self,resV,rval,X.val,binv,fillL,setR,↓reduceIte,Nat.reduceEqDiff,Nat.reduceAdd,Nat.reduceMul,Nat.reduceLeDiff,Nat.reduceLT,Nat.reduceSub,reduceCtorEq,zGq, f0, f1, f5, g1, w1, w2, w3, w4, w5, adr_lit, Nat.zero_add, Nat.add_zero] | ((with_reducible refine rows_intro (fun _ hb => ?_)); try simp only [set_none, ne_eq] at hb) | ((with_reducible refine new_intro (fun _ hb => ?_)); try simp only [set_none, ne_eq] at hb) | (with_reducible refine draw_same ?_) | ((with_reducible refine gd_split ?_ (fun _ => ?_) (fun _ => ?_)); exact rfl) | ((with_reducible refine td_split ?_ (fun _ => ?_) (fun _ => ?_)); exact rfl) | (with_reducible refine c_split (fun _ => ?_) (fun _ => ?_)))
    refine mk_st hb kn ho e0 (fun C3 mk3 => ?_)
    replace mk3 := mk2.trans mk3
    obtain ⟨k3, _, _, _, _, _, _, _, _, _, _, _, -, kn, ho, -, -, e0, -⟩ := arg mk3
    repeat' (first | simp -implicitDefEqProofs only [zG1,zG2,zG3,zG4,zG5,zG6,zG7,eq_self,resV,rval,X.val,binv,fillL,setR,↓reduceIte,Nat.reduceEqDiff,Nat.reduceAdd,Nat.reduceMul,Nat.reduceLeDiff,Nat.reduceLT,Nat.reduceSub,reduceCtorEq,zGq, f0, f1, f5, g1, w1, w2, w3, w4, w5, adr_lit, Nat.zero_add, Nat.add_zero] | ((with_reducible refine rows_intro (fun _ hb => ?_)); try simp only [set_none, ne_eq] at hb) | ((with_reducible refine new_intro (fun _ hb => ?_)); try simp only [set_none, ne_eq] at hb) | (with_reducible refine draw_same ?_) | ((with_reducible refine gd_split ?_ (fun _ => ?_) (fun _ => ?_)); exact rfl) | ((with_reducible refine td_split ?_ (fun _ => ?_) (fun _ => ?_)); exact rfl) | (with_reducible refine c_split (fun _ => ?_) (fun _ => ?_)))
    refine mk_st hb kn ho e0 (fun C4 mk4 => ?_)
    replace mk4 := mk3.trans mk4
    obtain ⟨k4, _, _, _, _, _, _, _, _, _, _, _, -, kn, ho, -, -, -, e0, -⟩ := arg mk4
    repeat' (first | simp -implicitDefEqProofs only [zG1,zG2,zG3,zG4,zG5,zG6,zG7,eq_self,resV,rval,X.val,binv,fillL,setR,↓reduceIte,Nat.reduceEqDiff,Nat.reduceAdd,Nat.reduceMul,Nat.reduceLeDiff,Nat.reduceLT,Nat.reduceSub,reduceCtorEq,zGq, f0, f1, f5, g1, w1, w2, w3, w4, w5, adr_lit, Nat.zero_add, Nat.add_zero] | ((with_reducible refine rows_intro (fun _ hb => ?_)); try simp only [set_none, ne_eq] at hb) | ((with_reducible refine new_intro (fun _ hb => ?_)); try simp only [set_none, ne_eq] at hb) | (with_reducible refine draw_same ?_) | ((with_reducible refine gd_split ?_ (fun _ => ?_) (fun _ => ?_)); exact rfl) | ((with_reducible refine td_split ?_ (fun _ => ?_) (fun _ => ?_)); exact rfl) | (with_reducible refine c_split (fun _ => ?_) (fun _ => ?_)))
    refine mk_st hb kn ho e0 (fun C5 mk5 => ?_)
    replace mk5 := mk4.trans mk5
    obtain ⟨k5, _, _, _, _, _, _, _, _, _, _, _, -, kn, ho, -, -, -, -, e0, -⟩ := arg mk5
    repeat' (first | simp -implicitDefEqProofs only [zG1,zG2,zG3,zG4,zG5,zG6,zG7,eq_self,resV,rval,X.val,binv,fillL,setR,↓reduceIte,Nat.reduceEqDiff,Nat.reduceAdd,Nat.reduceMul,Nat.reduceLeDiff,Nat.reduceLT,Nat.reduceSub,reduceCtorEq,zGq, f0, f1, f5, g1, w1, w2, w3, w4, w5, adr_lit, Nat.zero_add, Nat.add_zero] | ((with_reducible refine rows_intro (fun _ hb => ?_)); try simp only [set_none, ne_eq] at hb) | ((with_reducible refine new_intro (fun _ hb => ?_)); try simp only [set_none, ne_eq] at hb) | (with_reducible refine draw_same ?_) | ((with_reducible refine gd_split ?_ (fun _ => ?_) (fun _ => ?_)); exact rfl) | ((with_reducible refine td_split ?_ (fun _ => ?_) (fun _ => ?_)); exact rfl) | (with_reducible refine c_split (fun _ => ?_) (fun _ => ?_)))
    refine mk_st hb kn ho e0 (fun C6 mk6 => ?_)
    replace mk6 := mk5.trans mk6
    obtain ⟨k6, _, _, _, _, _, b0, c0, _, _, _, _, -, kn, ho, -, -, -, -, -, e0, -, -, r0, -, -⟩ := arg mk6
    have q := kn.cell e0
    repeat' (first | simp -implicitDefEqProofs only [zG1,zG2,zG3,zG4,zG5,zG6,zG7,eq_self,resV,rval,X.val,binv,fillL,setR,↓reduceIte,Nat.reduceEqDiff,Nat.reduceAdd,Nat.reduceMul,Nat.reduceLeDiff,Nat.reduceLT,Nat.reduceSub,reduceCtorEq,zGq, f0, f1, f5, g1, w1, w2, w3, w4, w5, q, adr_lit, Nat.zero_add, Nat.add_zero] | ((with_reducible refine rows_intro (fun _ hb => ?_)); try simp only [set_none, ne_eq] at hb) | ((with_reducible refine new_intro (fun _ hb => ?_)); try simp only [set_none, ne_eq] at hb) | (with_reducible refine draw_same ?_) | ((with_reducible refine gd_split ?_ (fun _ => ?_) (fun _ => ?_)); exact rfl) | ((with_reducible refine td_split ?_ (fun _ => ?_) (fun _ => ?_)); exact rfl) | (with_reducible refine c_split (fun _ => ?_) (fun _ => ?_)))
    refine markEx_ok w0 ss[i].e b0 c0 _ B C6 _ r0 (by omega) (by omega) (fun m7 C7 mk7 h71 h72 => ?_)
    replace mk7 := mk6.trans mk7
    obtain ⟨k7, _, _, _, _, _, _, _, b1, c1, _, _, -, kn, ho, -, -, -, -, -, -, e0, -, -, r1, -⟩ := arg mk7
    have q := kn.cell e0
    repeat' (first | simp -implicitDefEqProofs only [zG1,zG2,zG3,zG4,zG5,zG6,zG7,eq_self,resV,rval,X.val,binv,fillL,setR,↓reduceIte,Nat.reduceEqDiff,Nat.reduceAdd,Nat.reduceMul,Nat.reduceLeDiff,Nat.reduceLT,Nat.reduceSub,reduceCtorEq,zGq, f0, f1, f5, g1, q, adr_lit, Nat.zero_add, Nat.add_zero] | ((with_reducible refine rows_intro (fun _ hb => ?_)); try simp only [set_none, ne_eq] at hb) | ((with_reducible refine new_intro (fun _ hb => ?_)); try simp only [set_none, ne_eq] at hb) | (with_reducible refine draw_same ?_) | ((with_reducible refine gd_split ?_ (fun _ => ?_) (fun _ => ?_)); exact rfl) | ((with_reducible refine td_split ?_ (fun _ => ?_) (fun _ => ?_)); exact rfl) | (with_reducible refine c_split (fun _ => ?_) (fun _ => ?_)))
    refine ih1 b1 c1 m7 B C7 _ r1 (by omega) (by omega) (fun m8 C8 mk8 h81 h82 => ?_)
    replace mk8 := mk7.trans mk8
    obtain ⟨k8, _, _, _, _, _, _, _, _, _, b2, c2, -, kn, ho, -, -, -, -, -, -, -, e0, -, -, r2⟩ := arg mk8
    have q := kn.cell e0
    repeat' (first | simp -implicitDefEqProofs only [zG1,zG2,zG3,zG4,zG5,zG6,zG7,eq_self,resV,rval,X.val,binv,fillL,setR,↓reduceIte,Nat.reduceEqDiff,Nat.reduceAdd,Nat.reduceMul,Nat.reduceLeDiff,Nat.reduceLT,Nat.reduceSub,reduceCtorEq,zGq, f0, f1, f5, g1, q, adr_lit, Nat.zero_add, Nat.add_zero] | ((with_reducible refine rows_intro (fun _ hb => ?_)); try simp only [set_none, ne_eq] at hb) | ((with_reducible refine new_intro (fun _ hb => ?_)); try simp only [set_none, ne_eq] at hb) | (with_reducible refine draw_same ?_) | ((with_reducible refine gd_split ?_ (fun _ => ?_) (fun _ => ?_)); exact rfl) | ((with_reducible refine td_split ?_ (fun _ => ?_) (fun _ => ?_)); exact rfl) | (with_reducible refine c_split (fun _ => ?_) (fun _ => ?_)))
    refine ih2 b2 c2 m8 B C8 _ r2 (by omega) (by omega) (fun m9 C9 mk9 h91 h92 => ?_)
    repeat' (first | simp -implicitDefEqProofs only [zG1,zG2,zG3,zG4,zG5,zG6,zG7,eq_self,resV,rval,X.val,binv,fillL,setR,↓reduceIte,Nat.reduceEqDiff,Nat.reduceAdd,Nat.reduceMul,Nat.reduceLeDiff,Nat.reduceLT,Nat.reduceSub,reduceCtorEq,zGq, f0, f1, f5, g3] | ((with_reducible refine rows_intro (fun _ hb => ?_)); try simp only [set_none, ne_eq] at hb) | ((with_reducible refine new_intro (fun _ hb => ?_)); try simp only [set_none, ne_eq] at hb) | (with_reducible refine draw_same ?_) | ((with_reducible refine gd_split ?_ (fun _ => ?_) (fun _ => ?_)); exact rfl) | ((with_reducible refine td_split ?_ (fun _ => ?_) (fun _ => ?_)); exact rfl) | (with_reducible refine c_split (fun _ => ?_) (fun _ => ?_)))
    exact hN _ _ _ (.refl _) ⟨m9, mk8.trans mk9, by omega, by omega, (by first | rfl | (simp only [put_at, ↓reduceIte, Nat.reduceEqDiff]; first | done | rfl | assumption) | simp [put_at, *]), (by first | rfl | (simp only [put_at, ↓reduceIte, Nat.reduceEqDiff]; first | done | rfl | assumption) | simp [put_at, *]), (by first | rfl | (simp only [put_at, ↓reduceIte, Nat.reduceEqDiff]; first | done | rfl | assumption) | simp [put_at, *])⟩
  · rintro fr C ⟨mi, mk, hm1, hm2, f0, f1, f5⟩ N
    have g0 : decide ((ss.length : Int) < (ss.length : Int)) = false := by simp
    rw [List.take_length] at hm2
    repeat' (first | simp -implicitDefEqProofs only [zG1,zG2,zG3,zG4,zG5,zG6,zG7,eq_self,resV,rval,X.val,binv,fillL,setR,↓reduceIte,Nat.reduceEqDiff,Nat.reduceAdd,Nat.reduceMul,Nat.reduceLeDiff,Nat.reduceLT,Nat.reduceSub,reduceCtorEq,zGq, f0, f1, f5, g0] | ((with_reducible refine rows_intro (fun _ hb => ?_)); try simp only [set_none, ne_eq] at hb) | ((with_reducible refine new_intro (fun _ hb => ?_)); try simp only [set_none, ne_eq] at hb) | (with_reducible refine draw_same ?_) | ((with_reducible refine gd_split ?_ (fun _ => ?_) (fun _ => ?_)); exact rfl) | ((with_reducible refine td_split ?_ (fun _ => ?_) (fun _ => ?_)); exact rfl) | (with_reducible refine c_split (fun _ => ?_) (fun _ => ?_)))
    exact ret_same (h mi C mk hm1 (by omega))
mutual
theorem mtA_ok : ∀ s : St, MtS w0 s.body ∧ MtS w0 s.els
  | .mk _ _ _ _ body els => ⟨mtS_of w0 body (mtL_ok body), mtS_of w0 els (mtL_ok els)⟩
theorem mtL_ok : ∀ ss : List St, ∀ s ∈ ss, MtS w0 s.body ∧ MtS w0 s.els
  | [], s, hs => by cases hs
  | t :: ts, s, hs => by
    rcases List.mem_cons.1 hs with h | h
    · rw [h]; exact mtA_ok t
    · exact mtL_ok ts s h
end
theorem markStmtS_ok (ss : List St) : MtS w0 ss := mtS_of w0 ss (mtL_ok w0 ss)
end Go.Proofs.Ytfjhjfddgdokgaa
namespace Go.Proofs.Ytfjhjfddgdokgaa
set_option linter.all false
open Go Go.RowKit
set_option maxRecDepth 100000
variable (w0 : World) (C : AHeap) (K : Value → AHeap → Prop)
theorem markQuadS_rw {t : TypeId} {v : Value} {n : Nat} {xs : List Value} {bs : List Nat} (hr : Rw C t 5 v n xs bs) (hn : n ≤ 4294967296) (k : Int) (h0 : 0 ≤ k) (h1 : k ≤ 4294967296)
    (h : ∀ C', Chg C C' bs → Rw C' t 5 v n (ints (marks k (n * 5))) bs → K (.int .i64 (k + 5 * n)) C') : ACalls Try.prog w0 21 [v, .int .i64 k] C K := by
  obtain ⟨A, B, lB, oB, hA⟩ := hr.own_
  refine ACalls.mono (markQuadS_ok _ _ _ _ _ _ _ _ k oB hn h0 h1 (fun C' o => ?_)) lB
  obtain ⟨h1, h2⟩ := Rw.put oB hA hr rfl o
  exact h C' h1 h2
end Go.Proofs.Ytfjhjfddgdokgaa
namespace Go.Proofs.Ytfjhjfddgdokgaa
set_option linter.all false
open Go Go.RowKit Go.Joins Go.ChangeShapes Go.WideShapes Go.ChangeAt Go.Deep
set_option linter.unusedVariables false
set_option maxRecDepth 100000
section
variable (w0 : World) (H : AHeap) (K : Value → AHeap → Prop)
theorem szIntS_ok (A : Option Addr) (n c : Nat) (l : Int) (h1 : n ≤ maxLen) (h2 : 0 ≤ l) (h3 : l ≤ 4611686018427387904) (h : K (.int .i64 (if l < n then -1 else l - n)) H) :
    ACalls Try.prog w0 75 [.slice A n c, .int .i64 l] H K := by
  have e0 : (n : Int) ≤ 9223372036854775807 := by simp only [maxLen] at h1; omega
  have e1 : IntKind.i64.wrap (l - n) = l - n := wrap_i64 (by omega) (by omega)
  refine acalls_of_sx mix Try.func75 of75 (by simp [ir75]) ?_; rw [ir75]; (try delta qT qI qC qO qM qG)
  repeat' (first | simp -implicitDefEqProofs only [zG1,zG2,zG3,zG4,zG5,zG6,zG7,eq_self,resV,rval,X.val,binv,fillL,setR,↓reduceIte,Nat.reduceEqDiff,Nat.reduceAdd,Nat.reduceMul,Nat.reduceLeDiff,Nat.reduceLT,Nat.reduceSub,reduceCtorEq,zGr, e1] | ((with_reducible refine rows_intro (fun _ hb => ?_)); try simp only [set_none, ne_eq] at hb) | ((with_reducible refine new_intro (fun _ hb => ?_)); try simp only [set_none, ne_eq] at hb) | (with_reducible refine draw_same ?_) | ((with_reducible refine gd_split ?_ (fun _ => ?_) (fun _ => ?_)); exact rfl) | ((with_reducible refine td_split ?_ (fun _ => ?_) (fun _ => ?_)); exact rfl) | (with_reducible refine c_split (fun _ => ?_) (fun _ => ?_)))
  all_goals (refine ret_same (ki h ?_))
  all_goals (try simp only [beq_iff_eq, beq_eq_false_iff_ne, bne_iff_ne, bne_eq_false_iff_eq, decide_eq_true_eq, decide_eq_false_iff_not, ne_eq, Bool.not_eq_true, Bool.not_eq_false, Bool.not_eq_eq_eq_not, Bool.not_true, Bool.not_false, Int.not_lt, Int.not_le, ge_iff_le, gt_iff_lt] at *)
  all_goals (split <;> omega)
theorem repl_zeroI (n : Nat) : repl [Value.int .i64 0] n = ints (List.replicate n 0) := by
  induction n with
  | zero => rfl
  | succ n ih => simp only [repl, ih, List.replicate_succ]; rfl
theorem toIntS_ok (A : Option Addr) (c : Nat) (xs : List Int) (hx : Fl H A (ints xs)) (hn : xs.length ≤ 1048576) (h : ∀ v C bs, AHeap.le H C → New H bs → Rw C 3 1 v xs.length (ints xs) bs → K v C) :
    ACalls Try.prog w0 39 [.slice A xs.length c] H K := by
  refine acalls_of_sx mix Try.func39 of39 (by simp [ir39]) ?_; rw [ir39]; (try delta qT qI qC qO qM qG)
  repeat' (first | simp -implicitDefEqProofs only [zG1,zG2,zG3,zG4,zG5,zG6,zG7,eq_self,resV,rval,X.val,binv,fillL,setR,↓reduceIte,Nat.reduceEqDiff,Nat.reduceAdd,Nat.reduceMul,Nat.reduceLeDiff,Nat.reduceLT,Nat.reduceSub,reduceCtorEq,zGp] | ((with_reducible refine rows_intro (fun _ hb => ?_)); try simp only [set_none, ne_eq] at hb) | ((with_reducible refine new_intro (fun _ hb => ?_)); try simp only [set_none, ne_eq] at hb) | (with_reducible refine draw_same ?_) | ((with_reducible refine gd_split ?_ (fun _ => ?_) (fun _ => ?_)); exact rfl) | ((with_reducible refine td_split ?_ (fun _ => ?_) (fun _ => ?_)); exact rfl) | (with_reducible refine c_split (fun _ => ?_) (fun _ => ?_)))
  refine mk_intro (n := xs.length) (by omega) (by omega) (fun b hb => ?_)
  repeat' (first | simp -implicitDefEqProofs only [zG1,zG2,zG3,zG4,zG5,zG6,zG7,eq_self,resV,rval,X.val,binv,fillL,setR,↓reduceIte,Nat.reduceEqDiff,Nat.reduceAdd,Nat.reduceMul,Nat.reduceLeDiff,Nat.reduceLT,Nat.reduceSub,reduceCtorEq,zGp] | ((with_reducible refine rows_intro (fun _ hb => ?_)); try simp only [set_none, ne_eq] at hb) | ((with_reducible refine new_intro (fun _ hb => ?_)); try simp only [set_none, ne_eq] at hb) | (with_reducible refine draw_same ?_) | ((with_reducible refine gd_split ?_ (fun _ => ?_) (fun _ => ?_)); exact rfl) | ((with_reducible refine td_split ?_ (fun _ => ?_) (fun _ => ?_)); exact rfl) | (with_reducible refine c_split (fun _ => ?_) (fun _ => ?_)))
  refine for_rule xs.length (fun k fr C => AHeap.le H C ∧ Kn C b ⟨ints (xs.take k ++ List.replicate (xs.length - k) 0), true, 3, xs.length * 1⟩ ∧ fr 0 = .slice A xs.length c ∧ fr 3 = .slice (some ⟨b, 0, none⟩) xs.length xs.length ∧ fr 4 = .int .i64 k)
    ⟨(AHeap.le.refl H).fresh hb _, by rw [List.take_zero, List.nil_append, Nat.sub_zero, ← repl_zeroI]; exact Kn.same _ _ _, (by first | rfl | (simp only [put_at, ↓reduceIte, Nat.reduceEqDiff]; first | done | rfl | assumption) | simp [put_at, *]), (by first | rfl | (simp only [put_at, ↓reduceIte, Nat.reduceEqDiff]; first | done | rfl | assumption) | simp [put_at, *]), (by first | rfl | (simp only [put_at, ↓reduceIte, Nat.reduceEqDiff]; first | done | rfl | assumption) | simp [put_at, *])⟩ ?_ ?_
  · rintro k fr C hk ⟨hle, kn, f0, f3, f4⟩ N hN
    have g0 := lt_dec hk
    have g1 := rng hk
    have g2 := up1 hk (by omega)
    have q1 := (hx.le hle).int hk
    have q2 := (hx.le hle).ints_is hk
    have ll : (xs.take k ++ List.replicate (xs.length - k) (0 : Int)).length = xs.length := by simp; omega
    have es : (xs.take k ++ List.replicate (xs.length - k) (0 : Int)).set k xs[k] = xs.take (k + 1) ++ List.replicate (xs.length - (k + 1)) 0 := by
      obtain ⟨m, hm⟩ : ∃ m, xs.length - k = m + 1 := ⟨xs.length - k - 1, by omega⟩
      have el : (xs.take k).length = k := by simp; omega
      rw [List.set_append_right _ _ (by omega), el, Nat.sub_self, hm, List.replicate_succ, List.set_cons_zero, List.take_add_one, List.getElem?_eq_getElem hk, show xs.length - (k + 1) = m by omega, Option.toList_some, List.append_assoc]
      rfl
    repeat' (first | simp -implicitDefEqProofs only [zG1,zG2,zG3,zG4,zG5,zG6,zG7,eq_self,resV,rval,X.val,binv,fillL,setR,↓reduceIte,Nat.reduceEqDiff,Nat.reduceAdd,Nat.reduceMul,Nat.reduceLeDiff,Nat.reduceLT,Nat.reduceSub,reduceCtorEq,zGp, f0, f3, f4, g0, g1, g2, q1, q2, adr_lit, Nat.zero_add, Nat.mul_one] | ((with_reducible refine rows_intro (fun _ hb => ?_)); try simp only [set_none, ne_eq] at hb) | ((with_reducible refine new_intro (fun _ hb => ?_)); try simp only [set_none, ne_eq] at hb) | (with_reducible refine draw_same ?_) | ((with_reducible refine gd_split ?_ (fun _ => ?_) (fun _ => ?_)); exact rfl) | ((with_reducible refine td_split ?_ (fun _ => ?_) (fun _ => ?_)); exact rfl) | (with_reducible refine c_split (fun _ => ?_) (fun _ => ?_)))
    refine st_kn kn rfl rfl (by simp only; rw [ints_len, ll]; show k + 1 ≤ _; omega) (by simp [vcI, ocI]) (fun C6 hc6 ho6 k6 => ?_)
    repeat' (first | simp -implicitDefEqProofs only [zG1,zG2,zG3,zG4,zG5,zG6,zG7,eq_self,resV,rval,X.val,binv,fillL,setR,↓reduceIte,Nat.reduceEqDiff,Nat.reduceAdd,Nat.reduceMul,Nat.reduceLeDiff,Nat.reduceLT,Nat.reduceSub,reduceCtorEq,zGp, f0, f3, f4, g2] | ((with_reducible refine rows_intro (fun _ hb => ?_)); try simp only [set_none, ne_eq] at hb) | ((with_reducible refine new_intro (fun _ hb => ?_)); try simp only [set_none, ne_eq] at hb) | (with_reducible refine draw_same ?_) | ((with_reducible refine gd_split ?_ (fun _ => ?_) (fun _ => ?_)); exact rfl) | ((with_reducible refine td_split ?_ (fun _ => ?_) (fun _ => ?_)); exact rfl) | (with_reducible refine c_split (fun _ => ?_) (fun _ => ?_)))
    refine hN _ _ _ (.refl _) ⟨hc6.keep hle (New.one hb), ?_, (by first | rfl | (simp only [put_at, ↓reduceIte, Nat.reduceEqDiff]; first | done | rfl | assumption) | simp [put_at, *]), (by first | rfl | (simp only [put_at, ↓reduceIte, Nat.reduceEqDiff]; first | done | rfl | assumption) | simp [put_at, *]), (by first | rfl | (simp only [put_at, ↓reduceIte, Nat.reduceEqDiff]; first | done | rfl | assumption) | simp [put_at, *])⟩
    have : (ints (xs.take k ++ List.replicate (xs.length - k) (0 : Int))).set k (.int .i64 xs[k]) = ints (xs.take (k + 1) ++ List.replicate (xs.length - (k + 1)) 0) := by rw [← es]; simp [ints, List.map_set]
    rw [← this]; exact k6
  · rintro fr C ⟨hle, kn, f0, f3, f4⟩ N
    have g0 : decide ((xs.length : Int) < (xs.length : Int)) = false := by simp
    rw [List.take_of_length_le (Nat.le_refl _), Nat.sub_self, List.replicate_zero, List.append_nil] at kn
    repeat' (first | simp -implicitDefEqProofs only [zG1,zG2,zG3,zG4,zG5,zG6,zG7,eq_self,resV,rval,X.val,binv,fillL,setR,↓reduceIte,Nat.reduceEqDiff,Nat.reduceAdd,Nat.reduceMul,Nat.reduceLeDiff,Nat.reduceLT,Nat.reduceSub,reduceCtorEq,zGp, f0, f3, f4, g0] | ((with_reducible refine rows_intro (fun _ hb => ?_)); try simp only [set_none, ne_eq] at hb) | ((with_reducible refine new_intro (fun _ hb => ?_)); try simp only [set_none, ne_eq] at hb) | (with_reducible refine draw_same ?_) | ((with_reducible refine gd_split ?_ (fun _ => ?_) (fun _ => ?_)); exact rfl) | ((with_reducible refine td_split ?_ (fun _ => ?_) (fun _ => ?_)); exact rfl) | (with_reducible refine c_split (fun _ => ?_) (fun _ => ?_)))
    exact ret_same (h _ _ [b] hle (New.one hb) (Rw.mk kn (by rw [ints_len, Nat.mul_one]) (Nat.le_refl _) (by simp only [maxLen]; omega)))
end
end Go.Proofs.Ytfjhjfddgdokgaa
namespace Go.Proofs.Ytfjhjfddgdokgaa
set_option linter.all false
open Go Go.RowKit
set_option maxRecDepth 100000
variable (w0 : World) (H : AHeap) (K : Value → AHeap → Prop)
def sumL (L : List (List Qd)) : Nat := (L.map List.length).sum
def sumP (ts : List (List Int × Int)) : Nat := (ts.map fun t => t.1.length).sum
end Go.Proofs.Ytfjhjfddgdokgaa
namespace Go.Proofs.Ytfjhjfddgdokgaa
set_option linter.all false
open Go Go.RowKit
set_option maxRecDepth 100000
variable (w0 : World)
structure CrR (H : AHeap) (c : Cr) (A0 A1 A2 A5 : Option Addr) : Prop where
  f0 : FR H A0 c.codes
  f1 : FP H A1 0 1 c.threads
  f2 : FP H A2 1 0 c.boxes
  f5 : Fl H A5 (ints c.log)
theorem CrR.le {H H' : AHeap} {c : Cr} {A0 A1 A2 A5 : Option Addr} (h : CrR H c A0 A1 A2 A5) (l : AHeap.le H H') : CrR H' c A0 A1 A2 A5 := ⟨h.f0.le l, h.f1.le l, h.f2.le l, h.f5.le l⟩
def Cr.size (c : Cr) : Nat := (c.codes.length + sumL c.codes) + (c.threads.length + sumP c.threads) + (c.boxes.length + sumP c.boxes) + c.log.length
section
variable (H : AHeap) (K : Value → AHeap → Prop) (c : Cr) (A0 : Option Addr) (c0 : Nat) (A1 : Option Addr) (c1 : Nat) (A2 : Option Addr) (c2 : Nat) (A5 : Option Addr) (c5 : Nat)
end
end Go.Proofs.Ytfjhjfddgdokgaa
namespace Go.Proofs.Ytfjhjfddgdokgaa
set_option linter.all false
open Go Go.RowKit
set_option maxRecDepth 100000
variable (w0 : World) (C : AHeap) (K : Value → AHeap → Prop)
theorem markIntS_rw {t : TypeId} {v : Value} {n : Nat} {xs : List Value} {bs : List Nat} (hr : Rw C t 1 v n xs bs) (hn : n ≤ 4611686018427387904) (k : Int) (h0 : 0 ≤ k) (h1 : k < 4611686018427387904)
    (h : ∀ C', Chg C C' bs → Rw C' t 1 v n (ints (marks k n)) bs → K (.int .i64 (k + n)) C') : ACalls Try.prog w0 43 [v, .int .i64 k] C K := by
  obtain ⟨A, B, lB, oB, hA⟩ := hr.own_
  refine ACalls.mono (markIntS_ok _ _ _ _ _ _ _ _ k oB hn h0 h1 (fun C' o => ?_)) lB
  obtain ⟨h1, h2⟩ := Rw.put oB hA hr rfl o
  exact h C' h1 h2
end Go.Proofs.Ytfjhjfddgdokgaa
namespace Go.Proofs.Ytfjhjfddgdokgaa
set_option linter.all false
open Go Go.RowKit
set_option maxRecDepth 100000
/-- The row of numbers stands at place o of a pair, the number at place u. -/
def OP (C : AHeap) (t' : TypeId) (o u : Nat) (v : Value) (ts : List (List Int × Int)) (bs : List Nat) : Prop :=
  ∃ (vs : List Value) (ob : List Nat) (bss : List (List Nat)), Rw C t' 2 v ts.length vs ob ∧ (∀ x, x ∈ ob → x ∈ bs) ∧
    (∀ (i : Nat) (ib : List Nat), bss[i]? = some ib → (∀ x, x ∈ ib → x ∈ bs ∧ ¬ x ∈ ob) ∧ ∀ (j : Nat) (jb : List Nat), bss[j]? = some jb → i ≠ j → ∀ x, x ∈ ib → ¬ x ∈ jb) ∧
    ∀ (i : Nat) (hi : i < ts.length), ∃ x ib, vs[i * 2 + o]? = some x ∧ vs[i * 2 + u]? = some (.int .i64 ts[i].2) ∧ bss[i]? = some ib ∧ Rw C 3 1 x ts[i].1.length (ints ts[i].1) ib
section
variable {H C C' : AHeap} {t' : TypeId} {o u : Nat} {v : Value} {ts : List (List Int × Int)} {bs bs' : List Nat} {A : Option Addr} {m c : Nat}
theorem OP.trans (h : OP C t' o u v ts bs) (l : AHeap.le C C') : OP C' t' o u v ts bs := by
  obtain ⟨vs, ob, bss, h1, h2, h3, h4⟩ := h
  refine ⟨vs, ob, bss, h1.trans l, h2, h3, fun i hi => ?_⟩
  obtain ⟨x, ib, e1, e2, e3, e4⟩ := h4 i hi
  exact ⟨x, ib, e1, e2, e3, e4.trans l⟩
theorem OP.chg (h : OP C t' o u v ts bs) (hc : Chg C C' bs') (hd : ∀ b, b ∈ bs → ¬ b ∈ bs') : OP C' t' o u v ts bs := by
  obtain ⟨vs, ob, bss, h1, h2, h3, h4⟩ := h
  refine ⟨vs, ob, bss, h1.chg hc fun y hy => hd y (h2 y hy), h2, h3, fun i hi => ?_⟩
  obtain ⟨x, ib, e1, e2, e3, e4⟩ := h4 i hi
  exact ⟨x, ib, e1, e2, e3, e4.chg hc fun y hy => hd y ((h3 i ib e3).1 y hy).1⟩
theorem OP.slice (h : OP C t' o u v ts bs) : ∃ A c, v = .slice A ts.length c := by
  obtain ⟨vs, ob, bss, h1, _⟩ := h
  exact h1.slice
/-- A row of numbers, changed in place. -/
theorem OP.inner (h : OP C t' o u (.slice A m c) ts bs) {i : Nat} (hi : i < ts.length) : A.isSome = true ∧ ∃ x ib, C.cell (adr A (i * 2 + o)) = some x ∧ Rw C 3 1 x ts[i].1.length (ints ts[i].1) ib ∧ (∀ y, y ∈ ib → y ∈ bs) ∧
    ∀ C' xs', xs'.length = ts[i].1.length → Chg C C' ib → Rw C' 3 1 x ts[i].1.length (ints xs') ib → OP C' t' o u (.slice A m c) (ts.set i (xs', ts[i].2)) bs := by
  obtain ⟨vs, ob, bss, h1, h2, h3, h4⟩ := h
  obtain ⟨x, ib, e1, e2, e3, e4⟩ := h4 i hi
  have hf := h1.fl'.1
  refine ⟨hf.is (i := i * 2 + o) ((List.getElem?_eq_some_iff.1 e1).1), x, ib, hf _ _ e1, e4, fun y hy => ((h3 i ib e3).1 y hy).1, fun C' xs' hl hc hw => ⟨vs, ob, bss, ?_, h2, h3, fun j hj => ?_⟩⟩
  · rw [List.length_set]
    exact h1.chg hc fun y hy hm => ((h3 i ib e3).1 y hm).2 hy
  · rw [List.length_set] at hj
    rw [List.getElem_set]
    split
    · rename_i e
      subst e
      exact ⟨x, ib, e1, e2, e3, by simp only; rw [hl]; exact hw⟩
    · rename_i e
      obtain ⟨x', ib', a1, a2, a3, a4⟩ := h4 j hj
      exact ⟨x', ib', a1, a2, a3, a4.chg hc ((h3 j ib' a3).2 i ib e3 (fun e' => e e'.symm))⟩
theorem OP.off (h : OP C t' o u v ts bs) (hn : New H bs) : OP (C.off H) t' o u v ts bs := by
  obtain ⟨vs, ob, bss, h1, h2, h3, h4⟩ := h
  have w : ∀ {t : TypeId} {sz : Nat} {v : Value} {n : Nat} {xs : List Value} {cs : List Nat}, Rw C t sz v n xs cs → (∀ y, y ∈ cs → y ∈ bs) → Rw (C.off H) t sz v n xs cs := fun h hs => by
    rcases h with h | ⟨b, cap, h1, rfl, h3, h4, h5, h6⟩
    · exact .inl h
    · exact .inr ⟨b, cap, h1, rfl, h3, h4, h5, kn_off (hn b (hs b (by simp))) h6⟩
  refine ⟨vs, ob, bss, w h1 h2, h2, h3, fun i hi => ?_⟩
  obtain ⟨x, ib, e1, e2, e3, e4⟩ := h4 i hi
  exact ⟨x, ib, e1, e2, e3, w e4 fun y hy => ((h3 i ib e3).1 y hy).1⟩
end
end Go.Proofs.Ytfjhjfddgdokgaa
namespace Go.Proofs.Ytfjhjfddgdokgaa
set_option linter.all false
open Go Go.RowKit
set_option maxRecDepth 100000
variable (w0 : World) (H : AHeap) (K : Value → AHeap → Prop)
theorem rw_kn {C : AHeap} {t : TypeId} {sz : Nat} {v : Value} {n : Nat} {xs : List Value} {bs : List Nat} (h : Rw C t sz v n xs bs) : ∀ y, y ∈ bs → C y ≠ none := fun y hy => by
  rcases h with ⟨_, _, _, rfl⟩ | ⟨bb, cap, _, rfl, _, _, _, kk⟩
  · simp at hy
  · simp at hy; subst hy; exact kk.ne
/-- The pairs made so far, in blocks of their own. -/
def OPk (H C : AHeap) (b : Nat) (o u : Nat) (ts : List (List Int × Int)) (k : Nat) (vs : List Value) (bf : Nat → List Nat) : Prop :=
  ∀ i (hi : i < ts.length), i < k → ∃ x, vs[i * 2 + o]? = some x ∧ vs[i * 2 + u]? = some (.int .i64 ts[i].2) ∧ Rw C 3 1 x ts[i].1.length (ints ts[i].1) (bf i) ∧ (∀ y, y ∈ bf i → H y = none ∧ ¬ y = b) ∧ ∀ j, j < i → ∀ y, y ∈ bf i → ¬ y ∈ bf j
theorem OPk.op {H C : AHeap} {b o u : Nat} {t' : TypeId} {ts : List (List Int × Int)} {vs : List Value} {bf : Nat → List Nat} (h : OPk H C b o u ts ts.length vs bf) (hk : Kn C b ⟨vs, true, t', ts.length * 2⟩) (hl : vs.length = ts.length * 2) (hm : ts.length ≤ maxLen) (hb : H b = none) :
    OP C t' o u (.slice (some ⟨b, 0, none⟩) ts.length ts.length) ts (b :: ((List.range ts.length).map bf).flatten) ∧ New H (b :: ((List.range ts.length).map bf).flatten) ∧ ∀ y, y ∈ (b :: ((List.range ts.length).map bf).flatten) → C y ≠ none := by
  have at_ : ∀ i ib, ((List.range ts.length).map bf)[i]? = some ib → i < ts.length ∧ ib = bf i := fun i ib e => by
    rw [List.getElem?_map] at e
    rcases Nat.lt_or_ge i ts.length with hi | hi
    · rw [List.getElem?_range hi] at e
      simp only [Option.map_some, Option.some.injEq] at e
      exact ⟨hi, e.symm⟩
    · rw [List.getElem?_eq_none (by simpa using hi)] at e
      simp at e
  have mem : ∀ y, y ∈ ((List.range ts.length).map bf).flatten → ∃ i, i < ts.length ∧ y ∈ bf i := fun y hy => by
    simp only [List.mem_flatten, List.mem_map, List.mem_range] at hy
    obtain ⟨l, ⟨i, hi, rfl⟩, hy⟩ := hy
    exact ⟨i, hi, hy⟩
  refine ⟨⟨vs, [b], (List.range ts.length).map bf, Rw.mk hk hl (Nat.le_refl _) hm, fun x hx => by simp only [List.mem_cons, List.not_mem_nil, or_false] at hx; subst hx; exact List.mem_cons_self, fun i ib e => ?_, fun i hi => ?_⟩, fun y hy => ?_, fun y hy => ?_⟩
  · obtain ⟨hi, rfl⟩ := at_ i ib e
    obtain ⟨x, e1, e2, e3, e4, e5⟩ := h i hi hi
    refine ⟨fun y hy => ⟨List.mem_cons_of_mem _ ?_, by simpa using (e4 y hy).2⟩, fun j jb e' hne => ?_⟩
    · simp only [List.mem_flatten, List.mem_map, List.mem_range]
      exact ⟨_, ⟨i, hi, rfl⟩, hy⟩
    · obtain ⟨hj, rfl⟩ := at_ j jb e'
      rcases Nat.lt_or_gt_of_ne hne with hlt | hgt
      · intro y hy hy'
        obtain ⟨_, _, _, _, _, e5'⟩ := h j hj hj
        exact e5' i hlt y hy' hy
      · exact e5 j hgt
  · obtain ⟨x, e1, e2, e3, e4, e5⟩ := h i hi hi
    exact ⟨x, bf i, e1, e2, by rw [List.getElem?_map, List.getElem?_range hi]; rfl, e3⟩
  · simp only [List.mem_cons] at hy
    rcases hy with rfl | hy
    · exact hb
    · obtain ⟨i, hi, hy⟩ := mem y hy
      obtain ⟨x, e1, e2, e3, e4, e5⟩ := h i hi hi
      exact (e4 y hy).1
  · simp only [List.mem_cons] at hy
    rcases hy with rfl | hy
    · exact hk.ne
    · obtain ⟨i, hi, hy⟩ := mem y hy
      obtain ⟨x, e1, e2, e3, e4, e5⟩ := h i hi hi
      exact rw_kn e3 y hy
theorem OPk.put {H C C5 C6 : AHeap} {b o u k : Nat} {ts : List (List Int × Int)} {vs vs' : List Value} {bf : Nat → List Nat} {x : Value} {bs5 : List Nat} (h : OPk H C b o u ts k vs bf) (hk : k < ts.length) (hle : AHeap.le H C) (l5 : AHeap.le C C5) (n5 : New C bs5) (w5 : Rw C5 3 1 x ts[k].1.length (ints ts[k].1) bs5) (hc : Chg C5 C6 [b]) (kb : C b ≠ none)
    (g : ∀ j, ¬ (k * 2 ≤ j ∧ j < k * 2 + 2) → vs'[j]? = vs[j]?) (g1 : vs'[k * 2 + o]? = some x) (g2 : vs'[k * 2 + u]? = some (.int .i64 ts[k].2)) (ho : o < 2) (hu : u < 2) : OPk H C6 b o u ts (k + 1) vs' (fun i => if i = k then bs5 else bf i) := by
  intro i hi hik
  have nb : ¬ b ∈ bs5 := fun hm => kb (n5 b hm)
  have e : (fun i => if i = k then bs5 else bf i) i = if i = k then bs5 else bf i := rfl
  by_cases hi' : i = k
  · subst hi'
    refine ⟨x, g1, g2, ?_, ?_, ?_⟩
    · simp only [if_true]
      exact w5.chg hc fun y hy e => nb (by simp at e; exact e ▸ hy)
    · simp only [if_true]
      exact fun y hy => ⟨n5.le hle y hy, fun e => nb (e ▸ hy)⟩
    · intro j hj y hy hy'
      simp only [if_true] at hy
      simp only [if_neg (show ¬ j = i by omega)] at hy'
      obtain ⟨x', e1, e2, e3, e4, e5⟩ := h j (by omega) hj
      exact rw_kn e3 y hy' (n5 y hy)
  · obtain ⟨x', e1, e2, e3, e4, e5⟩ := h i hi (by omega)
    refine ⟨x', by rw [g _ (by omega)]; exact e1, by rw [g _ (by omega)]; exact e2, ?_, ?_, ?_⟩
    · simp only [if_neg hi']
      exact (e3.trans l5).chg hc fun y hy e => (e4 y hy).2 (by simpa using e)
    · simp only [if_neg hi']
      exact e4
    · intro j hj y hy
      simp only [if_neg hi'] at hy
      simp only [if_neg (show ¬ j = k by omega)]
      exact e5 j hj y hy
end Go.Proofs.Ytfjhjfddgdokgaa
namespace Go.Proofs.Ytfjhjfddgdokgaa
set_option linter.all false
open Go Go.RowKit
set_option maxRecDepth 100000
variable (w0 : World)
/-- No block stands in both. -/
abbrev Apart (a b : List Nat) : Prop := ∀ y, y ∈ a → ¬ y ∈ b
/-- A crew's rows, all of the call's own, no two in the same block. -/
structure OwC (C : AHeap) (c : Cr) (v0 v1 v2 v5 : Value) (b0 b1 b2 b5 : List Nat) : Prop where
  r0 : Rs C 29 111 5 v0 (c.codes.map qcells) b0
  r1 : OP C 125 0 1 v1 c.threads b1
  r2 : OP C 179 1 0 v2 c.boxes b2
  r5 : Rw C 3 1 v5 c.log.length (ints c.log) b5
  d01 : Apart b1 b0
  d02 : Apart b2 b0
  d05 : Apart b5 b0
  d12 : Apart b2 b1
  d15 : Apart b5 b1
  d25 : Apart b5 b2
theorem Apart.symm {a b : List Nat} (h : Apart a b) : Apart b a := fun y h1 h2 => h y h2 h1
theorem OwC.trans {C C' : AHeap} {c : Cr} {v0 v1 v2 v5 : Value} {b0 b1 b2 b5 : List Nat} (h : OwC C c v0 v1 v2 v5 b0 b1 b2 b5) (l : AHeap.le C C') : OwC C' c v0 v1 v2 v5 b0 b1 b2 b5 :=
  ⟨h.r0.trans l, h.r1.trans l, h.r2.trans l, h.r5.trans l, h.d01, h.d02, h.d05, h.d12, h.d15, h.d25⟩
theorem OwC.chg {C C' : AHeap} {c : Cr} {v0 v1 v2 v5 : Value} {b0 b1 b2 b5 bs : List Nat} (h : OwC C c v0 v1 v2 v5 b0 b1 b2 b5) (hc : Chg C C' bs) (h0 : Apart b0 bs) (h1 : Apart b1 bs) (h2 : Apart b2 bs) (h5 : Apart b5 bs) : OwC C' c v0 v1 v2 v5 b0 b1 b2 b5 :=
  ⟨h.r0.chg hc h0, h.r1.chg hc h1, h.r2.chg hc h2, h.r5.chg hc h5, h.d01, h.d02, h.d05, h.d12, h.d15, h.d25⟩
theorem Chg.kept {C C' : AHeap} {bs : List Nat} {y : Nat} (hc : Chg C C' bs) (h : C y ≠ none) (hd : ¬ y ∈ bs) : C' y ≠ none := by
  cases e : C y with
  | none => exact absurd e h
  | some k => exact (hc y k hd e).ne
theorem st_own {C : AHeap} {K : Value → AHeap → Prop} {x o n n' : Nat} {t : TypeId} {cs : List Value} {v : Value} (k : Kn C x ⟨cs, true, t, n'⟩) (vs : List Value) (hv : v.cells = vs.toArray) (hn : vs.length = n) (hl : o + n ≤ cs.length) (h1 : ∀ u ∈ vs, u.oneCell' = true)
    (h : ∀ C', Chg C C' [x] → Kn C' x ⟨setR cs o vs, true, t, n'⟩ → K undef C') : stK n (.pointer (some ⟨x, o, none⟩)) v K C := by
  refine st_kn k rfl (by rw [hv]; simpa using hn) hl (by rw [hv]; exact h1) (fun C' hc ho k => ?_)
  rw [hv] at k
  exact h C' hc k
section
variable (H : AHeap) (K : Value → AHeap → Prop) (c : Cr) (A0 : Option Addr) (c0 : Nat) (A1 : Option Addr) (c1 : Nat) (A2 : Option Addr) (c2 : Nat) (A5 : Option Addr) (c5 : Nat)
end
end Go.Proofs.Ytfjhjfddgdokgaa
namespace Go.Proofs.Ytfjhjfddgdokgaa
set_option linter.all false
open Go Go.RowKit
set_option maxRecDepth 100000
variable (w0 : World)
def sumT (ts : List (List St)) : Nat := (ts.map szT).sum
theorem sumT_step {ts : List (List St)} {k : Nat} (hk : k < ts.length) : sumT (ts.take (k + 1)) = sumT (ts.take k) + szT ts[k] := by
  have e : ts.take (k + 1) = ts.take k ++ [ts[k]] := by rw [List.take_add_one, List.getElem?_eq_getElem hk]; rfl
  rw [e]
  simp only [sumT, List.map_append, List.sum_append, List.map_cons, List.map_nil, List.sum_cons, List.sum_nil, Nat.add_zero]
theorem sumT_le (ts : List (List St)) (k : Nat) : sumT (ts.take k) ≤ sumT ts := by
  have : sumT ts = sumT (ts.take k) + sumT (ts.drop k) := by
    conv => lhs; rw [← List.take_append_drop k ts]
    simp only [sumT, List.map_append, List.sum_append]
  omega
theorem sumT_at {ts : List (List St)} {i : Nat} (hi : i < ts.length) : szT ts[i] ≤ sumT ts := by
  have := sumT_step hi
  have := sumT_le ts (i + 1)
  omega
section
variable (H : AHeap) (K : Value → AHeap → Prop)
theorem szStmtSS_ok (A : Option Addr) (c : Nat) (L : List (List St)) (hx : SR H A L) (hm : L.length ≤ maxLen) (hL : ∀ x ∈ L, x.length ≤ maxLen) (l : Int) (h2 : 0 ≤ l) (h3 : l ≤ 4611686018427387904) (h : K (.int .i64 (if l < L.length + sumT L then -1 else l - (L.length + sumT L))) H) :
    ACalls Try.prog w0 76 [.slice A L.length c, .int .i64 l] H K := by
  have e0 : (L.length : Int) ≤ 9223372036854775807 := by simp only [maxLen] at hm; omega
  have e1 : IntKind.i64.wrap (l - L.length) = l - L.length := wrap_i64 (by omega) (by omega)
  by_cases hl : l < L.length
  · have d1 : decide (l - (L.length : Int) < 0) = true := by simp; omega
    rw [if_pos (by omega)] at h
    refine acalls_of_sx mix Try.func76 of76 (by simp [ir76]) ?_; rw [ir76]; (try delta qT qI qC qO qM qG)
    repeat' (first | simp -implicitDefEqProofs only [zG1,zG2,zG3,zG4,zG5,zG6,zG7,eq_self,resV,rval,X.val,binv,fillL,setR,↓reduceIte,Nat.reduceEqDiff,Nat.reduceAdd,Nat.reduceMul,Nat.reduceLeDiff,Nat.reduceLT,Nat.reduceSub,reduceCtorEq,zGp, e1, d1] | ((with_reducible refine rows_intro (fun _ hb => ?_)); try simp only [set_none, ne_eq] at hb) | ((with_reducible refine new_intro (fun _ hb => ?_)); try simp only [set_none, ne_eq] at hb) | (with_reducible refine draw_same ?_) | ((with_reducible refine gd_split ?_ (fun _ => ?_) (fun _ => ?_)); exact rfl) | ((with_reducible refine td_split ?_ (fun _ => ?_) (fun _ => ?_)); exact rfl) | (with_reducible refine c_split (fun _ => ?_) (fun _ => ?_)))
    exact ret_same h
  · have d1 : decide (l - (L.length : Int) < 0) = false := by simp; omega
    refine acalls_of_sx mix Try.func76 of76 (by simp [ir76]) ?_; rw [ir76]; (try delta qT qI qC qO qM qG)
    repeat' (first | simp -implicitDefEqProofs only [zG1,zG2,zG3,zG4,zG5,zG6,zG7,eq_self,resV,rval,X.val,binv,fillL,setR,↓reduceIte,Nat.reduceEqDiff,Nat.reduceAdd,Nat.reduceMul,Nat.reduceLeDiff,Nat.reduceLT,Nat.reduceSub,reduceCtorEq,zGp, e1, d1] | ((with_reducible refine rows_intro (fun _ hb => ?_)); try simp only [set_none, ne_eq] at hb) | ((with_reducible refine new_intro (fun _ hb => ?_)); try simp only [set_none, ne_eq] at hb) | (with_reducible refine draw_same ?_) | ((with_reducible refine gd_split ?_ (fun _ => ?_) (fun _ => ?_)); exact rfl) | ((with_reducible refine td_split ?_ (fun _ => ?_) (fun _ => ?_)); exact rfl) | (with_reducible refine c_split (fun _ => ?_) (fun _ => ?_)))
    refine for_rule L.length (fun k fr C => C = H ∧ (0 : Int) ≤ l - L.length - sumT (L.take k) ∧ fr 0 = .slice A L.length c ∧ fr 1 = .int .i64 (l - L.length - sumT (L.take k)) ∧ fr 5 = .int .i64 k)
      ⟨rfl, by simp [sumT]; omega, (by first | rfl | (simp only [put_at, ↓reduceIte, Nat.reduceEqDiff]; first | done | rfl | assumption) | simp [put_at, *]), by simp [put_at, sumT], (by first | rfl | (simp only [put_at, ↓reduceIte, Nat.reduceEqDiff]; first | done | rfl | assumption) | simp [put_at, *])⟩ ?_ ?_
    · rintro k fr C hk ⟨rfl, hp, f0, f1, f5⟩ N hN
      have g0 := lt_dec hk
      have g1 := rng hk
      have g2 := up1 hk (by omega)
      obtain ⟨q1, A', c', q2, fl⟩ := hx k hk
      have hs := sumT_step hk
      have hle := sumT_le L (k + 1)
      have hm' := hL _ (List.getElem_mem hk)
      by_cases hb : l - L.length - sumT (L.take k) < szT L[k]
      · have d2 : decide ((-1 : Int) < 0) = true := by decide
        rw [if_pos (by omega)] at h
        have hsz : ∀ (D : Value → AHeap → Prop), D (.int .i64 (-1)) C → ACalls Try.prog w0 12 [.slice A' L[k].length c', .int .i64 (l - L.length - sumT (L.take k))] C D := fun D hD => szStmtS_ok w0 L[k] A' c' _ _ _ fl hm' hp (by omega) (by rw [if_pos hb]; exact hD)
        repeat' (first | simp -implicitDefEqProofs only [zG1,zG2,zG3,zG4,zG5,zG6,zG7,eq_self,resV,rval,X.val,binv,fillL,setR,↓reduceIte,Nat.reduceEqDiff,Nat.reduceAdd,Nat.reduceMul,Nat.reduceLeDiff,Nat.reduceLT,Nat.reduceSub,reduceCtorEq,zGp, f0, f1, f5, g0, g1, q1, q2, d2, Nat.mul_one] | ((with_reducible refine rows_intro (fun _ hb => ?_)); try simp only [set_none, ne_eq] at hb) | ((with_reducible refine new_intro (fun _ hb => ?_)); try simp only [set_none, ne_eq] at hb) | (with_reducible refine draw_same ?_) | ((with_reducible refine gd_split ?_ (fun _ => ?_) (fun _ => ?_)); exact rfl) | ((with_reducible refine td_split ?_ (fun _ => ?_) (fun _ => ?_)); exact rfl) | (with_reducible refine c_split (fun _ => ?_) (fun _ => ?_)) | (with_reducible refine hsz _ ?_))
        exact ret_same h
      · have d2 : decide (l - L.length - sumT (L.take k) - szT L[k] < 0) = false := by simp; omega
        have hsz : ∀ (D : Value → AHeap → Prop), D (.int .i64 (l - L.length - sumT (L.take k) - szT L[k])) C → ACalls Try.prog w0 12 [.slice A' L[k].length c', .int .i64 (l - L.length - sumT (L.take k))] C D := fun D hD => szStmtS_ok w0 L[k] A' c' _ _ _ fl hm' hp (by omega) (by rw [if_neg hb]; exact hD)
        have e3 : l - L.length - sumT (L.take k) - szT L[k] = l - L.length - (sumT (L.take (k + 1)) : Int) := by rw [hs]; push_cast; omega
        rw [e3] at hsz d2
        repeat' (first | simp -implicitDefEqProofs only [zG1,zG2,zG3,zG4,zG5,zG6,zG7,eq_self,resV,rval,X.val,binv,fillL,setR,↓reduceIte,Nat.reduceEqDiff,Nat.reduceAdd,Nat.reduceMul,Nat.reduceLeDiff,Nat.reduceLT,Nat.reduceSub,reduceCtorEq,zGp, f0, f1, f5, g0, g1, g2, q1, q2, d2, Nat.mul_one] | ((with_reducible refine rows_intro (fun _ hb => ?_)); try simp only [set_none, ne_eq] at hb) | ((with_reducible refine new_intro (fun _ hb => ?_)); try simp only [set_none, ne_eq] at hb) | (with_reducible refine draw_same ?_) | ((with_reducible refine gd_split ?_ (fun _ => ?_) (fun _ => ?_)); exact rfl) | ((with_reducible refine td_split ?_ (fun _ => ?_) (fun _ => ?_)); exact rfl) | (with_reducible refine c_split (fun _ => ?_) (fun _ => ?_)) | (with_reducible refine hsz _ ?_))
        exact hN _ _ _ (.refl _) ⟨rfl, by omega, (by first | rfl | (simp only [put_at, ↓reduceIte, Nat.reduceEqDiff]; first | done | rfl | assumption) | simp [put_at, *]), (by first | rfl | (simp only [put_at, ↓reduceIte, Nat.reduceEqDiff]; first | done | rfl | assumption) | simp [put_at, *]), (by first | rfl | (simp only [put_at, ↓reduceIte, Nat.reduceEqDiff]; first | done | rfl | assumption) | simp [put_at, *])⟩
    · rintro fr C ⟨rfl, hp, f0, f1, f5⟩ N
      have g0 : decide ((L.length : Int) < (L.length : Int)) = false := by simp
      rw [List.take_length] at hp f1
      rw [if_neg (by omega)] at h
      repeat' (first | simp -implicitDefEqProofs only [zG1,zG2,zG3,zG4,zG5,zG6,zG7,eq_self,resV,rval,X.val,binv,fillL,setR,↓reduceIte,Nat.reduceEqDiff,Nat.reduceAdd,Nat.reduceMul,Nat.reduceLeDiff,Nat.reduceLT,Nat.reduceSub,reduceCtorEq,zGp, f0, f1, f5, g0] | ((with_reducible refine rows_intro (fun _ hb => ?_)); try simp only [set_none, ne_eq] at hb) | ((with_reducible refine new_intro (fun _ hb => ?_)); try simp only [set_none, ne_eq] at hb) | (with_reducible refine draw_same ?_) | ((with_reducible refine gd_split ?_ (fun _ => ?_) (fun _ => ?_)); exact rfl) | ((with_reducible refine td_split ?_ (fun _ => ?_) (fun _ => ?_)); exact rfl) | (with_reducible refine c_split (fun _ => ?_) (fun _ => ?_)))
      exact ret_same (ki h (by omega))
theorem eqStmtSS_ok (A B : Option Addr) (c d : Nat) (ts : List (List St)) (hx : SR H A ts) (hy : SR H B ts) (hn : ts.length ≤ 1048576) (hl : sumT ts ≤ 1048576) (h : K (.bool true) H) :
    ACalls Try.prog w0 80 [.slice A ts.length c, .slice B ts.length d] H K := by
  refine acalls_of_sx mix Try.func80 of80 (by simp [ir80]) ?_; rw [ir80]; (try delta qT qI qC qO qM qG)
  repeat' (first | simp -implicitDefEqProofs only [zG1,zG2,zG3,zG4,zG5,zG6,zG7,eq_self,resV,rval,X.val,binv,fillL,setR,↓reduceIte,Nat.reduceEqDiff,Nat.reduceAdd,Nat.reduceMul,Nat.reduceLeDiff,Nat.reduceLT,Nat.reduceSub,reduceCtorEq,zGq, bne_self_eq_false] | ((with_reducible refine rows_intro (fun _ hb => ?_)); try simp only [set_none, ne_eq] at hb) | ((with_reducible refine new_intro (fun _ hb => ?_)); try simp only [set_none, ne_eq] at hb) | (with_reducible refine draw_same ?_) | ((with_reducible refine gd_split ?_ (fun _ => ?_) (fun _ => ?_)); exact rfl) | ((with_reducible refine td_split ?_ (fun _ => ?_) (fun _ => ?_)); exact rfl) | (with_reducible refine c_split (fun _ => ?_) (fun _ => ?_)))
  refine for_rule ts.length (fun k fr C => C = H ∧ fr 0 = .slice A ts.length c ∧ fr 1 = .slice B ts.length d ∧ fr 5 = .int .i64 k) ⟨rfl, (by first | rfl | (simp only [put_at, ↓reduceIte, Nat.reduceEqDiff]; first | done | rfl | assumption) | simp [put_at, *]), (by first | rfl | (simp only [put_at, ↓reduceIte, Nat.reduceEqDiff]; first | done | rfl | assumption) | simp [put_at, *]), (by first | rfl | (simp only [put_at, ↓reduceIte, Nat.reduceEqDiff]; first | done | rfl | assumption) | simp [put_at, *])⟩ ?_ ?_
  · rintro k fr _ hk ⟨rfl, f0, f1, f5⟩ N hN
    have g0 := lt_dec hk
    have g1 := rng hk
    have g2 := up1 hk (by omega)
    obtain ⟨gA, A', c', hcA, fA⟩ := hx k hk
    obtain ⟨gB, B', d', hcB, fB⟩ := hy k hk
    have hlk := sumT_at hk
    repeat' (first | simp -implicitDefEqProofs only [zG1,zG2,zG3,zG4,zG5,zG6,zG7,eq_self,resV,rval,X.val,binv,fillL,setR,↓reduceIte,Nat.reduceEqDiff,Nat.reduceAdd,Nat.reduceMul,Nat.reduceLeDiff,Nat.reduceLT,Nat.reduceSub,reduceCtorEq,zGq, f0, f1, f5, g0, g1, g2, gA, gB, hcA, hcB, Nat.mul_one] | ((with_reducible refine rows_intro (fun _ hb => ?_)); try simp only [set_none, ne_eq] at hb) | ((with_reducible refine new_intro (fun _ hb => ?_)); try simp only [set_none, ne_eq] at hb) | (with_reducible refine draw_same ?_) | ((with_reducible refine gd_split ?_ (fun _ => ?_) (fun _ => ?_)); exact rfl) | ((with_reducible refine td_split ?_ (fun _ => ?_) (fun _ => ?_)); exact rfl) | (with_reducible refine c_split (fun _ => ?_) (fun _ => ?_)) | (with_reducible refine eqStmtS_ok w0 ts[k] A' c' B' d' _ _ fA fB (by omega) ?_))
    exact hN _ _ _ (.refl _) ⟨rfl, (by first | rfl | (simp only [put_at, ↓reduceIte, Nat.reduceEqDiff]; first | done | rfl | assumption) | simp [put_at, *]), (by first | rfl | (simp only [put_at, ↓reduceIte, Nat.reduceEqDiff]; first | done | rfl | assumption) | simp [put_at, *]), (by first | rfl | (simp only [put_at, ↓reduceIte, Nat.reduceEqDiff]; first | done | rfl | assumption) | simp [put_at, *])⟩
  · rintro fr _ ⟨rfl, f0, f1, f5⟩ N
    have g0 : decide ((ts.length : Int) < (ts.length : Int)) = false := by simp
    repeat' (first | simp -implicitDefEqProofs only [zG1,zG2,zG3,zG4,zG5,zG6,zG7,eq_self,resV,rval,X.val,binv,fillL,setR,↓reduceIte,Nat.reduceEqDiff,Nat.reduceAdd,Nat.reduceMul,Nat.reduceLeDiff,Nat.reduceLT,Nat.reduceSub,reduceCtorEq,zGq, f0, f1, f5, g0] | ((with_reducible refine rows_intro (fun _ hb => ?_)); try simp only [set_none, ne_eq] at hb) | ((with_reducible refine new_intro (fun _ hb => ?_)); try simp only [set_none, ne_eq] at hb) | (with_reducible refine draw_same ?_) | ((with_reducible refine gd_split ?_ (fun _ => ?_) (fun _ => ?_)); exact rfl) | ((with_reducible refine td_split ?_ (fun _ => ?_) (fun _ => ?_)); exact rfl) | (with_reducible refine c_split (fun _ => ?_) (fun _ => ?_)))
    exact ret_same h
end
/-- The slices of a row of lists lead to own blocks of B. -/
def ShSS (B : Nat → Prop) (H : AHeap) (ts : List (List St)) (b : Nat) : Prop := ∀ i (hi : i < ts.length), ∃ k bi c, Kn H b k ∧ k.cells[i]? = some (.slice (AtB bi) ts[i].length c) ∧ ShR B H ts[i] bi 0
theorem ShSS.go {B B' : Nat → Prop} {H H' : AHeap} {ts : List (List St)} {b : Nat} (h : ShSS B H ts b) (mk : MkL B H H') (hB : ∀ x, B x → B' x) : ShSS B' H' ts b := fun i hi => by
  obtain ⟨k, bi, c, kn, hc, hr⟩ := h i hi
  obtain ⟨k', kn', ho', hl⟩ := mk.in_ b k kn
  obtain ⟨w, hw, l⟩ := hl _ _ hc
  obtain rfl := like_slice l
  exact ⟨k', bi, c, kn', hw, hr.go mk hB⟩
theorem ShSS.self {H : AHeap} {ts : List (List St)} {b : Nat} (h : ShSS (fun _ => True) H ts b) : ShSS (fun x => H x ≠ none) H ts b := fun i hi => by
  obtain ⟨k, bi, c, kn, hc, hr⟩ := h i hi
  exact ⟨k, bi, c, kn, hc, ShR.self hr⟩
abbrev TwSS (D : AHeap) (ts : List (List St)) (b : Nat) : Prop := SR D (AtB b) ts ∧ ShSS (fun _ => True) D ts b
theorem TwSS.le {D D' : AHeap} {ts : List (List St)} {b : Nat} (h : TwSS D ts b) (l : AHeap.le D D') : TwSS D' ts b := ⟨h.1.le l, h.2.go (.of_le l) fun _ h => h⟩
section
variable (H : AHeap) (K : Value → AHeap → Prop)
theorem toStmtSS_own (A : Option Addr) (c : Nat) (ts : List (List St)) (hx : SR H A ts) (hn : ts.length ≤ 1048576) (hl : sumT ts ≤ 1048576) (h : ∀ b C, AHeap.le H C → TwSS (C.off H) ts b → K (.slice (AtB b) ts.length ts.length) C) :
    ACalls Try.prog w0 78 [.slice A ts.length c] H K := by
  refine acalls_of_sx mix Try.func78 of78 (by simp [ir78]) ?_; rw [ir78]; (try delta qT qI qC qO qM qG)
  repeat' (first | simp -implicitDefEqProofs only [zG1,zG2,zG3,zG4,zG5,zG6,zG7,eq_self,resV,rval,X.val,binv,fillL,setR,↓reduceIte,Nat.reduceEqDiff,Nat.reduceAdd,Nat.reduceMul,Nat.reduceLeDiff,Nat.reduceLT,Nat.reduceSub,reduceCtorEq,zGq] | ((with_reducible refine rows_intro (fun _ hb => ?_)); try simp only [set_none, ne_eq] at hb) | ((with_reducible refine new_intro (fun _ hb => ?_)); try simp only [set_none, ne_eq] at hb) | (with_reducible refine draw_same ?_) | ((with_reducible refine gd_split ?_ (fun _ => ?_) (fun _ => ?_)); exact rfl) | ((with_reducible refine td_split ?_ (fun _ => ?_) (fun _ => ?_)); exact rfl) | (with_reducible refine c_split (fun _ => ?_) (fun _ => ?_)))
  refine mk_intro (n := ts.length) (by omega) (by omega) (fun b hb => ?_)
  repeat' (first | simp -implicitDefEqProofs only [zG1,zG2,zG3,zG4,zG5,zG6,zG7,eq_self,resV,rval,X.val,binv,fillL,setR,↓reduceIte,Nat.reduceEqDiff,Nat.reduceAdd,Nat.reduceMul,Nat.reduceLeDiff,Nat.reduceLT,Nat.reduceSub,reduceCtorEq,zGq] | ((with_reducible refine rows_intro (fun _ hb => ?_)); try simp only [set_none, ne_eq] at hb) | ((with_reducible refine new_intro (fun _ hb => ?_)); try simp only [set_none, ne_eq] at hb) | (with_reducible refine draw_same ?_) | ((with_reducible refine gd_split ?_ (fun _ => ?_) (fun _ => ?_)); exact rfl) | ((with_reducible refine td_split ?_ (fun _ => ?_) (fun _ => ?_)); exact rfl) | (with_reducible refine c_split (fun _ => ?_) (fun _ => ?_)))
  refine for_rule ts.length (fun k fr C => ∃ vs : List Value, AHeap.le H C ∧ Kn C b ⟨vs, true, 25, ts.length * 1⟩ ∧ vs.length = ts.length ∧ (∀ i (hi : i < ts.length), i < k → ∃ bi c, vs[i]? = some (.slice (AtB bi) ts[i].length c) ∧ TwR ((C.off H).no fun y => y ∈ [b]) ts[i] bi) ∧ fr 0 = .slice A ts.length c ∧ fr 3 = .slice (some ⟨b, 0, none⟩) ts.length ts.length ∧ fr 4 = .int .i64 k)
    ⟨_, (AHeap.le.refl H).fresh hb _, Kn.same _ _ _, repl_len1 _ _, fun i _ hi => absurd hi (Nat.not_lt_zero _), (by first | rfl | (simp only [put_at, ↓reduceIte, Nat.reduceEqDiff]; first | done | rfl | assumption) | simp [put_at, *]), (by first | rfl | (simp only [put_at, ↓reduceIte, Nat.reduceEqDiff]; first | done | rfl | assumption) | simp [put_at, *]), (by first | rfl | (simp only [put_at, ↓reduceIte, Nat.reduceEqDiff]; first | done | rfl | assumption) | simp [put_at, *])⟩ ?_ ?_
  · rintro k fr C hk ⟨vs, l, kn, hvl, hrow, f0, f3, f4⟩ N hN
    have g0 := lt_dec hk
    have g1 := rng hk
    have g2 := up1 hk (by omega)
    obtain ⟨q1, A', c', q2, fl⟩ := (hx.le l) k hk
    have hlk := sumT_at hk
    repeat' (first | simp -implicitDefEqProofs only [zG1,zG2,zG3,zG4,zG5,zG6,zG7,eq_self,resV,rval,X.val,binv,fillL,setR,↓reduceIte,Nat.reduceEqDiff,Nat.reduceAdd,Nat.reduceMul,Nat.reduceLeDiff,Nat.reduceLT,Nat.reduceSub,reduceCtorEq,zGq, f0, f3, f4, g0, g1, q1, q2, adr_lit, Nat.zero_add, Nat.mul_one] | ((with_reducible refine rows_intro (fun _ hb => ?_)); try simp only [set_none, ne_eq] at hb) | ((with_reducible refine new_intro (fun _ hb => ?_)); try simp only [set_none, ne_eq] at hb) | (with_reducible refine draw_same ?_) | ((with_reducible refine gd_split ?_ (fun _ => ?_) (fun _ => ?_)); exact rfl) | ((with_reducible refine td_split ?_ (fun _ => ?_) (fun _ => ?_)); exact rfl) | (with_reducible refine c_split (fun _ => ?_) (fun _ => ?_)))
    refine toStmtS_ok w0 ts[k] A' c' _ _ fl (by omega) (fun b1 C1 l1 tw1 => ?_)
    repeat' (first | simp -implicitDefEqProofs only [zG1,zG2,zG3,zG4,zG5,zG6,zG7,eq_self,resV,rval,X.val,binv,fillL,setR,↓reduceIte,Nat.reduceEqDiff,Nat.reduceAdd,Nat.reduceMul,Nat.reduceLeDiff,Nat.reduceLT,Nat.reduceSub,reduceCtorEq,zGq, f0, f3, f4, g1, adr_lit, Nat.zero_add, Nat.mul_one] | ((with_reducible refine rows_intro (fun _ hb => ?_)); try simp only [set_none, ne_eq] at hb) | ((with_reducible refine new_intro (fun _ hb => ?_)); try simp only [set_none, ne_eq] at hb) | (with_reducible refine draw_same ?_) | ((with_reducible refine gd_split ?_ (fun _ => ?_) (fun _ => ?_)); exact rfl) | ((with_reducible refine td_split ?_ (fun _ => ?_) (fun _ => ?_)); exact rfl) | (with_reducible refine c_split (fun _ => ?_) (fun _ => ?_)))
    refine st_own (kn.trans l1) [_] rfl rfl (by rw [hvl]; exact hk) (by simp [ocS]) (fun C2 hc k2 => ?_)
    simp only [setR] at k2
    repeat' (first | simp -implicitDefEqProofs only [zG1,zG2,zG3,zG4,zG5,zG6,zG7,eq_self,resV,rval,X.val,binv,fillL,setR,↓reduceIte,Nat.reduceEqDiff,Nat.reduceAdd,Nat.reduceMul,Nat.reduceLeDiff,Nat.reduceLT,Nat.reduceSub,reduceCtorEq,zGq, f0, f3, f4, g2] | ((with_reducible refine rows_intro (fun _ hb => ?_)); try simp only [set_none, ne_eq] at hb) | ((with_reducible refine new_intro (fun _ hb => ?_)); try simp only [set_none, ne_eq] at hb) | (with_reducible refine draw_same ?_) | ((with_reducible refine gd_split ?_ (fun _ => ?_) (fun _ => ?_)); exact rfl) | ((with_reducible refine td_split ?_ (fun _ => ?_) (fun _ => ?_)); exact rfl) | (with_reducible refine c_split (fun _ => ?_) (fun _ => ?_)))
    have hbs : ∀ y, y ∈ [b] → C y ≠ none := fun y hy => by
      simp only [List.mem_cons, List.not_mem_nil, or_false] at hy
      subst hy; exact kn.ne
    refine hN _ _ _ (.refl _) ⟨_, hc.keep (l.trans l1) (New.one hb), k2, by rw [List.length_set]; exact hvl, fun i hi hik => ?_, (by first | rfl | (simp only [put_at, ↓reduceIte, Nat.reduceEqDiff]; first | done | rfl | assumption) | simp [put_at, *]), (by first | rfl | (simp only [put_at, ↓reduceIte, Nat.reduceEqDiff]; first | done | rfl | assumption) | simp [put_at, *]), (by first | rfl | (simp only [put_at, ↓reduceIte, Nat.reduceEqDiff]; first | done | rfl | assumption) | simp [put_at, *])⟩
    by_cases e : i = k
    · subst e
      exact ⟨b1, _, by rw [List.getElem?_set_self (by omega)], tw1.le (off_made l hc hbs fun y hy => .inl hy)⟩
    · obtain ⟨bi, ci, e1, e2⟩ := hrow i hi (by omega)
      exact ⟨bi, ci, by rw [List.getElem?_set_ne (by omega)]; exact e1, e2.le (off_stay l1 hc fun y hy => .inl hy)⟩
  · rintro fr C ⟨vs, l, kn, hvl, hrow, f0, f3, f4⟩ N
    have g0 : decide ((ts.length : Int) < (ts.length : Int)) = false := by simp
    repeat' (first | simp -implicitDefEqProofs only [zG1,zG2,zG3,zG4,zG5,zG6,zG7,eq_self,resV,rval,X.val,binv,fillL,setR,↓reduceIte,Nat.reduceEqDiff,Nat.reduceAdd,Nat.reduceMul,Nat.reduceLeDiff,Nat.reduceLT,Nat.reduceSub,reduceCtorEq,zGq, f0, f3, f4, g0] | ((with_reducible refine rows_intro (fun _ hb => ?_)); try simp only [set_none, ne_eq] at hb) | ((with_reducible refine new_intro (fun _ hb => ?_)); try simp only [set_none, ne_eq] at hb) | (with_reducible refine draw_same ?_) | ((with_reducible refine gd_split ?_ (fun _ => ?_) (fun _ => ?_)); exact rfl) | ((with_reducible refine td_split ?_ (fun _ => ?_) (fun _ => ?_)); exact rfl) | (with_reducible refine c_split (fun _ => ?_) (fun _ => ?_)))
    have kf := kn_off hb kn
    refine ret_same (h b C l ⟨fun i hi => ?_, fun i hi => ?_⟩)
    · obtain ⟨bi, ci, e1, e2⟩ := hrow i hi hi
      exact ⟨rfl, _, ci, by rw [adr_lit, Nat.zero_add]; exact kf.cell e1, StR.le (no_le _ _) e2.1⟩
    · obtain ⟨bi, ci, e1, e2⟩ := hrow i hi hi
      exact ⟨_, bi, ci, kf, e1, ShR.le (no_le _ _) (fun _ h => h) e2.2⟩
theorem markStmtSS_ok (ts : List (List St)) (b cp : Nat) (m : Int) (B : Nat → Prop) (hs : ShSS B H ts b) (hn : ts.length ≤ 1048576) (h0 : 0 ≤ m) (hm : m + 5 * sumT ts ≤ 1099511627776)
    (h : ∀ m' H', MkL B H H' → m ≤ m' → m' ≤ m + 5 * sumT ts → K (.int .i64 m') H') : ACalls Try.prog w0 81 [.slice (some ⟨b, 0, none⟩) ts.length cp, .int .i64 m] H K := by
  refine acalls_of_sx mix Try.func81 of81 (by simp [ir81]) ?_; rw [ir81]; (try delta qT qI qC qO qM qG)
  repeat' (first | simp -implicitDefEqProofs only [zG1,zG2,zG3,zG4,zG5,zG6,zG7,eq_self,resV,rval,X.val,binv,fillL,setR,↓reduceIte,Nat.reduceEqDiff,Nat.reduceAdd,Nat.reduceMul,Nat.reduceLeDiff,Nat.reduceLT,Nat.reduceSub,reduceCtorEq,zGq] | ((with_reducible refine rows_intro (fun _ hb => ?_)); try simp only [set_none, ne_eq] at hb) | ((with_reducible refine new_intro (fun _ hb => ?_)); try simp only [set_none, ne_eq] at hb) | (with_reducible refine draw_same ?_) | ((with_reducible refine gd_split ?_ (fun _ => ?_) (fun _ => ?_)); exact rfl) | ((with_reducible refine td_split ?_ (fun _ => ?_) (fun _ => ?_)); exact rfl) | (with_reducible refine c_split (fun _ => ?_) (fun _ => ?_)))
  refine for_rule ts.length (fun i fr C => ∃ mi : Int, MkL B H C ∧ m ≤ mi ∧ mi ≤ m + 5 * sumT (ts.take i) ∧ fr 0 = .slice (some ⟨b, 0, none⟩) ts.length cp ∧ fr 1 = .int .i64 mi ∧ fr 5 = .int .i64 i)
    ⟨m, .refl _ _, by omega, by simp [sumT], (by first | rfl | (simp only [put_at, ↓reduceIte, Nat.reduceEqDiff]; first | done | rfl | assumption) | simp [put_at, *]), (by first | rfl | (simp only [put_at, ↓reduceIte, Nat.reduceEqDiff]; first | done | rfl | assumption) | simp [put_at, *]), (by first | rfl | (simp only [put_at, ↓reduceIte, Nat.reduceEqDiff]; first | done | rfl | assumption) | simp [put_at, *])⟩ ?_ ?_
  · rintro i fr C hi ⟨mi, mk, hm1, hm2, f0, f1, f5⟩ N hN
    have g0 := lt_dec hi
    have g1 := rng hi
    have g3 := up1 hi (by omega)
    have hs1 := sumT_step hi
    have hs2 := sumT_le ts (i + 1)
    obtain ⟨k, bi, c, kn, hc, hr⟩ := (hs.go mk fun _ h => h) i hi
    have q := kn.cell hc
    repeat' (first | simp -implicitDefEqProofs only [zG1,zG2,zG3,zG4,zG5,zG6,zG7,eq_self,resV,rval,X.val,binv,fillL,setR,↓reduceIte,Nat.reduceEqDiff,Nat.reduceAdd,Nat.reduceMul,Nat.reduceLeDiff,Nat.reduceLT,Nat.reduceSub,reduceCtorEq,zGq, f0, f1, f5, g0, g1, q, adr_lit, Nat.zero_add, Nat.mul_one] | ((with_reducible refine rows_intro (fun _ hb => ?_)); try simp only [set_none, ne_eq] at hb) | ((with_reducible refine new_intro (fun _ hb => ?_)); try simp only [set_none, ne_eq] at hb) | (with_reducible refine draw_same ?_) | ((with_reducible refine gd_split ?_ (fun _ => ?_) (fun _ => ?_)); exact rfl) | ((with_reducible refine td_split ?_ (fun _ => ?_) (fun _ => ?_)); exact rfl) | (with_reducible refine c_split (fun _ => ?_) (fun _ => ?_)))
    refine markStmtS_ok w0 ts[i] bi c mi B C _ hr (by omega) (by omega) (fun m7 C7 mk7 h71 h72 => ?_)
    repeat' (first | simp -implicitDefEqProofs only [zG1,zG2,zG3,zG4,zG5,zG6,zG7,eq_self,resV,rval,X.val,binv,fillL,setR,↓reduceIte,Nat.reduceEqDiff,Nat.reduceAdd,Nat.reduceMul,Nat.reduceLeDiff,Nat.reduceLT,Nat.reduceSub,reduceCtorEq,zGq, f0, f1, f5, g3] | ((with_reducible refine rows_intro (fun _ hb => ?_)); try simp only [set_none, ne_eq] at hb) | ((with_reducible refine new_intro (fun _ hb => ?_)); try simp only [set_none, ne_eq] at hb) | (with_reducible refine draw_same ?_) | ((with_reducible refine gd_split ?_ (fun _ => ?_) (fun _ => ?_)); exact rfl) | ((with_reducible refine td_split ?_ (fun _ => ?_) (fun _ => ?_)); exact rfl) | (with_reducible refine c_split (fun _ => ?_) (fun _ => ?_)))
    exact hN _ _ _ (.refl _) ⟨m7, mk.trans mk7, by omega, by omega, (by first | rfl | (simp only [put_at, ↓reduceIte, Nat.reduceEqDiff]; first | done | rfl | assumption) | simp [put_at, *]), (by first | rfl | (simp only [put_at, ↓reduceIte, Nat.reduceEqDiff]; first | done | rfl | assumption) | simp [put_at, *]), (by first | rfl | (simp only [put_at, ↓reduceIte, Nat.reduceEqDiff]; first | done | rfl | assumption) | simp [put_at, *])⟩
  · rintro fr C ⟨mi, mk, hm1, hm2, f0, f1, f5⟩ N
    have g0 : decide ((ts.length : Int) < (ts.length : Int)) = false := by simp
    rw [List.take_length] at hm2
    repeat' (first | simp -implicitDefEqProofs only [zG1,zG2,zG3,zG4,zG5,zG6,zG7,eq_self,resV,rval,X.val,binv,fillL,setR,↓reduceIte,Nat.reduceEqDiff,Nat.reduceAdd,Nat.reduceMul,Nat.reduceLeDiff,Nat.reduceLT,Nat.reduceSub,reduceCtorEq,zGq, f0, f1, f5, g0] | ((with_reducible refine rows_intro (fun _ hb => ?_)); try simp only [set_none, ne_eq] at hb) | ((with_reducible refine new_intro (fun _ hb => ?_)); try simp only [set_none, ne_eq] at hb) | (with_reducible refine draw_same ?_) | ((with_reducible refine gd_split ?_ (fun _ => ?_) (fun _ => ?_)); exact rfl) | ((with_reducible refine td_split ?_ (fun _ => ?_) (fun _ => ?_)); exact rfl) | (with_reducible refine c_split (fun _ => ?_) (fun _ => ?_)))
    exact ret_same (h mi C mk hm1 hm2)
end
end Go.Proofs.Ytfjhjfddgdokgaa
namespace Go.Proofs.Ytfjhjfddgdokgaa
set_option linter.all false
open Go Go.RowKit
set_option maxRecDepth 100000
variable (w0 : World)
def pgSize (rs : List Int) (ts : List (List St)) : Nat := rs.length + (ts.length + sumT ts)
abbrev pgc (rs : List Int) (ts : List (List St)) (A : Option Addr) (c : Nat) (B : Option Addr) (d : Nat) : List Value := [.slice A rs.length c, .slice B ts.length d]
theorem kn2 {C : AHeap} {x : Nat} {t : TypeId} {o : Bool} {n : Nat} {v0 v1 : Value} (k : Kn C x ⟨[v0, v1], o, t, n⟩) : C.cell (some ⟨x, 0, none⟩) = some v0 ∧ C.cell (some ⟨x, 1, none⟩) = some v1 :=
  ⟨k.cell (j := 0) rfl, k.cell (j := 1) rfl⟩
section
variable (H : AHeap) (K : Value → AHeap → Prop) (A : Option Addr) (c : Nat) (rs : List Int) (B : Option Addr) (d : Nat) (ts : List (List St))
theorem szProgram_ok (hs : SR H B ts) (hr : rs.length ≤ maxLen) (hm : ts.length ≤ maxLen) (hL : ∀ x ∈ ts, x.length ≤ maxLen) (l : Int) (h2 : 0 ≤ l) (h3 : l ≤ 4611686018427387904) (h : K (.int .i64 (if l < pgSize rs ts then -1 else l - pgSize rs ts)) H) :
    ACalls Try.prog w0 23 [pgv rs ts A c B d, .int .i64 l] H K := by
  have d1 : decide ((-1 : Int) < 0) = true := by decide
  refine acalls_of_sx mix Try.func23 of23 (by simp [ir23]) ?_; rw [ir23]; (try delta qT qI qC qO qM qG)
  repeat' (first | simp -implicitDefEqProofs only [zG1,zG2,zG3,zG4,zG5,zG6,zG7,eq_self,resV,rval,X.val,binv,fillL,setR,↓reduceIte,Nat.reduceEqDiff,Nat.reduceAdd,Nat.reduceMul,Nat.reduceLeDiff,Nat.reduceLT,Nat.reduceSub,reduceCtorEq,zGq])
  refine new_intro (fun x2 hx2 => ?_)
  have l1 := (AHeap.le.refl H).fresh hx2 ⟨pgc rs ts A c B d, true, 38, 2⟩
  have k1 := Kn.same H x2 ⟨pgc rs ts A c B d, true, 38, 2⟩
  generalize H.set x2 _ = C at l1 k1 ⊢
  have q := kn2 k1
  by_cases e0 : l < (rs.length : Int)
  · have e0' := eq_true e0
    repeat' (first | simp -implicitDefEqProofs only [zG1,zG2,zG3,zG4,zG5,zG6,zG7,eq_self,resV,rval,X.val,binv,fillL,setR,↓reduceIte,Nat.reduceEqDiff,Nat.reduceAdd,Nat.reduceMul,Nat.reduceLeDiff,Nat.reduceLT,Nat.reduceSub,reduceCtorEq,zGq, q, d1, e0', if_true] | (with_reducible refine szIntS_ok _ _ _ A _ c l hr h2 h3 ?_))
    exact ⟨H, l1, ki h (if_pos (show l < (pgSize rs ts : Int) by simp only [pgSize]; omega)).symm⟩
  have e0' := eq_false e0
  have dA : decide (l - (rs.length : Int) < 0) = false := by simp; omega
  by_cases e1 : l - (rs.length : Int) < ((ts.length : Int) + (sumT ts : Int))
  · have e1' := eq_true e1
    repeat' (first | simp -implicitDefEqProofs only [zG1,zG2,zG3,zG4,zG5,zG6,zG7,eq_self,resV,rval,X.val,binv,fillL,setR,↓reduceIte,Nat.reduceEqDiff,Nat.reduceAdd,Nat.reduceMul,Nat.reduceLeDiff,Nat.reduceLT,Nat.reduceSub,reduceCtorEq,zGq, q, d1, dA, e0', e1', if_true, if_false] | (with_reducible refine szIntS_ok _ _ _ A _ c l hr h2 h3 ?_) | (with_reducible refine szStmtSS_ok w0 _ _ B d _ (hs.le l1) hm hL (l - (rs.length : Int)) (by omega) (by omega) ?_))
    exact ⟨H, l1, ki h (if_pos (show l < (pgSize rs ts : Int) by simp only [pgSize]; omega)).symm⟩
  have e1' := eq_false e1
  have dB : decide (l - (rs.length : Int) - ((ts.length : Int) + (sumT ts : Int)) < 0) = false := by simp; omega
  repeat' (first | simp -implicitDefEqProofs only [zG1,zG2,zG3,zG4,zG5,zG6,zG7,eq_self,resV,rval,X.val,binv,fillL,setR,↓reduceIte,Nat.reduceEqDiff,Nat.reduceAdd,Nat.reduceMul,Nat.reduceLeDiff,Nat.reduceLT,Nat.reduceSub,reduceCtorEq,zGq, q, d1, dA, dB, e0', e1', if_true, if_false] | (with_reducible refine szIntS_ok _ _ _ A _ c l hr h2 h3 ?_) | (with_reducible refine szStmtSS_ok w0 _ _ B d _ (hs.le l1) hm hL (l - (rs.length : Int)) (by omega) (by omega) ?_))
  exact ⟨H, l1, ki h ((if_neg (show ¬ l < (pgSize rs ts : Int) by simp only [pgSize]; omega)).trans (by simp only [pgSize]; omega)).symm⟩
theorem eqProgram_ok (A' : Option Addr) (c' : Nat) (B' : Option Addr) (d' : Nat) (hx : Fl H A (ints rs)) (hx' : Fl H A' (ints rs)) (hs : SR H B ts) (hs' : SR H B' ts) (hb : pgSize rs ts ≤ 1048576) (h : K (.bool true) H) :
    ACalls Try.prog w0 28 [pgv rs ts A c B d, pgv rs ts A' c' B' d'] H K := by
  simp only [pgSize] at hb
  refine acalls_of_sx mix Try.func28 of28 (by simp [ir28]) ?_; rw [ir28]; (try delta qT qI qC qO qM qG)
  repeat' (first | simp -implicitDefEqProofs only [zG1,zG2,zG3,zG4,zG5,zG6,zG7,eq_self,resV,rval,X.val,binv,fillL,setR,↓reduceIte,Nat.reduceEqDiff,Nat.reduceAdd,Nat.reduceMul,Nat.reduceLeDiff,Nat.reduceLT,Nat.reduceSub,reduceCtorEq,zGq])
  refine new_intro (fun x2 hx2 => ?_)
  repeat' (first | simp -implicitDefEqProofs only [zG1,zG2,zG3,zG4,zG5,zG6,zG7,eq_self,resV,rval,X.val,binv,fillL,setR,↓reduceIte,Nat.reduceEqDiff,Nat.reduceAdd,Nat.reduceMul,Nat.reduceLeDiff,Nat.reduceLT,Nat.reduceSub,reduceCtorEq,zGq])
  refine new_intro (fun x3 hx3 => ?_)
  simp only [set_none, ne_eq] at hx3
  have l1 := ((AHeap.le.refl H).fresh hx2 ⟨pgc rs ts A c B d, true, 45, 2⟩).fresh (set_none.2 hx3) ⟨pgc rs ts A' c' B' d', true, 45, 2⟩
  have k2 : Kn ((H.set x2 ⟨pgc rs ts A c B d, true, 45, 2⟩).set x3 ⟨pgc rs ts A' c' B' d', true, 45, 2⟩) x2 ⟨pgc rs ts A c B d, true, 45, 2⟩ := (Kn.same _ _ _).set (fun e => hx3.1 e.symm) _
  have k3 := Kn.same (H.set x2 ⟨pgc rs ts A c B d, true, 45, 2⟩) x3 ⟨pgc rs ts A' c' B' d', true, 45, 2⟩
  generalize (H.set x2 _).set x3 _ = C at l1 k2 k3 ⊢
  have q2 := kn2 k2
  have q3 := kn2 k3
  repeat' (first | simp -implicitDefEqProofs only [zG1,zG2,zG3,zG4,zG5,zG6,zG7,eq_self,resV,rval,X.val,binv,fillL,setR,↓reduceIte,Nat.reduceEqDiff,Nat.reduceAdd,Nat.reduceMul,Nat.reduceLeDiff,Nat.reduceLT,Nat.reduceSub,reduceCtorEq,zGq, q2, q3, bne_self_eq_false, decide_true] | (with_reducible refine eqIntS_ok _ _ _ A A' c c' _ _ (hx.le l1) (hx'.le l1) (by omega) ?_) | (with_reducible refine eqStmtSS_ok w0 _ _ B B' d d' ts (hs.le l1) (hs'.le l1) (by omega) (by omega) ?_))
  exact ⟨H, l1, h⟩
theorem toProgram_own (hx : Fl H A (ints rs)) (hs : SR H B ts) (hb : pgSize rs ts ≤ 1048576) (h : ∀ V e bs b C, AHeap.le H C → New H bs → Rw C 3 1 (.slice V rs.length e) rs.length (ints rs) bs → TwSS ((C.off H).no fun y => y ∈ bs) ts b → K (pgv rs ts V e (AtB b) ts.length) C) :
    ACalls Try.prog w0 25 [pgv rs ts A c B d] H K := by
  simp only [pgSize] at hb
  refine acalls_of_sx mix Try.func25 of25 (by simp [ir25]) ?_; rw [ir25]; (try delta qT qI qC qO qM qG)
  repeat' (first | simp -implicitDefEqProofs only [zG1,zG2,zG3,zG4,zG5,zG6,zG7,eq_self,resV,rval,X.val,binv,fillL,setR,↓reduceIte,Nat.reduceEqDiff,Nat.reduceAdd,Nat.reduceMul,Nat.reduceLeDiff,Nat.reduceLT,Nat.reduceSub,reduceCtorEq,zGq])
  refine new_intro (fun x1 h1 => ?_)
  repeat' (first | simp -implicitDefEqProofs only [zG1,zG2,zG3,zG4,zG5,zG6,zG7,eq_self,resV,rval,X.val,binv,fillL,setR,↓reduceIte,Nat.reduceEqDiff,Nat.reduceAdd,Nat.reduceMul,Nat.reduceLeDiff,Nat.reduceLT,Nat.reduceSub,reduceCtorEq,zGq])
  refine new_intro (fun x2 h2 => ?_)
  repeat' (first | simp -implicitDefEqProofs only [zG1,zG2,zG3,zG4,zG5,zG6,zG7,eq_self,resV,rval,X.val,binv,fillL,setR,↓reduceIte,Nat.reduceEqDiff,Nat.reduceAdd,Nat.reduceMul,Nat.reduceLeDiff,Nat.reduceLT,Nat.reduceSub,reduceCtorEq,zGq])
  refine new_intro (fun x3 h3 => ?_)
  simp only [set_none, ne_eq] at h2 h3
  have L : AHeap.le H (((H.set x1 ⟨pgc rs ts A c B d, true, 38, 2⟩).set x2 ⟨[.slice none 0 0, .slice none 0 0], true, 45, 2⟩).set x3 ⟨[.slice none 0 0, .slice none 0 0], true, 45, 2⟩) := ((AHeap.le.refl H).fresh h1 _).fresh (set_none.2 h2) _ |>.fresh (set_none.2 ⟨h3.1, set_none.2 h3.2⟩) _
  have k1 : Kn (((H.set x1 ⟨pgc rs ts A c B d, true, 38, 2⟩).set x2 ⟨[.slice none 0 0, .slice none 0 0], true, 45, 2⟩).set x3 ⟨[.slice none 0 0, .slice none 0 0], true, 45, 2⟩) x1 ⟨pgc rs ts A c B d, true, 38, 2⟩ := ((Kn.same _ _ _).set (fun e => h2.1 e.symm) _).set (fun e => h3.2.1 e.symm) _
  have k2 : Kn (((H.set x1 ⟨pgc rs ts A c B d, true, 38, 2⟩).set x2 ⟨[.slice none 0 0, .slice none 0 0], true, 45, 2⟩).set x3 ⟨[.slice none 0 0, .slice none 0 0], true, 45, 2⟩) x2 ⟨[.slice none 0 0, .slice none 0 0], true, 45, 2⟩ := (Kn.same _ _ _).set (fun e => h3.1 e.symm) _
  have k3 : Kn (((H.set x1 ⟨pgc rs ts A c B d, true, 38, 2⟩).set x2 ⟨[.slice none 0 0, .slice none 0 0], true, 45, 2⟩).set x3 ⟨[.slice none 0 0, .slice none 0 0], true, 45, 2⟩) x3 ⟨[.slice none 0 0, .slice none 0 0], true, 45, 2⟩ := Kn.same _ _ _
  generalize (((H.set x1 _).set x2 _).set x3 _) = C at L k1 k2 k3 ⊢
  have n13 : ¬ x1 ∈ [x3] := by simpa using fun e : x1 = x3 => h3.2.1 e.symm
  have n23 : ¬ x2 ∈ [x3] := by simpa using fun e : x2 = x3 => h3.1 e.symm
  have g := kn2 k1
  repeat' (first | simp -implicitDefEqProofs only [zG1,zG2,zG3,zG4,zG5,zG6,zG7,eq_self,resV,rval,X.val,binv,fillL,setR,↓reduceIte,Nat.reduceEqDiff,Nat.reduceAdd,Nat.reduceMul,Nat.reduceLeDiff,Nat.reduceLT,Nat.reduceSub,reduceCtorEq,zGq, g])
  refine toIntS_ok _ _ _ A c _ (hx.le L) (by omega) (fun v0 C1 bs l0 n0 r0 => ?_)
  have t0 := rw_kn r0
  have u0 : Apart [x3] bs := fun y hy hm => by
    simp only [List.mem_cons, List.not_mem_nil, or_false] at hy; subst hy; exact k3.ne (n0 _ hm)
  have y0 : ¬ x2 ∈ bs := fun hm => k2.ne (n0 _ hm)
  replace n0 := n0.le L
  replace k1 := k1.trans l0
  replace k2 := k2.trans l0
  replace k3 := k3.trans l0
  replace L := L.trans l0
  have g := kn2 k1
  obtain ⟨V0, e0, rfl, -⟩ := r0.fl
  repeat' (first | simp -implicitDefEqProofs only [zG1,zG2,zG3,zG4,zG5,zG6,zG7,eq_self,resV,rval,X.val,binv,fillL,setR,↓reduceIte,Nat.reduceEqDiff,Nat.reduceAdd,Nat.reduceMul,Nat.reduceLeDiff,Nat.reduceLT,Nat.reduceSub,reduceCtorEq,zGq, g])
  refine st_own k3 [_] rfl rfl (by simp) (by simp [ocS]) (fun C2 hc2 k3 => ?_)
  simp only [setR, List.set_cons_zero, List.set_cons_succ] at k3
  replace k1 := k1.chg hc2 n13
  replace k2 := k2.chg hc2 n23
  replace r0 := r0.chg hc2 u0.symm
  replace t0 : ∀ y, y ∈ bs → C2 y ≠ none := fun y hy => hc2.kept (t0 y hy) fun h2 => u0 y h2 hy
  replace L := hc2.keep L (New.one h3.2.2)
  have g := kn2 k1
  repeat' (first | simp -implicitDefEqProofs only [zG1,zG2,zG3,zG4,zG5,zG6,zG7,eq_self,resV,rval,X.val,binv,fillL,setR,↓reduceIte,Nat.reduceEqDiff,Nat.reduceAdd,Nat.reduceMul,Nat.reduceLeDiff,Nat.reduceLT,Nat.reduceSub,reduceCtorEq,zGq, g])
  refine toStmtSS_own w0 _ _ B d _ (hs.le L) (by omega) (by omega) (fun b C3 l3 tw => ?_)
  have hbig : ∀ y, y ∈ x3 :: x2 :: bs → C2 y ≠ none := fun y hy => by
    simp only [List.mem_cons] at hy
    rcases hy with rfl | rfl | hy
    · exact k3.ne
    · exact k2.ne
    · exact t0 y hy
  have L2 := L
  replace k2 := k2.trans l3
  replace k3 := k3.trans l3
  replace r0 := r0.trans l3
  replace L := L.trans l3
  repeat' (first | simp -implicitDefEqProofs only [zG1,zG2,zG3,zG4,zG5,zG6,zG7,eq_self,resV,rval,X.val,binv,fillL,setR,↓reduceIte,Nat.reduceEqDiff,Nat.reduceAdd,Nat.reduceMul,Nat.reduceLeDiff,Nat.reduceLT,Nat.reduceSub,reduceCtorEq,zGq])
  refine st_own k3 [_] rfl rfl (by simp) (by simp [ocS]) (fun C4 hc4 k3 => ?_)
  simp only [setR, List.set_cons_zero, List.set_cons_succ] at k3
  replace tw := tw.le (off_made L2 (hc4.mono (bs' := x3 :: x2 :: bs) fun y hy => by simp only [List.mem_cons, List.not_mem_nil, or_false] at hy; subst hy; exact List.mem_cons_self) hbig fun y hy => .inl hy)
  replace k2 := k2.chg hc4 n23
  replace r0 := r0.chg hc4 u0.symm
  replace L := hc4.keep L (New.one h3.2.2)
  have g3 := kn2 k3
  repeat' (first | simp -implicitDefEqProofs only [zG1,zG2,zG3,zG4,zG5,zG6,zG7,eq_self,resV,rval,X.val,binv,fillL,setR,↓reduceIte,Nat.reduceEqDiff,Nat.reduceAdd,Nat.reduceMul,Nat.reduceLeDiff,Nat.reduceLT,Nat.reduceSub,reduceCtorEq,zGq, g3])
  refine st_own k2 _ (by rw [vcA]) rfl (by simp) (by simp [ocI, ocS]) (fun C5 hc5 k2 => ?_)
  simp only [setR, List.set_cons_zero, List.set_cons_succ] at k2
  replace tw := tw.le (off_stay (H := H) (.refl C4) (hc5.mono (bs' := x3 :: x2 :: bs) fun y hy => by simp only [List.mem_cons, List.not_mem_nil, or_false] at hy; subst hy; exact List.mem_cons_of_mem _ List.mem_cons_self) (bs' := bs) fun y hy => .inl (List.mem_cons_of_mem _ (List.mem_cons_of_mem _ hy)))
  replace L := hc5.keep L (New.one h2.2)
  replace r0 := r0.chg hc5 fun y hy hm => by
    simp only [List.mem_cons, List.not_mem_nil, or_false] at hm; subst hm; exact y0 hy
  have g := kn2 k2
  repeat' (first | simp -implicitDefEqProofs only [zG1,zG2,zG3,zG4,zG5,zG6,zG7,eq_self,resV,rval,X.val,binv,fillL,setR,↓reduceIte,Nat.reduceEqDiff,Nat.reduceAdd,Nat.reduceMul,Nat.reduceLeDiff,Nat.reduceLT,Nat.reduceSub,reduceCtorEq,zGq, g])
  exact ret_same (h V0 e0 bs b C5 L n0 r0 tw)
theorem markProgram_ok (V : Option Addr) (e : Nat) (bs : List Nat) (b cp : Nat) (xs : List Value) (m : Int) (D : AHeap) (hr : Rw H 3 1 (.slice V rs.length e) rs.length xs bs) (hD : AHeap.le (D.no fun y => y ∈ bs) H) (hs : ShSS (fun _ => True) (D.no fun y => y ∈ bs) ts b) (hb : pgSize rs ts ≤ 1048576) (h0 : 0 ≤ m) (hm : m ≤ 1048576)
    (h : ∀ m' C C', Chg H C bs → MkL (fun x => (D.no fun y => y ∈ bs) x ≠ none) C C' → 0 ≤ m' → K (.int .i64 m') C') : ACalls Try.prog w0 29 [pgv rs ts V e (AtB b) cp, .int .i64 m] H K := by
  simp only [pgSize] at hb
  refine acalls_of_sx mix Try.func29 of29 (by simp [ir29]) ?_; rw [ir29]; (try delta qT qI qC qO qM qG)
  repeat' (first | simp -implicitDefEqProofs only [zG1,zG2,zG3,zG4,zG5,zG6,zG7,eq_self,resV,rval,X.val,binv,fillL,setR,↓reduceIte,Nat.reduceEqDiff,Nat.reduceAdd,Nat.reduceMul,Nat.reduceLeDiff,Nat.reduceLT,Nat.reduceSub,reduceCtorEq,zGq])
  refine new_intro (fun x2 hx2 => ?_)
  have l1 := (AHeap.le.refl H).fresh hx2 ⟨pgc rs ts V e (AtB b) cp, true, 45, 2⟩
  have k1 := Kn.same H x2 ⟨pgc rs ts V e (AtB b) cp, true, 45, 2⟩
  have nx : ¬ x2 ∈ bs := fun hm => rw_kn hr x2 hm hx2
  generalize H.set x2 _ = C at l1 k1 ⊢
  have q := kn2 k1
  repeat' (first | simp -implicitDefEqProofs only [zG1,zG2,zG3,zG4,zG5,zG6,zG7,eq_self,resV,rval,X.val,binv,fillL,setR,↓reduceIte,Nat.reduceEqDiff,Nat.reduceAdd,Nat.reduceMul,Nat.reduceLeDiff,Nat.reduceLT,Nat.reduceSub,reduceCtorEq,zGq, q])
  refine markIntS_rw w0 _ _ (hr.trans l1) (by omega) m h0 (by omega) (fun C1 hc1 r1 => ?_)
  replace k1 := k1.chg hc1 nx
  have q := kn2 k1
  have hle : AHeap.le (D.no fun y => y ∈ bs) C1 := fun y k hk => by
    have hy : ¬ y ∈ bs := fun hm => by rw [no_in hm] at hk; cases hk
    exact ((Kn.of hk).trans (hD.trans l1)).chg hc1 hy
  have hch : Chg H C1 bs := fun y k hy hk => ((Kn.of hk).trans l1).chg hc1 hy
  repeat' (first | simp -implicitDefEqProofs only [zG1,zG2,zG3,zG4,zG5,zG6,zG7,eq_self,resV,rval,X.val,binv,fillL,setR,↓reduceIte,Nat.reduceEqDiff,Nat.reduceAdd,Nat.reduceMul,Nat.reduceLeDiff,Nat.reduceLT,Nat.reduceSub,reduceCtorEq,zGq, q])
  refine markStmtSS_ok w0 C1 _ ts b cp _ _ (hs.self.go (.of_le hle) fun _ h => h) (by omega) (by omega) (by omega) (fun m' C2 mk h1 h2 => ?_)
  repeat' (first | simp -implicitDefEqProofs only [zG1,zG2,zG3,zG4,zG5,zG6,zG7,eq_self,resV,rval,X.val,binv,fillL,setR,↓reduceIte,Nat.reduceEqDiff,Nat.reduceAdd,Nat.reduceMul,Nat.reduceLeDiff,Nat.reduceLT,Nat.reduceSub,reduceCtorEq,zGq])
  exact ret_same (h m' C1 C2 hch mk (by omega))
end
theorem Rs.mkl {B : Nat → Prop} {C C' : AHeap} {t' t : TypeId} {sz : Nat} {v : Value} {L : List (List Value)} {bs : List Nat} (h : Rs C t' t sz v L bs) (mk : MkL B C C') (hb : ∀ y, y ∈ bs → ¬ B y) : Rs C' t' t sz v L bs := by
  obtain ⟨vs, ob, bss, h1, h2, h3, h4, h5⟩ := h
  refine ⟨vs, ob, bss, h1.mkl mk fun y hy => hb y (h3 y hy), h2, h3, h4, fun i xs hi => ?_⟩
  obtain ⟨x, ib, n, e1, e2, e3⟩ := h5 i xs hi
  exact ⟨x, ib, n, e1, e2, e3.mkl mk fun y hy => hb y ((h4 i ib e2).1 y hy).1⟩
theorem compProg_le (rs : List Int) (ts : List (List St)) : (compProg rs ts).length ≤ 3 ∧ ∀ x ∈ compProg rs ts, x.length ≤ 529 := by
  unfold compProg
  split
  · rename_i h
    rw [progOk_eq] at h
    simp only [Bool.and_eq_true, decide_eq_true_eq] at h
    refine ⟨by rw [List.length_map]; omega, fun x hx => ?_⟩
    obtain ⟨ss, hs, rfl⟩ := List.mem_map.1 hx
    have h1 := List.all_eq_true.1 h.2 ss hs
    simp only [tkOk, Bool.and_eq_true] at h1
    have := compileTask_le ss
    rw [compileTask, if_pos h1.1] at this
    exact this
  · exact ⟨by simp, fun x hx => by simp at hx⟩
end Go.Proofs.Ytfjhjfddgdokgaa
namespace Go.Proofs.Ytfjhjfddgdokgaa
set_option linter.all false
open Go Go.RowKit Go.Joins Go.ChangeShapes Go.WideShapes Go.ChangeAt Go.Deep
set_option linter.unusedVariables false
set_option maxRecDepth 100000
section
variable {H : Type} {enc : TypeId × Value → H} {P : Program} {w : World} {base : Nat} {spare : Nat → Bool} {held : Bool}
def StsR (w : World) (ss : List St) (cs : List Value) : Prop := ∃ A c, cs = [.slice A ss.length c] ∧ ss.length ≤ maxLen ∧ StR (heapOf w) ss A 0
theorem open_srow {t s : TypeId} (hs : P.underlying s = some (.slice t)) (hC : P.cellsOf t = 8) (op : ∀ (fuel : Nat) (cs : List Value) (x : DataW H × List MemPlace), DataW.trod enc P w base spare held fuel t cs = some x → ∃ e : St, StV (heapOf w) e cs)
    (fuel : Nat) (cs : List Value) (x : DataW H × List MemPlace) (h : DataW.trod enc P w base spare held fuel s cs = some x) : ∃ ss : List St, StsR w ss cs := by
  have main : ∀ v : Value, cs = [v] → ∃ ss : List St, StsR w ss cs := fun v e => by
    subst e
    obtain ⟨ss, A, c, rfl, hm, hr⟩ := open_stmts hs hC op h
    exact ⟨ss, A, c, rfl, hm, hr⟩
  rcases DataW.trod_slice hs h with ⟨hc, _⟩ | ⟨a, len, cap, elems, rest, m, hfm, hc, _⟩
  · exact main _ hc
  · exact main _ hc
theorem open_srows {s t : TypeId} (hs : P.underlying s = some (.slice t)) (hC : P.cellsOf t = 1) (op : ∀ (fuel : Nat) (cs : List Value) (x : DataW H × List MemPlace), DataW.trod enc P w base spare held fuel t cs = some x → ∃ ss : List St, StsR w ss cs)
    {fuel : Nat} {cs : List Value} {x : DataW H × List MemPlace} (h : DataW.trod enc P w base spare held fuel s cs = some x) : ∃ (ts : List (List St)) (A : Option Addr) (c : Nat), cs = [.slice A ts.length c] ∧ ts.length ≤ maxLen ∧ (∀ x ∈ ts, x.length ≤ maxLen) ∧ SR (heapOf w) A ts := by
  obtain ⟨L, A, c, e, hm, hr⟩ := open_row hs hC (StsR w) op h
  refine ⟨L, A, c, e, hm, fun x hx => ?_, fun i hi => ?_⟩
  · obtain ⟨i, hi, rfl⟩ := List.getElem_of_mem hx
    obtain ⟨_, vs, ⟨_, _, _, hm', _⟩, _, _⟩ := hr i hi
    exact hm'
  · obtain ⟨hA, vs, ⟨A', c', rfl, hm', hfl⟩, hl, hc⟩ := hr i hi
    have := hc 0 (by simp)
    rw [Nat.mul_one, Nat.add_zero] at this
    exact ⟨hA, A', c', this, hfl⟩
theorem open_prog {t u si ss sl : TypeId} {f0 f1 : Field} (ht : P.underlying t = some (.struct #[f0, f1])) (ho : f0.offset = 0 ∧ f1.offset = 1) (hf : f0.type = si ∧ f1.type = ss) (hC : P.cellsOf t = 2) (hk : P.cellsOf si = 1 ∧ P.cellsOf ss = 1)
    (hsi : P.underlying si = some (.slice u)) (hu : P.underlying u = some (.int .i64)) (hcu : P.cellsOf u = 1) (hss : P.underlying ss = some (.slice sl)) (hcl : P.cellsOf sl = 1)
    (op : ∀ (fuel : Nat) (cs : List Value) (x : DataW H × List MemPlace), DataW.trod enc P w base spare held fuel sl cs = some x → ∃ ss : List St, StsR w ss cs)
    {fuel : Nat} {cs : List Value} {x : DataW H × List MemPlace} (h : DataW.trod enc P w base spare held fuel t cs = some x) :
    ∃ (rs : List Int) (ts : List (List St)) (A : Option Addr) (c : Nat) (B : Option Addr) (d : Nat), cs = pgc rs ts A c B d ∧ Fl (heapOf w) A (ints rs) ∧ SR (heapOf w) B ts ∧ rs.length ≤ maxLen ∧ ts.length ≤ maxLen ∧ ∀ x ∈ ts, x.length ≤ maxLen := by
  obtain ⟨y0, y1, n, _, hl, h0, h1⟩ := trod_struct2 ht h
  rw [hC] at hl
  rw [ho.1, hf.1, hk.1] at h0
  rw [ho.2, hf.2, hk.2] at h1
  match cs, hl with
  | [c0, c1], _ =>
    simp only [List.drop_zero, List.drop_succ_cons, List.take_succ_cons, List.take_zero] at h0 h1
    obtain ⟨rs, A, c, e0, hm0, f0⟩ := open_irow hsi hu hcu _ _ _ h0
    obtain ⟨ts, B, d, e1, hm1, hm2, f1⟩ := open_srows hss hcl op h1
    simp only [List.cons.injEq, and_true] at e0 e1
    subst e0 e1
    exact ⟨rs, ts, A, c, B, d, rfl, f0, f1, hm0, hm1, hm2⟩
end
end Go.Proofs.Ytfjhjfddgdokgaa
namespace Go.Proofs.Ytfjhjfddgdokgaa
set_option linter.all false
open Go Go.RowKit
set_option maxRecDepth 100000
variable (w0 : World) (H : AHeap) (K : Value → AHeap → Prop)
theorem eqQuadSS_same (A B : Option Addr) (m m' ca cb : Nat) (Z : List (List Qd)) (bs bs' : List Nat) (hx : Rs H 29 111 5 (.slice A m ca) (Z.map qcells) bs) (hy : Rs H 29 111 5 (.slice B m' cb) (Z.map qcells) bs') (hn : Z.length ≤ 1048576) (hr : ∀ x ∈ Z, x.length ≤ 1048576) (h : K (.bool true) H) :
    ACalls Try.prog w0 27 [.slice A m ca, .slice B m' cb] H K := by
  have em := hx.len
  have em' := hy.len
  rw [List.length_map] at em em'
  subst em em'
  refine acalls_of_sx mix Try.func27 of27 (by simp [ir27]) ?_; rw [ir27]; (try delta qT qI qC qO qM qG)
  repeat' (first | simp -implicitDefEqProofs only [zG1,zG2,zG3,zG4,zG5,zG6,zG7,eq_self,resV,rval,X.val,binv,fillL,setR,↓reduceIte,Nat.reduceEqDiff,Nat.reduceAdd,Nat.reduceMul,Nat.reduceLeDiff,Nat.reduceLT,Nat.reduceSub,reduceCtorEq,zGq, bne_self_eq_false] | ((with_reducible refine rows_intro (fun _ hb => ?_)); try simp only [set_none, ne_eq] at hb) | ((with_reducible refine new_intro (fun _ hb => ?_)); try simp only [set_none, ne_eq] at hb) | (with_reducible refine draw_same ?_) | ((with_reducible refine gd_split ?_ (fun _ => ?_) (fun _ => ?_)); exact rfl) | ((with_reducible refine td_split ?_ (fun _ => ?_) (fun _ => ?_)); exact rfl) | (with_reducible refine c_split (fun _ => ?_) (fun _ => ?_)))
  refine for_rule Z.length (fun k fr C => C = H ∧ fr 0 = .slice A Z.length ca ∧ fr 1 = .slice B Z.length cb ∧ fr 5 = .int .i64 k) ⟨rfl, (by first | rfl | (simp only [put_at, ↓reduceIte, Nat.reduceEqDiff]; first | done | rfl | assumption) | simp [put_at, *]), (by first | rfl | (simp only [put_at, ↓reduceIte, Nat.reduceEqDiff]; first | done | rfl | assumption) | simp [put_at, *]), (by first | rfl | (simp only [put_at, ↓reduceIte, Nat.reduceEqDiff]; first | done | rfl | assumption) | simp [put_at, *])⟩ ?_ ?_
  · rintro k fr C hk ⟨rfl, f0, f1, f5⟩ N hN
    have g0 := lt_dec hk
    have g1 := rng hk
    have g3 := up1 hk (by omega)
    obtain ⟨q1, A', n', c', q2, fl, hl⟩ := hx.row (i := k) (by rw [List.length_map]; exact hk)
    obtain ⟨q3, B', n'', c'', q4, fl', hl'⟩ := hy.row (i := k) (by rw [List.length_map]; exact hk)
    rw [List.getElem_map] at fl hl fl' hl'
    rw [qcells_len] at hl hl'
    have en : n' = Z[k].length := by omega
    have en' : n'' = Z[k].length := by omega
    subst en en'
    have hb := hr _ (List.getElem_mem hk)
    have d1 : decide (Z[k] = Z[k]) = true := by simp
    repeat' (first | simp -implicitDefEqProofs only [zG1,zG2,zG3,zG4,zG5,zG6,zG7,eq_self,resV,rval,X.val,binv,fillL,setR,↓reduceIte,Nat.reduceEqDiff,Nat.reduceAdd,Nat.reduceMul,Nat.reduceLeDiff,Nat.reduceLT,Nat.reduceSub,reduceCtorEq,zGq, f0, f1, f5, g0, g1, g3, q1, q2, q3, q4, d1, decide_true, Nat.mul_one] | ((with_reducible refine rows_intro (fun _ hb => ?_)); try simp only [set_none, ne_eq] at hb) | ((with_reducible refine new_intro (fun _ hb => ?_)); try simp only [set_none, ne_eq] at hb) | (with_reducible refine draw_same ?_) | ((with_reducible refine gd_split ?_ (fun _ => ?_) (fun _ => ?_)); exact rfl) | ((with_reducible refine td_split ?_ (fun _ => ?_) (fun _ => ?_)); exact rfl) | (with_reducible refine c_split (fun _ => ?_) (fun _ => ?_)) | (with_reducible refine eqQuadS_ok _ _ _ A' B' c' c'' Z[k] Z[k] fl fl' (by omega) ?_))

    exact hN _ _ _ (.refl _) ⟨rfl, (by first | rfl | (simp only [put_at, ↓reduceIte, Nat.reduceEqDiff]; first | done | rfl | assumption) | simp [put_at, *]), (by first | rfl | (simp only [put_at, ↓reduceIte, Nat.reduceEqDiff]; first | done | rfl | assumption) | simp [put_at, *]), (by first | rfl | (simp only [put_at, ↓reduceIte, Nat.reduceEqDiff]; first | done | rfl | assumption) | simp [put_at, *])⟩
  · rintro fr C ⟨rfl, f0, f1, f5⟩ N
    have g0 : decide ((Z.length : Int) < (Z.length : Int)) = false := by simp
    repeat' (first | simp -implicitDefEqProofs only [zG1,zG2,zG3,zG4,zG5,zG6,zG7,eq_self,resV,rval,X.val,binv,fillL,setR,↓reduceIte,Nat.reduceEqDiff,Nat.reduceAdd,Nat.reduceMul,Nat.reduceLeDiff,Nat.reduceLT,Nat.reduceSub,reduceCtorEq,zGq, f0, f1, f5, g0] | ((with_reducible refine rows_intro (fun _ hb => ?_)); try simp only [set_none, ne_eq] at hb) | ((with_reducible refine new_intro (fun _ hb => ?_)); try simp only [set_none, ne_eq] at hb) | (with_reducible refine draw_same ?_) | ((with_reducible refine gd_split ?_ (fun _ => ?_) (fun _ => ?_)); exact rfl) | ((with_reducible refine td_split ?_ (fun _ => ?_) (fun _ => ?_)); exact rfl) | (with_reducible refine c_split (fun _ => ?_) (fun _ => ?_)))
    exact ret_same h
theorem markQuadSS_rs (A : Option Addr) (m c : Nat) (L : List (List Value)) (bs : List Nat) (k0 : Int) (hR : Rs H 29 111 5 (.slice A m c) L bs) (hn : L.length ≤ 1048576) (h0 : 0 ≤ k0) (h1 : k0 + 5 * (tot 5 L : Int) ≤ 4294967295)
    (h : ∀ C' M, Chg H C' bs → Marked 5 (fun k n => ints (marks k (n * 5))) k0 5 L M → Rs C' 29 111 5 (.slice A m c) M bs → K (.int .i64 (k0 + 5 * (tot 5 L : Int))) C') : ACalls Try.prog w0 30 [.slice A m c, .int .i64 k0] H K := by
  have em := hR.len
  subst em
  refine acalls_of_sx mix Try.func30 of30 (by simp [ir30]) ?_; rw [ir30]; (try delta qT qI qC qO qM qG)
  repeat' (first | simp -implicitDefEqProofs only [zG1,zG2,zG3,zG4,zG5,zG6,zG7,eq_self,resV,rval,X.val,binv,fillL,setR,↓reduceIte,Nat.reduceEqDiff,Nat.reduceAdd,Nat.reduceMul,Nat.reduceLeDiff,Nat.reduceLT,Nat.reduceSub,reduceCtorEq,zGq] | ((with_reducible refine rows_intro (fun _ hb => ?_)); try simp only [set_none, ne_eq] at hb) | ((with_reducible refine new_intro (fun _ hb => ?_)); try simp only [set_none, ne_eq] at hb) | (with_reducible refine draw_same ?_) | ((with_reducible refine gd_split ?_ (fun _ => ?_) (fun _ => ?_)); exact rfl) | ((with_reducible refine td_split ?_ (fun _ => ?_) (fun _ => ?_)); exact rfl) | (with_reducible refine c_split (fun _ => ?_) (fun _ => ?_)))
  refine for_rule L.length (fun i fr C => ∃ M, Chg H C bs ∧ Midd 5 (fun k n => ints (marks k (n * 5))) k0 5 L M i ∧ Rs C 29 111 5 (.slice A L.length c) M bs ∧ fr 0 = .slice A L.length c ∧ fr 1 = .int .i64 (k0 + 5 * (tot 5 (L.take i) : Int)) ∧ fr 5 = .int .i64 i)
    ⟨L, Chg.refl _ _, Midd.start, hR, (by first | rfl | (simp only [put_at, ↓reduceIte, Nat.reduceEqDiff]; first | done | rfl | assumption) | simp [put_at, *]), by simp [fr0, put_at, tot], (by first | rfl | (simp only [put_at, ↓reduceIte, Nat.reduceEqDiff]; first | done | rfl | assumption) | simp [put_at, *])⟩ ?_ ?_
  · rintro i fr C hi ⟨M, hc, hM, hR', f0, f1, f5⟩ N hN
    have hMl := hM.1
    have g0 := lt_dec hi
    have g1 := rng hi
    have g3 := up1 hi (by omega)
    obtain ⟨q1, x, ib, n, q2, wx, hib, -, put⟩ := hR'.inner (i := i) (by omega)
    obtain ⟨A', c', rfl⟩ := wx.slice
    have hlen := wx.len
    have hMi : M[i]'(by omega) = L[i] := hM.at_ hi
    rw [hMi] at wx hlen
    have htk := tot_take (sz := 5) hi hlen
    have hts := tot_take_le 5 L (i + 1)
    repeat' (first | simp -implicitDefEqProofs only [zG1,zG2,zG3,zG4,zG5,zG6,zG7,eq_self,resV,rval,X.val,binv,fillL,setR,↓reduceIte,Nat.reduceEqDiff,Nat.reduceAdd,Nat.reduceMul,Nat.reduceLeDiff,Nat.reduceLT,Nat.reduceSub,reduceCtorEq,zGq, f0, f1, f5, g0, g1, q1, q2, Nat.mul_one] | ((with_reducible refine rows_intro (fun _ hb => ?_)); try simp only [set_none, ne_eq] at hb) | ((with_reducible refine new_intro (fun _ hb => ?_)); try simp only [set_none, ne_eq] at hb) | (with_reducible refine draw_same ?_) | ((with_reducible refine gd_split ?_ (fun _ => ?_) (fun _ => ?_)); exact rfl) | ((with_reducible refine td_split ?_ (fun _ => ?_) (fun _ => ?_)); exact rfl) | (with_reducible refine c_split (fun _ => ?_) (fun _ => ?_)))
    refine markQuadS_rw _ _ _ wx (by omega) _ (by omega) (by omega) (fun C2 hc2 w2 => ?_)
    have R2 := put C2 _ hc2 w2
    have e1 : k0 + 5 * (tot 5 (L.take i) : Int) + 5 * (n : Int) = k0 + 5 * (tot 5 (L.take (i + 1)) : Int) := by rw [htk]; push_cast; omega
    rw [e1]
    repeat' (first | simp -implicitDefEqProofs only [zG1,zG2,zG3,zG4,zG5,zG6,zG7,eq_self,resV,rval,X.val,binv,fillL,setR,↓reduceIte,Nat.reduceEqDiff,Nat.reduceAdd,Nat.reduceMul,Nat.reduceLeDiff,Nat.reduceLT,Nat.reduceSub,reduceCtorEq,zGq, f0, f1, f5, g3] | ((with_reducible refine rows_intro (fun _ hb => ?_)); try simp only [set_none, ne_eq] at hb) | ((with_reducible refine new_intro (fun _ hb => ?_)); try simp only [set_none, ne_eq] at hb) | (with_reducible refine draw_same ?_) | ((with_reducible refine gd_split ?_ (fun _ => ?_) (fun _ => ?_)); exact rfl) | ((with_reducible refine td_split ?_ (fun _ => ?_) (fun _ => ?_)); exact rfl) | (with_reducible refine c_split (fun _ => ?_) (fun _ => ?_)))
    refine hN _ _ _ (.refl _) ⟨_, hc.trans (hc2.mono hib), hM.step hi hlen, R2, (by first | rfl | (simp only [put_at, ↓reduceIte, Nat.reduceEqDiff]; first | done | rfl | assumption) | simp [put_at, *]), (by first | rfl | (simp only [put_at, ↓reduceIte, Nat.reduceEqDiff]; first | done | rfl | assumption) | simp [put_at, *]), (by first | rfl | (simp only [put_at, ↓reduceIte, Nat.reduceEqDiff]; first | done | rfl | assumption) | simp [put_at, *])⟩
  · rintro fr C ⟨M, hc, hM, hR', f0, f1, f5⟩ N
    have g0 : decide ((L.length : Int) < (L.length : Int)) = false := by simp
    rw [List.take_length] at f1
    repeat' (first | simp -implicitDefEqProofs only [zG1,zG2,zG3,zG4,zG5,zG6,zG7,eq_self,resV,rval,X.val,binv,fillL,setR,↓reduceIte,Nat.reduceEqDiff,Nat.reduceAdd,Nat.reduceMul,Nat.reduceLeDiff,Nat.reduceLT,Nat.reduceSub,reduceCtorEq,zGq, f0, f1, f5, g0] | ((with_reducible refine rows_intro (fun _ hb => ?_)); try simp only [set_none, ne_eq] at hb) | ((with_reducible refine new_intro (fun _ hb => ?_)); try simp only [set_none, ne_eq] at hb) | (with_reducible refine draw_same ?_) | ((with_reducible refine gd_split ?_ (fun _ => ?_) (fun _ => ?_)); exact rfl) | ((with_reducible refine td_split ?_ (fun _ => ?_) (fun _ => ?_)); exact rfl) | (with_reducible refine c_split (fun _ => ?_) (fun _ => ?_)))
    exact ret_same (h _ M hc hM.done hR')
theorem heldQuadSS_ok (A : Option Addr) (m c : Nat) (L M : List (List Value)) (bs : List Nat) (k0 : Int) (hR : Rs H 29 111 5 (.slice A m c) M bs) (hL : ∀ x ∈ L, ∃ n, x.length = n * 5) (hn : L.length ≤ 1048576) (hM : Marked 5 (fun k n => ints (marks k (n * 5))) k0 5 L M) (h0 : 0 ≤ k0) (h1 : k0 + 5 * (tot 5 L : Int) ≤ 4294967295)
    (h : K (.int .i64 (k0 + 5 * (tot 5 L : Int))) H) : ACalls Try.prog w0 31 [.slice A m c, .int .i64 k0] H K := by
  have em := hR.len
  rw [hM.1] at em
  subst em
  refine acalls_of_sx mix Try.func31 of31 (by simp [ir31]) ?_; rw [ir31]; (try delta qT qI qC qO qM qG)
  repeat' (first | simp -implicitDefEqProofs only [zG1,zG2,zG3,zG4,zG5,zG6,zG7,eq_self,resV,rval,X.val,binv,fillL,setR,↓reduceIte,Nat.reduceEqDiff,Nat.reduceAdd,Nat.reduceMul,Nat.reduceLeDiff,Nat.reduceLT,Nat.reduceSub,reduceCtorEq,zGq] | ((with_reducible refine rows_intro (fun _ hb => ?_)); try simp only [set_none, ne_eq] at hb) | ((with_reducible refine new_intro (fun _ hb => ?_)); try simp only [set_none, ne_eq] at hb) | (with_reducible refine draw_same ?_) | ((with_reducible refine gd_split ?_ (fun _ => ?_) (fun _ => ?_)); exact rfl) | ((with_reducible refine td_split ?_ (fun _ => ?_) (fun _ => ?_)); exact rfl) | (with_reducible refine c_split (fun _ => ?_) (fun _ => ?_)))
  refine for_rule L.length (fun i fr C => C = H ∧ fr 0 = .slice A L.length c ∧ fr 1 = .int .i64 (k0 + 5 * (tot 5 (L.take i) : Int)) ∧ fr 5 = .int .i64 i)
    ⟨rfl, (by first | rfl | (simp only [put_at, ↓reduceIte, Nat.reduceEqDiff]; first | done | rfl | assumption) | simp [put_at, *]), by simp [fr0, put_at, tot], (by first | rfl | (simp only [put_at, ↓reduceIte, Nat.reduceEqDiff]; first | done | rfl | assumption) | simp [put_at, *])⟩ ?_ ?_
  · rintro i fr C hi ⟨rfl, f0, f1, f5⟩ N hN
    have g0 := lt_dec hi
    have g1 := rng hi
    have g3 := up1 hi (by omega)
    obtain ⟨n, hlen⟩ := hL _ (List.getElem_mem hi)
    obtain ⟨q1, A', n', c', q2, fl, hl⟩ := hR.row (i := i) (by rw [hM.1]; exact hi)
    have hMi := hM.at_ hi hlen
    rw [hMi] at fl hl
    have en : n' = n := by
      simp only [ints_len, marks_len] at hl
      omega
    subst en
    have htk := tot_take (sz := 5) hi hlen
    have hts := tot_take_le 5 L (i + 1)
    have d1 : decide (k0 + 5 * (tot 5 (L.take (i + 1)) : Int) < 0) = false := by simp; omega
    repeat' (first | simp -implicitDefEqProofs only [zG1,zG2,zG3,zG4,zG5,zG6,zG7,eq_self,resV,rval,X.val,binv,fillL,setR,↓reduceIte,Nat.reduceEqDiff,Nat.reduceAdd,Nat.reduceMul,Nat.reduceLeDiff,Nat.reduceLT,Nat.reduceSub,reduceCtorEq,zGq, f0, f1, f5, g0, g1, q1, q2, Nat.mul_one] | ((with_reducible refine rows_intro (fun _ hb => ?_)); try simp only [set_none, ne_eq] at hb) | ((with_reducible refine new_intro (fun _ hb => ?_)); try simp only [set_none, ne_eq] at hb) | (with_reducible refine draw_same ?_) | ((with_reducible refine gd_split ?_ (fun _ => ?_) (fun _ => ?_)); exact rfl) | ((with_reducible refine td_split ?_ (fun _ => ?_) (fun _ => ?_)); exact rfl) | (with_reducible refine c_split (fun _ => ?_) (fun _ => ?_)))
    refine heldQuadS_ok _ _ _ A' _ c' _ fl (by omega) (by omega) (by omega) ?_
    have e1 : k0 + 5 * (tot 5 (L.take i) : Int) + 5 * (n' : Int) = k0 + 5 * (tot 5 (L.take (i + 1)) : Int) := by rw [htk]; push_cast; omega
    rw [e1]
    repeat' (first | simp -implicitDefEqProofs only [zG1,zG2,zG3,zG4,zG5,zG6,zG7,eq_self,resV,rval,X.val,binv,fillL,setR,↓reduceIte,Nat.reduceEqDiff,Nat.reduceAdd,Nat.reduceMul,Nat.reduceLeDiff,Nat.reduceLT,Nat.reduceSub,reduceCtorEq,zGq, f0, f1, f5, g3, d1] | ((with_reducible refine rows_intro (fun _ hb => ?_)); try simp only [set_none, ne_eq] at hb) | ((with_reducible refine new_intro (fun _ hb => ?_)); try simp only [set_none, ne_eq] at hb) | (with_reducible refine draw_same ?_) | ((with_reducible refine gd_split ?_ (fun _ => ?_) (fun _ => ?_)); exact rfl) | ((with_reducible refine td_split ?_ (fun _ => ?_) (fun _ => ?_)); exact rfl) | (with_reducible refine c_split (fun _ => ?_) (fun _ => ?_)))
    exact hN _ _ _ (.refl _) ⟨rfl, (by first | rfl | (simp only [put_at, ↓reduceIte, Nat.reduceEqDiff]; first | done | rfl | assumption) | simp [put_at, *]), (by first | rfl | (simp only [put_at, ↓reduceIte, Nat.reduceEqDiff]; first | done | rfl | assumption) | simp [put_at, *]), (by first | rfl | (simp only [put_at, ↓reduceIte, Nat.reduceEqDiff]; first | done | rfl | assumption) | simp [put_at, *])⟩
  · rintro fr C ⟨rfl, f0, f1, f5⟩ N
    have g0 : decide ((L.length : Int) < (L.length : Int)) = false := by simp
    rw [List.take_length] at f1
    repeat' (first | simp -implicitDefEqProofs only [zG1,zG2,zG3,zG4,zG5,zG6,zG7,eq_self,resV,rval,X.val,binv,fillL,setR,↓reduceIte,Nat.reduceEqDiff,Nat.reduceAdd,Nat.reduceMul,Nat.reduceLeDiff,Nat.reduceLT,Nat.reduceSub,reduceCtorEq,zGq, f0, f1, f5, g0] | ((with_reducible refine rows_intro (fun _ hb => ?_)); try simp only [set_none, ne_eq] at hb) | ((with_reducible refine new_intro (fun _ hb => ?_)); try simp only [set_none, ne_eq] at hb) | (with_reducible refine draw_same ?_) | ((with_reducible refine gd_split ?_ (fun _ => ?_) (fun _ => ?_)); exact rfl) | ((with_reducible refine td_split ?_ (fun _ => ?_) (fun _ => ?_)); exact rfl) | (with_reducible refine c_split (fun _ => ?_) (fun _ => ?_)))
    exact ret_same h
end Go.Proofs.Ytfjhjfddgdokgaa
namespace Go.Proofs.Ytfjhjfddgdokgaa
set_option linter.all false
open Go Go.RowKit Go.Joins Go.ChangeShapes Go.WideShapes Go.ChangeAt Go.Deep
set_option linter.unusedVariables false
set_option maxRecDepth 100000
theorem lawCompileProgram_ok (w0 : World) (H : AHeap) (K : Value → AHeap → Prop) (rs : List Int) (ts : List (List St)) (A : Option Addr) (c : Nat) (B : Option Addr) (d : Nat) (hx : Fl H A (ints rs)) (hs : SR H B ts) (hr : rs.length ≤ maxLen) (hm : ts.length ≤ maxLen) (hL : ∀ x ∈ ts, x.length ≤ maxLen) (h : ∀ H', K (.bool true) H') :
    ACalls Try.prog w0 5 [pgv rs ts A c B d] H K := by
  have bx : ∀ b : Bool, (b != b) = false := fun b => by cases b <;> rfl
  have rd2 : ∀ {D : AHeap} {x : Nat} {t : TypeId} {v0 v1 : Value}, Kn D x ⟨[v0, v1], true, t, 2⟩ → D.rdn (some ⟨x, 0, none⟩) 2 = some [v0, v1] := fun k => k.rdn (l := [_, _]) (o := 0) fun j _ => by rw [Nat.zero_add]
  refine acalls_of_sx mix Try.func5 of5 (by simp [ir5]) ?_; rw [ir5]; (try delta qT qI qC qO qM qG)
  repeat' (first | simp -implicitDefEqProofs only [zG1,zG2,zG3,zG4,zG5,zG6,zG7,eq_self,resV,rval,X.val,binv,fillL,setR,↓reduceIte,Nat.reduceEqDiff,Nat.reduceAdd,Nat.reduceMul,Nat.reduceLeDiff,Nat.reduceLT,Nat.reduceSub,reduceCtorEq,zGp])
  refine new_intro (fun x1 hx1 => ?_)
  have l1 := (AHeap.le.refl H).fresh hx1 ⟨pgc rs ts A c B d, true, 38, 2⟩
  have k1 := Kn.same H x1 ⟨pgc rs ts A c B d, true, 38, 2⟩
  generalize H.set x1 _ = C at l1 k1 ⊢
  have r1 := rd2 k1
  by_cases hbig : (1048576 : Int) < pgSize rs ts
  · have d1 : decide ((-1 : Int) < 0) = true := by decide
    have hbig' := eq_true hbig
    repeat' (first | simp -implicitDefEqProofs only [zG1,zG2,zG3,zG4,zG5,zG6,zG7,eq_self,resV,rval,X.val,binv,fillL,setR,↓reduceIte,Nat.reduceEqDiff,Nat.reduceAdd,Nat.reduceMul,Nat.reduceLeDiff,Nat.reduceLT,Nat.reduceSub,reduceCtorEq,zGp, r1, hbig', d1, if_true] | ((with_reducible refine rows_intro (fun _ hb => ?_)); try simp only [set_none, ne_eq] at hb) | ((with_reducible refine new_intro (fun _ hb => ?_)); try simp only [set_none, ne_eq] at hb) | (with_reducible refine draw_same ?_) | ((with_reducible refine gd_split ?_ (fun _ => ?_) (fun _ => ?_)); exact rfl) | ((with_reducible refine td_split ?_ (fun _ => ?_) (fun _ => ?_)); exact rfl) | (with_reducible refine c_split (fun _ => ?_) (fun _ => ?_)) | (with_reducible refine szProgram_ok w0 _ _ A c rs B d ts (hs.le l1) hr hm hL 1048576 (by decide) (by decide) ?_))
    exact ret_same (h _)
  · have d1 : decide ((1048576 : Int) - pgSize rs ts < 0) = false := by simp; omega
    have hb : pgSize rs ts ≤ 1048576 := by omega
    have hb' := hb
    simp only [pgSize] at hb'
    have hbig' := eq_false hbig
    have hcnt : ∀ i (hi : i < ts.length), cntL ts[i] ≤ 1048576 := fun i hi => by
      have := cntL_szT ts[i]
      have := sumT_at hi
      omega
    obtain ⟨hX1, hX2⟩ := compProg_le rs ts
    generalize hL' : compProg rs ts = L at hX1 hX2
    generalize hB' : progOk rs ts = bo
    have hX3 : ∀ x ∈ L, x.length ≤ 1048576 := fun x hx => by have := hX2 x hx; omega
    have hLs : ∀ x ∈ L.map qcells, ∃ n, x.length = n * 5 := fun x hx => by
      obtain ⟨y, hy, rfl⟩ := List.mem_map.1 hx
      exact ⟨y.length, qcells_len y⟩
    have htot : tot 5 (L.map qcells) ≤ 3 * 529 := by
      refine Nat.le_trans (tot_bound (m := 529) fun x hx => ?_) (by rw [List.length_map]; exact Nat.mul_le_mul_right _ hX1)
      obtain ⟨y, hy, rfl⟩ := List.mem_map.1 hx
      have := hX2 y hy
      rw [qcells_len]
      omega
    have hLl : (L.map qcells).length ≤ 1048576 := by rw [List.length_map]; omega
    repeat' (first | simp -implicitDefEqProofs only [zG1,zG2,zG3,zG4,zG5,zG6,zG7,eq_self,resV,rval,X.val,binv,fillL,setR,↓reduceIte,Nat.reduceEqDiff,Nat.reduceAdd,Nat.reduceMul,Nat.reduceLeDiff,Nat.reduceLT,Nat.reduceSub,reduceCtorEq,zGp, r1, hbig', d1, if_false] | ((with_reducible refine rows_intro (fun _ hb => ?_)); try simp only [set_none, ne_eq] at hb) | ((with_reducible refine new_intro (fun _ hb => ?_)); try simp only [set_none, ne_eq] at hb) | (with_reducible refine draw_same ?_) | ((with_reducible refine gd_split ?_ (fun _ => ?_) (fun _ => ?_)); exact rfl) | ((with_reducible refine td_split ?_ (fun _ => ?_) (fun _ => ?_)); exact rfl) | (with_reducible refine c_split (fun _ => ?_) (fun _ => ?_)) | (with_reducible refine szProgram_ok w0 _ _ A c rs B d ts (hs.le l1) hr hm hL 1048576 (by decide) (by decide) ?_))
    refine toProgram_own w0 _ _ A c rs B d ts (hx.le l1) (hs.le l1) hb (fun V2 e2 bs2 b2 C2 l2 _ w2 t2 => ?_)
    have L2 := l1.trans l2
    repeat' (first | simp -implicitDefEqProofs only [zG1,zG2,zG3,zG4,zG5,zG6,zG7,eq_self,resV,rval,X.val,binv,fillL,setR,↓reduceIte,Nat.reduceEqDiff,Nat.reduceAdd,Nat.reduceMul,Nat.reduceLeDiff,Nat.reduceLT,Nat.reduceSub,reduceCtorEq,zGp] | ((with_reducible refine rows_intro (fun _ hb => ?_)); try simp only [set_none, ne_eq] at hb) | ((with_reducible refine new_intro (fun _ hb => ?_)); try simp only [set_none, ne_eq] at hb) | (with_reducible refine draw_same ?_) | ((with_reducible refine gd_split ?_ (fun _ => ?_) (fun _ => ?_)); exact rfl) | ((with_reducible refine td_split ?_ (fun _ => ?_) (fun _ => ?_)); exact rfl) | (with_reducible refine c_split (fun _ => ?_) (fun _ => ?_)))
    refine compileProgramS_ok w0 C2 _ V2 e2 rs (AtB b2) ts.length ts w2.fl'.1 (by omega) (t2.1.le ((no_le _ _).trans (off_le _ _))) (by omega) hcnt (fun v3 C3 bs3' l3 _ w3' => ?_)
    rw [hB']
    rw [hL'] at w3'
    obtain ⟨bs3, -, q3, w3⟩ := w3'.tight
    clear w3'
    obtain ⟨A3, e3, rfl⟩ := w3.slice
    have L3 := L2.trans l3
    have k13 := k1.trans (l2.trans l3)
    have r13 := rd2 k13
    repeat' (first | simp -implicitDefEqProofs only [zG1,zG2,zG3,zG4,zG5,zG6,zG7,eq_self,resV,rval,X.val,binv,fillL,setR,↓reduceIte,Nat.reduceEqDiff,Nat.reduceAdd,Nat.reduceMul,Nat.reduceLeDiff,Nat.reduceLT,Nat.reduceSub,reduceCtorEq,zGp, r13] | ((with_reducible refine rows_intro (fun _ hb => ?_)); try simp only [set_none, ne_eq] at hb) | ((with_reducible refine new_intro (fun _ hb => ?_)); try simp only [set_none, ne_eq] at hb) | (with_reducible refine draw_same ?_) | ((with_reducible refine gd_split ?_ (fun _ => ?_) (fun _ => ?_)); exact rfl) | ((with_reducible refine td_split ?_ (fun _ => ?_) (fun _ => ?_)); exact rfl) | (with_reducible refine c_split (fun _ => ?_) (fun _ => ?_)))
    refine toProgram_own w0 _ _ A c rs B d ts (hx.le L3) (hs.le L3) hb (fun V4 e4 bs4 b4 C4 l4 n4 w4 t4 => ?_)
    have L4 := L3.trans l4
    have k14 := k13.trans l4
    repeat' (first | simp -implicitDefEqProofs only [zG1,zG2,zG3,zG4,zG5,zG6,zG7,eq_self,resV,rval,X.val,binv,fillL,setR,↓reduceIte,Nat.reduceEqDiff,Nat.reduceAdd,Nat.reduceMul,Nat.reduceLeDiff,Nat.reduceLT,Nat.reduceSub,reduceCtorEq,zGp])
    refine new_intro (fun x6 hx6 => ?_)
    have l5 := (AHeap.le.refl C4).fresh hx6 ⟨[.slice none 0 0, .slice none 0 0], true, 45, 2⟩
    have k5 := Kn.same C4 x6 ⟨[.slice none 0 0, .slice none 0 0], true, 45, 2⟩
    have k15 := k14.trans l5
    have n16 : ¬ x1 ∈ [x6] := fun hm => by
      simp only [List.mem_cons, List.not_mem_nil, or_false] at hm; subst hm; exact k14.ne hx6
    generalize C4.set x6 _ = C5 at l5 k5 k15 ⊢
    repeat' (first | simp -implicitDefEqProofs only [zG1,zG2,zG3,zG4,zG5,zG6,zG7,eq_self,resV,rval,X.val,binv,fillL,setR,↓reduceIte,Nat.reduceEqDiff,Nat.reduceAdd,Nat.reduceMul,Nat.reduceLeDiff,Nat.reduceLT,Nat.reduceSub,reduceCtorEq,zGp])
    refine st_own k5 (pgc rs ts V4 e4 (AtB b4) ts.length) rfl rfl (by simp) (by simp [ocI, ocS]) (fun C6 h6 k6 => ?_)
    simp only [setR, List.set_cons_zero, List.set_cons_succ] at k6
    have l46 := h6.keep l5 (New.one hx6)
    have L6 := L4.trans l46
    have k16 := k15.chg h6 n16
    have w46 := w4.trans l46
    have r66 := rd2 k6
    have tS4 : AHeap.le ((C4.off C3).no fun y => y ∈ bs4) C4 := (no_le _ _).trans (off_le _ _)
    repeat' (first | simp -implicitDefEqProofs only [zG1,zG2,zG3,zG4,zG5,zG6,zG7,eq_self,resV,rval,X.val,binv,fillL,setR,↓reduceIte,Nat.reduceEqDiff,Nat.reduceAdd,Nat.reduceMul,Nat.reduceLeDiff,Nat.reduceLT,Nat.reduceSub,reduceCtorEq,zGp, r66] | ((with_reducible refine rows_intro (fun _ hb => ?_)); try simp only [set_none, ne_eq] at hb) | ((with_reducible refine new_intro (fun _ hb => ?_)); try simp only [set_none, ne_eq] at hb) | (with_reducible refine draw_same ?_) | ((with_reducible refine gd_split ?_ (fun _ => ?_) (fun _ => ?_)); exact rfl) | ((with_reducible refine td_split ?_ (fun _ => ?_) (fun _ => ?_)); exact rfl) | (with_reducible refine c_split (fun _ => ?_) (fun _ => ?_)))
    refine compileProgram_ok w0 C6 _ V4 e4 rs (AtB b4) ts.length ts w46.fl'.1 (by omega) (t4.1.le (tS4.trans l46)) (by omega) hcnt (fun v7 C7 bs7' l7 n7' w7' => ?_)
    rw [hB']
    rw [hL'] at w7'
    obtain ⟨bs7, s7, q7, w7⟩ := w7'.tight
    have n7 : New C6 bs7 := fun y hy => n7' y (s7 y hy)
    clear w7' n7' s7
    obtain ⟨A7, e7, rfl⟩ := w7.slice
    have L7 := L6.trans l7
    have k17 := k16.trans l7
    have k67 := k6.trans l7
    have r17 := rd2 k17
    have r67 := rd2 k67
    have w37 := w3.trans (l4.trans (l46.trans l7))
    have w47 := w46.trans l7
    repeat' (first | simp -implicitDefEqProofs only [zG1,zG2,zG3,zG4,zG5,zG6,zG7,eq_self,resV,rval,X.val,binv,fillL,setR,↓reduceIte,Nat.reduceEqDiff,Nat.reduceAdd,Nat.reduceMul,Nat.reduceLeDiff,Nat.reduceLT,Nat.reduceSub,reduceCtorEq,zGp, r17, r67, bx, Bool.not_true] | ((with_reducible refine rows_intro (fun _ hb => ?_)); try simp only [set_none, ne_eq] at hb) | ((with_reducible refine new_intro (fun _ hb => ?_)); try simp only [set_none, ne_eq] at hb) | (with_reducible refine draw_same ?_) | ((with_reducible refine gd_split ?_ (fun _ => ?_) (fun _ => ?_)); exact rfl) | ((with_reducible refine td_split ?_ (fun _ => ?_) (fun _ => ?_)); exact rfl) | (with_reducible refine c_split (fun _ => ?_) (fun _ => ?_)) | (with_reducible refine eqQuadSS_same _ _ _ _ _ _ _ _ _ _ _ _ w7 w37 (by omega) hX3 ?_))
    refine toProgram_own w0 _ _ A c rs B d ts (hx.le L7) (hs.le L7) hb (fun V8 e8 bs8 b8 C8 l8 n8 w8 t8 => ?_)
    have L8 := L7.trans l8
    have k18 := k17.trans l8
    have k68 := k67.trans l8
    have r68 := rd2 k68
    have w38 := w37.trans l8
    have w48 := w47.trans l8
    have w78 := w7.trans l8
    have tS8 := tS4.trans (l46.trans (l7.trans l8))
    repeat' (first | simp -implicitDefEqProofs only [zG1,zG2,zG3,zG4,zG5,zG6,zG7,eq_self,resV,rval,X.val,binv,fillL,setR,↓reduceIte,Nat.reduceEqDiff,Nat.reduceAdd,Nat.reduceMul,Nat.reduceLeDiff,Nat.reduceLT,Nat.reduceSub,reduceCtorEq,zGp, l8, r68, true_and, Bool.not_true] | ((with_reducible refine rows_intro (fun _ hb => ?_)); try simp only [set_none, ne_eq] at hb) | ((with_reducible refine new_intro (fun _ hb => ?_)); try simp only [set_none, ne_eq] at hb) | (with_reducible refine draw_same ?_) | ((with_reducible refine gd_split ?_ (fun _ => ?_) (fun _ => ?_)); exact rfl) | ((with_reducible refine td_split ?_ (fun _ => ?_) (fun _ => ?_)); exact rfl) | (with_reducible refine c_split (fun _ => ?_) (fun _ => ?_)) | (with_reducible refine eqProgram_ok w0 _ _ V4 e4 rs (AtB b4) ts.length ts V8 e8 (AtB b8) ts.length w48.fl'.1 w8.fl'.1 (t4.1.le tS8) (t8.1.le ((no_le _ _).trans (off_le _ _))) hb ?_))
    refine markProgram_ok w0 C8 _ rs ts V4 e4 bs4 b4 ts.length _ 1 (C4.off C3) w48 tS8 t4.2 hb (by decide) (by decide) (fun m9 C9' C9 h9 mk9 hm9 => ?_)
    have kB : ∀ {y : Nat}, C3 y ≠ none → ¬ (fun x => ((C4.off C3).no fun y => y ∈ bs4) x ≠ none) y := fun {y} hy hB => by
      simp only at hB
      by_cases hm : y ∈ bs4
      · exact hB (no_in hm)
      · rw [no_out hm] at hB; exact hy (off_ne hB).1
    have kB7 : ∀ {y : Nat}, C6 y = none → ¬ (fun x => ((C4.off C3).no fun y => y ∈ bs4) x ≠ none) y := fun {y} hy hB => by
      simp only at hB
      by_cases hm : y ∈ bs4
      · exact hB (no_in hm)
      · rw [no_out hm] at hB; exact (off_ne hB).2 (l46.none hy)
    have L9 : AHeap.le H C9 := by
      have : AHeap.le H C9' := h9.keep L8 (n4.le L3)
      exact mk9.le this fun x hx => by
        by_cases hm : x ∈ bs4
        · exact absurd (no_in hm) hx
        · rw [no_out hm] at hx; exact L3.none (off_ne hx).1
    have k19 : Kn C9 x1 ⟨pgc rs ts A c B d, true, 38, 2⟩ := (k18.chg h9 fun hm => k13.ne (n4 _ hm)).mkl mk9 (kB k13.ne)
    have w39 := (w38.chg h9 fun y hy hm => q3 y hy (n4 _ hm)).mkl mk9 fun y hy => kB (q3 y hy)
    have w79 := (w78.chg h9 fun y hy hm => rw_kn w46 y hm (n7 y hy)).mkl mk9 fun y hy => kB7 (n7 y hy)
    have d5 : decide (m9 < 0) = false := by simp; omega
    repeat' (first | simp -implicitDefEqProofs only [zG1,zG2,zG3,zG4,zG5,zG6,zG7,eq_self,resV,rval,X.val,binv,fillL,setR,↓reduceIte,Nat.reduceEqDiff,Nat.reduceAdd,Nat.reduceMul,Nat.reduceLeDiff,Nat.reduceLT,Nat.reduceSub,reduceCtorEq,zGp, d5, bx, Bool.not_true] | ((with_reducible refine rows_intro (fun _ hb => ?_)); try simp only [set_none, ne_eq] at hb) | ((with_reducible refine new_intro (fun _ hb => ?_)); try simp only [set_none, ne_eq] at hb) | (with_reducible refine draw_same ?_) | ((with_reducible refine gd_split ?_ (fun _ => ?_) (fun _ => ?_)); exact rfl) | ((with_reducible refine td_split ?_ (fun _ => ?_) (fun _ => ?_)); exact rfl) | (with_reducible refine c_split (fun _ => ?_) (fun _ => ?_)) | (with_reducible refine eqQuadSS_same _ _ _ _ _ _ _ _ _ _ _ _ w79 w39 (by omega) hX3 ?_))
    refine markQuadSS_rs _ _ _ _ _ _ _ _ 1 w79 hLl (by decide) (by omega) (fun C10 M h10 hM w10 => ?_)
    have d6 : decide ((1 : Int) + 5 * (tot 5 (L.map qcells) : Int) < 0) = false := by simp; omega
    have L10 := h10.keep L9 (n7.le L6)
    have k110 := k19.chg h10 fun hm => k16.ne (n7 _ hm)
    have w310 := w39.chg h10 fun y hy hm => q3 y hy ((l4.trans l46).none (n7 y hm))
    have r110 := rd2 k110
    repeat' (first | simp -implicitDefEqProofs only [zG1,zG2,zG3,zG4,zG5,zG6,zG7,eq_self,resV,rval,X.val,binv,fillL,setR,↓reduceIte,Nat.reduceEqDiff,Nat.reduceAdd,Nat.reduceMul,Nat.reduceLeDiff,Nat.reduceLT,Nat.reduceSub,reduceCtorEq,zGp, d6, r110, bne_self_eq_false] | ((with_reducible refine rows_intro (fun _ hb => ?_)); try simp only [set_none, ne_eq] at hb) | ((with_reducible refine new_intro (fun _ hb => ?_)); try simp only [set_none, ne_eq] at hb) | (with_reducible refine draw_same ?_) | ((with_reducible refine gd_split ?_ (fun _ => ?_) (fun _ => ?_)); exact rfl) | ((with_reducible refine td_split ?_ (fun _ => ?_) (fun _ => ?_)); exact rfl) | (with_reducible refine c_split (fun _ => ?_) (fun _ => ?_)) | (with_reducible refine heldQuadSS_ok _ _ _ _ _ _ _ M _ 1 w10 hLs hLl hM (by decide) (by omega) ?_))
    refine toProgram_own w0 _ _ A c rs B d ts (hx.le L10) (hs.le L10) hb (fun V11 e11 bs11 b11 C11 l11 n11 w11 t11 => ?_)
    repeat' (first | simp -implicitDefEqProofs only [zG1,zG2,zG3,zG4,zG5,zG6,zG7,eq_self,resV,rval,X.val,binv,fillL,setR,↓reduceIte,Nat.reduceEqDiff,Nat.reduceAdd,Nat.reduceMul,Nat.reduceLeDiff,Nat.reduceLT,Nat.reduceSub,reduceCtorEq,zGp] | ((with_reducible refine rows_intro (fun _ hb => ?_)); try simp only [set_none, ne_eq] at hb) | ((with_reducible refine new_intro (fun _ hb => ?_)); try simp only [set_none, ne_eq] at hb) | (with_reducible refine draw_same ?_) | ((with_reducible refine gd_split ?_ (fun _ => ?_) (fun _ => ?_)); exact rfl) | ((with_reducible refine td_split ?_ (fun _ => ?_) (fun _ => ?_)); exact rfl) | (with_reducible refine c_split (fun _ => ?_) (fun _ => ?_)))
    refine compileProgram_ok w0 C11 _ V11 e11 rs (AtB b11) ts.length ts w11.fl'.1 (by omega) (t11.1.le ((no_le _ _).trans (off_le _ _))) (by omega) hcnt (fun v12 C12 bs12 l12 n12 w12 => ?_)
    rw [hB']
    rw [hL'] at w12
    obtain ⟨A12, e12, rfl⟩ := w12.slice
    have w312 := w310.trans (l11.trans l12)
    have w712 := w10.trans (l11.trans l12)
    repeat' (first | simp -implicitDefEqProofs only [zG1,zG2,zG3,zG4,zG5,zG6,zG7,eq_self,resV,rval,X.val,binv,fillL,setR,↓reduceIte,Nat.reduceEqDiff,Nat.reduceAdd,Nat.reduceMul,Nat.reduceLeDiff,Nat.reduceLT,Nat.reduceSub,reduceCtorEq,zGp, d6, bx, bne_self_eq_false, Bool.not_true] | ((with_reducible refine rows_intro (fun _ hb => ?_)); try simp only [set_none, ne_eq] at hb) | ((with_reducible refine new_intro (fun _ hb => ?_)); try simp only [set_none, ne_eq] at hb) | (with_reducible refine draw_same ?_) | ((with_reducible refine gd_split ?_ (fun _ => ?_) (fun _ => ?_)); exact rfl) | ((with_reducible refine td_split ?_ (fun _ => ?_) (fun _ => ?_)); exact rfl) | (with_reducible refine c_split (fun _ => ?_) (fun _ => ?_)) | (with_reducible refine eqQuadSS_same _ _ _ _ _ _ _ _ _ _ _ _ w12 w312 (by omega) hX3 ?_) | (with_reducible refine heldQuadSS_ok _ _ _ _ _ _ _ M _ 1 w712 hLs hLl hM (by decide) (by omega) ?_))
    exact ret_same (h _)
namespace fnExactCompileProgram
theorem lifted (os : Os) (started : os.Started) (H : Type) (enc : TypeId × Value → H) :
    ReturnsInHanded {} Try.checked os 5 .any (Rows.fnExactCompileProgramSpec.pre6 enc Try.prog Try.f5 Rows.fnExactCompileProgramRow.domain false) (Rows.fnExactCompileProgramSpec.post enc Try.prog Try.f5 false true false false) := by
  refine returnsInHanded_of_change_sized (C := Try.checked) own started (by kernel_rfl) Try.func5
    (ChangeSpec.witness6 (enc := enc) (C := Try.checked) false ⟨#[], #[.agg #[.slice none 0 0, .slice none 0 0]], []⟩ 8 (by kernel_rfl) (by kernel_rfl) (by kernel_rfl) (by kernel_rfl)) ?_
  intro W base args ds gs before hval0 hW hcnd hsz0 _
  have hval : ∀ (j : Nat) t v, Try.f5.params[j]? = some t → args[j]? = some v → Value.okWide Try.prog W .any base t v := hval0
  have hW' := hW
  obtain ⟨p, q, hA0, hV, rfl, hfz, hnd⟩ := hW
  have hA : DataW.TrodAll enc Try.prog W 0 (fun _ => true) true Try.f5.params.toList args.toList ds p := hA0
  rw [Try.params5] at hA hval
  obtain ⟨v0, vs0, d0, ds0, p0, q0, hargs, rfl, rfl, h0, r0⟩ := trodAll_cons hA
  obtain ⟨rfl, rfl, rfl⟩ := trodAll_nil r0
  obtain rfl : args = #[v0] := by cases args; simp_all
  obtain ⟨rfl, rfl⟩ := trodVars_none hV
  have k0 := h0
  have lt0 : ∀ x ∈ p0, x.block < W.heap.size := by obtain ⟨m, hm⟩ := k0; exact DataW.trod_lt m _ _ _ hm
  obtain ⟨cs0, rfl, _⟩ := okWide_struct Try.underlying38 (hval 0 38 v0 rfl rfl)
  obtain ⟨rs0, ts0, a0, ca0, b0, cb0, hcs0, f0, g0, hm0, hn0, ho0⟩ : ∃ (rs : List Int) (ts : List (List St)) (A : Option Addr) (c : Nat) (B : Option Addr) (d : Nat), cs0.toList = pgc rs ts A c B d ∧ Fl (heapOf W) A (ints rs) ∧ SR (heapOf W) B ts ∧ rs.length ≤ maxLen ∧ ts.length ≤ maxLen ∧ ∀ x ∈ ts, x.length ≤ maxLen := by
    obtain ⟨fuel, hf⟩ := h0
    exact open_prog Try.underlying38 ⟨rfl, rfl⟩ ⟨rfl, rfl⟩ (by kernel_rfl) ⟨by kernel_rfl, by kernel_rfl⟩ Try.underlying35 Try.underlying3 (by kernel_rfl) Try.underlying36 (by kernel_rfl)
      (open_srow Try.underlying22 (by kernel_rfl) (open_stmt Try.underlying99 Try.underlying22 Try.underlying3 ⟨rfl, rfl, rfl, rfl, rfl, rfl⟩ ⟨rfl, rfl, rfl, rfl, rfl, rfl⟩ (by kernel_rfl) (by kernel_rfl) (by kernel_rfl) (by kernel_rfl) (open_expr Try.underlying97 Try.underlying95 Try.underlying3 ⟨rfl, rfl, rfl⟩ ⟨rfl, rfl, rfl⟩ (by kernel_rfl) (by kernel_rfl) (by kernel_rfl)))) hf
  obtain ⟨cs0⟩ := cs0
  simp only at hcs0
  subst hcs0
  refine (calls_true (lawCompileProgram_ok W (heapOf W) _ rs0 ts0 a0 ca0 b0 cb0 f0 g0 hm0 hn0 ho0 (fun _ => rfl)) (sat_heap W)).mono fun e W' ⟨he, bel⟩ => ?_
  subst he
  exact ⟨_, rfl, _, _, _, [], _, [], hW', trodAll_mk1 (shut_bool Try.underlying4 _), (trodAll_cons_mk (Below.trod laidOut (by kernel_rfl) (of_decide_eq_true (by kernel_rfl)) k0 bel lt0) trodAll_mk0), rfl, bel.frame _, fun h => by cases h⟩
theorem over : Rows.fnExactCompileProgramRow.holds Try.pinned (OpenSpec.ofChange Rows.fnExactCompileProgramSpec) :=
  OpenClaim.holds_of_wide 5 Try.f5 rfl rfl rfl rfl rfl rfl rfl ⟨rfl, rfl, rfl, rfl, rfl⟩ rfl rfl rfl rfl rfl (by kernel_rfl) Try.func5 (by kernel_rfl)
    (of_decide_eq_true (by kernel_rfl)) (by unfold Func.isWrapper; first | (rw [if_pos (by decide +kernel)]; kernel_rfl) | (rw [if_neg (by decide +kernel)]; exact ⟨rfl, rfl⟩))
    (fun os started H enc _ => lifted os started H enc)
end fnExactCompileProgram
theorem fnExactCompileProgram_holds : Rows.FnExactCompileProgramSaid := fnExactCompileProgram.over
#print axioms fnExactCompileProgram_holds
end Go.Proofs.Ytfjhjfddgdokgaa
