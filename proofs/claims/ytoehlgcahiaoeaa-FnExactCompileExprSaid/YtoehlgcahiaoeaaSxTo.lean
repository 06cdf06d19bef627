/- The contracts of toExpr and markExpr. -/
import Derived.Test.YtoehlgcahiaoeaaSxTr
namespace Go.Proofs.Ytoehlgcahiaoeaa
set_option linter.all false
open Go Go.RowKit
set_option maxRecDepth 100000
variable (w0 : World)
abbrev ToP (e : Ex) : Prop := ∀ (a : Option Addr) (c : Nat) (H : AHeap) (K : Value → AHeap → Prop), ExV H e [.int .i64 e.op, .int .i64 e.n, .slice a e.args.length c] → e.cnt ≤ 4294967296 →
  (∀ (b : Nat) (H' : AHeap) (B : Nat → Prop), AHeap.ext H H' → (∀ x, B x → H x = none ∧ H' x ≠ none) → Tr H' e [.int .i64 e.op, .int .i64 e.n, .slice (some ⟨b, 0, none⟩) e.args.length e.args.length] B → K (.agg #[.int .i64 e.op, .int .i64 e.n, .slice (some ⟨b, 0, none⟩) e.args.length e.args.length]) H') →
  ACalls Try.prog w0 26 [.agg #[.int .i64 e.op, .int .i64 e.n, .slice a e.args.length c]] H K
abbrev ToS (es : List Ex) : Prop := ∀ (a : Option Addr) (c : Nat) (H : AHeap) (K : Value → AHeap → Prop), ExR H es a 0 → Ex.cnt.cntL es ≤ 4294967296 →
  (∀ (b : Nat) (k : Blk) (H' : AHeap) (Bs : Nat → Nat → Prop), AHeap.ext H H' → H b = none → H' b = some k → k.own = true → es.length * 3 ≤ k.cells.length → (∀ i, i < es.length → ∀ x, Bs i x → H x = none ∧ x ≠ b ∧ H' x ≠ none) → (∀ i j, i < j → j < es.length → ∀ x, Bs i x → ¬ Bs j x) →
    (∀ i (hi : i < es.length), Tr H' es[i] (at3 k.cells i) (Bs i)) → K (.slice (some ⟨b, 0, none⟩) es.length es.length) H') →
  ACalls Try.prog w0 53 [.slice a es.length c] H K
theorem toS_of (es : List Ex) (ih : ∀ e ∈ es, ToP w0 e) : ToS w0 es := by
  intro a c H K hR hm h
  rw [cntL_eq] at hm
  refine acalls_of_sx mix Try.func53 of53 (by simp [ir53]) ?_; rw [ir53]
  repeat' (first | simp -implicitDefEqProofs only [zA1,zA2,zA3,zA4,zA5,zA6,zA7,zA8,zA9,zA10,zA11,zA12,zA13,zA14,zA15,zA16,zA17,zA18,zA19,zA20,zA21,zA22,zA23,zA24,zA25,zA26,zA27,zA28,zA29,zA30,zA31,zA32,zA33,zA34,zA35,zB1,zB2,zB3,zB4,zB5,zB6,zB7,zB8,zB9,zB10,zB11,zB12,zB13,zB14,zB15,zB16,zB17,zB18,zB19,zB20,zB21,zB22,zB23,zB24,zB25,zB26,zB27,zB28,zB29,zB30,zB31,zB32,zB33,zB34,zC1,zC2,zC3,zC4,zC5,zC6,zC7,zC8,zC9,zC10,zC11,zC12,zC13,zC14,zC15,zC16,zC17,zC18,zC19,zC20,zC21,zC22,zC23,zC24,zC25,zC26,zC27,zC28,zC29,zC30,zC31,zC32,zC33,zC34,zC35,zC36,zC37,le_refl_true,true_and,and_true,needs_some,needs_map,put_at,fr0_zero,fr0_succ,fr0_nil,resV,rval,X.val,binv,adr_adr,adr_zero,adr_lit,adr_some,cell_same,rdn_F,rdnF_zero,rdnF_succ,v_cells,v_size,List.getElem?_cons_succ,List.getElem?_cons_zero,Option.isSome_some,Option.bind_some,Option.map_some,fillL,setR,List.set_cons_zero,List.set_cons_succ,vcI,vcB,vcS,vcP,vcF,vcA,vcU,List.toList_toArray,and_self,List.length_cons,List.length_nil,List.size_toArray,List.map_cons,List.map_nil,List.nil_append,List.append_nil,List.cons_append,Int.toNat_natCast,↓reduceIte,Nat.reduceEqDiff,Nat.reduceAdd,Nat.reduceMul,Nat.reduceLeDiff,Nat.reduceLT,Nat.reduceSub,Nat.zero_add,reduceCtorEq,bne_self_eq_false,false_bne',true_bne',cell_ne,cell_ne',set_same,set_ne,set_ne',set_set,st_eq,some_ex,all_cons,all_nil',ocI,ocB,ocS,ocP,not_false_eq_true,eq_self,Bool.not_true,Bool.not_false,ldnV_p] | ((with_reducible refine rows_intro (fun _ hb => ?_)); try simp only [set_none, ne_eq] at hb) | ((with_reducible refine new_intro (fun _ hb => ?_)); try simp only [set_none, ne_eq] at hb) | (with_reducible refine draw_same ?_) | ((with_reducible refine gd_split ?_ (fun _ => ?_) (fun _ => ?_)); exact rfl) | ((with_reducible refine td_split ?_ (fun _ => ?_) (fun _ => ?_)); exact rfl) | (with_reducible refine c_split (fun _ => ?_) (fun _ => ?_)) | (with_reducible refine mk_intro (by omega) (by omega) (fun b hb => ?_)))
  refine loop_rule (fun m fr H' => ∃ (k : Nat) (cs : List Value) (Bs : Nat → Nat → Prop), m = es.length - k ∧ k ≤ es.length ∧ es.length * 3 ≤ cs.length ∧ AHeap.ext H H' ∧ H' b = some ⟨cs, true, 51, es.length * 3⟩ ∧
      (∀ i, i < k → ∀ x, Bs i x → H x = none ∧ x ≠ b ∧ H' x ≠ none) ∧ (∀ i j, i < j → j < k → ∀ x, Bs i x → ¬ Bs j x) ∧ (∀ i (hi : i < es.length), i < k → Tr H' es[i] (at3 cs i) (Bs i)) ∧
      fr 0 = .slice a es.length c ∧ fr 3 = .slice (some ⟨b, 0, none⟩) es.length es.length ∧ fr 4 = .int .i64 k) es.length
    ⟨0, repl [.int .i64 0, .int .i64 0, .slice none 0 0] es.length, fun _ _ => False, rfl, Nat.zero_le _, by rw [length_repl]; exact Nat.le_refl _, (AHeap.ext.refl H).fresh hb _, set_same _ _ _, fun i hi => by omega, fun i j _ hj => by omega, fun i _ hi => by omega, rfl, rfl, rfl⟩ ?_
  rintro m fr H' ⟨k, cs, Bs, rfl, hk, hcs, hle, hrow, hB, hd, hT, f0, f1, f2⟩
  by_cases hlt : k < es.length
  · have g0 := lt_dec hlt
    have g1 := rng hlt
    have g3 := up1 hlt (by omega)
    obtain ⟨hA, a', c', hcl, hx⟩ := (hR.le hle.le).arg hlt
    have hct := cnt_at hlt
    have s3 : (k * 3 + 3 ≤ es.length * 3) = True := eq_true (by omega)
    repeat' (first | simp -implicitDefEqProofs only [zA1,zA2,zA3,zA4,zA5,zA6,zA7,zA8,zA9,zA10,zA11,zA12,zA13,zA14,zA15,zA16,zA17,zA18,zA19,zA20,zA21,zA22,zA23,zA24,zA25,zA26,zA27,zA28,zA29,zA30,zA31,zA32,zA33,zA34,zA35,zB1,zB2,zB3,zB4,zB5,zB6,zB7,zB8,zB9,zB10,zB11,zB12,zB13,zB14,zB15,zB16,zB17,zB18,zB19,zB20,zB21,zB22,zB23,zB24,zB25,zB26,zB27,zB28,zB29,zB30,zB31,zB32,zB33,zB34,zC1,zC2,zC3,zC4,zC5,zC6,zC7,zC8,zC9,zC10,zC11,zC12,zC13,zC14,zC15,zC16,zC17,zC18,zC19,zC20,zC21,zC22,zC23,zC24,zC25,zC26,zC27,zC28,zC29,zC30,zC31,zC32,zC33,zC34,zC35,zC36,zC37,le_refl_true,true_and,and_true,needs_some,needs_map,put_at,fr0_zero,fr0_succ,fr0_nil,resV,rval,X.val,binv,adr_adr,adr_zero,adr_lit,adr_some,cell_same,rdn_F,rdnF_zero,rdnF_succ,v_cells,v_size,List.getElem?_cons_succ,List.getElem?_cons_zero,Option.isSome_some,Option.bind_some,Option.map_some,fillL,setR,List.set_cons_zero,List.set_cons_succ,vcI,vcB,vcS,vcP,vcF,vcA,vcU,List.toList_toArray,and_self,List.length_cons,List.length_nil,List.size_toArray,List.map_cons,List.map_nil,List.nil_append,List.append_nil,List.cons_append,Int.toNat_natCast,↓reduceIte,Nat.reduceEqDiff,Nat.reduceAdd,Nat.reduceMul,Nat.reduceLeDiff,Nat.reduceLT,Nat.reduceSub,Nat.zero_add,reduceCtorEq,bne_self_eq_false,false_bne',true_bne',cell_ne,cell_ne',set_same,set_ne,set_ne',set_set,st_eq,some_ex,all_cons,all_nil',ocI,ocB,ocS,ocP,not_false_eq_true,eq_self,Bool.not_true,Bool.not_false,ldnV_p, f0, f1, f2, g0, g1, g3, hA, hcl, Nat.add_zero] | ((with_reducible refine rows_intro (fun _ hb => ?_)); try simp only [set_none, ne_eq] at hb) | ((with_reducible refine new_intro (fun _ hb => ?_)); try simp only [set_none, ne_eq] at hb) | (with_reducible refine draw_same ?_) | ((with_reducible refine gd_split ?_ (fun _ => ?_) (fun _ => ?_)); exact rfl) | ((with_reducible refine td_split ?_ (fun _ => ?_) (fun _ => ?_)); exact rfl) | (with_reducible refine c_split (fun _ => ?_) (fun _ => ?_)) | (with_reducible refine ih es[k] (List.getElem_mem hlt) a' c' _ _ hx (by omega) (fun b1 H1 B1 l1 hB1 hT1 => ?_)))
    have hk1 := l1 b _ hrow
    have s4 : (k * 3 + 3 ≤ cs.length) = True := eq_true (by omega)
    repeat' (first | simp -implicitDefEqProofs only [zA1,zA2,zA3,zA4,zA5,zA6,zA7,zA8,zA9,zA10,zA11,zA12,zA13,zA14,zA15,zA16,zA17,zA18,zA19,zA20,zA21,zA22,zA23,zA24,zA25,zA26,zA27,zA28,zA29,zA30,zA31,zA32,zA33,zA34,zA35,zB1,zB2,zB3,zB4,zB5,zB6,zB7,zB8,zB9,zB10,zB11,zB12,zB13,zB14,zB15,zB16,zB17,zB18,zB19,zB20,zB21,zB22,zB23,zB24,zB25,zB26,zB27,zB28,zB29,zB30,zB31,zB32,zB33,zB34,zC1,zC2,zC3,zC4,zC5,zC6,zC7,zC8,zC9,zC10,zC11,zC12,zC13,zC14,zC15,zC16,zC17,zC18,zC19,zC20,zC21,zC22,zC23,zC24,zC25,zC26,zC27,zC28,zC29,zC30,zC31,zC32,zC33,zC34,zC35,zC36,zC37,le_refl_true,true_and,and_true,needs_some,needs_map,put_at,fr0_zero,fr0_succ,fr0_nil,resV,rval,X.val,binv,adr_adr,adr_zero,adr_lit,adr_some,cell_same,rdn_F,rdnF_zero,rdnF_succ,v_cells,v_size,List.getElem?_cons_succ,List.getElem?_cons_zero,Option.isSome_some,Option.bind_some,Option.map_some,fillL,setR,List.set_cons_zero,List.set_cons_succ,vcI,vcB,vcS,vcP,vcF,vcA,vcU,List.toList_toArray,and_self,List.length_cons,List.length_nil,List.size_toArray,List.map_cons,List.map_nil,List.nil_append,List.append_nil,List.cons_append,Int.toNat_natCast,↓reduceIte,Nat.reduceEqDiff,Nat.reduceAdd,Nat.reduceMul,Nat.reduceLeDiff,Nat.reduceLT,Nat.reduceSub,Nat.zero_add,reduceCtorEq,bne_self_eq_false,false_bne',true_bne',cell_ne,cell_ne',set_same,set_ne,set_ne',set_set,st_eq,some_ex,all_cons,all_nil',ocI,ocB,ocS,ocP,not_false_eq_true,eq_self,Bool.not_true,Bool.not_false,ldnV_p, f0, f1, f2, g0, g1, g3, hk1, s4, Nat.add_zero, true_and] | ((with_reducible refine rows_intro (fun _ hb => ?_)); try simp only [set_none, ne_eq] at hb) | ((with_reducible refine new_intro (fun _ hb => ?_)); try simp only [set_none, ne_eq] at hb) | (with_reducible refine draw_same ?_) | ((with_reducible refine gd_split ?_ (fun _ => ?_) (fun _ => ?_)); exact rfl) | ((with_reducible refine td_split ?_ (fun _ => ?_) (fun _ => ?_)); exact rfl) | (with_reducible refine c_split (fun _ => ?_) (fun _ => ?_)))
    have hbB1 : ¬ B1 b := fun hx => by rw [(hB1 b hx).1] at hrow; cases hrow
    refine ⟨_, _, ?_, AHeap.le.refl _, k + 1, _, fun i => if i = k then B1 else Bs i, rfl, by omega, ?_, (hle.trans l1).fresh hb _, set_same _ _ _, fun i hi x hx => ?_, fun i j hij hj x hx => ?_, fun i hi hik => ?_, by simp [put_at, f0], by simp [put_at, f1], by simp [put_at]⟩
    · omega
    · simp only [List.length_set]; omega
    · by_cases hik : i = k
      · simp only [hik, if_true] at hx
        refine ⟨hle.none (hB1 x hx).1, fun e => hbB1 (e ▸ hx), ?_⟩
        rw [set_ne (show ¬ x = b from fun e => hbB1 (e ▸ hx))]
        exact (hB1 x hx).2
      · simp only [hik, if_false] at hx
        obtain ⟨q1, q2, q3⟩ := hB i (by omega) x hx
        refine ⟨q1, q2, ?_⟩
        rw [set_ne q2]
        exact fun e => q3 (l1.none e)
    · by_cases hjk : j = k
      · have : i ≠ k := by omega
        simp only [this, if_false] at hx
        simp only [hjk, if_true]
        exact fun h1 => (hB i (by omega) x hx).2.2 (hB1 x h1).1
      · have : i ≠ k := by omega
        simp only [this, if_false] at hx
        simp only [hjk, if_false]
        exact hd i j hij (by omega) x hx
    · by_cases hik' : i = k
      · subst hik'
        simp only [if_true]
        rw [at3_new (by omega)]
        exact hT1.frame fun x hx => set_ne (show ¬ x = b from fun e => hbB1 (e ▸ hx))
      · simp only [hik', if_false]
        rw [at3_set (by omega)]
        exact ((hT i hi (by omega)).le l1.le).frame fun x hx => set_ne (hB i (by omega) x hx).2.1
  · have g0 := ge_dec hlt
    obtain rfl : k = es.length := by omega
    repeat' (first | simp -implicitDefEqProofs only [zA1,zA2,zA3,zA4,zA5,zA6,zA7,zA8,zA9,zA10,zA11,zA12,zA13,zA14,zA15,zA16,zA17,zA18,zA19,zA20,zA21,zA22,zA23,zA24,zA25,zA26,zA27,zA28,zA29,zA30,zA31,zA32,zA33,zA34,zA35,zB1,zB2,zB3,zB4,zB5,zB6,zB7,zB8,zB9,zB10,zB11,zB12,zB13,zB14,zB15,zB16,zB17,zB18,zB19,zB20,zB21,zB22,zB23,zB24,zB25,zB26,zB27,zB28,zB29,zB30,zB31,zB32,zB33,zB34,zC1,zC2,zC3,zC4,zC5,zC6,zC7,zC8,zC9,zC10,zC11,zC12,zC13,zC14,zC15,zC16,zC17,zC18,zC19,zC20,zC21,zC22,zC23,zC24,zC25,zC26,zC27,zC28,zC29,zC30,zC31,zC32,zC33,zC34,zC35,zC36,zC37,le_refl_true,true_and,and_true,needs_some,needs_map,put_at,fr0_zero,fr0_succ,fr0_nil,resV,rval,X.val,binv,adr_adr,adr_zero,adr_lit,adr_some,cell_same,rdn_F,rdnF_zero,rdnF_succ,v_cells,v_size,List.getElem?_cons_succ,List.getElem?_cons_zero,Option.isSome_some,Option.bind_some,Option.map_some,fillL,setR,List.set_cons_zero,List.set_cons_succ,vcI,vcB,vcS,vcP,vcF,vcA,vcU,List.toList_toArray,and_self,List.length_cons,List.length_nil,List.size_toArray,List.map_cons,List.map_nil,List.nil_append,List.append_nil,List.cons_append,Int.toNat_natCast,↓reduceIte,Nat.reduceEqDiff,Nat.reduceAdd,Nat.reduceMul,Nat.reduceLeDiff,Nat.reduceLT,Nat.reduceSub,Nat.zero_add,reduceCtorEq,bne_self_eq_false,false_bne',true_bne',cell_ne,cell_ne',set_same,set_ne,set_ne',set_set,st_eq,some_ex,all_cons,all_nil',ocI,ocB,ocS,ocP,not_false_eq_true,eq_self,Bool.not_true,Bool.not_false,ldnV_p, f0, f1, f2, g0] | ((with_reducible refine rows_intro (fun _ hb => ?_)); try simp only [set_none, ne_eq] at hb) | ((with_reducible refine new_intro (fun _ hb => ?_)); try simp only [set_none, ne_eq] at hb) | (with_reducible refine draw_same ?_) | ((with_reducible refine gd_split ?_ (fun _ => ?_) (fun _ => ?_)); exact rfl) | ((with_reducible refine td_split ?_ (fun _ => ?_) (fun _ => ?_)); exact rfl) | (with_reducible refine c_split (fun _ => ?_) (fun _ => ?_)))
    exact ret_same (h b _ H' Bs hle hb hrow rfl hcs hB hd (fun i hi => hT i hi hi))
theorem toP_of (e : Ex) (ih : ToS w0 e.args) : ToP w0 e := by
  intro a c H K hv hm h
  obtain ⟨_, _, he, hml, hR⟩ := hv.open_
  simp only [List.cons.injEq, and_true, Value.slice.injEq, true_and] at he
  obtain ⟨rfl, rfl⟩ := he
  have ec : e.cnt = Ex.cnt.cntL e.args := by cases e; rfl
  rw [ec] at hm
  refine acalls_of_sx mix Try.func26 of26 (by simp [ir26]) ?_; rw [ir26]
  repeat' (first | simp -implicitDefEqProofs only [zA1,zA2,zA3,zA4,zA5,zA6,zA7,zA8,zA9,zA10,zA11,zA12,zA13,zA14,zA15,zA16,zA17,zA18,zA19,zA20,zA21,zA22,zA23,zA24,zA25,zA26,zA27,zA28,zA29,zA30,zA31,zA32,zA33,zA34,zA35,zB1,zB2,zB3,zB4,zB5,zB6,zB7,zB8,zB9,zB10,zB11,zB12,zB13,zB14,zB15,zB16,zB17,zB18,zB19,zB20,zB21,zB22,zB23,zB24,zB25,zB26,zB27,zB28,zB29,zB30,zB31,zB32,zB33,zB34,zC1,zC2,zC3,zC4,zC5,zC6,zC7,zC8,zC9,zC10,zC11,zC12,zC13,zC14,zC15,zC16,zC17,zC18,zC19,zC20,zC21,zC22,zC23,zC24,zC25,zC26,zC27,zC28,zC29,zC30,zC31,zC32,zC33,zC34,zC35,zC36,zC37,le_refl_true,true_and,and_true,needs_some,needs_map,put_at,fr0_zero,fr0_succ,fr0_nil,resV,rval,X.val,binv,adr_adr,adr_zero,adr_lit,adr_some,cell_same,rdn_F,rdnF_zero,rdnF_succ,v_cells,v_size,List.getElem?_cons_succ,List.getElem?_cons_zero,Option.isSome_some,Option.bind_some,Option.map_some,fillL,setR,List.set_cons_zero,List.set_cons_succ,vcI,vcB,vcS,vcP,vcF,vcA,vcU,List.toList_toArray,and_self,List.length_cons,List.length_nil,List.size_toArray,List.map_cons,List.map_nil,List.nil_append,List.append_nil,List.cons_append,Int.toNat_natCast,↓reduceIte,Nat.reduceEqDiff,Nat.reduceAdd,Nat.reduceMul,Nat.reduceLeDiff,Nat.reduceLT,Nat.reduceSub,Nat.zero_add,reduceCtorEq,bne_self_eq_false,false_bne',true_bne',cell_ne,cell_ne',set_same,set_ne,set_ne',set_set,st_eq,some_ex,all_cons,all_nil',ocI,ocB,ocS,ocP,not_false_eq_true,eq_self,Bool.not_true,Bool.not_false,ldnV_p, cell_old, *] | ((with_reducible refine rows_intro (fun _ hb => ?_)); try simp only [set_none, ne_eq] at hb) | ((with_reducible refine new_intro (fun _ hb => ?_)); try simp only [set_none, ne_eq] at hb) | (with_reducible refine draw_same ?_) | ((with_reducible refine gd_split ?_ (fun _ => ?_) (fun _ => ?_)); exact rfl) | ((with_reducible refine td_split ?_ (fun _ => ?_) (fun _ => ?_)); exact rfl) | (with_reducible refine c_split (fun _ => ?_) (fun _ => ?_)))
  rename_i x2 q2 x1 q1 x0
  have hb3 := hb
  refine ih a c _ _ (hR.le (((AHeap.le.refl H).fresh ‹H _ = none› _).trans (((AHeap.le.refl _).fresh (set_none.2 ‹_ ∧ H _ = none›) _).trans ((AHeap.le.refl _).fresh (set_none.2 ⟨hb3.1, set_none.2 hb3.2⟩) _)))) hm (fun b k H1 Bs hx hbn hbk hko hlk hBs hdj hT => ?_)
  simp only [set_none, ne_eq] at hbn
  obtain ⟨n1, n2, n3, n4⟩ := hbn
  have y1 := hx _ _ (set_same _ _ _)
  have y2 := hx _ _ ((set_ne (fun e => hb3.1 e.symm)).trans (set_same _ _ _))
  have c1 := cell_blk y1
  have c2 := cell_blk y2
  repeat' (first | simp -implicitDefEqProofs only [zA1,zA2,zA3,zA4,zA5,zA6,zA7,zA8,zA9,zA10,zA11,zA12,zA13,zA14,zA15,zA16,zA17,zA18,zA19,zA20,zA21,zA22,zA23,zA24,zA25,zA26,zA27,zA28,zA29,zA30,zA31,zA32,zA33,zA34,zA35,zB1,zB2,zB3,zB4,zB5,zB6,zB7,zB8,zB9,zB10,zB11,zB12,zB13,zB14,zB15,zB16,zB17,zB18,zB19,zB20,zB21,zB22,zB23,zB24,zB25,zB26,zB27,zB28,zB29,zB30,zB31,zB32,zB33,zB34,zC1,zC2,zC3,zC4,zC5,zC6,zC7,zC8,zC9,zC10,zC11,zC12,zC13,zC14,zC15,zC16,zC17,zC18,zC19,zC20,zC21,zC22,zC23,zC24,zC25,zC26,zC27,zC28,zC29,zC30,zC31,zC32,zC33,zC34,zC35,zC36,zC37,le_refl_true,true_and,and_true,needs_some,needs_map,put_at,fr0_zero,fr0_succ,fr0_nil,resV,rval,X.val,binv,adr_adr,adr_zero,adr_lit,adr_some,cell_same,rdn_F,rdnF_zero,rdnF_succ,v_cells,v_size,List.getElem?_cons_succ,List.getElem?_cons_zero,Option.isSome_some,Option.bind_some,Option.map_some,fillL,setR,List.set_cons_zero,List.set_cons_succ,vcI,vcB,vcS,vcP,vcF,vcA,vcU,List.toList_toArray,and_self,List.length_cons,List.length_nil,List.size_toArray,List.map_cons,List.map_nil,List.nil_append,List.append_nil,List.cons_append,Int.toNat_natCast,↓reduceIte,Nat.reduceEqDiff,Nat.reduceAdd,Nat.reduceMul,Nat.reduceLeDiff,Nat.reduceLT,Nat.reduceSub,Nat.zero_add,reduceCtorEq,bne_self_eq_false,false_bne',true_bne',cell_ne,cell_ne',set_same,set_ne,set_ne',set_set,st_eq,some_ex,all_cons,all_nil',ocI,ocB,ocS,ocP,not_false_eq_true,eq_self,Bool.not_true,Bool.not_false,ldnV_p, y1, y2, c1, c2, cell_old, *] | ((with_reducible refine rows_intro (fun _ hb => ?_)); try simp only [set_none, ne_eq] at hb) | ((with_reducible refine new_intro (fun _ hb => ?_)); try simp only [set_none, ne_eq] at hb) | (with_reducible refine draw_same ?_) | ((with_reducible refine gd_split ?_ (fun _ => ?_) (fun _ => ?_)); exact rfl) | ((with_reducible refine td_split ?_ (fun _ => ?_) (fun _ => ?_)); exact rfl) | (with_reducible refine c_split (fun _ => ?_) (fun _ => ?_)))
  have hH : AHeap.ext H H1 := fun x k' hk' => hx x k' (by
    have m0 : ¬ x = x0 := by rintro rfl; rw [hb.2.2] at hk'; cases hk'
    have m1 : ¬ x = x1 := by rintro rfl; rw [q1.2] at hk'; cases hk'
    have m2 : ¬ x = x2 := by rintro rfl; rw [q2] at hk'; cases hk'
    rw [set_ne m0, set_ne m1, set_ne m2]; exact hk')
  have hne : ∀ i, i < e.args.length → ∀ x, Bs i x → ¬ x = x0 ∧ ¬ x = x1 ∧ H x = none := fun i hi x hbx => by
    have := (hBs i hi x hbx).1
    simp only [set_none, ne_eq] at this
    exact ⟨this.1, this.2.1, this.2.2.2⟩
  refine ret_same (h b _ (fun x => x = b ∨ ∃ i, i < e.args.length ∧ Bs i x) ((hH.fresh hb.2.2 _).fresh q1.2 _) ?_ ?_)
  · rintro x (rfl | ⟨i, hi, hbx⟩)
    · refine ⟨n4, ?_⟩
      rw [set_ne n2, set_ne n1, hbk]
      simp
    · obtain ⟨m0, m1, m2⟩ := hne i hi x hbx
      refine ⟨m2, ?_⟩
      rw [set_ne m1, set_ne m0]
      exact (hBs i hi x hbx).2.2
  · cases e with
    | mk op n args =>
      simp only [Ex.op, Ex.n, Ex.args] at *
      refine Tr.mk op n args b k _ Bs (by rw [set_ne n2, set_ne n1]; exact hbk) hko hlk hml (.inl rfl) (fun i hi x hbx => ⟨.inr ⟨i, hi, hbx⟩, (hBs i hi x hbx).2.1⟩) hdj fun i hi => (hT i hi).frame fun x hbx => ?_
      obtain ⟨m0, m1, m2⟩ := hne i hi x hbx
      rw [set_ne m1, set_ne m0]
theorem toExpr_ok : ∀ e : Ex, ToP w0 e
  | .mk op n args => toP_of w0 _ (toS_of w0 args fun e he => toExpr_ok e)
termination_by e => SizeOf.sizeOf e
decreasing_by exact mem_lt he
end Go.Proofs.Ytoehlgcahiaoeaa
