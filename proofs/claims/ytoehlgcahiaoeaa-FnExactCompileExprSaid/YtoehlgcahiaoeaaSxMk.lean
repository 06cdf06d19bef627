/- The contract of markExpr: behind it the call's own tree is forgotten. -/
import Derived.Test.YtoehlgcahiaoeaaSxTo
namespace Go.Proofs.Ytoehlgcahiaoeaa
set_option linter.all false
open Go Go.RowKit
set_option maxRecDepth 100000
variable (w0 : World)
open Classical in
/-- The heap without some blocks. -/
noncomputable def AHeap.no (H : AHeap) (B : Nat → Prop) : AHeap := fun x => if B x then none else H x
theorem no_le (H : AHeap) (B : Nat → Prop) : AHeap.le (H.no B) H := fun x k hx => by
  simp only [AHeap.no] at hx
  split at hx
  · cases hx
  · exact ⟨k, hx, rfl, rfl, rfl, fun _ _ h => h⟩
theorem no_in {H : AHeap} {B : Nat → Prop} {x : Nat} (h : B x) : H.no B x = none := by simp [AHeap.no, h]
theorem no_out {H : AHeap} {B : Nat → Prop} {x : Nat} (h : ¬ B x) : H.no B x = H x := by simp [AHeap.no, h]
theorem le_no {A H : AHeap} {B : Nat → Prop} (hl : AHeap.le A H) (hB : ∀ x, B x → A x = none) : AHeap.le A (H.no B) := fun x k hx => by
  obtain ⟨k', hk', r⟩ := hl x k hx
  have : ¬ B x := fun h => by rw [hB x h] at hx; cases hx
  exact ⟨k', by rw [no_out this]; exact hk', r⟩
abbrev MkS (es : List Ex) : Prop := ∀ (b : Nat) (k : Blk) (Bs : Nat → Nat → Prop) (cp : Nat) (m : Int) (F H : AHeap) (K : Value → AHeap → Prop), H b = some k → k.own = true → es.length * 3 ≤ k.cells.length →
  (∀ i (hi : i < es.length), Tr H es[i] (at3 k.cells i) (Bs i)) → (∀ i, i < es.length → ∀ x, Bs i x → x ≠ b ∧ F x = none) → (∀ i j, i < j → j < es.length → ∀ x, Bs i x → ¬ Bs j x) → F b = none → AHeap.le F H →
  0 ≤ m → m + 2 * Ex.cnt.cntL es ≤ 1099511627776 → (∀ m', m ≤ m' → m' ≤ m + 2 * Ex.cnt.cntL es → K (.int .i64 m') F) →
  ACalls Try.prog w0 58 [.slice (some ⟨b, 0, none⟩) es.length cp, .int .i64 m] H K
theorem at3_eq {cells : List Value} {i : Nat} {v0 v1 v2 : Value} (h : at3 cells i = [v0, v1, v2]) (hl : i * 3 + 3 ≤ cells.length) : cells[i * 3]? = some v0 ∧ cells[i * 3 + 1]? = some v1 ∧ cells[i * 3 + 2]? = some v2 := by
  simp only [at3, List.cons.injEq, and_true, List.getD, List.getElem?_eq_getElem (show i * 3 < cells.length by omega), List.getElem?_eq_getElem (show i * 3 + 1 < cells.length by omega), List.getElem?_eq_getElem (show i * 3 + 2 < cells.length by omega), Option.getD_some] at h
  obtain ⟨rfl, rfl, rfl⟩ := h
  exact ⟨List.getElem?_eq_getElem _, List.getElem?_eq_getElem _, List.getElem?_eq_getElem _⟩
theorem cnt_eq (e : Ex) : e.cnt = Ex.cnt.cntL e.args := by cases e; rfl
theorem mkS_of (es : List Ex) (ih : ∀ e ∈ es, MkS w0 e.args) : MkS w0 es := by
  intro b k Bs cp m F H K hk hko hkl hT hB hd hFb hle h0 hm h
  rw [cntL_eq] at hm h
  refine acalls_of_sx mix Try.func58 of58 (by simp [ir58]) ?_; rw [ir58]
  repeat' (first | simp -implicitDefEqProofs only [zA1,zA2,zA3,zA4,zA5,zA6,zA7,zA8,zA9,zA10,zA11,zA12,zA13,zA14,zA15,zA16,zA17,zA18,zA19,zA20,zA21,zA22,zA23,zA24,zA25,zA26,zA27,zA28,zA29,zA30,zA31,zA32,zA33,zA34,zA35,zB1,zB2,zB3,zB4,zB5,zB6,zB7,zB8,zB9,zB10,zB11,zB12,zB13,zB14,zB15,zB16,zB17,zB18,zB19,zB20,zB21,zB22,zB23,zB24,zB25,zB26,zB27,zB28,zB29,zB30,zB31,zB32,zB33,zB34,zC1,zC2,zC3,zC4,zC5,zC6,zC7,zC8,zC9,zC10,zC11,zC12,zC13,zC14,zC15,zC16,zC17,zC18,zC19,zC20,zC21,zC22,zC23,zC24,zC25,zC26,zC27,zC28,zC29,zC30,zC31,zC32,zC33,zC34,zC35,zC36,zC37,le_refl_true,true_and,and_true,needs_some,needs_map,put_at,fr0_zero,fr0_succ,fr0_nil,resV,rval,X.val,binv,adr_adr,adr_zero,adr_lit,adr_some,cell_same,rdn_F,rdnF_zero,rdnF_succ,v_cells,v_size,List.getElem?_cons_succ,List.getElem?_cons_zero,Option.isSome_some,Option.bind_some,Option.map_some,fillL,setR,List.set_cons_zero,List.set_cons_succ,vcI,vcB,vcS,vcP,vcF,vcA,vcU,List.toList_toArray,and_self,List.length_cons,List.length_nil,List.size_toArray,List.map_cons,List.map_nil,List.nil_append,List.append_nil,List.cons_append,Int.toNat_natCast,↓reduceIte,Nat.reduceEqDiff,Nat.reduceAdd,Nat.reduceMul,Nat.reduceLeDiff,Nat.reduceLT,Nat.reduceSub,Nat.zero_add,reduceCtorEq,bne_self_eq_false,false_bne',true_bne',cell_ne,cell_ne',set_same,set_ne,set_ne',set_set,st_eq,some_ex,all_cons,all_nil',ocI,ocB,ocS,ocP,not_false_eq_true,eq_self,Bool.not_true,Bool.not_false,ldnV_p] | ((with_reducible refine rows_intro (fun _ hb => ?_)); try simp only [set_none, ne_eq] at hb) | ((with_reducible refine new_intro (fun _ hb => ?_)); try simp only [set_none, ne_eq] at hb) | (with_reducible refine draw_same ?_) | ((with_reducible refine gd_split ?_ (fun _ => ?_) (fun _ => ?_)); exact rfl) | ((with_reducible refine td_split ?_ (fun _ => ?_) (fun _ => ?_)); exact rfl) | (with_reducible refine c_split (fun _ => ?_) (fun _ => ?_)))
  refine loop_rule (fun mm fr H' => ∃ (i : Nat) (cs : List Value) (mi : Int) (k' : Blk), mm = es.length - i ∧ i ≤ es.length ∧ AHeap.le F H' ∧ H' b = some ⟨cs, true, k'.ty, k'.cap⟩ ∧ es.length * 3 ≤ cs.length ∧
      (∀ j (hj : j < es.length), i ≤ j → Tr H' es[j] (at3 cs j) (Bs j)) ∧ m ≤ mi ∧ mi ≤ m + 2 * (i + csum (es.take i)) ∧
      fr 0 = .slice (some ⟨b, 0, none⟩) es.length cp ∧ fr 1 = .int .i64 mi ∧ fr 5 = .int .i64 i) es.length
    ⟨0, k.cells, m, k, rfl, Nat.zero_le _, hle, by rw [hk, ← hko], hkl, fun j hj _ => hT j hj, by omega, by simp [csum], rfl, rfl, rfl⟩ ?_
  rintro mm fr H' ⟨i, cs, mi, k', rfl, hi, hle', hrow, hcs, hT', hm1, hm2, f0, f1, f2⟩
  by_cases hlt : i < es.length
  · have hct := csum_take hlt
    have hcl := csum_le (es := es) (i + 1)
    have hce := cnt_eq es[i]
    have g0 := lt_dec hlt
    have g1 := rng hlt
    have g3 := up1 hlt (by omega)
    have w1 : IntKind.i64.wrap (mi + 1) = mi + 1 := wrap_i64 (by omega) (by omega)
    have w2 : IntKind.i64.wrap (mi + 1 + 1) = mi + 1 + 1 := wrap_i64 (by omega) (by omega)
    have s0 : (i * 3 + 1 ≤ cs.length) = True := eq_true (by omega)
    have s1 : (i * 3 + 1 + 1 ≤ cs.length) = True := eq_true (by omega)
    have hTi := hT' i hlt (Nat.le_refl _)
    have hBi := hB i hlt
    generalize hei : es[i] = e at hTi hce
    generalize hcs3 : at3 cs i = c3 at hTi
    cases hTi with
    | mk op n args b2 k2 _ Bs2 hk2 hko2 hkl2 hm2' hb2 hB2 hd2 hT2 =>
      obtain ⟨q0, q1, q2⟩ := at3_eq hcs3 (by omega)
      have q3 : ((cs.set (i * 3) (.int .i64 mi)).set (i * 3 + 1) (.int .i64 (mi + 1)))[i * 3 + 2]? = some (.slice (some ⟨b2, 0, none⟩) args.length args.length) := by
        rw [List.getElem?_set_ne (by omega), List.getElem?_set_ne (by omega)]; exact q2
      simp only [Ex.args] at hce
      have hb2b : b2 ≠ b := (hBi b2 hb2).1
      repeat' (first | simp -implicitDefEqProofs only [zA1,zA2,zA3,zA4,zA5,zA6,zA7,zA8,zA9,zA10,zA11,zA12,zA13,zA14,zA15,zA16,zA17,zA18,zA19,zA20,zA21,zA22,zA23,zA24,zA25,zA26,zA27,zA28,zA29,zA30,zA31,zA32,zA33,zA34,zA35,zB1,zB2,zB3,zB4,zB5,zB6,zB7,zB8,zB9,zB10,zB11,zB12,zB13,zB14,zB15,zB16,zB17,zB18,zB19,zB20,zB21,zB22,zB23,zB24,zB25,zB26,zB27,zB28,zB29,zB30,zB31,zB32,zB33,zB34,zC1,zC2,zC3,zC4,zC5,zC6,zC7,zC8,zC9,zC10,zC11,zC12,zC13,zC14,zC15,zC16,zC17,zC18,zC19,zC20,zC21,zC22,zC23,zC24,zC25,zC26,zC27,zC28,zC29,zC30,zC31,zC32,zC33,zC34,zC35,zC36,zC37,le_refl_true,true_and,and_true,needs_some,needs_map,put_at,fr0_zero,fr0_succ,fr0_nil,resV,rval,X.val,binv,adr_adr,adr_zero,adr_lit,adr_some,cell_same,rdn_F,rdnF_zero,rdnF_succ,v_cells,v_size,List.getElem?_cons_succ,List.getElem?_cons_zero,Option.isSome_some,Option.bind_some,Option.map_some,fillL,setR,List.set_cons_zero,List.set_cons_succ,vcI,vcB,vcS,vcP,vcF,vcA,vcU,List.toList_toArray,and_self,List.length_cons,List.length_nil,List.size_toArray,List.map_cons,List.map_nil,List.nil_append,List.append_nil,List.cons_append,Int.toNat_natCast,↓reduceIte,Nat.reduceEqDiff,Nat.reduceAdd,Nat.reduceMul,Nat.reduceLeDiff,Nat.reduceLT,Nat.reduceSub,Nat.zero_add,reduceCtorEq,bne_self_eq_false,false_bne',true_bne',cell_ne,cell_ne',set_same,set_ne,set_ne',set_set,st_eq,some_ex,all_cons,all_nil',ocI,ocB,ocS,ocP,not_false_eq_true,eq_self,Bool.not_true,Bool.not_false,ldnV_p, f0, f1, f2, g0, g1, g3, w1, w2, s0, s1, q3, hrow, adr_lit, List.length_set, Nat.add_zero, true_and] | ((with_reducible refine rows_intro (fun _ hb => ?_)); try simp only [set_none, ne_eq] at hb) | ((with_reducible refine new_intro (fun _ hb => ?_)); try simp only [set_none, ne_eq] at hb) | (with_reducible refine draw_same ?_) | ((with_reducible refine gd_split ?_ (fun _ => ?_) (fun _ => ?_)); exact rfl) | ((with_reducible refine td_split ?_ (fun _ => ?_) (fun _ => ?_)); exact rfl) | (with_reducible refine c_split (fun _ => ?_) (fun _ => ?_)))
      have ih' : MkS w0 args := by
        have := ih es[i] (List.getElem_mem hlt)
        rw [hei] at this
        exact this
      have hnb : ∀ x, Bs i x → x ≠ b := fun x hx => (hBi x hx).1
      rw [hei] at hct
      refine ih' b2 k2 Bs2 args.length (mi + 1 + 1) ((H'.set b _).no (Bs i)) _ _ ((set_ne hb2b).trans hk2) hko2 hkl2 (fun j hj => (hT2 j hj).frame fun x hx => set_ne (hnb x (hB2 j hj x hx).1)) (fun j hj x hx => ⟨(hB2 j hj x hx).2, no_in (hB2 j hj x hx).1⟩) hd2 (no_in hb2) (no_le _ _) (by omega) (by omega) (fun m' hm1' hm2' => ?_)
      repeat' (first | simp -implicitDefEqProofs only [zA1,zA2,zA3,zA4,zA5,zA6,zA7,zA8,zA9,zA10,zA11,zA12,zA13,zA14,zA15,zA16,zA17,zA18,zA19,zA20,zA21,zA22,zA23,zA24,zA25,zA26,zA27,zA28,zA29,zA30,zA31,zA32,zA33,zA34,zA35,zB1,zB2,zB3,zB4,zB5,zB6,zB7,zB8,zB9,zB10,zB11,zB12,zB13,zB14,zB15,zB16,zB17,zB18,zB19,zB20,zB21,zB22,zB23,zB24,zB25,zB26,zB27,zB28,zB29,zB30,zB31,zB32,zB33,zB34,zC1,zC2,zC3,zC4,zC5,zC6,zC7,zC8,zC9,zC10,zC11,zC12,zC13,zC14,zC15,zC16,zC17,zC18,zC19,zC20,zC21,zC22,zC23,zC24,zC25,zC26,zC27,zC28,zC29,zC30,zC31,zC32,zC33,zC34,zC35,zC36,zC37,le_refl_true,true_and,and_true,needs_some,needs_map,put_at,fr0_zero,fr0_succ,fr0_nil,resV,rval,X.val,binv,adr_adr,adr_zero,adr_lit,adr_some,cell_same,rdn_F,rdnF_zero,rdnF_succ,v_cells,v_size,List.getElem?_cons_succ,List.getElem?_cons_zero,Option.isSome_some,Option.bind_some,Option.map_some,fillL,setR,List.set_cons_zero,List.set_cons_succ,vcI,vcB,vcS,vcP,vcF,vcA,vcU,List.toList_toArray,and_self,List.length_cons,List.length_nil,List.size_toArray,List.map_cons,List.map_nil,List.nil_append,List.append_nil,List.cons_append,Int.toNat_natCast,↓reduceIte,Nat.reduceEqDiff,Nat.reduceAdd,Nat.reduceMul,Nat.reduceLeDiff,Nat.reduceLT,Nat.reduceSub,Nat.zero_add,reduceCtorEq,bne_self_eq_false,false_bne',true_bne',cell_ne,cell_ne',set_same,set_ne,set_ne',set_set,st_eq,some_ex,all_cons,all_nil',ocI,ocB,ocS,ocP,not_false_eq_true,eq_self,Bool.not_true,Bool.not_false,ldnV_p, f0, f1, f2, g3] | ((with_reducible refine rows_intro (fun _ hb => ?_)); try simp only [set_none, ne_eq] at hb) | ((with_reducible refine new_intro (fun _ hb => ?_)); try simp only [set_none, ne_eq] at hb) | (with_reducible refine draw_same ?_) | ((with_reducible refine gd_split ?_ (fun _ => ?_) (fun _ => ?_)); exact rfl) | ((with_reducible refine td_split ?_ (fun _ => ?_) (fun _ => ?_)); exact rfl) | (with_reducible refine c_split (fun _ => ?_) (fun _ => ?_)))
      refine ⟨_, _, ?_, AHeap.le.refl _, i + 1, _, m', k', rfl, by omega, le_no (le_fresh0 hle' hFb _) fun x hx => (hBi x hx).2, (no_out fun hx => hnb b hx rfl).trans (set_same _ _ _), ?_, fun j hj hij => ?_, by omega, by omega, by simp [put_at, f0], by simp [put_at], by simp [put_at]⟩
      · omega
      · simp only [List.length_set]; exact hcs
      · rw [at3_set2 (by omega)]
        exact (hT' j hj (by omega)).frame fun x hx => (no_out fun h1 => hd i j (by omega) hj x h1 hx).trans (set_ne (hB j hj x hx).1)
  · have g0 := ge_dec hlt
    obtain rfl : i = es.length := by omega
    rw [List.take_length] at hm2
    repeat' (first | simp -implicitDefEqProofs only [zA1,zA2,zA3,zA4,zA5,zA6,zA7,zA8,zA9,zA10,zA11,zA12,zA13,zA14,zA15,zA16,zA17,zA18,zA19,zA20,zA21,zA22,zA23,zA24,zA25,zA26,zA27,zA28,zA29,zA30,zA31,zA32,zA33,zA34,zA35,zB1,zB2,zB3,zB4,zB5,zB6,zB7,zB8,zB9,zB10,zB11,zB12,zB13,zB14,zB15,zB16,zB17,zB18,zB19,zB20,zB21,zB22,zB23,zB24,zB25,zB26,zB27,zB28,zB29,zB30,zB31,zB32,zB33,zB34,zC1,zC2,zC3,zC4,zC5,zC6,zC7,zC8,zC9,zC10,zC11,zC12,zC13,zC14,zC15,zC16,zC17,zC18,zC19,zC20,zC21,zC22,zC23,zC24,zC25,zC26,zC27,zC28,zC29,zC30,zC31,zC32,zC33,zC34,zC35,zC36,zC37,le_refl_true,true_and,and_true,needs_some,needs_map,put_at,fr0_zero,fr0_succ,fr0_nil,resV,rval,X.val,binv,adr_adr,adr_zero,adr_lit,adr_some,cell_same,rdn_F,rdnF_zero,rdnF_succ,v_cells,v_size,List.getElem?_cons_succ,List.getElem?_cons_zero,Option.isSome_some,Option.bind_some,Option.map_some,fillL,setR,List.set_cons_zero,List.set_cons_succ,vcI,vcB,vcS,vcP,vcF,vcA,vcU,List.toList_toArray,and_self,List.length_cons,List.length_nil,List.size_toArray,List.map_cons,List.map_nil,List.nil_append,List.append_nil,List.cons_append,Int.toNat_natCast,↓reduceIte,Nat.reduceEqDiff,Nat.reduceAdd,Nat.reduceMul,Nat.reduceLeDiff,Nat.reduceLT,Nat.reduceSub,Nat.zero_add,reduceCtorEq,bne_self_eq_false,false_bne',true_bne',cell_ne,cell_ne',set_same,set_ne,set_ne',set_set,st_eq,some_ex,all_cons,all_nil',ocI,ocB,ocS,ocP,not_false_eq_true,eq_self,Bool.not_true,Bool.not_false,ldnV_p, f0, f1, f2, g0] | ((with_reducible refine rows_intro (fun _ hb => ?_)); try simp only [set_none, ne_eq] at hb) | ((with_reducible refine new_intro (fun _ hb => ?_)); try simp only [set_none, ne_eq] at hb) | (with_reducible refine draw_same ?_) | ((with_reducible refine gd_split ?_ (fun _ => ?_) (fun _ => ?_)); exact rfl) | ((with_reducible refine td_split ?_ (fun _ => ?_) (fun _ => ?_)); exact rfl) | (with_reducible refine c_split (fun _ => ?_) (fun _ => ?_)))
    exact ⟨F, hle', h _ hm1 (by omega)⟩
theorem markExprS_ok : ∀ e : Ex, MkS w0 e.args
  | .mk op n args => mkS_of w0 args fun e he => markExprS_ok e
termination_by e => SizeOf.sizeOf e
decreasing_by exact mem_lt he
theorem markExpr_ok (e : Ex) (b : Nat) (B : Nat → Prop) (m : Int) (F H : AHeap) (K : Value → AHeap → Prop) (hT : Tr H e [.int .i64 e.op, .int .i64 e.n, .slice (some ⟨b, 0, none⟩) e.args.length e.args.length] B) (hB : ∀ x, B x → F x = none) (hle : AHeap.le F H)
    (h0 : 0 ≤ m) (hm : m + 2 * e.cnt ≤ 1099511627776) (h : ∀ m', m ≤ m' → m' ≤ m + 2 * e.cnt → K (.int .i64 m') F) :
    ACalls Try.prog w0 29 [.agg #[.int .i64 e.op, .int .i64 e.n, .slice (some ⟨b, 0, none⟩) e.args.length e.args.length], .int .i64 m] H K := by
  cases e with
  | mk op n args =>
    simp only [Ex.op, Ex.n, Ex.args] at hT ⊢
    rw [cnt_eq] at hm h
    simp only [Ex.args] at hm h
    refine acalls_of_sx mix Try.func29 of29 (by simp [ir29]) ?_; rw [ir29]
    repeat' (first | simp -implicitDefEqProofs only [zA1,zA2,zA3,zA4,zA5,zA6,zA7,zA8,zA9,zA10,zA11,zA12,zA13,zA14,zA15,zA16,zA17,zA18,zA19,zA20,zA21,zA22,zA23,zA24,zA25,zA26,zA27,zA28,zA29,zA30,zA31,zA32,zA33,zA34,zA35,zB1,zB2,zB3,zB4,zB5,zB6,zB7,zB8,zB9,zB10,zB11,zB12,zB13,zB14,zB15,zB16,zB17,zB18,zB19,zB20,zB21,zB22,zB23,zB24,zB25,zB26,zB27,zB28,zB29,zB30,zB31,zB32,zB33,zB34,zC1,zC2,zC3,zC4,zC5,zC6,zC7,zC8,zC9,zC10,zC11,zC12,zC13,zC14,zC15,zC16,zC17,zC18,zC19,zC20,zC21,zC22,zC23,zC24,zC25,zC26,zC27,zC28,zC29,zC30,zC31,zC32,zC33,zC34,zC35,zC36,zC37,le_refl_true,true_and,and_true,needs_some,needs_map,put_at,fr0_zero,fr0_succ,fr0_nil,resV,rval,X.val,binv,adr_adr,adr_zero,adr_lit,adr_some,cell_same,rdn_F,rdnF_zero,rdnF_succ,v_cells,v_size,List.getElem?_cons_succ,List.getElem?_cons_zero,Option.isSome_some,Option.bind_some,Option.map_some,fillL,setR,List.set_cons_zero,List.set_cons_succ,vcI,vcB,vcS,vcP,vcF,vcA,vcU,List.toList_toArray,and_self,List.length_cons,List.length_nil,List.size_toArray,List.map_cons,List.map_nil,List.nil_append,List.append_nil,List.cons_append,Int.toNat_natCast,↓reduceIte,Nat.reduceEqDiff,Nat.reduceAdd,Nat.reduceMul,Nat.reduceLeDiff,Nat.reduceLT,Nat.reduceSub,Nat.zero_add,reduceCtorEq,bne_self_eq_false,false_bne',true_bne',cell_ne,cell_ne',set_same,set_ne,set_ne',set_set,st_eq,some_ex,all_cons,all_nil',ocI,ocB,ocS,ocP,not_false_eq_true,eq_self,Bool.not_true,Bool.not_false,ldnV_p] | ((with_reducible refine rows_intro (fun _ hb => ?_)); try simp only [set_none, ne_eq] at hb) | ((with_reducible refine new_intro (fun _ hb => ?_)); try simp only [set_none, ne_eq] at hb) | (with_reducible refine draw_same ?_) | ((with_reducible refine gd_split ?_ (fun _ => ?_) (fun _ => ?_)); exact rfl) | ((with_reducible refine td_split ?_ (fun _ => ?_) (fun _ => ?_)); exact rfl) | (with_reducible refine c_split (fun _ => ?_) (fun _ => ?_)))
    have hb0 := hb
    generalize hcs : [Value.int .i64 op, Value.int .i64 n, Value.slice (some ⟨b, 0, none⟩) args.length args.length] = cs at hT
    cases hT with
    | mk op n args b' k B Bs hk hko hkl hml hbB hBs hd ha =>
      simp only [List.cons.injEq, and_true, Value.slice.injEq, Option.some.injEq, true_and, Addr.mk.injEq] at hcs
      subst hcs
      have hl1 := (AHeap.le.refl H).fresh hb0 ⟨[.int .i64 op, .int .i64 n, .slice (some ⟨b, 0, none⟩) args.length args.length], true, 51, 3⟩
      refine markExprS_ok w0 (.mk op n args) b k Bs args.length m F _ _ ?_ hko hkl (fun j hj => (ha j hj).le hl1) (fun j hj x hx => ⟨(hBs j hj x hx).2, hB x (hBs j hj x hx).1⟩) hd (hB b hbB) (hle.trans hl1) h0 hm (fun m' h1 h2 => ?_)
      · rw [set_ne (by rintro rfl; rw [hb0] at hk; cases hk)]; exact hk
      · repeat' (first | simp -implicitDefEqProofs only [zA1,zA2,zA3,zA4,zA5,zA6,zA7,zA8,zA9,zA10,zA11,zA12,zA13,zA14,zA15,zA16,zA17,zA18,zA19,zA20,zA21,zA22,zA23,zA24,zA25,zA26,zA27,zA28,zA29,zA30,zA31,zA32,zA33,zA34,zA35,zB1,zB2,zB3,zB4,zB5,zB6,zB7,zB8,zB9,zB10,zB11,zB12,zB13,zB14,zB15,zB16,zB17,zB18,zB19,zB20,zB21,zB22,zB23,zB24,zB25,zB26,zB27,zB28,zB29,zB30,zB31,zB32,zB33,zB34,zC1,zC2,zC3,zC4,zC5,zC6,zC7,zC8,zC9,zC10,zC11,zC12,zC13,zC14,zC15,zC16,zC17,zC18,zC19,zC20,zC21,zC22,zC23,zC24,zC25,zC26,zC27,zC28,zC29,zC30,zC31,zC32,zC33,zC34,zC35,zC36,zC37,le_refl_true,true_and,and_true,needs_some,needs_map,put_at,fr0_zero,fr0_succ,fr0_nil,resV,rval,X.val,binv,adr_adr,adr_zero,adr_lit,adr_some,cell_same,rdn_F,rdnF_zero,rdnF_succ,v_cells,v_size,List.getElem?_cons_succ,List.getElem?_cons_zero,Option.isSome_some,Option.bind_some,Option.map_some,fillL,setR,List.set_cons_zero,List.set_cons_succ,vcI,vcB,vcS,vcP,vcF,vcA,vcU,List.toList_toArray,and_self,List.length_cons,List.length_nil,List.size_toArray,List.map_cons,List.map_nil,List.nil_append,List.append_nil,List.cons_append,Int.toNat_natCast,↓reduceIte,Nat.reduceEqDiff,Nat.reduceAdd,Nat.reduceMul,Nat.reduceLeDiff,Nat.reduceLT,Nat.reduceSub,Nat.zero_add,reduceCtorEq,bne_self_eq_false,false_bne',true_bne',cell_ne,cell_ne',set_same,set_ne,set_ne',set_set,st_eq,some_ex,all_cons,all_nil',ocI,ocB,ocS,ocP,not_false_eq_true,eq_self,Bool.not_true,Bool.not_false,ldnV_p] | ((with_reducible refine rows_intro (fun _ hb => ?_)); try simp only [set_none, ne_eq] at hb) | ((with_reducible refine new_intro (fun _ hb => ?_)); try simp only [set_none, ne_eq] at hb) | (with_reducible refine draw_same ?_) | ((with_reducible refine gd_split ?_ (fun _ => ?_) (fun _ => ?_)); exact rfl) | ((with_reducible refine td_split ?_ (fun _ => ?_) (fun _ => ?_)); exact rfl) | (with_reducible refine c_split (fun _ => ?_) (fun _ => ?_)))
        exact ret_same (h m' h1 h2)
end Go.Proofs.Ytoehlgcahiaoeaa
