/- The contracts of szExpr and eqExpr. -/
import Derived.Test.YtoehlgcahiaoeaaSxQuad
import Derived.Test.YtoehlgcahiaoeaaSxTree
namespace Go.Proofs.Ytoehlgcahiaoeaa
set_option linter.all false
open Go Go.RowKit
set_option maxRecDepth 100000
variable (w0 : World)
theorem mem_lt {op n : Int} {args : List Ex} {e : Ex} (h : e ∈ args) : SizeOf.sizeOf e < SizeOf.sizeOf (Ex.mk op n args) := by
  have := List.sizeOf_lt_of_mem h
  simp only [Ex.mk.sizeOf_spec]
  omega
def csum : List Ex → Nat
  | [] => 0
  | e :: es => e.cnt + csum es
theorem cntL_eq : ∀ es : List Ex, Ex.cnt.cntL es = es.length + csum es
  | [] => rfl
  | e :: es => by simp only [Ex.cnt.cntL, csum, List.length_cons, cntL_eq es]; omega
theorem csum_take {es : List Ex} : ∀ {k : Nat} (h : k < es.length), csum (es.take (k + 1)) = csum (es.take k) + es[k].cnt := by
  induction es with
  | nil => intro k h; cases h
  | cons e es ih =>
    intro k h
    cases k with
    | zero => simp [csum]
    | succ k =>
      have := ih (k := k) (by simpa using h)
      simp only [List.take_succ_cons, csum, List.getElem_cons_succ, this]
      omega
theorem csum_le {es : List Ex} (k : Nat) : csum (es.take k) ≤ csum es := by
  induction es generalizing k with
  | nil => simp [csum]
  | cons e es ih =>
    cases k with
    | zero => simp [csum]
    | succ k => simp only [List.take_succ_cons, csum]; have := ih k; omega
abbrev SzP (e : Ex) : Prop := ∀ (a : Option Addr) (c : Nat) (l : Int) (H : AHeap) (K : Value → AHeap → Prop), ExV H e [.int .i64 e.op, .int .i64 e.n, .slice a e.args.length c] → 0 ≤ l → l ≤ 4611686018427387904 → K (.int .i64 (if l < e.cnt then -1 else l - e.cnt)) H →
  ACalls Try.prog w0 24 [.agg #[.int .i64 e.op, .int .i64 e.n, .slice a e.args.length c], .int .i64 l] H K
abbrev SzS (es : List Ex) : Prop := ∀ (a : Option Addr) (c : Nat) (l : Int) (H : AHeap) (K : Value → AHeap → Prop), ExR H es a 0 → es.length ≤ maxLen → 0 ≤ l → l ≤ 4611686018427387904 → K (.int .i64 (if l < Ex.cnt.cntL es then -1 else l - Ex.cnt.cntL es)) H →
  ACalls Try.prog w0 49 [.slice a es.length c, .int .i64 l] H K
theorem szS_of (es : List Ex) (ih : ∀ e ∈ es, SzP w0 e) : SzS w0 es := by
  intro a c l H K hR hm h0 h1 h
  have hm' : (es.length : Int) ≤ 9223372036854775807 := by simp only [maxLen] at hm; omega
  have e1 : IntKind.i64.wrap (l - es.length) = l - es.length := wrap_i64 (by omega) (by omega)
  rw [cntL_eq] at h
  by_cases hl : l < es.length
  · have g1 : decide (l - es.length < 0) = true := by simp; omega
    rw [if_pos (by omega)] at h
    refine acalls_of_sx mix Try.func49 of49 (by simp [ir49]) ?_; rw [ir49]
    repeat' (first | simp -implicitDefEqProofs only [zA1,zA2,zA3,zA4,zA5,zA6,zA7,zA8,zA9,zA10,zA11,zA12,zA13,zA14,zA15,zA16,zA17,zA18,zA19,zA20,zA21,zA22,zA23,zA24,zA25,zA26,zA27,zA28,zA29,zA30,zA31,zA32,zA33,zA34,zA35,zB1,zB2,zB3,zB4,zB5,zB6,zB7,zB8,zB9,zB10,zB11,zB12,zB13,zB14,zB15,zB16,zB17,zB18,zB19,zB20,zB21,zB22,zB23,zB24,zB25,zB26,zB27,zB28,zB29,zB30,zB31,zB32,zB33,zB34,zC1,zC2,zC3,zC4,zC5,zC6,zC7,zC8,zC9,zC10,zC11,zC12,zC13,zC14,zC15,zC16,zC17,zC18,zC19,zC20,zC21,zC22,zC23,zC24,zC25,zC26,zC27,zC28,zC29,zC30,zC31,zC32,zC33,zC34,zC35,zC36,zC37,le_refl_true,true_and,and_true,needs_some,needs_map,put_at,fr0_zero,fr0_succ,fr0_nil,resV,rval,X.val,binv,adr_adr,adr_zero,adr_lit,adr_some,cell_same,rdn_F,rdnF_zero,rdnF_succ,v_cells,v_size,List.getElem?_cons_succ,List.getElem?_cons_zero,Option.isSome_some,Option.bind_some,Option.map_some,fillL,setR,List.set_cons_zero,List.set_cons_succ,vcI,vcB,vcS,vcP,vcF,vcA,vcU,List.toList_toArray,and_self,List.length_cons,List.length_nil,List.size_toArray,List.map_cons,List.map_nil,List.nil_append,List.append_nil,List.cons_append,Int.toNat_natCast,↓reduceIte,Nat.reduceEqDiff,Nat.reduceAdd,Nat.reduceMul,Nat.reduceLeDiff,Nat.reduceLT,Nat.reduceSub,Nat.zero_add,reduceCtorEq,bne_self_eq_false,false_bne',true_bne',cell_ne,cell_ne',set_same,set_ne,set_ne',set_set,st_eq,some_ex,all_cons,all_nil',ocI,ocB,ocS,ocP,not_false_eq_true,eq_self,Bool.not_true,Bool.not_false,ldnV_p, e1, g1] | ((with_reducible refine rows_intro (fun _ hb => ?_)); try simp only [set_none, ne_eq] at hb) | ((with_reducible refine new_intro (fun _ hb => ?_)); try simp only [set_none, ne_eq] at hb) | (with_reducible refine draw_same ?_) | ((with_reducible refine gd_split ?_ (fun _ => ?_) (fun _ => ?_)); exact rfl) | ((with_reducible refine td_split ?_ (fun _ => ?_) (fun _ => ?_)); exact rfl) | (with_reducible refine c_split (fun _ => ?_) (fun _ => ?_)))
    exact ret_same h
  · have g1 : decide (l - es.length < 0) = false := by simp; omega
    refine acalls_of_sx mix Try.func49 of49 (by simp [ir49]) ?_; rw [ir49]
    repeat' (first | simp -implicitDefEqProofs only [zA1,zA2,zA3,zA4,zA5,zA6,zA7,zA8,zA9,zA10,zA11,zA12,zA13,zA14,zA15,zA16,zA17,zA18,zA19,zA20,zA21,zA22,zA23,zA24,zA25,zA26,zA27,zA28,zA29,zA30,zA31,zA32,zA33,zA34,zA35,zB1,zB2,zB3,zB4,zB5,zB6,zB7,zB8,zB9,zB10,zB11,zB12,zB13,zB14,zB15,zB16,zB17,zB18,zB19,zB20,zB21,zB22,zB23,zB24,zB25,zB26,zB27,zB28,zB29,zB30,zB31,zB32,zB33,zB34,zC1,zC2,zC3,zC4,zC5,zC6,zC7,zC8,zC9,zC10,zC11,zC12,zC13,zC14,zC15,zC16,zC17,zC18,zC19,zC20,zC21,zC22,zC23,zC24,zC25,zC26,zC27,zC28,zC29,zC30,zC31,zC32,zC33,zC34,zC35,zC36,zC37,le_refl_true,true_and,and_true,needs_some,needs_map,put_at,fr0_zero,fr0_succ,fr0_nil,resV,rval,X.val,binv,adr_adr,adr_zero,adr_lit,adr_some,cell_same,rdn_F,rdnF_zero,rdnF_succ,v_cells,v_size,List.getElem?_cons_succ,List.getElem?_cons_zero,Option.isSome_some,Option.bind_some,Option.map_some,fillL,setR,List.set_cons_zero,List.set_cons_succ,vcI,vcB,vcS,vcP,vcF,vcA,vcU,List.toList_toArray,and_self,List.length_cons,List.length_nil,List.size_toArray,List.map_cons,List.map_nil,List.nil_append,List.append_nil,List.cons_append,Int.toNat_natCast,↓reduceIte,Nat.reduceEqDiff,Nat.reduceAdd,Nat.reduceMul,Nat.reduceLeDiff,Nat.reduceLT,Nat.reduceSub,Nat.zero_add,reduceCtorEq,bne_self_eq_false,false_bne',true_bne',cell_ne,cell_ne',set_same,set_ne,set_ne',set_set,st_eq,some_ex,all_cons,all_nil',ocI,ocB,ocS,ocP,not_false_eq_true,eq_self,Bool.not_true,Bool.not_false,ldnV_p, e1, g1] | ((with_reducible refine rows_intro (fun _ hb => ?_)); try simp only [set_none, ne_eq] at hb) | ((with_reducible refine new_intro (fun _ hb => ?_)); try simp only [set_none, ne_eq] at hb) | (with_reducible refine draw_same ?_) | ((with_reducible refine gd_split ?_ (fun _ => ?_) (fun _ => ?_)); exact rfl) | ((with_reducible refine td_split ?_ (fun _ => ?_) (fun _ => ?_)); exact rfl) | (with_reducible refine c_split (fun _ => ?_) (fun _ => ?_)))
    refine loop_rule (fun m fr H' => ∃ k : Nat, m = es.length - k ∧ k ≤ es.length ∧ H' = H ∧ (csum (es.take k) : Int) ≤ l - es.length ∧ fr 0 = .slice a es.length c ∧ fr 1 = .int .i64 (l - es.length - csum (es.take k)) ∧ fr 5 = .int .i64 k) es.length
      ⟨0, rfl, Nat.zero_le _, rfl, by simp [csum]; omega, rfl, by simp [csum, put_at], rfl⟩ ?_
    rintro m fr _ ⟨k, rfl, hk, rfl, hc, f0, f1, f2⟩
    by_cases hlt : k < es.length
    · have g0 := lt_dec hlt
      have g2 := rng hlt
      have g3 := up1 hlt (by omega)
      obtain ⟨hA, a', c', hcl, hx⟩ := hR.arg hlt
      have hs := csum_take hlt
      have hle := csum_le (es := es) (k + 1)
      repeat' (first | simp -implicitDefEqProofs only [zA1,zA2,zA3,zA4,zA5,zA6,zA7,zA8,zA9,zA10,zA11,zA12,zA13,zA14,zA15,zA16,zA17,zA18,zA19,zA20,zA21,zA22,zA23,zA24,zA25,zA26,zA27,zA28,zA29,zA30,zA31,zA32,zA33,zA34,zA35,zB1,zB2,zB3,zB4,zB5,zB6,zB7,zB8,zB9,zB10,zB11,zB12,zB13,zB14,zB15,zB16,zB17,zB18,zB19,zB20,zB21,zB22,zB23,zB24,zB25,zB26,zB27,zB28,zB29,zB30,zB31,zB32,zB33,zB34,zC1,zC2,zC3,zC4,zC5,zC6,zC7,zC8,zC9,zC10,zC11,zC12,zC13,zC14,zC15,zC16,zC17,zC18,zC19,zC20,zC21,zC22,zC23,zC24,zC25,zC26,zC27,zC28,zC29,zC30,zC31,zC32,zC33,zC34,zC35,zC36,zC37,le_refl_true,true_and,and_true,needs_some,needs_map,put_at,fr0_zero,fr0_succ,fr0_nil,resV,rval,X.val,binv,adr_adr,adr_zero,adr_lit,adr_some,cell_same,rdn_F,rdnF_zero,rdnF_succ,v_cells,v_size,List.getElem?_cons_succ,List.getElem?_cons_zero,Option.isSome_some,Option.bind_some,Option.map_some,fillL,setR,List.set_cons_zero,List.set_cons_succ,vcI,vcB,vcS,vcP,vcF,vcA,vcU,List.toList_toArray,and_self,List.length_cons,List.length_nil,List.size_toArray,List.map_cons,List.map_nil,List.nil_append,List.append_nil,List.cons_append,Int.toNat_natCast,↓reduceIte,Nat.reduceEqDiff,Nat.reduceAdd,Nat.reduceMul,Nat.reduceLeDiff,Nat.reduceLT,Nat.reduceSub,Nat.zero_add,reduceCtorEq,bne_self_eq_false,false_bne',true_bne',cell_ne,cell_ne',set_same,set_ne,set_ne',set_set,st_eq,some_ex,all_cons,all_nil',ocI,ocB,ocS,ocP,not_false_eq_true,eq_self,Bool.not_true,Bool.not_false,ldnV_p, f0, f1, f2, g0, g2, g3, hA, hcl, Nat.add_zero] | ((with_reducible refine rows_intro (fun _ hb => ?_)); try simp only [set_none, ne_eq] at hb) | ((with_reducible refine new_intro (fun _ hb => ?_)); try simp only [set_none, ne_eq] at hb) | (with_reducible refine draw_same ?_) | ((with_reducible refine gd_split ?_ (fun _ => ?_) (fun _ => ?_)); exact rfl) | ((with_reducible refine td_split ?_ (fun _ => ?_) (fun _ => ?_)); exact rfl) | (with_reducible refine c_split (fun _ => ?_) (fun _ => ?_)) | (with_reducible refine ih es[k] (List.getElem_mem hlt) a' c' _ _ _ hx (by omega) (by omega) ?_))
      · by_cases hlk : l - es.length - csum (es.take k) < es[k].cnt
        · rw [if_pos (by omega)] at h
          exact ret_same h
        · rw [if_neg hlk] at *
          (try simp only [beq_iff_eq, beq_eq_false_iff_ne, bne_iff_ne, bne_eq_false_iff_eq, decide_eq_true_eq, decide_eq_false_iff_not, ne_eq, Bool.not_eq_true, Bool.not_eq_false, Bool.not_eq_eq_eq_not, Bool.not_true, Bool.not_false, Int.not_lt, Int.not_le, ge_iff_le, gt_iff_lt] at *)
          omega
      · by_cases hlk : l - es.length - csum (es.take k) < es[k].cnt
        · rw [if_pos hlk] at *
          (try simp only [beq_iff_eq, beq_eq_false_iff_ne, bne_iff_ne, bne_eq_false_iff_eq, decide_eq_true_eq, decide_eq_false_iff_not, ne_eq, Bool.not_eq_true, Bool.not_eq_false, Bool.not_eq_eq_eq_not, Bool.not_true, Bool.not_false, Int.not_lt, Int.not_le, ge_iff_le, gt_iff_lt] at *)
          omega
        · refine ⟨_, _, ?_, AHeap.le.refl _, k + 1, rfl, by omega, rfl, by omega, by simp [put_at, f0], ?_, by simp [put_at]⟩
          · omega
          · rw [if_neg hlk, hs]
            simp [put_at]
            omega
    · have g0 := ge_dec hlt
      obtain rfl : k = es.length := by omega
      rw [List.take_length] at hc f1
      repeat' (first | simp -implicitDefEqProofs only [zA1,zA2,zA3,zA4,zA5,zA6,zA7,zA8,zA9,zA10,zA11,zA12,zA13,zA14,zA15,zA16,zA17,zA18,zA19,zA20,zA21,zA22,zA23,zA24,zA25,zA26,zA27,zA28,zA29,zA30,zA31,zA32,zA33,zA34,zA35,zB1,zB2,zB3,zB4,zB5,zB6,zB7,zB8,zB9,zB10,zB11,zB12,zB13,zB14,zB15,zB16,zB17,zB18,zB19,zB20,zB21,zB22,zB23,zB24,zB25,zB26,zB27,zB28,zB29,zB30,zB31,zB32,zB33,zB34,zC1,zC2,zC3,zC4,zC5,zC6,zC7,zC8,zC9,zC10,zC11,zC12,zC13,zC14,zC15,zC16,zC17,zC18,zC19,zC20,zC21,zC22,zC23,zC24,zC25,zC26,zC27,zC28,zC29,zC30,zC31,zC32,zC33,zC34,zC35,zC36,zC37,le_refl_true,true_and,and_true,needs_some,needs_map,put_at,fr0_zero,fr0_succ,fr0_nil,resV,rval,X.val,binv,adr_adr,adr_zero,adr_lit,adr_some,cell_same,rdn_F,rdnF_zero,rdnF_succ,v_cells,v_size,List.getElem?_cons_succ,List.getElem?_cons_zero,Option.isSome_some,Option.bind_some,Option.map_some,fillL,setR,List.set_cons_zero,List.set_cons_succ,vcI,vcB,vcS,vcP,vcF,vcA,vcU,List.toList_toArray,and_self,List.length_cons,List.length_nil,List.size_toArray,List.map_cons,List.map_nil,List.nil_append,List.append_nil,List.cons_append,Int.toNat_natCast,↓reduceIte,Nat.reduceEqDiff,Nat.reduceAdd,Nat.reduceMul,Nat.reduceLeDiff,Nat.reduceLT,Nat.reduceSub,Nat.zero_add,reduceCtorEq,bne_self_eq_false,false_bne',true_bne',cell_ne,cell_ne',set_same,set_ne,set_ne',set_set,st_eq,some_ex,all_cons,all_nil',ocI,ocB,ocS,ocP,not_false_eq_true,eq_self,Bool.not_true,Bool.not_false,ldnV_p, f0, f1, f2, g0] | ((with_reducible refine rows_intro (fun _ hb => ?_)); try simp only [set_none, ne_eq] at hb) | ((with_reducible refine new_intro (fun _ hb => ?_)); try simp only [set_none, ne_eq] at hb) | (with_reducible refine draw_same ?_) | ((with_reducible refine gd_split ?_ (fun _ => ?_) (fun _ => ?_)); exact rfl) | ((with_reducible refine td_split ?_ (fun _ => ?_) (fun _ => ?_)); exact rfl) | (with_reducible refine c_split (fun _ => ?_) (fun _ => ?_)))
      refine ret_same (ki h ?_)
      rw [if_neg (by omega)]
      omega
theorem szP_of (e : Ex) (ih : SzS w0 e.args) : SzP w0 e := by
  intro a c l H K hv h0 h1 h
  obtain ⟨_, _, he, hm, hR⟩ := hv.open_
  simp only [List.cons.injEq, and_true, Value.slice.injEq, true_and] at he
  obtain ⟨rfl, rfl⟩ := he
  have ec : e.cnt = Ex.cnt.cntL e.args := by cases e; rfl
  rw [ec] at h
  refine acalls_of_sx mix Try.func24 of24 (by simp [ir24]) ?_; rw [ir24]
  repeat' (first | simp -implicitDefEqProofs only [zA1,zA2,zA3,zA4,zA5,zA6,zA7,zA8,zA9,zA10,zA11,zA12,zA13,zA14,zA15,zA16,zA17,zA18,zA19,zA20,zA21,zA22,zA23,zA24,zA25,zA26,zA27,zA28,zA29,zA30,zA31,zA32,zA33,zA34,zA35,zB1,zB2,zB3,zB4,zB5,zB6,zB7,zB8,zB9,zB10,zB11,zB12,zB13,zB14,zB15,zB16,zB17,zB18,zB19,zB20,zB21,zB22,zB23,zB24,zB25,zB26,zB27,zB28,zB29,zB30,zB31,zB32,zB33,zB34,zC1,zC2,zC3,zC4,zC5,zC6,zC7,zC8,zC9,zC10,zC11,zC12,zC13,zC14,zC15,zC16,zC17,zC18,zC19,zC20,zC21,zC22,zC23,zC24,zC25,zC26,zC27,zC28,zC29,zC30,zC31,zC32,zC33,zC34,zC35,zC36,zC37,le_refl_true,true_and,and_true,needs_some,needs_map,put_at,fr0_zero,fr0_succ,fr0_nil,resV,rval,X.val,binv,adr_adr,adr_zero,adr_lit,adr_some,cell_same,rdn_F,rdnF_zero,rdnF_succ,v_cells,v_size,List.getElem?_cons_succ,List.getElem?_cons_zero,Option.isSome_some,Option.bind_some,Option.map_some,fillL,setR,List.set_cons_zero,List.set_cons_succ,vcI,vcB,vcS,vcP,vcF,vcA,vcU,List.toList_toArray,and_self,List.length_cons,List.length_nil,List.size_toArray,List.map_cons,List.map_nil,List.nil_append,List.append_nil,List.cons_append,Int.toNat_natCast,↓reduceIte,Nat.reduceEqDiff,Nat.reduceAdd,Nat.reduceMul,Nat.reduceLeDiff,Nat.reduceLT,Nat.reduceSub,Nat.zero_add,reduceCtorEq,bne_self_eq_false,false_bne',true_bne',cell_ne,cell_ne',set_same,set_ne,set_ne',set_set,st_eq,some_ex,all_cons,all_nil',ocI,ocB,ocS,ocP,not_false_eq_true,eq_self,Bool.not_true,Bool.not_false,ldnV_p] | ((with_reducible refine rows_intro (fun _ hb => ?_)); try simp only [set_none, ne_eq] at hb) | ((with_reducible refine new_intro (fun _ hb => ?_)); try simp only [set_none, ne_eq] at hb) | (with_reducible refine draw_same ?_) | ((with_reducible refine gd_split ?_ (fun _ => ?_) (fun _ => ?_)); exact rfl) | ((with_reducible refine td_split ?_ (fun _ => ?_) (fun _ => ?_)); exact rfl) | (with_reducible refine c_split (fun _ => ?_) (fun _ => ?_)) | (with_reducible refine ih a c l _ _ (hR.le ((AHeap.le.refl H).fresh ‹_› _)) hm h0 h1 ?_))
  all_goals refine ⟨H, (AHeap.le.refl H).fresh ‹_› _, ki h ?_⟩
  all_goals (try simp only [beq_iff_eq, beq_eq_false_iff_ne, bne_iff_ne, bne_eq_false_iff_eq, decide_eq_true_eq, decide_eq_false_iff_not, ne_eq, Bool.not_eq_true, Bool.not_eq_false, Bool.not_eq_eq_eq_not, Bool.not_true, Bool.not_false, Int.not_lt, Int.not_le, ge_iff_le, gt_iff_lt] at *)
  all_goals (split at * <;> omega)
theorem szExpr_ok : ∀ e : Ex, SzP w0 e
  | .mk op n args => szP_of w0 _ (szS_of w0 args fun e he => szExpr_ok e)
termination_by e => SizeOf.sizeOf e
decreasing_by exact mem_lt he
theorem szExprS_ok (es : List Ex) : SzS w0 es := szS_of w0 es fun e _ => szExpr_ok w0 e
/-! eqExpr of two that lie for the same expression. -/
abbrev EqP (e : Ex) : Prop := ∀ (a : Option Addr) (c : Nat) (b : Option Addr) (d : Nat) (H : AHeap) (K : Value → AHeap → Prop), ExV H e [.int .i64 e.op, .int .i64 e.n, .slice a e.args.length c] → ExV H e [.int .i64 e.op, .int .i64 e.n, .slice b e.args.length d] → e.cnt ≤ 4611686018427387904 → K (.bool true) H →
  ACalls Try.prog w0 28 [.agg #[.int .i64 e.op, .int .i64 e.n, .slice a e.args.length c], .agg #[.int .i64 e.op, .int .i64 e.n, .slice b e.args.length d]] H K
abbrev EqS (es : List Ex) : Prop := ∀ (a : Option Addr) (c : Nat) (b : Option Addr) (d : Nat) (H : AHeap) (K : Value → AHeap → Prop), ExR H es a 0 → ExR H es b 0 → Ex.cnt.cntL es ≤ 4611686018427387904 → K (.bool true) H →
  ACalls Try.prog w0 57 [.slice a es.length c, .slice b es.length d] H K
theorem cnt_at {es : List Ex} {k : Nat} (h : k < es.length) : es[k].cnt ≤ csum es := by
  have h1 := csum_take h
  have h2 := csum_le (es := es) (k + 1)
  omega
theorem eqS_of (es : List Ex) (ih : ∀ e ∈ es, EqP w0 e) : EqS w0 es := by
  intro a c b d H K hR hS hm h
  rw [cntL_eq] at hm
  refine acalls_of_sx mix Try.func57 of57 (by simp [ir57]) ?_; rw [ir57]
  repeat' (first | simp -implicitDefEqProofs only [zA1,zA2,zA3,zA4,zA5,zA6,zA7,zA8,zA9,zA10,zA11,zA12,zA13,zA14,zA15,zA16,zA17,zA18,zA19,zA20,zA21,zA22,zA23,zA24,zA25,zA26,zA27,zA28,zA29,zA30,zA31,zA32,zA33,zA34,zA35,zB1,zB2,zB3,zB4,zB5,zB6,zB7,zB8,zB9,zB10,zB11,zB12,zB13,zB14,zB15,zB16,zB17,zB18,zB19,zB20,zB21,zB22,zB23,zB24,zB25,zB26,zB27,zB28,zB29,zB30,zB31,zB32,zB33,zB34,zC1,zC2,zC3,zC4,zC5,zC6,zC7,zC8,zC9,zC10,zC11,zC12,zC13,zC14,zC15,zC16,zC17,zC18,zC19,zC20,zC21,zC22,zC23,zC24,zC25,zC26,zC27,zC28,zC29,zC30,zC31,zC32,zC33,zC34,zC35,zC36,zC37,le_refl_true,true_and,and_true,needs_some,needs_map,put_at,fr0_zero,fr0_succ,fr0_nil,resV,rval,X.val,binv,adr_adr,adr_zero,adr_lit,adr_some,cell_same,rdn_F,rdnF_zero,rdnF_succ,v_cells,v_size,List.getElem?_cons_succ,List.getElem?_cons_zero,Option.isSome_some,Option.bind_some,Option.map_some,fillL,setR,List.set_cons_zero,List.set_cons_succ,vcI,vcB,vcS,vcP,vcF,vcA,vcU,List.toList_toArray,and_self,List.length_cons,List.length_nil,List.size_toArray,List.map_cons,List.map_nil,List.nil_append,List.append_nil,List.cons_append,Int.toNat_natCast,↓reduceIte,Nat.reduceEqDiff,Nat.reduceAdd,Nat.reduceMul,Nat.reduceLeDiff,Nat.reduceLT,Nat.reduceSub,Nat.zero_add,reduceCtorEq,bne_self_eq_false,false_bne',true_bne',cell_ne,cell_ne',set_same,set_ne,set_ne',set_set,st_eq,some_ex,all_cons,all_nil',ocI,ocB,ocS,ocP,not_false_eq_true,eq_self,Bool.not_true,Bool.not_false,ldnV_p] | ((with_reducible refine rows_intro (fun _ hb => ?_)); try simp only [set_none, ne_eq] at hb) | ((with_reducible refine new_intro (fun _ hb => ?_)); try simp only [set_none, ne_eq] at hb) | (with_reducible refine draw_same ?_) | ((with_reducible refine gd_split ?_ (fun _ => ?_) (fun _ => ?_)); exact rfl) | ((with_reducible refine td_split ?_ (fun _ => ?_) (fun _ => ?_)); exact rfl) | (with_reducible refine c_split (fun _ => ?_) (fun _ => ?_)))
  refine loop_rule (fun m fr H' => ∃ k : Nat, m = es.length - k ∧ k ≤ es.length ∧ H' = H ∧ fr 0 = .slice a es.length c ∧ fr 1 = .slice b es.length d ∧ fr 5 = .int .i64 k) es.length
    ⟨0, rfl, Nat.zero_le _, rfl, rfl, rfl, rfl⟩ ?_
  rintro m fr _ ⟨k, rfl, hk, rfl, f0, f1, f2⟩
  by_cases hlt : k < es.length
  · have g0 := lt_dec hlt
    have g2 := rng hlt
    have g3 := up1 hlt (by omega)
    obtain ⟨hA, a', c', hcl, hx⟩ := hR.arg hlt
    obtain ⟨hB, b', d', hcm, hy⟩ := hS.arg hlt
    have hle := cnt_at hlt
    repeat' (first | simp -implicitDefEqProofs only [zA1,zA2,zA3,zA4,zA5,zA6,zA7,zA8,zA9,zA10,zA11,zA12,zA13,zA14,zA15,zA16,zA17,zA18,zA19,zA20,zA21,zA22,zA23,zA24,zA25,zA26,zA27,zA28,zA29,zA30,zA31,zA32,zA33,zA34,zA35,zB1,zB2,zB3,zB4,zB5,zB6,zB7,zB8,zB9,zB10,zB11,zB12,zB13,zB14,zB15,zB16,zB17,zB18,zB19,zB20,zB21,zB22,zB23,zB24,zB25,zB26,zB27,zB28,zB29,zB30,zB31,zB32,zB33,zB34,zC1,zC2,zC3,zC4,zC5,zC6,zC7,zC8,zC9,zC10,zC11,zC12,zC13,zC14,zC15,zC16,zC17,zC18,zC19,zC20,zC21,zC22,zC23,zC24,zC25,zC26,zC27,zC28,zC29,zC30,zC31,zC32,zC33,zC34,zC35,zC36,zC37,le_refl_true,true_and,and_true,needs_some,needs_map,put_at,fr0_zero,fr0_succ,fr0_nil,resV,rval,X.val,binv,adr_adr,adr_zero,adr_lit,adr_some,cell_same,rdn_F,rdnF_zero,rdnF_succ,v_cells,v_size,List.getElem?_cons_succ,List.getElem?_cons_zero,Option.isSome_some,Option.bind_some,Option.map_some,fillL,setR,List.set_cons_zero,List.set_cons_succ,vcI,vcB,vcS,vcP,vcF,vcA,vcU,List.toList_toArray,and_self,List.length_cons,List.length_nil,List.size_toArray,List.map_cons,List.map_nil,List.nil_append,List.append_nil,List.cons_append,Int.toNat_natCast,↓reduceIte,Nat.reduceEqDiff,Nat.reduceAdd,Nat.reduceMul,Nat.reduceLeDiff,Nat.reduceLT,Nat.reduceSub,Nat.zero_add,reduceCtorEq,bne_self_eq_false,false_bne',true_bne',cell_ne,cell_ne',set_same,set_ne,set_ne',set_set,st_eq,some_ex,all_cons,all_nil',ocI,ocB,ocS,ocP,not_false_eq_true,eq_self,Bool.not_true,Bool.not_false,ldnV_p, f0, f1, f2, g0, g2, g3, hA, hB, hcl, hcm, Nat.add_zero] | ((with_reducible refine rows_intro (fun _ hb => ?_)); try simp only [set_none, ne_eq] at hb) | ((with_reducible refine new_intro (fun _ hb => ?_)); try simp only [set_none, ne_eq] at hb) | (with_reducible refine draw_same ?_) | ((with_reducible refine gd_split ?_ (fun _ => ?_) (fun _ => ?_)); exact rfl) | ((with_reducible refine td_split ?_ (fun _ => ?_) (fun _ => ?_)); exact rfl) | (with_reducible refine c_split (fun _ => ?_) (fun _ => ?_)) | (with_reducible refine ih es[k] (List.getElem_mem hlt) a' c' b' d' _ _ hx hy (by omega) ?_))
    refine ⟨_, _, ?_, AHeap.le.refl _, k + 1, rfl, by omega, rfl, by simp [put_at, f0], by simp [put_at, f1], by simp [put_at]⟩
    omega
  · have g0 := ge_dec hlt
    repeat' (first | simp -implicitDefEqProofs only [zA1,zA2,zA3,zA4,zA5,zA6,zA7,zA8,zA9,zA10,zA11,zA12,zA13,zA14,zA15,zA16,zA17,zA18,zA19,zA20,zA21,zA22,zA23,zA24,zA25,zA26,zA27,zA28,zA29,zA30,zA31,zA32,zA33,zA34,zA35,zB1,zB2,zB3,zB4,zB5,zB6,zB7,zB8,zB9,zB10,zB11,zB12,zB13,zB14,zB15,zB16,zB17,zB18,zB19,zB20,zB21,zB22,zB23,zB24,zB25,zB26,zB27,zB28,zB29,zB30,zB31,zB32,zB33,zB34,zC1,zC2,zC3,zC4,zC5,zC6,zC7,zC8,zC9,zC10,zC11,zC12,zC13,zC14,zC15,zC16,zC17,zC18,zC19,zC20,zC21,zC22,zC23,zC24,zC25,zC26,zC27,zC28,zC29,zC30,zC31,zC32,zC33,zC34,zC35,zC36,zC37,le_refl_true,true_and,and_true,needs_some,needs_map,put_at,fr0_zero,fr0_succ,fr0_nil,resV,rval,X.val,binv,adr_adr,adr_zero,adr_lit,adr_some,cell_same,rdn_F,rdnF_zero,rdnF_succ,v_cells,v_size,List.getElem?_cons_succ,List.getElem?_cons_zero,Option.isSome_some,Option.bind_some,Option.map_some,fillL,setR,List.set_cons_zero,List.set_cons_succ,vcI,vcB,vcS,vcP,vcF,vcA,vcU,List.toList_toArray,and_self,List.length_cons,List.length_nil,List.size_toArray,List.map_cons,List.map_nil,List.nil_append,List.append_nil,List.cons_append,Int.toNat_natCast,↓reduceIte,Nat.reduceEqDiff,Nat.reduceAdd,Nat.reduceMul,Nat.reduceLeDiff,Nat.reduceLT,Nat.reduceSub,Nat.zero_add,reduceCtorEq,bne_self_eq_false,false_bne',true_bne',cell_ne,cell_ne',set_same,set_ne,set_ne',set_set,st_eq,some_ex,all_cons,all_nil',ocI,ocB,ocS,ocP,not_false_eq_true,eq_self,Bool.not_true,Bool.not_false,ldnV_p, f0, f1, f2, g0] | ((with_reducible refine rows_intro (fun _ hb => ?_)); try simp only [set_none, ne_eq] at hb) | ((with_reducible refine new_intro (fun _ hb => ?_)); try simp only [set_none, ne_eq] at hb) | (with_reducible refine draw_same ?_) | ((with_reducible refine gd_split ?_ (fun _ => ?_) (fun _ => ?_)); exact rfl) | ((with_reducible refine td_split ?_ (fun _ => ?_) (fun _ => ?_)); exact rfl) | (with_reducible refine c_split (fun _ => ?_) (fun _ => ?_)))
    exact ret_same h
theorem eqP_of (e : Ex) (ih : EqS w0 e.args) : EqP w0 e := by
  intro a c b d H K hv hw hm h
  obtain ⟨_, _, he, _, hR⟩ := hv.open_
  simp only [List.cons.injEq, and_true, Value.slice.injEq, true_and] at he
  obtain ⟨rfl, rfl⟩ := he
  obtain ⟨_, _, he, _, hS⟩ := hw.open_
  simp only [List.cons.injEq, and_true, Value.slice.injEq, true_and] at he
  obtain ⟨rfl, rfl⟩ := he
  have ec : e.cnt = Ex.cnt.cntL e.args := by cases e; rfl
  rw [ec] at hm
  refine acalls_of_sx mix Try.func28 of28 (by simp [ir28]) ?_; rw [ir28]
  repeat' (first | simp -implicitDefEqProofs only [zA1,zA2,zA3,zA4,zA5,zA6,zA7,zA8,zA9,zA10,zA11,zA12,zA13,zA14,zA15,zA16,zA17,zA18,zA19,zA20,zA21,zA22,zA23,zA24,zA25,zA26,zA27,zA28,zA29,zA30,zA31,zA32,zA33,zA34,zA35,zB1,zB2,zB3,zB4,zB5,zB6,zB7,zB8,zB9,zB10,zB11,zB12,zB13,zB14,zB15,zB16,zB17,zB18,zB19,zB20,zB21,zB22,zB23,zB24,zB25,zB26,zB27,zB28,zB29,zB30,zB31,zB32,zB33,zB34,zC1,zC2,zC3,zC4,zC5,zC6,zC7,zC8,zC9,zC10,zC11,zC12,zC13,zC14,zC15,zC16,zC17,zC18,zC19,zC20,zC21,zC22,zC23,zC24,zC25,zC26,zC27,zC28,zC29,zC30,zC31,zC32,zC33,zC34,zC35,zC36,zC37,le_refl_true,true_and,and_true,needs_some,needs_map,put_at,fr0_zero,fr0_succ,fr0_nil,resV,rval,X.val,binv,adr_adr,adr_zero,adr_lit,adr_some,cell_same,rdn_F,rdnF_zero,rdnF_succ,v_cells,v_size,List.getElem?_cons_succ,List.getElem?_cons_zero,Option.isSome_some,Option.bind_some,Option.map_some,fillL,setR,List.set_cons_zero,List.set_cons_succ,vcI,vcB,vcS,vcP,vcF,vcA,vcU,List.toList_toArray,and_self,List.length_cons,List.length_nil,List.size_toArray,List.map_cons,List.map_nil,List.nil_append,List.append_nil,List.cons_append,Int.toNat_natCast,↓reduceIte,Nat.reduceEqDiff,Nat.reduceAdd,Nat.reduceMul,Nat.reduceLeDiff,Nat.reduceLT,Nat.reduceSub,Nat.zero_add,reduceCtorEq,bne_self_eq_false,false_bne',true_bne',cell_ne,cell_ne',set_same,set_ne,set_ne',set_set,st_eq,some_ex,all_cons,all_nil',ocI,ocB,ocS,ocP,not_false_eq_true,eq_self,Bool.not_true,Bool.not_false,ldnV_p, *] | ((with_reducible refine rows_intro (fun _ hb => ?_)); try simp only [set_none, ne_eq] at hb) | ((with_reducible refine new_intro (fun _ hb => ?_)); try simp only [set_none, ne_eq] at hb) | (with_reducible refine draw_same ?_) | ((with_reducible refine gd_split ?_ (fun _ => ?_) (fun _ => ?_)); exact rfl) | ((with_reducible refine td_split ?_ (fun _ => ?_) (fun _ => ?_)); exact rfl) | (with_reducible refine c_split (fun _ => ?_) (fun _ => ?_)) | (with_reducible refine ih a c b d _ _ (hR.le (((AHeap.le.refl H).fresh ‹H _ = none› _).trans ((AHeap.le.refl _).fresh (set_none.2 hb) _))) (hS.le (((AHeap.le.refl H).fresh ‹H _ = none› _).trans ((AHeap.le.refl _).fresh (set_none.2 hb) _))) hm ?_))
  exact ⟨H, ((AHeap.le.refl H).fresh ‹H _ = none› _).trans ((AHeap.le.refl _).fresh (set_none.2 hb) _), h⟩
theorem eqExpr_ok : ∀ e : Ex, EqP w0 e
  | .mk op n args => eqP_of w0 _ (eqS_of w0 args fun e he => eqExpr_ok e)
termination_by e => SizeOf.sizeOf e
decreasing_by exact mem_lt he
theorem eqExprS_ok (es : List Ex) : EqS w0 es := eqS_of w0 es fun e _ => eqExpr_ok w0 e
end Go.Proofs.Ytoehlgcahiaoeaa
