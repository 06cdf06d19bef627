/- The contracts of the functions that read expressions. -/
import Derived.Test.YtoehlgcahiaoeaaSxQuad
import Derived.Test.YtoehlgcahiaoeaaSxTree
namespace Go.Proofs.Ytoehlgcahiaoeaa
set_option linter.all false
open Go Go.RowKit
set_option maxRecDepth 100000
variable (w0 : World)
theorem z20 : (0 ≤ (0 : Int) ∧ (0 : Int) < ((2 : Nat) : Int)) = True := by decide
theorem z21 : (0 ≤ (1 : Int) ∧ (1 : Int) < ((2 : Nat) : Int)) = True := by decide
theorem z2e : (((2 : Nat) : Int) == 2) = true := by decide
theorem ok_two {d : Nat} {op n : Int} {x y : Ex} : exprOk (d + 1) (.mk op n [x, y]) = (!(op == 0) && !(op == 13) && opValid op && n == 0 && exprOk d x && exprOk d y) := by
  simp only [exprOk, opValid, List.isEmpty_cons, Bool.and_false]
  by_cases h0 : op = 0
  · simp [h0]
  · by_cases h1 : op = 13
    · simp [h1]
    · have e0 : (op == 0) = false := by simp [h0]
      have e1 : (op == 13) = false := by simp [h1]
      simp [h0, h1, e0, e1, Bool.and_assoc]
theorem ok_more {d : Nat} {op n : Int} {args : List Ex} (h : args.length ≠ 2) : exprOk (d + 1) (.mk op n args) = ((op == 0 && decide (0 ≤ n) && decide (n ≤ 99999) || op == 13 && decide (0 ≤ n) && decide (n < 4)) && args.length == 0) := by
  have e2 : args.isEmpty = (args.length == 0) := by cases args <;> simp
  match args, h with
  | [], _ | [_], _ | _ :: _ :: _ :: _, _ =>
    simp only [exprOk]
    by_cases h0 : op = 0
    · simp [h0]
    · by_cases h1 : op = 13
      · have e3 : decide (n ≤ 3) = decide (n < 4) := decide_eq_decide.2 (by omega)
        simp only [h1, e3]; simp
      · have e0 : (op == 0) = false := by simp [h0]
        have e1 : (op == 13) = false := by simp [h1]
        simp [h0, h1, e0, e1]
theorem ok_zero (e : Ex) : exprOk 0 e = false := by cases e; rfl
theorem exprValid_ok (d : Nat) : ∀ (e : Ex) (a : Option Addr) (c : Nat) (H : AHeap) (K : Value → AHeap → Prop), d ≤ 1000 → ExV H e [.int .i64 e.op, .int .i64 e.n, .slice a e.args.length c] → K (.bool (exprOk d e)) H →
    ACalls Try.prog w0 66 [.agg #[.int .i64 e.op, .int .i64 e.n, .slice a e.args.length c], .int .i64 d] H K := by
  induction d with
  | zero =>
    intro ⟨op, n, args⟩ a c H K hd hv h
    simp only [Ex.op, Ex.n, Ex.args] at hv ⊢
    simp only [exprOk] at h
    have g2 : decide (((0 : Nat) : Int) > 1) = false := by decide
    have g3 : decide (((0 : Nat) : Int) > 0) = false := by decide
    refine acalls_of_sx mix Try.func66 of66 (by simp [ir66]) ?_; rw [ir66]
    repeat' (first | simp -implicitDefEqProofs only [zA1,zA2,zA3,zA4,zA5,zA6,zA7,zA8,zA9,zA10,zA11,zA12,zA13,zA14,zA15,zA16,zA17,zA18,zA19,zA20,zA21,zA22,zA23,zA24,zA25,zA26,zA27,zA28,zA29,zA30,zA31,zA32,zA33,zA34,zA35,zB1,zB2,zB3,zB4,zB5,zB6,zB7,zB8,zB9,zB10,zB11,zB12,zB13,zB14,zB15,zB16,zB17,zB18,zB19,zB20,zB21,zB22,zB23,zB24,zB25,zB26,zB27,zB28,zB29,zB30,zB31,zB32,zB33,zB34,zC1,zC2,zC3,zC4,zC5,zC6,zC7,zC8,zC9,zC10,zC11,zC12,zC13,zC14,zC15,zC16,zC17,zC18,zC19,zC20,zC21,zC22,zC23,zC24,zC25,zC26,zC27,zC28,zC29,zC30,zC31,zC32,zC33,zC34,zC35,zC36,zC37,le_refl_true,true_and,and_true,needs_some,needs_map,put_at,fr0_zero,fr0_succ,fr0_nil,resV,rval,X.val,binv,adr_adr,adr_zero,adr_lit,adr_some,cell_same,rdn_F,rdnF_zero,rdnF_succ,v_cells,v_size,List.getElem?_cons_succ,List.getElem?_cons_zero,Option.isSome_some,Option.bind_some,Option.map_some,fillL,setR,List.set_cons_zero,List.set_cons_succ,vcI,vcB,vcS,vcP,vcF,vcA,vcU,List.toList_toArray,and_self,List.length_cons,List.length_nil,List.size_toArray,List.map_cons,List.map_nil,List.nil_append,List.append_nil,List.cons_append,Int.toNat_natCast,↓reduceIte,Nat.reduceEqDiff,Nat.reduceAdd,Nat.reduceMul,Nat.reduceLeDiff,Nat.reduceLT,Nat.reduceSub,Nat.zero_add,reduceCtorEq,bne_self_eq_false,false_bne',true_bne',cell_ne,cell_ne',set_same,set_ne,set_ne',set_set,st_eq,some_ex,all_cons,all_nil',ocI,ocB,ocS,ocP,not_false_eq_true,eq_self,Bool.not_true,Bool.not_false,ldnV_p, g2, g3] | ((with_reducible refine rows_intro (fun _ hb => ?_)); try simp only [set_none, ne_eq] at hb) | ((with_reducible refine new_intro (fun _ hb => ?_)); try simp only [set_none, ne_eq] at hb) | (with_reducible refine draw_same ?_) | ((with_reducible refine gd_split ?_ (fun _ => ?_) (fun _ => ?_)); exact rfl) | ((with_reducible refine td_split ?_ (fun _ => ?_) (fun _ => ?_)); exact rfl) | (with_reducible refine c_split (fun _ => ?_) (fun _ => ?_)) | (with_reducible refine opValid_ok _ _ _ _ ?_))
    all_goals exact ⟨H, (by simp -implicitDefEqProofs only [le_set_true, le_refl_true, eq_self, *]), h⟩
  | succ d ih =>
    intro ⟨op, n, args⟩ a c H K hd hv h
    obtain ⟨_, _, he, hm, hR⟩ := hv.open_
    simp only [List.cons.injEq, and_true, Value.slice.injEq, true_and] at he
    obtain ⟨rfl, rfl⟩ := he
    simp only [Ex.op, Ex.n, Ex.args] at hR hm hv ⊢
    have g2 : decide (((d + 1 : Nat) : Int) > 0) = true := by simp <;> omega
    by_cases h2 : args.length = 2
    · obtain ⟨x, y, rfl⟩ : ∃ x y, args = [x, y] := by
        match args, h2 with
        | [x, y], _ => exact ⟨x, y, rfl⟩
      rw [ok_two] at h
      obtain ⟨a', c', b', d', hc, hx, hy⟩ := hR.two
      have g1 : IntKind.i64.wrap (((d + 1 : Nat) : Int) - 1) = (d : Int) := by rw [wrap_i64 (by omega) (by omega)]; omega
      have g3 : (((2 : Nat) : Int) == 0) = false := by decide
      have hz : d = 0 → exprOk d x = false := by rintro rfl; exact ok_zero x
      refine acalls_of_sx mix Try.func66 of66 (by simp [ir66]) ?_; rw [ir66]
      repeat' (first | simp -implicitDefEqProofs only [zA1,zA2,zA3,zA4,zA5,zA6,zA7,zA8,zA9,zA10,zA11,zA12,zA13,zA14,zA15,zA16,zA17,zA18,zA19,zA20,zA21,zA22,zA23,zA24,zA25,zA26,zA27,zA28,zA29,zA30,zA31,zA32,zA33,zA34,zA35,zB1,zB2,zB3,zB4,zB5,zB6,zB7,zB8,zB9,zB10,zB11,zB12,zB13,zB14,zB15,zB16,zB17,zB18,zB19,zB20,zB21,zB22,zB23,zB24,zB25,zB26,zB27,zB28,zB29,zB30,zB31,zB32,zB33,zB34,zC1,zC2,zC3,zC4,zC5,zC6,zC7,zC8,zC9,zC10,zC11,zC12,zC13,zC14,zC15,zC16,zC17,zC18,zC19,zC20,zC21,zC22,zC23,zC24,zC25,zC26,zC27,zC28,zC29,zC30,zC31,zC32,zC33,zC34,zC35,zC36,zC37,le_refl_true,true_and,and_true,needs_some,needs_map,put_at,fr0_zero,fr0_succ,fr0_nil,resV,rval,X.val,binv,adr_adr,adr_zero,adr_lit,adr_some,cell_same,rdn_F,rdnF_zero,rdnF_succ,v_cells,v_size,List.getElem?_cons_succ,List.getElem?_cons_zero,Option.isSome_some,Option.bind_some,Option.map_some,fillL,setR,List.set_cons_zero,List.set_cons_succ,vcI,vcB,vcS,vcP,vcF,vcA,vcU,List.toList_toArray,and_self,List.length_cons,List.length_nil,List.size_toArray,List.map_cons,List.map_nil,List.nil_append,List.append_nil,List.cons_append,Int.toNat_natCast,↓reduceIte,Nat.reduceEqDiff,Nat.reduceAdd,Nat.reduceMul,Nat.reduceLeDiff,Nat.reduceLT,Nat.reduceSub,Nat.zero_add,reduceCtorEq,bne_self_eq_false,false_bne',true_bne',cell_ne,cell_ne',set_same,set_ne,set_ne',set_set,st_eq,some_ex,all_cons,all_nil',ocI,ocB,ocS,ocP,not_false_eq_true,eq_self,Bool.not_true,Bool.not_false,ldnV_p, z20, z21, z2e, g1, g2, g3, Int.toNat_zero, Int.toNat_one, Nat.zero_mul, Nat.one_mul, cell_old, *] | ((with_reducible refine rows_intro (fun _ hb => ?_)); try simp only [set_none, ne_eq] at hb) | ((with_reducible refine new_intro (fun _ hb => ?_)); try simp only [set_none, ne_eq] at hb) | (with_reducible refine draw_same ?_) | ((with_reducible refine gd_split ?_ (fun _ => ?_) (fun _ => ?_)); exact rfl) | ((with_reducible refine td_split ?_ (fun _ => ?_) (fun _ => ?_)); exact rfl) | (with_reducible refine c_split (fun _ => ?_) (fun _ => ?_)) | (with_reducible refine opValid_ok _ _ _ _ ?_) | (with_reducible refine ih x a' c' _ _ (by omega) (hx.le ((AHeap.le.refl H).fresh ‹_› _)) ?_) | (with_reducible refine ih y b' d' _ _ (by omega) (hy.le ((AHeap.le.refl H).fresh ‹_› _)) ?_))
      all_goals refine ⟨H, (by simp -implicitDefEqProofs only [le_set_true, le_refl_true, eq_self, *]), kb h ?_⟩
      all_goals clear h hv hR hc hx hy ih
      all_goals (try simp only [beq_iff_eq, beq_eq_false_iff_ne, bne_iff_ne, bne_eq_false_iff_eq, decide_eq_true_eq, decide_eq_false_iff_not, ne_eq, Bool.not_eq_true, Bool.not_eq_false, Bool.not_eq_eq_eq_not, Bool.not_true, Bool.not_false, Int.not_lt, Int.not_le, ge_iff_le, gt_iff_lt] at *)
      all_goals grind
    · have g3 : (((args.length : Nat) : Int) == 2) = false := by simp; omega
      rw [ok_more h2] at h
      refine acalls_of_sx mix Try.func66 of66 (by simp [ir66]) ?_; rw [ir66]
      repeat' (first | simp -implicitDefEqProofs only [zA1,zA2,zA3,zA4,zA5,zA6,zA7,zA8,zA9,zA10,zA11,zA12,zA13,zA14,zA15,zA16,zA17,zA18,zA19,zA20,zA21,zA22,zA23,zA24,zA25,zA26,zA27,zA28,zA29,zA30,zA31,zA32,zA33,zA34,zA35,zB1,zB2,zB3,zB4,zB5,zB6,zB7,zB8,zB9,zB10,zB11,zB12,zB13,zB14,zB15,zB16,zB17,zB18,zB19,zB20,zB21,zB22,zB23,zB24,zB25,zB26,zB27,zB28,zB29,zB30,zB31,zB32,zB33,zB34,zC1,zC2,zC3,zC4,zC5,zC6,zC7,zC8,zC9,zC10,zC11,zC12,zC13,zC14,zC15,zC16,zC17,zC18,zC19,zC20,zC21,zC22,zC23,zC24,zC25,zC26,zC27,zC28,zC29,zC30,zC31,zC32,zC33,zC34,zC35,zC36,zC37,le_refl_true,true_and,and_true,needs_some,needs_map,put_at,fr0_zero,fr0_succ,fr0_nil,resV,rval,X.val,binv,adr_adr,adr_zero,adr_lit,adr_some,cell_same,rdn_F,rdnF_zero,rdnF_succ,v_cells,v_size,List.getElem?_cons_succ,List.getElem?_cons_zero,Option.isSome_some,Option.bind_some,Option.map_some,fillL,setR,List.set_cons_zero,List.set_cons_succ,vcI,vcB,vcS,vcP,vcF,vcA,vcU,List.toList_toArray,and_self,List.length_cons,List.length_nil,List.size_toArray,List.map_cons,List.map_nil,List.nil_append,List.append_nil,List.cons_append,Int.toNat_natCast,↓reduceIte,Nat.reduceEqDiff,Nat.reduceAdd,Nat.reduceMul,Nat.reduceLeDiff,Nat.reduceLT,Nat.reduceSub,Nat.zero_add,reduceCtorEq,bne_self_eq_false,false_bne',true_bne',cell_ne,cell_ne',set_same,set_ne,set_ne',set_set,st_eq,some_ex,all_cons,all_nil',ocI,ocB,ocS,ocP,not_false_eq_true,eq_self,Bool.not_true,Bool.not_false,ldnV_p, g2, g3] | ((with_reducible refine rows_intro (fun _ hb => ?_)); try simp only [set_none, ne_eq] at hb) | ((with_reducible refine new_intro (fun _ hb => ?_)); try simp only [set_none, ne_eq] at hb) | (with_reducible refine draw_same ?_) | ((with_reducible refine gd_split ?_ (fun _ => ?_) (fun _ => ?_)); exact rfl) | ((with_reducible refine td_split ?_ (fun _ => ?_) (fun _ => ?_)); exact rfl) | (with_reducible refine c_split (fun _ => ?_) (fun _ => ?_)) | (with_reducible refine opValid_ok _ _ _ _ ?_))
      all_goals refine ⟨H, (by simp -implicitDefEqProofs only [le_set_true, le_refl_true, eq_self, *]), kb h ?_⟩
      all_goals clear h hv hR ih
      all_goals (try simp only [beq_iff_eq, beq_eq_false_iff_ne, bne_iff_ne, bne_eq_false_iff_eq, decide_eq_true_eq, decide_eq_false_iff_not, ne_eq, Bool.not_eq_true, Bool.not_eq_false, Bool.not_eq_eq_eq_not, Bool.not_true, Bool.not_false, Int.not_lt, Int.not_le, ge_iff_le, gt_iff_lt] at *)
      all_goals grind
variable (H : AHeap) (K : Value → AHeap → Prop)
theorem exprValid5_ok' (e : Ex) (a : Option Addr) (c : Nat) (hv : ExV H e [.int .i64 e.op, .int .i64 e.n, .slice a e.args.length c]) (h : K (.bool (exprOk 5 e)) H) :
    ACalls Try.prog w0 66 [.agg #[.int .i64 e.op, .int .i64 e.n, .slice a e.args.length c], .int .i64 5] H K := exprValid_ok w0 5 e a c H K (by decide) hv h
theorem exprValid5_ok (e : Ex) (a : Option Addr) (c : Nat) (hv : ExV H e [.int .i64 e.op, .int .i64 e.n, .slice a e.args.length c]) (h : K (.bool (exprOk 5 e)) H) :
    ACalls Try.prog w0 54 [.agg #[.int .i64 e.op, .int .i64 e.n, .slice a e.args.length c]] H K := by
  refine acalls_of_sx mix Try.func54 of54 (by simp [ir54]) ?_; rw [ir54]
  repeat' (first | simp -implicitDefEqProofs only [zA1,zA2,zA3,zA4,zA5,zA6,zA7,zA8,zA9,zA10,zA11,zA12,zA13,zA14,zA15,zA16,zA17,zA18,zA19,zA20,zA21,zA22,zA23,zA24,zA25,zA26,zA27,zA28,zA29,zA30,zA31,zA32,zA33,zA34,zA35,zB1,zB2,zB3,zB4,zB5,zB6,zB7,zB8,zB9,zB10,zB11,zB12,zB13,zB14,zB15,zB16,zB17,zB18,zB19,zB20,zB21,zB22,zB23,zB24,zB25,zB26,zB27,zB28,zB29,zB30,zB31,zB32,zB33,zB34,zC1,zC2,zC3,zC4,zC5,zC6,zC7,zC8,zC9,zC10,zC11,zC12,zC13,zC14,zC15,zC16,zC17,zC18,zC19,zC20,zC21,zC22,zC23,zC24,zC25,zC26,zC27,zC28,zC29,zC30,zC31,zC32,zC33,zC34,zC35,zC36,zC37,le_refl_true,true_and,and_true,needs_some,needs_map,put_at,fr0_zero,fr0_succ,fr0_nil,resV,rval,X.val,binv,adr_adr,adr_zero,adr_lit,adr_some,cell_same,rdn_F,rdnF_zero,rdnF_succ,v_cells,v_size,List.getElem?_cons_succ,List.getElem?_cons_zero,Option.isSome_some,Option.bind_some,Option.map_some,fillL,setR,List.set_cons_zero,List.set_cons_succ,vcI,vcB,vcS,vcP,vcF,vcA,vcU,List.toList_toArray,and_self,List.length_cons,List.length_nil,List.size_toArray,List.map_cons,List.map_nil,List.nil_append,List.append_nil,List.cons_append,Int.toNat_natCast,↓reduceIte,Nat.reduceEqDiff,Nat.reduceAdd,Nat.reduceMul,Nat.reduceLeDiff,Nat.reduceLT,Nat.reduceSub,Nat.zero_add,reduceCtorEq,bne_self_eq_false,false_bne',true_bne',cell_ne,cell_ne',set_same,set_ne,set_ne',set_set,st_eq,some_ex,all_cons,all_nil',ocI,ocB,ocS,ocP,not_false_eq_true,eq_self,Bool.not_true,Bool.not_false,ldnV_p, *] | ((with_reducible refine rows_intro (fun _ hb => ?_)); try simp only [set_none, ne_eq] at hb) | ((with_reducible refine new_intro (fun _ hb => ?_)); try simp only [set_none, ne_eq] at hb) | (with_reducible refine draw_same ?_) | ((with_reducible refine gd_split ?_ (fun _ => ?_) (fun _ => ?_)); exact rfl) | ((with_reducible refine td_split ?_ (fun _ => ?_) (fun _ => ?_)); exact rfl) | (with_reducible refine c_split (fun _ => ?_) (fun _ => ?_)) | (with_reducible refine exprValid5_ok' _ _ _ e a c (hv.le ((AHeap.le.refl H).fresh ‹_› _)) ?_))
  exact ⟨H, (by simp -implicitDefEqProofs only [le_set_true, le_refl_true, eq_self, *]), h⟩
theorem l4Ok_ok (d : Nat) : ∀ (e : Ex) (a : Option Addr) (c : Nat) (H : AHeap) (K : Value → AHeap → Prop), d ≤ 1000 → ExV H e [.int .i64 e.op, .int .i64 e.n, .slice a e.args.length c] → K (.bool (exprOk d e)) H →
    ACalls Try.prog w0 65 [.agg #[.int .i64 e.op, .int .i64 e.n, .slice a e.args.length c], .int .i64 d] H K := by
  induction d with
  | zero =>
    intro ⟨op, n, args⟩ a c H K hd hv h
    simp only [Ex.op, Ex.n, Ex.args] at hv ⊢
    simp only [exprOk] at h
    have g2 : decide (((0 : Nat) : Int) < 1) = true := by decide
    refine acalls_of_sx mix Try.func65 of65 (by simp [ir65]) ?_; rw [ir65]
    repeat' (first | simp -implicitDefEqProofs only [zA1,zA2,zA3,zA4,zA5,zA6,zA7,zA8,zA9,zA10,zA11,zA12,zA13,zA14,zA15,zA16,zA17,zA18,zA19,zA20,zA21,zA22,zA23,zA24,zA25,zA26,zA27,zA28,zA29,zA30,zA31,zA32,zA33,zA34,zA35,zB1,zB2,zB3,zB4,zB5,zB6,zB7,zB8,zB9,zB10,zB11,zB12,zB13,zB14,zB15,zB16,zB17,zB18,zB19,zB20,zB21,zB22,zB23,zB24,zB25,zB26,zB27,zB28,zB29,zB30,zB31,zB32,zB33,zB34,zC1,zC2,zC3,zC4,zC5,zC6,zC7,zC8,zC9,zC10,zC11,zC12,zC13,zC14,zC15,zC16,zC17,zC18,zC19,zC20,zC21,zC22,zC23,zC24,zC25,zC26,zC27,zC28,zC29,zC30,zC31,zC32,zC33,zC34,zC35,zC36,zC37,le_refl_true,true_and,and_true,needs_some,needs_map,put_at,fr0_zero,fr0_succ,fr0_nil,resV,rval,X.val,binv,adr_adr,adr_zero,adr_lit,adr_some,cell_same,rdn_F,rdnF_zero,rdnF_succ,v_cells,v_size,List.getElem?_cons_succ,List.getElem?_cons_zero,Option.isSome_some,Option.bind_some,Option.map_some,fillL,setR,List.set_cons_zero,List.set_cons_succ,vcI,vcB,vcS,vcP,vcF,vcA,vcU,List.toList_toArray,and_self,List.length_cons,List.length_nil,List.size_toArray,List.map_cons,List.map_nil,List.nil_append,List.append_nil,List.cons_append,Int.toNat_natCast,↓reduceIte,Nat.reduceEqDiff,Nat.reduceAdd,Nat.reduceMul,Nat.reduceLeDiff,Nat.reduceLT,Nat.reduceSub,Nat.zero_add,reduceCtorEq,bne_self_eq_false,false_bne',true_bne',cell_ne,cell_ne',set_same,set_ne,set_ne',set_set,st_eq,some_ex,all_cons,all_nil',ocI,ocB,ocS,ocP,not_false_eq_true,eq_self,Bool.not_true,Bool.not_false,ldnV_p, g2] | ((with_reducible refine rows_intro (fun _ hb => ?_)); try simp only [set_none, ne_eq] at hb) | ((with_reducible refine new_intro (fun _ hb => ?_)); try simp only [set_none, ne_eq] at hb) | (with_reducible refine draw_same ?_) | ((with_reducible refine gd_split ?_ (fun _ => ?_) (fun _ => ?_)); exact rfl) | ((with_reducible refine td_split ?_ (fun _ => ?_) (fun _ => ?_)); exact rfl) | (with_reducible refine c_split (fun _ => ?_) (fun _ => ?_)) | (with_reducible refine opValidS_ok _ _ _ _ ?_))
    all_goals exact ⟨H, (by simp -implicitDefEqProofs only [le_set_true, le_refl_true, eq_self, *]), h⟩
  | succ d ih =>
    intro ⟨op, n, args⟩ a c H K hd hv h
    obtain ⟨_, _, he, hm, hR⟩ := hv.open_
    simp only [List.cons.injEq, and_true, Value.slice.injEq, true_and] at he
    obtain ⟨rfl, rfl⟩ := he
    simp only [Ex.op, Ex.n, Ex.args] at hR hm hv ⊢
    have g2 : decide (((d + 1 : Nat) : Int) < 1) = false := by simp <;> omega
    by_cases h2 : args.length = 2
    · obtain ⟨x, y, rfl⟩ : ∃ x y, args = [x, y] := by
        match args, h2 with
        | [x, y], _ => exact ⟨x, y, rfl⟩
      rw [ok_two] at h
      obtain ⟨a', c', b', d', hc, hx, hy⟩ := hR.two
      have g1 : IntKind.i64.wrap (((d + 1 : Nat) : Int) - 1) = (d : Int) := by rw [wrap_i64 (by omega) (by omega)]; omega
      have g3 : (((2 : Nat) : Int) == 0) = false := by decide
      refine acalls_of_sx mix Try.func65 of65 (by simp [ir65]) ?_; rw [ir65]
      repeat' (first | simp -implicitDefEqProofs only [zA1,zA2,zA3,zA4,zA5,zA6,zA7,zA8,zA9,zA10,zA11,zA12,zA13,zA14,zA15,zA16,zA17,zA18,zA19,zA20,zA21,zA22,zA23,zA24,zA25,zA26,zA27,zA28,zA29,zA30,zA31,zA32,zA33,zA34,zA35,zB1,zB2,zB3,zB4,zB5,zB6,zB7,zB8,zB9,zB10,zB11,zB12,zB13,zB14,zB15,zB16,zB17,zB18,zB19,zB20,zB21,zB22,zB23,zB24,zB25,zB26,zB27,zB28,zB29,zB30,zB31,zB32,zB33,zB34,zC1,zC2,zC3,zC4,zC5,zC6,zC7,zC8,zC9,zC10,zC11,zC12,zC13,zC14,zC15,zC16,zC17,zC18,zC19,zC20,zC21,zC22,zC23,zC24,zC25,zC26,zC27,zC28,zC29,zC30,zC31,zC32,zC33,zC34,zC35,zC36,zC37,le_refl_true,true_and,and_true,needs_some,needs_map,put_at,fr0_zero,fr0_succ,fr0_nil,resV,rval,X.val,binv,adr_adr,adr_zero,adr_lit,adr_some,cell_same,rdn_F,rdnF_zero,rdnF_succ,v_cells,v_size,List.getElem?_cons_succ,List.getElem?_cons_zero,Option.isSome_some,Option.bind_some,Option.map_some,fillL,setR,List.set_cons_zero,List.set_cons_succ,vcI,vcB,vcS,vcP,vcF,vcA,vcU,List.toList_toArray,and_self,List.length_cons,List.length_nil,List.size_toArray,List.map_cons,List.map_nil,List.nil_append,List.append_nil,List.cons_append,Int.toNat_natCast,↓reduceIte,Nat.reduceEqDiff,Nat.reduceAdd,Nat.reduceMul,Nat.reduceLeDiff,Nat.reduceLT,Nat.reduceSub,Nat.zero_add,reduceCtorEq,bne_self_eq_false,false_bne',true_bne',cell_ne,cell_ne',set_same,set_ne,set_ne',set_set,st_eq,some_ex,all_cons,all_nil',ocI,ocB,ocS,ocP,not_false_eq_true,eq_self,Bool.not_true,Bool.not_false,ldnV_p, z20, z21, z2e, g1, g2, g3, Int.toNat_zero, Int.toNat_one, Nat.zero_mul, Nat.one_mul, cell_old, *] | ((with_reducible refine rows_intro (fun _ hb => ?_)); try simp only [set_none, ne_eq] at hb) | ((with_reducible refine new_intro (fun _ hb => ?_)); try simp only [set_none, ne_eq] at hb) | (with_reducible refine draw_same ?_) | ((with_reducible refine gd_split ?_ (fun _ => ?_) (fun _ => ?_)); exact rfl) | ((with_reducible refine td_split ?_ (fun _ => ?_) (fun _ => ?_)); exact rfl) | (with_reducible refine c_split (fun _ => ?_) (fun _ => ?_)) | (with_reducible refine opValidS_ok _ _ _ _ ?_) | (with_reducible refine l6In_ok _ _ _ _ _ _ ?_) | (with_reducible refine ih x a' c' _ _ (by omega) (hx.le ((AHeap.le.refl H).fresh ‹_› _)) ?_) | (with_reducible refine ih y b' d' _ _ (by omega) (hy.le ((AHeap.le.refl H).fresh ‹_› _)) ?_))
      all_goals refine ⟨H, (by simp -implicitDefEqProofs only [le_set_true, le_refl_true, eq_self, *]), kb h ?_⟩
      all_goals clear h hv hR hc hx hy ih
      all_goals (try simp only [beq_iff_eq, beq_eq_false_iff_ne, bne_iff_ne, bne_eq_false_iff_eq, decide_eq_true_eq, decide_eq_false_iff_not, ne_eq, Bool.not_eq_true, Bool.not_eq_false, Bool.not_eq_eq_eq_not, Bool.not_true, Bool.not_false, Int.not_lt, Int.not_le, ge_iff_le, gt_iff_lt] at *)
      all_goals grind
    · have g3 : (((args.length : Nat) : Int) == 2) = false := by simp; omega
      rw [ok_more h2] at h
      refine acalls_of_sx mix Try.func65 of65 (by simp [ir65]) ?_; rw [ir65]
      repeat' (first | simp -implicitDefEqProofs only [zA1,zA2,zA3,zA4,zA5,zA6,zA7,zA8,zA9,zA10,zA11,zA12,zA13,zA14,zA15,zA16,zA17,zA18,zA19,zA20,zA21,zA22,zA23,zA24,zA25,zA26,zA27,zA28,zA29,zA30,zA31,zA32,zA33,zA34,zA35,zB1,zB2,zB3,zB4,zB5,zB6,zB7,zB8,zB9,zB10,zB11,zB12,zB13,zB14,zB15,zB16,zB17,zB18,zB19,zB20,zB21,zB22,zB23,zB24,zB25,zB26,zB27,zB28,zB29,zB30,zB31,zB32,zB33,zB34,zC1,zC2,zC3,zC4,zC5,zC6,zC7,zC8,zC9,zC10,zC11,zC12,zC13,zC14,zC15,zC16,zC17,zC18,zC19,zC20,zC21,zC22,zC23,zC24,zC25,zC26,zC27,zC28,zC29,zC30,zC31,zC32,zC33,zC34,zC35,zC36,zC37,le_refl_true,true_and,and_true,needs_some,needs_map,put_at,fr0_zero,fr0_succ,fr0_nil,resV,rval,X.val,binv,adr_adr,adr_zero,adr_lit,adr_some,cell_same,rdn_F,rdnF_zero,rdnF_succ,v_cells,v_size,List.getElem?_cons_succ,List.getElem?_cons_zero,Option.isSome_some,Option.bind_some,Option.map_some,fillL,setR,List.set_cons_zero,List.set_cons_succ,vcI,vcB,vcS,vcP,vcF,vcA,vcU,List.toList_toArray,and_self,List.length_cons,List.length_nil,List.size_toArray,List.map_cons,List.map_nil,List.nil_append,List.append_nil,List.cons_append,Int.toNat_natCast,↓reduceIte,Nat.reduceEqDiff,Nat.reduceAdd,Nat.reduceMul,Nat.reduceLeDiff,Nat.reduceLT,Nat.reduceSub,Nat.zero_add,reduceCtorEq,bne_self_eq_false,false_bne',true_bne',cell_ne,cell_ne',set_same,set_ne,set_ne',set_set,st_eq,some_ex,all_cons,all_nil',ocI,ocB,ocS,ocP,not_false_eq_true,eq_self,Bool.not_true,Bool.not_false,ldnV_p, g2, g3] | ((with_reducible refine rows_intro (fun _ hb => ?_)); try simp only [set_none, ne_eq] at hb) | ((with_reducible refine new_intro (fun _ hb => ?_)); try simp only [set_none, ne_eq] at hb) | (with_reducible refine draw_same ?_) | ((with_reducible refine gd_split ?_ (fun _ => ?_) (fun _ => ?_)); exact rfl) | ((with_reducible refine td_split ?_ (fun _ => ?_) (fun _ => ?_)); exact rfl) | (with_reducible refine c_split (fun _ => ?_) (fun _ => ?_)) | (with_reducible refine opValidS_ok _ _ _ _ ?_) | (with_reducible refine l6In_ok _ _ _ _ _ _ ?_))
      all_goals refine ⟨H, (by simp -implicitDefEqProofs only [le_set_true, le_refl_true, eq_self, *]), kb h ?_⟩
      all_goals clear h hv hR ih
      all_goals (try simp only [beq_iff_eq, beq_eq_false_iff_ne, bne_iff_ne, bne_eq_false_iff_eq, decide_eq_true_eq, decide_eq_false_iff_not, ne_eq, Bool.not_eq_true, Bool.not_eq_false, Bool.not_eq_eq_eq_not, Bool.not_true, Bool.not_false, Int.not_lt, Int.not_le, ge_iff_le, gt_iff_lt] at *)
      all_goals grind
theorem exprValid5S_ok' (e : Ex) (a : Option Addr) (c : Nat) (hv : ExV H e [.int .i64 e.op, .int .i64 e.n, .slice a e.args.length c]) (h : K (.bool (exprOk 5 e)) H) :
    ACalls Try.prog w0 65 [.agg #[.int .i64 e.op, .int .i64 e.n, .slice a e.args.length c], .int .i64 5] H K := l4Ok_ok w0 5 e a c H K (by decide) hv h
theorem exprValid5S_ok (e : Ex) (a : Option Addr) (c : Nat) (hv : ExV H e [.int .i64 e.op, .int .i64 e.n, .slice a e.args.length c]) (h : K (.bool (exprOk 5 e)) H) :
    ACalls Try.prog w0 50 [.agg #[.int .i64 e.op, .int .i64 e.n, .slice a e.args.length c]] H K := by
  refine acalls_of_sx mix Try.func50 of50 (by simp [ir50]) ?_; rw [ir50]
  repeat' (first | simp -implicitDefEqProofs only [zA1,zA2,zA3,zA4,zA5,zA6,zA7,zA8,zA9,zA10,zA11,zA12,zA13,zA14,zA15,zA16,zA17,zA18,zA19,zA20,zA21,zA22,zA23,zA24,zA25,zA26,zA27,zA28,zA29,zA30,zA31,zA32,zA33,zA34,zA35,zB1,zB2,zB3,zB4,zB5,zB6,zB7,zB8,zB9,zB10,zB11,zB12,zB13,zB14,zB15,zB16,zB17,zB18,zB19,zB20,zB21,zB22,zB23,zB24,zB25,zB26,zB27,zB28,zB29,zB30,zB31,zB32,zB33,zB34,zC1,zC2,zC3,zC4,zC5,zC6,zC7,zC8,zC9,zC10,zC11,zC12,zC13,zC14,zC15,zC16,zC17,zC18,zC19,zC20,zC21,zC22,zC23,zC24,zC25,zC26,zC27,zC28,zC29,zC30,zC31,zC32,zC33,zC34,zC35,zC36,zC37,le_refl_true,true_and,and_true,needs_some,needs_map,put_at,fr0_zero,fr0_succ,fr0_nil,resV,rval,X.val,binv,adr_adr,adr_zero,adr_lit,adr_some,cell_same,rdn_F,rdnF_zero,rdnF_succ,v_cells,v_size,List.getElem?_cons_succ,List.getElem?_cons_zero,Option.isSome_some,Option.bind_some,Option.map_some,fillL,setR,List.set_cons_zero,List.set_cons_succ,vcI,vcB,vcS,vcP,vcF,vcA,vcU,List.toList_toArray,and_self,List.length_cons,List.length_nil,List.size_toArray,List.map_cons,List.map_nil,List.nil_append,List.append_nil,List.cons_append,Int.toNat_natCast,↓reduceIte,Nat.reduceEqDiff,Nat.reduceAdd,Nat.reduceMul,Nat.reduceLeDiff,Nat.reduceLT,Nat.reduceSub,Nat.zero_add,reduceCtorEq,bne_self_eq_false,false_bne',true_bne',cell_ne,cell_ne',set_same,set_ne,set_ne',set_set,st_eq,some_ex,all_cons,all_nil',ocI,ocB,ocS,ocP,not_false_eq_true,eq_self,Bool.not_true,Bool.not_false,ldnV_p, *] | ((with_reducible refine rows_intro (fun _ hb => ?_)); try simp only [set_none, ne_eq] at hb) | ((with_reducible refine new_intro (fun _ hb => ?_)); try simp only [set_none, ne_eq] at hb) | (with_reducible refine draw_same ?_) | ((with_reducible refine gd_split ?_ (fun _ => ?_) (fun _ => ?_)); exact rfl) | ((with_reducible refine td_split ?_ (fun _ => ?_) (fun _ => ?_)); exact rfl) | (with_reducible refine c_split (fun _ => ?_) (fun _ => ?_)) | (with_reducible refine exprValid5S_ok' _ _ _ e a c (hv.le ((AHeap.le.refl H).fresh ‹_› _)) ?_))
  exact ⟨H, (by simp -implicitDefEqProofs only [le_set_true, le_refl_true, eq_self, *]), h⟩
theorem ok_args {d : Nat} {op n : Int} {args : List Ex} (h : exprOk (d + 1) (.mk op n args) = true) : (args = [] ∧ (op = 0 ∨ op = 13)) ∨ ∃ x y, args = [x, y] ∧ exprOk d x = true ∧ exprOk d y = true ∧ 1 ≤ op ∧ op ≤ 12 := by
  simp only [exprOk] at h
  split at h
  · simp at h; exact .inl ⟨h.2, .inl ‹_›⟩
  · split at h
    · simp at h; exact .inl ⟨h.2, .inr ‹_›⟩
    · simp only [Bool.and_eq_true, decide_eq_true_eq] at h
      obtain ⟨⟨⟨h1, h2⟩, _⟩, h3⟩ := h
      split at h3
      · simp only [Bool.and_eq_true] at h3
        exact .inr ⟨_, _, rfl, h3.1, h3.2, h1, h2⟩
      · cases h3
theorem depth_le {d : Nat} : ∀ {e : Ex}, exprOk d e = true → e.depth ≤ d := by
  induction d with
  | zero => intro e h; rw [ok_zero] at h; cases h
  | succ d ih =>
    intro ⟨op, n, args⟩ h
    rcases ok_args h with ⟨rfl, _⟩ | ⟨x, y, rfl, hx, hy, _⟩
    · simp [Ex.depth, Ex.depth.depthL]
    · have := ih hx
      have := ih hy
      simp only [Ex.depth, Ex.depth.depthL]
      omega
theorem max_int (a b : Nat) : (if (b : Int) > (a : Int) then (b : Int) else (a : Int)) = ((max a b : Nat) : Int) := by split <;> omega
theorem l4Depth_ok (d : Nat) : ∀ (e : Ex) (a : Option Addr) (c : Nat) (H : AHeap) (K : Value → AHeap → Prop), d ≤ 1000 → exprOk d e = true → ExV H e [.int .i64 e.op, .int .i64 e.n, .slice a e.args.length c] → K (.int .i64 e.depth) H →
    ACalls Try.prog w0 51 [.agg #[.int .i64 e.op, .int .i64 e.n, .slice a e.args.length c]] H K := by
  induction d with
  | zero => intro e a c H K hd ho; rw [ok_zero] at ho; cases ho
  | succ d ih =>
    intro ⟨op, n, args⟩ a c H K hd ho hv h
    obtain ⟨_, _, he, hm, hR⟩ := hv.open_
    simp only [List.cons.injEq, and_true, Value.slice.injEq, true_and] at he
    obtain ⟨rfl, rfl⟩ := he
    simp only [Ex.op, Ex.n, Ex.args] at hR hm hv ⊢
    rcases ok_args ho with ⟨rfl, _⟩ | ⟨x, y, rfl, hox, hoy, _⟩
    · have g3 : (((0 : Nat) : Int) == 0) = true := by decide
      refine acalls_of_sx mix Try.func51 of51 (by simp [ir51]) ?_; rw [ir51]
      repeat' (first | simp -implicitDefEqProofs only [zA1,zA2,zA3,zA4,zA5,zA6,zA7,zA8,zA9,zA10,zA11,zA12,zA13,zA14,zA15,zA16,zA17,zA18,zA19,zA20,zA21,zA22,zA23,zA24,zA25,zA26,zA27,zA28,zA29,zA30,zA31,zA32,zA33,zA34,zA35,zB1,zB2,zB3,zB4,zB5,zB6,zB7,zB8,zB9,zB10,zB11,zB12,zB13,zB14,zB15,zB16,zB17,zB18,zB19,zB20,zB21,zB22,zB23,zB24,zB25,zB26,zB27,zB28,zB29,zB30,zB31,zB32,zB33,zB34,zC1,zC2,zC3,zC4,zC5,zC6,zC7,zC8,zC9,zC10,zC11,zC12,zC13,zC14,zC15,zC16,zC17,zC18,zC19,zC20,zC21,zC22,zC23,zC24,zC25,zC26,zC27,zC28,zC29,zC30,zC31,zC32,zC33,zC34,zC35,zC36,zC37,le_refl_true,true_and,and_true,needs_some,needs_map,put_at,fr0_zero,fr0_succ,fr0_nil,resV,rval,X.val,binv,adr_adr,adr_zero,adr_lit,adr_some,cell_same,rdn_F,rdnF_zero,rdnF_succ,v_cells,v_size,List.getElem?_cons_succ,List.getElem?_cons_zero,Option.isSome_some,Option.bind_some,Option.map_some,fillL,setR,List.set_cons_zero,List.set_cons_succ,vcI,vcB,vcS,vcP,vcF,vcA,vcU,List.toList_toArray,and_self,List.length_cons,List.length_nil,List.size_toArray,List.map_cons,List.map_nil,List.nil_append,List.append_nil,List.cons_append,Int.toNat_natCast,↓reduceIte,Nat.reduceEqDiff,Nat.reduceAdd,Nat.reduceMul,Nat.reduceLeDiff,Nat.reduceLT,Nat.reduceSub,Nat.zero_add,reduceCtorEq,bne_self_eq_false,false_bne',true_bne',cell_ne,cell_ne',set_same,set_ne,set_ne',set_set,st_eq,some_ex,all_cons,all_nil',ocI,ocB,ocS,ocP,not_false_eq_true,eq_self,Bool.not_true,Bool.not_false,ldnV_p, g3] | ((with_reducible refine rows_intro (fun _ hb => ?_)); try simp only [set_none, ne_eq] at hb) | ((with_reducible refine new_intro (fun _ hb => ?_)); try simp only [set_none, ne_eq] at hb) | (with_reducible refine draw_same ?_) | ((with_reducible refine gd_split ?_ (fun _ => ?_) (fun _ => ?_)); exact rfl) | ((with_reducible refine td_split ?_ (fun _ => ?_) (fun _ => ?_)); exact rfl) | (with_reducible refine c_split (fun _ => ?_) (fun _ => ?_)))
      exact ⟨H, (by simp -implicitDefEqProofs only [le_set_true, le_refl_true, eq_self, *]), by simpa [Ex.depth, Ex.depth.depthL] using h⟩
    · have g3 : (((2 : Nat) : Int) == 0) = false := by decide
      obtain ⟨a', c', b', d', hc, hx, hy⟩ := hR.two
      have l1 := depth_le hox
      have l2 := depth_le hoy
      have g4 : IntKind.i64.wrap (1 + ((max x.depth y.depth : Nat) : Int)) = ((1 + max x.depth y.depth : Nat) : Int) := by rw [wrap_i64 (by omega) (by omega)]; omega
      refine acalls_of_sx mix Try.func51 of51 (by simp [ir51]) ?_; rw [ir51]
      repeat' (first | simp -implicitDefEqProofs only [zA1,zA2,zA3,zA4,zA5,zA6,zA7,zA8,zA9,zA10,zA11,zA12,zA13,zA14,zA15,zA16,zA17,zA18,zA19,zA20,zA21,zA22,zA23,zA24,zA25,zA26,zA27,zA28,zA29,zA30,zA31,zA32,zA33,zA34,zA35,zB1,zB2,zB3,zB4,zB5,zB6,zB7,zB8,zB9,zB10,zB11,zB12,zB13,zB14,zB15,zB16,zB17,zB18,zB19,zB20,zB21,zB22,zB23,zB24,zB25,zB26,zB27,zB28,zB29,zB30,zB31,zB32,zB33,zB34,zC1,zC2,zC3,zC4,zC5,zC6,zC7,zC8,zC9,zC10,zC11,zC12,zC13,zC14,zC15,zC16,zC17,zC18,zC19,zC20,zC21,zC22,zC23,zC24,zC25,zC26,zC27,zC28,zC29,zC30,zC31,zC32,zC33,zC34,zC35,zC36,zC37,le_refl_true,true_and,and_true,needs_some,needs_map,put_at,fr0_zero,fr0_succ,fr0_nil,resV,rval,X.val,binv,adr_adr,adr_zero,adr_lit,adr_some,cell_same,rdn_F,rdnF_zero,rdnF_succ,v_cells,v_size,List.getElem?_cons_succ,List.getElem?_cons_zero,Option.isSome_some,Option.bind_some,Option.map_some,fillL,setR,List.set_cons_zero,List.set_cons_succ,vcI,vcB,vcS,vcP,vcF,vcA,vcU,List.toList_toArray,and_self,List.length_cons,List.length_nil,List.size_toArray,List.map_cons,List.map_nil,List.nil_append,List.append_nil,List.cons_append,Int.toNat_natCast,↓reduceIte,Nat.reduceEqDiff,Nat.reduceAdd,Nat.reduceMul,Nat.reduceLeDiff,Nat.reduceLT,Nat.reduceSub,Nat.zero_add,reduceCtorEq,bne_self_eq_false,false_bne',true_bne',cell_ne,cell_ne',set_same,set_ne,set_ne',set_set,st_eq,some_ex,all_cons,all_nil',ocI,ocB,ocS,ocP,not_false_eq_true,eq_self,Bool.not_true,Bool.not_false,ldnV_p, z20, z21, g3, g4, max_int, Int.toNat_zero, Int.toNat_one, Nat.zero_mul, Nat.one_mul, cell_old, *] | ((with_reducible refine rows_intro (fun _ hb => ?_)); try simp only [set_none, ne_eq] at hb) | ((with_reducible refine new_intro (fun _ hb => ?_)); try simp only [set_none, ne_eq] at hb) | (with_reducible refine draw_same ?_) | ((with_reducible refine gd_split ?_ (fun _ => ?_) (fun _ => ?_)); exact rfl) | ((with_reducible refine td_split ?_ (fun _ => ?_) (fun _ => ?_)); exact rfl) | (with_reducible refine c_split (fun _ => ?_) (fun _ => ?_)) | (with_reducible refine ih x a' c' _ _ (by omega) hox (hx.le ((AHeap.le.refl H).fresh ‹_› _)) ?_) | (with_reducible refine ih y b' d' _ _ (by omega) hoy (hy.le ((AHeap.le.refl H).fresh ‹_› _)) ?_))
      refine ⟨H, (by simp -implicitDefEqProofs only [le_set_true, le_refl_true, eq_self, *]), ki h ?_⟩
      simp only [Ex.depth, Ex.depth.depthL]
      omega
theorem depthL_take {args : List Ex} : ∀ {k : Nat} (h : k < args.length), Ex.depth.depthL (args.take (k + 1)) = max (Ex.depth.depthL (args.take k)) args[k].depth := by
  induction args with
  | nil => intro k h; cases h
  | cons e es ih =>
    intro k h
    cases k with
    | zero => simp [Ex.depth.depthL]
    | succ k =>
      have := ih (k := k) (by simpa using h)
      simp only [List.take_succ_cons, Ex.depth.depthL, List.getElem_cons_succ, this]
      omega
theorem exprDepth_ok (d : Nat) : ∀ (e : Ex) (a : Option Addr) (c : Nat) (H : AHeap) (K : Value → AHeap → Prop), d ≤ 1000 → exprOk d e = true → ExV H e [.int .i64 e.op, .int .i64 e.n, .slice a e.args.length c] → K (.int .i64 e.depth) H →
    ACalls Try.prog w0 55 [.agg #[.int .i64 e.op, .int .i64 e.n, .slice a e.args.length c]] H K := by
  induction d with
  | zero => intro e a c H K hd ho; rw [ok_zero] at ho; cases ho
  | succ d ih =>
    intro ⟨op, n, args⟩ a c H K hd ho hv h
    obtain ⟨_, _, he, hm, hR⟩ := hv.open_
    simp only [List.cons.injEq, and_true, Value.slice.injEq, true_and] at he
    obtain ⟨rfl, rfl⟩ := he
    simp only [Ex.op, Ex.n, Ex.args] at hR hm hv ⊢
    have hall : ∀ k (hk : k < args.length), exprOk d args[k] = true := by
      rcases ok_args ho with ⟨rfl, _⟩ | ⟨x, y, rfl, hox, hoy, _⟩
      · intro k hk; cases hk
      · intro k hk
        match k, hk with
        | 0, _ => exact hox
        | 1, _ => exact hoy
    have hlen : args.length ≤ 2 := by
      rcases ok_args ho with ⟨rfl, _⟩ | ⟨x, y, rfl, hox, hoy, _⟩ <;> simp
    have hdl : ∀ k, k ≤ args.length → Ex.depth.depthL (args.take k) ≤ d := by
      intro k
      induction k with
      | zero => intro _; simp [Ex.depth.depthL]
      | succ k ihk =>
        intro hk
        have := ihk (by omega)
        have := depth_le (hall k (by omega))
        rw [depthL_take (by omega)]
        omega
    refine acalls_of_sx mix Try.func55 of55 (by simp [ir55]) ?_; rw [ir55]
    repeat' (first | simp -implicitDefEqProofs only [zA1,zA2,zA3,zA4,zA5,zA6,zA7,zA8,zA9,zA10,zA11,zA12,zA13,zA14,zA15,zA16,zA17,zA18,zA19,zA20,zA21,zA22,zA23,zA24,zA25,zA26,zA27,zA28,zA29,zA30,zA31,zA32,zA33,zA34,zA35,zB1,zB2,zB3,zB4,zB5,zB6,zB7,zB8,zB9,zB10,zB11,zB12,zB13,zB14,zB15,zB16,zB17,zB18,zB19,zB20,zB21,zB22,zB23,zB24,zB25,zB26,zB27,zB28,zB29,zB30,zB31,zB32,zB33,zB34,zC1,zC2,zC3,zC4,zC5,zC6,zC7,zC8,zC9,zC10,zC11,zC12,zC13,zC14,zC15,zC16,zC17,zC18,zC19,zC20,zC21,zC22,zC23,zC24,zC25,zC26,zC27,zC28,zC29,zC30,zC31,zC32,zC33,zC34,zC35,zC36,zC37,le_refl_true,true_and,and_true,needs_some,needs_map,put_at,fr0_zero,fr0_succ,fr0_nil,resV,rval,X.val,binv,adr_adr,adr_zero,adr_lit,adr_some,cell_same,rdn_F,rdnF_zero,rdnF_succ,v_cells,v_size,List.getElem?_cons_succ,List.getElem?_cons_zero,Option.isSome_some,Option.bind_some,Option.map_some,fillL,setR,List.set_cons_zero,List.set_cons_succ,vcI,vcB,vcS,vcP,vcF,vcA,vcU,List.toList_toArray,and_self,List.length_cons,List.length_nil,List.size_toArray,List.map_cons,List.map_nil,List.nil_append,List.append_nil,List.cons_append,Int.toNat_natCast,↓reduceIte,Nat.reduceEqDiff,Nat.reduceAdd,Nat.reduceMul,Nat.reduceLeDiff,Nat.reduceLT,Nat.reduceSub,Nat.zero_add,reduceCtorEq,bne_self_eq_false,false_bne',true_bne',cell_ne,cell_ne',set_same,set_ne,set_ne',set_set,st_eq,some_ex,all_cons,all_nil',ocI,ocB,ocS,ocP,not_false_eq_true,eq_self,Bool.not_true,Bool.not_false,ldnV_p] | ((with_reducible refine rows_intro (fun _ hb => ?_)); try simp only [set_none, ne_eq] at hb) | ((with_reducible refine new_intro (fun _ hb => ?_)); try simp only [set_none, ne_eq] at hb) | (with_reducible refine draw_same ?_) | ((with_reducible refine gd_split ?_ (fun _ => ?_) (fun _ => ?_)); exact rfl) | ((with_reducible refine td_split ?_ (fun _ => ?_) (fun _ => ?_)); exact rfl) | (with_reducible refine c_split (fun _ => ?_) (fun _ => ?_)))
    have hbx := hb
    have hR' := hR.le ((AHeap.le.refl H).fresh hbx ⟨[.int .i64 op, .int .i64 n, .slice a args.length c], true, 51, 3⟩)
    refine loop_rule (fun m fr H' => ∃ k : Nat, m = args.length - k ∧ k ≤ args.length ∧ H' = H.set _ _ ∧ fr 7 = .slice a args.length c ∧ fr 8 = .int .i64 args.length ∧ fr 9 = .int .i64 k ∧ fr 3 = .int .i64 (Ex.depth.depthL (args.take k) : Nat)) args.length
      ⟨0, rfl, Nat.zero_le _, rfl, rfl, rfl, rfl, by simp [Ex.depth.depthL, put_at]⟩ ?_
    rintro m fr _ ⟨k, rfl, hk, rfl, f0, f1, f2, f3⟩
    by_cases hlt : k < args.length
    · have g0 := lt_dec hlt
      have g1 := rng hlt
      have g2 := up1 hlt (by omega)
      obtain ⟨hA, a', c', hc, hx⟩ := hR'.arg hlt
      have g3 := hall k hlt
      have g4 := depthL_take hlt
      repeat' (first | simp -implicitDefEqProofs only [zA1,zA2,zA3,zA4,zA5,zA6,zA7,zA8,zA9,zA10,zA11,zA12,zA13,zA14,zA15,zA16,zA17,zA18,zA19,zA20,zA21,zA22,zA23,zA24,zA25,zA26,zA27,zA28,zA29,zA30,zA31,zA32,zA33,zA34,zA35,zB1,zB2,zB3,zB4,zB5,zB6,zB7,zB8,zB9,zB10,zB11,zB12,zB13,zB14,zB15,zB16,zB17,zB18,zB19,zB20,zB21,zB22,zB23,zB24,zB25,zB26,zB27,zB28,zB29,zB30,zB31,zB32,zB33,zB34,zC1,zC2,zC3,zC4,zC5,zC6,zC7,zC8,zC9,zC10,zC11,zC12,zC13,zC14,zC15,zC16,zC17,zC18,zC19,zC20,zC21,zC22,zC23,zC24,zC25,zC26,zC27,zC28,zC29,zC30,zC31,zC32,zC33,zC34,zC35,zC36,zC37,le_refl_true,true_and,and_true,needs_some,needs_map,put_at,fr0_zero,fr0_succ,fr0_nil,resV,rval,X.val,binv,adr_adr,adr_zero,adr_lit,adr_some,cell_same,rdn_F,rdnF_zero,rdnF_succ,v_cells,v_size,List.getElem?_cons_succ,List.getElem?_cons_zero,Option.isSome_some,Option.bind_some,Option.map_some,fillL,setR,List.set_cons_zero,List.set_cons_succ,vcI,vcB,vcS,vcP,vcF,vcA,vcU,List.toList_toArray,and_self,List.length_cons,List.length_nil,List.size_toArray,List.map_cons,List.map_nil,List.nil_append,List.append_nil,List.cons_append,Int.toNat_natCast,↓reduceIte,Nat.reduceEqDiff,Nat.reduceAdd,Nat.reduceMul,Nat.reduceLeDiff,Nat.reduceLT,Nat.reduceSub,Nat.zero_add,reduceCtorEq,bne_self_eq_false,false_bne',true_bne',cell_ne,cell_ne',set_same,set_ne,set_ne',set_set,st_eq,some_ex,all_cons,all_nil',ocI,ocB,ocS,ocP,not_false_eq_true,eq_self,Bool.not_true,Bool.not_false,ldnV_p, max_int, f0, f1, f2, f3, g0, g1, g2, hA, hc, cell_old] | ((with_reducible refine rows_intro (fun _ hb => ?_)); try simp only [set_none, ne_eq] at hb) | ((with_reducible refine new_intro (fun _ hb => ?_)); try simp only [set_none, ne_eq] at hb) | (with_reducible refine draw_same ?_) | ((with_reducible refine gd_split ?_ (fun _ => ?_) (fun _ => ?_)); exact rfl) | ((with_reducible refine td_split ?_ (fun _ => ?_) (fun _ => ?_)); exact rfl) | (with_reducible refine c_split (fun _ => ?_) (fun _ => ?_)) | (with_reducible refine ih args[k] a' c' _ _ (by omega) g3 (hx.le ((AHeap.le.refl _).fresh (set_none.2 hb) _)) ?_))
      refine ⟨_, _, ?_, (AHeap.le.refl _).fresh (set_none.2 hb) _, k + 1, rfl, by omega, rfl, by simp [put_at, f0], by simp [put_at, f1], by simp [put_at], by simp [put_at, g4]⟩
      omega
    · have g0 := ge_dec hlt
      obtain rfl : k = args.length := by omega
      have hd' := hdl args.length (Nat.le_refl _)
      rw [List.take_length] at hd' f3
      have g2 := up1 (k := Ex.depth.depthL args) (n := Ex.depth.depthL args + 1) (by omega) (by omega)
      repeat' (first | simp -implicitDefEqProofs only [zA1,zA2,zA3,zA4,zA5,zA6,zA7,zA8,zA9,zA10,zA11,zA12,zA13,zA14,zA15,zA16,zA17,zA18,zA19,zA20,zA21,zA22,zA23,zA24,zA25,zA26,zA27,zA28,zA29,zA30,zA31,zA32,zA33,zA34,zA35,zB1,zB2,zB3,zB4,zB5,zB6,zB7,zB8,zB9,zB10,zB11,zB12,zB13,zB14,zB15,zB16,zB17,zB18,zB19,zB20,zB21,zB22,zB23,zB24,zB25,zB26,zB27,zB28,zB29,zB30,zB31,zB32,zB33,zB34,zC1,zC2,zC3,zC4,zC5,zC6,zC7,zC8,zC9,zC10,zC11,zC12,zC13,zC14,zC15,zC16,zC17,zC18,zC19,zC20,zC21,zC22,zC23,zC24,zC25,zC26,zC27,zC28,zC29,zC30,zC31,zC32,zC33,zC34,zC35,zC36,zC37,le_refl_true,true_and,and_true,needs_some,needs_map,put_at,fr0_zero,fr0_succ,fr0_nil,resV,rval,X.val,binv,adr_adr,adr_zero,adr_lit,adr_some,cell_same,rdn_F,rdnF_zero,rdnF_succ,v_cells,v_size,List.getElem?_cons_succ,List.getElem?_cons_zero,Option.isSome_some,Option.bind_some,Option.map_some,fillL,setR,List.set_cons_zero,List.set_cons_succ,vcI,vcB,vcS,vcP,vcF,vcA,vcU,List.toList_toArray,and_self,List.length_cons,List.length_nil,List.size_toArray,List.map_cons,List.map_nil,List.nil_append,List.append_nil,List.cons_append,Int.toNat_natCast,↓reduceIte,Nat.reduceEqDiff,Nat.reduceAdd,Nat.reduceMul,Nat.reduceLeDiff,Nat.reduceLT,Nat.reduceSub,Nat.zero_add,reduceCtorEq,bne_self_eq_false,false_bne',true_bne',cell_ne,cell_ne',set_same,set_ne,set_ne',set_set,st_eq,some_ex,all_cons,all_nil',ocI,ocB,ocS,ocP,not_false_eq_true,eq_self,Bool.not_true,Bool.not_false,ldnV_p, f0, f1, f2, f3, g0, g2] | ((with_reducible refine rows_intro (fun _ hb => ?_)); try simp only [set_none, ne_eq] at hb) | ((with_reducible refine new_intro (fun _ hb => ?_)); try simp only [set_none, ne_eq] at hb) | (with_reducible refine draw_same ?_) | ((with_reducible refine gd_split ?_ (fun _ => ?_) (fun _ => ?_)); exact rfl) | ((with_reducible refine td_split ?_ (fun _ => ?_) (fun _ => ?_)); exact rfl) | (with_reducible refine c_split (fun _ => ?_) (fun _ => ?_)))
      exact ⟨H, (AHeap.le.refl H).fresh hbx _, by simpa [Ex.depth] using h⟩
end Go.Proofs.Ytoehlgcahiaoeaa
