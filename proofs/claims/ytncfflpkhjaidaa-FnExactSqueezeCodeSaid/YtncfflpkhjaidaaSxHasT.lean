/- The contract of hasTarget; a target that is set. -/
import Derived.Test.YtncfflpkhjaidaaSxOwn
import Derived.Test.YtncfflpkhjaidaaSxQuad
namespace Go.Proofs.Ytncfflpkhjaidaa
set_option linter.all false
open Go Go.RowKit
set_option maxRecDepth 100000
variable (w0 : World) (H : AHeap) (K : Value → AHeap → Prop)
theorem hasTarget_ok (q : Qd) (h : K (.bool (q.op == 4 || q.op == 5)) H) : ACalls Try.prog w0 71 [q.val] H K := by
  refine acalls_of_sx mix Try.func71 of71 (by simp [ir71]) ?_; rw [ir71]
  repeat' (first | simp -implicitDefEqProofs only [zA1,zA2,zA3,zA4,zA5,zA6,zA7,zA8,zA9,zA10,zA11,zA12,zA13,zA14,zA15,zA16,zA17,zA18,zA19,zA20,zA21,zA22,zA23,zA24,zA25,zA26,zA27,zA28,zA29,zA30,zA31,zA32,zA33,zA34,zA35,zA36,zB1,zB2,zB3,zB4,zB5,zB6,zB7,zB8,zB9,zB10,zB11,zB12,zB13,zB14,zB15,zB16,zB17,zB18,zB19,zB20,zB21,zB22,zB23,zB24,zB25,zB26,zB27,zB28,zB29,zB30,zB31,zB32,zB33,zB34,zC1,zC2,zC3,zC4,zC5,zC6,zC7,zC8,zC9,zC10,zC11,zC12,zC13,zC14,zC15,zC16,zC17,zC18,zC19,zC20,zC21,zC22,zC23,zC24,zC25,zC26,zC27,zC28,zC29,zC30,zC31,zC32,zC33,zC34,zC35,zC36,zC37,zC38,le_refl_true,true_and,and_true,needs_some,needs_map,put_at,fr0_zero,fr0_succ,fr0_nil,resV,rval,X.val,binv,adr_adr,adr_zero,adr_lit,adr_some,cell_same,rdn_F,rdnF_zero,rdnF_succ,v_cells,v_size,List.getElem?_cons_succ,List.getElem?_cons_zero,Option.isSome_some,Option.bind_some,Option.map_some,fillL,setR,List.set_cons_zero,List.set_cons_succ,vcI,vcB,vcS,vcP,vcF,vcA,vcU,List.toList_toArray,and_self,List.length_cons,List.length_nil,List.size_toArray,List.map_cons,List.map_nil,List.nil_append,List.append_nil,List.cons_append,Int.toNat_natCast,↓reduceIte,Nat.reduceEqDiff,Nat.reduceAdd,Nat.reduceMul,Nat.reduceLeDiff,Nat.reduceLT,Nat.reduceSub,Nat.zero_add,reduceCtorEq,bne_self_eq_false,false_bne',true_bne',cell_ne,cell_ne',set_same,set_ne,set_ne',set_set,st_eq,some_ex,all_cons,all_nil',ocI,ocB,ocS,ocP,not_false_eq_true,eq_self,Bool.not_true,Bool.not_false,ldnV_p, q_val] | ((with_reducible refine rows_intro (fun _ hb => ?_)); try simp only [set_none, ne_eq] at hb) | ((with_reducible refine new_intro (fun _ hb => ?_)); try simp only [set_none, ne_eq] at hb) | (with_reducible refine draw_same ?_) | ((with_reducible refine gd_split ?_ (fun _ => ?_) (fun _ => ?_)); exact rfl) | ((with_reducible refine td_split ?_ (fun _ => ?_) (fun _ => ?_)); exact rfl) | (with_reducible refine c_split (fun _ => ?_) (fun _ => ?_)))
  all_goals (refine ⟨H, (AHeap.le.refl H).fresh ‹_› _, kb h ?_⟩)
  all_goals (try simp only [beq_iff_eq, beq_eq_false_iff_ne, bne_iff_ne, bne_eq_false_iff_eq, decide_eq_true_eq, decide_eq_false_iff_not, ne_eq, Bool.not_eq_true, Bool.not_eq_false, Bool.not_eq_eq_eq_not, Bool.not_true, Bool.not_false, Int.not_lt, Int.not_le, ge_iff_le, gt_iff_lt] at *)
  all_goals grind
theorem zero_in {q : Qd} {m : Int} (h : quadValid q m = true) (ho : q.op = 4 ∨ q.op = 5) : 0 ≤ q.n ∧ q.n < m := by
  rcases ho with ho | ho <;> simp only [quadValid, ho] at h <;> simp at h <;> omega
theorem set_n {l : List Qd} {k : Nat} (hk : k < l.length) (x : Int) : (qcells l).set (k * 5 + 4) (.int .i64 x) = qcells (l.set k ⟨l[k].op, l[k].dst, l[k].a, l[k].b, x⟩) := by
  apply List.ext_getElem?
  intro j
  by_cases hj : j < l.length * 5
  · have hj1 : j / 5 < (l.set k ⟨l[k].op, l[k].dst, l[k].a, l[k].b, x⟩).length := by rw [List.length_set]; omega
    have e1 := qcells_at hj1 (j % 5) (by omega)
    rw [show j / 5 * 5 + j % 5 = j by omega] at e1
    rw [e1, List.getElem?_set]
    have hj2 : j / 5 < l.length := by omega
    have e2 := qcells_at hj2 (j % 5) (by omega)
    rw [show j / 5 * 5 + j % 5 = j by omega] at e2
    by_cases hjk : j / 5 = k
    · subst hjk
      rw [List.getElem_set_self]
      have h5 : j % 5 < 5 := by omega
      by_cases h4 : j % 5 = 4
      · rw [if_pos (by omega), if_pos (by rw [qcells_len]; omega), h4]; rfl
      · rw [if_neg (by omega), e2]
        generalize j % 5 = r at h4 h5
        match r, h5 with
        | 0, _ | 1, _ | 2, _ | 3, _ => rfl
        | 4, _ => exact absurd rfl h4
    · rw [List.getElem_set_ne (fun e => hjk e.symm), if_neg (by omega), e2]
  · rw [List.getElem?_eq_none (by rw [List.length_set, qcells_len]; omega), List.getElem?_eq_none (by rw [qcells_len, List.length_set]; omega)]
end Go.Proofs.Ytncfflpkhjaidaa
