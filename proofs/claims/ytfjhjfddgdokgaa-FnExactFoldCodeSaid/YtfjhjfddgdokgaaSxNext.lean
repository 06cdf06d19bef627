/- The contracts of nextOf, l31Next and CodeNext, both sides. -/
import Derived.Test.YtfjhjfddgdokgaaSxCodes
namespace Go.Proofs.Ytfjhjfddgdokgaa
set_option linter.all false
open Go Go.RowKit
set_option maxRecDepth 100000
variable (w0 : World) (H : AHeap) (K : Value → AHeap → Prop)
def nextL (q : Qd) (i : Int) : List Int := if q.op = 10 then [] else if q.op = 4 then [q.n] else if q.op = 5 ∧ q.n < i + 1 then [q.n, i + 1] else if q.op = 5 ∧ q.n > i + 1 then [i + 1, q.n] else [i + 1]
theorem nextL_le (q : Qd) (i : Int) : (nextL q i).length ≤ 2 := by
  simp only [nextL]
  repeat' split
  all_goals simp
theorem nextOf_ok (q : Qd) (i : Nat) (hi : i ≤ 1048576) (h : ∀ v H', Own H 3 1 v (nextL q i).length (ints (nextL q i)) H' → K v H') : ACalls Try.prog w0 170 [q.val, .int .i64 i] H K := by
  have e1 : IntKind.i64.wrap ((i : Int) + 1) = (i : Int) + 1 := wrap_i64 (by omega) (by omega)
  refine acalls_of_sx mix Try.func170 of170 (by simp [ir170]) ?_; rw [ir170]
  repeat' (first | simp -implicitDefEqProofs only [zA1,zA2,zA3,zA4,zA5,zA6,zA7,zA8,zA9,zA10,zA11,zA12,zA13,zA14,zA15,zA16,zA17,zA18,zA19,zA20,zA21,zA22,zA23,zA24,zA25,zA26,zA27,zA28,zA29,zA30,zA31,zA32,zA33,zA34,zA35,zA36,zB1,zB2,zB3,zB4,zB5,zB6,zB7,zB8,zB9,zB10,zB11,zB12,zB13,zB14,zB15,zB16,zB17,zB18,zB19,zB20,zB21,zB22,zB23,zB24,zB25,zB26,zB27,zB28,zB29,zB30,zB31,zB32,zB33,zB34,zC1,zC2,zC3,zC4,zC5,zC6,zC7,zC8,zC9,zC10,zC11,zC12,zC13,zC14,zC15,zC16,zC17,zC18,zC19,zC20,zC21,zC22,zC23,zC24,zC25,zC26,zC27,zC28,zC29,zC30,zC31,zC32,zC33,zC34,zC35,zC36,zC37,zC38,zC39,le_refl_true,true_and,and_true,needs_some,needs_map,put_at,fr0_zero,fr0_succ,fr0_nil,resV,rval,X.val,binv,adr_adr,adr_zero,adr_lit,adr_some,cell_same,rdn_F,rdnF_zero,rdnF_succ,v_cells,v_size,List.getElem?_cons_succ,List.getElem?_cons_zero,Option.isSome_some,Option.bind_some,Option.map_some,fillL,setR,List.set_cons_zero,List.set_cons_succ,vcI,vcB,vcS,vcP,vcF,vcA,vcU,List.toList_toArray,and_self,List.length_cons,List.length_nil,List.size_toArray,List.map_cons,List.map_nil,List.nil_append,List.append_nil,List.cons_append,Int.toNat_natCast,↓reduceIte,Nat.reduceEqDiff,Nat.reduceAdd,Nat.reduceMul,Nat.reduceLeDiff,Nat.reduceLT,Nat.reduceSub,Nat.zero_add,reduceCtorEq,bne_self_eq_false,false_bne',true_bne',cell_ne,cell_ne',set_same,set_ne,set_ne',set_set,st_eq,some_ex,all_cons,all_nil',ocI,ocB,ocS,ocP,not_false_eq_true,eq_self,Bool.not_true,Bool.not_false,ldnV_p, q_val, e1] | ((with_reducible refine rows_intro (fun _ hb => ?_)); try simp only [set_none, ne_eq] at hb) | ((with_reducible refine new_intro (fun _ hb => ?_)); try simp only [set_none, ne_eq] at hb) | (with_reducible refine draw_same ?_) | ((with_reducible refine gd_split ?_ (fun _ => ?_) (fun _ => ?_)); exact rfl) | ((with_reducible refine td_split ?_ (fun _ => ?_) (fun _ => ?_)); exact rfl) | (with_reducible refine c_split (fun _ => ?_) (fun _ => ?_)))
  all_goals (try simp only [beq_iff_eq, beq_eq_false_iff_ne, bne_iff_ne, bne_eq_false_iff_eq, decide_eq_true_eq, decide_eq_false_iff_not, ne_eq, Bool.not_eq_true, Bool.not_eq_false, Bool.not_eq_eq_eq_not, Bool.not_true, Bool.not_false, Int.not_lt, Int.not_le, ge_iff_le, gt_iff_lt] at *)
  all_goals first
    | (refine ret_own h ((AHeap.le.refl H).fresh ‹H _ = none› _) (by exact hb.2) ?_ ?_ ?_ ?_ ?_ ?_)
    | (refine ⟨H, (AHeap.le.refl H).fresh ‹H _ = none› _, h _ _ (.inl ⟨rfl, ?_, ?_, rfl⟩)⟩)
  all_goals (try simp only [maxLen])
  all_goals ((try simp only [nextL]); grind [ints])
theorem l31Next_ok (A : Option Addr) (c : Nat) (qs : List Qd) (i : Nat) (hx : Fl H A (qcells qs)) (hi : i < qs.length) (hn : i ≤ 1048576) (h : ∀ v H', Own H 3 1 v (nextL qs[i] i).length (ints (nextL qs[i] i)) H' → K v H') :
    ACalls Try.prog w0 165 [.slice A qs.length c, .int .i64 i] H K := by
  have e1 : IntKind.i64.wrap ((i : Int) + 1) = (i : Int) + 1 := wrap_i64 (by omega) (by omega)
  have g1 := rng hi
  have p0 := hx.quad hi
  refine acalls_of_sx mix Try.func165 of165 (by simp [ir165]) ?_; rw [ir165]
  repeat' (first | simp -implicitDefEqProofs only [zA1,zA2,zA3,zA4,zA5,zA6,zA7,zA8,zA9,zA10,zA11,zA12,zA13,zA14,zA15,zA16,zA17,zA18,zA19,zA20,zA21,zA22,zA23,zA24,zA25,zA26,zA27,zA28,zA29,zA30,zA31,zA32,zA33,zA34,zA35,zA36,zB1,zB2,zB3,zB4,zB5,zB6,zB7,zB8,zB9,zB10,zB11,zB12,zB13,zB14,zB15,zB16,zB17,zB18,zB19,zB20,zB21,zB22,zB23,zB24,zB25,zB26,zB27,zB28,zB29,zB30,zB31,zB32,zB33,zB34,zC1,zC2,zC3,zC4,zC5,zC6,zC7,zC8,zC9,zC10,zC11,zC12,zC13,zC14,zC15,zC16,zC17,zC18,zC19,zC20,zC21,zC22,zC23,zC24,zC25,zC26,zC27,zC28,zC29,zC30,zC31,zC32,zC33,zC34,zC35,zC36,zC37,zC38,zC39,le_refl_true,true_and,and_true,needs_some,needs_map,put_at,fr0_zero,fr0_succ,fr0_nil,resV,rval,X.val,binv,adr_adr,adr_zero,adr_lit,adr_some,cell_same,rdn_F,rdnF_zero,rdnF_succ,v_cells,v_size,List.getElem?_cons_succ,List.getElem?_cons_zero,Option.isSome_some,Option.bind_some,Option.map_some,fillL,setR,List.set_cons_zero,List.set_cons_succ,vcI,vcB,vcS,vcP,vcF,vcA,vcU,List.toList_toArray,and_self,List.length_cons,List.length_nil,List.size_toArray,List.map_cons,List.map_nil,List.nil_append,List.append_nil,List.cons_append,Int.toNat_natCast,↓reduceIte,Nat.reduceEqDiff,Nat.reduceAdd,Nat.reduceMul,Nat.reduceLeDiff,Nat.reduceLT,Nat.reduceSub,Nat.zero_add,reduceCtorEq,bne_self_eq_false,false_bne',true_bne',cell_ne,cell_ne',set_same,set_ne,set_ne',set_set,st_eq,some_ex,all_cons,all_nil',ocI,ocB,ocS,ocP,not_false_eq_true,eq_self,Bool.not_true,Bool.not_false,ldnV_p, e1, g1, p0, Nat.add_zero] | ((with_reducible refine rows_intro (fun _ hb => ?_)); try simp only [set_none, ne_eq] at hb) | ((with_reducible refine new_intro (fun _ hb => ?_)); try simp only [set_none, ne_eq] at hb) | (with_reducible refine draw_same ?_) | ((with_reducible refine gd_split ?_ (fun _ => ?_) (fun _ => ?_)); exact rfl) | ((with_reducible refine td_split ?_ (fun _ => ?_) (fun _ => ?_)); exact rfl) | (with_reducible refine c_split (fun _ => ?_) (fun _ => ?_)))
  all_goals (try simp only [beq_iff_eq, beq_eq_false_iff_ne, bne_iff_ne, bne_eq_false_iff_eq, decide_eq_true_eq, decide_eq_false_iff_not, ne_eq, Bool.not_eq_true, Bool.not_eq_false, Bool.not_eq_eq_eq_not, Bool.not_true, Bool.not_false, Int.not_lt, Int.not_le, ge_iff_le, gt_iff_lt] at *)
  all_goals (refine ret_own h ((AHeap.le.refl H).fresh ‹H _ = none› _) (by exact hb.2) ?_ ?_ ?_ ?_ ?_ ?_)
  all_goals (try simp only [maxLen])
  all_goals ((try simp only [nextL]); grind [ints])
def codeNext (qs : List Qd) (i : Int) : List Int := if codeValid qs && decide (0 ≤ i) && decide (i < qs.length) then ((qs[i.toNat]?).map (nextL · i)).getD [] else []
theorem next_bad {qs : List Qd} {i : Int} (h : ¬ (codeValid qs = true ∧ 0 ≤ i ∧ i < qs.length)) : codeNext qs i = [] := by
  simp only [codeNext]
  rw [if_neg (by simpa only [Bool.and_eq_true, decide_eq_true_eq, and_assoc] using h)]
theorem next_good {qs : List Qd} {k : Nat} (h : codeValid qs = true) (h2 : k < qs.length) : codeNext qs k = nextL qs[k] k := by simp [codeNext, h, h2]
theorem next_le (qs : List Qd) (i : Int) : (codeNext qs i).length ≤ 2 := by
  by_cases h : codeValid qs = true ∧ 0 ≤ i ∧ i < qs.length
  · obtain ⟨k, rfl⟩ : ∃ k : Nat, i = k := ⟨i.toNat, by omega⟩
    rw [next_good h.1 (by omega)]; exact nextL_le _ _
  · rw [next_bad h]; simp
end Go.Proofs.Ytfjhjfddgdokgaa
