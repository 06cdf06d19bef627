/- The contracts of usesOf, of the register sets and of QuadUses, both sides. -/
import Derived.Test.YtncfflpkhjaidaaSxQuad
import Derived.Test.YtncfflpkhjaidaaSxOwn
namespace Go.Proofs.Ytncfflpkhjaidaa
set_option linter.all false
open Go Go.RowKit
set_option maxRecDepth 100000
variable (w0 : World) (H : AHeap) (K : Value → AHeap → Prop)
def usesN (q : Qd) : Nat := if q.op = 2 ∨ q.op = 5 ∨ q.op = 6 ∨ q.op = 9 then 2 ^ q.a.toNat else if q.op = 3 then 2 ^ q.a.toNat ||| 2 ^ q.b.toNat else 0
def regs (n : Nat) : List Int := ((List.range 12).filter (n.testBit ·)).map (fun (i : Nat) => (i : Int))
def regsTo (n k : Nat) : List Int := ((List.range k).filter (n.testBit ·)).map (fun (i : Nat) => (i : Int))
theorem shl16 {r : Int} (h : 0 ≤ r ∧ r < 12) : IntKind.u16.wrap (1 * 2 ^ (Nat.min r.toNat 16)) = ((2 ^ r.toNat : Nat) : Int) := by
  rw [IntKind.wrap_u16]
  have h1 : Nat.min r.toNat 16 = r.toNat := Nat.min_eq_left (by omega)
  rw [h1]
  have h2 : r.toNat < 12 := by omega
  generalize r.toNat = k at h2
  match k, h2 with
  | 0, _ | 1, _ | 2, _ | 3, _ | 4, _ | 5, _ | 6, _ | 7, _ | 8, _ | 9, _ | 10, _ | 11, _ => rfl
theorem pow12 {r : Int} (h : 0 ≤ r ∧ r < 12) : 2 ^ r.toNat < 4096 := by
  have h2 : r.toNat < 12 := by omega
  exact Nat.pow_lt_pow_right (by omega) (show r.toNat < 12 from h2)
theorem usesOf_ok (q : Qd) (ha : 0 ≤ q.a ∧ q.a < 12) (hb : 0 ≤ q.b ∧ q.b < 12) (h : K (.int .u16 (usesN q)) H) : ACalls Try.prog w0 89 [q.val] H K := by
  have e1 := shl16 ha
  have e2 := shl16 hb
  have e3 := u16_or_nat (2 ^ q.a.toNat) (2 ^ q.b.toNat) (by have := pow12 ha; omega) (by have := pow12 hb; omega)
  have e4 : ¬ q.a < 0 := by omega
  have e5 : ¬ q.b < 0 := by omega
  refine acalls_of_sx mix Try.func89 of89 (by simp [ir89]) ?_; rw [ir89]
  repeat' (first | simp -implicitDefEqProofs only [zA1,zA2,zA3,zA4,zA5,zA6,zA7,zA8,zA9,zA10,zA11,zA12,zA13,zA14,zA15,zA16,zA17,zA18,zA19,zA20,zA21,zA22,zA23,zA24,zA25,zA26,zA27,zA28,zA29,zA30,zA31,zA32,zA33,zA34,zA35,zA36,zB1,zB2,zB3,zB4,zB5,zB6,zB7,zB8,zB9,zB10,zB11,zB12,zB13,zB14,zB15,zB16,zB17,zB18,zB19,zB20,zB21,zB22,zB23,zB24,zB25,zB26,zB27,zB28,zB29,zB30,zB31,zB32,zB33,zB34,zC1,zC2,zC3,zC4,zC5,zC6,zC7,zC8,zC9,zC10,zC11,zC12,zC13,zC14,zC15,zC16,zC17,zC18,zC19,zC20,zC21,zC22,zC23,zC24,zC25,zC26,zC27,zC28,zC29,zC30,zC31,zC32,zC33,zC34,zC35,zC36,zC37,zC38,le_refl_true,true_and,and_true,needs_some,needs_map,put_at,fr0_zero,fr0_succ,fr0_nil,resV,rval,X.val,binv,adr_adr,adr_zero,adr_lit,adr_some,cell_same,rdn_F,rdnF_zero,rdnF_succ,v_cells,v_size,List.getElem?_cons_succ,List.getElem?_cons_zero,Option.isSome_some,Option.bind_some,Option.map_some,fillL,setR,List.set_cons_zero,List.set_cons_succ,vcI,vcB,vcS,vcP,vcF,vcA,vcU,List.toList_toArray,and_self,List.length_cons,List.length_nil,List.size_toArray,List.map_cons,List.map_nil,List.nil_append,List.append_nil,List.cons_append,Int.toNat_natCast,↓reduceIte,Nat.reduceEqDiff,Nat.reduceAdd,Nat.reduceMul,Nat.reduceLeDiff,Nat.reduceLT,Nat.reduceSub,Nat.zero_add,reduceCtorEq,bne_self_eq_false,false_bne',true_bne',cell_ne,cell_ne',set_same,set_ne,set_ne',set_set,st_eq,some_ex,all_cons,all_nil',ocI,ocB,ocS,ocP,not_false_eq_true,eq_self,Bool.not_true,Bool.not_false,ldnV_p, q_val, IntKind.bits, e1, e2, e3, e4, e5] | ((with_reducible refine rows_intro (fun _ hb => ?_)); try simp only [set_none, ne_eq] at hb) | ((with_reducible refine new_intro (fun _ hb => ?_)); try simp only [set_none, ne_eq] at hb) | (with_reducible refine draw_same ?_) | ((with_reducible refine gd_split ?_ (fun _ => ?_) (fun _ => ?_)); exact rfl) | ((with_reducible refine td_split ?_ (fun _ => ?_) (fun _ => ?_)); exact rfl) | (with_reducible refine c_split (fun _ => ?_) (fun _ => ?_)))
  all_goals (refine ⟨H, (AHeap.le.refl H).fresh ‹_› _, ki h ?_⟩)
  all_goals (try simp only [beq_iff_eq, beq_eq_false_iff_ne, bne_iff_ne, bne_eq_false_iff_eq, decide_eq_true_eq, decide_eq_false_iff_not, ne_eq, Bool.not_eq_true, Bool.not_eq_false, Bool.not_eq_eq_eq_not, Bool.not_true, Bool.not_false, Int.not_lt, Int.not_le, ge_iff_le, gt_iff_lt] at *)
  all_goals (simp only [usesN]; grind)
theorem has_ok (n r : Nat) (hn : n < 65536) (hr : r < 12) (h : K (.bool (n.testBit r)) H) : ACalls Try.prog w0 96 [.int .u16 n, .int .i64 r] H K := by
  have e1 : ¬ ((r : Int) < 0) := by omega
  have e2 : ((n : Int).fdiv (2 ^ (Nat.min (r : Int).toNat 16))) = ((n >>> r : Nat) : Int) := by
    have h1 : Nat.min (r : Int).toNat 16 = r := Nat.min_eq_left (by omega)
    rw [h1, Nat.shiftRight_eq_div_pow]
    have : (2 ^ r : Int) = ((2 ^ r : Nat) : Int) := by simp
    rw [this, Int.fdiv_eq_ediv_of_nonneg _ (Int.natCast_nonneg _)]; rfl
  have e3 : bits .and .u16 ((n >>> r : Nat) : Int) 1 = ((n >>> r &&& 1 : Nat) : Int) := u16_and_nat (n >>> r) 1 (by
    rw [Nat.shiftRight_eq_div_pow]; exact Nat.lt_of_le_of_lt (Nat.div_le_self _ _) hn) (by omega)
  have e4 : Nat.min r 16 = r := Nat.min_eq_left (by omega)
  rw [Int.toNat_natCast, e4] at e2
  refine acalls_of_sx mix Try.func96 of96 (by simp [ir96]) ?_; rw [ir96]
  repeat' (first | simp -implicitDefEqProofs only [zA1,zA2,zA3,zA4,zA5,zA6,zA7,zA8,zA9,zA10,zA11,zA12,zA13,zA14,zA15,zA16,zA17,zA18,zA19,zA20,zA21,zA22,zA23,zA24,zA25,zA26,zA27,zA28,zA29,zA30,zA31,zA32,zA33,zA34,zA35,zA36,zB1,zB2,zB3,zB4,zB5,zB6,zB7,zB8,zB9,zB10,zB11,zB12,zB13,zB14,zB15,zB16,zB17,zB18,zB19,zB20,zB21,zB22,zB23,zB24,zB25,zB26,zB27,zB28,zB29,zB30,zB31,zB32,zB33,zB34,zC1,zC2,zC3,zC4,zC5,zC6,zC7,zC8,zC9,zC10,zC11,zC12,zC13,zC14,zC15,zC16,zC17,zC18,zC19,zC20,zC21,zC22,zC23,zC24,zC25,zC26,zC27,zC28,zC29,zC30,zC31,zC32,zC33,zC34,zC35,zC36,zC37,zC38,le_refl_true,true_and,and_true,needs_some,needs_map,put_at,fr0_zero,fr0_succ,fr0_nil,resV,rval,X.val,binv,adr_adr,adr_zero,adr_lit,adr_some,cell_same,rdn_F,rdnF_zero,rdnF_succ,v_cells,v_size,List.getElem?_cons_succ,List.getElem?_cons_zero,Option.isSome_some,Option.bind_some,Option.map_some,fillL,setR,List.set_cons_zero,List.set_cons_succ,vcI,vcB,vcS,vcP,vcF,vcA,vcU,List.toList_toArray,and_self,List.length_cons,List.length_nil,List.size_toArray,List.map_cons,List.map_nil,List.nil_append,List.append_nil,List.cons_append,Int.toNat_natCast,↓reduceIte,Nat.reduceEqDiff,Nat.reduceAdd,Nat.reduceMul,Nat.reduceLeDiff,Nat.reduceLT,Nat.reduceSub,Nat.zero_add,reduceCtorEq,bne_self_eq_false,false_bne',true_bne',cell_ne,cell_ne',set_same,set_ne,set_ne',set_set,st_eq,some_ex,all_cons,all_nil',ocI,ocB,ocS,ocP,not_false_eq_true,eq_self,Bool.not_true,Bool.not_false,ldnV_p, IntKind.bits, e1, e2, e3, e4] | ((with_reducible refine rows_intro (fun _ hb => ?_)); try simp only [set_none, ne_eq] at hb) | ((with_reducible refine new_intro (fun _ hb => ?_)); try simp only [set_none, ne_eq] at hb) | (with_reducible refine draw_same ?_) | ((with_reducible refine gd_split ?_ (fun _ => ?_) (fun _ => ?_)); exact rfl) | ((with_reducible refine td_split ?_ (fun _ => ?_) (fun _ => ?_)); exact rfl) | (with_reducible refine c_split (fun _ => ?_) (fun _ => ?_)))
  refine ret_same (kb h ?_)
  rw [Nat.testBit, Nat.and_comm]
  rw [Bool.eq_iff_iff]
  simp only [beq_iff_eq, bne_iff_ne, ne_eq]
  rw [Nat.one_and_eq_mod_two]
  omega
theorem regs_step (n k : Nat) : regsTo n (k + 1) = if n.testBit k then regsTo n k ++ [(k : Int)] else regsTo n k := by
  simp only [regsTo, List.range_succ, List.filter_append, List.map_append]
  split <;> simp_all
theorem regsTo_le (n k : Nat) : (regsTo n k).length ≤ k := by
  simp only [regsTo, List.length_map]
  exact Nat.le_trans (List.length_filter_le _ _) (by simp)
def usesL (q : Qd) : List Int := if q.op = 2 ∨ q.op = 5 ∨ q.op = 6 ∨ q.op = 9 then [q.a] else if q.op = 3 then (if q.a = q.b then [q.a] else [if q.b < q.a then q.b else q.a, if q.b > q.a then q.b else q.a]) else []
def quadUses (q : Qd) : List Int := if quadValid q 600 then usesL q else []
theorem valid_regs {q : Qd} {m : Int} (h : quadValid q m = true) : (0 ≤ q.a ∧ q.a < 12) ∧ (0 ≤ q.b ∧ q.b < 12) := by
  simp only [quadValid, isReg, wordValid, opValid] at h
  repeat' split at h
  all_goals (try simp only [Bool.and_eq_true, decide_eq_true_eq, beq_iff_eq] at h)
  all_goals first | omega | (cases h)
theorem regs_one : ∀ a : Fin 12, regs (2 ^ a.1) = [(a.1 : Int)] := by decide +kernel
theorem regs_two : ∀ a b : Fin 12, regs (2 ^ a.1 ||| 2 ^ b.1) = if a = b then [(a.1 : Int)] else [if (b.1 : Int) < a.1 then (b.1 : Int) else a.1, if (b.1 : Int) > a.1 then (b.1 : Int) else a.1] := by decide +kernel
theorem regs_none : regs 0 = [] := by decide +kernel
theorem regs_uses {q : Qd} (ha : 0 ≤ q.a ∧ q.a < 12) (hb : 0 ≤ q.b ∧ q.b < 12) : regs (usesN q) = usesL q := by
  have h1 := regs_one ⟨q.a.toNat, by omega⟩
  have h2 := regs_two ⟨q.a.toNat, by omega⟩ ⟨q.b.toNat, by omega⟩
  simp only [Fin.mk.injEq] at h1 h2
  have ea : ((q.a.toNat : Nat) : Int) = q.a := by omega
  have eb : ((q.b.toNat : Nat) : Int) = q.b := by omega
  rw [ea] at h1
  rw [ea, eb] at h2
  simp only [usesN, usesL]
  split
  · exact h1
  · split
    · rw [h2]
      by_cases he : q.a = q.b
      · rw [if_pos he, if_pos (by rw [he])]
      · rw [if_neg he, if_neg (by omega)]
    · exact regs_none
theorem usesN_lt {q : Qd} (ha : 0 ≤ q.a ∧ q.a < 12) (hb : 0 ≤ q.b ∧ q.b < 12) : usesN q < 65536 := by
  have h1 := pow12 ha
  have h2 := pow12 hb
  have h3 : 2 ^ q.a.toNat ||| 2 ^ q.b.toNat < 2 ^ 12 := Nat.or_lt_two_pow (by omega) (by omega)
  simp only [usesN]
  split
  · omega
  · split <;> omega
theorem quadUsesS_ok (q : Qd) (h : ∀ v H', Own H 3 1 v (quadUses q).length (ints (quadUses q)) H' → K v H') : ACalls Try.prog w0 111 [q.val] H K := by
  refine acalls_of_sx mix Try.func111 of111 (by simp [ir111]) ?_; rw [ir111]
  repeat' (first | simp -implicitDefEqProofs only [zA1,zA2,zA3,zA4,zA5,zA6,zA7,zA8,zA9,zA10,zA11,zA12,zA13,zA14,zA15,zA16,zA17,zA18,zA19,zA20,zA21,zA22,zA23,zA24,zA25,zA26,zA27,zA28,zA29,zA30,zA31,zA32,zA33,zA34,zA35,zA36,zB1,zB2,zB3,zB4,zB5,zB6,zB7,zB8,zB9,zB10,zB11,zB12,zB13,zB14,zB15,zB16,zB17,zB18,zB19,zB20,zB21,zB22,zB23,zB24,zB25,zB26,zB27,zB28,zB29,zB30,zB31,zB32,zB33,zB34,zC1,zC2,zC3,zC4,zC5,zC6,zC7,zC8,zC9,zC10,zC11,zC12,zC13,zC14,zC15,zC16,zC17,zC18,zC19,zC20,zC21,zC22,zC23,zC24,zC25,zC26,zC27,zC28,zC29,zC30,zC31,zC32,zC33,zC34,zC35,zC36,zC37,zC38,le_refl_true,true_and,and_true,needs_some,needs_map,put_at,fr0_zero,fr0_succ,fr0_nil,resV,rval,X.val,binv,adr_adr,adr_zero,adr_lit,adr_some,cell_same,rdn_F,rdnF_zero,rdnF_succ,v_cells,v_size,List.getElem?_cons_succ,List.getElem?_cons_zero,Option.isSome_some,Option.bind_some,Option.map_some,fillL,setR,List.set_cons_zero,List.set_cons_succ,vcI,vcB,vcS,vcP,vcF,vcA,vcU,List.toList_toArray,and_self,List.length_cons,List.length_nil,List.size_toArray,List.map_cons,List.map_nil,List.nil_append,List.append_nil,List.cons_append,Int.toNat_natCast,↓reduceIte,Nat.reduceEqDiff,Nat.reduceAdd,Nat.reduceMul,Nat.reduceLeDiff,Nat.reduceLT,Nat.reduceSub,Nat.zero_add,reduceCtorEq,bne_self_eq_false,false_bne',true_bne',cell_ne,cell_ne',set_same,set_ne,set_ne',set_set,st_eq,some_ex,all_cons,all_nil',ocI,ocB,ocS,ocP,not_false_eq_true,eq_self,Bool.not_true,Bool.not_false,ldnV_p, q_val] | ((with_reducible refine rows_intro (fun _ hb => ?_)); try simp only [set_none, ne_eq] at hb) | ((with_reducible refine new_intro (fun _ hb => ?_)); try simp only [set_none, ne_eq] at hb) | (with_reducible refine draw_same ?_) | ((with_reducible refine gd_split ?_ (fun _ => ?_) (fun _ => ?_)); exact rfl) | ((with_reducible refine td_split ?_ (fun _ => ?_) (fun _ => ?_)); exact rfl) | (with_reducible refine c_split (fun _ => ?_) (fun _ => ?_)) | (with_reducible refine quadValidS_ok _ _ _ _ _ ?_))
  all_goals (try simp only [beq_iff_eq, beq_eq_false_iff_ne, bne_iff_ne, bne_eq_false_iff_eq, decide_eq_true_eq, decide_eq_false_iff_not, ne_eq, Bool.not_eq_true, Bool.not_eq_false, Bool.not_eq_eq_eq_not, Bool.not_true, Bool.not_false, Int.not_lt, Int.not_le, ge_iff_le, gt_iff_lt] at *)
  all_goals (refine ret_own h ((AHeap.le.refl H).fresh ‹H _ = none› _) (by exact hb.2) ?_ ?_ ?_ ?_ ?_ ?_)
  all_goals (try simp only [maxLen])
  all_goals ((try simp only [quadUses, usesL]); grind [ints])
end Go.Proofs.Ytncfflpkhjaidaa
