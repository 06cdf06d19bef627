/- The law FnUses: its contract and its row. -/
import Derived.Test.YtoehlgcahiaoeaaSxUses
import Derived.Test.YtoehlgcahiaoeaaSxSame
import Derived.Test.YtoehlgcahiaoeaaSxDraws
import Derived.Test.YtoehlgcahiaoeaaSxRow
namespace Go.Proofs.Ytoehlgcahiaoeaa
set_option linter.all false
open Go Go.RowKit Go.Joins Go.ChangeShapes Go.WideShapes Go.ChangeAt Go.Deep
set_option linter.unusedVariables false
set_option maxRecDepth 100000
theorem quadUses_le (q : Qd) : (quadUses q).length ≤ 2 := by
  simp only [quadUses, usesL]
  repeat' split
  all_goals simp
theorem uses_in (q : Qd) (x : Int) (h : x ∈ quadUses q) : 0 ≤ x ∧ x < 12 := by
  simp only [quadUses] at h
  split at h
  · rename_i hv
    obtain ⟨ha, hb⟩ := valid_regs hv
    simp only [usesL] at h
    repeat' split at h
    all_goals simp only [List.mem_cons, List.not_mem_nil, or_false] at h
    all_goals (try split at h)
    all_goals (try omega)
    all_goals (rcases h with rfl | rfl <;> (try split) <;> omega)
  · cases h
theorem uses_up (q : Qd) (k : Nat) (h : k + 1 < (quadUses q).length) : (quadUses q)[k] < (quadUses q)[k + 1] := by
  have hle := quadUses_le q
  obtain rfl : k = 0 := by omega
  have : ∀ l : List Int, l = quadUses q → ∀ h : 0 + 1 < l.length, l[0] < l[0 + 1] := by
    intro l hl h
    simp only [quadUses, usesL] at hl
    repeat' split at hl
    all_goals first | (subst hl; simp at h; done) | skip
    all_goals (subst hl; simp; (repeat' split) <;> omega)
  exact this _ rfl h
theorem uses_reads (q : Qd) (h : (quadUses q).length ≠ 0) : q.op = 2 ∨ q.op = 3 ∨ q.op = 5 ∨ q.op = 6 ∨ q.op = 9 := by
  simp only [quadUses, usesL] at h
  repeat' split at h
  all_goals first | omega | (simp at h)
theorem sub1' {n : Nat} (h : 1 ≤ n) (hn : n ≤ 4611686018427387904) : IntKind.i64.wrap ((n : Int) - 1) = ((n - 1 : Nat) : Int) := by rw [wrap_i64 (by omega) (by omega)]; omega
theorem lawUses_ok (w0 : World) (H : AHeap) (K : Value → AHeap → Prop) (A : Option Addr) (n c : Nat) (zs : List Int) (hF : Fl H A (u8s zs)) (hr : ∀ z ∈ zs, 0 ≤ z ∧ z < 256) (hl : zs.length = n) (hc : n ≤ c) (h : ∀ H', K (.bool true) H') :
    ACalls Try.prog w0 8 [.slice A n c] H K := by
  refine acalls_of_sx mix Try.func8 of8 (by simp [ir8]) ?_; rw [ir8]
  repeat' (first | simp -implicitDefEqProofs only [a1,a2,a3,a4,a5,a6,a7,a8,a9,a10,a11,a12,a13,a14,a15,a16,a17,a18,a19,a20,a21,a22,a23,a24,a25,a26,a27,a28,a29,a30,a31,a32,a33,b1,b2,b3,b4,b5,b6,b7,b8,b9,b10,b11,b12,b13,b14,b15,b16,b17,b18,b19,b20,b21,b22,b23,b24,b25,b26,b27,b28,b29,b30,b31,b32,b33,c1,c2,c3,c4,c5,c6,c7,c8,c9,c10,c11,c12,c13,c14,c15,c16,c17,c18,c19,c20,c21,c22,c23,c24,c25,c26,c27,c28,c29,c30,c31,c32,c33,c34,c35,c36,le_refl_true,true_and,and_true,needs_some,needs_map,put_at,fr0_zero,fr0_succ,fr0_nil,resV,rval,X.val,binv,adr_adr,adr_zero,adr_lit,adr_some,cell_same,rdn_F,rdnF_zero,rdnF_succ,v_cells,v_size,List.getElem?_cons_succ,List.getElem?_cons_zero,Option.isSome_some,Option.bind_some,Option.map_some,fillL,setR,List.set_cons_zero,List.set_cons_succ,vcI,vcB,vcS,vcP,vcF,vcA,vcU,List.toList_toArray,and_self,List.length_cons,List.length_nil,List.size_toArray,List.map_cons,List.map_nil,List.nil_append,List.append_nil,List.cons_append,Int.toNat_natCast,↓reduceIte,Nat.reduceEqDiff,Nat.reduceAdd,Nat.reduceMul,Nat.reduceLeDiff,Nat.reduceLT,Nat.reduceSub,Nat.zero_add,reduceCtorEq,bne_self_eq_false,false_bne',true_bne',cell_ne,cell_ne',set_same,set_ne,set_ne',set_set,st_eq,some_ex,all_cons,all_nil',ocI,ocB,ocS,ocP,not_false_eq_true,eq_self,Bool.not_true,Bool.not_false,ldnV_p] | ((with_reducible refine rows_intro (fun _ hb => ?_)); try simp only [set_none, ne_eq] at hb) | ((with_reducible refine new_intro (fun _ hb => ?_)); try simp only [set_none, ne_eq] at hb) | (with_reducible refine draw_same ?_) | ((with_reducible refine gd_split ?_ (fun _ => ?_) (fun _ => ?_)); exact rfl) | ((with_reducible refine td_split ?_ (fun _ => ?_) (fun _ => ?_)); exact rfl) | (with_reducible refine c_split (fun _ => ?_) (fun _ => ?_)) | (with_reducible refine drawUses_ok _ _ _ A n c zs hF hr hl hc (fun q => ?_)) | (with_reducible refine quadUses_ok _ _ _ _ (fun v1 H1 o1 => ?_)))
  · exact ret_same (h _)
  have l1 := o1.le
  have g1 := fl_five l1
  obtain ⟨A1, e1, rfl, f1⟩ := o1.fl
  repeat' (first | simp -implicitDefEqProofs only [a1,a2,a3,a4,a5,a6,a7,a8,a9,a10,a11,a12,a13,a14,a15,a16,a17,a18,a19,a20,a21,a22,a23,a24,a25,a26,a27,a28,a29,a30,a31,a32,a33,b1,b2,b3,b4,b5,b6,b7,b8,b9,b10,b11,b12,b13,b14,b15,b16,b17,b18,b19,b20,b21,b22,b23,b24,b25,b26,b27,b28,b29,b30,b31,b32,b33,c1,c2,c3,c4,c5,c6,c7,c8,c9,c10,c11,c12,c13,c14,c15,c16,c17,c18,c19,c20,c21,c22,c23,c24,c25,c26,c27,c28,c29,c30,c31,c32,c33,c34,c35,c36,le_refl_true,true_and,and_true,needs_some,needs_map,put_at,fr0_zero,fr0_succ,fr0_nil,resV,rval,X.val,binv,adr_adr,adr_zero,adr_lit,adr_some,cell_same,rdn_F,rdnF_zero,rdnF_succ,v_cells,v_size,List.getElem?_cons_succ,List.getElem?_cons_zero,Option.isSome_some,Option.bind_some,Option.map_some,fillL,setR,List.set_cons_zero,List.set_cons_succ,vcI,vcB,vcS,vcP,vcF,vcA,vcU,List.toList_toArray,and_self,List.length_cons,List.length_nil,List.size_toArray,List.map_cons,List.map_nil,List.nil_append,List.append_nil,List.cons_append,Int.toNat_natCast,↓reduceIte,Nat.reduceEqDiff,Nat.reduceAdd,Nat.reduceMul,Nat.reduceLeDiff,Nat.reduceLT,Nat.reduceSub,Nat.zero_add,reduceCtorEq,bne_self_eq_false,false_bne',true_bne',cell_ne,cell_ne',set_same,set_ne,set_ne',set_set,st_eq,some_ex,all_cons,all_nil',ocI,ocB,ocS,ocP,not_false_eq_true,eq_self,Bool.not_true,Bool.not_false,ldnV_p, g1] | ((with_reducible refine rows_intro (fun _ hb => ?_)); try simp only [set_none, ne_eq] at hb) | ((with_reducible refine new_intro (fun _ hb => ?_)); try simp only [set_none, ne_eq] at hb) | (with_reducible refine draw_same ?_) | ((with_reducible refine gd_split ?_ (fun _ => ?_) (fun _ => ?_)); exact rfl) | ((with_reducible refine td_split ?_ (fun _ => ?_) (fun _ => ?_)); exact rfl) | (with_reducible refine c_split (fun _ => ?_) (fun _ => ?_)) | (with_reducible refine quadUsesS_ok _ _ _ _ (fun v2 H2 o2 => ?_)))
  have l2 := o2.le
  have g2 := fl_five (l1.trans l2)
  obtain ⟨A2, e2, rfl, f2⟩ := o2.fl
  have hle := quadUses_le ‹Qd›
  have f1' := f1.le l2
  have hn : (quadUses q).length ≤ 4611686018427387904 := by omega
  repeat' (first | simp -implicitDefEqProofs only [a1,a2,a3,a4,a5,a6,a7,a8,a9,a10,a11,a12,a13,a14,a15,a16,a17,a18,a19,a20,a21,a22,a23,a24,a25,a26,a27,a28,a29,a30,a31,a32,a33,b1,b2,b3,b4,b5,b6,b7,b8,b9,b10,b11,b12,b13,b14,b15,b16,b17,b18,b19,b20,b21,b22,b23,b24,b25,b26,b27,b28,b29,b30,b31,b32,b33,c1,c2,c3,c4,c5,c6,c7,c8,c9,c10,c11,c12,c13,c14,c15,c16,c17,c18,c19,c20,c21,c22,c23,c24,c25,c26,c27,c28,c29,c30,c31,c32,c33,c34,c35,c36,le_refl_true,true_and,and_true,needs_some,needs_map,put_at,fr0_zero,fr0_succ,fr0_nil,resV,rval,X.val,binv,adr_adr,adr_zero,adr_lit,adr_some,cell_same,rdn_F,rdnF_zero,rdnF_succ,v_cells,v_size,List.getElem?_cons_succ,List.getElem?_cons_zero,Option.isSome_some,Option.bind_some,Option.map_some,fillL,setR,List.set_cons_zero,List.set_cons_succ,vcI,vcB,vcS,vcP,vcF,vcA,vcU,List.toList_toArray,and_self,List.length_cons,List.length_nil,List.size_toArray,List.map_cons,List.map_nil,List.nil_append,List.append_nil,List.cons_append,Int.toNat_natCast,↓reduceIte,Nat.reduceEqDiff,Nat.reduceAdd,Nat.reduceMul,Nat.reduceLeDiff,Nat.reduceLT,Nat.reduceSub,Nat.zero_add,reduceCtorEq,bne_self_eq_false,false_bne',true_bne',cell_ne,cell_ne',set_same,set_ne,set_ne',set_set,st_eq,some_ex,all_cons,all_nil',ocI,ocB,ocS,ocP,not_false_eq_true,eq_self,Bool.not_true,Bool.not_false,ldnV_p, g2, decide_true] | ((with_reducible refine rows_intro (fun _ hb => ?_)); try simp only [set_none, ne_eq] at hb) | ((with_reducible refine new_intro (fun _ hb => ?_)); try simp only [set_none, ne_eq] at hb) | (with_reducible refine draw_same ?_) | ((with_reducible refine gd_split ?_ (fun _ => ?_) (fun _ => ?_)); exact rfl) | ((with_reducible refine td_split ?_ (fun _ => ?_) (fun _ => ?_)); exact rfl) | (with_reducible refine c_split (fun _ => ?_) (fun _ => ?_)) | (with_reducible refine sameInts_ok _ _ _ _ _ _ _ _ _ f1' f2 hn ?_))
  · exact ret_same (h _)
  rename_i hne
  have hne' : (quadUses q).length ≠ 0 := by
    intro e
    rw [e] at hne
    cases hne
  refine loop_rule (fun m fr H' => ∃ k : Nat, m = (quadUses q).length - k ∧ k ≤ (quadUses q).length ∧ H' = H2 ∧ fr 4 = .slice A1 (quadUses q).length e1 ∧ fr 6 = .int .i64 k ∧ fr 3 = .pointer (some ⟨_, 0, none⟩)) (quadUses q).length
    ⟨0, rfl, Nat.zero_le _, rfl, rfl, rfl, rfl⟩ ?_
  rintro m fr _ ⟨k, rfl, hk, rfl, t0, t1, t2⟩
  by_cases hlt : k < (quadUses q).length
  · have u0 := lt_dec hlt
    have u1 := rng hlt
    have u2 := up1 hlt hn
    have u3 := f1'.ints_is hlt
    have u4 := f1'.int hlt
    obtain ⟨p1, p2⟩ := uses_in q _ (List.getElem_mem hlt)
    have d0 : decide ((quadUses q)[k] < 0) = false := by simp; omega
    have d1 : decide ((quadUses q)[k] ≥ 12) = false := by simp; omega
    by_cases hk0 : k = 0
    · have d2 : decide ((k : Int) > 0) = false := by simp; omega
      repeat' (first | simp -implicitDefEqProofs only [a1,a2,a3,a4,a5,a6,a7,a8,a9,a10,a11,a12,a13,a14,a15,a16,a17,a18,a19,a20,a21,a22,a23,a24,a25,a26,a27,a28,a29,a30,a31,a32,a33,b1,b2,b3,b4,b5,b6,b7,b8,b9,b10,b11,b12,b13,b14,b15,b16,b17,b18,b19,b20,b21,b22,b23,b24,b25,b26,b27,b28,b29,b30,b31,b32,b33,c1,c2,c3,c4,c5,c6,c7,c8,c9,c10,c11,c12,c13,c14,c15,c16,c17,c18,c19,c20,c21,c22,c23,c24,c25,c26,c27,c28,c29,c30,c31,c32,c33,c34,c35,c36,le_refl_true,true_and,and_true,needs_some,needs_map,put_at,fr0_zero,fr0_succ,fr0_nil,resV,rval,X.val,binv,adr_adr,adr_zero,adr_lit,adr_some,cell_same,rdn_F,rdnF_zero,rdnF_succ,v_cells,v_size,List.getElem?_cons_succ,List.getElem?_cons_zero,Option.isSome_some,Option.bind_some,Option.map_some,fillL,setR,List.set_cons_zero,List.set_cons_succ,vcI,vcB,vcS,vcP,vcF,vcA,vcU,List.toList_toArray,and_self,List.length_cons,List.length_nil,List.size_toArray,List.map_cons,List.map_nil,List.nil_append,List.append_nil,List.cons_append,Int.toNat_natCast,↓reduceIte,Nat.reduceEqDiff,Nat.reduceAdd,Nat.reduceMul,Nat.reduceLeDiff,Nat.reduceLT,Nat.reduceSub,Nat.zero_add,reduceCtorEq,bne_self_eq_false,false_bne',true_bne',cell_ne,cell_ne',set_same,set_ne,set_ne',set_set,st_eq,some_ex,all_cons,all_nil',ocI,ocB,ocS,ocP,not_false_eq_true,eq_self,Bool.not_true,Bool.not_false,ldnV_p, t0, t1, t2, u0, u1, u2, u3, u4, d0, d1, d2, Nat.mul_one] | ((with_reducible refine rows_intro (fun _ hb => ?_)); try simp only [set_none, ne_eq] at hb) | ((with_reducible refine new_intro (fun _ hb => ?_)); try simp only [set_none, ne_eq] at hb) | (with_reducible refine draw_same ?_) | ((with_reducible refine gd_split ?_ (fun _ => ?_) (fun _ => ?_)); exact rfl) | ((with_reducible refine td_split ?_ (fun _ => ?_) (fun _ => ?_)); exact rfl) | (with_reducible refine c_split (fun _ => ?_) (fun _ => ?_)))
      refine ⟨_, _, ?_, AHeap.le.refl _, k + 1, rfl, by omega, rfl, by simp [put_at, t0], by simp [put_at], by simp [put_at, t2]⟩
      omega
    · have d2 : decide ((k : Int) > 0) = true := by simp; omega
      have hlt1 : k - 1 < (quadUses q).length := by omega
      have u5 := sub1' (show 1 ≤ k by omega) (show k ≤ 4611686018427387904 by omega)
      have u6 := rng hlt1
      have u7 := f1'.int hlt1
      have d3 : decide ((quadUses q)[k - 1] ≥ (quadUses q)[k]) = false := by
        have := uses_up q (k - 1) (by omega)
        simp only [show k - 1 + 1 = k by omega] at this
        simp; omega
      repeat' (first | simp -implicitDefEqProofs only [a1,a2,a3,a4,a5,a6,a7,a8,a9,a10,a11,a12,a13,a14,a15,a16,a17,a18,a19,a20,a21,a22,a23,a24,a25,a26,a27,a28,a29,a30,a31,a32,a33,b1,b2,b3,b4,b5,b6,b7,b8,b9,b10,b11,b12,b13,b14,b15,b16,b17,b18,b19,b20,b21,b22,b23,b24,b25,b26,b27,b28,b29,b30,b31,b32,b33,c1,c2,c3,c4,c5,c6,c7,c8,c9,c10,c11,c12,c13,c14,c15,c16,c17,c18,c19,c20,c21,c22,c23,c24,c25,c26,c27,c28,c29,c30,c31,c32,c33,c34,c35,c36,le_refl_true,true_and,and_true,needs_some,needs_map,put_at,fr0_zero,fr0_succ,fr0_nil,resV,rval,X.val,binv,adr_adr,adr_zero,adr_lit,adr_some,cell_same,rdn_F,rdnF_zero,rdnF_succ,v_cells,v_size,List.getElem?_cons_succ,List.getElem?_cons_zero,Option.isSome_some,Option.bind_some,Option.map_some,fillL,setR,List.set_cons_zero,List.set_cons_succ,vcI,vcB,vcS,vcP,vcF,vcA,vcU,List.toList_toArray,and_self,List.length_cons,List.length_nil,List.size_toArray,List.map_cons,List.map_nil,List.nil_append,List.append_nil,List.cons_append,Int.toNat_natCast,↓reduceIte,Nat.reduceEqDiff,Nat.reduceAdd,Nat.reduceMul,Nat.reduceLeDiff,Nat.reduceLT,Nat.reduceSub,Nat.zero_add,reduceCtorEq,bne_self_eq_false,false_bne',true_bne',cell_ne,cell_ne',set_same,set_ne,set_ne',set_set,st_eq,some_ex,all_cons,all_nil',ocI,ocB,ocS,ocP,not_false_eq_true,eq_self,Bool.not_true,Bool.not_false,ldnV_p, t0, t1, t2, u0, u1, u2, u3, u4, u5, u6, u7, d0, d1, d2, d3, Nat.mul_one] | ((with_reducible refine rows_intro (fun _ hb => ?_)); try simp only [set_none, ne_eq] at hb) | ((with_reducible refine new_intro (fun _ hb => ?_)); try simp only [set_none, ne_eq] at hb) | (with_reducible refine draw_same ?_) | ((with_reducible refine gd_split ?_ (fun _ => ?_) (fun _ => ?_)); exact rfl) | ((with_reducible refine td_split ?_ (fun _ => ?_) (fun _ => ?_)); exact rfl) | (with_reducible refine c_split (fun _ => ?_) (fun _ => ?_)))
      refine ⟨_, _, ?_, AHeap.le.refl _, k + 1, rfl, by omega, rfl, by simp [put_at, t0], by simp [put_at], by simp [put_at, t2]⟩
      omega
  · have u0 := ge_dec hlt
    have hop := uses_reads q hne'
    have d4 : decide (((quadUses q).length : Int) ≤ 2) = true := by simp; omega
    repeat' (first | simp -implicitDefEqProofs only [a1,a2,a3,a4,a5,a6,a7,a8,a9,a10,a11,a12,a13,a14,a15,a16,a17,a18,a19,a20,a21,a22,a23,a24,a25,a26,a27,a28,a29,a30,a31,a32,a33,b1,b2,b3,b4,b5,b6,b7,b8,b9,b10,b11,b12,b13,b14,b15,b16,b17,b18,b19,b20,b21,b22,b23,b24,b25,b26,b27,b28,b29,b30,b31,b32,b33,c1,c2,c3,c4,c5,c6,c7,c8,c9,c10,c11,c12,c13,c14,c15,c16,c17,c18,c19,c20,c21,c22,c23,c24,c25,c26,c27,c28,c29,c30,c31,c32,c33,c34,c35,c36,le_refl_true,true_and,and_true,needs_some,needs_map,put_at,fr0_zero,fr0_succ,fr0_nil,resV,rval,X.val,binv,adr_adr,adr_zero,adr_lit,adr_some,cell_same,rdn_F,rdnF_zero,rdnF_succ,v_cells,v_size,List.getElem?_cons_succ,List.getElem?_cons_zero,Option.isSome_some,Option.bind_some,Option.map_some,fillL,setR,List.set_cons_zero,List.set_cons_succ,vcI,vcB,vcS,vcP,vcF,vcA,vcU,List.toList_toArray,and_self,List.length_cons,List.length_nil,List.size_toArray,List.map_cons,List.map_nil,List.nil_append,List.append_nil,List.cons_append,Int.toNat_natCast,↓reduceIte,Nat.reduceEqDiff,Nat.reduceAdd,Nat.reduceMul,Nat.reduceLeDiff,Nat.reduceLT,Nat.reduceSub,Nat.zero_add,reduceCtorEq,bne_self_eq_false,false_bne',true_bne',cell_ne,cell_ne',set_same,set_ne,set_ne',set_set,st_eq,some_ex,all_cons,all_nil',ocI,ocB,ocS,ocP,not_false_eq_true,eq_self,Bool.not_true,Bool.not_false,ldnV_p, t0, t1, t2, u0, g2, d4] | ((with_reducible refine rows_intro (fun _ hb => ?_)); try simp only [set_none, ne_eq] at hb) | ((with_reducible refine new_intro (fun _ hb => ?_)); try simp only [set_none, ne_eq] at hb) | (with_reducible refine draw_same ?_) | ((with_reducible refine gd_split ?_ (fun _ => ?_) (fun _ => ?_)); exact rfl) | ((with_reducible refine td_split ?_ (fun _ => ?_) (fun _ => ?_)); exact rfl) | (with_reducible refine c_split (fun _ => ?_) (fun _ => ?_)))
    all_goals first | exact ret_same (h _) | refine ret_same (kb (h _) ?_)
    all_goals (try simp only [beq_iff_eq, beq_eq_false_iff_ne, bne_iff_ne, bne_eq_false_iff_eq, decide_eq_true_eq, decide_eq_false_iff_not, ne_eq, Bool.not_eq_true, Bool.not_eq_false, Bool.not_eq_eq_eq_not, Bool.not_true, Bool.not_false, Int.not_lt, Int.not_le, ge_iff_le, gt_iff_lt] at *)
    all_goals grind
namespace fnUses
theorem lifted (os : Os) (started : os.Started) (H : Type) (enc : TypeId × Value → H) :
    ReturnsInHanded {} Try.checked os 8 .any (Rows.fnUsesSpec.pre6 enc Try.prog Try.f8 Rows.fnUsesRow.domain false) (Rows.fnUsesSpec.post enc Try.prog Try.f8 false true false false) := by
  refine returnsInHanded_of_change_sized (C := Try.checked) own started (by kernel_rfl) Try.func8
    (ChangeSpec.witness6 (enc := enc) (C := Try.checked) false ⟨#[], #[.slice none 0 0], []⟩ 8 (by kernel_rfl) (by kernel_rfl) (by kernel_rfl) (by kernel_rfl)) ?_
  intro W base args ds gs before hval0 hW hcnd hsz0 _
  have hval : ∀ (j : Nat) t v, Try.f8.params[j]? = some t → args[j]? = some v → Value.okWide Try.prog W .any base t v := hval0
  have hW' := hW
  obtain ⟨p, q, hA0, hV, rfl, hfz, hnd⟩ := hW
  have hA : DataW.TrodAll enc Try.prog W 0 (fun _ => true) true Try.f8.params.toList args.toList ds p := hA0
  rw [Try.params8] at hA hval
  obtain ⟨v0, vs0, d0, ds0, p0, q0, hargs, rfl, rfl, h0, r0⟩ := trodAll_cons hA
  obtain ⟨rfl, rfl, rfl⟩ := trodAll_nil r0
  obtain rfl : args = #[v0] := by cases args; simp_all
  obtain ⟨rfl, rfl⟩ := trodVars_none hV
  have k0 := h0
  have lt0 : ∀ x ∈ p0, x.block < W.heap.size := by obtain ⟨m, hm⟩ := k0; exact DataW.trod_lt m _ _ _ hm
  obtain ⟨a0, len0, cap0, rfl⟩ := okWide_slice Try.underlying39 (hval 0 39 v0 rfl rfl)
  obtain ⟨z0, hl0, hb0, f0⟩ := open_bytes Try.underlying39 Try.underlying5 (by kernel_rfl) h0
  subst hl0
  refine (calls_true (lawUses_ok W (heapOf W) _ a0 z0.length cap0 z0 f0 hb0.2.2 rfl hb0.1 (fun _ => rfl)) (sat_heap W)).mono fun e W' ⟨he, bel⟩ => ?_
  subst he
  exact ⟨_, rfl, _, _, _, [], _, [], hW', trodAll_mk1 (shut_bool Try.underlying4 _), (trodAll_cons_mk (Below.trod laidOut (by kernel_rfl) (of_decide_eq_true (by kernel_rfl)) k0 bel lt0) trodAll_mk0), rfl, bel.frame _, fun h => by cases h⟩
theorem over : Rows.fnUsesRow.holds Try.pinned (OpenSpec.ofChange Rows.fnUsesSpec) :=
  OpenClaim.holds_of_wide 8 Try.f8 rfl rfl rfl rfl rfl rfl rfl ⟨rfl, rfl, rfl, rfl, rfl⟩ rfl rfl rfl rfl rfl (by kernel_rfl) Try.func8 (by kernel_rfl)
    (of_decide_eq_true (by kernel_rfl)) (by unfold Func.isWrapper; first | (rw [if_pos (by decide +kernel)]; kernel_rfl) | (rw [if_neg (by decide +kernel)]; exact ⟨rfl, rfl⟩))
    (fun os started H enc _ => lifted os started H enc)
end fnUses
theorem fnUses_holds : Rows.FnUsesSaid := fnUses.over
#print axioms fnUses_holds
end Go.Proofs.Ytoehlgcahiaoeaa
