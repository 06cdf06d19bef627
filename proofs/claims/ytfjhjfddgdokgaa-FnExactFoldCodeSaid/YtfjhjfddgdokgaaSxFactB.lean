/- The contracts of factsBefore and FactsOf of the program. -/
import Derived.Test.YtfjhjfddgdokgaaSxFactE
import Derived.Test.YtfjhjfddgdokgaaSxNextAt
namespace Go.Proofs.Ytfjhjfddgdokgaa
set_option linter.all false
open Go Go.RowKit
set_option maxRecDepth 100000
variable (w0 : World) (H : AHeap) (K : Value → AHeap → Prop)
def outsF (s : List (List Fc)) : List Value := s.flatMap fcells
theorem outsF_all {s : List (List Fc)} (h : ∀ v ∈ s, okF v) : ∀ a ∈ s, (fcells a).length = 24 := fun a ha => by rw [fcells_len, okF_len (h a ha)]
theorem outsF_len {s : List (List Fc)} (h : ∀ v ∈ s, okF v) : (outsF s).length = s.length * 24 := by rw [outsF, flat_len (outsF_all h)]
theorem outsF_at {s : List (List Fc)} (h : ∀ v ∈ s, okF v) {i : Nat} (hi : i < s.length) (j : Nat) (hj : j < 24) : (outsF s)[i * 24 + j]? = (fcells s[i])[j]? := by
  rw [outsF, flat_at (outsF_all h) hi j hj]
theorem outsF_set {s : List (List Fc)} (h : ∀ v ∈ s, okF v) {i : Nat} (hi : i < s.length) {v : List Fc} (hl : v.length = 12) : setR (outsF s) (i * 24) (fcells v) = outsF (s.set i v) := by
  rw [outsF, flat_setR (outsF_all h) hi (by rw [fcells_len, hl]), outsF]
theorem outsF_cons (v : List Fc) (s : List (List Fc)) : outsF (v :: s) = fcells (v ++ s.flatten) := by
  have : ∀ s : List (List Fc), outsF s = fcells s.flatten := by
    intro s
    induction s with
    | nil => rfl
    | cons v s ih => simp only [outsF, List.flatMap_cons, List.flatten_cons] at *; rw [ih]; simp [fcells, List.flatMap_append]
  rw [this, List.flatten_cons]
theorem repl_24 (n : Nat) : repl (fcells botF) n = outsF (List.replicate n botF) := by
  induction n with
  | zero => rfl
  | succ n ih => simp only [repl, ih, List.replicate_succ, outsF, List.flatMap_cons]
def zeroTo (k : Nat) : List Fc := mkF fun r => if r < k then ⟨1, 0⟩ else noneF
theorem zeroTo_zero : zeroTo 0 = botF := extF (mkF_len _) (mkF_len _) fun r hr => by rw [zeroTo, botF, mkF_at _ hr, mkF_at _ hr]; simp
theorem zeroTo_end : zeroTo 12 = zeroF := extF (mkF_len _) (mkF_len _) fun r hr => by rw [zeroTo, zeroF, mkF_at _ hr, mkF_at _ hr, if_pos hr]
theorem zeroTo_step {k : Nat} (hk : k < 12) (s : List (List Fc)) : setR (outsF (zeroTo k :: s)) (k * 2) (⟨1, 0⟩ : Fc).cells = outsF (zeroTo (k + 1) :: s) := by
  have hl : (zeroTo k).length = 12 := mkF_len _
  rw [outsF_cons, outsF_cons, fcells_set (by rw [List.length_append]; omega), List.set_append_left _ _ (by omega)]
  congr 2
  refine extF (by rw [List.length_set]; exact hl) (mkF_len _) fun r hr => ?_
  rw [fAt_set (by omega), zeroTo, zeroTo, mkF_at _ hr, mkF_at _ hr]
  by_cases e : k = r
  · subst e; rw [if_pos rfl, if_pos (by omega)]
  · have : (r < k) = (r < k + 1) := by simp; omega
    rw [if_neg e]; simp only [this]
def joinTo (a b : List Fc) (k : Nat) : List Fc := mkF fun r => if r < k then joinR (fAt a r) (fAt b r) else fAt a r
theorem joinTo_zero {a b : List Fc} (h : a.length = 12) : joinTo a b 0 = a := extF (mkF_len _) h fun r hr => by rw [joinTo, mkF_at _ hr]; simp
theorem joinTo_end (a b : List Fc) : joinTo a b 12 = joinFs a b := extF (mkF_len _) (mkF_len _) fun r hr => by rw [joinTo, joinFs, mkF_at _ hr, mkF_at _ hr, if_pos hr]
theorem joinTo_at {a b : List Fc} {k : Nat} (hk : k < 12) : fAt (joinTo a b k) k = fAt a k := by rw [joinTo, mkF_at _ hk]; simp
theorem joinTo_set {a b : List Fc} {k : Nat} (hk : k < 12) : (joinTo a b k).set k (joinR (fAt a k) (fAt b k)) = joinTo a b (k + 1) := by
  have hl : (joinTo a b k).length = 12 := mkF_len _
  refine extF (by rw [List.length_set]; exact hl) (mkF_len _) fun r hr => ?_
  rw [fAt_set (by omega), joinTo, joinTo, mkF_at _ hr, mkF_at _ hr]
  by_cases e : k = r
  · subst e; rw [if_pos rfl, if_pos (by omega)]
  · have : (r < k) = (r < k + 1) := by simp; omega
    rw [if_neg e]; simp only [this]
theorem arrFacts : arrStructs Try.prog 153 12 2 = true := by kernel_rfl
theorem eqsK_fs {ng : Bool} {a b : List Fc} (ha : a.length = 12) (hb : b.length = 12) {D : Value → Prop} (hD : D (.bool (ng != decide (a = b)))) : eqsK Try.prog ng 153 (.agg (fcells a).toArray) (.agg (fcells b).toArray) D := by
  have hc : ∀ (l : List Fc) (i : Nat) (hi : i < l.length), (fcells l)[i * 2 + 0]? = some (.int .i64 l[i].kind) ∧ (fcells l)[i * 2 + 1]? = some (.int .i64 l[i].n) := fun l i hi => ⟨fcells_at hi 0 (by omega), fcells_at hi 1 (by omega)⟩
  refine ⟨_, eqs_arrStructs arrFacts (fun i hi j hj => ?_), ?_⟩
  · match j, hj with
    | 0, _ => exact ⟨_, _, _, (hc a i (by omega)).1, (hc b i (by omega)).1⟩
    | 1, _ => exact ⟨_, _, _, (hc a i (by omega)).2, (hc b i (by omega)).2⟩
  · have e : ((List.range 12).all fun i => (List.range 2).all fun j => intAt (fcells a) (i * 2 + j) == intAt (fcells b) (i * 2 + j)) = decide (a = b) := by
      rw [Bool.eq_iff_iff]
      simp only [List.all_eq_true, List.mem_range, beq_iff_eq, decide_eq_true_eq]
      constructor
      · intro h
        refine extF ha hb fun r hr => ?_
        have h0 := h r hr 0 (by omega)
        have h1 := h r hr 1 (by omega)
        simp only [intAt, hc a r (by omega), hc b r (by omega)] at h0 h1
        rw [fAt_eq (by omega), fAt_eq (by omega)]
        generalize a[r] = x at h0 h1
        generalize b[r] = y at h0 h1
        cases x; cases y; simp only at h0 h1; rw [h0, h1]
      · rintro rfl i _ j _; rfl
    rw [e]; exact hD
theorem nextL_five {q : Qd} (h : q.op = 5) (i : Int) : q.n ∈ nextL q i ∧ i + 1 ∈ nextL q i := by
  simp only [nextL, h, Int.reduceEq, if_false, true_and]
  refine ⟨?_, ?_⟩
  all_goals (repeat' split)
  all_goals first | (simp; done) | (simp; omega)
theorem edgesQ_in {qs : List Qd} (hv : codeValid qs = true) {i : Nat} (hi : i < qs.length) {v : List Fc} {x : Int} (hx : x ∈ edgesQ qs[i] i v) : 0 ≤ x ∧ x < qs.length := by
  unfold edgesQ at hx
  split at hx
  · rename_i h
    have h5 := nextL_five h.1 i
    split at hx
    · simp at hx; exact next_in hv hi (hx ▸ h5.1)
    · simp at hx; exact next_in hv hi (hx ▸ h5.2)
  · exact next_in hv hi hx
theorem factsBefore_ok (A : Option Addr) (c : Nat) (qs : List Qd) (hv : codeValid qs = true) (hx : Fl H A (qcells qs)) (h : ∀ v C bs, AHeap.le H C → New H bs → (∀ v ∈ factsL qs, okF v) → (factsL qs).length = qs.length → Rw C 153 24 v qs.length (outsF (factsL qs)) bs → K v C) :
    ACalls Try.prog w0 117 [.slice A qs.length c] H K := by
  have hc := code_at hv
  have g0 : ((0 : Int) ≤ 0 ∧ (0 : Int) < (qs.length : Int)) = True := by simp; omega
  have t00 : (0 : Int).toNat = 0 := rfl
  have z24 : (fcells botF).length = 24 := by rw [fcells_len, botF, mkF_len]
  have hn0 : qs.length ≠ 0 := by omega
  have okz : ∀ k, (zeroTo k).length = 12 := fun k => mkF_len _
  have olen : ∀ k, (outsF (zeroTo k :: List.replicate (qs.length - 1) botF)).length = qs.length * 24 := fun k => by
    rw [outsF, flat_len (w := 24) (fun a ha => ?_)]
    · simp; omega
    · rw [fcells_len]
      rcases List.mem_cons.1 ha with rfl | ha
      · rw [okz]
      · rw [List.eq_of_mem_replicate ha, botF, mkF_len]
  refine acalls_of_sx mix Try.func117 of117 (by simp [ir117]) ?_; rw [ir117]
  repeat' (first | simp -implicitDefEqProofs only [zA1,zA2,zA3,zA4,zA5,zA6,zA7,zA8,zA9,zA10,zA11,zA12,zA13,zA14,zA15,zA16,zA17,zA18,zA19,zA20,zA21,zA22,zA23,zA24,zA25,zA26,zA27,zA28,zA29,zA30,zA31,zA32,zA33,zA34,zA35,zA36,zB1,zB2,zB3,zB4,zB5,zB6,zB7,zB8,zB9,zB10,zB11,zB12,zB13,zB14,zB15,zB16,zB17,zB18,zB19,zB20,zB21,zB22,zB23,zB24,zB25,zB26,zB27,zB28,zB29,zB30,zB31,zB32,zB33,zB34,zC1,zC2,zC3,zC4,zC5,zC6,zC7,zC8,zC9,zC10,zC11,zC12,zC13,zC14,zC15,zC16,zC17,zC18,zC19,zC20,zC21,zC22,zC23,zC24,zC25,zC26,zC27,zC28,zC29,zC30,zC31,zC32,zC33,zC34,zC35,zC36,zC37,zC38,zC39,le_refl_true,true_and,and_true,needs_some,needs_map,put_at,fr0_zero,fr0_succ,fr0_nil,resV,rval,X.val,binv,adr_adr,adr_zero,adr_lit,adr_some,cell_same,v_cells,v_size,List.getElem?_cons_succ,List.getElem?_cons_zero,Option.isSome_some,Option.bind_some,Option.map_some,fillL,setR,List.set_cons_zero,List.set_cons_succ,vcI,vcB,vcS,vcP,vcF,vcA,vcU,List.toList_toArray,and_self,List.length_cons,List.length_nil,List.size_toArray,List.map_cons,List.map_nil,List.nil_append,List.append_nil,List.cons_append,Int.toNat_natCast,↓reduceIte,Nat.reduceEqDiff,Nat.reduceAdd,Nat.reduceMul,Nat.reduceLeDiff,Nat.reduceLT,Nat.reduceSub,Nat.zero_add,reduceCtorEq,bne_self_eq_false,false_bne',true_bne',cell_ne,cell_ne',set_same,set_ne,set_ne',set_set,st_known,some_ex,all_cons,all_nil',ocI,ocB,ocS,ocP,not_false_eq_true,eq_self,Bool.not_true,Bool.not_false,ldnV_p,cell_old,set_mid,rdn_same,rdn_old,List.take_succ_cons,List.take_zero, zero24, z24] | ((with_reducible refine rows_intro (fun _ hb => ?_)); try simp only [set_none, ne_eq] at hb) | ((with_reducible refine new_intro (fun _ hb => ?_)); try simp only [set_none, ne_eq] at hb) | ((with_reducible refine gd_split ?_ (fun _ => ?_) (fun _ => ?_)); exact rfl) | ((with_reducible refine td_split ?_ (fun _ => ?_) (fun _ => ?_)); exact rfl) | (with_reducible refine c_split (fun _ => ?_) (fun _ => ?_)) | (with_reducible refine mk_intro (by omega) (by omega) (fun b3 hb3 => ?_)))
  refine for_rule 12 (fun k fr C => AHeap.le H C ∧ Kn C b3 ⟨outsF (zeroTo k :: List.replicate (qs.length - 1) botF), true, 153, qs.length * 24⟩ ∧
    fr 0 = .slice A qs.length c ∧ fr 3 = .slice (some ⟨b3, 0, none⟩) qs.length qs.length ∧ fr 15 = .int .i64 k)
    ⟨(AHeap.le.refl H).fresh hb3 _, ?_, (by first | rfl | (simp only [put_at, ↓reduceIte, Nat.reduceEqDiff]; first | done | rfl | assumption) | simp [put_at, *]), (by first | rfl | (simp only [put_at, ↓reduceIte, Nat.reduceEqDiff]; first | done | rfl | assumption) | simp [put_at, *]), (by first | rfl | (simp only [put_at, ↓reduceIte, Nat.reduceEqDiff]; first | done | rfl | assumption) | simp [put_at, *])⟩ ?_ ?_
  · have e : outsF (zeroTo 0 :: List.replicate (qs.length - 1) botF) = repl (fcells botF) qs.length := by
      obtain ⟨m, hm0⟩ : ∃ m, qs.length = m + 1 := ⟨qs.length - 1, by omega⟩
      rw [repl_24, zeroTo_zero, hm0]; rfl
    rw [e]; exact Kn.same _ _ _
  · rintro k fr C hk ⟨hle, kn3, f0, f3, f15⟩ N hN
    have g1 : decide ((k : Int) < 12) = true := by simp; omega
    have g2 : (0 ≤ (k : Int) ∧ (k : Int) < ((12 : Nat) : Int)) = True := by simp; omega
    have g3 := up1 hk (by omega)
    repeat' (first | simp -implicitDefEqProofs only [zA1,zA2,zA3,zA4,zA5,zA6,zA7,zA8,zA9,zA10,zA11,zA12,zA13,zA14,zA15,zA16,zA17,zA18,zA19,zA20,zA21,zA22,zA23,zA24,zA25,zA26,zA27,zA28,zA29,zA30,zA31,zA32,zA33,zA34,zA35,zA36,zB1,zB2,zB3,zB4,zB5,zB6,zB7,zB8,zB9,zB10,zB11,zB12,zB13,zB14,zB15,zB16,zB17,zB18,zB19,zB20,zB21,zB22,zB23,zB24,zB25,zB26,zB27,zB28,zB29,zB30,zB31,zB32,zB33,zB34,zC1,zC2,zC3,zC4,zC5,zC6,zC7,zC8,zC9,zC10,zC11,zC12,zC13,zC14,zC15,zC16,zC17,zC18,zC19,zC20,zC21,zC22,zC23,zC24,zC25,zC26,zC27,zC28,zC29,zC30,zC31,zC32,zC33,zC34,zC35,zC36,zC37,zC38,zC39,le_refl_true,true_and,and_true,needs_some,needs_map,put_at,fr0_zero,fr0_succ,fr0_nil,resV,rval,X.val,binv,adr_adr,adr_zero,adr_lit,adr_some,cell_same,v_cells,v_size,List.getElem?_cons_succ,List.getElem?_cons_zero,Option.isSome_some,Option.bind_some,Option.map_some,fillL,setR,List.set_cons_zero,List.set_cons_succ,vcI,vcB,vcS,vcP,vcF,vcA,vcU,List.toList_toArray,and_self,List.length_cons,List.length_nil,List.size_toArray,List.map_cons,List.map_nil,List.nil_append,List.append_nil,List.cons_append,Int.toNat_natCast,↓reduceIte,Nat.reduceEqDiff,Nat.reduceAdd,Nat.reduceMul,Nat.reduceLeDiff,Nat.reduceLT,Nat.reduceSub,Nat.zero_add,reduceCtorEq,bne_self_eq_false,false_bne',true_bne',cell_ne,cell_ne',set_same,set_ne,set_ne',set_set,st_known,some_ex,all_cons,all_nil',ocI,ocB,ocS,ocP,not_false_eq_true,eq_self,Bool.not_true,Bool.not_false,ldnV_p,cell_old,set_mid,rdn_same,rdn_old,List.take_succ_cons,List.take_zero, f0, f3, f15, g0, g1, g2, g3, t00, adr_lit, Nat.zero_mul, Nat.zero_add] | ((with_reducible refine rows_intro (fun _ hb => ?_)); try simp only [set_none, ne_eq] at hb) | ((with_reducible refine new_intro (fun _ hb => ?_)); try simp only [set_none, ne_eq] at hb) | (with_reducible refine draw_same ?_) | ((with_reducible refine gd_split ?_ (fun _ => ?_) (fun _ => ?_)); exact rfl) | ((with_reducible refine td_split ?_ (fun _ => ?_) (fun _ => ?_)); exact rfl) | (with_reducible refine c_split (fun _ => ?_) (fun _ => ?_)))
    refine st_kn kn3 rfl rfl (by simp only; rw [olen]; show k * 2 + 2 ≤ _; omega) (by simp [vcA, Value.oneCell']) (fun C6 hc6 ho6 k6 => ?_)
    have k6' : Kn C6 b3 ⟨outsF (zeroTo (k + 1) :: List.replicate (qs.length - 1) botF), true, 153, qs.length * 24⟩ := by
      rw [← zeroTo_step hk]; exact k6
    repeat' (first | simp -implicitDefEqProofs only [zA1,zA2,zA3,zA4,zA5,zA6,zA7,zA8,zA9,zA10,zA11,zA12,zA13,zA14,zA15,zA16,zA17,zA18,zA19,zA20,zA21,zA22,zA23,zA24,zA25,zA26,zA27,zA28,zA29,zA30,zA31,zA32,zA33,zA34,zA35,zA36,zB1,zB2,zB3,zB4,zB5,zB6,zB7,zB8,zB9,zB10,zB11,zB12,zB13,zB14,zB15,zB16,zB17,zB18,zB19,zB20,zB21,zB22,zB23,zB24,zB25,zB26,zB27,zB28,zB29,zB30,zB31,zB32,zB33,zB34,zC1,zC2,zC3,zC4,zC5,zC6,zC7,zC8,zC9,zC10,zC11,zC12,zC13,zC14,zC15,zC16,zC17,zC18,zC19,zC20,zC21,zC22,zC23,zC24,zC25,zC26,zC27,zC28,zC29,zC30,zC31,zC32,zC33,zC34,zC35,zC36,zC37,zC38,zC39,le_refl_true,true_and,and_true,needs_some,needs_map,put_at,fr0_zero,fr0_succ,fr0_nil,resV,rval,X.val,binv,adr_adr,adr_zero,adr_lit,adr_some,cell_same,v_cells,v_size,List.getElem?_cons_succ,List.getElem?_cons_zero,Option.isSome_some,Option.bind_some,Option.map_some,fillL,setR,List.set_cons_zero,List.set_cons_succ,vcI,vcB,vcS,vcP,vcF,vcA,vcU,List.toList_toArray,and_self,List.length_cons,List.length_nil,List.size_toArray,List.map_cons,List.map_nil,List.nil_append,List.append_nil,List.cons_append,Int.toNat_natCast,↓reduceIte,Nat.reduceEqDiff,Nat.reduceAdd,Nat.reduceMul,Nat.reduceLeDiff,Nat.reduceLT,Nat.reduceSub,Nat.zero_add,reduceCtorEq,bne_self_eq_false,false_bne',true_bne',cell_ne,cell_ne',set_same,set_ne,set_ne',set_set,st_known,some_ex,all_cons,all_nil',ocI,ocB,ocS,ocP,not_false_eq_true,eq_self,Bool.not_true,Bool.not_false,ldnV_p,cell_old,set_mid,rdn_same,rdn_old,List.take_succ_cons,List.take_zero, f0, f3, f15, g3] | ((with_reducible refine rows_intro (fun _ hb => ?_)); try simp only [set_none, ne_eq] at hb) | ((with_reducible refine new_intro (fun _ hb => ?_)); try simp only [set_none, ne_eq] at hb) | (with_reducible refine draw_same ?_) | ((with_reducible refine gd_split ?_ (fun _ => ?_) (fun _ => ?_)); exact rfl) | ((with_reducible refine td_split ?_ (fun _ => ?_) (fun _ => ?_)); exact rfl) | (with_reducible refine c_split (fun _ => ?_) (fun _ => ?_)))
    exact hN _ _ _ (.refl _) ⟨hc6.keep hle (New.one hb3), k6', (by first | rfl | (simp only [put_at, ↓reduceIte, Nat.reduceEqDiff]; first | done | rfl | assumption) | simp [put_at, *]), (by first | rfl | (simp only [put_at, ↓reduceIte, Nat.reduceEqDiff]; first | done | rfl | assumption) | simp [put_at, *]), (by first | rfl | (simp only [put_at, ↓reduceIte, Nat.reduceEqDiff]; first | done | rfl | assumption) | simp [put_at, *])⟩
  · rintro fr C ⟨hle, kn3, f0, f3, f15⟩ N
    have gz : decide (((12 : Nat) : Int) < 12) = false := by decide
    have eL : outsF (zeroTo 12 :: List.replicate (qs.length - 1) botF) = outsF (facts0 qs.length) := by rw [zeroTo_end]; rfl
    rw [eL] at kn3
    repeat' (first | simp -implicitDefEqProofs only [zA1,zA2,zA3,zA4,zA5,zA6,zA7,zA8,zA9,zA10,zA11,zA12,zA13,zA14,zA15,zA16,zA17,zA18,zA19,zA20,zA21,zA22,zA23,zA24,zA25,zA26,zA27,zA28,zA29,zA30,zA31,zA32,zA33,zA34,zA35,zA36,zB1,zB2,zB3,zB4,zB5,zB6,zB7,zB8,zB9,zB10,zB11,zB12,zB13,zB14,zB15,zB16,zB17,zB18,zB19,zB20,zB21,zB22,zB23,zB24,zB25,zB26,zB27,zB28,zB29,zB30,zB31,zB32,zB33,zB34,zC1,zC2,zC3,zC4,zC5,zC6,zC7,zC8,zC9,zC10,zC11,zC12,zC13,zC14,zC15,zC16,zC17,zC18,zC19,zC20,zC21,zC22,zC23,zC24,zC25,zC26,zC27,zC28,zC29,zC30,zC31,zC32,zC33,zC34,zC35,zC36,zC37,zC38,zC39,le_refl_true,true_and,and_true,needs_some,needs_map,put_at,fr0_zero,fr0_succ,fr0_nil,resV,rval,X.val,binv,adr_adr,adr_zero,adr_lit,adr_some,cell_same,v_cells,v_size,List.getElem?_cons_succ,List.getElem?_cons_zero,Option.isSome_some,Option.bind_some,Option.map_some,fillL,setR,List.set_cons_zero,List.set_cons_succ,vcI,vcB,vcS,vcP,vcF,vcA,vcU,List.toList_toArray,and_self,List.length_cons,List.length_nil,List.size_toArray,List.map_cons,List.map_nil,List.nil_append,List.append_nil,List.cons_append,Int.toNat_natCast,↓reduceIte,Nat.reduceEqDiff,Nat.reduceAdd,Nat.reduceMul,Nat.reduceLeDiff,Nat.reduceLT,Nat.reduceSub,Nat.zero_add,reduceCtorEq,bne_self_eq_false,false_bne',true_bne',cell_ne,cell_ne',set_same,set_ne,set_ne',set_set,st_known,some_ex,all_cons,all_nil',ocI,ocB,ocS,ocP,not_false_eq_true,eq_self,Bool.not_true,Bool.not_false,ldnV_p,cell_old,set_mid,rdn_same,rdn_old,List.take_succ_cons,List.take_zero, f0, f3, f15, gz] | ((with_reducible refine rows_intro (fun _ hb => ?_)); try simp only [set_none, ne_eq] at hb) | ((with_reducible refine new_intro (fun _ hb => ?_)); try simp only [set_none, ne_eq] at hb) | (with_reducible refine draw_same ?_) | ((with_reducible refine gd_split ?_ (fun _ => ?_) (fun _ => ?_)); exact rfl) | ((with_reducible refine td_split ?_ (fun _ => ?_) (fun _ => ?_)); exact rfl) | (with_reducible refine c_split (fun _ => ?_) (fun _ => ?_)))
    rename_i b6
    have h6 : C b6 = none := by assumption
    have l6 := le_fresh0 hle (hle.none h6) ⟨[.int .i64 0], true, 3, 1⟩
    refine while_rule (fun m fr C => ∃ (s : List (List Fc)) (ws : List Nat) (b6 c6 : Nat), m = 2 * (factF qs).pot s + ws.length ∧ m ≤ 40000 ∧ AHeap.le H C ∧ H b6 = none ∧ ¬ b6 = b3 ∧ Kn C b3 ⟨outsF s, true, 153, qs.length * 24⟩ ∧ Kn C b6 ⟨nats ws, true, 3, c6 * 1⟩ ∧ ws.length ≤ c6 ∧ c6 ≤ maxLen ∧
      (factF qs).Below (facts0 qs.length) s ∧ (factF qs).Wk s ws ∧ (∀ x, x ∈ ws → ∃ v, s[x]? = some v ∧ v ≠ botF) ∧ fr 0 = .slice A qs.length c ∧ fr 3 = .slice (some ⟨b3, 0, none⟩) qs.length qs.length ∧ fr 5 = .slice (some ⟨b6, 0, none⟩) ws.length c6) (2 * (factF qs).pot (facts0 qs.length) + 1)
      ⟨facts0 qs.length, [0], b6, 1, rfl, ?_, l6, hle.none h6, fun e => kn3.ne (e ▸ h6), kn3.fresh h6 _, Kn.same _ _ _, by simp, by simp [maxLen], Fw.Below.init (facts0_ok qs _), ?_, ?_, (by first | rfl | (simp only [put_at, ↓reduceIte, Nat.reduceEqDiff]; first | done | rfl | assumption) | simp [put_at, *]), (by first | rfl | (simp only [put_at, ↓reduceIte, Nat.reduceEqDiff]; first | done | rfl | assumption) | simp [put_at, *]), (by first | rfl | (simp only [put_at, ↓reduceIte, Nat.reduceEqDiff]; first | done | rfl | assumption) | simp [put_at, *])⟩ ?_
    · have := Fw.pot_le (F := factF qs) (M := 13) (s := facts0 qs.length) (fun i v _ => htF_le v)
      rw [facts0_len hc.1] at this; omega
    · intro i v hi
      cases i with
      | zero => exact .inl (by simp)
      | succ i =>
        right
        simp only [facts0, List.getElem?_cons_succ, List.getElem?_replicate] at hi
        split at hi
        · obtain rfl := Option.some.inj hi
          intro j hj; simp [factF] at hj
        · cases hi
    · intro x hx; simp at hx; subst hx; exact ⟨zeroF, rfl, zeroF_ne⟩
    rintro m fr C ⟨s, ws, b6, c6, rfl, hm, hle, hb6, hbb3, k3, k6, hwc, hc6, hBel, hWk, hws, f0, f3, f5⟩ N hN
    have hsl : s.length = qs.length := hBel.1.trans (facts0_len hc.1)
    have hok : ∀ v ∈ s, okF v := fun v hv => by
      obtain ⟨i, hi, rfl⟩ := List.getElem_of_mem hv
      exact hBel.2.1 i _ (List.getElem?_eq_getElem hi)
    rcases List.eq_nil_or_concat ws with rfl | ⟨w', x, rfl⟩
    · have d0 : decide (((0 : Nat) : Int) > 0) = false := by decide
      repeat' (first | simp -implicitDefEqProofs only [zA1,zA2,zA3,zA4,zA5,zA6,zA7,zA8,zA9,zA10,zA11,zA12,zA13,zA14,zA15,zA16,zA17,zA18,zA19,zA20,zA21,zA22,zA23,zA24,zA25,zA26,zA27,zA28,zA29,zA30,zA31,zA32,zA33,zA34,zA35,zA36,zB1,zB2,zB3,zB4,zB5,zB6,zB7,zB8,zB9,zB10,zB11,zB12,zB13,zB14,zB15,zB16,zB17,zB18,zB19,zB20,zB21,zB22,zB23,zB24,zB25,zB26,zB27,zB28,zB29,zB30,zB31,zB32,zB33,zB34,zC1,zC2,zC3,zC4,zC5,zC6,zC7,zC8,zC9,zC10,zC11,zC12,zC13,zC14,zC15,zC16,zC17,zC18,zC19,zC20,zC21,zC22,zC23,zC24,zC25,zC26,zC27,zC28,zC29,zC30,zC31,zC32,zC33,zC34,zC35,zC36,zC37,zC38,zC39,le_refl_true,true_and,and_true,needs_some,needs_map,put_at,fr0_zero,fr0_succ,fr0_nil,resV,rval,X.val,binv,adr_adr,adr_zero,adr_lit,adr_some,cell_same,v_cells,v_size,List.getElem?_cons_succ,List.getElem?_cons_zero,Option.isSome_some,Option.bind_some,Option.map_some,fillL,setR,List.set_cons_zero,List.set_cons_succ,vcI,vcB,vcS,vcP,vcF,vcA,vcU,List.toList_toArray,and_self,List.length_cons,List.length_nil,List.size_toArray,List.map_cons,List.map_nil,List.nil_append,List.append_nil,List.cons_append,Int.toNat_natCast,↓reduceIte,Nat.reduceEqDiff,Nat.reduceAdd,Nat.reduceMul,Nat.reduceLeDiff,Nat.reduceLT,Nat.reduceSub,Nat.zero_add,reduceCtorEq,bne_self_eq_false,false_bne',true_bne',cell_ne,cell_ne',set_same,set_ne,set_ne',set_set,st_known,some_ex,all_cons,all_nil',ocI,ocB,ocS,ocP,not_false_eq_true,eq_self,Bool.not_true,Bool.not_false,ldnV_p,cell_old,set_mid,rdn_same,rdn_old,List.take_succ_cons,List.take_zero, f0, f3, f5, d0] | ((with_reducible refine rows_intro (fun _ hb => ?_)); try simp only [set_none, ne_eq] at hb) | ((with_reducible refine new_intro (fun _ hb => ?_)); try simp only [set_none, ne_eq] at hb) | (with_reducible refine draw_same ?_) | ((with_reducible refine gd_split ?_ (fun _ => ?_) (fun _ => ?_)); exact rfl) | ((with_reducible refine td_split ?_ (fun _ => ?_) (fun _ => ?_)); exact rfl) | (with_reducible refine c_split (fun _ => ?_) (fun _ => ?_)))
      have hs : factsL qs = s := Fw.Sol.eq (Fw.Sol.of_wk hBel hWk)
      refine ret_same (h _ _ [b3] hle (New.one hb3) (by rw [hs]; exact hok) (by rw [hs]; exact hsl) ?_)
      rw [hs]
      exact Rw.mk k3 (by rw [outsF_len hok, hsl]) (Nat.le_refl _) (by simp only [maxLen]; omega)
    · simp only [List.concat_eq_append] at *
      obtain ⟨v, hxs, hv0⟩ := hws x (by simp)
      have hxn : x < qs.length := by rw [← hsl]; exact (List.getElem?_eq_some_iff.1 hxs).1
      have hxv : s[x]'(by omega) = v := by rw [List.getElem?_eq_getElem (by omega)] at hxs; exact Option.some.inj hxs
      have hov : okF v := hok v (hxv ▸ List.getElem_mem _)
      have hvl : v.length = 12 := okF_len hov
      have hqv := valid_more (hc.2.2 x hxn) (show (qs.length : Int) ≤ 600 by omega)
      have hlen : (w' ++ [x]).length = w'.length + 1 := by simp
      rw [hlen] at f5 hm hwc
      have d0 : decide (((w'.length + 1 : Nat) : Int) > 0) = true := by simp
      have e1 : IntKind.i64.wrap (((w'.length + 1 : Nat) : Int) - 1) = (w'.length : Int) := by rw [wrap_i64 (by omega) (by omega)]; omega
      have r1 : (0 ≤ (w'.length : Int) ∧ (w'.length : Int) < ((w'.length + 1 : Nat) : Int)) = True := by simp; omega
      have r2 : (0 ≤ (w'.length : Int) ∧ (w'.length : Int) ≤ (c6 : Int)) = True := by simp; omega
      have q1 : C.cell (some ⟨b6, w'.length, none⟩) = some (.int .i64 (x : Int)) := k6.cell (by simp [nats])
      have r3 := rng hxn
      have p5 := (hx.le hle).rdq hxn
      have pA := (hx.le hle).qd_is hxn
      have p24 : C.rdn (some ⟨b3, x * 24, none⟩) 24 = some (fcells v) := by
        have := k3.rdn (l := fcells v) (o := x * 24) fun j hj => by
          rw [fcells_len, hvl] at hj
          rw [outsF_at hok (by omega) j hj, hxv]
        rwa [fcells_len, hvl] at this
      have hBo : okF (behindF qs[x] v) := behindF_ok hov
      have htr : (factF qs).tr x v = behindF qs[x] v := by simp [factF, hxn]
      generalize hBe : behindF qs[x] v = be at hBo htr
      have hBl := okF_len hBo
      have ebl : (fcells be).length = 24 := by rw [fcells_len, hBl]
      have ez : setR (fcells botF) 0 (fcells be) = fcells be := setF_all (by rw [botF, mkF_len, hBl])
      have eoc : (∀ u ∈ fcells be, u.oneCell' = true) = True := eq_true (fcells_oc _)
      have e24 : (0 + 24 ≤ (fcells botF).length) = True := by rw [z24]; simp
      repeat' (first | simp -implicitDefEqProofs only [zA1,zA2,zA3,zA4,zA5,zA6,zA7,zA8,zA9,zA10,zA11,zA12,zA13,zA14,zA15,zA16,zA17,zA18,zA19,zA20,zA21,zA22,zA23,zA24,zA25,zA26,zA27,zA28,zA29,zA30,zA31,zA32,zA33,zA34,zA35,zA36,zB1,zB2,zB3,zB4,zB5,zB6,zB7,zB8,zB9,zB10,zB11,zB12,zB13,zB14,zB15,zB16,zB17,zB18,zB19,zB20,zB21,zB22,zB23,zB24,zB25,zB26,zB27,zB28,zB29,zB30,zB31,zB32,zB33,zB34,zC1,zC2,zC3,zC4,zC5,zC6,zC7,zC8,zC9,zC10,zC11,zC12,zC13,zC14,zC15,zC16,zC17,zC18,zC19,zC20,zC21,zC22,zC23,zC24,zC25,zC26,zC27,zC28,zC29,zC30,zC31,zC32,zC33,zC34,zC35,zC36,zC37,zC38,zC39,le_refl_true,true_and,and_true,needs_some,needs_map,put_at,fr0_zero,fr0_succ,fr0_nil,resV,rval,X.val,binv,adr_adr,adr_zero,adr_lit,adr_some,cell_same,v_cells,v_size,List.getElem?_cons_succ,List.getElem?_cons_zero,Option.isSome_some,Option.bind_some,Option.map_some,fillL,setR,List.set_cons_zero,List.set_cons_succ,vcI,vcB,vcS,vcP,vcF,vcA,vcU,List.toList_toArray,and_self,List.length_cons,List.length_nil,List.size_toArray,List.map_cons,List.map_nil,List.nil_append,List.append_nil,List.cons_append,Int.toNat_natCast,↓reduceIte,Nat.reduceEqDiff,Nat.reduceAdd,Nat.reduceMul,Nat.reduceLeDiff,Nat.reduceLT,Nat.reduceSub,Nat.zero_add,reduceCtorEq,bne_self_eq_false,false_bne',true_bne',cell_ne,cell_ne',set_same,set_ne,set_ne',set_set,st_known,some_ex,all_cons,all_nil',ocI,ocB,ocS,ocP,not_false_eq_true,eq_self,Bool.not_true,Bool.not_false,ldnV_p,cell_old,set_mid,rdn_same,rdn_old,List.take_succ_cons,List.take_zero, f0, f3, f5, d0, e1, r1, r2, r3, q1, p5, pA, p24, zero24, z24, ebl, ez, eoc, e24, adr_lit, Nat.mul_one, Nat.zero_add, bnds, bndv, Option.map_none, Nat.sub_zero, Nat.zero_mul, ite_self] | ((with_reducible refine rows_intro (fun _ hb => ?_)); try simp only [set_none, ne_eq] at hb) | ((with_reducible refine new_intro (fun _ hb => ?_)); try simp only [set_none, ne_eq] at hb) | (with_reducible refine draw_same ?_) | ((with_reducible refine gd_split ?_ (fun _ => ?_) (fun _ => ?_)); exact rfl) | ((with_reducible refine td_split ?_ (fun _ => ?_) (fun _ => ?_)); exact rfl) | (with_reducible refine c_split (fun _ => ?_) (fun _ => ?_)) | (with_reducible refine behindFI_ok _ _ _ qs[x] hqv v hov hv0 ?_) | (rw [hBe]) | (with_reducible refine And.intro ((AHeap.le.refl _).fresh (by assumption) _) ?_) | (with_reducible refine And.intro ?_ ?_))
      all_goals
        rename_i b8
        have hb8 : C b8 = none := by assumption
        have h8 : H b8 = none := hle.none hb8
        have k8 := Kn.same C b8 ⟨fcells be, true, 153, 24⟩
        have lb8 := (AHeap.le.refl C).fresh hb8 ⟨fcells be, true, 153, 24⟩
        have hb8b3 : ¬ b8 = b3 := fun e => k3.ne (e ▸ hb8)
        have hb8b6 : ¬ b8 = b6 := fun e => k6.ne (e ▸ hb8)
        repeat' (first | simp -implicitDefEqProofs only [zA1,zA2,zA3,zA4,zA5,zA6,zA7,zA8,zA9,zA10,zA11,zA12,zA13,zA14,zA15,zA16,zA17,zA18,zA19,zA20,zA21,zA22,zA23,zA24,zA25,zA26,zA27,zA28,zA29,zA30,zA31,zA32,zA33,zA34,zA35,zA36,zB1,zB2,zB3,zB4,zB5,zB6,zB7,zB8,zB9,zB10,zB11,zB12,zB13,zB14,zB15,zB16,zB17,zB18,zB19,zB20,zB21,zB22,zB23,zB24,zB25,zB26,zB27,zB28,zB29,zB30,zB31,zB32,zB33,zB34,zC1,zC2,zC3,zC4,zC5,zC6,zC7,zC8,zC9,zC10,zC11,zC12,zC13,zC14,zC15,zC16,zC17,zC18,zC19,zC20,zC21,zC22,zC23,zC24,zC25,zC26,zC27,zC28,zC29,zC30,zC31,zC32,zC33,zC34,zC35,zC36,zC37,zC38,zC39,le_refl_true,true_and,and_true,needs_some,needs_map,put_at,fr0_zero,fr0_succ,fr0_nil,resV,rval,X.val,binv,adr_adr,adr_zero,adr_lit,adr_some,cell_same,v_cells,v_size,List.getElem?_cons_succ,List.getElem?_cons_zero,Option.isSome_some,Option.bind_some,Option.map_some,fillL,setR,List.set_cons_zero,List.set_cons_succ,vcI,vcB,vcS,vcP,vcF,vcA,vcU,List.toList_toArray,and_self,List.length_cons,List.length_nil,List.size_toArray,List.map_cons,List.map_nil,List.nil_append,List.append_nil,List.cons_append,Int.toNat_natCast,↓reduceIte,Nat.reduceEqDiff,Nat.reduceAdd,Nat.reduceMul,Nat.reduceLeDiff,Nat.reduceLT,Nat.reduceSub,Nat.zero_add,reduceCtorEq,bne_self_eq_false,false_bne',true_bne',cell_ne,cell_ne',set_same,set_ne,set_ne',set_set,st_known,some_ex,all_cons,all_nil',ocI,ocB,ocS,ocP,not_false_eq_true,eq_self,Bool.not_true,Bool.not_false,ldnV_p,cell_old,set_mid,rdn_same,rdn_old,List.take_succ_cons,List.take_zero, hb8, p5, p24] | ((with_reducible refine rows_intro (fun _ hb => ?_)); try simp only [set_none, ne_eq] at hb) | ((with_reducible refine new_intro (fun _ hb => ?_)); try simp only [set_none, ne_eq] at hb) | (with_reducible refine draw_same ?_) | ((with_reducible refine gd_split ?_ (fun _ => ?_) (fun _ => ?_)); exact rfl) | ((with_reducible refine td_split ?_ (fun _ => ?_) (fun _ => ?_)); exact rfl) | (with_reducible refine c_split (fun _ => ?_) (fun _ => ?_)) | (with_reducible refine carried_ok _ _ _ qs[x] hqv x (by omega) v hvl (fun v2 C2 bs2 l2 n2 w2 => ?_)))
        obtain ⟨A2, e2, rfl, -⟩ := w2.fl
        have l82 := lb8.trans l2
        have hes : (factF qs).edges x v = (edgesQ qs[x] x v).map Int.toNat := by simp [factF, hv0, edgesF_eq hxn]
        have hpop := hWk.pop hxs
        have hesl := edgesQ_le qs[x] x v
        have hbs2 : ∀ y kk, Kn (C.set b8 ⟨fcells be, true, 153, 24⟩) y kk → ¬ y ∈ bs2 := fun y kk hk hm => hk.ne (n2 y hm)
        have k82 := k8.trans l2
        have hEin : ∀ y, y ∈ edgesQ qs[x] x v → 0 ≤ y ∧ y < qs.length := fun y hy => edgesQ_in hv hxn hy
        generalize hE : edgesQ qs[x] x v = es at w2 hes hesl hEin
        repeat' (first | simp -implicitDefEqProofs only [zA1,zA2,zA3,zA4,zA5,zA6,zA7,zA8,zA9,zA10,zA11,zA12,zA13,zA14,zA15,zA16,zA17,zA18,zA19,zA20,zA21,zA22,zA23,zA24,zA25,zA26,zA27,zA28,zA29,zA30,zA31,zA32,zA33,zA34,zA35,zA36,zB1,zB2,zB3,zB4,zB5,zB6,zB7,zB8,zB9,zB10,zB11,zB12,zB13,zB14,zB15,zB16,zB17,zB18,zB19,zB20,zB21,zB22,zB23,zB24,zB25,zB26,zB27,zB28,zB29,zB30,zB31,zB32,zB33,zB34,zC1,zC2,zC3,zC4,zC5,zC6,zC7,zC8,zC9,zC10,zC11,zC12,zC13,zC14,zC15,zC16,zC17,zC18,zC19,zC20,zC21,zC22,zC23,zC24,zC25,zC26,zC27,zC28,zC29,zC30,zC31,zC32,zC33,zC34,zC35,zC36,zC37,zC38,zC39,le_refl_true,true_and,and_true,needs_some,needs_map,put_at,fr0_zero,fr0_succ,fr0_nil,resV,rval,X.val,binv,adr_adr,adr_zero,adr_lit,adr_some,cell_same,v_cells,v_size,List.getElem?_cons_succ,List.getElem?_cons_zero,Option.isSome_some,Option.bind_some,Option.map_some,fillL,setR,List.set_cons_zero,List.set_cons_succ,vcI,vcB,vcS,vcP,vcF,vcA,vcU,List.toList_toArray,and_self,List.length_cons,List.length_nil,List.size_toArray,List.map_cons,List.map_nil,List.nil_append,List.append_nil,List.cons_append,Int.toNat_natCast,↓reduceIte,Nat.reduceEqDiff,Nat.reduceAdd,Nat.reduceMul,Nat.reduceLeDiff,Nat.reduceLT,Nat.reduceSub,Nat.zero_add,reduceCtorEq,bne_self_eq_false,false_bne',true_bne',cell_ne,cell_ne',set_same,set_ne,set_ne',set_set,st_known,some_ex,all_cons,all_nil',ocI,ocB,ocS,ocP,not_false_eq_true,eq_self,Bool.not_true,Bool.not_false,ldnV_p,cell_old,set_mid,rdn_same,rdn_old,List.take_succ_cons,List.take_zero] | ((with_reducible refine rows_intro (fun _ hb => ?_)); try simp only [set_none, ne_eq] at hb) | ((with_reducible refine new_intro (fun _ hb => ?_)); try simp only [set_none, ne_eq] at hb) | (with_reducible refine draw_same ?_) | ((with_reducible refine gd_split ?_ (fun _ => ?_) (fun _ => ?_)); exact rfl) | ((with_reducible refine td_split ?_ (fun _ => ?_) (fun _ => ?_)); exact rfl) | (with_reducible refine c_split (fun _ => ?_) (fun _ => ?_)))
        refine ⟨l2, ?_⟩
        refine for_rule es.length (fun k fr C' => ∃ (s' : List (List Fc)) (ws : List Nat) (b6 c6 : Nat), 2 * (factF qs).pot s' + ws.length ≤ 2 * (factF qs).pot s + w'.length ∧ AHeap.le H C' ∧ H b6 = none ∧ ¬ b6 = b3 ∧ ¬ b6 = b8 ∧ Kn C' b3 ⟨outsF s', true, 153, qs.length * 24⟩ ∧ Kn C' b6 ⟨nats ws, true, 3, c6 * 1⟩ ∧ ws.length ≤ c6 ∧ c6 ≤ maxLen ∧
          Kn C' b8 ⟨fcells be, true, 153, 24⟩ ∧ Rw C' 3 1 (.slice A2 es.length e2) es.length (ints es) bs2 ∧ ¬ b6 ∈ bs2 ∧ (factF qs).Below (facts0 qs.length) s' ∧ (factF qs).Mid s' ws x v k ∧ (∀ x, x ∈ ws → ∃ v, s'[x]? = some v ∧ v ≠ botF) ∧
          fr 0 = .slice A qs.length c ∧ fr 3 = .slice (some ⟨b3, 0, none⟩) qs.length qs.length ∧ fr 5 = .slice (some ⟨b6, 0, none⟩) ws.length c6 ∧ fr 7 = .pointer (some ⟨b8, 0, none⟩) ∧ fr 57 = .slice A2 es.length e2 ∧ fr 58 = .int .i64 es.length ∧ fr 59 = .int .i64 k)
          ⟨s, w', b6, c6, Nat.le_refl _, hle.trans l82, hb6, hbb3, fun e => hb8b6 e.symm, k3.trans l82, (k6.trans l82).weaken (fun j v hv => ?_), by omega, hc6, k82, w2, hbs2 _ _ (k6.trans lb8), hBel, hpop, fun y hy => hws y (by simp [hy]), (by first | rfl | (simp only [put_at, ↓reduceIte, Nat.reduceEqDiff]; first | done | rfl | assumption) | simp [put_at, *]), (by first | rfl | (simp only [put_at, ↓reduceIte, Nat.reduceEqDiff]; first | done | rfl | assumption) | simp [put_at, *]), (by first | rfl | (simp only [put_at, ↓reduceIte, Nat.reduceEqDiff]; first | done | rfl | assumption) | simp [put_at, *]), (by first | rfl | (simp only [put_at, ↓reduceIte, Nat.reduceEqDiff]; first | done | rfl | assumption) | simp [put_at, *]), (by first | rfl | (simp only [put_at, ↓reduceIte, Nat.reduceEqDiff]; first | done | rfl | assumption) | simp [put_at, *]), (by first | rfl | (simp only [put_at, ↓reduceIte, Nat.reduceEqDiff]; first | done | rfl | assumption) | simp [put_at, *]), (by first | rfl | (simp only [put_at, ↓reduceIte, Nat.reduceEqDiff]; first | done | rfl | assumption) | simp [put_at, *])⟩ ?_ ?_
        · rw [nats_snoc]
          have := (List.getElem?_eq_some_iff.1 hv).1
          rw [List.getElem?_append_left this]; exact hv
        · rintro k fr C' hk ⟨s', ws, b7, c7, hpot, hle', hb7, hbb3', hbb8', k3', k7', hwc', hc7, k8', w2', hb7n, hBel', hMid, hws', f0, f3, f5, f7, f57, f58, f59⟩ N' hN'
          have hsl' : s'.length = qs.length := hBel'.1.trans (facts0_len hc.1)
          have hok' : ∀ v ∈ s', okF v := fun v hv => by
            obtain ⟨i, hi, rfl⟩ := List.getElem_of_mem hv
            exact hBel'.2.1 i _ (List.getElem?_eq_getElem hi)
          have g0 := lt_dec hk
          have g1 := rng hk
          have g2 := up1 hk (by omega)
          have hin := hEin _ (List.getElem_mem hk)
          obtain ⟨j, hj⟩ : ∃ j : Nat, es[k] = (j : Int) := ⟨(es[k]).toNat, by omega⟩
          rw [hj] at hin
          have hjn : j < qs.length := by omega
          have hje : ((factF qs).edges x v)[k]? = some j := by rw [hes]; simp [hk, hj]
          have q1 := w2'.fl'.1.int hk
          rw [hj] at q1
          have q2 := w2'.fl'.1.ints_is hk
          have g3 := rng hjn
          obtain ⟨u, hu⟩ : ∃ u, s'[j]'(by omega) = u := ⟨_, rfl⟩
          have hsj : s'[j]? = some u := by rw [List.getElem?_eq_getElem (by omega), hu]
          have hou : okF u := hok' u (hu ▸ List.getElem_mem _)
          have hul := okF_len hou
          have nb3 : ¬ b3 ∈ bs2 := hbs2 _ _ (k3.trans lb8)
          have p24j : C'.rdn (some ⟨b3, j * 24, none⟩) 24 = some (fcells u) := by
            have := k3'.rdn (l := fcells u) (o := j * 24) fun i hi => by
              rw [fcells_len, hul] at hi
              rw [outsF_at hok' (by omega) i hi, hu]
            rwa [fcells_len, hul] at this
          have eul : (fcells u).length = 24 := by rw [fcells_len, hul]
          have ezu : setR (fcells botF) 0 (fcells u) = fcells u := setF_all (by rw [botF, mkF_len, hul])
          have eocu : (∀ w ∈ fcells u, w.oneCell' = true) = True := eq_true (fcells_oc _)
          repeat' (first | simp -implicitDefEqProofs only [zA1,zA2,zA3,zA4,zA5,zA6,zA7,zA8,zA9,zA10,zA11,zA12,zA13,zA14,zA15,zA16,zA17,zA18,zA19,zA20,zA21,zA22,zA23,zA24,zA25,zA26,zA27,zA28,zA29,zA30,zA31,zA32,zA33,zA34,zA35,zA36,zB1,zB2,zB3,zB4,zB5,zB6,zB7,zB8,zB9,zB10,zB11,zB12,zB13,zB14,zB15,zB16,zB17,zB18,zB19,zB20,zB21,zB22,zB23,zB24,zB25,zB26,zB27,zB28,zB29,zB30,zB31,zB32,zB33,zB34,zC1,zC2,zC3,zC4,zC5,zC6,zC7,zC8,zC9,zC10,zC11,zC12,zC13,zC14,zC15,zC16,zC17,zC18,zC19,zC20,zC21,zC22,zC23,zC24,zC25,zC26,zC27,zC28,zC29,zC30,zC31,zC32,zC33,zC34,zC35,zC36,zC37,zC38,zC39,le_refl_true,true_and,and_true,needs_some,needs_map,put_at,fr0_zero,fr0_succ,fr0_nil,resV,rval,X.val,binv,adr_adr,adr_zero,adr_lit,adr_some,cell_same,v_cells,v_size,List.getElem?_cons_succ,List.getElem?_cons_zero,Option.isSome_some,Option.bind_some,Option.map_some,fillL,setR,List.set_cons_zero,List.set_cons_succ,vcI,vcB,vcS,vcP,vcF,vcA,vcU,List.toList_toArray,and_self,List.length_cons,List.length_nil,List.size_toArray,List.map_cons,List.map_nil,List.nil_append,List.append_nil,List.cons_append,Int.toNat_natCast,↓reduceIte,Nat.reduceEqDiff,Nat.reduceAdd,Nat.reduceMul,Nat.reduceLeDiff,Nat.reduceLT,Nat.reduceSub,Nat.zero_add,reduceCtorEq,bne_self_eq_false,false_bne',true_bne',cell_ne,cell_ne',set_same,set_ne,set_ne',set_set,st_known,some_ex,all_cons,all_nil',ocI,ocB,ocS,ocP,not_false_eq_true,eq_self,Bool.not_true,Bool.not_false,ldnV_p,cell_old,set_mid,rdn_same,rdn_old,List.take_succ_cons,List.take_zero, f0, f3, f5, f7, f57, f58, f59, g0, g1, g2, g3, q1, q2, p24j, zero24, z24, eul, ezu, eocu, e24, adr_lit, Nat.mul_one, Nat.zero_add] | ((with_reducible refine rows_intro (fun _ hb => ?_)); try simp only [set_none, ne_eq] at hb) | ((with_reducible refine new_intro (fun _ hb => ?_)); try simp only [set_none, ne_eq] at hb) | (with_reducible refine draw_same ?_) | ((with_reducible refine gd_split ?_ (fun _ => ?_) (fun _ => ?_)); exact rfl) | ((with_reducible refine td_split ?_ (fun _ => ?_) (fun _ => ?_)); exact rfl) | (with_reducible refine c_split (fun _ => ?_) (fun _ => ?_)))
          rename_i b10
          have h10 : C' b10 = none := by assumption
          have k10 := Kn.same C' b10 ⟨fcells u, true, 153, 24⟩
          have l10 := (AHeap.le.refl C').fresh h10 ⟨fcells u, true, 153, 24⟩
          generalize C'.set b10 ⟨fcells u, true, 153, 24⟩ = C10 at k10 l10
          refine for_rule 12 (fun r fr C'' => AHeap.le C' C'' ∧ Kn C'' b10 ⟨fcells (joinTo u be r), true, 153, 24⟩ ∧
            fr 0 = .slice A qs.length c ∧ fr 3 = .slice (some ⟨b3, 0, none⟩) qs.length qs.length ∧ fr 5 = .slice (some ⟨b7, 0, none⟩) ws.length c7 ∧ fr 7 = .pointer (some ⟨b8, 0, none⟩) ∧ fr 9 = .int .i64 j ∧ fr 10 = .pointer (some ⟨b10, 0, none⟩) ∧ fr 57 = .slice A2 es.length e2 ∧ fr 58 = .int .i64 es.length ∧ fr 59 = .int .i64 k ∧ fr 67 = .int .i64 r)
            ⟨l10, by rw [joinTo_zero hul]; exact k10, (by first | rfl | (simp only [put_at, ↓reduceIte, Nat.reduceEqDiff]; first | done | rfl | assumption) | simp [put_at, *]), (by first | rfl | (simp only [put_at, ↓reduceIte, Nat.reduceEqDiff]; first | done | rfl | assumption) | simp [put_at, *]), (by first | rfl | (simp only [put_at, ↓reduceIte, Nat.reduceEqDiff]; first | done | rfl | assumption) | simp [put_at, *]), (by first | rfl | (simp only [put_at, ↓reduceIte, Nat.reduceEqDiff]; first | done | rfl | assumption) | simp [put_at, *]), (by first | rfl | (simp only [put_at, ↓reduceIte, Nat.reduceEqDiff]; first | done | rfl | assumption) | simp [put_at, *]), (by first | rfl | (simp only [put_at, ↓reduceIte, Nat.reduceEqDiff]; first | done | rfl | assumption) | simp [put_at, *]), (by first | rfl | (simp only [put_at, ↓reduceIte, Nat.reduceEqDiff]; first | done | rfl | assumption) | simp [put_at, *]), (by first | rfl | (simp only [put_at, ↓reduceIte, Nat.reduceEqDiff]; first | done | rfl | assumption) | simp [put_at, *]), (by first | rfl | (simp only [put_at, ↓reduceIte, Nat.reduceEqDiff]; first | done | rfl | assumption) | simp [put_at, *]), (by first | rfl | (simp only [put_at, ↓reduceIte, Nat.reduceEqDiff]; first | done | rfl | assumption) | simp [put_at, *])⟩ ?_ ?_
          · rintro r fr C'' hr ⟨hl'', kk10, f0, f3, f5, f7, f9, f10, f57, f58, f59, f67⟩ N2 hN2
            have j0 : decide ((r : Int) < 12) = true := by simp; omega
            have j1 : (0 ≤ (r : Int) ∧ (r : Int) < ((12 : Nat) : Int)) = True := by simp; omega
            have j2 := up1 hr (by omega)
            have hjl : (joinTo u be r).length = 12 := mkF_len _
            have m1 := (kk10.fact (i := r) (by omega)).1
            have m2 := ((k8'.trans hl'').fact (i := r) (by omega)).1
            have eu : (joinTo u be r)[r]'(by omega) = fAt u r := by rw [← fAt_eq, joinTo_at hr]
            have eb : be[r]'(by omega) = fAt be r := (fAt_eq _).symm
            rw [eu] at m1
            rw [eb] at m2
            have hset := joinTo_set (a := u) (b := be) hr
            have hfs := fcells_set (fs := joinTo u be r) (k := r) (by omega) (joinR (fAt u r) (fAt be r))
            rw [hset] at hfs
            repeat' (first | simp -implicitDefEqProofs only [zA1,zA2,zA3,zA4,zA5,zA6,zA7,zA8,zA9,zA10,zA11,zA12,zA13,zA14,zA15,zA16,zA17,zA18,zA19,zA20,zA21,zA22,zA23,zA24,zA25,zA26,zA27,zA28,zA29,zA30,zA31,zA32,zA33,zA34,zA35,zA36,zB1,zB2,zB3,zB4,zB5,zB6,zB7,zB8,zB9,zB10,zB11,zB12,zB13,zB14,zB15,zB16,zB17,zB18,zB19,zB20,zB21,zB22,zB23,zB24,zB25,zB26,zB27,zB28,zB29,zB30,zB31,zB32,zB33,zB34,zC1,zC2,zC3,zC4,zC5,zC6,zC7,zC8,zC9,zC10,zC11,zC12,zC13,zC14,zC15,zC16,zC17,zC18,zC19,zC20,zC21,zC22,zC23,zC24,zC25,zC26,zC27,zC28,zC29,zC30,zC31,zC32,zC33,zC34,zC35,zC36,zC37,zC38,zC39,le_refl_true,true_and,and_true,needs_some,needs_map,put_at,fr0_zero,fr0_succ,fr0_nil,resV,rval,X.val,binv,adr_adr,adr_zero,adr_lit,adr_some,cell_same,v_cells,v_size,List.getElem?_cons_succ,List.getElem?_cons_zero,Option.isSome_some,Option.bind_some,Option.map_some,fillL,setR,List.set_cons_zero,List.set_cons_succ,vcI,vcB,vcS,vcP,vcF,vcA,vcU,List.toList_toArray,and_self,List.length_cons,List.length_nil,List.size_toArray,List.map_cons,List.map_nil,List.nil_append,List.append_nil,List.cons_append,Int.toNat_natCast,↓reduceIte,Nat.reduceEqDiff,Nat.reduceAdd,Nat.reduceMul,Nat.reduceLeDiff,Nat.reduceLT,Nat.reduceSub,Nat.zero_add,reduceCtorEq,bne_self_eq_false,false_bne',true_bne',cell_ne,cell_ne',set_same,set_ne,set_ne',set_set,st_known,some_ex,all_cons,all_nil',ocI,ocB,ocS,ocP,not_false_eq_true,eq_self,Bool.not_true,Bool.not_false,ldnV_p,cell_old,set_mid,rdn_same,rdn_old,List.take_succ_cons,List.take_zero, f0, f3, f5, f7, f9, f10, f57, f58, f59, f67, j0, j1, j2, m1, m2, adr_lit, Nat.zero_add] | ((with_reducible refine rows_intro (fun _ hb => ?_)); try simp only [set_none, ne_eq] at hb) | ((with_reducible refine new_intro (fun _ hb => ?_)); try simp only [set_none, ne_eq] at hb) | (with_reducible refine draw_same ?_) | ((with_reducible refine gd_split ?_ (fun _ => ?_) (fun _ => ?_)); exact rfl) | ((with_reducible refine td_split ?_ (fun _ => ?_) (fun _ => ?_)); exact rfl) | (with_reducible refine c_split (fun _ => ?_) (fun _ => ?_)) | (with_reducible refine joinR_ok _ _ _ (fAt u r) (fAt be r) ?_))
            refine st_kn kk10 rfl rfl (by simp only; rw [fcells_len, hjl]; show r * 2 + 2 ≤ _; omega) (by simp [vcA, Value.oneCell']) (fun C6 hc6 ho6 k6 => ?_)
            have k6' : Kn C6 b10 ⟨fcells (joinTo u be (r + 1)), true, 153, 24⟩ := by rw [← hfs]; exact k6
            repeat' (first | simp -implicitDefEqProofs only [zA1,zA2,zA3,zA4,zA5,zA6,zA7,zA8,zA9,zA10,zA11,zA12,zA13,zA14,zA15,zA16,zA17,zA18,zA19,zA20,zA21,zA22,zA23,zA24,zA25,zA26,zA27,zA28,zA29,zA30,zA31,zA32,zA33,zA34,zA35,zA36,zB1,zB2,zB3,zB4,zB5,zB6,zB7,zB8,zB9,zB10,zB11,zB12,zB13,zB14,zB15,zB16,zB17,zB18,zB19,zB20,zB21,zB22,zB23,zB24,zB25,zB26,zB27,zB28,zB29,zB30,zB31,zB32,zB33,zB34,zC1,zC2,zC3,zC4,zC5,zC6,zC7,zC8,zC9,zC10,zC11,zC12,zC13,zC14,zC15,zC16,zC17,zC18,zC19,zC20,zC21,zC22,zC23,zC24,zC25,zC26,zC27,zC28,zC29,zC30,zC31,zC32,zC33,zC34,zC35,zC36,zC37,zC38,zC39,le_refl_true,true_and,and_true,needs_some,needs_map,put_at,fr0_zero,fr0_succ,fr0_nil,resV,rval,X.val,binv,adr_adr,adr_zero,adr_lit,adr_some,cell_same,v_cells,v_size,List.getElem?_cons_succ,List.getElem?_cons_zero,Option.isSome_some,Option.bind_some,Option.map_some,fillL,setR,List.set_cons_zero,List.set_cons_succ,vcI,vcB,vcS,vcP,vcF,vcA,vcU,List.toList_toArray,and_self,List.length_cons,List.length_nil,List.size_toArray,List.map_cons,List.map_nil,List.nil_append,List.append_nil,List.cons_append,Int.toNat_natCast,↓reduceIte,Nat.reduceEqDiff,Nat.reduceAdd,Nat.reduceMul,Nat.reduceLeDiff,Nat.reduceLT,Nat.reduceSub,Nat.zero_add,reduceCtorEq,bne_self_eq_false,false_bne',true_bne',cell_ne,cell_ne',set_same,set_ne,set_ne',set_set,st_known,some_ex,all_cons,all_nil',ocI,ocB,ocS,ocP,not_false_eq_true,eq_self,Bool.not_true,Bool.not_false,ldnV_p,cell_old,set_mid,rdn_same,rdn_old,List.take_succ_cons,List.take_zero, f0, f3, f5, f7, f9, f10, f57, f58, f59, f67, j2] | ((with_reducible refine rows_intro (fun _ hb => ?_)); try simp only [set_none, ne_eq] at hb) | ((with_reducible refine new_intro (fun _ hb => ?_)); try simp only [set_none, ne_eq] at hb) | (with_reducible refine draw_same ?_) | ((with_reducible refine gd_split ?_ (fun _ => ?_) (fun _ => ?_)); exact rfl) | ((with_reducible refine td_split ?_ (fun _ => ?_) (fun _ => ?_)); exact rfl) | (with_reducible refine c_split (fun _ => ?_) (fun _ => ?_)))
            exact hN2 _ _ _ (.refl _) ⟨hc6.keep hl'' (New.one h10), k6', (by first | rfl | (simp only [put_at, ↓reduceIte, Nat.reduceEqDiff]; first | done | rfl | assumption) | simp [put_at, *]), (by first | rfl | (simp only [put_at, ↓reduceIte, Nat.reduceEqDiff]; first | done | rfl | assumption) | simp [put_at, *]), (by first | rfl | (simp only [put_at, ↓reduceIte, Nat.reduceEqDiff]; first | done | rfl | assumption) | simp [put_at, *]), (by first | rfl | (simp only [put_at, ↓reduceIte, Nat.reduceEqDiff]; first | done | rfl | assumption) | simp [put_at, *]), (by first | rfl | (simp only [put_at, ↓reduceIte, Nat.reduceEqDiff]; first | done | rfl | assumption) | simp [put_at, *]), (by first | rfl | (simp only [put_at, ↓reduceIte, Nat.reduceEqDiff]; first | done | rfl | assumption) | simp [put_at, *]), (by first | rfl | (simp only [put_at, ↓reduceIte, Nat.reduceEqDiff]; first | done | rfl | assumption) | simp [put_at, *]), (by first | rfl | (simp only [put_at, ↓reduceIte, Nat.reduceEqDiff]; first | done | rfl | assumption) | simp [put_at, *]), (by first | rfl | (simp only [put_at, ↓reduceIte, Nat.reduceEqDiff]; first | done | rfl | assumption) | simp [put_at, *]), (by first | rfl | (simp only [put_at, ↓reduceIte, Nat.reduceEqDiff]; first | done | rfl | assumption) | simp [put_at, *])⟩
          · rintro fr C'' ⟨hl'', kk10, f0, f3, f5, f7, f9, f10, f57, f58, f59, f67⟩ N2
            have gz : decide (((12 : Nat) : Int) < 12) = false := by decide
            rw [joinTo_end] at kk10
            have ej : (factF qs).join u ((factF qs).tr x v) = joinFs u be := by rw [htr]; rfl
            have hyo : okF (joinFs u be) := joinFs_ok hou hBo
            generalize hy0 : joinFs u be = y at kk10 ej hyo
            have hyl := okF_len hyo
            have r10 := rd24 kk10 hyl
            have p24y := hl''.rdn p24j
            repeat' (first | simp -implicitDefEqProofs only [zA1,zA2,zA3,zA4,zA5,zA6,zA7,zA8,zA9,zA10,zA11,zA12,zA13,zA14,zA15,zA16,zA17,zA18,zA19,zA20,zA21,zA22,zA23,zA24,zA25,zA26,zA27,zA28,zA29,zA30,zA31,zA32,zA33,zA34,zA35,zA36,zB1,zB2,zB3,zB4,zB5,zB6,zB7,zB8,zB9,zB10,zB11,zB12,zB13,zB14,zB15,zB16,zB17,zB18,zB19,zB20,zB21,zB22,zB23,zB24,zB25,zB26,zB27,zB28,zB29,zB30,zB31,zB32,zB33,zB34,zC1,zC2,zC3,zC4,zC5,zC6,zC7,zC8,zC9,zC10,zC11,zC12,zC13,zC14,zC15,zC16,zC17,zC18,zC19,zC20,zC21,zC22,zC23,zC24,zC25,zC26,zC27,zC28,zC29,zC30,zC31,zC32,zC33,zC34,zC35,zC36,zC37,zC38,zC39,le_refl_true,true_and,and_true,needs_some,needs_map,put_at,fr0_zero,fr0_succ,fr0_nil,resV,rval,X.val,binv,adr_adr,adr_zero,adr_lit,adr_some,cell_same,v_cells,v_size,List.getElem?_cons_succ,List.getElem?_cons_zero,Option.isSome_some,Option.bind_some,Option.map_some,fillL,setR,List.set_cons_zero,List.set_cons_succ,vcI,vcB,vcS,vcP,vcF,vcA,vcU,List.toList_toArray,and_self,List.length_cons,List.length_nil,List.size_toArray,List.map_cons,List.map_nil,List.nil_append,List.append_nil,List.cons_append,Int.toNat_natCast,↓reduceIte,Nat.reduceEqDiff,Nat.reduceAdd,Nat.reduceMul,Nat.reduceLeDiff,Nat.reduceLT,Nat.reduceSub,Nat.zero_add,reduceCtorEq,bne_self_eq_false,false_bne',true_bne',cell_ne,cell_ne',set_same,set_ne,set_ne',set_set,st_known,some_ex,all_cons,all_nil',ocI,ocB,ocS,ocP,not_false_eq_true,eq_self,Bool.not_true,Bool.not_false,ldnV_p,cell_old,set_mid,rdn_same,rdn_old,List.take_succ_cons,List.take_zero, f0, f3, f5, f7, f9, f10, f57, f58, f59, f67, gz, g3, r10, p24y, adr_lit, Nat.zero_add] | ((with_reducible refine rows_intro (fun _ hb => ?_)); try simp only [set_none, ne_eq] at hb) | ((with_reducible refine new_intro (fun _ hb => ?_)); try simp only [set_none, ne_eq] at hb) | (with_reducible refine draw_same ?_) | ((with_reducible refine gd_split ?_ (fun _ => ?_) (fun _ => ?_)); exact rfl) | ((with_reducible refine td_split ?_ (fun _ => ?_) (fun _ => ?_)); exact rfl) | (with_reducible refine c_split (fun _ => ?_) (fun _ => ?_)))
            refine eqsK_fs hyl hul ?_
            by_cases hmu : y = u
            · have dm : (true != decide (y = u)) = false := by simp [hmu]
              rw [dm]
              repeat' (first | simp -implicitDefEqProofs only [zA1,zA2,zA3,zA4,zA5,zA6,zA7,zA8,zA9,zA10,zA11,zA12,zA13,zA14,zA15,zA16,zA17,zA18,zA19,zA20,zA21,zA22,zA23,zA24,zA25,zA26,zA27,zA28,zA29,zA30,zA31,zA32,zA33,zA34,zA35,zA36,zB1,zB2,zB3,zB4,zB5,zB6,zB7,zB8,zB9,zB10,zB11,zB12,zB13,zB14,zB15,zB16,zB17,zB18,zB19,zB20,zB21,zB22,zB23,zB24,zB25,zB26,zB27,zB28,zB29,zB30,zB31,zB32,zB33,zB34,zC1,zC2,zC3,zC4,zC5,zC6,zC7,zC8,zC9,zC10,zC11,zC12,zC13,zC14,zC15,zC16,zC17,zC18,zC19,zC20,zC21,zC22,zC23,zC24,zC25,zC26,zC27,zC28,zC29,zC30,zC31,zC32,zC33,zC34,zC35,zC36,zC37,zC38,zC39,le_refl_true,true_and,and_true,needs_some,needs_map,put_at,fr0_zero,fr0_succ,fr0_nil,resV,rval,X.val,binv,adr_adr,adr_zero,adr_lit,adr_some,cell_same,v_cells,v_size,List.getElem?_cons_succ,List.getElem?_cons_zero,Option.isSome_some,Option.bind_some,Option.map_some,fillL,setR,List.set_cons_zero,List.set_cons_succ,vcI,vcB,vcS,vcP,vcF,vcA,vcU,List.toList_toArray,and_self,List.length_cons,List.length_nil,List.size_toArray,List.map_cons,List.map_nil,List.nil_append,List.append_nil,List.cons_append,Int.toNat_natCast,↓reduceIte,Nat.reduceEqDiff,Nat.reduceAdd,Nat.reduceMul,Nat.reduceLeDiff,Nat.reduceLT,Nat.reduceSub,Nat.zero_add,reduceCtorEq,bne_self_eq_false,false_bne',true_bne',cell_ne,cell_ne',set_same,set_ne,set_ne',set_set,st_known,some_ex,all_cons,all_nil',ocI,ocB,ocS,ocP,not_false_eq_true,eq_self,Bool.not_true,Bool.not_false,ldnV_p,cell_old,set_mid,rdn_same,rdn_old,List.take_succ_cons,List.take_zero, f0, f3, f5, f7, f9, f10, f57, f58, f59, dm, g2] | ((with_reducible refine rows_intro (fun _ hb => ?_)); try simp only [set_none, ne_eq] at hb) | ((with_reducible refine new_intro (fun _ hb => ?_)); try simp only [set_none, ne_eq] at hb) | (with_reducible refine draw_same ?_) | ((with_reducible refine gd_split ?_ (fun _ => ?_) (fun _ => ?_)); exact rfl) | ((with_reducible refine td_split ?_ (fun _ => ?_) (fun _ => ?_)); exact rfl) | (with_reducible refine c_split (fun _ => ?_) (fun _ => ?_)))
              exact hN' _ _ C' hl'' ⟨s', ws, b7, c7, hpot, hle', hb7, hbb3', hbb8', k3', k7', hwc', hc7, k8', w2', hb7n, hBel', hMid.keep hje hsj (Fw.le_of_join hou ((factF qs).ok_tr hov) (ej.trans hmu)), hws', (by first | rfl | (simp only [put_at, ↓reduceIte, Nat.reduceEqDiff]; first | done | rfl | assumption) | simp [put_at, *]), (by first | rfl | (simp only [put_at, ↓reduceIte, Nat.reduceEqDiff]; first | done | rfl | assumption) | simp [put_at, *]), (by first | rfl | (simp only [put_at, ↓reduceIte, Nat.reduceEqDiff]; first | done | rfl | assumption) | simp [put_at, *]), (by first | rfl | (simp only [put_at, ↓reduceIte, Nat.reduceEqDiff]; first | done | rfl | assumption) | simp [put_at, *]), (by first | rfl | (simp only [put_at, ↓reduceIte, Nat.reduceEqDiff]; first | done | rfl | assumption) | simp [put_at, *]), (by first | rfl | (simp only [put_at, ↓reduceIte, Nat.reduceEqDiff]; first | done | rfl | assumption) | simp [put_at, *]), (by first | rfl | (simp only [put_at, ↓reduceIte, Nat.reduceEqDiff]; first | done | rfl | assumption) | simp [put_at, *])⟩
            · have dm : (true != decide (y = u)) = true := by simp [hmu]
              rw [dm]
              have eyl : (fcells y).length = 24 := by rw [fcells_len, hyl]
              repeat' (first | simp -implicitDefEqProofs only [zA1,zA2,zA3,zA4,zA5,zA6,zA7,zA8,zA9,zA10,zA11,zA12,zA13,zA14,zA15,zA16,zA17,zA18,zA19,zA20,zA21,zA22,zA23,zA24,zA25,zA26,zA27,zA28,zA29,zA30,zA31,zA32,zA33,zA34,zA35,zA36,zB1,zB2,zB3,zB4,zB5,zB6,zB7,zB8,zB9,zB10,zB11,zB12,zB13,zB14,zB15,zB16,zB17,zB18,zB19,zB20,zB21,zB22,zB23,zB24,zB25,zB26,zB27,zB28,zB29,zB30,zB31,zB32,zB33,zB34,zC1,zC2,zC3,zC4,zC5,zC6,zC7,zC8,zC9,zC10,zC11,zC12,zC13,zC14,zC15,zC16,zC17,zC18,zC19,zC20,zC21,zC22,zC23,zC24,zC25,zC26,zC27,zC28,zC29,zC30,zC31,zC32,zC33,zC34,zC35,zC36,zC37,zC38,zC39,le_refl_true,true_and,and_true,needs_some,needs_map,put_at,fr0_zero,fr0_succ,fr0_nil,resV,rval,X.val,binv,adr_adr,adr_zero,adr_lit,adr_some,cell_same,v_cells,v_size,List.getElem?_cons_succ,List.getElem?_cons_zero,Option.isSome_some,Option.bind_some,Option.map_some,fillL,setR,List.set_cons_zero,List.set_cons_succ,vcI,vcB,vcS,vcP,vcF,vcA,vcU,List.toList_toArray,and_self,List.length_cons,List.length_nil,List.size_toArray,List.map_cons,List.map_nil,List.nil_append,List.append_nil,List.cons_append,Int.toNat_natCast,↓reduceIte,Nat.reduceEqDiff,Nat.reduceAdd,Nat.reduceMul,Nat.reduceLeDiff,Nat.reduceLT,Nat.reduceSub,Nat.zero_add,reduceCtorEq,bne_self_eq_false,false_bne',true_bne',cell_ne,cell_ne',set_same,set_ne,set_ne',set_set,st_known,some_ex,all_cons,all_nil',ocI,ocB,ocS,ocP,not_false_eq_true,eq_self,Bool.not_true,Bool.not_false,ldnV_p,cell_old,set_mid,rdn_same,rdn_old,List.take_succ_cons,List.take_zero, f0, f3, f5, f7, f9, f10, f57, f58, f59, dm, g2, g3, r10, adr_lit, Nat.zero_add] | ((with_reducible refine rows_intro (fun _ hb => ?_)); try simp only [set_none, ne_eq] at hb) | ((with_reducible refine new_intro (fun _ hb => ?_)); try simp only [set_none, ne_eq] at hb) | (with_reducible refine draw_same ?_) | ((with_reducible refine gd_split ?_ (fun _ => ?_) (fun _ => ?_)); exact rfl) | ((with_reducible refine td_split ?_ (fun _ => ?_) (fun _ => ?_)); exact rfl) | (with_reducible refine c_split (fun _ => ?_) (fun _ => ?_)))
              refine st_kn (k3'.trans hl'') rfl (by rw [vcA]; simp [fcells_len, hyl]) (by simp only; rw [outsF_len hok']; omega) (by rw [v_cells]; exact fcells_oc _) (fun C6 hc6 ho6 k6' => ?_)
              rw [v_cells] at k6'
              simp only [] at k6'
              rw [outsF_set hok' (by omega) hyl] at k6'
              have l6 := hc6.keep (hle'.trans hl'') (New.one hb3)
              have k76 := (k7'.trans hl'').chg hc6 (by simpa using hbb3')
              have k86 := (k8'.trans hl'').chg hc6 (by simpa using hb8b3)
              have w26 := (w2'.trans hl'').chg hc6 (fun z hz e => nb3 (by simp at e; exact e ▸ hz))
              repeat' (first | simp -implicitDefEqProofs only [zA1,zA2,zA3,zA4,zA5,zA6,zA7,zA8,zA9,zA10,zA11,zA12,zA13,zA14,zA15,zA16,zA17,zA18,zA19,zA20,zA21,zA22,zA23,zA24,zA25,zA26,zA27,zA28,zA29,zA30,zA31,zA32,zA33,zA34,zA35,zA36,zB1,zB2,zB3,zB4,zB5,zB6,zB7,zB8,zB9,zB10,zB11,zB12,zB13,zB14,zB15,zB16,zB17,zB18,zB19,zB20,zB21,zB22,zB23,zB24,zB25,zB26,zB27,zB28,zB29,zB30,zB31,zB32,zB33,zB34,zC1,zC2,zC3,zC4,zC5,zC6,zC7,zC8,zC9,zC10,zC11,zC12,zC13,zC14,zC15,zC16,zC17,zC18,zC19,zC20,zC21,zC22,zC23,zC24,zC25,zC26,zC27,zC28,zC29,zC30,zC31,zC32,zC33,zC34,zC35,zC36,zC37,zC38,zC39,le_refl_true,true_and,and_true,needs_some,needs_map,put_at,fr0_zero,fr0_succ,fr0_nil,resV,rval,X.val,binv,adr_adr,adr_zero,adr_lit,adr_some,cell_same,v_cells,v_size,List.getElem?_cons_succ,List.getElem?_cons_zero,Option.isSome_some,Option.bind_some,Option.map_some,fillL,setR,List.set_cons_zero,List.set_cons_succ,vcI,vcB,vcS,vcP,vcF,vcA,vcU,List.toList_toArray,and_self,List.length_cons,List.length_nil,List.size_toArray,List.map_cons,List.map_nil,List.nil_append,List.append_nil,List.cons_append,Int.toNat_natCast,↓reduceIte,Nat.reduceEqDiff,Nat.reduceAdd,Nat.reduceMul,Nat.reduceLeDiff,Nat.reduceLT,Nat.reduceSub,Nat.zero_add,reduceCtorEq,bne_self_eq_false,false_bne',true_bne',cell_ne,cell_ne',set_same,set_ne,set_ne',set_set,st_known,some_ex,all_cons,all_nil',ocI,ocB,ocS,ocP,not_false_eq_true,eq_self,Bool.not_true,Bool.not_false,ldnV_p,cell_old,set_mid,rdn_same,rdn_old,List.take_succ_cons,List.take_zero, f0, f3, f5, f7, f9, f10, f57, f58, f59, g2] | ((with_reducible refine rows_intro (fun _ hb => ?_)); try simp only [set_none, ne_eq] at hb) | ((with_reducible refine new_intro (fun _ hb => ?_)); try simp only [set_none, ne_eq] at hb) | (with_reducible refine draw_same ?_) | ((with_reducible refine gd_split ?_ (fun _ => ?_) (fun _ => ?_)); exact rfl) | ((with_reducible refine td_split ?_ (fun _ => ?_) (fun _ => ?_)); exact rfl) | (with_reducible refine c_split (fun _ => ?_) (fun _ => ?_)))
              rename_i b12
              have h12 : C6 b12 = none := by assumption
              have l12 := (AHeap.le.refl C6).fresh h12 ⟨[.int .i64 (j : Int)], true, 3, 1⟩
              refine app_rw (z := [.int .i64 0]) (news := nats [j]) (n := ws.length) (Rw.mk (k76.trans l12) (by simp [nats_len]) hwc' hc7) (Fl.blk _ _ _ _ fun _ _ h => h) rfl (by simp [nats, ocI]) (by simp only [maxLen]; omega) (by omega) (fun v' C9 bs9 hc9 hn9 w9 => ?_)
              obtain ⟨b9, c9, rfl, rfl, hl9, hm9, -, k9⟩ := w9.open_ (by omega)
              have hb9 : b9 = b7 ∨ (C6.set b12 ⟨[.int .i64 (j : Int)], true, 3, 1⟩) b9 = none := by simpa using hn9 b9 (by simp)
              have hpl := Fw.pot_lt (F := factF qs) (x := y) hsj (by rw [← ej]; exact (factF qs).ht_lt hou ((factF qs).ok_tr hov) (by rw [ej]; exact hmu))
              have e1 : (ws ++ [j]).length = ws.length + 1 := by simp
              have kk9 : ∀ z kk, ¬ z = b7 → Kn C6 z kk → Kn C9 z kk ∧ ¬ b9 = z := fun z kk hz hk => by
                refine ⟨(hk.trans l12).chg hc9 (by simpa using hz), fun e => ?_⟩
                rcases hb9 with rfl | hb9
                · exact hz e.symm
                · exact (hk.trans l12).ne (e ▸ hb9)
              obtain ⟨a3, a4⟩ := kk9 _ _ (fun e => hbb3' e.symm) k6'
              obtain ⟨a5, a6⟩ := kk9 _ _ (fun e => hbb8' e.symm) k86
              have hy0b : y ≠ botF := fun e => by
                have h1 : (factF qs).le u y := by rw [← ej]; exact (factF qs).join_l hou ((factF qs).ok_tr hov)
                rcases h1 with h1 | ⟨h1, _⟩
                · exact hmu (e.trans h1.symm)
                · exact h1 e
              repeat' (first | simp -implicitDefEqProofs only [zA1,zA2,zA3,zA4,zA5,zA6,zA7,zA8,zA9,zA10,zA11,zA12,zA13,zA14,zA15,zA16,zA17,zA18,zA19,zA20,zA21,zA22,zA23,zA24,zA25,zA26,zA27,zA28,zA29,zA30,zA31,zA32,zA33,zA34,zA35,zA36,zB1,zB2,zB3,zB4,zB5,zB6,zB7,zB8,zB9,zB10,zB11,zB12,zB13,zB14,zB15,zB16,zB17,zB18,zB19,zB20,zB21,zB22,zB23,zB24,zB25,zB26,zB27,zB28,zB29,zB30,zB31,zB32,zB33,zB34,zC1,zC2,zC3,zC4,zC5,zC6,zC7,zC8,zC9,zC10,zC11,zC12,zC13,zC14,zC15,zC16,zC17,zC18,zC19,zC20,zC21,zC22,zC23,zC24,zC25,zC26,zC27,zC28,zC29,zC30,zC31,zC32,zC33,zC34,zC35,zC36,zC37,zC38,zC39,le_refl_true,true_and,and_true,needs_some,needs_map,put_at,fr0_zero,fr0_succ,fr0_nil,resV,rval,X.val,binv,adr_adr,adr_zero,adr_lit,adr_some,cell_same,v_cells,v_size,List.getElem?_cons_succ,List.getElem?_cons_zero,Option.isSome_some,Option.bind_some,Option.map_some,fillL,setR,List.set_cons_zero,List.set_cons_succ,vcI,vcB,vcS,vcP,vcF,vcA,vcU,List.toList_toArray,and_self,List.length_cons,List.length_nil,List.size_toArray,List.map_cons,List.map_nil,List.nil_append,List.append_nil,List.cons_append,Int.toNat_natCast,↓reduceIte,Nat.reduceEqDiff,Nat.reduceAdd,Nat.reduceMul,Nat.reduceLeDiff,Nat.reduceLT,Nat.reduceSub,Nat.zero_add,reduceCtorEq,bne_self_eq_false,false_bne',true_bne',cell_ne,cell_ne',set_same,set_ne,set_ne',set_set,st_known,some_ex,all_cons,all_nil',ocI,ocB,ocS,ocP,not_false_eq_true,eq_self,Bool.not_true,Bool.not_false,ldnV_p,cell_old,set_mid,rdn_same,rdn_old,List.take_succ_cons,List.take_zero, f0, f3, f5, f7, f9, f10, f57, f58, f59, g2] | ((with_reducible refine rows_intro (fun _ hb => ?_)); try simp only [set_none, ne_eq] at hb) | ((with_reducible refine new_intro (fun _ hb => ?_)); try simp only [set_none, ne_eq] at hb) | (with_reducible refine draw_same ?_) | ((with_reducible refine gd_split ?_ (fun _ => ?_) (fun _ => ?_)); exact rfl) | ((with_reducible refine td_split ?_ (fun _ => ?_) (fun _ => ?_)); exact rfl) | (with_reducible refine c_split (fun _ => ?_) (fun _ => ?_)))
              refine hN' _ _ _ (.refl _) ⟨s'.set j y, ws ++ [j], b9, c9, by rw [e1]; omega, hc9.keep (l6.trans l12) (New.one hb7), ?_, a4, a6, a3, by rw [show nats (ws ++ [j]) = nats ws ++ nats [j] by simp [nats]]; exact k9, by rw [e1]; exact hl9, hm9, a5, (w26.trans l12).chg hc9 (fun z hz e => hb7n (by simp at e; exact e ▸ hz)), ?_, ?_, ?_, ?_, (by first | rfl | (simp only [put_at, ↓reduceIte, Nat.reduceEqDiff]; first | done | rfl | assumption) | simp [put_at, *]), (by first | rfl | (simp only [put_at, ↓reduceIte, Nat.reduceEqDiff]; first | done | rfl | assumption) | simp [put_at, *]), by rw [e1]; exact (by first | rfl | (simp only [put_at, ↓reduceIte, Nat.reduceEqDiff]; first | done | rfl | assumption) | simp [put_at, *]), (by first | rfl | (simp only [put_at, ↓reduceIte, Nat.reduceEqDiff]; first | done | rfl | assumption) | simp [put_at, *]), (by first | rfl | (simp only [put_at, ↓reduceIte, Nat.reduceEqDiff]; first | done | rfl | assumption) | simp [put_at, *]), (by first | rfl | (simp only [put_at, ↓reduceIte, Nat.reduceEqDiff]; first | done | rfl | assumption) | simp [put_at, *]), (by first | rfl | (simp only [put_at, ↓reduceIte, Nat.reduceEqDiff]; first | done | rfl | assumption) | simp [put_at, *])⟩
              · rcases hb9 with rfl | hb9
                · exact hb7
                · exact (l6.trans l12).none hb9
              · rcases hb9 with rfl | hb9
                · exact hb7n
                · intro hm
                  rcases w26.trans l12 with ⟨_, _, _, rfl⟩ | ⟨bb, cap, _, rfl, _, _, _, kk⟩
                  · simp at hm
                  · simp at hm; subst hm; exact kk.ne hb9
              · rw [← ej]
                exact hBel'.step (i := x) (j := j) (hBel.lo hxs) (List.mem_of_getElem? hje) hsj (by rw [facts0_len hc.1]; exact hxn)
              · refine hMid.push hje hsj ?_ ?_
                · rw [← ej]; exact (factF qs).join_r hou ((factF qs).ok_tr hov)
                · rw [← ej]; exact (factF qs).join_l hou ((factF qs).ok_tr hov)
              · intro z hz
                rw [Fw.set_get hsj]
                split
                · exact ⟨y, rfl, hy0b⟩
                · rename_i hne'
                  rcases List.mem_append.1 hz with hz | hz
                  · exact hws' z hz
                  · exact absurd (by simpa using hz) hne'
        · rintro fr C' ⟨s', ws, b7, c7, hpot, hle', hb7, hbb3', hbb8', k3', k7', hwc', hc7, k8', w2', hb7n, hBel', hMid, hws', f0, f3, f5, f7, f57, f58, f59⟩ N'
          have g0 : decide ((es.length : Int) < (es.length : Int)) = false := by simp
          repeat' (first | simp -implicitDefEqProofs only [zA1,zA2,zA3,zA4,zA5,zA6,zA7,zA8,zA9,zA10,zA11,zA12,zA13,zA14,zA15,zA16,zA17,zA18,zA19,zA20,zA21,zA22,zA23,zA24,zA25,zA26,zA27,zA28,zA29,zA30,zA31,zA32,zA33,zA34,zA35,zA36,zB1,zB2,zB3,zB4,zB5,zB6,zB7,zB8,zB9,zB10,zB11,zB12,zB13,zB14,zB15,zB16,zB17,zB18,zB19,zB20,zB21,zB22,zB23,zB24,zB25,zB26,zB27,zB28,zB29,zB30,zB31,zB32,zB33,zB34,zC1,zC2,zC3,zC4,zC5,zC6,zC7,zC8,zC9,zC10,zC11,zC12,zC13,zC14,zC15,zC16,zC17,zC18,zC19,zC20,zC21,zC22,zC23,zC24,zC25,zC26,zC27,zC28,zC29,zC30,zC31,zC32,zC33,zC34,zC35,zC36,zC37,zC38,zC39,le_refl_true,true_and,and_true,needs_some,needs_map,put_at,fr0_zero,fr0_succ,fr0_nil,resV,rval,X.val,binv,adr_adr,adr_zero,adr_lit,adr_some,cell_same,v_cells,v_size,List.getElem?_cons_succ,List.getElem?_cons_zero,Option.isSome_some,Option.bind_some,Option.map_some,fillL,setR,List.set_cons_zero,List.set_cons_succ,vcI,vcB,vcS,vcP,vcF,vcA,vcU,List.toList_toArray,and_self,List.length_cons,List.length_nil,List.size_toArray,List.map_cons,List.map_nil,List.nil_append,List.append_nil,List.cons_append,Int.toNat_natCast,↓reduceIte,Nat.reduceEqDiff,Nat.reduceAdd,Nat.reduceMul,Nat.reduceLeDiff,Nat.reduceLT,Nat.reduceSub,Nat.zero_add,reduceCtorEq,bne_self_eq_false,false_bne',true_bne',cell_ne,cell_ne',set_same,set_ne,set_ne',set_set,st_known,some_ex,all_cons,all_nil',ocI,ocB,ocS,ocP,not_false_eq_true,eq_self,Bool.not_true,Bool.not_false,ldnV_p,cell_old,set_mid,rdn_same,rdn_old,List.take_succ_cons,List.take_zero, f0, f3, f5, f7, f57, f58, f59, g0] | ((with_reducible refine rows_intro (fun _ hb => ?_)); try simp only [set_none, ne_eq] at hb) | ((with_reducible refine new_intro (fun _ hb => ?_)); try simp only [set_none, ne_eq] at hb) | (with_reducible refine draw_same ?_) | ((with_reducible refine gd_split ?_ (fun _ => ?_) (fun _ => ?_)); exact rfl) | ((with_reducible refine td_split ?_ (fun _ => ?_) (fun _ => ?_)); exact rfl) | (with_reducible refine c_split (fun _ => ?_) (fun _ => ?_)))
          exact hN _ _ _ _ (by rw [hlen]; omega) (.refl _) ⟨s', ws, b7, c7, rfl, by omega, hle', hb7, hbb3', k3', k7', hwc', hc7, hBel', hMid.done (by rw [hes]; simp), hws', (by first | rfl | (simp only [put_at, ↓reduceIte, Nat.reduceEqDiff]; first | done | rfl | assumption) | simp [put_at, *]), (by first | rfl | (simp only [put_at, ↓reduceIte, Nat.reduceEqDiff]; first | done | rfl | assumption) | simp [put_at, *]), (by first | rfl | (simp only [put_at, ↓reduceIte, Nat.reduceEqDiff]; first | done | rfl | assumption) | simp [put_at, *])⟩
end Go.Proofs.Ytfjhjfddgdokgaa
