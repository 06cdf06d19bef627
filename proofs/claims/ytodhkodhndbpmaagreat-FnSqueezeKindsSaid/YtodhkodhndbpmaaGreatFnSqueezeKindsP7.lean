/- The statement FnSqueezeKinds holds for all arguments; part 7 of the texts that show it. No further condition. -/
import Derived.Test.YtodhkodhndbpmaaGreatFnSqueezeKindsP6
namespace Go.Proofs.YtodhkodhndbpmaaGreat
set_option linter.all false
open Go Go.RowKit Go.Joins Go.ChangeShapes Go.WideShapes Go.ChangeAt Go.Deep
set_option linter.unusedVariables false
set_option maxRecDepth 100000
open Classical in
theorem lawSqueezeKinds_ok (w0 : World) (H : AHeap) (K : Value → AHeap → Prop) (A : Option Addr) (n c : Nat) (zs : List Int) (hF : Fl H A (u8s zs)) (hr : ∀ z ∈ zs, 0 ≤ z ∧ z < 256) (hl : zs.length = n) (hc : n ≤ c) (h : ∀ H', K (.bool true) H') :
    ACalls Tryz.prog w0 8 [.slice A n c] H K := by
  refine acalls_of_sx mix Tryz.func8 of8 (by simp [ir8]) ?_; rw [ir8]; (try delta qT qI qC qO qM qG)
  repeat' (first | simp -implicitDefEqProofs only [zG1,zG2,zG3,zG4,zG5,zG6,zG7,eq_self,resV,rval,X.val,binv,fillL,setR,↓reduceIte,Nat.reduceEqDiff,Nat.reduceAdd,Nat.reduceMul,Nat.reduceLeDiff,Nat.reduceLT,Nat.reduceSub,reduceCtorEq,zGq] | ((with_reducible refine rows_intro (fun _ hb => ?_)); try simp only [set_none, ne_eq] at hb) | ((with_reducible refine new_intro (fun _ hb => ?_)); try simp only [set_none, ne_eq] at hb) | (with_reducible refine draw_same ?_) | ((with_reducible refine gd_split ?_ (fun _ => ?_) (fun _ => ?_)); exact rfl) | ((with_reducible refine td_split ?_ (fun _ => ?_) (fun _ => ?_)); exact rfl) | (with_reducible refine c_split (fun _ => ?_) (fun _ => ?_)))
  · exact ret_same (h _)
  refine drawSqueezeCode_ok _ _ _ A n c zs hF hr hl hc (fun qs v C r hm => ?_)
  obtain ⟨A1, c1, rfl, f⟩ := r.fl
  repeat' (first | simp -implicitDefEqProofs only [zG1,zG2,zG3,zG4,zG5,zG6,zG7,eq_self,resV,rval,X.val,binv,fillL,setR,↓reduceIte,Nat.reduceEqDiff,Nat.reduceAdd,Nat.reduceMul,Nat.reduceLeDiff,Nat.reduceLT,Nat.reduceSub,reduceCtorEq,zGq] | ((with_reducible refine rows_intro (fun _ hb => ?_)); try simp only [set_none, ne_eq] at hb) | ((with_reducible refine new_intro (fun _ hb => ?_)); try simp only [set_none, ne_eq] at hb) | (with_reducible refine draw_same ?_) | ((with_reducible refine gd_split ?_ (fun _ => ?_) (fun _ => ?_)); exact rfl) | ((with_reducible refine td_split ?_ (fun _ => ?_) (fun _ => ?_)); exact rfl) | (with_reducible refine c_split (fun _ => ?_) (fun _ => ?_)))
  refine squeezeCode_ok _ _ _ A1 c1 qs f (fun v1 C1 b1 l1 n1 r1 => ?_)
  obtain ⟨A2, c2, rfl, f1⟩ := r1.fl
  have f' := f.le l1
  repeat' (first | simp -implicitDefEqProofs only [zG1,zG2,zG3,zG4,zG5,zG6,zG7,eq_self,resV,rval,X.val,binv,fillL,setR,↓reduceIte,Nat.reduceEqDiff,Nat.reduceAdd,Nat.reduceMul,Nat.reduceLeDiff,Nat.reduceLT,Nat.reduceSub,reduceCtorEq,zGq] | ((with_reducible refine rows_intro (fun _ hb => ?_)); try simp only [set_none, ne_eq] at hb) | ((with_reducible refine new_intro (fun _ hb => ?_)); try simp only [set_none, ne_eq] at hb) | (with_reducible refine draw_same ?_) | ((with_reducible refine gd_split ?_ (fun _ => ?_) (fun _ => ?_)); exact rfl) | ((with_reducible refine td_split ?_ (fun _ => ?_) (fun _ => ?_)); exact rfl) | (with_reducible refine c_split (fun _ => ?_) (fun _ => ?_)))
  refine squeezeCodeS_ok _ _ _ A1 c1 qs f' (fun v2 C2 b2 l2 n2 r2 => ?_)
  obtain ⟨A3, c3, rfl, f2⟩ := r2.fl
  have f'' := f'.le l2
  have f1' := f1.le l2
  have hle : (squeeze qs).length ≤ 4611686018427387904 := by cases hv : codeValid qs with
    | false => simp [squeeze, hv]
    | true => have := squeeze_le' hv; omega
  cases hv : codeValid qs with
  | false =>
    have e : squeeze qs = [] := by simp [squeeze, hv]
    rw [e] at f1' f2
    repeat' (first | simp -implicitDefEqProofs only [zG1,zG2,zG3,zG4,zG5,zG6,zG7,eq_self,resV,rval,X.val,binv,fillL,setR,↓reduceIte,Nat.reduceEqDiff,Nat.reduceAdd,Nat.reduceMul,Nat.reduceLeDiff,Nat.reduceLT,Nat.reduceSub,reduceCtorEq,zGq, e, bne_self_eq_false, beq_self_eq_true, decide_true, List.length_nil] | ((with_reducible refine rows_intro (fun _ hb => ?_)); try simp only [set_none, ne_eq] at hb) | ((with_reducible refine new_intro (fun _ hb => ?_)); try simp only [set_none, ne_eq] at hb) | (with_reducible refine draw_same ?_) | ((with_reducible refine gd_split ?_ (fun _ => ?_) (fun _ => ?_)); exact rfl) | ((with_reducible refine td_split ?_ (fun _ => ?_) (fun _ => ?_)); exact rfl) | (with_reducible refine c_split (fun _ => ?_) (fun _ => ?_)) | (refine sameCode_ok _ _ _ A2 A3 c2 c3 [] [] f1' f2 (by simp) ?_))
    exact ret_same (h _)
  | true =>
    have hsl := squeeze_le' hv
    have hcc := code_at hv
    repeat' (first | simp -implicitDefEqProofs only [zG1,zG2,zG3,zG4,zG5,zG6,zG7,eq_self,resV,rval,X.val,binv,fillL,setR,↓reduceIte,Nat.reduceEqDiff,Nat.reduceAdd,Nat.reduceMul,Nat.reduceLeDiff,Nat.reduceLT,Nat.reduceSub,reduceCtorEq,zGq, bne_self_eq_false, beq_self_eq_true, decide_true] | ((with_reducible refine rows_intro (fun _ hb => ?_)); try simp only [set_none, ne_eq] at hb) | ((with_reducible refine new_intro (fun _ hb => ?_)); try simp only [set_none, ne_eq] at hb) | (with_reducible refine draw_same ?_) | ((with_reducible refine gd_split ?_ (fun _ => ?_) (fun _ => ?_)); exact rfl) | ((with_reducible refine td_split ?_ (fun _ => ?_) (fun _ => ?_)); exact rfl) | (with_reducible refine c_split (fun _ => ?_) (fun _ => ?_)) | (with_reducible refine sameCode_ok _ _ _ A2 A3 c2 c3 _ _ f1' f2 (by omega) ?_))
    refine codeReach_ok _ _ _ A1 c1 _ f'' (fun v3 C3 b3 l3 n3 r3 => ?_)
    rw [show codeReach qs = reachL qs by simp [codeReach, hv]] at r3
    obtain ⟨A4, c4, rfl, g1'⟩ := r3.fl
    have fq := f''.le l3
    have f1'' := f1'.le l3
    have hl1 := reachL_len qs
    repeat' (first | simp -implicitDefEqProofs only [zG1,zG2,zG3,zG4,zG5,zG6,zG7,eq_self,resV,rval,X.val,binv,fillL,setR,↓reduceIte,Nat.reduceEqDiff,Nat.reduceAdd,Nat.reduceMul,Nat.reduceLeDiff,Nat.reduceLT,Nat.reduceSub,reduceCtorEq,zGq] | ((with_reducible refine rows_intro (fun _ hb => ?_)); try simp only [set_none, ne_eq] at hb) | ((with_reducible refine new_intro (fun _ hb => ?_)); try simp only [set_none, ne_eq] at hb) | (with_reducible refine draw_same ?_) | ((with_reducible refine gd_split ?_ (fun _ => ?_) (fun _ => ?_)); exact rfl) | ((with_reducible refine td_split ?_ (fun _ => ?_) (fun _ => ?_)); exact rfl) | (with_reducible refine c_split (fun _ => ?_) (fun _ => ?_)))
    refine for_rule qs.length (fun k fr C' => Row C3 C' 36 5 (fr 9) (leftQ qs k).length (qcells (leftQ qs k)) ∧ fr 3 = .slice A1 qs.length c1 ∧ fr 4 = .slice A2 (squeeze qs).length c2 ∧ fr 8 = .slice A4 (reachL qs).length c4 ∧ fr 10 = .int .i64 k) ⟨Row.lit0 hb, (by first | rfl | (simp only [put_at, ↓reduceIte, Nat.reduceEqDiff]; first | done | rfl | assumption) | simp [put_at, *]), (by first | rfl | (simp only [put_at, ↓reduceIte, Nat.reduceEqDiff]; first | done | rfl | assumption) | simp [put_at, *]), (by first | rfl | (simp only [put_at, ↓reduceIte, Nat.reduceEqDiff]; first | done | rfl | assumption) | simp [put_at, *]), (by first | rfl | (simp only [put_at, ↓reduceIte, Nat.reduceEqDiff]; first | done | rfl | assumption) | simp [put_at, *])⟩ ?_ ?_
    · rintro k fr C5 hk ⟨rr, f3, f4, f8, f10⟩ N hN
      have l5 := rr.hle
      have g0 := lt_dec hk
      have g1 := rng hk
      have ga := rng (k := k) (n := (reachL qs).length) (by omega)
      have g2 := up1 hk (by omega)
      have p0 := (fq.le l5).quad hk
      have q1 := (g1'.le l5).bool (i := k) (by omega)
      have q0 := (g1'.le l5).bools_is (i := k) (by omega)
      have hk' : k < (reachL qs).length := by omega
      have hs := leftQ_step hk (List.getElem?_eq_getElem hk')
      have hll := leftQ_le qs k
      generalize hR : (reachL qs)[k]'hk' = R at q1 hs
      obtain ⟨A9, c9, e9, -⟩ := rr.fl
      cases R with
      | false =>
        repeat' (first | simp -implicitDefEqProofs only [zG1,zG2,zG3,zG4,zG5,zG6,zG7,eq_self,resV,rval,X.val,binv,fillL,setR,↓reduceIte,Nat.reduceEqDiff,Nat.reduceAdd,Nat.reduceMul,Nat.reduceLeDiff,Nat.reduceLT,Nat.reduceSub,reduceCtorEq,zGq, f3, f4, f8, f10, g0, g1, ga, g2, q0, q1, Nat.mul_one] | ((with_reducible refine rows_intro (fun _ hb => ?_)); try simp only [set_none, ne_eq] at hb) | ((with_reducible refine new_intro (fun _ hb => ?_)); try simp only [set_none, ne_eq] at hb) | (with_reducible refine draw_same ?_) | ((with_reducible refine gd_split ?_ (fun _ => ?_) (fun _ => ?_)); exact rfl) | ((with_reducible refine td_split ?_ (fun _ => ?_) (fun _ => ?_)); exact rfl) | (with_reducible refine c_split (fun _ => ?_) (fun _ => ?_)))
        refine hN _ _ _ (.refl _) ⟨?_, (by first | rfl | (simp only [put_at, ↓reduceIte, Nat.reduceEqDiff]; first | done | rfl | assumption) | simp [put_at, *]), (by first | rfl | (simp only [put_at, ↓reduceIte, Nat.reduceEqDiff]; first | done | rfl | assumption) | simp [put_at, *]), (by first | rfl | (simp only [put_at, ↓reduceIte, Nat.reduceEqDiff]; first | done | rfl | assumption) | simp [put_at, *]), (by first | rfl | (simp only [put_at, ↓reduceIte, Nat.reduceEqDiff]; first | done | rfl | assumption) | simp [put_at, *])⟩
        rw [hs]; simpa [put_at] using rr
      | true =>
        repeat' (first | simp -implicitDefEqProofs only [zG1,zG2,zG3,zG4,zG5,zG6,zG7,eq_self,resV,rval,X.val,binv,fillL,setR,↓reduceIte,Nat.reduceEqDiff,Nat.reduceAdd,Nat.reduceMul,Nat.reduceLeDiff,Nat.reduceLT,Nat.reduceSub,reduceCtorEq,zGq, f3, f4, f8, f10, g0, g1, ga, g2, q0, q1, p0, Nat.mul_one, Nat.add_zero] | ((with_reducible refine rows_intro (fun _ hb => ?_)); try simp only [set_none, ne_eq] at hb) | ((with_reducible refine new_intro (fun _ hb => ?_)); try simp only [set_none, ne_eq] at hb) | (with_reducible refine draw_same ?_) | ((with_reducible refine gd_split ?_ (fun _ => ?_) (fun _ => ?_)); exact rfl) | ((with_reducible refine td_split ?_ (fun _ => ?_) (fun _ => ?_)); exact rfl) | (with_reducible refine c_split (fun _ => ?_) (fun _ => ?_)))
        refine rr.app1 (news := qs[k].cells) (m := 1) hb rfl (q_oc _) (by simp only [maxLen]; omega) (by omega) (fun v6 C6 r6 => ?_)
        repeat' (first | simp -implicitDefEqProofs only [zG1,zG2,zG3,zG4,zG5,zG6,zG7,eq_self,resV,rval,X.val,binv,fillL,setR,↓reduceIte,Nat.reduceEqDiff,Nat.reduceAdd,Nat.reduceMul,Nat.reduceLeDiff,Nat.reduceLT,Nat.reduceSub,reduceCtorEq,zGq, f3, f4, f8, f10, g2] | ((with_reducible refine rows_intro (fun _ hb => ?_)); try simp only [set_none, ne_eq] at hb) | ((with_reducible refine new_intro (fun _ hb => ?_)); try simp only [set_none, ne_eq] at hb) | (with_reducible refine draw_same ?_) | ((with_reducible refine gd_split ?_ (fun _ => ?_) (fun _ => ?_)); exact rfl) | ((with_reducible refine td_split ?_ (fun _ => ?_) (fun _ => ?_)); exact rfl) | (with_reducible refine c_split (fun _ => ?_) (fun _ => ?_)))
        refine hN _ _ _ (.refl _) ⟨?_, (by first | rfl | (simp only [put_at, ↓reduceIte, Nat.reduceEqDiff]; first | done | rfl | assumption) | simp [put_at, *]), (by first | rfl | (simp only [put_at, ↓reduceIte, Nat.reduceEqDiff]; first | done | rfl | assumption) | simp [put_at, *]), (by first | rfl | (simp only [put_at, ↓reduceIte, Nat.reduceEqDiff]; first | done | rfl | assumption) | simp [put_at, *]), (by first | rfl | (simp only [put_at, ↓reduceIte, Nat.reduceEqDiff]; first | done | rfl | assumption) | simp [put_at, *])⟩
        rw [hs, if_pos rfl, List.length_append, qcells_snoc]
        simpa [put_at] using r6
    · rintro fr C5 ⟨rr, f3, f4, f8, f10⟩ N
      have l5 := rr.hle
      have hll := leftQ_le qs qs.length
      have g0 : decide ((qs.length : Int) < (qs.length : Int)) = false := by simp
      have fs := f1''.le l5
      obtain ⟨A9, c9, e9, f9⟩ := rr.fl
      have s6 := squeeze_kinds hv (c := 6) (by decide)
      have s7 := squeeze_kinds hv (c := 7) (by decide)
      have s9 := squeeze_kinds hv (c := 9) (by decide)
      have s10 := squeeze_kinds hv (c := 10) (by decide)
      repeat' (first | simp -implicitDefEqProofs only [zG1,zG2,zG3,zG4,zG5,zG6,zG7,eq_self,resV,rval,X.val,binv,fillL,setR,↓reduceIte,Nat.reduceEqDiff,Nat.reduceAdd,Nat.reduceMul,Nat.reduceLeDiff,Nat.reduceLT,Nat.reduceSub,reduceCtorEq,zGq, f3, f4, f8, f10, e9, g0, s6, s7, s9, s10, beq_self_eq_true] | ((with_reducible refine rows_intro (fun _ hb => ?_)); try simp only [set_none, ne_eq] at hb) | ((with_reducible refine new_intro (fun _ hb => ?_)); try simp only [set_none, ne_eq] at hb) | (with_reducible refine draw_same ?_) | ((with_reducible refine gd_split ?_ (fun _ => ?_) (fun _ => ?_)); exact rfl) | ((with_reducible refine td_split ?_ (fun _ => ?_) (fun _ => ?_)); exact rfl) | (with_reducible refine c_split (fun _ => ?_) (fun _ => ?_)) | (with_reducible refine countQuads_ok _ _ _ A2 c2 _ _ fs (by omega) ?_) | (with_reducible refine countQuads_ok _ _ _ A9 c9 _ _ f9 (by omega) ?_))
      exact ret_same (h _)
namespace fnSqueezeKinds
theorem lifted (os : Os) (started : os.Started) (H : Type) (enc : TypeId × Value → H) :
    ReturnsInHanded {} Tryz.checked os 8 .any (Rows.fnSqueezeKindsSpec.pre6 enc Tryz.prog Tryz.f8 Rows.fnSqueezeKindsRow.domain false) (Rows.fnSqueezeKindsSpec.post enc Tryz.prog Tryz.f8 false true false false) := by
  refine returnsInHanded_of_change_sized (C := Tryz.checked) own started (by kernel_rfl) Tryz.func8
    (ChangeSpec.witness6 (enc := enc) (C := Tryz.checked) false ⟨#[], #[.slice none 0 0], []⟩ 8 (by kernel_rfl) (by kernel_rfl) (by kernel_rfl) (by kernel_rfl)) ?_
  intro W base args ds gs before hval0 hW hcnd hsz0 _
  have hval : ∀ (j : Nat) t v, Tryz.f8.params[j]? = some t → args[j]? = some v → Value.okWide Tryz.prog W .any base t v := hval0
  have hW' := hW
  obtain ⟨p, q, hA0, hV, rfl, hfz, hnd⟩ := hW
  have hA : DataW.TrodAll enc Tryz.prog W 0 (fun _ => true) true Tryz.f8.params.toList args.toList ds p := hA0
  rw [Tryz.params8] at hA hval
  obtain ⟨v0, vs0, d0, ds0, p0, q0, hargs, rfl, rfl, h0, r0⟩ := trodAll_cons hA
  obtain ⟨rfl, rfl, rfl⟩ := trodAll_nil r0
  obtain rfl : args = #[v0] := by cases args; simp_all
  obtain ⟨rfl, rfl⟩ := trodVars_none hV
  have k0 := h0
  have lt0 : ∀ x ∈ p0, x.block < W.heap.size := by obtain ⟨m, hm⟩ := k0; exact DataW.trod_lt m _ _ _ hm
  obtain ⟨a0, len0, cap0, rfl⟩ := okWide_slice Tryz.underlying22 (hval 0 22 v0 rfl rfl)
  obtain ⟨z0, hl0, hb0, f0⟩ := open_bytes Tryz.underlying22 Tryz.underlying5 (by kernel_rfl) h0
  subst hl0
  refine (calls_true (lawSqueezeKinds_ok W (heapOf W) _ a0 z0.length cap0 z0 f0 hb0.2.2 rfl hb0.1 (fun _ => rfl)) (sat_heap W)).mono fun e W' ⟨he, bel⟩ => ?_
  subst he
  exact ⟨_, rfl, _, _, _, [], _, [], hW', trodAll_mk1 (shut_bool Tryz.underlying4 _), (trodAll_cons_mk (Below.trod laidOut (by kernel_rfl) (of_decide_eq_true (by kernel_rfl)) k0 bel lt0) trodAll_mk0), rfl, bel.frame _, fun h => by cases h⟩
theorem over : Rows.fnSqueezeKindsRow.holds Tryz.pinned (OpenSpec.ofChange Rows.fnSqueezeKindsSpec) :=
  OpenClaim.holds_of_wide 8 Tryz.f8 rfl rfl rfl rfl rfl rfl rfl ⟨rfl, rfl, rfl, rfl, rfl⟩ rfl rfl rfl rfl rfl (by kernel_rfl) Tryz.func8 (by kernel_rfl)
    (of_decide_eq_true (by kernel_rfl)) (by unfold Func.isWrapper; first | (rw [if_pos (by decide +kernel)]; kernel_rfl) | (rw [if_neg (by decide +kernel)]; exact ⟨rfl, rfl⟩))
    (fun os started H enc _ => lifted os started H enc)
end fnSqueezeKinds
theorem fnSqueezeKinds_holds : Rows.FnSqueezeKindsSaid := fnSqueezeKinds.over
#print axioms fnSqueezeKinds_holds
end Go.Proofs.YtodhkodhndbpmaaGreat
