/- The statement FnSqueeze holds for all arguments; part 7 of the texts that show it. No further condition. -/
import Derived.Test.YtodhkodhndbpmaaGreatFnSqueezeP6
namespace Go.Proofs.YtodhkodhndbpmaaGreat
set_option linter.all false
open Go Go.RowKit Go.Joins Go.ChangeShapes Go.WideShapes Go.ChangeAt Go.Deep
set_option linter.unusedVariables false
set_option maxRecDepth 100000
open Classical in
theorem lawSqueeze_ok (w0 : World) (H : AHeap) (K : Value → AHeap → Prop) (A : Option Addr) (n c : Nat) (zs : List Int) (hF : Fl H A (u8s zs)) (hr : ∀ z ∈ zs, 0 ≤ z ∧ z < 256) (hl : zs.length = n) (hc : n ≤ c) (h : ∀ H', K (.bool true) H') :
    ACalls Tryz.prog w0 6 [.slice A n c] H K := by
  refine acalls_of_sx mix Tryz.func6 of6 (by simp [ir6]) ?_; rw [ir6]; (try delta qT qI qC qO qM qG)
  repeat' (first | simp -implicitDefEqProofs only [zG1,zG2,zG3,zG4,zG5,zG6,zG7,eq_self,resV,rval,X.val,binv,fillL,setR,↓reduceIte,Nat.reduceEqDiff,Nat.reduceAdd,Nat.reduceMul,Nat.reduceLeDiff,Nat.reduceLT,Nat.reduceSub,reduceCtorEq,zGq] | ((with_reducible refine rows_intro (fun _ hb => ?_)); try simp only [set_none, ne_eq] at hb) | ((with_reducible refine new_intro (fun _ hb => ?_)); try simp only [set_none, ne_eq] at hb) | (with_reducible refine draw_same ?_) | ((with_reducible refine gd_split ?_ (fun _ => ?_) (fun _ => ?_)); exact rfl) | ((with_reducible refine td_split ?_ (fun _ => ?_) (fun _ => ?_)); exact rfl) | (with_reducible refine c_split (fun _ => ?_) (fun _ => ?_)))
  · exact ret_same (h _)
  refine drawSqueezeCode_ok _ _ _ A n c zs hF hr hl hc (fun qs v C r hm => ?_)
  obtain ⟨A1, c1, rfl, f⟩ := r.fl
  repeat' (first | simp -implicitDefEqProofs only [zG1,zG2,zG3,zG4,zG5,zG6,zG7,eq_self,resV,rval,X.val,binv,fillL,setR,↓reduceIte,Nat.reduceEqDiff,Nat.reduceAdd,Nat.reduceMul,Nat.reduceLeDiff,Nat.reduceLT,Nat.reduceSub,reduceCtorEq,zGq] | ((with_reducible refine rows_intro (fun _ hb => ?_)); try simp only [set_none, ne_eq] at hb) | ((with_reducible refine new_intro (fun _ hb => ?_)); try simp only [set_none, ne_eq] at hb) | (with_reducible refine draw_same ?_) | ((with_reducible refine gd_split ?_ (fun _ => ?_) (fun _ => ?_)); exact rfl) | ((with_reducible refine td_split ?_ (fun _ => ?_) (fun _ => ?_)); exact rfl) | (with_reducible refine c_split (fun _ => ?_) (fun _ => ?_)))
  refine squeezeCode_ok _ _ _ A1 c1 qs f (fun v1 C1 b1 l1 n1 r1 => ?_)
  obtain ⟨A2, c2, rfl, f1⟩ := r1.fl
  have f' := f.le l1
  repeat' (first | simp -implicitDefEqProofs only [zG1,zG2,zG3,zG4,zG5,zG6,zG7,eq_self,resV,rval,X.val,binv,fillL,setR,↓reduceIte,Nat.reduceEqDiff,Nat.reduceAdd,Nat.reduceMul,Nat.reduceLeDiff,Nat.reduceLT,Nat.reduceSub,reduceCtorEq,zGq] | ((with_reducible refine rows_intro (fun _ hb => ?_)); try simp only [set_none, ne_eq] at hb) | ((with_reducible refine new_intro (fun _ hb => ?_)); try simp only [set_none, ne_eq] at hb) | (with_reducible refine draw_same ?_) | ((with_reducible refine gd_split ?_ (fun _ => ?_) (fun _ => ?_)); exact rfl) | ((with_reducible refine td_split ?_ (fun _ => ?_) (fun _ => ?_)); exact rfl) | (with_reducible refine c_split (fun _ => ?_) (fun _ => ?_)))
  refine squeezeCodeS_ok _ _ _ A1 c1 qs f' (fun v2 C2 b2 l2 n2 r2 => ?_)
  obtain ⟨A3, c3, rfl, f2⟩ := r2.fl
  have f'' := f'.le l2
  have f1' := f1.le l2
  have hle : (squeeze qs).length ≤ 4611686018427387904 := by cases hv : codeValid qs with
    | false => simp [squeeze, hv]
    | true => have := squeeze_le' hv; omega
  cases hv : codeValid qs with
  | false =>
    have e : squeeze qs = [] := by simp [squeeze, hv]
    rw [e] at f1' f2
    repeat' (first | simp -implicitDefEqProofs only [zG1,zG2,zG3,zG4,zG5,zG6,zG7,eq_self,resV,rval,X.val,binv,fillL,setR,↓reduceIte,Nat.reduceEqDiff,Nat.reduceAdd,Nat.reduceMul,Nat.reduceLeDiff,Nat.reduceLT,Nat.reduceSub,reduceCtorEq,zGq, e, bne_self_eq_false, beq_self_eq_true, decide_true, List.length_nil] | ((with_reducible refine rows_intro (fun _ hb => ?_)); try simp only [set_none, ne_eq] at hb) | ((with_reducible refine new_intro (fun _ hb => ?_)); try simp only [set_none, ne_eq] at hb) | (with_reducible refine draw_same ?_) | ((with_reducible refine gd_split ?_ (fun _ => ?_) (fun _ => ?_)); exact rfl) | ((with_reducible refine td_split ?_ (fun _ => ?_) (fun _ => ?_)); exact rfl) | (with_reducible refine c_split (fun _ => ?_) (fun _ => ?_)) | (refine sameCode_ok _ _ _ A2 A3 c2 c3 [] [] f1' f2 (by simp) ?_))
    exact ret_same (h _)
  | true =>
    have hsl := squeeze_le' hv
    have hv2 := squeeze_valid hv
    have hcc := code_at hv
    repeat' (first | simp -implicitDefEqProofs only [zG1,zG2,zG3,zG4,zG5,zG6,zG7,eq_self,resV,rval,X.val,binv,fillL,setR,↓reduceIte,Nat.reduceEqDiff,Nat.reduceAdd,Nat.reduceMul,Nat.reduceLeDiff,Nat.reduceLT,Nat.reduceSub,reduceCtorEq,zGq, bne_self_eq_false, beq_self_eq_true, decide_true] | ((with_reducible refine rows_intro (fun _ hb => ?_)); try simp only [set_none, ne_eq] at hb) | ((with_reducible refine new_intro (fun _ hb => ?_)); try simp only [set_none, ne_eq] at hb) | (with_reducible refine draw_same ?_) | ((with_reducible refine gd_split ?_ (fun _ => ?_) (fun _ => ?_)); exact rfl) | ((with_reducible refine td_split ?_ (fun _ => ?_) (fun _ => ?_)); exact rfl) | (with_reducible refine c_split (fun _ => ?_) (fun _ => ?_)) | (with_reducible refine sameCode_ok _ _ _ A2 A3 c2 c3 _ _ f1' f2 (by omega) ?_))
    refine codeReach_ok _ _ _ A2 c2 _ f1' (fun v3 C3 b3 l3 n3 r3 => ?_)
    rw [show codeReach (squeeze qs) = reachL (squeeze qs) by simp [codeReach, hv2]] at r3
    obtain ⟨A4, c4, rfl, g1⟩ := r3.fl
    have f1'' := f1'.le l3
    have hl1 := reachL_len (squeeze qs)
    have m1 : ∀ i (hi : i < (squeeze qs).length), (reachL (squeeze qs))[i]'(by omega) = true := fun i hi => by
      have := squeeze_reach hv hi
      simpa [reachL] using this
    repeat' (first | simp -implicitDefEqProofs only [zG1,zG2,zG3,zG4,zG5,zG6,zG7,eq_self,resV,rval,X.val,binv,fillL,setR,↓reduceIte,Nat.reduceEqDiff,Nat.reduceAdd,Nat.reduceMul,Nat.reduceLeDiff,Nat.reduceLT,Nat.reduceSub,reduceCtorEq,zGq] | ((with_reducible refine rows_intro (fun _ hb => ?_)); try simp only [set_none, ne_eq] at hb) | ((with_reducible refine new_intro (fun _ hb => ?_)); try simp only [set_none, ne_eq] at hb) | (with_reducible refine draw_same ?_) | ((with_reducible refine gd_split ?_ (fun _ => ?_) (fun _ => ?_)); exact rfl) | ((with_reducible refine td_split ?_ (fun _ => ?_) (fun _ => ?_)); exact rfl) | (with_reducible refine c_split (fun _ => ?_) (fun _ => ?_)))
    refine for_rule (squeeze qs).length (fun k fr C' => C' = C3 ∧ fr 3 = .slice A1 qs.length c1 ∧ fr 4 = .slice A2 (squeeze qs).length c2 ∧ fr 8 = .slice A4 (reachL (squeeze qs)).length c4 ∧ fr 9 = .int .i64 k) ⟨rfl, (by first | rfl | (simp only [put_at, ↓reduceIte, Nat.reduceEqDiff]; first | done | rfl | assumption) | simp [put_at, *]), (by first | rfl | (simp only [put_at, ↓reduceIte, Nat.reduceEqDiff]; first | done | rfl | assumption) | simp [put_at, *]), (by first | rfl | (simp only [put_at, ↓reduceIte, Nat.reduceEqDiff]; first | done | rfl | assumption) | simp [put_at, *]), (by first | rfl | (simp only [put_at, ↓reduceIte, Nat.reduceEqDiff]; first | done | rfl | assumption) | simp [put_at, *])⟩ ?_ ?_
    · rintro k fr _ hk ⟨rfl, f3, f4, f5, f6⟩ N hN
      have g3 := lt_dec hk
      have g4 := up1 hk (by omega)
      have ga := rng (k := k) (n := (reachL (squeeze qs)).length) (by omega)
      have q1 := g1.bool (i := k) (by omega)
      have q0 := g1.bools_is (i := k) (by omega)
      rw [m1 k hk] at q1
      repeat' (first | simp -implicitDefEqProofs only [zG1,zG2,zG3,zG4,zG5,zG6,zG7,eq_self,resV,rval,X.val,binv,fillL,setR,↓reduceIte,Nat.reduceEqDiff,Nat.reduceAdd,Nat.reduceMul,Nat.reduceLeDiff,Nat.reduceLT,Nat.reduceSub,reduceCtorEq,zGq, f3, f4, f5, f6, g3, g4, ga, q0, q1, Nat.mul_one] | ((with_reducible refine rows_intro (fun _ hb => ?_)); try simp only [set_none, ne_eq] at hb) | ((with_reducible refine new_intro (fun _ hb => ?_)); try simp only [set_none, ne_eq] at hb) | (with_reducible refine draw_same ?_) | ((with_reducible refine gd_split ?_ (fun _ => ?_) (fun _ => ?_)); exact rfl) | ((with_reducible refine td_split ?_ (fun _ => ?_) (fun _ => ?_)); exact rfl) | (with_reducible refine c_split (fun _ => ?_) (fun _ => ?_)))
      exact hN _ _ _ (.refl _) ⟨rfl, (by first | rfl | (simp only [put_at, ↓reduceIte, Nat.reduceEqDiff]; first | done | rfl | assumption) | simp [put_at, *]), (by first | rfl | (simp only [put_at, ↓reduceIte, Nat.reduceEqDiff]; first | done | rfl | assumption) | simp [put_at, *]), (by first | rfl | (simp only [put_at, ↓reduceIte, Nat.reduceEqDiff]; first | done | rfl | assumption) | simp [put_at, *]), (by first | rfl | (simp only [put_at, ↓reduceIte, Nat.reduceEqDiff]; first | done | rfl | assumption) | simp [put_at, *])⟩
    · rintro fr _ ⟨rfl, f3, f4, f5, f6⟩ N
      have g3 : decide (((squeeze qs).length : Int) < ((squeeze qs).length : Int)) = false := by simp
      have g4 : decide (((squeeze qs).length : Int) ≤ qs.length) = true := by simp; omega
      have g5 : (((reachL (squeeze qs)).length : Int) == ((squeeze qs).length : Int)) = true := by rw [hl1]; simp
      repeat' (first | simp -implicitDefEqProofs only [zG1,zG2,zG3,zG4,zG5,zG6,zG7,eq_self,resV,rval,X.val,binv,fillL,setR,↓reduceIte,Nat.reduceEqDiff,Nat.reduceAdd,Nat.reduceMul,Nat.reduceLeDiff,Nat.reduceLT,Nat.reduceSub,reduceCtorEq,zGq, f3, f4, f5, f6, g3, g4, g5, hv2] | ((with_reducible refine rows_intro (fun _ hb => ?_)); try simp only [set_none, ne_eq] at hb) | ((with_reducible refine new_intro (fun _ hb => ?_)); try simp only [set_none, ne_eq] at hb) | (with_reducible refine draw_same ?_) | ((with_reducible refine gd_split ?_ (fun _ => ?_) (fun _ => ?_)); exact rfl) | ((with_reducible refine td_split ?_ (fun _ => ?_) (fun _ => ?_)); exact rfl) | (with_reducible refine c_split (fun _ => ?_) (fun _ => ?_)) | (with_reducible refine codeValid_ok _ _ _ A2 c2 _ f1'' ?_))
      exact ret_same (h _)
namespace fnSqueeze
theorem lifted (os : Os) (started : os.Started) (H : Type) (enc : TypeId × Value → H) :
    ReturnsInHanded {} Tryz.checked os 6 .any (Rows.fnSqueezeSpec.pre6 enc Tryz.prog Tryz.f6 Rows.fnSqueezeRow.domain false) (Rows.fnSqueezeSpec.post enc Tryz.prog Tryz.f6 false true false false) := by
  refine returnsInHanded_of_change_sized (C := Tryz.checked) own started (by kernel_rfl) Tryz.func6
    (ChangeSpec.witness6 (enc := enc) (C := Tryz.checked) false ⟨#[], #[.slice none 0 0], []⟩ 8 (by kernel_rfl) (by kernel_rfl) (by kernel_rfl) (by kernel_rfl)) ?_
  intro W base args ds gs before hval0 hW hcnd hsz0 _
  have hval : ∀ (j : Nat) t v, Tryz.f6.params[j]? = some t → args[j]? = some v → Value.okWide Tryz.prog W .any base t v := hval0
  have hW' := hW
  obtain ⟨p, q, hA0, hV, rfl, hfz, hnd⟩ := hW
  have hA : DataW.TrodAll enc Tryz.prog W 0 (fun _ => true) true Tryz.f6.params.toList args.toList ds p := hA0
  rw [Tryz.params6] at hA hval
  obtain ⟨v0, vs0, d0, ds0, p0, q0, hargs, rfl, rfl, h0, r0⟩ := trodAll_cons hA
  obtain ⟨rfl, rfl, rfl⟩ := trodAll_nil r0
  obtain rfl : args = #[v0] := by cases args; simp_all
  obtain ⟨rfl, rfl⟩ := trodVars_none hV
  have k0 := h0
  have lt0 : ∀ x ∈ p0, x.block < W.heap.size := by obtain ⟨m, hm⟩ := k0; exact DataW.trod_lt m _ _ _ hm
  obtain ⟨a0, len0, cap0, rfl⟩ := okWide_slice Tryz.underlying22 (hval 0 22 v0 rfl rfl)
  obtain ⟨z0, hl0, hb0, f0⟩ := open_bytes Tryz.underlying22 Tryz.underlying5 (by kernel_rfl) h0
  subst hl0
  refine (calls_true (lawSqueeze_ok W (heapOf W) _ a0 z0.length cap0 z0 f0 hb0.2.2 rfl hb0.1 (fun _ => rfl)) (sat_heap W)).mono fun e W' ⟨he, bel⟩ => ?_
  subst he
  exact ⟨_, rfl, _, _, _, [], _, [], hW', trodAll_mk1 (shut_bool Tryz.underlying4 _), (trodAll_cons_mk (Below.trod laidOut (by kernel_rfl) (of_decide_eq_true (by kernel_rfl)) k0 bel lt0) trodAll_mk0), rfl, bel.frame _, fun h => by cases h⟩
theorem over : Rows.fnSqueezeRow.holds Tryz.pinned (OpenSpec.ofChange Rows.fnSqueezeSpec) :=
  OpenClaim.holds_of_wide 6 Tryz.f6 rfl rfl rfl rfl rfl rfl rfl ⟨rfl, rfl, rfl, rfl, rfl⟩ rfl rfl rfl rfl rfl (by kernel_rfl) Tryz.func6 (by kernel_rfl)
    (of_decide_eq_true (by kernel_rfl)) (by unfold Func.isWrapper; first | (rw [if_pos (by decide +kernel)]; kernel_rfl) | (rw [if_neg (by decide +kernel)]; exact ⟨rfl, rfl⟩))
    (fun os started H enc _ => lifted os started H enc)
end fnSqueeze
theorem fnSqueeze_holds : Rows.FnSqueezeSaid := fnSqueeze.over
#print axioms fnSqueeze_holds
end Go.Proofs.YtodhkodhndbpmaaGreat
