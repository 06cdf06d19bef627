/- The statement FnCompileLast holds for all arguments; part 4 of the texts that show it. No further condition. -/
import Derived.Test.YtjhedgoafkabiaaFnCompileLastP3
namespace Go.Proofs.Ytjhedgoafkabiaa
set_option linter.all false
open Go Go.RowKit Go.Joins Go.ChangeShapes Go.WideShapes Go.ChangeAt Go.Deep
set_option linter.unusedVariables false
set_option maxRecDepth 100000
theorem lawCompileLast_ok (w0 : World) (H : AHeap) (K : Value → AHeap → Prop) (A : Option Addr) (n c : Nat) (zs : List Int) (hF : Fl H A (u8s zs)) (hr : ∀ z ∈ zs, 0 ≤ z ∧ z < 256) (hl : zs.length = n) (hc : n ≤ c) (m d0 : Nat) (M : Option Addr) (h : ∀ H', K (.bool true) H') :
    ACalls Try.prog w0 6 [.slice A n c, .slice M m d0] H K := by
  refine acalls_of_sx mix Try.func6 of6 (by simp [ir6]) ?_; rw [ir6]; (try delta qT qI qC qO qM qG)
  repeat' (first | simp -implicitDefEqProofs only [zG1,zG2,zG3,zG4,zG5,zG6,zG7,eq_self,resV,rval,X.val,binv,fillL,setR,↓reduceIte,Nat.reduceEqDiff,Nat.reduceAdd,Nat.reduceMul,Nat.reduceLeDiff,Nat.reduceLT,Nat.reduceSub,reduceCtorEq,zGq] | ((with_reducible refine rows_intro (fun _ hb => ?_)); try simp only [set_none, ne_eq] at hb) | ((with_reducible refine new_intro (fun _ hb => ?_)); try simp only [set_none, ne_eq] at hb) | (with_reducible refine draw_same ?_) | ((with_reducible refine gd_split ?_ (fun _ => ?_) (fun _ => ?_)); exact rfl) | ((with_reducible refine td_split ?_ (fun _ => ?_) (fun _ => ?_)); exact rfl) | (with_reducible refine c_split (fun _ => ?_) (fun _ => ?_)))
  · exact ret_same (h _)
  · exact ret_same (h _)
  have hm0 : m ≤ 1048576 := by (try simp only [beq_iff_eq, beq_eq_false_iff_ne, bne_iff_ne, bne_eq_false_iff_eq, decide_eq_true_eq, decide_eq_false_iff_not, ne_eq, Bool.not_eq_true, Bool.not_eq_false, Bool.not_eq_eq_eq_not, Bool.not_true, Bool.not_false, Int.not_lt, Int.not_le, ge_iff_le, gt_iff_lt] at *); omega
  refine drawCompileTask_ok _ _ _ A n c zs hF hr hl hc (fun ss A1 c1 C hR hcn hlc => ?_)
  obtain ⟨hln, hcap⟩ := hlc
  repeat' (first | simp -implicitDefEqProofs only [zG1,zG2,zG3,zG4,zG5,zG6,zG7,eq_self,resV,rval,X.val,binv,fillL,setR,↓reduceIte,Nat.reduceEqDiff,Nat.reduceAdd,Nat.reduceMul,Nat.reduceLeDiff,Nat.reduceLT,Nat.reduceSub,reduceCtorEq,zGq] | ((with_reducible refine rows_intro (fun _ hb => ?_)); try simp only [set_none, ne_eq] at hb) | ((with_reducible refine new_intro (fun _ hb => ?_)); try simp only [set_none, ne_eq] at hb) | (with_reducible refine draw_same ?_) | ((with_reducible refine gd_split ?_ (fun _ => ?_) (fun _ => ?_)); exact rfl) | ((with_reducible refine td_split ?_ (fun _ => ?_) (fun _ => ?_)); exact rfl) | (with_reducible refine c_split (fun _ => ?_) (fun _ => ?_)))
  refine compileTask_ok _ ss A1 c1 C _ (by omega) hR (fun v1 C1 r1 => ?_)
  have l1 := r1.hle
  obtain ⟨A2, c2, rfl, f1⟩ := r1.fl
  repeat' (first | simp -implicitDefEqProofs only [zG1,zG2,zG3,zG4,zG5,zG6,zG7,eq_self,resV,rval,X.val,binv,fillL,setR,↓reduceIte,Nat.reduceEqDiff,Nat.reduceAdd,Nat.reduceMul,Nat.reduceLeDiff,Nat.reduceLT,Nat.reduceSub,reduceCtorEq,zGq] | ((with_reducible refine rows_intro (fun _ hb => ?_)); try simp only [set_none, ne_eq] at hb) | ((with_reducible refine new_intro (fun _ hb => ?_)); try simp only [set_none, ne_eq] at hb) | (with_reducible refine draw_same ?_) | ((with_reducible refine gd_split ?_ (fun _ => ?_) (fun _ => ?_)); exact rfl) | ((with_reducible refine td_split ?_ (fun _ => ?_) (fun _ => ?_)); exact rfl) | (with_reducible refine c_split (fun _ => ?_) (fun _ => ?_)))
  refine compileTaskS_ok _ ss A1 c1 C1 _ (by omega) (hR.le l1) (fun v2 C2 r2 => ?_)
  have l2 := r2.hle
  obtain ⟨A3, c3, rfl, f2⟩ := r2.fl
  have f1' := f1.le l2
  have hR2 := hR.le (l1.trans l2)
  have hle := compileTask_le ss
  cases ho : stsOk ss with
  | false =>
    have e : compileTask ss = [] := by simp [compileTask, ho]
    rw [e] at f1' f2
    repeat' (first | simp -implicitDefEqProofs only [zG1,zG2,zG3,zG4,zG5,zG6,zG7,eq_self,resV,rval,X.val,binv,fillL,setR,↓reduceIte,Nat.reduceEqDiff,Nat.reduceAdd,Nat.reduceMul,Nat.reduceLeDiff,Nat.reduceLT,Nat.reduceSub,reduceCtorEq,zGq, e, bne_self_eq_false, beq_self_eq_true, decide_true, List.length_nil] | ((with_reducible refine rows_intro (fun _ hb => ?_)); try simp only [set_none, ne_eq] at hb) | ((with_reducible refine new_intro (fun _ hb => ?_)); try simp only [set_none, ne_eq] at hb) | (with_reducible refine draw_same ?_) | ((with_reducible refine gd_split ?_ (fun _ => ?_) (fun _ => ?_)); exact rfl) | ((with_reducible refine td_split ?_ (fun _ => ?_) (fun _ => ?_)); exact rfl) | (with_reducible refine c_split (fun _ => ?_) (fun _ => ?_)) | (refine sameCode_ok _ _ _ A2 A3 c2 c3 [] [] f1' f2 (by simp) ?_))
    exact ret_same (h _)
  | true =>
    have e : compileTask ss = compTask ss := by simp [compileTask, ho]
    rw [e] at f1' f2 hle
    have hv := compTask_valid ho
    have hlen := compTask_len ss
    repeat' (first | simp -implicitDefEqProofs only [zG1,zG2,zG3,zG4,zG5,zG6,zG7,eq_self,resV,rval,X.val,binv,fillL,setR,↓reduceIte,Nat.reduceEqDiff,Nat.reduceAdd,Nat.reduceMul,Nat.reduceLeDiff,Nat.reduceLT,Nat.reduceSub,reduceCtorEq,zGq, e, bne_self_eq_false, beq_self_eq_true, decide_true] | ((with_reducible refine rows_intro (fun _ hb => ?_)); try simp only [set_none, ne_eq] at hb) | ((with_reducible refine new_intro (fun _ hb => ?_)); try simp only [set_none, ne_eq] at hb) | (with_reducible refine draw_same ?_) | ((with_reducible refine gd_split ?_ (fun _ => ?_) (fun _ => ?_)); exact rfl) | ((with_reducible refine td_split ?_ (fun _ => ?_) (fun _ => ?_)); exact rfl) | (with_reducible refine c_split (fun _ => ?_) (fun _ => ?_)) | (with_reducible refine sameCode_ok _ _ _ A2 A3 c2 c3 _ _ f1' f2 (by omega) ?_))
    have hk : m % (ss.length + 1) ≤ ss.length := by have := Nat.mod_lt m (show 0 < ss.length + 1 by omega); omega
    have ek : (m : Int).tmod ((ss.length + 1 : Nat) : Int) = ((m % (ss.length + 1) : Nat) : Int) := rfl
    generalize m % (ss.length + 1) = k at hk ek
    have wl : IntKind.i64.wrap ((ss.length : Int) + 1) = ((ss.length + 1 : Nat) : Int) := nat_up (by omega)
    have gz : ¬ ((ss.length + 1 : Nat) : Int) = 0 := by omega
    have gw : IntKind.i64.wrap (k : Int) = (k : Int) := wrap_i64 (by omega) (by omega)
    have g3 : bnds ss.length c1 (some (.int .i64 (k : Int))) none none = some (k, ss.length, c1) := by
      have h1 : (k : Int) ≤ ss.length := by omega
      simp [bnds, bndv, h1]
    repeat' (first | simp -implicitDefEqProofs only [zG1,zG2,zG3,zG4,zG5,zG6,zG7,eq_self,resV,rval,X.val,binv,fillL,setR,↓reduceIte,Nat.reduceEqDiff,Nat.reduceAdd,Nat.reduceMul,Nat.reduceLeDiff,Nat.reduceLT,Nat.reduceSub,reduceCtorEq,zGq, wl, ek, gz, gw, g3, Option.map_none, Nat.zero_mul, ite_self, Nat.sub_zero, adr_zero] | ((with_reducible refine rows_intro (fun _ hb => ?_)); try simp only [set_none, ne_eq] at hb) | ((with_reducible refine new_intro (fun _ hb => ?_)); try simp only [set_none, ne_eq] at hb) | (with_reducible refine draw_same ?_) | ((with_reducible refine gd_split ?_ (fun _ => ?_) (fun _ => ?_)); exact rfl) | ((with_reducible refine td_split ?_ (fun _ => ?_) (fun _ => ?_)); exact rfl) | (with_reducible refine c_split (fun _ => ?_) (fun _ => ?_)))
    have hR8 : StR C2 (ss.drop k) (if c1 = k then A1 else adr A1 (k * 8)) 0 := by
      split
      · rw [List.drop_of_length_le (by omega)]; simp only [StR]
      · refine StR.at0 ?_
        exact hR2.drop k
    generalize (if c1 = k then A1 else adr A1 (k * 8)) = A8 at hR8 ⊢
    have ht : (ss.drop k).length = ss.length - k := by rw [List.length_drop]
    have ho1 := stsOk_drop k ho
    have e1 : compileTask (ss.drop k) = compTask (ss.drop k) := by simp [compileTask, ho1]
    have cst := cntL_drop (ss := ss) k
    have run : ∀ D : Value → AHeap → Prop, (∀ v C, Row C2 C 33 5 v (compTask (ss.drop k)).length (qcells (compTask (ss.drop k))) → D (.tuple #[v, .bool true]) C) → ACalls Try.prog w0 17 [.slice A8 (ss.length - k) (c1 - k)] C2 D := fun D hD => by
      have := compileTask_ok w0 (ss.drop k) A8 (c1 - k) C2 D (by omega) hR8 (by rw [e1, ho1]; exact hD)
      rw [ht] at this
      exact this
    refine run _ (fun v5 C5 r5 => ?_)
    obtain ⟨A5, c5, rfl, f5⟩ := r5.fl
    have cap2 := r1.cap_.2
    rw [e] at cap2
    have hl5 := compTask_len (ss.drop k)
    have hsp := szL_split ss k
    have hv5 := code_at (compTask_valid ho1)
    have tl := task_last ho k
    generalize hB : szL (ss.take k) = B at *
    generalize hX : compTask (ss.drop k) = Y at *
    have wb : IntKind.i64.wrap (((compTask ss).length : Int) - (Y.length : Int)) = (B : Int) := by rw [wrap_i64 (by omega) (by omega)]; omega
    have db : decide ((B : Int) < 0) = false := by simp
    repeat' (first | simp -implicitDefEqProofs only [zG1,zG2,zG3,zG4,zG5,zG6,zG7,eq_self,resV,rval,X.val,binv,fillL,setR,↓reduceIte,Nat.reduceEqDiff,Nat.reduceAdd,Nat.reduceMul,Nat.reduceLeDiff,Nat.reduceLT,Nat.reduceSub,reduceCtorEq,zGq, wb, db] | ((with_reducible refine rows_intro (fun _ hb => ?_)); try simp only [set_none, ne_eq] at hb) | ((with_reducible refine new_intro (fun _ hb => ?_)); try simp only [set_none, ne_eq] at hb) | (with_reducible refine draw_same ?_) | ((with_reducible refine gd_split ?_ (fun _ => ?_) (fun _ => ?_)); exact rfl) | ((with_reducible refine td_split ?_ (fun _ => ?_) (fun _ => ?_)); exact rfl) | (with_reducible refine c_split (fun _ => ?_) (fun _ => ?_)))
    refine for_rule Y.length (fun i fr C' => Row C2 C' 33 5 (.slice A5 Y.length c5) Y.length (qcells (part B Y i)) ∧ fr 6 = .slice A2 (compTask ss).length c2 ∧ fr 11 = .slice A5 Y.length c5 ∧ fr 13 = .int .i64 B ∧ fr 14 = .int .i64 i) ⟨by rw [part_zero]; exact r5, (by first | rfl | (simp only [put_at, ↓reduceIte, Nat.reduceEqDiff]; first | done | rfl | assumption) | simp [put_at, *]), (by first | rfl | (simp only [put_at, ↓reduceIte, Nat.reduceEqDiff]; first | done | rfl | assumption) | simp [put_at, *]), (by first | rfl | (simp only [put_at, ↓reduceIte, Nat.reduceEqDiff]; first | done | rfl | assumption) | simp [put_at, *]), (by first | rfl | (simp only [put_at, ↓reduceIte, Nat.reduceEqDiff]; first | done | rfl | assumption) | simp [put_at, *])⟩ ?_ ?_
    · rintro i fr C6 hi ⟨rr, f6, f11, f13, f14⟩ N hN
      have hpl := part_len B Y i
      have hpi : i < (part B Y i).length := by omega
      have pe := part_at B hi hpi
      have ps := part_step B hi
      have fx := rr.fl'.1
      have p0 := fx.quad hpi
      rw [pe] at p0
      have g0 := lt_dec hi
      have g1 := rng hi
      have g2 := up1 hi (by omega)
      have t4 : ((4 : Int) == 4) = true := by decide
      have t5 : ((5 : Int) == 5) = true := by decide
      have t54 : ((5 : Int) == 4) = false := by decide
      by_cases h45 : Y[i].op = 4 ∨ Y[i].op = 5
      · have hn := zero_in (hv5.2.2 i hi) h45
        have wn : IntKind.i64.wrap (Y[i].n + (B : Int)) = Y[i].n + (B : Int) := wrap_i64 (by omega) (by omega)
        have esh : shQ B Y[i] = ⟨Y[i].op, Y[i].dst, Y[i].a, Y[i].b, Y[i].n + B⟩ := by simp only [shQ, if_pos h45]
        rw [esh] at ps
        rcases h45 with h4 | h4
        all_goals
          rw [h4] at p0 ps
          repeat' (first | simp -implicitDefEqProofs only [zG1,zG2,zG3,zG4,zG5,zG6,zG7,eq_self,resV,rval,X.val,binv,fillL,setR,↓reduceIte,Nat.reduceEqDiff,Nat.reduceAdd,Nat.reduceMul,Nat.reduceLeDiff,Nat.reduceLT,Nat.reduceSub,reduceCtorEq,zGq, f6, f11, f13, f14, g0, g1, g2, p0, wn, t4, t5, t54, Nat.add_zero] | ((with_reducible refine rows_intro (fun _ hb => ?_)); try simp only [set_none, ne_eq] at hb) | ((with_reducible refine new_intro (fun _ hb => ?_)); try simp only [set_none, ne_eq] at hb) | (with_reducible refine draw_same ?_) | ((with_reducible refine gd_split ?_ (fun _ => ?_) (fun _ => ?_)); exact rfl) | ((with_reducible refine td_split ?_ (fun _ => ?_) (fun _ => ?_)); exact rfl) | (with_reducible refine c_split (fun _ => ?_) (fun _ => ?_)))
          refine rr.put hpi (by omega) (fun C7 r7 => ?_)
          repeat' (first | simp -implicitDefEqProofs only [zG1,zG2,zG3,zG4,zG5,zG6,zG7,eq_self,resV,rval,X.val,binv,fillL,setR,↓reduceIte,Nat.reduceEqDiff,Nat.reduceAdd,Nat.reduceMul,Nat.reduceLeDiff,Nat.reduceLT,Nat.reduceSub,reduceCtorEq,zGq, f6, f11, f13, f14, g2] | ((with_reducible refine rows_intro (fun _ hb => ?_)); try simp only [set_none, ne_eq] at hb) | ((with_reducible refine new_intro (fun _ hb => ?_)); try simp only [set_none, ne_eq] at hb) | (with_reducible refine draw_same ?_) | ((with_reducible refine gd_split ?_ (fun _ => ?_) (fun _ => ?_)); exact rfl) | ((with_reducible refine td_split ?_ (fun _ => ?_) (fun _ => ?_)); exact rfl) | (with_reducible refine c_split (fun _ => ?_) (fun _ => ?_)))
          refine hN _ _ _ (.refl _) ⟨?_, (by first | rfl | (simp only [put_at, ↓reduceIte, Nat.reduceEqDiff]; first | done | rfl | assumption) | simp [put_at, *]), (by first | rfl | (simp only [put_at, ↓reduceIte, Nat.reduceEqDiff]; first | done | rfl | assumption) | simp [put_at, *]), (by first | rfl | (simp only [put_at, ↓reduceIte, Nat.reduceEqDiff]; first | done | rfl | assumption) | simp [put_at, *]), (by first | rfl | (simp only [put_at, ↓reduceIte, Nat.reduceEqDiff]; first | done | rfl | assumption) | simp [put_at, *])⟩
          rw [ps]
          simpa only [pe, h4] using r7
      · have esh : shQ B Y[i] = Y[i] := by simp only [shQ, if_neg h45]
        have d4 : (Y[i].op == 4) = false := by simpa using fun e => h45 (.inl e)
        have d5 : (Y[i].op == 5) = false := by simpa using fun e => h45 (.inr e)
        rw [esh, ← pe, List.set_getElem_self] at ps
        repeat' (first | simp -implicitDefEqProofs only [zG1,zG2,zG3,zG4,zG5,zG6,zG7,eq_self,resV,rval,X.val,binv,fillL,setR,↓reduceIte,Nat.reduceEqDiff,Nat.reduceAdd,Nat.reduceMul,Nat.reduceLeDiff,Nat.reduceLT,Nat.reduceSub,reduceCtorEq,zGq, f6, f11, f13, f14, g0, g1, g2, p0, d4, d5, Nat.add_zero] | ((with_reducible refine rows_intro (fun _ hb => ?_)); try simp only [set_none, ne_eq] at hb) | ((with_reducible refine new_intro (fun _ hb => ?_)); try simp only [set_none, ne_eq] at hb) | (with_reducible refine draw_same ?_) | ((with_reducible refine gd_split ?_ (fun _ => ?_) (fun _ => ?_)); exact rfl) | ((with_reducible refine td_split ?_ (fun _ => ?_) (fun _ => ?_)); exact rfl) | (with_reducible refine c_split (fun _ => ?_) (fun _ => ?_)))
        refine hN _ _ _ (.refl _) ⟨?_, (by first | rfl | (simp only [put_at, ↓reduceIte, Nat.reduceEqDiff]; first | done | rfl | assumption) | simp [put_at, *]), (by first | rfl | (simp only [put_at, ↓reduceIte, Nat.reduceEqDiff]; first | done | rfl | assumption) | simp [put_at, *]), (by first | rfl | (simp only [put_at, ↓reduceIte, Nat.reduceEqDiff]; first | done | rfl | assumption) | simp [put_at, *]), (by first | rfl | (simp only [put_at, ↓reduceIte, Nat.reduceEqDiff]; first | done | rfl | assumption) | simp [put_at, *])⟩
        rw [ps]; exact rr
    · rintro fr C6 ⟨rr, f6, f11, f13, f14⟩ N
      rw [part_all] at rr
      have g0 : decide ((Y.length : Int) < (Y.length : Int)) = false := by simp
      have g3' : bnds (compTask ss).length c2 (some (.int .i64 (B : Int))) none none = some (B, (compTask ss).length, c2) := by
        have h1 : (B : Int) ≤ (compTask ss).length := by omega
        have h2 : ((compTask ss).length : Int) ≤ c2 := by omega
        simp [bnds, bndv, h1]
      have gc : ¬ c2 = B := by omega
      have f1c := f1'.le rr.hle
      have fx := rr.fl'.1
      rw [tl] at fx
      have fy : Fl C6 (adr A2 (B * 5)) (qcells (compL (ss.drop k) B ++ [haltQ])) := by
        rw [task_split ss k, hB, qcells_two] at f1c
        have := f1c.post
        rw [qcells_len, compL_len, hB] at this
        exact this
      have hL : (compL (ss.drop k) B ++ [haltQ]).length = Y.length := by rw [← tl, List.length_map]
      have hL2 : (compTask ss).length - B = Y.length := by omega
      have same : ∀ (cc : Nat) (D : Value → AHeap → Prop), D (.bool true) C6 → ACalls Try.prog w0 20 [.slice A5 Y.length c5, .slice (adr A2 (B * 5)) Y.length cc] C6 D := fun cc D hD => by
        have := sameCode_ok w0 C6 D A5 (adr A2 (B * 5)) c5 cc _ _ fx fy (by rw [hL]; omega) (by simpa using hD)
        rw [hL] at this
        exact this
      repeat' (first | simp -implicitDefEqProofs only [zG1,zG2,zG3,zG4,zG5,zG6,zG7,eq_self,resV,rval,X.val,binv,fillL,setR,↓reduceIte,Nat.reduceEqDiff,Nat.reduceAdd,Nat.reduceMul,Nat.reduceLeDiff,Nat.reduceLT,Nat.reduceSub,reduceCtorEq,zGq, f6, f11, f13, f14, g0, g3', gc, hL2, if_false, Option.map_none, ite_self] | ((with_reducible refine rows_intro (fun _ hb => ?_)); try simp only [set_none, ne_eq] at hb) | ((with_reducible refine new_intro (fun _ hb => ?_)); try simp only [set_none, ne_eq] at hb) | (with_reducible refine draw_same ?_) | ((with_reducible refine gd_split ?_ (fun _ => ?_) (fun _ => ?_)); exact rfl) | ((with_reducible refine td_split ?_ (fun _ => ?_) (fun _ => ?_)); exact rfl) | (with_reducible refine c_split (fun _ => ?_) (fun _ => ?_)) | (with_reducible refine same _ _ ?_))
      exact ret_same (h _)
namespace fnCompileLast
theorem lifted (os : Os) (started : os.Started) (H : Type) (enc : TypeId × Value → H) :
    ReturnsInHanded {} Try.checked os 6 .any (Rows.fnCompileLastSpec.pre6 enc Try.prog Try.f6 Rows.fnCompileLastRow.domain false) (Rows.fnCompileLastSpec.post enc Try.prog Try.f6 false true false false) := by
  refine returnsInHanded_of_change_sized (C := Try.checked) own started (by kernel_rfl) Try.func6
    (ChangeSpec.witness6 (enc := enc) (C := Try.checked) false ⟨#[], #[.slice none 0 0, .slice none 0 0], []⟩ 8 (by kernel_rfl) (by kernel_rfl) (by kernel_rfl) (by kernel_rfl)) ?_
  intro W base args ds gs before hval0 hW hcnd hsz0 _
  have hval : ∀ (j : Nat) t v, Try.f6.params[j]? = some t → args[j]? = some v → Value.okWide Try.prog W .any base t v := hval0
  have hW' := hW
  obtain ⟨p, q, hA0, hV, rfl, hfz, hnd⟩ := hW
  have hA : DataW.TrodAll enc Try.prog W 0 (fun _ => true) true Try.f6.params.toList args.toList ds p := hA0
  rw [Try.params6] at hA hval
  obtain ⟨v0, vs0, d0, ds0, p0, q0, hargs, rfl, rfl, h0, r0⟩ := trodAll_cons hA
  obtain ⟨v1, vs1, d1, ds1, p1, q1, rfl, rfl, rfl, h1, r1⟩ := trodAll_cons r0
  obtain ⟨rfl, rfl, rfl⟩ := trodAll_nil r1
  obtain rfl : args = #[v0, v1] := by cases args; simp_all
  obtain ⟨rfl, rfl⟩ := trodVars_none hV
  have k0 := h0
  have lt0 : ∀ x ∈ p0, x.block < W.heap.size := by obtain ⟨m, hm⟩ := k0; exact DataW.trod_lt m _ _ _ hm
  obtain ⟨a0, len0, cap0, rfl⟩ := okWide_slice Try.underlying22 (hval 0 22 v0 rfl rfl)
  obtain ⟨z0, hl0, hb0, f0⟩ := open_bytes Try.underlying22 Try.underlying5 (by kernel_rfl) h0
  subst hl0
  have k1 := h1
  have lt1 : ∀ x ∈ p1, x.block < W.heap.size := by obtain ⟨m, hm⟩ := k1; exact DataW.trod_lt m _ _ _ hm
  obtain ⟨a1, len1, cap1, rfl⟩ := okWide_slice Try.underlying22 (hval 1 22 v1 rfl rfl)
  obtain ⟨z1, hl1, hb1, f1⟩ := open_bytes Try.underlying22 Try.underlying5 (by kernel_rfl) h1
  subst hl1
  refine (calls_true (lawCompileLast_ok W (heapOf W) _ a0 z0.length cap0 z0 f0 hb0.2.2 rfl hb0.1 z1.length cap1 a1 (fun _ => rfl)) (sat_heap W)).mono fun e W' ⟨he, bel⟩ => ?_
  subst he
  exact ⟨_, rfl, _, _, _, [], _, [], hW', trodAll_mk1 (shut_bool Try.underlying4 _), (trodAll_cons_mk (Below.trod laidOut (by kernel_rfl) (of_decide_eq_true (by kernel_rfl)) k0 bel lt0) (trodAll_cons_mk (Below.trod laidOut (by kernel_rfl) (of_decide_eq_true (by kernel_rfl)) k1 bel lt1) trodAll_mk0)), rfl, bel.frame _, fun h => by cases h⟩
theorem over : Rows.fnCompileLastRow.holds Try.pinned (OpenSpec.ofChange Rows.fnCompileLastSpec) :=
  OpenClaim.holds_of_wide 6 Try.f6 rfl rfl rfl rfl rfl rfl rfl ⟨rfl, rfl, rfl, rfl, rfl⟩ rfl rfl rfl rfl rfl (by kernel_rfl) Try.func6 (by kernel_rfl)
    (of_decide_eq_true (by kernel_rfl)) (by unfold Func.isWrapper; first | (rw [if_pos (by decide +kernel)]; kernel_rfl) | (rw [if_neg (by decide +kernel)]; exact ⟨rfl, rfl⟩))
    (fun os started H enc _ => lifted os started H enc)
end fnCompileLast
theorem fnCompileLast_holds : Rows.FnCompileLastSaid := fnCompileLast.over
#print axioms fnCompileLast_holds
end Go.Proofs.Ytjhedgoafkabiaa
